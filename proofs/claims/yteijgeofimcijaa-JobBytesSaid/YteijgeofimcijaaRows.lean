/-
  No cell of these rows narrows 'for every input' (looked for: loops, veiled, ifaces, maps, wideKeys, modest, calm, conditions, laid).
  DERIVED. THE GIVEN ROWS OF THIS SEAT. 12 by the template 'for every input the law returns true; each argument reads behind the call as it read before'; 0 by the template 'total and deterministic' (their statements: YteijgeofimcijaaTotals.lean).
  GIVEN WITH THE SEED: the statements are not yours to turn. If you find one false, say at which input.
  Laid BY PROGRAM, IN A SANDBOX (cutbox-rows.mjs): the forced cells as the released guide's own fill.sh prints them over the translation f477b87d5084cfb4… (all of the seat's roots in one cut). By AI agents, Wed Nov 11 2026. No macro, syntax, notation, axiom, sorry.
-/
import Derived.Test.YteijgeofimcijaaChecked
import GoSem.Claim
import GoSem.ClaimJoined
import GoSem.ClaimMapViews
import Derived.JoinedTies
import Derived.KernelRfl
namespace Go.Proofs.Yteijgeofimcijaa
/- THE CELL 'sum', in the pinned program and in every row, IS THE sha256 OF THE DUMP (.gsa) THAT YteijgeofimcijaaProg.lean LOADS. Nothing in Lean hashes anything: it is a label: what it is worth is what the hold of that sum in a sandbox is worth. -/
noncomputable def Try.pinned : Pinned := { name := "yteijgeofimcijaa", sum := "f477b87d5084cfb4912c7b0ae8371237aebf0f654e82ea76675d2af980fd559d", checked := Try.checked }
namespace Rows
def none {H : Type} : Left H := { results := [], args := [] }

/-- 'siskinlaw11.ShowTexts': WHATEVER THE INPUT: true; the input reads as it did. -/
def showTextsSpec : ChangeSpec := { name := "showTexts", fn := fun _ => fun
  | [d1, d2, d3] => { results := [.lit (.bool true)], args := [d1, d2, d3] }
  | _ => none }
def showTextsRow : OpenClaim := { program := "yteijgeofimcijaa", sum := "f477b87d5084cfb4912c7b0ae8371237aebf0f654e82ea76675d2af980fd559d", func := "siskin/siskinlaw11.ShowTexts", spec := "showTexts", inPlace := ["internal/abi.NoEscape"], unfollowed := true, recurses := true, apart := false }
def ShowTextsSaid : Prop := showTextsRow.holds Try.pinned (OpenSpec.ofChange showTextsSpec)

/-- ITS FALSE NEIGHBOUR: 'it returns false'. Refute it at one input. -/
def showTextsWrong : ChangeSpec := { name := "showTexts", fn := fun _ => fun
  | [d1, d2, d3] => { results := [.lit (.bool false)], args := [d1, d2, d3] }
  | _ => none }
def ShowTextsWrongFalsely : Prop := showTextsRow.holds Try.pinned (OpenSpec.ofChange showTextsWrong)

/-- 'siskinlaw08.LexBack': WHATEVER THE INPUT: true; the input reads as it did. -/
def lexBackSpec : ChangeSpec := { name := "lexBack", fn := fun _ => fun
  | [d1, d2] => { results := [.lit (.bool true)], args := [d1, d2] }
  | _ => none }
def lexBackRow : OpenClaim := { program := "yteijgeofimcijaa", sum := "f477b87d5084cfb4912c7b0ae8371237aebf0f654e82ea76675d2af980fd559d", func := "siskin/siskinlaw08.LexBack", spec := "lexBack", inPlace := ["internal/bytealg.IndexByteString", "internal/bytealg.IndexString", "internal/abi.NoEscape"], named := ["internal/bytealg.MaxLen"], apart := false }
def LexBackSaid : Prop := lexBackRow.holds Try.pinned (OpenSpec.ofChange lexBackSpec)

/-- ITS FALSE NEIGHBOUR: 'it returns false'. Refute it at one input. -/
def lexBackWrong : ChangeSpec := { name := "lexBack", fn := fun _ => fun
  | [d1, d2] => { results := [.lit (.bool false)], args := [d1, d2] }
  | _ => none }
def LexBackWrongFalsely : Prop := lexBackRow.holds Try.pinned (OpenSpec.ofChange lexBackWrong)

/-- 'siskinlaw10.ReadNeeds': WHATEVER THE INPUT: true; the input reads as it did. -/
def readNeedsSpec : ChangeSpec := { name := "readNeeds", fn := fun _ => fun
  | [d1, d2] => { results := [.lit (.bool true)], args := [d1, d2] }
  | _ => none }
def readNeedsRow : OpenClaim := { program := "yteijgeofimcijaa", sum := "f477b87d5084cfb4912c7b0ae8371237aebf0f654e82ea76675d2af980fd559d", func := "siskin/siskinlaw10.ReadNeeds", spec := "readNeeds", inPlace := ["internal/bytealg.IndexByteString", "internal/bytealg.IndexString"], unfollowed := true, recurses := true, named := ["internal/bytealg.MaxLen"], apart := false }
def ReadNeedsSaid : Prop := readNeedsRow.holds Try.pinned (OpenSpec.ofChange readNeedsSpec)

/-- ITS FALSE NEIGHBOUR: 'it returns false'. Refute it at one input. -/
def readNeedsWrong : ChangeSpec := { name := "readNeeds", fn := fun _ => fun
  | [d1, d2] => { results := [.lit (.bool false)], args := [d1, d2] }
  | _ => none }
def ReadNeedsWrongFalsely : Prop := readNeedsRow.holds Try.pinned (OpenSpec.ofChange readNeedsWrong)

/-- 'siskinlaw10.ReadBlanks': WHATEVER THE INPUT: true; the input reads as it did. -/
def readBlanksSpec : ChangeSpec := { name := "readBlanks", fn := fun _ => fun
  | [d1, d2, d3] => { results := [.lit (.bool true)], args := [d1, d2, d3] }
  | _ => none }
def readBlanksRow : OpenClaim := { program := "yteijgeofimcijaa", sum := "f477b87d5084cfb4912c7b0ae8371237aebf0f654e82ea76675d2af980fd559d", func := "siskin/siskinlaw10.ReadBlanks", spec := "readBlanks", inPlace := ["internal/bytealg.IndexByteString", "internal/bytealg.IndexString"], unfollowed := true, recurses := true, named := ["internal/bytealg.MaxLen"], apart := false }
def ReadBlanksSaid : Prop := readBlanksRow.holds Try.pinned (OpenSpec.ofChange readBlanksSpec)

/-- ITS FALSE NEIGHBOUR: 'it returns false'. Refute it at one input. -/
def readBlanksWrong : ChangeSpec := { name := "readBlanks", fn := fun _ => fun
  | [d1, d2, d3] => { results := [.lit (.bool false)], args := [d1, d2, d3] }
  | _ => none }
def ReadBlanksWrongFalsely : Prop := readBlanksRow.holds Try.pinned (OpenSpec.ofChange readBlanksWrong)

/-- 'siskinlaw15.JobChecks': WHATEVER THE INPUT: true; the input reads as it did. -/
def jobChecksSpec : ChangeSpec := { name := "jobChecks", fn := fun _ => fun
  | [d1, d2] => { results := [.lit (.bool true)], args := [d1, d2] }
  | _ => none }
def jobChecksRow : OpenClaim := { program := "yteijgeofimcijaa", sum := "f477b87d5084cfb4912c7b0ae8371237aebf0f654e82ea76675d2af980fd559d", func := "siskin/siskinlaw15.JobChecks", spec := "jobChecks", inPlace := ["internal/bytealg.IndexByteString", "internal/bytealg.IndexString"], unfollowed := true, recurses := true, named := ["internal/bytealg.MaxLen"], apart := false }
def JobChecksSaid : Prop := jobChecksRow.holds Try.pinned (OpenSpec.ofChange jobChecksSpec)

/-- ITS FALSE NEIGHBOUR: 'it returns false'. Refute it at one input. -/
def jobChecksWrong : ChangeSpec := { name := "jobChecks", fn := fun _ => fun
  | [d1, d2] => { results := [.lit (.bool false)], args := [d1, d2] }
  | _ => none }
def JobChecksWrongFalsely : Prop := jobChecksRow.holds Try.pinned (OpenSpec.ofChange jobChecksWrong)

/-- 'siskinlaw11.ShowBack': WHATEVER THE INPUT: true; the input reads as it did. -/
def showBackSpec : ChangeSpec := { name := "showBack", fn := fun _ => fun
  | [d1, d2, d3] => { results := [.lit (.bool true)], args := [d1, d2, d3] }
  | _ => none }
def showBackRow : OpenClaim := { program := "yteijgeofimcijaa", sum := "f477b87d5084cfb4912c7b0ae8371237aebf0f654e82ea76675d2af980fd559d", func := "siskin/siskinlaw11.ShowBack", spec := "showBack", inPlace := ["internal/bytealg.IndexByteString", "internal/bytealg.IndexString"], unfollowed := true, recurses := true, named := ["internal/bytealg.MaxLen"], apart := false }
def ShowBackSaid : Prop := showBackRow.holds Try.pinned (OpenSpec.ofChange showBackSpec)

/-- ITS FALSE NEIGHBOUR: 'it returns false'. Refute it at one input. -/
def showBackWrong : ChangeSpec := { name := "showBack", fn := fun _ => fun
  | [d1, d2, d3] => { results := [.lit (.bool false)], args := [d1, d2, d3] }
  | _ => none }
def ShowBackWrongFalsely : Prop := showBackRow.holds Try.pinned (OpenSpec.ofChange showBackWrong)

/-- 'siskinlaw34.HandFits': WHATEVER THE INPUT: true; the input reads as it did. -/
def handFitsSpec : ChangeSpec := { name := "handFits", fn := fun _ => fun
  | [d1, d2, d3] => { results := [.lit (.bool true)], args := [d1, d2, d3] }
  | _ => none }
def handFitsRow : OpenClaim := { program := "yteijgeofimcijaa", sum := "f477b87d5084cfb4912c7b0ae8371237aebf0f654e82ea76675d2af980fd559d", func := "siskin/siskinlaw34.HandFits", spec := "handFits", inPlace := ["internal/bytealg.IndexByteString", "internal/bytealg.IndexString"], unfollowed := true, recurses := true, named := ["internal/bytealg.MaxLen"], apart := false }
def HandFitsSaid : Prop := handFitsRow.holds Try.pinned (OpenSpec.ofChange handFitsSpec)

/-- ITS FALSE NEIGHBOUR: 'it returns false'. Refute it at one input. -/
def handFitsWrong : ChangeSpec := { name := "handFits", fn := fun _ => fun
  | [d1, d2, d3] => { results := [.lit (.bool false)], args := [d1, d2, d3] }
  | _ => none }
def HandFitsWrongFalsely : Prop := handFitsRow.holds Try.pinned (OpenSpec.ofChange handFitsWrong)

/-- 'siskinlaw34.HandPicks': WHATEVER THE INPUT: true; the input reads as it did. -/
def handPicksSpec : ChangeSpec := { name := "handPicks", fn := fun _ => fun
  | [d1, d2, d3] => { results := [.lit (.bool true)], args := [d1, d2, d3] }
  | _ => none }
def handPicksRow : OpenClaim := { program := "yteijgeofimcijaa", sum := "f477b87d5084cfb4912c7b0ae8371237aebf0f654e82ea76675d2af980fd559d", func := "siskin/siskinlaw34.HandPicks", spec := "handPicks", inPlace := ["internal/bytealg.IndexByteString", "internal/bytealg.IndexString"], unfollowed := true, recurses := true, named := ["internal/bytealg.MaxLen"], apart := false }
def HandPicksSaid : Prop := handPicksRow.holds Try.pinned (OpenSpec.ofChange handPicksSpec)

/-- ITS FALSE NEIGHBOUR: 'it returns false'. Refute it at one input. -/
def handPicksWrong : ChangeSpec := { name := "handPicks", fn := fun _ => fun
  | [d1, d2, d3] => { results := [.lit (.bool false)], args := [d1, d2, d3] }
  | _ => none }
def HandPicksWrongFalsely : Prop := handPicksRow.holds Try.pinned (OpenSpec.ofChange handPicksWrong)

/-- 'siskinlaw34.HandTells': WHATEVER THE INPUT: true; the input reads as it did. -/
def handTellsSpec : ChangeSpec := { name := "handTells", fn := fun _ => fun
  | [d1, d2] => { results := [.lit (.bool true)], args := [d1, d2] }
  | _ => none }
def handTellsRow : OpenClaim := { program := "yteijgeofimcijaa", sum := "f477b87d5084cfb4912c7b0ae8371237aebf0f654e82ea76675d2af980fd559d", func := "siskin/siskinlaw34.HandTells", spec := "handTells", inPlace := ["internal/bytealg.IndexByteString", "internal/bytealg.IndexString"], unfollowed := true, recurses := true, named := ["internal/bytealg.MaxLen"], apart := false }
def HandTellsSaid : Prop := handTellsRow.holds Try.pinned (OpenSpec.ofChange handTellsSpec)

/-- ITS FALSE NEIGHBOUR: 'it returns false'. Refute it at one input. -/
def handTellsWrong : ChangeSpec := { name := "handTells", fn := fun _ => fun
  | [d1, d2] => { results := [.lit (.bool false)], args := [d1, d2] }
  | _ => none }
def HandTellsWrongFalsely : Prop := handTellsRow.holds Try.pinned (OpenSpec.ofChange handTellsWrong)

/-- 'siskinlaw33.ProbeDistinct': WHATEVER THE INPUT: true; the input reads as it did. -/
def probeDistinctSpec : ChangeSpec := { name := "probeDistinct", fn := fun _ => fun
  | [d1, d2, d3] => { results := [.lit (.bool true)], args := [d1, d2, d3] }
  | _ => none }
def probeDistinctRow : OpenClaim := { program := "yteijgeofimcijaa", sum := "f477b87d5084cfb4912c7b0ae8371237aebf0f654e82ea76675d2af980fd559d", func := "siskin/siskinlaw33.ProbeDistinct", spec := "probeDistinct", inPlace := ["internal/bytealg.IndexByteString", "internal/bytealg.IndexString"], unfollowed := true, recurses := true, named := ["internal/bytealg.MaxLen"], apart := false }
def ProbeDistinctSaid : Prop := probeDistinctRow.holds Try.pinned (OpenSpec.ofChange probeDistinctSpec)

/-- ITS FALSE NEIGHBOUR: 'it returns false'. Refute it at one input. -/
def probeDistinctWrong : ChangeSpec := { name := "probeDistinct", fn := fun _ => fun
  | [d1, d2, d3] => { results := [.lit (.bool false)], args := [d1, d2, d3] }
  | _ => none }
def ProbeDistinctWrongFalsely : Prop := probeDistinctRow.holds Try.pinned (OpenSpec.ofChange probeDistinctWrong)

/-- 'siskinlaw33.ProbeRounds': WHATEVER THE INPUT: true; the input reads as it did. -/
def probeRoundsSpec : ChangeSpec := { name := "probeRounds", fn := fun _ => fun
  | [d1, d2, d3] => { results := [.lit (.bool true)], args := [d1, d2, d3] }
  | _ => none }
def probeRoundsRow : OpenClaim := { program := "yteijgeofimcijaa", sum := "f477b87d5084cfb4912c7b0ae8371237aebf0f654e82ea76675d2af980fd559d", func := "siskin/siskinlaw33.ProbeRounds", spec := "probeRounds", inPlace := ["internal/bytealg.IndexByteString", "internal/bytealg.IndexString"], unfollowed := true, recurses := true, named := ["internal/bytealg.MaxLen"], apart := false }
def ProbeRoundsSaid : Prop := probeRoundsRow.holds Try.pinned (OpenSpec.ofChange probeRoundsSpec)

/-- ITS FALSE NEIGHBOUR: 'it returns false'. Refute it at one input. -/
def probeRoundsWrong : ChangeSpec := { name := "probeRounds", fn := fun _ => fun
  | [d1, d2, d3] => { results := [.lit (.bool false)], args := [d1, d2, d3] }
  | _ => none }
def ProbeRoundsWrongFalsely : Prop := probeRoundsRow.holds Try.pinned (OpenSpec.ofChange probeRoundsWrong)

/-- 'siskinlaw15.JobBytes': WHATEVER THE INPUT: true; the input reads as it did. -/
def jobBytesSpec : ChangeSpec := { name := "jobBytes", fn := fun _ => fun
  | [d1, d2, d3] => { results := [.lit (.bool true)], args := [d1, d2, d3] }
  | _ => none }
def jobBytesRow : OpenClaim := { program := "yteijgeofimcijaa", sum := "f477b87d5084cfb4912c7b0ae8371237aebf0f654e82ea76675d2af980fd559d", func := "siskin/siskinlaw15.JobBytes", spec := "jobBytes", inPlace := ["internal/bytealg.IndexByteString", "internal/bytealg.IndexString"], unfollowed := true, recurses := true, named := ["internal/bytealg.MaxLen"], apart := false }
def JobBytesSaid : Prop := jobBytesRow.holds Try.pinned (OpenSpec.ofChange jobBytesSpec)

/-- ITS FALSE NEIGHBOUR: 'it returns false'. Refute it at one input. -/
def jobBytesWrong : ChangeSpec := { name := "jobBytes", fn := fun _ => fun
  | [d1, d2, d3] => { results := [.lit (.bool false)], args := [d1, d2, d3] }
  | _ => none }
def JobBytesWrongFalsely : Prop := jobBytesRow.holds Try.pinned (OpenSpec.ofChange jobBytesWrong)

/- THE SECOND FORM. 'bulk': how many values and letters a reading holds, each counted each time it is reached (what is shared counts as often as it is met; a slice's spare places count too). A statement '..UptoSaid' is the law's where the arguments, and the package variables that the reading takes, are together of bulk at most 1048576: NARROWER than '..Said'. Prove '..Said' where nothing that the law and all that it calls make is longer than what came in: it says more and counts as full. Else prove '..UptoSaid'. A law counts once. -/
mutual
def uptoBulk {H : Type} : DataW H → Nat
  | .lit (.string bytes) => bytes.length + 1
  | .lit _ => 1
  | .nil => 1
  | .ptr d => uptoBulk d + 1
  | .slice elems spare => uptoBulkAll elems + uptoBulkAll spare + 1
  | .agg parts => uptoBulkAll parts + 1
  | .iface _ d => uptoBulk d + 1
  | .map entries => uptoBulkEntries entries + 1
  | .held _ => 1
def uptoBulkAll {H : Type} : List (DataW H) → Nat
  | [] => 0
  | d :: r => uptoBulk d + uptoBulkAll r
def uptoBulkEntries {H : Type} : List (Lit × DataW H) → Nat
  | [] => 0
  | x :: r => uptoBulkEntry x + uptoBulkEntries r
def uptoBulkEntry {H : Type} : Lit × DataW H → Nat
  | (.string bytes, d) => bytes.length + uptoBulk d + 1
  | (_, d) => uptoBulk d + 1
 end
def uptoSmall : (H : Type) → List (DataW H) → Bool := fun _ ds => decide (uptoBulkAll ds ≤ 1048576)
def OpenSpec.upto (s : _root_.Go.ChangeSpec) : _root_.Go.OpenSpec := { _root_.Go.OpenSpec.ofChange s with cond := some uptoSmall }

/-- 'siskinlaw11.ShowTexts', WHERE WHAT IT READS IS OF BULK AT MOST 1048576: true; the input reads as it did. -/
def showTextsUptoRow : OpenClaim := { program := "yteijgeofimcijaa", sum := "f477b87d5084cfb4912c7b0ae8371237aebf0f654e82ea76675d2af980fd559d", func := "siskin/siskinlaw11.ShowTexts", spec := "showTexts", inPlace := ["internal/abi.NoEscape"], unfollowed := true, recurses := true, apart := false, narrowed := true }
def ShowTextsUptoSaid : Prop := showTextsUptoRow.holds Try.pinned (OpenSpec.upto showTextsSpec)

/-- 'siskinlaw08.LexBack', WHERE WHAT IT READS IS OF BULK AT MOST 1048576: true; the input reads as it did. -/
def lexBackUptoRow : OpenClaim := { program := "yteijgeofimcijaa", sum := "f477b87d5084cfb4912c7b0ae8371237aebf0f654e82ea76675d2af980fd559d", func := "siskin/siskinlaw08.LexBack", spec := "lexBack", inPlace := ["internal/bytealg.IndexByteString", "internal/bytealg.IndexString", "internal/abi.NoEscape"], named := ["internal/bytealg.MaxLen"], apart := false, narrowed := true }
def LexBackUptoSaid : Prop := lexBackUptoRow.holds Try.pinned (OpenSpec.upto lexBackSpec)

/-- 'siskinlaw10.ReadNeeds', WHERE WHAT IT READS IS OF BULK AT MOST 1048576: true; the input reads as it did. -/
def readNeedsUptoRow : OpenClaim := { program := "yteijgeofimcijaa", sum := "f477b87d5084cfb4912c7b0ae8371237aebf0f654e82ea76675d2af980fd559d", func := "siskin/siskinlaw10.ReadNeeds", spec := "readNeeds", inPlace := ["internal/bytealg.IndexByteString", "internal/bytealg.IndexString"], unfollowed := true, recurses := true, named := ["internal/bytealg.MaxLen"], apart := false, narrowed := true }
def ReadNeedsUptoSaid : Prop := readNeedsUptoRow.holds Try.pinned (OpenSpec.upto readNeedsSpec)

/-- 'siskinlaw10.ReadBlanks', WHERE WHAT IT READS IS OF BULK AT MOST 1048576: true; the input reads as it did. -/
def readBlanksUptoRow : OpenClaim := { program := "yteijgeofimcijaa", sum := "f477b87d5084cfb4912c7b0ae8371237aebf0f654e82ea76675d2af980fd559d", func := "siskin/siskinlaw10.ReadBlanks", spec := "readBlanks", inPlace := ["internal/bytealg.IndexByteString", "internal/bytealg.IndexString"], unfollowed := true, recurses := true, named := ["internal/bytealg.MaxLen"], apart := false, narrowed := true }
def ReadBlanksUptoSaid : Prop := readBlanksUptoRow.holds Try.pinned (OpenSpec.upto readBlanksSpec)

/-- 'siskinlaw15.JobChecks', WHERE WHAT IT READS IS OF BULK AT MOST 1048576: true; the input reads as it did. -/
def jobChecksUptoRow : OpenClaim := { program := "yteijgeofimcijaa", sum := "f477b87d5084cfb4912c7b0ae8371237aebf0f654e82ea76675d2af980fd559d", func := "siskin/siskinlaw15.JobChecks", spec := "jobChecks", inPlace := ["internal/bytealg.IndexByteString", "internal/bytealg.IndexString"], unfollowed := true, recurses := true, named := ["internal/bytealg.MaxLen"], apart := false, narrowed := true }
def JobChecksUptoSaid : Prop := jobChecksUptoRow.holds Try.pinned (OpenSpec.upto jobChecksSpec)

/-- 'siskinlaw11.ShowBack', WHERE WHAT IT READS IS OF BULK AT MOST 1048576: true; the input reads as it did. -/
def showBackUptoRow : OpenClaim := { program := "yteijgeofimcijaa", sum := "f477b87d5084cfb4912c7b0ae8371237aebf0f654e82ea76675d2af980fd559d", func := "siskin/siskinlaw11.ShowBack", spec := "showBack", inPlace := ["internal/bytealg.IndexByteString", "internal/bytealg.IndexString"], unfollowed := true, recurses := true, named := ["internal/bytealg.MaxLen"], apart := false, narrowed := true }
def ShowBackUptoSaid : Prop := showBackUptoRow.holds Try.pinned (OpenSpec.upto showBackSpec)

/-- 'siskinlaw34.HandFits', WHERE WHAT IT READS IS OF BULK AT MOST 1048576: true; the input reads as it did. -/
def handFitsUptoRow : OpenClaim := { program := "yteijgeofimcijaa", sum := "f477b87d5084cfb4912c7b0ae8371237aebf0f654e82ea76675d2af980fd559d", func := "siskin/siskinlaw34.HandFits", spec := "handFits", inPlace := ["internal/bytealg.IndexByteString", "internal/bytealg.IndexString"], unfollowed := true, recurses := true, named := ["internal/bytealg.MaxLen"], apart := false, narrowed := true }
def HandFitsUptoSaid : Prop := handFitsUptoRow.holds Try.pinned (OpenSpec.upto handFitsSpec)

/-- 'siskinlaw34.HandPicks', WHERE WHAT IT READS IS OF BULK AT MOST 1048576: true; the input reads as it did. -/
def handPicksUptoRow : OpenClaim := { program := "yteijgeofimcijaa", sum := "f477b87d5084cfb4912c7b0ae8371237aebf0f654e82ea76675d2af980fd559d", func := "siskin/siskinlaw34.HandPicks", spec := "handPicks", inPlace := ["internal/bytealg.IndexByteString", "internal/bytealg.IndexString"], unfollowed := true, recurses := true, named := ["internal/bytealg.MaxLen"], apart := false, narrowed := true }
def HandPicksUptoSaid : Prop := handPicksUptoRow.holds Try.pinned (OpenSpec.upto handPicksSpec)

/-- 'siskinlaw34.HandTells', WHERE WHAT IT READS IS OF BULK AT MOST 1048576: true; the input reads as it did. -/
def handTellsUptoRow : OpenClaim := { program := "yteijgeofimcijaa", sum := "f477b87d5084cfb4912c7b0ae8371237aebf0f654e82ea76675d2af980fd559d", func := "siskin/siskinlaw34.HandTells", spec := "handTells", inPlace := ["internal/bytealg.IndexByteString", "internal/bytealg.IndexString"], unfollowed := true, recurses := true, named := ["internal/bytealg.MaxLen"], apart := false, narrowed := true }
def HandTellsUptoSaid : Prop := handTellsUptoRow.holds Try.pinned (OpenSpec.upto handTellsSpec)

/-- 'siskinlaw33.ProbeDistinct', WHERE WHAT IT READS IS OF BULK AT MOST 1048576: true; the input reads as it did. -/
def probeDistinctUptoRow : OpenClaim := { program := "yteijgeofimcijaa", sum := "f477b87d5084cfb4912c7b0ae8371237aebf0f654e82ea76675d2af980fd559d", func := "siskin/siskinlaw33.ProbeDistinct", spec := "probeDistinct", inPlace := ["internal/bytealg.IndexByteString", "internal/bytealg.IndexString"], unfollowed := true, recurses := true, named := ["internal/bytealg.MaxLen"], apart := false, narrowed := true }
def ProbeDistinctUptoSaid : Prop := probeDistinctUptoRow.holds Try.pinned (OpenSpec.upto probeDistinctSpec)

/-- 'siskinlaw33.ProbeRounds', WHERE WHAT IT READS IS OF BULK AT MOST 1048576: true; the input reads as it did. -/
def probeRoundsUptoRow : OpenClaim := { program := "yteijgeofimcijaa", sum := "f477b87d5084cfb4912c7b0ae8371237aebf0f654e82ea76675d2af980fd559d", func := "siskin/siskinlaw33.ProbeRounds", spec := "probeRounds", inPlace := ["internal/bytealg.IndexByteString", "internal/bytealg.IndexString"], unfollowed := true, recurses := true, named := ["internal/bytealg.MaxLen"], apart := false, narrowed := true }
def ProbeRoundsUptoSaid : Prop := probeRoundsUptoRow.holds Try.pinned (OpenSpec.upto probeRoundsSpec)

/-- 'siskinlaw15.JobBytes', WHERE WHAT IT READS IS OF BULK AT MOST 1048576: true; the input reads as it did. -/
def jobBytesUptoRow : OpenClaim := { program := "yteijgeofimcijaa", sum := "f477b87d5084cfb4912c7b0ae8371237aebf0f654e82ea76675d2af980fd559d", func := "siskin/siskinlaw15.JobBytes", spec := "jobBytes", inPlace := ["internal/bytealg.IndexByteString", "internal/bytealg.IndexString"], unfollowed := true, recurses := true, named := ["internal/bytealg.MaxLen"], apart := false, narrowed := true }
def JobBytesUptoSaid : Prop := jobBytesUptoRow.holds Try.pinned (OpenSpec.upto jobBytesSpec)

end Rows
end Go.Proofs.Yteijgeofimcijaa
