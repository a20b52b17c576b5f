/-
  No cell of these rows narrows 'for every input' (looked for: loops, veiled, ifaces, maps, wideKeys, modest, calm, conditions, laid).
  DERIVED. THE GIVEN ROWS OF THIS SEAT. 9 by the template 'for every input the law returns true; each argument reads behind the call as it read before'; 0 by the template 'total and deterministic' (their statements: YtahhhnbpohcbfaaTotals.lean).
  GIVEN WITH THE SEED: the statements are not yours to turn. If you find one false, say at which input.
  Laid BY PROGRAM, IN A SANDBOX (cutbox-rows.mjs): the forced cells as the released guide's own fill.sh prints them over the translation a80dcd1fbeb09629… (all of the seat's roots in one cut). By AI agents, Wed Nov 11 2026. No macro, syntax, notation, axiom, sorry.
-/
import Derived.Test.YtahhhnbpohcbfaaChecked
import GoSem.Claim
import GoSem.ClaimJoined
import GoSem.ClaimMapViews
import Derived.JoinedTies
import Derived.KernelRfl
namespace Go.Proofs.Ytahhhnbpohcbfaa
/- THE CELL 'sum', in the pinned program and in every row, IS THE sha256 OF THE DUMP (.gsa) THAT YtahhhnbpohcbfaaProg.lean LOADS. Nothing in Lean hashes anything: it is a label: what it is worth is what the hold of that sum in a sandbox is worth. -/
noncomputable def Try.pinned : Pinned := { name := "ytahhhnbpohcbfaa", sum := "a80dcd1fbeb096295ada7621f0be1d2aca6af2177f60a55be189918acb957251", checked := Try.checked }
namespace Rows
def none {H : Type} : Left H := { results := [], args := [] }

/-- 'siskinlaw17.RecBytes': WHATEVER THE INPUT: true; the input reads as it did. -/
def recBytesSpec : ChangeSpec := { name := "recBytes", fn := fun _ => fun
  | [d1, d2] => { results := [.lit (.bool true)], args := [d1, d2] }
  | _ => none }
def recBytesRow : OpenClaim := { program := "ytahhhnbpohcbfaa", sum := "a80dcd1fbeb096295ada7621f0be1d2aca6af2177f60a55be189918acb957251", func := "siskin/siskinlaw17.RecBytes", spec := "recBytes", unfollowed := true, recurses := true, apart := false }
def RecBytesSaid : Prop := recBytesRow.holds Try.pinned (OpenSpec.ofChange recBytesSpec)

/-- ITS FALSE NEIGHBOUR: 'it returns false'. Refute it at one input. -/
def recBytesWrong : ChangeSpec := { name := "recBytes", fn := fun _ => fun
  | [d1, d2] => { results := [.lit (.bool false)], args := [d1, d2] }
  | _ => none }
def RecBytesWrongFalsely : Prop := recBytesRow.holds Try.pinned (OpenSpec.ofChange recBytesWrong)

/-- 'siskinlaw17.RecParses': WHATEVER THE INPUT: true; the input reads as it did. -/
def recParsesSpec : ChangeSpec := { name := "recParses", fn := fun _ => fun
  | [d] => { results := [.lit (.bool true)], args := [d] }
  | _ => none }
def recParsesRow : OpenClaim := { program := "ytahhhnbpohcbfaa", sum := "a80dcd1fbeb096295ada7621f0be1d2aca6af2177f60a55be189918acb957251", func := "siskin/siskinlaw17.RecParses", spec := "recParses", unfollowed := true, recurses := true, apart := false }
def RecParsesSaid : Prop := recParsesRow.holds Try.pinned (OpenSpec.ofChange recParsesSpec)

/-- ITS FALSE NEIGHBOUR: 'it returns false'. Refute it at one input. -/
def recParsesWrong : ChangeSpec := { name := "recParses", fn := fun _ => fun
  | [d] => { results := [.lit (.bool false)], args := [d] }
  | _ => none }
def RecParsesWrongFalsely : Prop := recParsesRow.holds Try.pinned (OpenSpec.ofChange recParsesWrong)

/-- 'siskinlaw17.RecBack': WHATEVER THE INPUT: true; the input reads as it did. -/
def recBackSpec : ChangeSpec := { name := "recBack", fn := fun _ => fun
  | [d1, d2] => { results := [.lit (.bool true)], args := [d1, d2] }
  | _ => none }
def recBackRow : OpenClaim := { program := "ytahhhnbpohcbfaa", sum := "a80dcd1fbeb096295ada7621f0be1d2aca6af2177f60a55be189918acb957251", func := "siskin/siskinlaw17.RecBack", spec := "recBack", unfollowed := true, recurses := true, apart := false }
def RecBackSaid : Prop := recBackRow.holds Try.pinned (OpenSpec.ofChange recBackSpec)

/-- ITS FALSE NEIGHBOUR: 'it returns false'. Refute it at one input. -/
def recBackWrong : ChangeSpec := { name := "recBack", fn := fun _ => fun
  | [d1, d2] => { results := [.lit (.bool false)], args := [d1, d2] }
  | _ => none }
def RecBackWrongFalsely : Prop := recBackRow.holds Try.pinned (OpenSpec.ofChange recBackWrong)

/-- 'siskinlaw18.ScanGood': WHATEVER THE INPUT: true; the input reads as it did. -/
def scanGoodSpec : ChangeSpec := { name := "scanGood", fn := fun _ => fun
  | [d] => { results := [.lit (.bool true)], args := [d] }
  | _ => none }
def scanGoodRow : OpenClaim := { program := "ytahhhnbpohcbfaa", sum := "a80dcd1fbeb096295ada7621f0be1d2aca6af2177f60a55be189918acb957251", func := "siskin/siskinlaw18.ScanGood", spec := "scanGood", unfollowed := true, recurses := true, apart := false }
def ScanGoodSaid : Prop := scanGoodRow.holds Try.pinned (OpenSpec.ofChange scanGoodSpec)

/-- ITS FALSE NEIGHBOUR: 'it returns false'. Refute it at one input. -/
def scanGoodWrong : ChangeSpec := { name := "scanGood", fn := fun _ => fun
  | [d] => { results := [.lit (.bool false)], args := [d] }
  | _ => none }
def ScanGoodWrongFalsely : Prop := scanGoodRow.holds Try.pinned (OpenSpec.ofChange scanGoodWrong)

/-- 'siskinlaw18.ScanFinds': WHATEVER THE INPUT: true; the input reads as it did. -/
def scanFindsSpec : ChangeSpec := { name := "scanFinds", fn := fun _ => fun
  | [d1, d2] => { results := [.lit (.bool true)], args := [d1, d2] }
  | _ => none }
def scanFindsRow : OpenClaim := { program := "ytahhhnbpohcbfaa", sum := "a80dcd1fbeb096295ada7621f0be1d2aca6af2177f60a55be189918acb957251", func := "siskin/siskinlaw18.ScanFinds", spec := "scanFinds", unfollowed := true, recurses := true, apart := false }
def ScanFindsSaid : Prop := scanFindsRow.holds Try.pinned (OpenSpec.ofChange scanFindsSpec)

/-- ITS FALSE NEIGHBOUR: 'it returns false'. Refute it at one input. -/
def scanFindsWrong : ChangeSpec := { name := "scanFinds", fn := fun _ => fun
  | [d1, d2] => { results := [.lit (.bool false)], args := [d1, d2] }
  | _ => none }
def ScanFindsWrongFalsely : Prop := scanFindsRow.holds Try.pinned (OpenSpec.ofChange scanFindsWrong)

/-- 'siskinlaw18.ScanTorn': WHATEVER THE INPUT: true; the input reads as it did. -/
def scanTornSpec : ChangeSpec := { name := "scanTorn", fn := fun _ => fun
  | [d1, d2] => { results := [.lit (.bool true)], args := [d1, d2] }
  | _ => none }
def scanTornRow : OpenClaim := { program := "ytahhhnbpohcbfaa", sum := "a80dcd1fbeb096295ada7621f0be1d2aca6af2177f60a55be189918acb957251", func := "siskin/siskinlaw18.ScanTorn", spec := "scanTorn", unfollowed := true, recurses := true, apart := false }
def ScanTornSaid : Prop := scanTornRow.holds Try.pinned (OpenSpec.ofChange scanTornSpec)

/-- ITS FALSE NEIGHBOUR: 'it returns false'. Refute it at one input. -/
def scanTornWrong : ChangeSpec := { name := "scanTorn", fn := fun _ => fun
  | [d1, d2] => { results := [.lit (.bool false)], args := [d1, d2] }
  | _ => none }
def ScanTornWrongFalsely : Prop := scanTornRow.holds Try.pinned (OpenSpec.ofChange scanTornWrong)

/-- 'siskinlaw19.AnnalStays': WHATEVER THE INPUT: true; the input reads as it did. -/
def annalStaysSpec : ChangeSpec := { name := "annalStays", fn := fun _ => fun
  | [d1, d2] => { results := [.lit (.bool true)], args := [d1, d2] }
  | _ => none }
def annalStaysRow : OpenClaim := { program := "ytahhhnbpohcbfaa", sum := "a80dcd1fbeb096295ada7621f0be1d2aca6af2177f60a55be189918acb957251", func := "siskin/siskinlaw19.AnnalStays", spec := "annalStays", unfollowed := true, recurses := true, apart := false }
def AnnalStaysSaid : Prop := annalStaysRow.holds Try.pinned (OpenSpec.ofChange annalStaysSpec)

/-- ITS FALSE NEIGHBOUR: 'it returns false'. Refute it at one input. -/
def annalStaysWrong : ChangeSpec := { name := "annalStays", fn := fun _ => fun
  | [d1, d2] => { results := [.lit (.bool false)], args := [d1, d2] }
  | _ => none }
def AnnalStaysWrongFalsely : Prop := annalStaysRow.holds Try.pinned (OpenSpec.ofChange annalStaysWrong)

/-- 'siskinlaw19.AnnalAgain': WHATEVER THE INPUT: true; the input reads as it did. -/
def annalAgainSpec : ChangeSpec := { name := "annalAgain", fn := fun _ => fun
  | [d1, d2] => { results := [.lit (.bool true)], args := [d1, d2] }
  | _ => none }
def annalAgainRow : OpenClaim := { program := "ytahhhnbpohcbfaa", sum := "a80dcd1fbeb096295ada7621f0be1d2aca6af2177f60a55be189918acb957251", func := "siskin/siskinlaw19.AnnalAgain", spec := "annalAgain", unfollowed := true, recurses := true, apart := false }
def AnnalAgainSaid : Prop := annalAgainRow.holds Try.pinned (OpenSpec.ofChange annalAgainSpec)

/-- ITS FALSE NEIGHBOUR: 'it returns false'. Refute it at one input. -/
def annalAgainWrong : ChangeSpec := { name := "annalAgain", fn := fun _ => fun
  | [d1, d2] => { results := [.lit (.bool false)], args := [d1, d2] }
  | _ => none }
def AnnalAgainWrongFalsely : Prop := annalAgainRow.holds Try.pinned (OpenSpec.ofChange annalAgainWrong)

/-- 'siskinlaw19.AnnalPlays': WHATEVER THE INPUT: true; the input reads as it did. -/
def annalPlaysSpec : ChangeSpec := { name := "annalPlays", fn := fun _ => fun
  | [d1, d2] => { results := [.lit (.bool true)], args := [d1, d2] }
  | _ => none }
def annalPlaysRow : OpenClaim := { program := "ytahhhnbpohcbfaa", sum := "a80dcd1fbeb096295ada7621f0be1d2aca6af2177f60a55be189918acb957251", func := "siskin/siskinlaw19.AnnalPlays", spec := "annalPlays", unfollowed := true, recurses := true, apart := false }
def AnnalPlaysSaid : Prop := annalPlaysRow.holds Try.pinned (OpenSpec.ofChange annalPlaysSpec)

/-- ITS FALSE NEIGHBOUR: 'it returns false'. Refute it at one input. -/
def annalPlaysWrong : ChangeSpec := { name := "annalPlays", fn := fun _ => fun
  | [d1, d2] => { results := [.lit (.bool false)], args := [d1, d2] }
  | _ => none }
def AnnalPlaysWrongFalsely : Prop := annalPlaysRow.holds Try.pinned (OpenSpec.ofChange annalPlaysWrong)

/- THE SECOND FORM. 'bulk': how many values and letters a reading holds, each counted each time it is reached (what is shared counts as often as it is met; a slice's spare places count too). A statement '..UptoSaid' is the law's where the arguments, and the package variables that the reading takes, are together of bulk at most 1048576: NARROWER than '..Said'. Prove '..Said' where nothing that the law and all that it calls make is longer than what came in: it says more and counts as full. Else prove '..UptoSaid'. A law counts once. -/
mutual
def uptoBulk {H : Type} : DataW H → Nat
  | .lit (.string bytes) => bytes.length + 1
  | .lit _ => 1
  | .nil => 1
  | .ptr d => uptoBulk d + 1
  | .slice elems spare => uptoBulkAll elems + uptoBulkAll spare + 1
  | .agg parts => uptoBulkAll parts + 1
  | .iface _ d => uptoBulk d + 1
  | .map entries => uptoBulkEntries entries + 1
  | .held _ => 1
def uptoBulkAll {H : Type} : List (DataW H) → Nat
  | [] => 0
  | d :: r => uptoBulk d + uptoBulkAll r
def uptoBulkEntries {H : Type} : List (Lit × DataW H) → Nat
  | [] => 0
  | x :: r => uptoBulkEntry x + uptoBulkEntries r
def uptoBulkEntry {H : Type} : Lit × DataW H → Nat
  | (.string bytes, d) => bytes.length + uptoBulk d + 1
  | (_, d) => uptoBulk d + 1
 end
def uptoSmall : (H : Type) → List (DataW H) → Bool := fun _ ds => decide (uptoBulkAll ds ≤ 1048576)
def OpenSpec.upto (s : _root_.Go.ChangeSpec) : _root_.Go.OpenSpec := { _root_.Go.OpenSpec.ofChange s with cond := some uptoSmall }

/-- 'siskinlaw17.RecBytes', WHERE WHAT IT READS IS OF BULK AT MOST 1048576: true; the input reads as it did. -/
def recBytesUptoRow : OpenClaim := { program := "ytahhhnbpohcbfaa", sum := "a80dcd1fbeb096295ada7621f0be1d2aca6af2177f60a55be189918acb957251", func := "siskin/siskinlaw17.RecBytes", spec := "recBytes", unfollowed := true, recurses := true, apart := false, narrowed := true }
def RecBytesUptoSaid : Prop := recBytesUptoRow.holds Try.pinned (OpenSpec.upto recBytesSpec)

/-- 'siskinlaw17.RecParses', WHERE WHAT IT READS IS OF BULK AT MOST 1048576: true; the input reads as it did. -/
def recParsesUptoRow : OpenClaim := { program := "ytahhhnbpohcbfaa", sum := "a80dcd1fbeb096295ada7621f0be1d2aca6af2177f60a55be189918acb957251", func := "siskin/siskinlaw17.RecParses", spec := "recParses", unfollowed := true, recurses := true, apart := false, narrowed := true }
def RecParsesUptoSaid : Prop := recParsesUptoRow.holds Try.pinned (OpenSpec.upto recParsesSpec)

/-- 'siskinlaw17.RecBack', WHERE WHAT IT READS IS OF BULK AT MOST 1048576: true; the input reads as it did. -/
def recBackUptoRow : OpenClaim := { program := "ytahhhnbpohcbfaa", sum := "a80dcd1fbeb096295ada7621f0be1d2aca6af2177f60a55be189918acb957251", func := "siskin/siskinlaw17.RecBack", spec := "recBack", unfollowed := true, recurses := true, apart := false, narrowed := true }
def RecBackUptoSaid : Prop := recBackUptoRow.holds Try.pinned (OpenSpec.upto recBackSpec)

/-- 'siskinlaw18.ScanGood', WHERE WHAT IT READS IS OF BULK AT MOST 1048576: true; the input reads as it did. -/
def scanGoodUptoRow : OpenClaim := { program := "ytahhhnbpohcbfaa", sum := "a80dcd1fbeb096295ada7621f0be1d2aca6af2177f60a55be189918acb957251", func := "siskin/siskinlaw18.ScanGood", spec := "scanGood", unfollowed := true, recurses := true, apart := false, narrowed := true }
def ScanGoodUptoSaid : Prop := scanGoodUptoRow.holds Try.pinned (OpenSpec.upto scanGoodSpec)

/-- 'siskinlaw18.ScanFinds', WHERE WHAT IT READS IS OF BULK AT MOST 1048576: true; the input reads as it did. -/
def scanFindsUptoRow : OpenClaim := { program := "ytahhhnbpohcbfaa", sum := "a80dcd1fbeb096295ada7621f0be1d2aca6af2177f60a55be189918acb957251", func := "siskin/siskinlaw18.ScanFinds", spec := "scanFinds", unfollowed := true, recurses := true, apart := false, narrowed := true }
def ScanFindsUptoSaid : Prop := scanFindsUptoRow.holds Try.pinned (OpenSpec.upto scanFindsSpec)

/-- 'siskinlaw18.ScanTorn', WHERE WHAT IT READS IS OF BULK AT MOST 1048576: true; the input reads as it did. -/
def scanTornUptoRow : OpenClaim := { program := "ytahhhnbpohcbfaa", sum := "a80dcd1fbeb096295ada7621f0be1d2aca6af2177f60a55be189918acb957251", func := "siskin/siskinlaw18.ScanTorn", spec := "scanTorn", unfollowed := true, recurses := true, apart := false, narrowed := true }
def ScanTornUptoSaid : Prop := scanTornUptoRow.holds Try.pinned (OpenSpec.upto scanTornSpec)

/-- 'siskinlaw19.AnnalStays', WHERE WHAT IT READS IS OF BULK AT MOST 1048576: true; the input reads as it did. -/
def annalStaysUptoRow : OpenClaim := { program := "ytahhhnbpohcbfaa", sum := "a80dcd1fbeb096295ada7621f0be1d2aca6af2177f60a55be189918acb957251", func := "siskin/siskinlaw19.AnnalStays", spec := "annalStays", unfollowed := true, recurses := true, apart := false, narrowed := true }
def AnnalStaysUptoSaid : Prop := annalStaysUptoRow.holds Try.pinned (OpenSpec.upto annalStaysSpec)

/-- 'siskinlaw19.AnnalAgain', WHERE WHAT IT READS IS OF BULK AT MOST 1048576: true; the input reads as it did. -/
def annalAgainUptoRow : OpenClaim := { program := "ytahhhnbpohcbfaa", sum := "a80dcd1fbeb096295ada7621f0be1d2aca6af2177f60a55be189918acb957251", func := "siskin/siskinlaw19.AnnalAgain", spec := "annalAgain", unfollowed := true, recurses := true, apart := false, narrowed := true }
def AnnalAgainUptoSaid : Prop := annalAgainUptoRow.holds Try.pinned (OpenSpec.upto annalAgainSpec)

/-- 'siskinlaw19.AnnalPlays', WHERE WHAT IT READS IS OF BULK AT MOST 1048576: true; the input reads as it did. -/
def annalPlaysUptoRow : OpenClaim := { program := "ytahhhnbpohcbfaa", sum := "a80dcd1fbeb096295ada7621f0be1d2aca6af2177f60a55be189918acb957251", func := "siskin/siskinlaw19.AnnalPlays", spec := "annalPlays", unfollowed := true, recurses := true, apart := false, narrowed := true }
def AnnalPlaysUptoSaid : Prop := annalPlaysUptoRow.holds Try.pinned (OpenSpec.upto annalPlaysSpec)

end Rows
end Go.Proofs.Ytahhhnbpohcbfaa
