/-
  No cell of these rows narrows 'for every input' (looked for: loops, veiled, ifaces, maps, wideKeys, modest, calm, conditions, laid).
  DERIVED. THE GIVEN ROWS OF THIS SEAT. 7 by the template 'for every input the law returns true; each argument reads behind the call as it read before'; 0 by the template 'total and deterministic' (their statements: YtolckkckheiceaaTotals.lean).
  GIVEN WITH THE SEED: the statements are not yours to turn. If you find one false, say at which input.
  Laid BY PROGRAM, IN A SANDBOX (cutbox-rows.mjs): the forced cells as the released guide's own fill.sh prints them over the translation 33ca2125ecf5e37b… (all of the seat's roots in one cut). By AI agents, Wed Nov 11 2026. No macro, syntax, notation, axiom, sorry.
-/
import Derived.Test.YtolckkckheiceaaChecked
import GoSem.Claim
import GoSem.ClaimJoined
import GoSem.ClaimMapViews
import Derived.JoinedTies
import Derived.KernelRfl
namespace Go.Proofs.Ytolckkckheiceaa
/- THE CELL 'sum', in the pinned program and in every row, IS THE sha256 OF THE DUMP (.gsa) THAT YtolckkckheiceaaProg.lean LOADS. Nothing in Lean hashes anything: it is a label: what it is worth is what the hold of that sum in a sandbox is worth. -/
noncomputable def Try.pinned : Pinned := { name := "ytolckkckheiceaa", sum := "33ca2125ecf5e37b296284a1613bcc6aac0272b3850c3fe47e980fe9646d9d6b", checked := Try.checked }
namespace Rows
def none {H : Type} : Left H := { results := [], args := [] }

/-- 'siskinlaw33.ProbeDistinct': WHATEVER THE INPUT: true; the input reads as it did. -/
def probeDistinctSpec : ChangeSpec := { name := "probeDistinct", fn := fun _ => fun
  | [d1, d2, d3] => { results := [.lit (.bool true)], args := [d1, d2, d3] }
  | _ => none }
def probeDistinctRow : OpenClaim := { program := "ytolckkckheiceaa", sum := "33ca2125ecf5e37b296284a1613bcc6aac0272b3850c3fe47e980fe9646d9d6b", func := "siskin/siskinlaw33.ProbeDistinct", spec := "probeDistinct", inPlace := ["internal/bytealg.IndexByteString", "internal/bytealg.IndexString"], unfollowed := true, recurses := true, named := ["internal/bytealg.MaxLen"], apart := false }
def ProbeDistinctSaid : Prop := probeDistinctRow.holds Try.pinned (OpenSpec.ofChange probeDistinctSpec)

/-- ITS FALSE NEIGHBOUR: 'it returns false'. Refute it at one input. -/
def probeDistinctWrong : ChangeSpec := { name := "probeDistinct", fn := fun _ => fun
  | [d1, d2, d3] => { results := [.lit (.bool false)], args := [d1, d2, d3] }
  | _ => none }
def ProbeDistinctWrongFalsely : Prop := probeDistinctRow.holds Try.pinned (OpenSpec.ofChange probeDistinctWrong)

/-- 'siskinlaw33.ProbeRounds': WHATEVER THE INPUT: true; the input reads as it did. -/
def probeRoundsSpec : ChangeSpec := { name := "probeRounds", fn := fun _ => fun
  | [d1, d2, d3] => { results := [.lit (.bool true)], args := [d1, d2, d3] }
  | _ => none }
def probeRoundsRow : OpenClaim := { program := "ytolckkckheiceaa", sum := "33ca2125ecf5e37b296284a1613bcc6aac0272b3850c3fe47e980fe9646d9d6b", func := "siskin/siskinlaw33.ProbeRounds", spec := "probeRounds", inPlace := ["internal/bytealg.IndexByteString", "internal/bytealg.IndexString"], unfollowed := true, recurses := true, named := ["internal/bytealg.MaxLen"], apart := false }
def ProbeRoundsSaid : Prop := probeRoundsRow.holds Try.pinned (OpenSpec.ofChange probeRoundsSpec)

/-- ITS FALSE NEIGHBOUR: 'it returns false'. Refute it at one input. -/
def probeRoundsWrong : ChangeSpec := { name := "probeRounds", fn := fun _ => fun
  | [d1, d2, d3] => { results := [.lit (.bool false)], args := [d1, d2, d3] }
  | _ => none }
def ProbeRoundsWrongFalsely : Prop := probeRoundsRow.holds Try.pinned (OpenSpec.ofChange probeRoundsWrong)

/-- 'siskinlaw11.ShowBack': WHATEVER THE INPUT: true; the input reads as it did. -/
def showBackSpec : ChangeSpec := { name := "showBack", fn := fun _ => fun
  | [d1, d2, d3] => { results := [.lit (.bool true)], args := [d1, d2, d3] }
  | _ => none }
def showBackRow : OpenClaim := { program := "ytolckkckheiceaa", sum := "33ca2125ecf5e37b296284a1613bcc6aac0272b3850c3fe47e980fe9646d9d6b", func := "siskin/siskinlaw11.ShowBack", spec := "showBack", inPlace := ["internal/bytealg.IndexByteString", "internal/bytealg.IndexString"], unfollowed := true, recurses := true, named := ["internal/bytealg.MaxLen"], apart := false }
def ShowBackSaid : Prop := showBackRow.holds Try.pinned (OpenSpec.ofChange showBackSpec)

/-- ITS FALSE NEIGHBOUR: 'it returns false'. Refute it at one input. -/
def showBackWrong : ChangeSpec := { name := "showBack", fn := fun _ => fun
  | [d1, d2, d3] => { results := [.lit (.bool false)], args := [d1, d2, d3] }
  | _ => none }
def ShowBackWrongFalsely : Prop := showBackRow.holds Try.pinned (OpenSpec.ofChange showBackWrong)

/-- 'siskinlaw15.JobBack': WHATEVER THE INPUT: true; the input reads as it did. -/
def jobBackSpec : ChangeSpec := { name := "jobBack", fn := fun _ => fun
  | [d1, d2, d3] => { results := [.lit (.bool true)], args := [d1, d2, d3] }
  | _ => none }
def jobBackRow : OpenClaim := { program := "ytolckkckheiceaa", sum := "33ca2125ecf5e37b296284a1613bcc6aac0272b3850c3fe47e980fe9646d9d6b", func := "siskin/siskinlaw15.JobBack", spec := "jobBack", inPlace := ["internal/bytealg.IndexByteString", "internal/bytealg.IndexString"], unfollowed := true, recurses := true, named := ["internal/bytealg.MaxLen"], apart := false }
def JobBackSaid : Prop := jobBackRow.holds Try.pinned (OpenSpec.ofChange jobBackSpec)

/-- ITS FALSE NEIGHBOUR: 'it returns false'. Refute it at one input. -/
def jobBackWrong : ChangeSpec := { name := "jobBack", fn := fun _ => fun
  | [d1, d2, d3] => { results := [.lit (.bool false)], args := [d1, d2, d3] }
  | _ => none }
def JobBackWrongFalsely : Prop := jobBackRow.holds Try.pinned (OpenSpec.ofChange jobBackWrong)

/-- 'siskinlaw21.LedgerRoom': WHATEVER THE INPUT: true; the input reads as it did. -/
def ledgerRoomSpec : ChangeSpec := { name := "ledgerRoom", fn := fun _ => fun
  | [d1, d2] => { results := [.lit (.bool true)], args := [d1, d2] }
  | _ => none }
def ledgerRoomRow : OpenClaim := { program := "ytolckkckheiceaa", sum := "33ca2125ecf5e37b296284a1613bcc6aac0272b3850c3fe47e980fe9646d9d6b", func := "siskin/siskinlaw21.LedgerRoom", spec := "ledgerRoom", unfollowed := true, recurses := true, apart := false }
def LedgerRoomSaid : Prop := ledgerRoomRow.holds Try.pinned (OpenSpec.ofChange ledgerRoomSpec)

/-- ITS FALSE NEIGHBOUR: 'it returns false'. Refute it at one input. -/
def ledgerRoomWrong : ChangeSpec := { name := "ledgerRoom", fn := fun _ => fun
  | [d1, d2] => { results := [.lit (.bool false)], args := [d1, d2] }
  | _ => none }
def LedgerRoomWrongFalsely : Prop := ledgerRoomRow.holds Try.pinned (OpenSpec.ofChange ledgerRoomWrong)

/-- 'siskinlaw21.LedgerCut': WHATEVER THE INPUT: true; the input reads as it did. -/
def ledgerCutSpec : ChangeSpec := { name := "ledgerCut", fn := fun _ => fun
  | [d1, d2] => { results := [.lit (.bool true)], args := [d1, d2] }
  | _ => none }
def ledgerCutRow : OpenClaim := { program := "ytolckkckheiceaa", sum := "33ca2125ecf5e37b296284a1613bcc6aac0272b3850c3fe47e980fe9646d9d6b", func := "siskin/siskinlaw21.LedgerCut", spec := "ledgerCut", unfollowed := true, recurses := true, apart := false }
def LedgerCutSaid : Prop := ledgerCutRow.holds Try.pinned (OpenSpec.ofChange ledgerCutSpec)

/-- ITS FALSE NEIGHBOUR: 'it returns false'. Refute it at one input. -/
def ledgerCutWrong : ChangeSpec := { name := "ledgerCut", fn := fun _ => fun
  | [d1, d2] => { results := [.lit (.bool false)], args := [d1, d2] }
  | _ => none }
def LedgerCutWrongFalsely : Prop := ledgerCutRow.holds Try.pinned (OpenSpec.ofChange ledgerCutWrong)

/-- 'siskinlaw40.SpecAccepts': WHATEVER THE INPUT: true; the input reads as it did. -/
def specAcceptsSpec : ChangeSpec := { name := "specAccepts", fn := fun _ => fun
  | [d1, d2, d3] => { results := [.lit (.bool true)], args := [d1, d2, d3] }
  | _ => none }
def specAcceptsRow : OpenClaim := { program := "ytolckkckheiceaa", sum := "33ca2125ecf5e37b296284a1613bcc6aac0272b3850c3fe47e980fe9646d9d6b", func := "siskin/siskinlaw40.SpecAccepts", spec := "specAccepts", inPlace := ["internal/bytealg.IndexByteString", "internal/bytealg.IndexString"], unfollowed := true, recurses := true, named := ["internal/bytealg.MaxLen"], apart := false }
def SpecAcceptsSaid : Prop := specAcceptsRow.holds Try.pinned (OpenSpec.ofChange specAcceptsSpec)

/-- ITS FALSE NEIGHBOUR: 'it returns false'. Refute it at one input. -/
def specAcceptsWrong : ChangeSpec := { name := "specAccepts", fn := fun _ => fun
  | [d1, d2, d3] => { results := [.lit (.bool false)], args := [d1, d2, d3] }
  | _ => none }
def SpecAcceptsWrongFalsely : Prop := specAcceptsRow.holds Try.pinned (OpenSpec.ofChange specAcceptsWrong)

/- THE SECOND FORM. 'bulk': how many values and letters a reading holds, each counted each time it is reached (what is shared counts as often as it is met; a slice's spare places count too). A statement '..UptoSaid' is the law's where the arguments, and the package variables that the reading takes, are together of bulk at most 1048576: NARROWER than '..Said'. Prove '..Said' where nothing that the law and all that it calls make is longer than what came in: it says more and counts as full. Else prove '..UptoSaid'. A law counts once. -/
mutual
def uptoBulk {H : Type} : DataW H → Nat
  | .lit (.string bytes) => bytes.length + 1
  | .lit _ => 1
  | .nil => 1
  | .ptr d => uptoBulk d + 1
  | .slice elems spare => uptoBulkAll elems + uptoBulkAll spare + 1
  | .agg parts => uptoBulkAll parts + 1
  | .iface _ d => uptoBulk d + 1
  | .map entries => uptoBulkEntries entries + 1
  | .held _ => 1
def uptoBulkAll {H : Type} : List (DataW H) → Nat
  | [] => 0
  | d :: r => uptoBulk d + uptoBulkAll r
def uptoBulkEntries {H : Type} : List (Lit × DataW H) → Nat
  | [] => 0
  | x :: r => uptoBulkEntry x + uptoBulkEntries r
def uptoBulkEntry {H : Type} : Lit × DataW H → Nat
  | (.string bytes, d) => bytes.length + uptoBulk d + 1
  | (_, d) => uptoBulk d + 1
 end
def uptoSmall : (H : Type) → List (DataW H) → Bool := fun _ ds => decide (uptoBulkAll ds ≤ 1048576)
def OpenSpec.upto (s : _root_.Go.ChangeSpec) : _root_.Go.OpenSpec := { _root_.Go.OpenSpec.ofChange s with cond := some uptoSmall }

/-- 'siskinlaw33.ProbeDistinct', WHERE WHAT IT READS IS OF BULK AT MOST 1048576: true; the input reads as it did. -/
def probeDistinctUptoRow : OpenClaim := { program := "ytolckkckheiceaa", sum := "33ca2125ecf5e37b296284a1613bcc6aac0272b3850c3fe47e980fe9646d9d6b", func := "siskin/siskinlaw33.ProbeDistinct", spec := "probeDistinct", inPlace := ["internal/bytealg.IndexByteString", "internal/bytealg.IndexString"], unfollowed := true, recurses := true, named := ["internal/bytealg.MaxLen"], apart := false, narrowed := true }
def ProbeDistinctUptoSaid : Prop := probeDistinctUptoRow.holds Try.pinned (OpenSpec.upto probeDistinctSpec)

/-- 'siskinlaw33.ProbeRounds', WHERE WHAT IT READS IS OF BULK AT MOST 1048576: true; the input reads as it did. -/
def probeRoundsUptoRow : OpenClaim := { program := "ytolckkckheiceaa", sum := "33ca2125ecf5e37b296284a1613bcc6aac0272b3850c3fe47e980fe9646d9d6b", func := "siskin/siskinlaw33.ProbeRounds", spec := "probeRounds", inPlace := ["internal/bytealg.IndexByteString", "internal/bytealg.IndexString"], unfollowed := true, recurses := true, named := ["internal/bytealg.MaxLen"], apart := false, narrowed := true }
def ProbeRoundsUptoSaid : Prop := probeRoundsUptoRow.holds Try.pinned (OpenSpec.upto probeRoundsSpec)

/-- 'siskinlaw11.ShowBack', WHERE WHAT IT READS IS OF BULK AT MOST 1048576: true; the input reads as it did. -/
def showBackUptoRow : OpenClaim := { program := "ytolckkckheiceaa", sum := "33ca2125ecf5e37b296284a1613bcc6aac0272b3850c3fe47e980fe9646d9d6b", func := "siskin/siskinlaw11.ShowBack", spec := "showBack", inPlace := ["internal/bytealg.IndexByteString", "internal/bytealg.IndexString"], unfollowed := true, recurses := true, named := ["internal/bytealg.MaxLen"], apart := false, narrowed := true }
def ShowBackUptoSaid : Prop := showBackUptoRow.holds Try.pinned (OpenSpec.upto showBackSpec)

/-- 'siskinlaw15.JobBack', WHERE WHAT IT READS IS OF BULK AT MOST 1048576: true; the input reads as it did. -/
def jobBackUptoRow : OpenClaim := { program := "ytolckkckheiceaa", sum := "33ca2125ecf5e37b296284a1613bcc6aac0272b3850c3fe47e980fe9646d9d6b", func := "siskin/siskinlaw15.JobBack", spec := "jobBack", inPlace := ["internal/bytealg.IndexByteString", "internal/bytealg.IndexString"], unfollowed := true, recurses := true, named := ["internal/bytealg.MaxLen"], apart := false, narrowed := true }
def JobBackUptoSaid : Prop := jobBackUptoRow.holds Try.pinned (OpenSpec.upto jobBackSpec)

/-- 'siskinlaw21.LedgerRoom', WHERE WHAT IT READS IS OF BULK AT MOST 1048576: true; the input reads as it did. -/
def ledgerRoomUptoRow : OpenClaim := { program := "ytolckkckheiceaa", sum := "33ca2125ecf5e37b296284a1613bcc6aac0272b3850c3fe47e980fe9646d9d6b", func := "siskin/siskinlaw21.LedgerRoom", spec := "ledgerRoom", unfollowed := true, recurses := true, apart := false, narrowed := true }
def LedgerRoomUptoSaid : Prop := ledgerRoomUptoRow.holds Try.pinned (OpenSpec.upto ledgerRoomSpec)

/-- 'siskinlaw21.LedgerCut', WHERE WHAT IT READS IS OF BULK AT MOST 1048576: true; the input reads as it did. -/
def ledgerCutUptoRow : OpenClaim := { program := "ytolckkckheiceaa", sum := "33ca2125ecf5e37b296284a1613bcc6aac0272b3850c3fe47e980fe9646d9d6b", func := "siskin/siskinlaw21.LedgerCut", spec := "ledgerCut", unfollowed := true, recurses := true, apart := false, narrowed := true }
def LedgerCutUptoSaid : Prop := ledgerCutUptoRow.holds Try.pinned (OpenSpec.upto ledgerCutSpec)

/-- 'siskinlaw40.SpecAccepts', WHERE WHAT IT READS IS OF BULK AT MOST 1048576: true; the input reads as it did. -/
def specAcceptsUptoRow : OpenClaim := { program := "ytolckkckheiceaa", sum := "33ca2125ecf5e37b296284a1613bcc6aac0272b3850c3fe47e980fe9646d9d6b", func := "siskin/siskinlaw40.SpecAccepts", spec := "specAccepts", inPlace := ["internal/bytealg.IndexByteString", "internal/bytealg.IndexString"], unfollowed := true, recurses := true, named := ["internal/bytealg.MaxLen"], apart := false, narrowed := true }
def SpecAcceptsUptoSaid : Prop := specAcceptsUptoRow.holds Try.pinned (OpenSpec.upto specAcceptsSpec)

end Rows
end Go.Proofs.Ytolckkckheiceaa
