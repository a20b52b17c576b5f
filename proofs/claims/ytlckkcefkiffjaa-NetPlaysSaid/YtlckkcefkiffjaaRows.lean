/-
  No cell of these rows narrows 'for every input' (looked for: loops, veiled, ifaces, maps, wideKeys, modest, calm, conditions, laid).
  DERIVED. THE GIVEN ROWS OF THIS SEAT. 12 by the template 'for every input the law returns true; each argument reads behind the call as it read before'; 0 by the template 'total and deterministic' (their statements: YtlckkcefkiffjaaTotals.lean).
  GIVEN WITH THE SEED: the statements are not yours to turn. If you find one false, say at which input.
  Laid BY PROGRAM, IN A SANDBOX (cutbox-rows.mjs): the forced cells as the released guide's own fill.sh prints them over the translation 8baa5d4c5b039cd1… (all of the seat's roots in one cut). By AI agents, Wed Nov 11 2026. No macro, syntax, notation, axiom, sorry.
-/
import Derived.Test.YtlckkcefkiffjaaChecked
import GoSem.Claim
import GoSem.ClaimJoined
import GoSem.ClaimMapViews
import Derived.JoinedTies
import Derived.KernelRfl
namespace Go.Proofs.Ytlckkcefkiffjaa
/- THE CELL 'sum', in the pinned program and in every row, IS THE sha256 OF THE DUMP (.gsa) THAT YtlckkcefkiffjaaProg.lean LOADS. Nothing in Lean hashes anything: it is a label: what it is worth is what the hold of that sum in a sandbox is worth. -/
noncomputable def Try.pinned : Pinned := { name := "ytlckkcefkiffjaa", sum := "8baa5d4c5b039cd1018159bd36fb1c186f8e243a42c8d4539750f6744aff9c7c", checked := Try.checked }
namespace Rows
def none {H : Type} : Left H := { results := [], args := [] }

/-- 'siskinlaw05.NamesSets': WHATEVER THE INPUT: true; the input reads as it did. -/
def namesSetsSpec : ChangeSpec := { name := "namesSets", fn := fun _ => fun
  | [d1, d2, d3] => { results := [.lit (.bool true)], args := [d1, d2, d3] }
  | _ => none }
def namesSetsRow : OpenClaim := { program := "ytlckkcefkiffjaa", sum := "8baa5d4c5b039cd1018159bd36fb1c186f8e243a42c8d4539750f6744aff9c7c", func := "siskin/siskinlaw05.NamesSets", spec := "namesSets", unfollowed := true, recurses := true, apart := false }
def NamesSetsSaid : Prop := namesSetsRow.holds Try.pinned (OpenSpec.ofChange namesSetsSpec)

/-- ITS FALSE NEIGHBOUR: 'it returns false'. Refute it at one input. -/
def namesSetsWrong : ChangeSpec := { name := "namesSets", fn := fun _ => fun
  | [d1, d2, d3] => { results := [.lit (.bool false)], args := [d1, d2, d3] }
  | _ => none }
def NamesSetsWrongFalsely : Prop := namesSetsRow.holds Try.pinned (OpenSpec.ofChange namesSetsWrong)

/-- 'siskinlaw04.GlyphNames': WHATEVER THE INPUT: true; the input reads as it did. -/
def glyphNamesSpec : ChangeSpec := { name := "glyphNames", fn := fun _ => fun
  | [d1, d2] => { results := [.lit (.bool true)], args := [d1, d2] }
  | _ => none }
def glyphNamesRow : OpenClaim := { program := "ytlckkcefkiffjaa", sum := "8baa5d4c5b039cd1018159bd36fb1c186f8e243a42c8d4539750f6744aff9c7c", func := "siskin/siskinlaw04.GlyphNames", spec := "glyphNames", apart := false }
def GlyphNamesSaid : Prop := glyphNamesRow.holds Try.pinned (OpenSpec.ofChange glyphNamesSpec)

/-- ITS FALSE NEIGHBOUR: 'it returns false'. Refute it at one input. -/
def glyphNamesWrong : ChangeSpec := { name := "glyphNames", fn := fun _ => fun
  | [d1, d2] => { results := [.lit (.bool false)], args := [d1, d2] }
  | _ => none }
def GlyphNamesWrongFalsely : Prop := glyphNamesRow.holds Try.pinned (OpenSpec.ofChange glyphNamesWrong)

/-- 'siskinlaw16.DiskTorn': WHATEVER THE INPUT: true; the input reads as it did. -/
def diskTornSpec : ChangeSpec := { name := "diskTorn", fn := fun _ => fun
  | [d1, d2] => { results := [.lit (.bool true)], args := [d1, d2] }
  | _ => none }
def diskTornRow : OpenClaim := { program := "ytlckkcefkiffjaa", sum := "8baa5d4c5b039cd1018159bd36fb1c186f8e243a42c8d4539750f6744aff9c7c", func := "siskin/siskinlaw16.DiskTorn", spec := "diskTorn", apart := false }
def DiskTornSaid : Prop := diskTornRow.holds Try.pinned (OpenSpec.ofChange diskTornSpec)

/-- ITS FALSE NEIGHBOUR: 'it returns false'. Refute it at one input. -/
def diskTornWrong : ChangeSpec := { name := "diskTorn", fn := fun _ => fun
  | [d1, d2] => { results := [.lit (.bool false)], args := [d1, d2] }
  | _ => none }
def DiskTornWrongFalsely : Prop := diskTornRow.holds Try.pinned (OpenSpec.ofChange diskTornWrong)

/-- 'siskinlaw04.GlyphRunes': WHATEVER THE INPUT: true; the input reads as it did. -/
def glyphRunesSpec : ChangeSpec := { name := "glyphRunes", fn := fun _ => fun
  | [d1, d2] => { results := [.lit (.bool true)], args := [d1, d2] }
  | _ => none }
def glyphRunesRow : OpenClaim := { program := "ytlckkcefkiffjaa", sum := "8baa5d4c5b039cd1018159bd36fb1c186f8e243a42c8d4539750f6744aff9c7c", func := "siskin/siskinlaw04.GlyphRunes", spec := "glyphRunes", unfollowed := true, recurses := true, apart := false }
def GlyphRunesSaid : Prop := glyphRunesRow.holds Try.pinned (OpenSpec.ofChange glyphRunesSpec)

/-- ITS FALSE NEIGHBOUR: 'it returns false'. Refute it at one input. -/
def glyphRunesWrong : ChangeSpec := { name := "glyphRunes", fn := fun _ => fun
  | [d1, d2] => { results := [.lit (.bool false)], args := [d1, d2] }
  | _ => none }
def GlyphRunesWrongFalsely : Prop := glyphRunesRow.holds Try.pinned (OpenSpec.ofChange glyphRunesWrong)

/-- 'siskinlaw28.NetOrder': WHATEVER THE INPUT: true; the input reads as it did. -/
def netOrderSpec : ChangeSpec := { name := "netOrder", fn := fun _ => fun
  | [d1, d2] => { results := [.lit (.bool true)], args := [d1, d2] }
  | _ => none }
def netOrderRow : OpenClaim := { program := "ytlckkcefkiffjaa", sum := "8baa5d4c5b039cd1018159bd36fb1c186f8e243a42c8d4539750f6744aff9c7c", func := "siskin/siskinlaw28.NetOrder", spec := "netOrder", apart := false }
def NetOrderSaid : Prop := netOrderRow.holds Try.pinned (OpenSpec.ofChange netOrderSpec)

/-- ITS FALSE NEIGHBOUR: 'it returns false'. Refute it at one input. -/
def netOrderWrong : ChangeSpec := { name := "netOrder", fn := fun _ => fun
  | [d1, d2] => { results := [.lit (.bool false)], args := [d1, d2] }
  | _ => none }
def NetOrderWrongFalsely : Prop := netOrderRow.holds Try.pinned (OpenSpec.ofChange netOrderWrong)

/-- 'siskinlaw05.NamesTables': WHATEVER THE INPUT: true; the input reads as it did. -/
def namesTablesSpec : ChangeSpec := { name := "namesTables", fn := fun _ => fun
  | [d1, d2, d3] => { results := [.lit (.bool true)], args := [d1, d2, d3] }
  | _ => none }
def namesTablesRow : OpenClaim := { program := "ytlckkcefkiffjaa", sum := "8baa5d4c5b039cd1018159bd36fb1c186f8e243a42c8d4539750f6744aff9c7c", func := "siskin/siskinlaw05.NamesTables", spec := "namesTables", unfollowed := true, recurses := true, apart := false }
def NamesTablesSaid : Prop := namesTablesRow.holds Try.pinned (OpenSpec.ofChange namesTablesSpec)

/-- ITS FALSE NEIGHBOUR: 'it returns false'. Refute it at one input. -/
def namesTablesWrong : ChangeSpec := { name := "namesTables", fn := fun _ => fun
  | [d1, d2, d3] => { results := [.lit (.bool false)], args := [d1, d2, d3] }
  | _ => none }
def NamesTablesWrongFalsely : Prop := namesTablesRow.holds Try.pinned (OpenSpec.ofChange namesTablesWrong)

/-- 'siskinlaw04.GlyphJoins': WHATEVER THE INPUT: true; the input reads as it did. -/
def glyphJoinsSpec : ChangeSpec := { name := "glyphJoins", fn := fun _ => fun
  | [d] => { results := [.lit (.bool true)], args := [d] }
  | _ => none }
def glyphJoinsRow : OpenClaim := { program := "ytlckkcefkiffjaa", sum := "8baa5d4c5b039cd1018159bd36fb1c186f8e243a42c8d4539750f6744aff9c7c", func := "siskin/siskinlaw04.GlyphJoins", spec := "glyphJoins", unfollowed := true, recurses := true, apart := false }
def GlyphJoinsSaid : Prop := glyphJoinsRow.holds Try.pinned (OpenSpec.ofChange glyphJoinsSpec)

/-- ITS FALSE NEIGHBOUR: 'it returns false'. Refute it at one input. -/
def glyphJoinsWrong : ChangeSpec := { name := "glyphJoins", fn := fun _ => fun
  | [d] => { results := [.lit (.bool false)], args := [d] }
  | _ => none }
def GlyphJoinsWrongFalsely : Prop := glyphJoinsRow.holds Try.pinned (OpenSpec.ofChange glyphJoinsWrong)

/-- 'siskinlaw05.NamesBack': WHATEVER THE INPUT: true; the input reads as it did. -/
def namesBackSpec : ChangeSpec := { name := "namesBack", fn := fun _ => fun
  | [d1, d2] => { results := [.lit (.bool true)], args := [d1, d2] }
  | _ => none }
def namesBackRow : OpenClaim := { program := "ytlckkcefkiffjaa", sum := "8baa5d4c5b039cd1018159bd36fb1c186f8e243a42c8d4539750f6744aff9c7c", func := "siskin/siskinlaw05.NamesBack", spec := "namesBack", unfollowed := true, recurses := true, apart := false }
def NamesBackSaid : Prop := namesBackRow.holds Try.pinned (OpenSpec.ofChange namesBackSpec)

/-- ITS FALSE NEIGHBOUR: 'it returns false'. Refute it at one input. -/
def namesBackWrong : ChangeSpec := { name := "namesBack", fn := fun _ => fun
  | [d1, d2] => { results := [.lit (.bool false)], args := [d1, d2] }
  | _ => none }
def NamesBackWrongFalsely : Prop := namesBackRow.holds Try.pinned (OpenSpec.ofChange namesBackWrong)

/-- 'siskinlaw16.DiskPlays': WHATEVER THE INPUT: true; the input reads as it did. -/
def diskPlaysSpec : ChangeSpec := { name := "diskPlays", fn := fun _ => fun
  | [d1, d2] => { results := [.lit (.bool true)], args := [d1, d2] }
  | _ => none }
def diskPlaysRow : OpenClaim := { program := "ytlckkcefkiffjaa", sum := "8baa5d4c5b039cd1018159bd36fb1c186f8e243a42c8d4539750f6744aff9c7c", func := "siskin/siskinlaw16.DiskPlays", spec := "diskPlays", apart := false }
def DiskPlaysSaid : Prop := diskPlaysRow.holds Try.pinned (OpenSpec.ofChange diskPlaysSpec)

/-- ITS FALSE NEIGHBOUR: 'it returns false'. Refute it at one input. -/
def diskPlaysWrong : ChangeSpec := { name := "diskPlays", fn := fun _ => fun
  | [d1, d2] => { results := [.lit (.bool false)], args := [d1, d2] }
  | _ => none }
def DiskPlaysWrongFalsely : Prop := diskPlaysRow.holds Try.pinned (OpenSpec.ofChange diskPlaysWrong)

/-- 'siskinlaw28.NetPlays': WHATEVER THE INPUT: true; the input reads as it did. -/
def netPlaysSpec : ChangeSpec := { name := "netPlays", fn := fun _ => fun
  | [d1, d2] => { results := [.lit (.bool true)], args := [d1, d2] }
  | _ => none }
def netPlaysRow : OpenClaim := { program := "ytlckkcefkiffjaa", sum := "8baa5d4c5b039cd1018159bd36fb1c186f8e243a42c8d4539750f6744aff9c7c", func := "siskin/siskinlaw28.NetPlays", spec := "netPlays", apart := false }
def NetPlaysSaid : Prop := netPlaysRow.holds Try.pinned (OpenSpec.ofChange netPlaysSpec)

/-- ITS FALSE NEIGHBOUR: 'it returns false'. Refute it at one input. -/
def netPlaysWrong : ChangeSpec := { name := "netPlays", fn := fun _ => fun
  | [d1, d2] => { results := [.lit (.bool false)], args := [d1, d2] }
  | _ => none }
def NetPlaysWrongFalsely : Prop := netPlaysRow.holds Try.pinned (OpenSpec.ofChange netPlaysWrong)

/-- 'siskinlaw17.RecSizes': WHATEVER THE INPUT: true; the input reads as it did. -/
def recSizesSpec : ChangeSpec := { name := "recSizes", fn := fun _ => fun
  | [d1, d2] => { results := [.lit (.bool true)], args := [d1, d2] }
  | _ => none }
def recSizesRow : OpenClaim := { program := "ytlckkcefkiffjaa", sum := "8baa5d4c5b039cd1018159bd36fb1c186f8e243a42c8d4539750f6744aff9c7c", func := "siskin/siskinlaw17.RecSizes", spec := "recSizes", unfollowed := true, recurses := true, apart := false }
def RecSizesSaid : Prop := recSizesRow.holds Try.pinned (OpenSpec.ofChange recSizesSpec)

/-- ITS FALSE NEIGHBOUR: 'it returns false'. Refute it at one input. -/
def recSizesWrong : ChangeSpec := { name := "recSizes", fn := fun _ => fun
  | [d1, d2] => { results := [.lit (.bool false)], args := [d1, d2] }
  | _ => none }
def RecSizesWrongFalsely : Prop := recSizesRow.holds Try.pinned (OpenSpec.ofChange recSizesWrong)

/-- 'siskinlaw08.LexWords': WHATEVER THE INPUT: true; the input reads as it did. -/
def lexWordsSpec : ChangeSpec := { name := "lexWords", fn := fun _ => fun
  | [d] => { results := [.lit (.bool true)], args := [d] }
  | _ => none }
def lexWordsRow : OpenClaim := { program := "ytlckkcefkiffjaa", sum := "8baa5d4c5b039cd1018159bd36fb1c186f8e243a42c8d4539750f6744aff9c7c", func := "siskin/siskinlaw08.LexWords", spec := "lexWords", inPlace := ["internal/bytealg.IndexByteString", "internal/bytealg.IndexString"], named := ["internal/bytealg.MaxLen"], apart := false }
def LexWordsSaid : Prop := lexWordsRow.holds Try.pinned (OpenSpec.ofChange lexWordsSpec)

/-- ITS FALSE NEIGHBOUR: 'it returns false'. Refute it at one input. -/
def lexWordsWrong : ChangeSpec := { name := "lexWords", fn := fun _ => fun
  | [d] => { results := [.lit (.bool false)], args := [d] }
  | _ => none }
def LexWordsWrongFalsely : Prop := lexWordsRow.holds Try.pinned (OpenSpec.ofChange lexWordsWrong)

/- THE SECOND FORM. 'bulk': how many values and letters a reading holds, each counted each time it is reached (what is shared counts as often as it is met; a slice's spare places count too). A statement '..UptoSaid' is the law's where the arguments, and the package variables that the reading takes, are together of bulk at most 1048576: NARROWER than '..Said'. Prove '..Said' where nothing that the law and all that it calls make is longer than what came in: it says more and counts as full. Else prove '..UptoSaid'. A law counts once. -/
mutual
def uptoBulk {H : Type} : DataW H → Nat
  | .lit (.string bytes) => bytes.length + 1
  | .lit _ => 1
  | .nil => 1
  | .ptr d => uptoBulk d + 1
  | .slice elems spare => uptoBulkAll elems + uptoBulkAll spare + 1
  | .agg parts => uptoBulkAll parts + 1
  | .iface _ d => uptoBulk d + 1
  | .map entries => uptoBulkEntries entries + 1
  | .held _ => 1
def uptoBulkAll {H : Type} : List (DataW H) → Nat
  | [] => 0
  | d :: r => uptoBulk d + uptoBulkAll r
def uptoBulkEntries {H : Type} : List (Lit × DataW H) → Nat
  | [] => 0
  | x :: r => uptoBulkEntry x + uptoBulkEntries r
def uptoBulkEntry {H : Type} : Lit × DataW H → Nat
  | (.string bytes, d) => bytes.length + uptoBulk d + 1
  | (_, d) => uptoBulk d + 1
 end
def uptoSmall : (H : Type) → List (DataW H) → Bool := fun _ ds => decide (uptoBulkAll ds ≤ 1048576)
def OpenSpec.upto (s : _root_.Go.ChangeSpec) : _root_.Go.OpenSpec := { _root_.Go.OpenSpec.ofChange s with cond := some uptoSmall }

/-- 'siskinlaw05.NamesSets', WHERE WHAT IT READS IS OF BULK AT MOST 1048576: true; the input reads as it did. -/
def namesSetsUptoRow : OpenClaim := { program := "ytlckkcefkiffjaa", sum := "8baa5d4c5b039cd1018159bd36fb1c186f8e243a42c8d4539750f6744aff9c7c", func := "siskin/siskinlaw05.NamesSets", spec := "namesSets", unfollowed := true, recurses := true, apart := false, narrowed := true }
def NamesSetsUptoSaid : Prop := namesSetsUptoRow.holds Try.pinned (OpenSpec.upto namesSetsSpec)

/-- 'siskinlaw04.GlyphNames', WHERE WHAT IT READS IS OF BULK AT MOST 1048576: true; the input reads as it did. -/
def glyphNamesUptoRow : OpenClaim := { program := "ytlckkcefkiffjaa", sum := "8baa5d4c5b039cd1018159bd36fb1c186f8e243a42c8d4539750f6744aff9c7c", func := "siskin/siskinlaw04.GlyphNames", spec := "glyphNames", apart := false, narrowed := true }
def GlyphNamesUptoSaid : Prop := glyphNamesUptoRow.holds Try.pinned (OpenSpec.upto glyphNamesSpec)

/-- 'siskinlaw16.DiskTorn', WHERE WHAT IT READS IS OF BULK AT MOST 1048576: true; the input reads as it did. -/
def diskTornUptoRow : OpenClaim := { program := "ytlckkcefkiffjaa", sum := "8baa5d4c5b039cd1018159bd36fb1c186f8e243a42c8d4539750f6744aff9c7c", func := "siskin/siskinlaw16.DiskTorn", spec := "diskTorn", apart := false, narrowed := true }
def DiskTornUptoSaid : Prop := diskTornUptoRow.holds Try.pinned (OpenSpec.upto diskTornSpec)

/-- 'siskinlaw04.GlyphRunes', WHERE WHAT IT READS IS OF BULK AT MOST 1048576: true; the input reads as it did. -/
def glyphRunesUptoRow : OpenClaim := { program := "ytlckkcefkiffjaa", sum := "8baa5d4c5b039cd1018159bd36fb1c186f8e243a42c8d4539750f6744aff9c7c", func := "siskin/siskinlaw04.GlyphRunes", spec := "glyphRunes", unfollowed := true, recurses := true, apart := false, narrowed := true }
def GlyphRunesUptoSaid : Prop := glyphRunesUptoRow.holds Try.pinned (OpenSpec.upto glyphRunesSpec)

/-- 'siskinlaw28.NetOrder', WHERE WHAT IT READS IS OF BULK AT MOST 1048576: true; the input reads as it did. -/
def netOrderUptoRow : OpenClaim := { program := "ytlckkcefkiffjaa", sum := "8baa5d4c5b039cd1018159bd36fb1c186f8e243a42c8d4539750f6744aff9c7c", func := "siskin/siskinlaw28.NetOrder", spec := "netOrder", apart := false, narrowed := true }
def NetOrderUptoSaid : Prop := netOrderUptoRow.holds Try.pinned (OpenSpec.upto netOrderSpec)

/-- 'siskinlaw05.NamesTables', WHERE WHAT IT READS IS OF BULK AT MOST 1048576: true; the input reads as it did. -/
def namesTablesUptoRow : OpenClaim := { program := "ytlckkcefkiffjaa", sum := "8baa5d4c5b039cd1018159bd36fb1c186f8e243a42c8d4539750f6744aff9c7c", func := "siskin/siskinlaw05.NamesTables", spec := "namesTables", unfollowed := true, recurses := true, apart := false, narrowed := true }
def NamesTablesUptoSaid : Prop := namesTablesUptoRow.holds Try.pinned (OpenSpec.upto namesTablesSpec)

/-- 'siskinlaw04.GlyphJoins', WHERE WHAT IT READS IS OF BULK AT MOST 1048576: true; the input reads as it did. -/
def glyphJoinsUptoRow : OpenClaim := { program := "ytlckkcefkiffjaa", sum := "8baa5d4c5b039cd1018159bd36fb1c186f8e243a42c8d4539750f6744aff9c7c", func := "siskin/siskinlaw04.GlyphJoins", spec := "glyphJoins", unfollowed := true, recurses := true, apart := false, narrowed := true }
def GlyphJoinsUptoSaid : Prop := glyphJoinsUptoRow.holds Try.pinned (OpenSpec.upto glyphJoinsSpec)

/-- 'siskinlaw05.NamesBack', WHERE WHAT IT READS IS OF BULK AT MOST 1048576: true; the input reads as it did. -/
def namesBackUptoRow : OpenClaim := { program := "ytlckkcefkiffjaa", sum := "8baa5d4c5b039cd1018159bd36fb1c186f8e243a42c8d4539750f6744aff9c7c", func := "siskin/siskinlaw05.NamesBack", spec := "namesBack", unfollowed := true, recurses := true, apart := false, narrowed := true }
def NamesBackUptoSaid : Prop := namesBackUptoRow.holds Try.pinned (OpenSpec.upto namesBackSpec)

/-- 'siskinlaw16.DiskPlays', WHERE WHAT IT READS IS OF BULK AT MOST 1048576: true; the input reads as it did. -/
def diskPlaysUptoRow : OpenClaim := { program := "ytlckkcefkiffjaa", sum := "8baa5d4c5b039cd1018159bd36fb1c186f8e243a42c8d4539750f6744aff9c7c", func := "siskin/siskinlaw16.DiskPlays", spec := "diskPlays", apart := false, narrowed := true }
def DiskPlaysUptoSaid : Prop := diskPlaysUptoRow.holds Try.pinned (OpenSpec.upto diskPlaysSpec)

/-- 'siskinlaw28.NetPlays', WHERE WHAT IT READS IS OF BULK AT MOST 1048576: true; the input reads as it did. -/
def netPlaysUptoRow : OpenClaim := { program := "ytlckkcefkiffjaa", sum := "8baa5d4c5b039cd1018159bd36fb1c186f8e243a42c8d4539750f6744aff9c7c", func := "siskin/siskinlaw28.NetPlays", spec := "netPlays", apart := false, narrowed := true }
def NetPlaysUptoSaid : Prop := netPlaysUptoRow.holds Try.pinned (OpenSpec.upto netPlaysSpec)

/-- 'siskinlaw17.RecSizes', WHERE WHAT IT READS IS OF BULK AT MOST 1048576: true; the input reads as it did. -/
def recSizesUptoRow : OpenClaim := { program := "ytlckkcefkiffjaa", sum := "8baa5d4c5b039cd1018159bd36fb1c186f8e243a42c8d4539750f6744aff9c7c", func := "siskin/siskinlaw17.RecSizes", spec := "recSizes", unfollowed := true, recurses := true, apart := false, narrowed := true }
def RecSizesUptoSaid : Prop := recSizesUptoRow.holds Try.pinned (OpenSpec.upto recSizesSpec)

/-- 'siskinlaw08.LexWords', WHERE WHAT IT READS IS OF BULK AT MOST 1048576: true; the input reads as it did. -/
def lexWordsUptoRow : OpenClaim := { program := "ytlckkcefkiffjaa", sum := "8baa5d4c5b039cd1018159bd36fb1c186f8e243a42c8d4539750f6744aff9c7c", func := "siskin/siskinlaw08.LexWords", spec := "lexWords", inPlace := ["internal/bytealg.IndexByteString", "internal/bytealg.IndexString"], named := ["internal/bytealg.MaxLen"], apart := false, narrowed := true }
def LexWordsUptoSaid : Prop := lexWordsUptoRow.holds Try.pinned (OpenSpec.upto lexWordsSpec)

end Rows
end Go.Proofs.Ytlckkcefkiffjaa
