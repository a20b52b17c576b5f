import Derived.Test.YtolckkckheiceaaProg
import Derived.Test.YtolckkckheiceaaRunes
import Derived.Test.YtolckkckheiceaaBuf
import Derived.Handy
import Derived.Test.YtolckkckheiceaaGlyph0
namespace Go.Proofs.Ytolckkckheiceaa
open Go.RowKit Go.Lib

/-- What At tells. -/
def atS (s : ByteArray) (k : Int) : Int × Int := if 0 ≤ k then match (runes s)[k.toNat]? with | some r => (r.C, r.At) | none => (0, -1) else (0, -1)

/-- The bytes half folded. -/
def halfL (l : List UInt8) (k : Nat) : List UInt8 := foldL (l.take k) ++ l.drop k
theorem halfL_len (l : List UInt8) (k : Nat) : (halfL l k).length = l.length := by
  unfold halfL foldL
  rw [List.length_append, List.length_map, List.length_take, List.length_drop]; omega
theorem halfL_at {l : List UInt8} {k : Nat} {x : UInt8} (hx : l[k]? = some x) : (halfL l k)[k]? = some x := by
  have hk := (List.getElem?_eq_some_iff.1 hx).1
  unfold halfL
  rw [List.getElem?_append_right (by unfold foldL; rw [List.length_map, List.length_take]; omega), List.getElem?_drop]
  unfold foldL
  rw [List.length_map, List.length_take, Nat.min_eq_left (by omega), Nat.sub_self, Nat.add_zero]
  exact hx
theorem halfL_step {l : List UInt8} {k : Nat} {x : UInt8} (hx : l[k]? = some x) : halfL l (k + 1) = (halfL l k).set k (lowB x) := by
  have hk := (List.getElem?_eq_some_iff.1 hx).1
  have hl : (foldL (l.take k)).length = k := by unfold foldL; rw [List.length_map, List.length_take]; omega
  have hd : l.drop k = x :: l.drop (k + 1) := by rw [List.drop_eq_getElem_cons hk]; congr 1; rw [List.getElem?_eq_getElem hk] at hx; injection hx
  unfold halfL
  rw [List.set_append_right _ _ (by omega), hl, Nat.sub_self, hd, List.set_cons_zero]
  have : foldL (l.take (k + 1)) = foldL (l.take k) ++ [lowB x] := by unfold foldL; rw [take_snoc hx, List.map_append]; rfl
  rw [this]; simp
theorem halfL_same {l : List UInt8} {k : Nat} {x : UInt8} (hx : l[k]? = some x) (h : lowB x = x) : halfL l (k + 1) = halfL l k := by
  rw [halfL_step hx, h]
  have := halfL_at hx
  obtain ⟨hk, hy⟩ := List.getElem?_eq_some_iff.1 this
  rw [← hy]; exact List.set_getElem_self hk

end Go.Proofs.Ytolckkckheiceaa
