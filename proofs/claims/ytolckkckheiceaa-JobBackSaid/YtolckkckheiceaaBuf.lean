/- Bytes that are written in place: '[]byte(s)', whatever mark its block bears. -/
import Derived.Test.YtolckkckheiceaaLib
import Derived.Lib.ConvBytes
namespace Go.Proofs.Ytolckkckheiceaa
open Go.RowKit

def bytesV (l : List UInt8) : List Value := l.map fun x => .int .u8 x.toNat
/-- The block g holds the bytes l (and may hold more behind them). -/
def Buf (w : World) (g : Nat) (e : TypeId) (l : List UInt8) : Prop :=
  ∃ row lo hi, w.heap[g]? = some (.cells row e (lo, hi)) ∧ l.length ≤ row.size ∧ (hi ≤ lo ∨ l.length ≤ lo) ∧ ∀ (j : Nat) x, l[j]? = some x → row[j]? = some (.int .u8 x.toNat)

section
variable {w w1 : World} {g : Nat} {e : TypeId} {l : List UInt8}
theorem Buf.lt (h : Buf w g e l) : g < w.heap.size := by
  obtain ⟨row, lo, hi, h1, _⟩ := h
  exact (Array.getElem?_eq_some_iff.1 h1).1
theorem Buf.move (h : Buf w g e l) (hm : w1.heap[g]? = w.heap[g]?) : Buf w1 g e l := by
  obtain ⟨row, lo, hi, h1, h2⟩ := h
  exact ⟨row, lo, hi, hm.trans h1, h2⟩
theorem Buf.below (h : Buf w g e l) (hb : Below w.heap.size w w1) : Buf w1 g e l := h.move (hb.block g h.lt)
theorem Buf.cell (h : Buf w g e l) {j : Nat} {x : UInt8} (hx : l[j]? = some x) : w.cell? ⟨g, j, none⟩ = some (.int .u8 x.toNat) := by
  obtain ⟨row, lo, hi, h1, _, _, h4⟩ := h
  simp only [World.cell?, h1]
  exact h4 j x hx
theorem Buf.free (h : Buf w g e l) {j : Nat} (hj : j < l.length) : w.frozen? ⟨g, j, none⟩ = false := by
  obtain ⟨row, lo, hi, h1, _, h3, _⟩ := h
  simp only [World.frozen?, h1, Bool.and_eq_false_iff, decide_eq_false_iff_not]
  rcases h3 with h3 | h3 <;> omega
theorem Buf.store (h : Buf w g e l) (j : Nat) (y : UInt8) : Buf (w.setCell ⟨g, j, none⟩ (.int .u8 y.toNat)) g e (l.set j y) := by
  obtain ⟨row, lo, hi, h1, h2, h3, h4⟩ := h
  refine ⟨row.setIfInBounds j (.int .u8 y.toNat), lo, hi, ?_, by simpa using h2, by simpa using h3, fun i x hx => ?_⟩
  · simp [World.setCell, Array.getElem?_modify, h1]
  · rw [List.getElem?_set] at hx
    rw [Array.getElem?_setIfInBounds]
    split at hx
    · rename_i hji
      subst hji
      split at hx
      · injection hx with hx
        subst hx
        rw [if_pos rfl, if_pos (by omega)]
      · cases hx
    · rename_i hji
      rw [if_neg hji]
      exact h4 i x hx
theorem Buf.K (h : Buf w g e l) (hm : l.length ≤ 140737488355328) (c : Nat) (hc : l.length ≤ c) : (Kd.flat 1 (fun x : UInt8 => [Value.int .u8 x.toNat]) (fun _ => rfl) (fun x u hu => by rw [List.mem_singleton.1 hu]; rfl)).slice.K w (fun b => b = g) l [.slice (some ⟨g, 0, none⟩) l.length c] := by
  refine ⟨some ⟨g, 0, none⟩, c, rfl, hc, hm, fun i x hx => ⟨⟨g, 0, none⟩, [.int .u8 x.toNat], rfl, rfl, h.lt, rfl, fun j u hu => ?_⟩⟩
  match j, hu with
  | 0, hu =>
    simp at hu
    subst hu
    have := h.cell hx
    show w.cell? (Addr.add ⟨g, 0, none⟩ (i * 1 + 0)) = _
    rw [Nat.mul_one, Nat.add_zero]
    unfold Addr.add
    split
    · rename_i h0; subst h0; exact this
    · simpa using this
theorem Buf.new (W : World) (e : TypeId) (s : ByteArray) : Buf (Lib.bytesWorld W e s) W.heap.size e s.data.toList := by
  refine ⟨_, _, _, Lib.bytesWorld_at_new W e s, ?_, .inr ?_, fun j x hx => ?_⟩
  · simp [Lib.bytesCells]
  · simp [Lib.bytesCells]
  · have hj := (List.getElem?_eq_some_iff.1 hx).1
    rw [Array.length_toList] at hj
    rw [Array.getElem?_toList] at hx
    simp only [Lib.bytesCells]
    rw [Array.getElem?_append_left (by simpa using hj), Array.getElem?_map, hx]
    rfl
end
theorem below_bytes {B : Nat} {w W : World} (h : Below B w W) (hB : B ≤ W.heap.size) (e : TypeId) (s : ByteArray) : Below B w (Lib.bytesWorld W e s) :=
  h.trans ⟨rfl, rfl, rfl, by rw [Lib.bytesWorld_size]; omega, fun i hi => Lib.bytesWorld_at_old W e s i (by omega)⟩

/-- 'string(b)', b such bytes. -/
theorem Buf.str {P : Program} {w : World} {g : Nat} {src e dst : TypeId} {l : List UInt8} (h : Buf w g e l) (hs : P.underlying src = some (.slice e)) (he : P.underlying e = some (.int .u8)) (hd : P.underlying dst = some .string) (c : Nat) :
    (convert src dst (.slice (some ⟨g, 0, none⟩) l.length c)).run P w = .ok (.string ⟨l.toArray⟩) w := by
  have := run_convert_bytes_arg w src e hs he g 0 l.length c (l.map fun x => (x.toNat : Int)) (by simp) (fun i hi => by
    rw [Nat.zero_add, h.cell (List.getElem?_eq_getElem hi)]
    simp [List.getD, List.getElem?_eq_getElem hi]) dst hd
  rw [this]
  congr 2
  unfold strOfNums
  congr 2
  rw [List.map_map]
  conv => rhs; rw [← List.map_id l]
  exact List.map_congr_left fun x _ => by simp
end Go.Proofs.Ytolckkckheiceaa
