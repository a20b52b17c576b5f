/- A store into an element of a row of the call's own. No Go program in sight. -/
import Derived.Test.YteijgeofimcijaaBox
namespace Go.Proofs.Yteijgeofimcijaa
open Go.RowKit

theorem Cells.set {α : Type} {d : Kd α} {w : World} {S : Nat → Prop} {xs : List α} {cs : List Value} (h : Cells d w S xs cs) (i : Nat) (x y : α) (hx : xs[i]? = some x) (j : Nat) (hj : j < d.sz) (u : Value) (hK : ∀ cs, d.K w S x cs → d.K w S y (cs.set j u)) :
    Cells d w S (xs.set i y) (cs.set (i * d.sz + j) u) := by
  induction xs generalizing cs i with
  | nil => simp at hx
  | cons z xs ih =>
    obtain ⟨c, r, rfl, h1, h2⟩ := h
    have hl := d.len h1
    cases i with
    | zero =>
      obtain rfl : z = x := by simpa using hx
      refine ⟨c.set j u, r, ?_, hK _ h1, h2⟩
      rw [Nat.zero_mul, Nat.zero_add, List.set_append_left _ _ (by omega)]
    | succ i =>
      refine ⟨c, r.set (i * d.sz + j) u, ?_, h1, ih h2 i (by simpa using hx)⟩
      rw [Nat.add_mul, Nat.one_mul, List.set_append_right _ _ (by omega)]
      congr 2; omega
theorem Own.set {α : Type} {d : Kd α} {e : TypeId} {w : World} {base : Nat} {T : Nat → Prop} {g m c : Nat} {xs : List α} (h : Own d e w base T (.slice (some ⟨g, 0, none⟩) m c) xs) (i : Nat) (x y : α) (hx : xs[i]? = some x) (j : Nat) (hj : j < d.sz) (u : Value)
    (hK : ∀ w S cs, d.K w S x cs → d.K w S y (cs.set j u)) (p : Addr) (hp : p = ⟨g, i * d.sz + j, none⟩) : Own d e (w.setCell p u) base T (.slice (some ⟨g, 0, none⟩) m c) (xs.set i y) := by
  subst hp
  obtain ⟨h0, cells, hown, hr⟩ := h
  refine ⟨by rw [List.length_set]; exact h0, cells.set (i * d.sz + j) u, ?_, ?_⟩
  · rw [List.length_set]
    refine ⟨by rw [List.length_set]; exact hown.1, ?_⟩
    rcases hown.2 with ⟨h1, _⟩ | ⟨g', cap, cur, h1, hg, hh, hnc, hcm, hcs, ht⟩
    · cases h1
    · cases h1
      refine .inr ⟨g, _, cur.setIfInBounds (i * d.sz + j) u, rfl, hg, heap_set hh _ _, hnc, hcm, by simpa using hcs, ?_⟩
      rw [Array.toList_setIfInBounds, List.take_set, ht]
  · exact (Cells.set hr i x y hx j hj u (fun cs => hK _ _ cs)).move (fun b hb _ => Below.heap_setCell w ⟨g, i * d.sz + j, none⟩ u b (fun e => hb.2 (by rw [e]; rfl))) (fun b hb _ => hb)
/-- Its cells may be written. -/
theorem Own.free {α : Type} {d : Kd α} {e : TypeId} {w : World} {base : Nat} {T : Nat → Prop} {g m c : Nat} {xs : List α} (h : Own d e w base T (.slice (some ⟨g, 0, none⟩) m c) xs) : g < w.heap.size ∧ base ≤ g ∧ ∀ j, w.frozen? ⟨g, j, none⟩ = false := by
  obtain ⟨_, cells, h1, _⟩ := h
  rcases h1.2 with ⟨h3, _⟩ | ⟨g', cap, cur, h3, hb, h5, _⟩
  · cases h3
  · cases h3
    exact ⟨(Array.getElem?_eq_some_iff.1 h5).1, hb, fun j => by simp [World.frozen?, h5]⟩
theorem Own.first {α : Type} {d : Kd α} {e : TypeId} {w : World} {base : Nat} {T : Nat → Prop} {A : Option Addr} {n c : Nat} {xs : List α} (h : Own d e w base T (.slice A n c) xs) (hn : 0 < xs.length) : ∃ b, A = some ⟨b, 0, none⟩ ∧ b < w.heap.size := by
  obtain ⟨_, cells, h1, _⟩ := h
  rcases h1.2 with ⟨h3, h4⟩ | ⟨g, cap, cur, h3, _, h5, _⟩
  · omega
  · injection h3 with h3
    subst h3
    exact ⟨g, rfl, (Array.getElem?_eq_some_iff.1 h5).1⟩
end Go.Proofs.Yteijgeofimcijaa
