/- An element of a row of entries, written anew. -/
import Derived.Test.YtgedkcglkhleoaaGreatDoorBookS
import Derived.Test.YtgedkcglkhleoaaGreatDoorBase
namespace Go.Proofs.YtgedkcglkhleoaaGreatDoor
open Go.RowKit

/-- An element of a row of the call's own, written anew. -/
theorem Own.put6 {w : World} {e : TypeId} {base g q c : Nat} {T : Nat → Prop} {b : List EntryS} (h : Own Kd.entry e w base T (.slice (some ⟨g, 0, none⟩) q c) b) (k : Nat) (hk : k < b.length) (y : EntryS) (v0 v1 v2 v3 v4 v5 : Value) (hK : Kd.entry.K w (fun j => T j ∧ j ≠ g) y [v0, v1, v2, v3, v4, v5]) :
    ∃ w1, w1 = (((((w.setCell ⟨g, k * 6, none⟩ v0).setCell ⟨g, k * 6 + 1, none⟩ v1).setCell ⟨g, k * 6 + 2, none⟩ v2).setCell ⟨g, k * 6 + 3, none⟩ v3).setCell ⟨g, k * 6 + 4, none⟩ v4).setCell ⟨g, k * 6 + 5, none⟩ v5 ∧ Kd.entry.slice.K w1 (fun j => T j ∨ base ≤ j) (b.set k y) [.slice (some ⟨g, 0, none⟩) q c] ∧ (∀ j, j ≠ g → w1.heap[j]? = w.heap[j]?) ∧ Below base w w1 := by
  obtain ⟨h0, cells, hown, hr⟩ := h
  rcases hown.2 with ⟨h1, _⟩ | ⟨g', cap, cur, h1, hg, hh, hnc, hcm, hcs, ht⟩
  · cases h1
  injection h1 with h1 h2 h3
  injection h1 with h1
  injection h1 with h1
  subst h1
  have e0 := heap_set hh (k * 6) v0
  have e1 := heap_set e0 (k * 6 + 1) v1
  have e2 := heap_set e1 (k * 6 + 2) v2
  have e3 := heap_set e2 (k * 6 + 3) v3
  have e4 := heap_set e3 (k * 6 + 4) v4
  have e5 := heap_set e4 (k * 6 + 5) v5
  obtain ⟨p, _, _⟩ := cells_of_block e5
  have hsz : k * 6 + 6 ≤ cur.size := by
    have : b.length * 6 ≤ cur.size := by
      have h6 : (6 : Nat) = Kd.entry.sz := rfl
      have : b.length ≤ cap := hnc
      have h7 : cap * 6 ≤ cur.size := hcs
      omega
    omega
  have hN : ∀ j, j ≠ g → ((((((w.setCell ⟨g, k * 6, none⟩ v0).setCell ⟨g, k * 6 + 1, none⟩ v1).setCell ⟨g, k * 6 + 2, none⟩ v2).setCell ⟨g, k * 6 + 3, none⟩ v3).setCell ⟨g, k * 6 + 4, none⟩ v4).setCell ⟨g, k * 6 + 5, none⟩ v5).heap[j]? = w.heap[j]? := fun j hj => by
    rw [Below.heap_setCell _ _ _ _ hj, Below.heap_setCell _ _ _ _ hj, Below.heap_setCell _ _ _ _ hj, Below.heap_setCell _ _ _ _ hj, Below.heap_setCell _ _ _ _ hj, Below.heap_setCell _ _ _ _ hj]
  refine ⟨_, rfl, ⟨some ⟨g, 0, none⟩, c, by rw [List.length_set, h2], by rw [List.length_set, h3]; exact hnc, by rw [List.length_set]; exact h0, fun i z hz => ?_⟩, hN, ?_⟩
  · by_cases hik : i = k
    · subst hik
      rw [List.getElem?_set_self hk] at hz
      obtain rfl := Option.some.inj hz
      refine ⟨⟨g, 0, none⟩, _, rfl, .inr hg, (Array.getElem?_eq_some_iff.1 e5).1, Kd.entry.move (fun j hj _ => hN j hj.2) (Kd.entry.mono (S' := fun j => (T j ∨ base ≤ j) ∧ j ≠ g) (fun j hj _ => ⟨.inl hj.1, hj.2⟩) hK) |> Kd.entry.mono (fun j hj _ => hj.1), fun j u hu => ?_⟩
      rw [add_lit0]
      refine p _ _ ?_
      show _ = some u
      have hj : j < 6 := (List.getElem?_eq_some_iff.1 hu).1
      have h6 : i * Kd.entry.sz = i * 6 := rfl
      rw [h6]
      simp only [Array.getElem?_setIfInBounds, Array.size_setIfInBounds]
      have : j = 0 ∨ j = 1 ∨ j = 2 ∨ j = 3 ∨ j = 4 ∨ j = 5 := by omega
      rcases this with rfl | rfl | rfl | rfl | rfl | rfl <;> (simp at hu; subst hu; simp; omega)
    · rw [List.getElem?_set_ne (fun h => hik h.symm)] at hz
      obtain ⟨cs, hkk, hcs2⟩ := hr.get i z hz
      refine ⟨⟨g, 0, none⟩, cs, rfl, .inr hg, (Array.getElem?_eq_some_iff.1 e5).1, Kd.entry.mono (fun j hj _ => .inl hj.1) (Kd.entry.move (fun j hj _ => hN j (fun e => hj.2 (by rw [e]; rfl))) hkk), fun j u hu => ?_⟩
      have hold := hown.cells (g := g) rfl _ u (hcs2 j u hu)
      rw [add_lit0] at hold ⊢
      have hj : j < 6 := by
        have := (List.getElem?_eq_some_iff.1 hu).1
        have h8 := Kd.entry.len hkk
        have h9 : Kd.entry.sz = 6 := rfl
        omega
      have h6 : i * Kd.entry.sz = i * 6 := rfl
      rw [h6] at hold ⊢
      refine p _ _ ?_
      rw [cell_of_row w g (i * 6 + j) cur e (0, 0) hh] at hold
      rw [Array.getElem?_setIfInBounds_ne (by omega), Array.getElem?_setIfInBounds_ne (by omega), Array.getElem?_setIfInBounds_ne (by omega), Array.getElem?_setIfInBounds_ne (by omega), Array.getElem?_setIfInBounds_ne (by omega), Array.getElem?_setIfInBounds_ne (by omega)]
      exact hold
  · exact (((((((Below.refl base w).setCell (p := ⟨g, k * 6, none⟩) hg v0).setCell (p := ⟨g, k * 6 + 1, none⟩) hg v1).setCell (p := ⟨g, k * 6 + 2, none⟩) hg v2).setCell (p := ⟨g, k * 6 + 3, none⟩) hg v3).setCell (p := ⟨g, k * 6 + 4, none⟩) hg v4).setCell (p := ⟨g, k * 6 + 5, none⟩) hg v5)
end Go.Proofs.YtgedkcglkhleoaaGreatDoor
