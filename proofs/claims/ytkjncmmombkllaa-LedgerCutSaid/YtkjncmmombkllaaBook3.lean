/- What a record does to a book: plain. -/
import Derived.Test.YtkjncmmombkllaaBook2
import Derived.Test.YtkjncmmombkllaaBase
namespace Go.Proofs.Ytkjncmmombkllaa
open Go.RowKit

theorem recOk_parts {x : RecS} (h : recOk x = true) : (1 ≤ x.kind ∧ x.kind ≤ 4) ∧ inB (hasF x.kind 1) x.task 0 15 = true ∧ inB (hasF x.kind 2) x.worker 0 63 = true ∧ inB (hasF x.kind 4) x.sched 0 7 = true ∧ inB (hasF x.kind 8) x.epoch 1 9 = true ∧ inB (hasF x.kind 16) x.needs.length 1 16 = true ∧ fieldsOk x.kind = true := by
  unfold recOk at h
  simp only [Bool.and_eq_true] at h
  obtain ⟨⟨⟨⟨⟨⟨⟨h1, _⟩, h2⟩, h3⟩, h4⟩, h5⟩, h6⟩, _⟩ := h
  exact ⟨by unfold fieldsOk at h1; exact of_decide_eq_true h1, h2, h3, h4, h5, h6, h1⟩
theorem inB_true {n lo hi : Int} (h : inB true n lo hi = true) : lo ≤ n ∧ n ≤ hi := of_decide_eq_true h
theorem recOk_accept {x : RecS} (h : recOk x = true) (hk : x.kind = 1) : 1 ≤ x.needs.length ∧ x.needs.length ≤ 16 ∧ 0 ≤ x.sched ∧ x.sched ≤ 7 := by
  obtain ⟨_, _, _, h4, _, h6, _⟩ := recOk_parts h
  rw [hk] at h4 h6
  have e4 : hasF 1 4 = true := by decide +kernel
  have e6 : hasF 1 16 = true := by decide +kernel
  rw [e4] at h4
  rw [e6] at h6
  have := inB_true h4
  have := inB_true h6
  omega
theorem recOk_task {x : RecS} (h : recOk x = true) (hk : x.kind = 2 ∨ x.kind = 3) : 0 ≤ x.task ∧ x.task ≤ 15 := by
  obtain ⟨_, h2, _⟩ := recOk_parts h
  have e2 : hasF 2 1 = true := by decide +kernel
  have e3 : hasF 3 1 = true := by decide +kernel
  rcases hk with hk | hk
  · rw [hk, e2] at h2
    exact inB_true h2
  · rw [hk, e3] at h2
    exact inB_true h2
theorem recOk_own {x : RecS} (h : recOk x = true) (hk : x.kind = 4) : 1 ≤ x.epoch ∧ x.epoch ≤ 9 := by
  obtain ⟨_, _, _, _, h5, _⟩ := recOk_parts h
  have e5 : hasF 4 8 = true := by decide +kernel
  rw [hk, e5] at h5
  exact inB_true h5
theorem acceptR_ok {x : RecS} (h : recOk x = true) (hk : x.kind = 1) : EOk (acceptR x) :=
  ⟨⟨show (1 : Int) ≤ 1 by decide, show (1 : Int) ≤ 9 by decide⟩, (recOk_accept h hk).2.1, by simp [acceptR], by simp [acceptR]⟩
theorem doneE_ok {E : EntryS} {x : RecS} (he : EOk E) (h : recOk x = true) : EOk (doneE E x) := by
  unfold doneE
  split
  · rename_i hk
    exact ⟨recOk_own h hk, he.nl, he.bl, he.dl⟩
  · split
    · exact ⟨he.ep, he.nl, by show (E.bound.set _ _).length = _; rw [List.length_set]; exact he.bl, he.dl⟩
    · exact ⟨he.ep, he.nl, he.bl, by show (E.done.set _ _).length = _; rw [List.length_set]; exact he.dl⟩
theorem whyB_rec {b : List EntryS} {x : RecS} (h : whyB b x = 0) : recOk x = true := by
  unfold whyB at h
  split at h
  · exact absurd h (by decide)
  · rename_i hr
    cases hv : recOk x
    · exact absurd hv hr
    · rfl
theorem findE_mem {b : List EntryS} {j : Int} {E : EntryS} (h : findE b j = some E) : E ∈ b := by
  unfold findE at h
  split at h
  · exact List.mem_of_getElem? h
  · cases h
/-- A book that records have made. -/
def BOk (b : List EntryS) : Prop := (∀ E ∈ b, EOk E) ∧ b.length ≤ 40
theorem BOk.nil : BOk [] := ⟨fun E h => (by simp at h), by decide⟩
theorem nextB_ok {b : List EntryS} {x : RecS} (hb : BOk b) : BOk (nextB b x) := by
  unfold nextB
  split
  · exact BOk.nil
  · rename_i h0
    have h0 : whyB b x = 0 := by omega
    have hr := whyB_rec h0
    split
    · rename_i hk
      refine ⟨fun E hE => ?_, ?_⟩
      · rcases List.mem_append.1 hE with h | h
        · exact hb.1 E h
        · rw [List.mem_singleton.1 h]; exact acceptR_ok hr hk
      · unfold whyB at h0
        rw [if_neg (by rw [hr]; decide), if_pos hk] at h0
        split at h0
        · exact absurd h0 (by decide)
        · split at h0
          · exact absurd h0 (by decide)
          · simp; omega
    · split
      · exact BOk.nil
      · rename_i E hf
        refine ⟨fun E' hE => ?_, by rw [List.length_set]; exact hb.2⟩
        rcases List.mem_or_eq_of_mem_set hE with h | h
        · exact hb.1 E' h
        · rw [h]; exact doneE_ok (hb.1 E (findE_mem hf)) hr
/-- The book of records, and how many of them it took. -/
def foldB : List RecS → List EntryS → Nat → List EntryS × Nat
  | [], b, n => (b, n)
  | x :: r, b, n => if whyB b x ≠ 0 then (b, n) else foldB r (nextB b x) (n + 1)
theorem foldB_ok : ∀ (l : List RecS) (b : List EntryS) (n : Nat), BOk b → BOk (foldB l b n).1
  | [], _, _, h => h
  | x :: r, b, n, h => by
    unfold foldB
    split
    · exact h
    · exact foldB_ok r _ _ (nextB_ok h)
end Go.Proofs.Ytkjncmmombkllaa
