/- Plain: what a run of events keeps (lengths and numbers that fit). -/
import Derived.Test.YtgedkcglkhleoaaGreatDoorEvent5
import Derived.Test.YtgedkcglkhleoaaGreatDoorBase
namespace Go.Proofs.YtgedkcglkhleoaaGreatDoor
open Go.RowKit

/-- Jobs that are not too long. -/
def JsOk (js : List JobS) : Prop := ∀ J ∈ js, (∀ s ∈ J.needs, s.size ≤ 140737488351232) ∧ J.needs.length ≤ 1000
structure EvFit (E : EntryS) : Prop where
  nl : E.needs.length ≤ 1000
  bl : E.bound.length = E.needs.length
  dl : E.done.length = E.needs.length
  ints : ∀ x ∈ E.bound, x ≤ 64
  strs : ∀ s ∈ E.needs, s.size ≤ 140737488351232
structure EvGood (n : Nat) (b : List EntryS) : Prop where
  len : b.length ≤ n
  all : ∀ E ∈ b, EvFit E
theorem EvGood.ok {n : Nat} {b : List EntryS} (h : EvGood n b) (hn : n ≤ 1000) : EvOk b where
  fits := fun E hE => by
    have g := h.all E hE
    have := g.nl
    have := g.bl
    have := g.dl
    exact ⟨by omega, by omega, by omega⟩
  len := by have := h.len; omega
  ints := fun E hE x hx => by have := (h.all E hE).ints x hx; omega
  strs := fun E hE => (h.all E hE).strs
theorem evGood_nil : EvGood 0 [] := ⟨Nat.le_refl _, fun E h => by simp at h⟩
theorem evGood_set {n i : Nat} {b : List EntryS} {F : EntryS} (h : EvGood n b) (hF : EvFit F) : EvGood (n + 1) (b.set i F) :=
  ⟨by rw [List.length_set]; have := h.len; omega, fun E hE => by
    rcases List.mem_or_eq_of_mem_set hE with hE | rfl
    · exact h.all E hE
    · exact hF⟩
theorem evGood_step {C : ConfS} {js : List JobS} {n : Nat} {b b' : List EntryS} {e : EvS} (hjs : JsOk js) (h : EvGood n b) (hs : evStep C js b e = some b') : EvGood (n + 1) b' := by
  obtain ⟨kd, id, t, k⟩ := e
  by_cases hk : kd = 1
  · subst hk
    rw [ev_accept] at hs
    split at hs
    · rename_i hok
      obtain rfl := Option.some.inj hs
      unfold acceptS
      rw [if_pos hok]
      have hj : (findJ js id).isSome = true := by unfold okA at hok; simp only [Bool.and_eq_true] at hok; exact hok.2.1
      obtain ⟨J, hJ⟩ := Option.isSome_iff_exists.1 hj
      rw [hJ]
      have g := hjs J (findJ_mem hJ)
      refine ⟨by rw [List.length_append]; have := h.len; simp; omega, fun E hE => ?_⟩
      rcases List.mem_append.1 hE with hE | hE
      · exact h.all E hE
      · rw [List.mem_singleton] at hE
        subst hE
        refine ⟨g.2, by simp [acceptE], by simp [acceptE], fun x hx => ?_, g.1⟩
        simp [acceptE] at hx
        omega
    · cases hs
  · cases hf : findE b id with
    | none => rw [ev_none hk hf] at hs; cases hs
    | some E =>
      by_cases ht : 0 ≤ t ∧ t < tasksE E
      · obtain ⟨m, rfl⟩ := Int.eq_ofNat_of_zero_le ht.1
        have hg := h.all E (List.mem_of_getElem? (findE_at hf).1)
        rw [ev_in hk hf (by omega)] at hs
        split at hs
        · rename_i hc
          obtain rfl := Option.some.inj hs
          have := mayLaunch_k hc.2
          refine evGood_set h ⟨hg.nl, by rw [List.length_set]; exact hg.bl, hg.dl, fun x hx => ?_, hg.strs⟩
          rcases List.mem_or_eq_of_mem_set hx with hx | rfl
          · exact hg.ints x hx
          · omega
        · split at hs
          · obtain rfl := Option.some.inj hs
            exact evGood_set h ⟨hg.nl, hg.bl, by rw [List.length_set]; exact hg.dl, hg.ints, hg.strs⟩
          · cases hs
      · rw [ev_out hk hf ht] at hs; cases hs
end Go.Proofs.YtgedkcglkhleoaaGreatDoor
