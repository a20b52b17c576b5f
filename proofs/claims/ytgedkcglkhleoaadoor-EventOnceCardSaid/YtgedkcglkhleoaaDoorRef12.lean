/- siskinref09.Says0, Says; siskinref12.Workers. -/
import Derived.Test.YtgedkcglkhleoaaDoorRef09
import Derived.Test.YtgedkcglkhleoaaDoorRef06
import Derived.Test.YtgedkcglkhleoaaDoorAdmit
import Derived.Outline
namespace Go.Proofs.YtgedkcglkhleoaaDoor
open Go.RowKit

theorem hasB_tree (s : Nat) (k : Int) : TreeS.hasB s k = hasB s k := by
  unfold TreeS.hasB hasB
  rw [Bool.decide_and]
theorem leaf_op2 {x : NodeS} (hok : (TreeS.leaf x).ok) : x.op = 1 ∨ x.op = 2 := by
  obtain ⟨hm, hp⟩ := hok
  unfold mayN at hm
  unfold partsN at hp
  split at hm
  · right; assumption
  · simp at hm
    split at hp
    · cases hp
    · split at hp
      · cases hp
      · left; omega
/-- The places of the first k workers that a need admits. -/
def admitL (l : List NodeS) (ws : List WorkerS) : Nat → List Int
  | 0 => []
  | k + 1 => match ws[k]? with
    | some x => if saysN l x.attrs then admitL l ws k ++ [(k : Int)] else admitL l ws k
    | none => admitL l ws k
theorem admitL_len (l : List NodeS) (ws : List WorkerS) : ∀ k, (admitL l ws k).length ≤ k
  | 0 => Nat.le_refl _
  | k + 1 => by
    have := admitL_len l ws k
    unfold admitL
    split
    · split
      · simp; omega
      · omega
    · omega
theorem admitL_mem (l : List NodeS) (ws : List WorkerS) (j : Nat) : ∀ k, ((j : Int) ∈ admitL l ws k) ↔ j < k ∧ ∃ x, ws[j]? = some x ∧ saysN l x.attrs = true
  | 0 => by simp [admitL]
  | k + 1 => by
    have ih := admitL_mem l ws j k
    have key : ∀ b : Bool, (∃ x, ws[k]? = some x ∧ saysN l x.attrs = true) = (b = true) → (((j : Int) ∈ if b then admitL l ws k ++ [(k : Int)] else admitL l ws k) ↔ j < k + 1 ∧ ∃ x, ws[j]? = some x ∧ saysN l x.attrs = true) := by
      intro b hb
      cases b with
      | true =>
        rw [if_pos rfl, List.mem_append, ih, List.mem_singleton]
        constructor
        · rintro (⟨h1, h2⟩ | h)
          · exact ⟨by omega, h2⟩
          · obtain rfl : j = k := by omega
            exact ⟨by omega, by rw [hb]⟩
        · rintro ⟨h1, h2⟩
          by_cases hj : j = k
          · exact .inr (by omega)
          · exact .inl ⟨by omega, h2⟩
      | false =>
        rw [if_neg (by decide), ih]
        constructor
        · rintro ⟨h1, h2⟩; exact ⟨by omega, h2⟩
        · rintro ⟨h1, h2⟩
          refine ⟨?_, h2⟩
          by_cases hj : j = k
          · subst hj; rw [hb] at h2; cases h2
          · omega
    unfold admitL
    split
    · rename_i x hx
      have := key (saysN l x.attrs) (by simp [hx])
      exact this
    · rename_i hx
      have := key false (by simp [hx])
      simpa using this
theorem admitN_bit (l : List NodeS) (ws : List WorkerS) (j : Nat) : ∀ k, (admitN l ws k).testBit j = true ↔ (j < k ∧ ∃ x, ws[j]? = some x ∧ saysN l x.attrs = true)
  | 0 => by simp [admitN]
  | k + 1 => by
    have ih := admitN_bit l ws j k
    have key : ∀ b : Bool, (∃ x, ws[k]? = some x ∧ saysN l x.attrs = true) = (b = true) → ((if b then withS (admitN l ws k) k else admitN l ws k).testBit j = true ↔ j < k + 1 ∧ ∃ x, ws[j]? = some x ∧ saysN l x.attrs = true) := by
      intro b hb
      cases b with
      | true =>
        rw [if_pos rfl]
        unfold withS
        rw [Nat.testBit_or, Nat.one_shiftLeft, Nat.testBit_two_pow, Bool.or_eq_true, ih, decide_eq_true_iff]
        constructor
        · rintro (⟨h1, h2⟩ | h)
          · exact ⟨by omega, h2⟩
          · subst h
            exact ⟨by omega, by rw [hb]⟩
        · rintro ⟨h1, h2⟩
          by_cases hj : k = j
          · exact .inr hj
          · exact .inl ⟨by omega, h2⟩
      | false =>
        rw [if_neg (by decide), ih]
        constructor
        · rintro ⟨h1, h2⟩; exact ⟨by omega, h2⟩
        · rintro ⟨h1, h2⟩
          refine ⟨?_, h2⟩
          by_cases hj : j = k
          · subst hj; rw [hb] at h2; cases h2
          · omega
    unfold admitN
    split
    · rename_i x hx
      exact key (saysN l x.attrs) (by simp [hx])
    · rename_i hx
      have := key false (by simp [hx])
      simpa using this
theorem admitL_of (l : List NodeS) (ws : List WorkerS) : ofN (admitL l ws ws.length) 64 = admitS l ws := by
  apply Nat.eq_of_testBit_eq
  intro j
  rw [ofN_bit, Bool.eq_iff_iff, Bool.and_eq_true, decide_eq_true_iff, decide_eq_true_iff, admitL_mem]
  unfold admitS
  rw [admitN_bit]
  constructor
  · rintro ⟨h1, h2, h3⟩; exact ⟨by omega, h3⟩
  · rintro ⟨h1, h2⟩; exact ⟨by omega, by omega, h2⟩
end Go.Proofs.YtgedkcglkhleoaaDoor
