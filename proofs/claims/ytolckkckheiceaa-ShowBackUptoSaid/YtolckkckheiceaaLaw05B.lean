import Derived.Test.YtolckkckheiceaaLaw05T
namespace Go.Proofs.Ytolckkckheiceaa
open Go.RowKit

theorem less_irrefl : ∀ x : List UInt8, Op.bytesLess x x = false
  | [] => rfl
  | a :: x => by
    have h2 : ¬ a < a := fun h3 => by have : a.toNat < a.toNat := h3; omega
    simp [Op.bytesLess, h2, less_irrefl x]
theorem less_trans : ∀ {x y z : List UInt8}, Op.bytesLess x y = true → Op.bytesLess y z = true → Op.bytesLess x z = true
  | [], [], _, h, _ => by simp [Op.bytesLess] at h
  | [], _ :: _, [], _, h => by simp [Op.bytesLess] at h
  | [], _ :: _, _ :: _, _, _ => rfl
  | _ :: _, [], _, h, _ => by simp [Op.bytesLess] at h
  | _ :: _, _ :: _, [], _, h => by simp [Op.bytesLess] at h
  | a :: x, b :: y, c :: z, h, k => by
    simp only [Op.bytesLess, Bool.or_eq_true, Bool.and_eq_true, decide_eq_true_eq, beq_iff_eq] at h k ⊢
    rcases h with h | ⟨rfl, h⟩
    · rcases k with k | ⟨rfl, k⟩
      · left; have h1 : a.toNat < b.toNat := h; have h2 : b.toNat < c.toNat := k; exact show a.toNat < c.toNat by omega
      · exact .inl h
    · rcases k with k | ⟨rfl, k⟩
      · exact .inl k
      · exact .inr ⟨rfl, less_trans h k⟩

theorem up_all {l : List ByteArray} (h : descB l = false) : ∀ (d i : Nat) x y, l[i]? = some x → l[i + d + 1]? = some y → Op.bytesLess x.toList y.toList = true := by
  have step : ∀ i x y, l[i]? = some x → l[i + 1]? = some y → Op.bytesLess x.toList y.toList = true := fun i x y hx hy => by
    have hi := (List.getElem?_eq_some_iff.1 hy).1
    unfold descB at h
    rw [List.any_eq_false] at h
    have := h i (by rw [List.mem_range]; omega)
    simpa [notUp, hx, hy] using this
  intro d
  induction d with
  | zero => intro i x y hx hy; exact step i x y hx hy
  | succ d ih =>
    intro i x y hx hy
    have hi := (List.getElem?_eq_some_iff.1 hy).1
    have hz : l[i + d + 1]? = some (l[i + d + 1]'(by omega)) := List.getElem?_eq_getElem _
    exact less_trans (ih i x _ hx hz) (step (i + d + 1) _ y hz hy)

theorem tab_ok {l : List ByteArray} (h : tabE l = 0) : l.length ≤ 16 ∧ descB l = false := by
  unfold tabE at h
  split at h
  · omega
  · split at h
    · omega
    · split at h
      · omega
      · rename_i h1 _ h3
        exact ⟨by omega, by simpa using h3⟩

theorem place_self {l : List ByteArray} (h : descB l = false) {i : Nat} {x : ByteArray} (hx : l[i]? = some x) : placeN l x = some i := by
  unfold placeN
  obtain ⟨hi, rfl⟩ := List.getElem?_eq_some_iff.1 hx
  rw [List.findIdx?_eq_some_iff_getElem]
  refine ⟨hi, by simp, fun j hj => ?_⟩
  have hj' : j < l.length := by omega
  have := up_all h (i - j - 1) j l[j] l[i] (List.getElem?_eq_getElem hj') (by rw [show j + (i - j - 1) + 1 = i by omega]; exact List.getElem?_eq_getElem hi)
  rw [Bool.not_eq_true, decide_eq_false_iff_not]
  intro e
  rw [e, less_irrefl] at this
  cases this

theorem set_tell {l : List ByteArray} (h : descB l = false) (hl : l.length ≤ 16) (t : Nat) : ∀ (d k i s : Nat), l.length - k = d → k ≤ l.length → s < 2 ^ 64 →
    ∃ a, setN l (tellFrom t (l.drop k) k) i s = (a, -1, 0) ∧ a < 2 ^ 64 ∧ ∀ j, a.testBit j = (s.testBit j || (decide (k ≤ j) && decide (j < l.length) && t.testBit j)) := by
  intro d
  induction d with
  | zero =>
    intro k i s hd hk hs
    rw [List.drop_of_length_le (by omega)]
    refine ⟨s, rfl, hs, fun j => ?_⟩
    have : (decide (k ≤ j) && decide (j < l.length)) = false := by rw [Bool.and_eq_false_iff, decide_eq_false_iff_not, decide_eq_false_iff_not]; omega
    rw [this]; simp
  | succ d ih =>
    intro k i s hd hk hs
    have hk' : k < l.length := by omega
    rw [List.drop_eq_getElem_cons hk']
    have hp : placeN (l.take 64) l[k] = some k := by rw [List.take_of_length_le (by omega)]; exact place_self h (List.getElem?_eq_getElem hk')
    cases ht : t.testBit k
    · obtain ⟨a, h1, h2, h3⟩ := ih (k + 1) i s (by omega) (by omega) hs
      refine ⟨a, by simpa [tellFrom, ht] using h1, h2, fun j => ?_⟩
      rw [h3]
      by_cases hj : j = k
      · subst hj; simp [ht]
      · have : decide (k + 1 ≤ j) = decide (k ≤ j) := by rw [decide_eq_decide]; omega
        rw [this]
    · obtain ⟨a, h1, h2, h3⟩ := ih (k + 1) (i + 1) (s ||| 1 <<< k) (by omega) (by omega) (or_bit_lt hs (by omega))
      refine ⟨a, by simpa [tellFrom, ht, setN, hp] using h1, h2, fun j => ?_⟩
      rw [h3]
      simp only [Nat.testBit_or, Nat.one_shiftLeft, Nat.testBit_two_pow]
      by_cases hj : j = k
      · subst hj; simp [ht, hk']
      · have e1 : decide (k + 1 ≤ j) = decide (k ≤ j) := by rw [decide_eq_decide]; omega
        have e2 : decide (k = j) = false := by rw [decide_eq_false_iff_not]; omega
        rw [e1, e2]; simp

theorem back_core {l : List ByteArray} (h : tabE l = 0) (t : Nat) : ∃ a, setN l (tellFrom t l 0) 0 0 = (a, -1, 0) ∧ a < 2 ^ 64 ∧ l.length ≤ 16 ∧ (∀ j : Nat, hasB a j = (hasB t j && decide ((j : Int) < l.length))) ∧ ∀ (i : Nat) x, l[i]? = some x → placeI l x = i := by
  obtain ⟨h1, h2⟩ := tab_ok h
  obtain ⟨a, k1, k2, k3⟩ := set_tell h2 h1 t l.length 0 0 0 rfl (by omega) (by decide)
  refine ⟨a, by simpa using k1, k2, h1, fun j => ?_, fun i x hx => by unfold placeI; rw [place_self h2 hx]⟩
  unfold hasB
  rw [Int.toNat_natCast, k3]
  by_cases hj : j < l.length <;> simp [hj]

end Go.Proofs.Ytolckkckheiceaa
