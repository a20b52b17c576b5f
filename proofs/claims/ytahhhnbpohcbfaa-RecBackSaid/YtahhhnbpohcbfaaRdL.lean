/- A number's bytes are read as the number, and nothing else is: plain. -/
import Derived.Test.YtahhhnbpohcbfaaRd0
namespace Go.Proofs.Ytahhhnbpohcbfaa
open Go.RowKit

theorem be_val (n : Nat) : ∀ w, valN (be n w) = n % 256 ^ w
  | 0 => by simp [be, valN, Nat.mod_one]
  | w + 1 => by
    have h : ∀ (l : List UInt8) (a : Nat), l.foldl (fun a x => a * 256 + x.toNat) a = a * 256 ^ l.length + valN l := by
      intro l
      induction l with
      | nil => intro a; simp [valN]
      | cons x l ih =>
        intro a
        have h1 := ih (a * 256 + x.toNat)
        have h2 := ih (0 * 256 + x.toNat)
        unfold valN
        simp only [List.foldl_cons, List.length_cons, Nat.pow_succ]
        rw [h1, h2, Nat.add_mul, Nat.mul_assoc, Nat.mul_comm 256]
        simp; omega
    show (UInt8.ofNat (n / 256 ^ w) :: be n w).foldl (fun a x => a * 256 + x.toNat) 0 = _
    have e : n % 256 ^ (w + 1) = n % 256 ^ w + 256 ^ w * (n / 256 ^ w % 256) := by rw [Nat.pow_succ, Nat.mod_mul]
    rw [List.foldl_cons, h, be_len, be_val n w, UInt8.toNat_ofNat', e]
    show (0 * 256 + n / 256 ^ w % 256) * 256 ^ w + n % 256 ^ w = _
    generalize n / 256 ^ w % 256 = q
    rw [Nat.zero_mul, Nat.zero_add, Nat.mul_comm, Nat.add_comm]
theorem be_of_val : ∀ (l : List UInt8), be (valN l) l.length = l := by
  intro l
  have key : ∀ (l : List UInt8) (a : Nat), be (a * 256 ^ l.length + valN l) l.length = l := by
    intro l
    induction l with
    | nil => intro a; rfl
    | cons x l ih =>
      intro a
      have hv : valN (x :: l) = x.toNat * 256 ^ l.length + valN l := by
        have h : ∀ (l : List UInt8) (a : Nat), l.foldl (fun a x => a * 256 + x.toNat) a = a * 256 ^ l.length + valN l := by
          intro l
          induction l with
          | nil => intro a; simp [valN]
          | cons x l ih =>
            intro a
            have h1 := ih (a * 256 + x.toNat)
            have h2 := ih (0 * 256 + x.toNat)
            unfold valN
            simp only [List.foldl_cons, List.length_cons, Nat.pow_succ]
            rw [h1, h2, Nat.add_mul, Nat.mul_assoc, Nat.mul_comm 256]
            simp; omega
        show (x :: l).foldl (fun a x => a * 256 + x.toNat) 0 = _
        rw [List.foldl_cons, h]; simp
      have hl := valN_lt l
      have hx := x.toNat_lt
      have e1 : a * 256 ^ (x :: l).length + valN (x :: l) = (a * 256 + x.toNat) * 256 ^ l.length + valN l := by
        rw [hv, List.length_cons, Nat.pow_succ, Nat.add_mul, Nat.mul_assoc, Nat.mul_comm 256]; omega
      rw [e1]
      show UInt8.ofNat (((a * 256 + x.toNat) * 256 ^ l.length + valN l) / 256 ^ l.length) :: be _ l.length = _
      have hp : 0 < 256 ^ l.length := Nat.pow_pos (by decide)
      rw [ih, show ((a * 256 + x.toNat) * 256 ^ l.length + valN l) / 256 ^ l.length = a * 256 + x.toNat by
        rw [Nat.mul_comm, Nat.mul_add_div hp, Nat.div_eq_of_lt hl, Nat.add_zero]]
      rw [List.cons.injEq]
      refine ⟨?_, rfl⟩
      apply UInt8.toNat.inj
      rw [UInt8.toNat_ofNat']
      omega
  have := key l 0
  rwa [Nat.zero_mul, Nat.zero_add] at this

/-- A number's bytes, and anything behind them. -/
theorem nextN_numL {n : Nat} (hn : n ≤ maxNum) (r : List UInt8) (most : Int) : nextN (numL n ++ r) most = if max most 0 < n then (4, 0, 0) else (0, n, (numL n).length) := by
  have hw := width_le hn
  have hW := width_is hn
  unfold numL
  by_cases h : n < 248
  · rw [if_pos h]
    have hx : (UInt8.ofNat n).toNat = n := by rw [UInt8.toNat_ofNat']; omega
    show nextN (UInt8.ofNat n :: r) most = _
    unfold nextN
    simp only [hx]
    rw [if_pos h]
    rfl
  · rw [if_neg h]
    have hw1 := hW.1
    have hx : (UInt8.ofNat (247 + width n)).toNat = 247 + width n := by rw [UInt8.toNat_ofNat']; omega
    show nextN (UInt8.ofNat (247 + width n) :: (be n (width n) ++ r)) most = _
    unfold nextN
    simp only [hx]
    rw [if_neg (by omega), if_neg (by omega), Nat.add_sub_cancel_left, if_neg (by rw [List.length_append, be_len]; omega)]
    have ht : (be n (width n) ++ r).take (width n) = be n (width n) := by rw [List.take_append_of_le_length (by rw [be_len]; exact Nat.le_refl _), List.take_of_length_le (by rw [be_len]; exact Nat.le_refl _)]
    have hv : valN (be n (width n)) = n := by
      rw [be_val, Nat.mod_eq_of_lt]
      exact Nat.lt_of_div_eq_zero (Nat.pow_pos (by decide)) hW.2.1
    rw [ht, hv, if_neg (by simp; omega)]
    simp [be_len]

/-- What is read as a number is its bytes. -/
theorem nextN_canon {b : List UInt8} {most : Int} (h : (nextN b most).1 = 0) : b.take (nextN b most).2.2 = numL (nextN b most).2.1 := by
  unfold nextN at h ⊢
  cases b with
  | nil => simp at h
  | cons x r =>
    have hx := x.toNat_lt
    simp only at h ⊢
    split at h
    · rename_i h1
      split at h
      · simp at h
      · rename_i h2
        rw [if_pos h1, if_neg h2]
        simp [numL, h1]
    · rename_i h1
      split at h
      · simp at h
      · rename_i h2
        split at h
        · simp at h
        · rename_i h3
          split at h
          · simp at h
          · rename_i h4
            split at h
            · simp at h
            · rename_i h5
              rw [if_neg h1, if_neg h2, if_neg h3, if_neg h4, if_neg h5]
              simp only
              have h6 : ¬ valN (r.take (x.toNat - 247)) < 248 := fun h => h4 (.inl h)
              have h7 : width (valN (r.take (x.toNat - 247))) = x.toNat - 247 := Classical.byContradiction fun h => h4 (.inr h)
              have hl : (r.take (x.toNat - 247)).length = x.toNat - 247 := by rw [List.length_take]; omega
              unfold numL
              rw [if_neg h6, h7, List.take_succ_cons, List.cons.injEq]
              refine ⟨?_, ?_⟩
              · apply UInt8.toNat.inj
                rw [UInt8.toNat_ofNat']
                omega
              · have := be_of_val (r.take (x.toNat - 247))
                rw [hl] at this
                exact this.symm
end Go.Proofs.Ytahhhnbpohcbfaa
