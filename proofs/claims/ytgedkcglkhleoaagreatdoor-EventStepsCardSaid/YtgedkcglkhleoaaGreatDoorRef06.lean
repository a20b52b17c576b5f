/- siskinref06: List, In, Of, Same. -/
import Derived.Test.YtgedkcglkhleoaaGreatDoorBase
namespace Go.Proofs.YtgedkcglkhleoaaGreatDoor
open Go.RowKit

theorem Tryz.infoInt : (Tryz.prog.info? 3).map (fun i => (i.zero, i.size, i.bytes)) = some (some (.int .i64 0), 1, 8) := by kernel_rfl
/-- A set's numbers below k. -/
def bitsN (s : Nat) : Nat → List Int
  | 0 => []
  | k + 1 => if s.testBit k then bitsN s k ++ [(k : Int)] else bitsN s k
theorem bitsN_len (s : Nat) : ∀ k, (bitsN s k).length ≤ k
  | 0 => Nat.le_refl _
  | k + 1 => by
    have := bitsN_len s k
    unfold bitsN
    split
    · simp; omega
    · omega
theorem bitsN_mem (s : Nat) (x : Int) : ∀ k : Nat, x ∈ bitsN s k ↔ 0 ≤ x ∧ x < k ∧ s.testBit x.toNat = true
  | 0 => by simp [bitsN]; omega
  | k + 1 => by
    have ih := bitsN_mem s x k
    unfold bitsN
    split
    · rename_i h
      rw [List.mem_append, ih, List.mem_singleton]
      constructor
      · rintro (⟨h1, h2, h3⟩ | rfl)
        · exact ⟨h1, by omega, h3⟩
        · exact ⟨by omega, by omega, by rw [Int.toNat_natCast]; exact h⟩
      · rintro ⟨h1, h2, h3⟩
        by_cases hx : x = k
        · exact .inr hx
        · exact .inl ⟨h1, by omega, h3⟩
    · rename_i h
      rw [ih]
      constructor
      · rintro ⟨h1, h2, h3⟩; exact ⟨h1, by omega, h3⟩
      · rintro ⟨h1, h2, h3⟩
        refine ⟨h1, ?_, h3⟩
        by_cases hx : x = k
        · subst hx; rw [Int.toNat_natCast] at h3; exact absurd h3 h
        · omega
/-- The set of a list's numbers below k. -/
def ofN (l : List Int) : Nat → Nat
  | 0 => 0
  | k + 1 => if (k : Int) ∈ l then ofN l k + 1 <<< k else ofN l k
theorem ofN_lt (l : List Int) : ∀ k, ofN l k < 2 ^ k
  | 0 => Nat.one_pos
  | k + 1 => by
    have := ofN_lt l k
    unfold ofN
    rw [Nat.pow_succ]
    split
    · rw [Nat.one_shiftLeft]; omega
    · omega
theorem or_bit_add {t k : Nat} (h : t < 2 ^ k) : t ||| 1 <<< k = t + 1 <<< k := by
  rw [Nat.one_shiftLeft, Nat.add_comm]
  have := Nat.two_pow_add_eq_or_of_lt h 1
  rw [Nat.mul_one] at this
  rw [this, Nat.or_comm]
theorem ofN_bit (l : List Int) (j : Nat) : ∀ k, (ofN l k).testBit j = (decide (j < k) && decide ((j : Int) ∈ l))
  | 0 => by simp [ofN]
  | k + 1 => by
    have ih := ofN_bit l j k
    have hlt := ofN_lt l k
    unfold ofN
    split
    · rename_i h
      have hz : (ofN l k).testBit k = false := Nat.testBit_lt_two_pow hlt
      rw [← or_bit_add hlt, Nat.testBit_or, ih, Nat.one_shiftLeft, Nat.testBit_two_pow]
      by_cases hj : j < k
      · simp [hj, show j < k + 1 by omega, show ¬ k = j by omega]
      · by_cases hk : j = k
        · subst hk; simp [h]
        · simp [hj, show ¬ j < k + 1 by omega, show ¬ k = j by omega]
    · rename_i h
      rw [ih]
      by_cases hj : j < k
      · simp [hj, show j < k + 1 by omega]
      · by_cases hk : j = k
        · subst hk; simp [h]
        · simp [hj, show ¬ j < k + 1 by omega]
/-- What bits tell a set apart. -/
theorem ofN_or {a b : Nat} (ha : a < 2 ^ 64) (hb : b < 2 ^ 64) (l : List Int) (h : ∀ j : Nat, j < 64 → (decide ((j : Int) ∈ l)) = (a.testBit j || b.testBit j)) : ofN l 64 = a ||| b := by
  apply Nat.eq_of_testBit_eq
  intro j
  rw [ofN_bit, Nat.testBit_or]
  by_cases hj : j < 64
  · rw [decide_eq_true hj, Bool.true_and, h j hj]
  · have hp : 2 ^ 64 ≤ 2 ^ j := Nat.pow_le_pow_right (by decide) (by omega)
    rw [decide_eq_false hj, Nat.testBit_lt_two_pow (Nat.lt_of_lt_of_le ha hp), Nat.testBit_lt_two_pow (Nat.lt_of_lt_of_le hb hp)]; rfl
set_option maxHeartbeats 1000000 in
set_option maxRecDepth 100000 in
theorem rin_calls (l : List Int) (x : Int) (v : Value) (w : World) (hl : (Kd.int .i64).slice.K w Any l [v]) : Calls Tryz.prog 82 #[v, .int .i64 x] w fun e w' => e = .returned (.bool (decide (x ∈ l))) ∧ w = w' := by
  obtain ⟨A, c, he, hc, hm, hr⟩ := hl
  cases he
  have HR := hid hr
  obtain ⟨q, hq⟩ : ∃ q, l.length = q := ⟨_, rfl⟩
  have HQ := hid hq
  rw [hq] at hc hm ⊢
  clear hr hq
  go_enter Tryz.func82, Tryz.ntmps82
  go_wp2
  go_loop [5] (fun i => ∃ k : Nat, k ≤ q ∧ i = .int .i64 k ∧ Hid (∀ (j : Nat) y, j < k → l[j]? = some y → y ≠ x)) (fun i => q - (intOf i).toNat)
  case atStart => exact ⟨0, by omega, rfl, fun j y h => by omega⟩
  case round =>
    obtain ⟨k, hk, rfl, HN⟩ := hrel
    by_cases hlt : k < q
    · obtain ⟨a, y, rfl, hy, r0⟩ := HR.out.at_int k (by rw [HQ.out]; exact hlt)
      have HY := hid hy
      have hltI : (k : Int) < (q : Int) := by omega
      have hk0 : (0 : Int) ≤ (k : Int) := by omega
      clear hy
      by_cases hyx : y = x
      · have hb : (y == x) = true := by rw [beq_iff_eq]; exact hyx
        have HF := hid (show decide (x ∈ l) = true by rw [decide_eq_true_iff, ← hyx]; exact List.mem_of_getElem? HY.out)
        clear hyx
        go_wp2
        go_ret
        exact ⟨ret_bool HF.out.symm, rfl⟩
      · have hb : (y == x) = false := by rw [beq_eq_false_iff_ne]; exact hyx
        have HN2 := hid (show ∀ (j : Nat) z, j < k + 1 → l[j]? = some z → z ≠ x from fun j z hj hz => by
          rcases Nat.lt_or_ge j k with h | h
          · exact HN.out j z h hz
          · rw [show j = k by omega, HY.out] at hz
            rw [← Option.some.inj hz]; exact hyx)
        clear hyx
        go_wp2
        go_round
        case rel => exact ⟨k + 1, by omega, by go_num, HN2⟩
        case measure => simp [intOf]; omega
    · obtain rfl : k = q := by omega
      have HF := hid (show decide (x ∈ l) = false by
        rw [decide_eq_false_iff_not]
        intro hm
        obtain ⟨j, hj⟩ := List.getElem?_of_mem hm
        exact HN.out j x (by have := (List.getElem?_eq_some_iff.1 hj).1; rw [HQ.out] at this; exact this) hj rfl)
      go_wp2
      go_ret
      exact ⟨ret_bool HF.out.symm, rfl⟩
set_option maxHeartbeats 1000000 in
set_option maxRecDepth 100000 in
theorem rof_calls (l : List Int) (v : Value) (w : World) (hl : (Kd.int .i64).slice.K w Any l [v]) : Calls Tryz.prog 62 #[v] w fun e w' => e = .returned (.int .u64 (ofN l 64 : Nat)) ∧ w = w' := by
  have HL := hid hl
  obtain ⟨A, c, he, hc, hm, hr⟩ := hl
  cases he
  clear hr
  go_enter Tryz.func62, Tryz.ntmps62
  go_wp2
  go_loop [3, 4] (fun s i => ∃ k t : Nat, k ≤ 64 ∧ i = .int .i64 k ∧ s = .int .u64 t ∧ t < 2 ^ k ∧ Hid (t = ofN l k)) (fun _ i => 64 - (intOf i).toNat)
  case atStart => exact ⟨0, 0, by omega, rfl, rfl, Nat.one_pos, rfl⟩
  case round =>
    obtain ⟨k, t, hk, rfl, rfl, ht, HT⟩ := hrel
    by_cases hlt : k < 64
    · have hltI : (k : Int) < 64 := by omega
      have hp : 2 ^ k ≤ 2 ^ 63 := Nat.pow_le_pow_right (by decide) (by omega)
      have hlt2 := ofN_lt l (k + 1)
      have HP := hid (And.intro ht (And.intro hp hlt2))
      have hk64 : k < 64 := hlt
      clear ht hp hlt2
      go_wp2_with fail
      refine (rin_calls l k _ _ HL.out).mono ?_
      rintro e w1 ⟨rfl, rfl⟩
      by_cases hin : (k : Int) ∈ l
      · rw [decide_eq_true hin]
        have HN := hid (show ofN l (k + 1) = t + 1 <<< k by rw [ofN, if_pos hin, ← HT.out])
        clear hin
        go_wp2_with fail
        refine (rbit_calls k _ hk64).mono ?_
        rintro e w1 ⟨rfl, rfl⟩
        have hsum : t + 1 <<< k < 2 ^ 64 := by
          have := HP.out
          rw [Nat.one_shiftLeft]
          omega
        have HB := hid (show t + 1 <<< k < 2 ^ (k + 1) by rw [← HN.out]; exact HP.out.2.2)
        generalize 1 <<< k = b at *
        have hw : IntKind.u64.wrap ((t : Int) + (b : Int)) = ((t + b : Nat) : Int) := by
          rw [show ((t : Int) + (b : Int)) = ((t + b : Nat) : Int) by omega]
          exact IntWalk.u64_in _ (by omega)
        go_wp2
        go_round
        case rel => exact ⟨k + 1, t + b, by omega, by go_num, by go_num, HB.out, hid HN.out.symm⟩
        case measure => simp [intOf]; omega
      · rw [decide_eq_false hin]
        have HN := hid (show t = ofN l (k + 1) by rw [ofN, if_neg hin, ← HT.out])
        clear hin
        go_wp2
        go_round
        case rel => exact ⟨k + 1, t, by omega, by go_num, rfl, by have := HP.out; rw [Nat.pow_succ]; omega, HN⟩
        case measure => simp [intOf]; omega
    · obtain rfl : k = 64 := by omega
      go_wp2
      go_ret
      rw [← HT.out]
      exact ⟨rfl, rfl⟩
end Go.Proofs.YtgedkcglkhleoaaGreatDoor
