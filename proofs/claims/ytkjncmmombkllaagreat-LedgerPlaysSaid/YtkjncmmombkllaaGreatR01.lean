import Derived.Test.YtkjncmmombkllaaGreatProg
import Derived.Test.YtkjncmmombkllaaGreatBase
import Derived.Test.YtkjncmmombkllaaGreatOctet
import Derived.Handy
namespace Go.Proofs.YtkjncmmombkllaaGreat
open Go.RowKit Go.Lib

def strZ : Value → Nat
  | .string s => if s.size = 0 then 1 else 0
  | _ => 0
theorem strZ_le (v : Value) : strZ v ≤ 1 := by
  unfold strZ
  split
  · split <;> omega
  · omega
theorem strZ_pos {s : ByteArray} (h : 0 < s.size) : strZ (.string s) = 0 := by simp only [strZ]; rw [if_neg (by omega)]
theorem be_zero_len (n : Nat) : (be n 0).length = 0 := rfl

set_option maxHeartbeats 1600000 in
set_option maxRecDepth 100000 in
theorem rbytes_calls (n : Nat) (w : World) (hn : n ≤ maxNum) : Calls Tryz.prog 79 #[.int .i64 n] w fun e w' => e = .returned (.string (mkB (be n (width n)))) ∧ Below w.heap.size w w' := by
  have HW := hid (width_is hn)
  have hn' := hn
  unfold maxNum at hn'
  have hcv := fun W c => conv_new1 (P := Tryz.prog) Tryz.underlying23 Tryz.underlying5 Tryz.underlying9 W c
  go_enter Tryz.func79, Tryz.ntmps79
  go_wp2_with fail
  go_loopw [0, 3] (fun x o wr => ∃ (k m : Nat) (sv : ByteArray), k ≤ 8 ∧ m ≤ 72057594037927935 ∧ x = .int .i64 m ∧ o = .string sv ∧ Hid (sv = mkB (be n k)) ∧ Hid (m = n / 256 ^ k) ∧ Hid (∀ j, 1 ≤ j → j < k → 0 < n / 256 ^ j) ∧ (k = 0 ∨ 1 ≤ k) ∧ Below w.heap.size w wr) (fun x o _ => (intOf x).toNat + strZ o)
  case atStart => exact ⟨0, n, ⟨#[]⟩, by omega, hn', rfl, rfl, hid rfl, hid (by simp), hid (fun j h1 h2 => by omega), .inl rfl, Below.refl _ _⟩
  case round =>
    obtain ⟨k, m, sv, hk, hm, rfl, rfl, HS, HM, HJ, hk0, hb⟩ := hrel
    have hsz : sv.size = k := by rw [HS.out, mkB_size, be_len]
    have HSZ := hid hsz
    have hsz9 : sv.size ≤ 9 := by omega
    clear hsz
    by_cases hgo : 0 < m ∨ k = 0
    · have hk7 : k ≤ 7 := by
        rcases hgo with h | h
        · rcases Nat.lt_or_ge k 8 with h1 | h1
          · omega
          · have := HM.out
            rw [show k = 8 by omega] at this
            omega
        · omega
      obtain ⟨x, hx⟩ : ∃ x : UInt8, x = UInt8.ofNat (n / 256 ^ k) := ⟨_, rfl⟩
      have hxx : (m : Int) % 256 = (x.toNat : Int) := by rw [hx, ← HM.out, ofNat_byte]
      have HC := hid (nums_cons x (be n k))
      have HB := hid (show be n (k + 1) = x :: be n k by rw [hx]; rfl)
      have HM2 := hid (show m / 256 = n / 256 ^ (k + 1) by rw [HM.out, Nat.div_div_eq_div_mul, ← Nat.pow_succ])
      have HJ2 : Hid (∀ j, 1 ≤ j → j < k + 1 → 0 < n / 256 ^ j) := fun j h1 h2 => by
        rcases Nat.lt_or_ge j k with h3 | h3
        · exact HJ.out j h1 h3
        · have : j = k := by omega
          subst this
          rcases hgo with h | h
          · rw [← HM.out]; exact h
          · omega
      clear hx
      rcases Nat.eq_zero_or_pos m with h0 | h0
      · have hk00 : k = 0 := by omega
        subst h0
        have hE : sv.toList = [] := by rw [HS.out, hk00, mkB_toList]; rfl
        have HE := hid hE
        subst hk00
        have hsv : sv = ⟨#[]⟩ := HS.out
        subst hsv
        clear hE hgo hk0
        go_wp2
        go_roundw
        case rel => exact ⟨1, 0, _, by omega, by omega, rfl, rfl, hid (by rw [HB.out, ← HC.out, show (x.toNat : Int) = 0 by rw [← hxx]; rfl]; rfl), HM2, HJ2, .inr (by omega), bAlloc hb _⟩
        case measure => rw [strZ_pos (by simp [ByteArray.size_append, size_num1]; omega)]; simp [intOf, strZ, ByteArray.size]
      · clear hgo hk0
        go_wp2
        go_roundw
        case rel => exact ⟨k + 1, m / 256, _, by omega, by omega, by go_num, rfl, hid (by rw [HB.out, ← HC.out, HS.out]), HM2, HJ2, .inr (by omega), bAlloc hb _⟩
        case measure => rw [strZ_pos (by simp [ByteArray.size_append, size_num1]; omega)]; have := strZ_le (.string sv); simp [intOf]; omega
    · have h0 : m = 0 := by omega
      have hk1 : 1 ≤ k := by omega
      subst h0
      have hE : sv.toList.isEmpty = false := by
        rw [HS.out, mkB_toList]
        cases hbe : be n k with
        | nil => have := be_len n k; rw [hbe] at this; simp at this; omega
        | cons a b => rfl
      have hE2 : ¬ sv.toList = [] := by intro h; rw [h] at hE; cases hE
      have HV := hid (IsW.unique (n := n) (w := k) (v := width n) ⟨hk1, HM.out.symm, HJ.out⟩ HW.out)
      clear hgo hk0
      go_wp2
      go_ret
      exact ⟨ret_str (by rw [HS.out, HV.out]), hb⟩

set_option maxHeartbeats 1600000 in
set_option maxRecDepth 100000 in
theorem rnum_calls (n : Int) (w : World) : Calls Tryz.prog 61 #[.int .i64 n] w fun e w' => e = .returned (.string (mkB (numL (clampN n)))) ∧ Below w.heap.size w w' := by
  have hcv := fun W c => conv_new1 (P := Tryz.prog) Tryz.underlying23 Tryz.underlying5 Tryz.underlying9 W c
  by_cases h0 : n < 0
  · have HV := hid (show numL (clampN n) = [0] by unfold clampN; rw [show (min (max n 0) 72057594037927935) = 0 by omega]; rfl)
    go_enter Tryz.func61, Tryz.ntmps61
    go_wp2
    go_ret
    exact ⟨ret_str (by rw [HV.out]; exact nums_one 0), bAlloc (Below.refl _ _) _⟩
  · obtain ⟨z, hz⟩ : ∃ z, z = clampN n := ⟨_, rfl⟩
    have hzm : z ≤ 72057594037927935 := by rw [hz]; exact clampN_le n
    rw [← hz]
    by_cases hs : z < 248
    · have hnz : n = (z : Int) := by rw [hz]; unfold clampN; unfold clampN at hz; omega
      obtain ⟨x, hx⟩ : ∃ x : UInt8, z = x.toNat := ⟨UInt8.ofNat z, by rw [UInt8.toNat_ofNat']; omega⟩
      have HV := hid (show numL z = [x] by unfold numL; rw [if_pos hs, hx]; simp)
      subst hnz
      subst hx
      clear hz h0
      go_enter Tryz.func61, Tryz.ntmps61
      go_wp2
      go_ret
      exact ⟨ret_str (by rw [HV.out]; exact nums_one x), bAlloc (Below.refl _ _) _⟩
    · have hw7 := width_le (n := z) hzm
      obtain ⟨u, hu⟩ : ∃ u, u = width z := ⟨_, rfl⟩
      obtain ⟨x, hx⟩ : ∃ x : UInt8, x = UInt8.ofNat (247 + u) := ⟨_, rfl⟩
      have hxx : (247 : Int) + (u : Int) = (x.toNat : Int) := by rw [hx, ofNat_byte]; omega
      have HV := hid (show numL z = x :: be z u by unfold numL; rw [if_neg hs, hx, hu])
      have HC := hid (nums_cons x (be z u))
      have hsz : (mkB (be z u)).size = u := by rw [mkB_size, be_len]
      have HU := hid hu
      have HXX := hid hxx
      have HSZ := hid hsz
      rw [← hu] at hw7
      clear hu hx hxx hsz
      obtain ⟨b, hb⟩ : ∃ b, b = mkB (be z u) := ⟨_, rfl⟩
      have HB := hid hb
      clear hb
      by_cases hbig : (72057594037927935 : Int) < n
      · have hz2 : z = 72057594037927935 := by rw [hz]; unfold clampN; omega
        have HZ2 := hid hz2
        clear hz hz2
        go_enter Tryz.func61, Tryz.ntmps61
        go_wp2_with fail
        refine (rbytes_calls 72057594037927935 _ (Nat.le_refl _)).mono ?_
        rintro e w1 ⟨rfl, hb1⟩
        rw [← HZ2.out, ← HU.out, ← HB.out]
        have hsz : b.size = u := by rw [HB.out]; exact HSZ.out
        have hxx := HXX.out
        go_wp2
        go_ret
        exact ⟨ret_str (by rw [HV.out, ← HC.out, HB.out]), bAlloc hb1 _⟩
      · have hnz : n = (z : Int) := by rw [hz]; unfold clampN; omega
        subst hnz
        clear hz
        have h2 : ¬ (z : Int) < 248 := by omega
        go_enter Tryz.func61, Tryz.ntmps61
        go_wp2_with fail
        refine (rbytes_calls z _ hzm).mono ?_
        rintro e w1 ⟨rfl, hb1⟩
        rw [← HU.out, ← HB.out]
        have hsz : b.size = u := by rw [HB.out]; exact HSZ.out
        have hxx := HXX.out
        go_wp2
        go_ret
        exact ⟨ret_str (by rw [HV.out, ← HC.out, HB.out]), bAlloc hb1 _⟩

set_option maxHeartbeats 800000 in
set_option maxRecDepth 100000 in
theorem rtext_calls (s : ByteArray) (w : World) (hs : s.size ≤ 1000000000) : Calls Tryz.prog 82 #[.string s] w fun e w' => e = .returned (.string (mkB (textL s.data.toList))) ∧ Below w.heap.size w w' := by
  have hl : (mkB (numL s.size)).size ≤ 8 := by rw [mkB_size]; exact numL_len_le (by unfold maxNum; omega)
  have HV := hid (show mkB (numL s.size) ++ s = mkB (textL s.data.toList) by
    have h2 : mkB (numL s.size) ++ s = mkB (numL s.size) ++ mkB s.data.toList := by rw [mkB_of]
    rw [h2, mkB_append]; unfold textL; rw [data_len])
  obtain ⟨b, hb⟩ : ∃ b, b = mkB (numL s.size) := ⟨_, rfl⟩
  rw [← hb] at hl HV
  have HB := hid hb
  clear hb
  go_enter Tryz.func82, Tryz.ntmps82
  go_wp2_with fail
  refine (rnum_calls s.size _).mono ?_
  rintro e w1 ⟨rfl, hb1⟩
  rw [clampN_nat (by unfold maxNum; omega), ← HB.out]
  go_wp2
  go_ret
  exact ⟨ret_str (by rw [HV.out]), hb1⟩
end Go.Proofs.YtkjncmmombkllaaGreat

