import Derived.Test.YtkjncmmombkllaaGreatBase
import Derived.Handy
import Derived.Outline
namespace Go.Proofs.YtkjncmmombkllaaGreat
open Go.RowKit

set_option maxHeartbeats 800000 in
set_option maxRecDepth 100000 in
theorem width_calls (n : Nat) (w : World) (hn : n ≤ maxNum) : Calls Tryz.prog 108 #[.int .i64 n] w fun e w' => e = .returned (.int .i64 (width n)) ∧ w = w' := by
  have HW := hid (width_is hn)
  unfold maxNum at hn
  go_enter Tryz.func108, Tryz.ntmps108
  go_wp2
  go_loop [0, 3] (fun x v => ∃ k m : Nat, 1 ≤ k ∧ k ≤ 8 ∧ m ≤ 72057594037927935 ∧ x = .int .i64 m ∧ v = .int .i64 k ∧ Hid (m = n / 256 ^ (k - 1)) ∧ Hid (∀ j, 1 ≤ j → j < k → 0 < n / 256 ^ j)) (fun x _ => (intOf x).toNat)
  case atStart => exact ⟨1, n, by omega, by omega, hn, rfl, rfl, hid (by simp), hid (fun j h1 h2 => by omega)⟩
  case round =>
    obtain ⟨k, m, hk, hk8, hm, rfl, rfl, HM, HJ⟩ := hrel
    by_cases h : 256 ≤ m
    · have hlt : k < 8 := by
        rcases Nat.lt_or_ge k 8 with h1 | h1
        · exact h1
        · have := HM.out
          rw [show k - 1 = 7 by omega] at this
          omega
      go_wp2
      go_round
      case rel => exact ⟨k + 1, m / 256, by omega, by omega, by omega, by go_num, by go_num, hid (by rw [HM.out, Nat.div_div_eq_div_mul, ← Nat.pow_succ, Nat.succ_eq_add_one, show k - 1 + 1 = k + 1 - 1 by omega]), hid (fun j h1 h2 => by
        rcases Nat.lt_or_ge j k with h3 | h3
        · exact HJ.out j h1 h3
        · have hj : j = k - 1 + 1 := by omega
          rw [hj, Nat.pow_succ, ← Nat.div_div_eq_div_mul, ← HM.out]; omega)⟩
      case measure => simp [intOf]; omega
    · have HV := hid (IsW.unique (n := n) (w := k) (v := width n) ⟨hk, by
        have e : k = k - 1 + 1 := by omega
        rw [e, Nat.pow_succ, ← Nat.div_div_eq_div_mul, ← HM.out]; omega, HJ.out⟩ HW.out)
      go_wp2
      go_ret
      exact ⟨ret_int (by rw [HV.out]), rfl⟩

set_option maxHeartbeats 1600000 in
set_option maxRecDepth 100000 in
theorem num_calls (bs : List UInt8) (v : Value) (n : Int) (w : World) (hb : Kd.u8.slice.K w Any bs [v]) (hlen : bs.length ≤ 1000000000) :
    Calls Tryz.prog 97 #[v, .int .i64 n] w fun e w' => ∃ A m c, e = .returned (.slice A m c) ∧ Own Kd.u8 5 w' w.heap.size NoT (.slice A m c) (bs ++ numL (clampN n)) ∧ Below w.heap.size w w' := by
  obtain ⟨B, d, he, hd1, hd2, hr⟩ := hb
  cases he
  have HR := hid hr
  obtain ⟨q, hq⟩ : ∃ q, bs.length = q := ⟨_, rfl⟩
  have HQ := hid hq
  rw [hq] at hd1 hd2 hlen ⊢
  obtain ⟨z, hz⟩ : ∃ z, z = clampN n := ⟨_, rfl⟩
  have HZ := hid hz
  have hz1 : z ≤ 72057594037927935 := by rw [hz]; exact clampN_le n
  have hzz : min (max n 0) 72057594037927935 = (z : Int) := by rw [hz]; unfold clampN; omega
  rw [← hz]
  clear hr hq hz
  by_cases hs : z < 248
  · obtain ⟨x, hx⟩ : ∃ x : UInt8, z = x.toNat := ⟨UInt8.ofNat z, by rw [UInt8.toNat_ofNat']; omega⟩
    have HV := hid (show numL z = [x] by unfold numL; rw [if_pos hs, hx]; simp)
    subst hx
    go_enter Tryz.func97, Tryz.ntmps97
    go_wp2_with (at_make; go_must (refine make0_arm Kd.u8 w.heap.size w.heap.size rfl _ _ 23 5 rfl (.int .u8 0) 1 Tryz.underlying23 Tryz.infoU8 (q + 8) _ rfl rfl (by simp) (by omega) (by omega) (Below.refl w.heap.size w) (Nat.le_refl _) (Nat.le_refl _) NoT ?_))
    intro w1 hO1 hb1 _
    have HO1 := hid hO1
    have hs1 := hb1.size
    clear hO1
    go_wp2_with (at_builtin; go_must (refine appends_arm Kd.u8 (w0 := w) w.heap.size rfl _ _ 23 5 _ 1 rfl Tryz.underlying23 Tryz.infoU8 rfl (by decide) (by decide) _ [] bs B q d NoT Any NoT rfl rfl HQ.out (HR.out.below hb1) (fun _ _ h => h) (fun _ h => h.elim) HO1.out hb1 hs1 (by simp; omega) ?_))
    intro v2 w2 hO2 hb2 _ _
    have HO2 := hid hO2
    have hs2 := hb2.size
    clear hO2
    go_wp2_with (at_builtin; go_must (refine append_arm Kd.u8 (w0 := w) w.heap.size rfl _ _ 23 5 _ 1 rfl Tryz.underlying23 Tryz.infoU8 rfl (by decide) (by decide) v2 bs x [.int .u8 x.toNat] NoT NoT rfl rfl rfl (fun _ h => h.elim) HO2.out hb2 hs2 (by rw [HQ.out]; omega) ?_))
    intro v3 w3 hO3 hb3 _ _
    obtain ⟨A3, n3, c3, rfl, _, _⟩ := hO3.shape'
    have HO3 := hid hO3
    clear hO3
    go_wp2
    go_ret
    exact ⟨_, _, _, rfl, by rw [HV.out]; exact HO3.out, hb3⟩
  · have hz248 : 248 ≤ z := by omega
    have hq7 := width_le (n := z) hz1
    obtain ⟨u, hu⟩ : ∃ u, u = width z := ⟨_, rfl⟩
    rw [← hu] at hq7
    have HU := hid hu
    obtain ⟨x, hx⟩ : ∃ x : UInt8, x = UInt8.ofNat (247 + u) := ⟨_, rfl⟩
    have hxx : (247 : Int) + (u : Int) = (x.toNat : Int) := by rw [hx, ofNat_byte]; omega
    have HV := hid (show numL z = x :: be z u by unfold numL; rw [if_neg hs, hx, hu])
    have HXX := hid hxx
    clear hu hx hxx
    go_enter Tryz.func97, Tryz.ntmps97
    go_wp2_with (at_make; go_must (refine make0_arm Kd.u8 w.heap.size w.heap.size rfl _ _ 23 5 rfl (.int .u8 0) 1 Tryz.underlying23 Tryz.infoU8 (q + 8) _ rfl rfl (by simp) (by omega) (by omega) (Below.refl w.heap.size w) (Nat.le_refl _) (Nat.le_refl _) NoT ?_))
    intro w1 hO1 hb1 _
    have HO1 := hid hO1
    have hs1 := hb1.size
    clear hO1
    go_wp2_with (at_builtin; go_must (refine appends_arm Kd.u8 (w0 := w) w.heap.size rfl _ _ 23 5 _ 1 rfl Tryz.underlying23 Tryz.infoU8 rfl (by decide) (by decide) _ [] bs B q d NoT Any NoT rfl rfl HQ.out (HR.out.below hb1) (fun _ _ h => h) (fun _ h => h.elim) HO1.out hb1 hs1 (by simp; omega) ?_))
    intro v2 w2 hO2 hb2 _ _
    have HO2 := hid hO2
    have hs2 := hb2.size
    clear hO2
    go_wp2_with fail
    refine (width_calls z _ hz1).mono ?_
    rintro e w2' ⟨rfl, rfl⟩
    rw [← HU.out]
    have hxx := HXX.out
    go_wp2_with (at_builtin; go_must (refine append_arm Kd.u8 (w0 := w) w.heap.size rfl _ _ 23 5 _ 1 rfl Tryz.underlying23 Tryz.infoU8 rfl (by decide) (by decide) v2 bs x [.int .u8 x.toNat] NoT NoT rfl rfl rfl (fun _ h => h.elim) HO2.out hb2 hs2 (by rw [HQ.out]; omega) ?_))
    intro v3 w3 hO3 hb3 _ _
    have HO3 := hid hO3
    clear hO3 hxx
    go_wp2_with fail
    go_loopw [5, 33] (fun o i wr => ∃ k : Nat, k ≤ u ∧ i = .int .i64 k ∧ Hid (Own Kd.u8 5 wr w.heap.size NoT o (bs ++ [x] ++ (be z u).take k)) ∧ Below w.heap.size w wr) (fun _ i _ => u - (intOf i).toNat)
    case atStart => exact ⟨0, by omega, rfl, hid (by simpa using HO3.out), hb3⟩
    case round =>
      obtain ⟨k, hk, rfl, HO, hb⟩ := hrel
      by_cases hlt : k < u
      · have hss := hb.size
        obtain ⟨y, hy⟩ : ∃ y : UInt8, y = UInt8.ofNat (z / 256 ^ (u - 1 - k)) := ⟨_, rfl⟩
        have hyy := shr_byte z (u - 1 - k)
        rw [← hy] at hyy
        have HY := hid (show (be z u).take (k + 1) = (be z u).take k ++ [y] by rw [take_snoc (be_at z u k hlt), hy])
        have hbl : (bs ++ [x] ++ (be z u).take k).length ≤ q + 1 + k := by simp [be_len, HQ.out]; omega
        clear hy
        go_wp2_with (at_builtin; go_must (refine append_arm Kd.u8 (w0 := w) w.heap.size rfl _ _ 23 5 _ 1 rfl Tryz.underlying23 Tryz.infoU8 rfl (by decide) (by decide) u5 (bs ++ [x] ++ (be z u).take k) y [.int .u8 y.toNat] NoT NoT rfl rfl rfl (fun _ h => h.elim) HO.out hb hss (by omega) ?_))
        intro v4 w4 hO4 hb4 _ _
        have HO4 := hid hO4
        clear hO4 hyy hbl
        go_wp2
        go_roundw
        case rel => exact ⟨k + 1, by omega, by go_num, hid (by rw [HY.out]; simpa using HO4.out), hb4⟩
        case measure => simp [intOf]; omega
      · obtain rfl : k = u := by omega
        obtain ⟨A3, n3, c3, rfl, _, _⟩ := HO.out.shape'
        have HF := hid (show bs ++ numL z = bs ++ [x] ++ (be z k).take k by rw [HV.out, List.take_of_length_le (by rw [be_len]; omega)]; simp)
        go_wp2
        go_ret
        exact ⟨_, _, _, rfl, by rw [HF.out]; exact HO.out, hb⟩

set_option maxHeartbeats 800000 in
set_option maxRecDepth 100000 in
theorem text_calls (bs : List UInt8) (v : Value) (s : ByteArray) (w : World) (hb : Kd.u8.slice.K w Any bs [v]) (hlen : bs.length ≤ 1000000000) (hs : s.size ≤ 1000000000) :
    Calls Tryz.prog 96 #[v, .string s] w fun e w' => ∃ A m c, e = .returned (.slice A m c) ∧ Own Kd.u8 5 w' w.heap.size NoT (.slice A m c) (bs ++ textL s.data.toList) ∧ Below w.heap.size w w' := by
  go_enter Tryz.func96, Tryz.ntmps96
  go_wp2_with fail
  refine (num_calls bs v s.size _ hb hlen).mono ?_
  rintro e w1 ⟨A, m, c, rfl, hO, hb1⟩
  rw [clampN_nat (by unfold maxNum; omega)] at hO
  have HO := hid hO
  clear hO
  have h1 : 0 < (bs ++ numL s.size).length := by simp [numL]; split <;> simp <;> omega
  have h2 : (bs ++ numL s.size).length ≤ 1000000008 := by have := numL_len_le (n := s.size) (by unfold maxNum; omega); simp; omega
  have HF := hid (show textL s.data.toList = numL s.size ++ s.data.toList by unfold textL; rw [data_len])
  have hs1 := hb1.size
  go_wp2_with (at_builtin; go_must (refine appendStr_arm (w0 := w) w.heap.size rfl _ _ 23 9 5 rfl Tryz.underlying23 Tryz.underlying9 Tryz.infoU8 (.slice A m c) (bs ++ numL s.size) s NoT rfl rfl HO.out h1 hb1 hs1 (by omega) ?_))
  intro v2 w2 hO2 hb2 _ _
  obtain ⟨A2, n2, c2, rfl, _, _⟩ := hO2.shape'
  have HO2 := hid hO2
  clear hO2
  go_wp2
  go_ret
  exact ⟨_, _, _, rfl, by rw [HF.out]; simpa using HO2.out, hb2⟩
end Go.Proofs.YtkjncmmombkllaaGreat
