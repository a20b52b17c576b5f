/- siskinref14.Number: a number's text, as the document writes it. -/
import Derived.Test.YtgedkcglkhleoaaGreatDoorNumT
import Derived.Test.YtgedkcglkhleoaaGreatDoorBase
namespace Go.Proofs.YtgedkcglkhleoaaGreatDoor
open Go.RowKit

/-- The digits of a number, none for 0. -/
def digitsL (v : Nat) : List UInt8 := if v = 0 then [] else Lib.decDigits v
theorem digitsL_zero : digitsL 0 = [] := rfl
theorem digitsL_pos {v : Nat} (h : 0 < v) : digitsL v = Lib.decDigits v := by unfold digitsL; rw [if_neg (by omega)]
theorem digitsL_step {v : Nat} (h : 0 < v) : digitsL v = digitsL (v / 10) ++ [UInt8.ofNat (48 + v % 10)] := by
  rw [digitsL_pos h]
  by_cases h10 : v < 10
  · rw [Lib.decDigits_one h10, show v / 10 = 0 by omega, digitsL_zero, Nat.mod_eq_of_lt h10]
    rfl
  · rw [digitsL_pos (by omega : 0 < v / 10), Lib.decDigits, dif_neg h10]
theorem digitsL_len (v : Nat) (h : v < 10 ^ 20) : (digitsL v).length ≤ 20 := by
  unfold digitsL
  split
  · simp
  · rw [Lib.decDigits_length]; exact nDigits_le 19 v h
theorem itoa_digits (n : Int) (h : n ≠ 0) : Lib.itoa n = if n < 0 then 45 :: digitsL n.natAbs else digitsL n.natAbs := by
  unfold Lib.itoa
  rw [digitsL_pos (by omega)]
  split
  · rfl
  · rw [show n.toNat = n.natAbs by omega]
theorem itoa_zero : Lib.itoa 0 = [48] := by
  unfold Lib.itoa
  rw [if_neg (by decide), Int.toNat_zero, Lib.decDigits_one (by decide)]
  rfl
theorem natAbs_quo (n : Int) : (n.tdiv 10).natAbs = n.natAbs / 10 := by rw [Int.natAbs_tdiv]; rfl
theorem natAbs_rem (n : Int) : (n.tmod 10).natAbs = n.natAbs % 10 := by rw [Int.natAbs_tmod]; rfl
theorem digit_nums (x : Nat) (hx : x < 10) (s : ByteArray) (l : List UInt8) (h : s.data.toList = l) : (strOfNums [((48 + x : Nat) : Int)] ++ s).data.toList = UInt8.ofNat (48 + x) :: l := by
  rw [ByteArray.data_append, Array.toList_append, h]
  have : (strOfNums [((48 + x : Nat) : Int)]).data.toList = [UInt8.ofNat (48 + x)] := by
    show [UInt8.ofNat (((48 + x : Nat) : Int)).toNat] = [UInt8.ofNat (48 + x)]
    rw [Int.toNat_natCast]
  rw [this]
  rfl
set_option maxHeartbeats 2000000 in
set_option maxRecDepth 100000 in
theorem rnumber_calls (n : Int) (w : World) (h0 : -9223372036854775808 ≤ n) (h1 : n ≤ 9223372036854775807) :
    Calls Tryz.prog 34 #[.int .i64 n] w fun e w' => e = .returned (.string (numS n)) ∧ Below w.heap.size w w' := by
  have hcv := fun W c => conv_new1 (P := Tryz.prog) Tryz.underlying86 Tryz.underlying5 Tryz.underlying9 W c
  by_cases hz : n = 0
  · subst hz
    have HF := hid (show numS 0 = ⟨#[48]⟩ by unfold numS; rw [itoa_zero])
    go_enter Tryz.func34, Tryz.ntmps34
    go_wp2
    go_ret
    rw [HF.out]
    exact ⟨rfl, Below.refl _ _⟩
  have hnz : (n == 0) = false := beq_false_of_ne hz
  have HNZ := hid hz
  have HN0 := hid h0
  have HN1 := hid h1
  obtain ⟨mi, hmi⟩ : ∃ b, decide (n < 0) = b := ⟨_, rfl⟩
  have HMI := hid hmi
  clear hz h0 h1
  go_enter Tryz.func34, Tryz.ntmps34
  go_wp2
  go_loopw [0, 3, 5] (fun nv sv _ wr => ∃ (m : Int) (sb : ByteArray), nv = .int .i64 m ∧ sv = .string sb ∧ Hid (digitsL n.natAbs = digitsL m.natAbs ++ sb.data.toList) ∧ -9223372036854775808 ≤ m ∧ m ≤ 9223372036854775807 ∧ Hid (Below w.heap.size w wr)) (fun nv _ _ _ => (intOf nv).natAbs)
  case atStart => exact ⟨n, ⟨#[]⟩, rfl, rfl, hid (by simp), HN0.out, HN1.out, hid (Below.refl _ _)⟩
  case round =>
    obtain ⟨m, sb, rfl, rfl, HD, hm0, hm1, HB⟩ := hrel
    have HSZ := hid (show sb.size ≤ 20 by
      have h := digitsL_len n.natAbs (by have := HN0.out; have := HN1.out; omega)
      rw [HD.out, List.length_append] at h
      have e : sb.data.toList.length = sb.size := by simp
      omega)
    by_cases hm : m = 0
    · subst hm
      have HFS := hid (show (⟨(digitsL n.natAbs).toArray⟩ : ByteArray) = sb by rw [HD.out, show digitsL (0 : Int).natAbs = [] from rfl, List.nil_append])
      have hs20 := HSZ.out
      cases mi
      case false =>
        have HF := hid (show numS n = sb by unfold numS; rw [itoa_digits n HNZ.out, if_neg (of_decide_eq_false HMI.out), HFS.out])
        go_wp2
        go_ret
        rw [HF.out]
        exact ⟨rfl, HB.out⟩
      case true =>
        have HF := hid (show numS n = ⟨#[45]⟩ ++ sb by
          unfold numS
          rw [itoa_digits n HNZ.out, if_pos (of_decide_eq_true HMI.out), ← HFS.out]
          apply ByteArray.ext
          rw [ByteArray.data_append]
          apply Array.toList_inj.mp
          simp)
        go_wp2
        go_ret
        rw [HF.out]
        exact ⟨rfl, HB.out⟩
    have hmn : (m != 0) = true := by rw [bne_iff_ne]; exact hm
    have HM := hid hm
    have hs20 := HSZ.out
    obtain ⟨r, hr⟩ : ∃ r, m.tmod 10 = r := ⟨_, rfl⟩
    obtain ⟨k, hk⟩ : ∃ k, m.tdiv 10 = k := ⟨_, rfl⟩
    have hra := natAbs_rem m
    have hka := natAbs_quo m
    rw [hr] at hra
    rw [hk] at hka
    have HX := hid (fun (z : Int) (hz : z = ((48 + m.natAbs % 10 : Nat) : Int)) => show digitsL n.natAbs = digitsL k.natAbs ++ (strOfNums [z] ++ sb).data.toList by
      rw [hz, digit_nums _ (by omega) sb _ rfl, HD.out, digitsL_step (show 0 < m.natAbs by have := HM.out; omega), hka]
      simp)
    have HB2 := hid (fun o => bAlloc HB.out o)
    have hlt : k.natAbs < m.natAbs := by have := HM.out; omega
    have hk2 : -9223372036854775808 ≤ k ∧ k ≤ 9223372036854775807 := by omega
    by_cases hr0 : r < 0
    · have hrn : r.natAbs = m.natAbs % 10 := hra
      go_wp2
      go_roundw
      case rel => exact ⟨k, _, rfl, rfl, hid (HX.out _ (by omega)), hk2.1, hk2.2, hid (HB2.out _)⟩
      case measure => exact hlt
    · go_wp2
      go_roundw
      case rel => exact ⟨k, _, rfl, rfl, hid (HX.out _ (by omega)), hk2.1, hk2.2, hid (HB2.out _)⟩
      case measure => exact hlt
end Go.Proofs.YtgedkcglkhleoaaGreatDoor
