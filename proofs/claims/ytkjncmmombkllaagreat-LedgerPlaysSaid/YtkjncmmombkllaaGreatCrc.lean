import Derived.Test.YtkjncmmombkllaaGreatBase
import Derived.Test.YtkjncmmombkllaaGreatAt8N
import Derived.Handy
import Derived.Outline
namespace Go.Proofs.YtkjncmmombkllaaGreat
open Go.RowKit

theorem crcStep_odd {s : Nat} (h : s % 2 = 1) : crcStep s = (s / 2) ^^^ 3988292384 := by unfold crcStep; rw [if_pos h]
theorem crcStep_even {s : Nat} (h : s % 2 = 0) : crcStep s = s / 2 := by unfold crcStep; rw [if_neg (by omega)]

set_option maxHeartbeats 1600000 in
set_option maxRecDepth 100000 in
theorem crcMore_calls (s0 : Nat) (bs : List UInt8) (v : Value) (w : World) (h0 : s0 < 4294967296) (hb : Kd.u8.slice.K w Any bs [v]) :
    Calls Tryz.prog 110 #[.int .u32 s0, v] w fun e w' => e = .returned (.int .u32 (crcMore s0 bs)) ∧ w = w' := by
  obtain ⟨B, d, he, hd1, hd2, hr⟩ := hb
  cases he
  have HR := hid hr
  obtain ⟨q, hq⟩ : ∃ q, bs.length = q := ⟨_, rfl⟩
  have HQ := hid hq
  rw [hq] at hd1 hd2 ⊢
  have hl0 := crcInv_lt h0
  obtain ⟨s1, hs1⟩ : ∃ s1, s1 = crcInv s0 := ⟨_, rfl⟩
  have HS1 := hid hs1
  have hx0 : bits .xor .u32 IntKind.u32.max (s0 : Int) = (s1 : Int) := by
    rw [hs1]; unfold crcInv; rw [Nat.xor_comm]
    exact bits_xor32 (a := 4294967295) (b := s0) (by decide) h0
  rw [← hs1] at hl0
  clear hr hq hs1
  go_enter Tryz.func110, Tryz.ntmps110
  go_wp2_with fail
  go_loop [0, 12] (fun s i => ∃ k S : Nat, k ≤ q ∧ i = .int .i64 k ∧ s = .int .u32 S ∧ S < 4294967296 ∧ Hid (S = (bs.take k).foldl crcByte s1)) (fun _ i => q - (intOf i).toNat)
  case atStart => exact ⟨0, s1, by omega, rfl, rfl, hl0, hid rfl⟩
  case round =>
    obtain ⟨k, S, hk, rfl, rfl, hS, HSS⟩ := hrel
    clear hx0
    by_cases hlt : k < q
    · obtain ⟨a, x, rfl, hx, hc⟩ := HR.out.at_u8 k (by rw [HQ.out]; exact hlt)
      have HX := hid hx
      have hxl := u8_lt32 x
      have hxx := bits_xor32 hS hxl
      have hSx := xor_lt32 hS hxl
      obtain ⟨S1, hS1⟩ : ∃ S1, S1 = S ^^^ x.toNat := ⟨_, rfl⟩
      have HS1' := hid hS1
      rw [← hS1] at hxx hSx
      clear hx hS1
      go_wp2_with fail
      go_loop [0, 20] (fun s i => ∃ j S' : Nat, j ≤ 8 ∧ i = .int .i64 j ∧ s = .int .u32 S' ∧ S' < 4294967296 ∧ Hid (S' = crcSteps j S1)) (fun _ i => 8 - (intOf i).toNat)
      case atStart => exact ⟨0, S1, by omega, rfl, rfl, hSx, hid rfl⟩
      case round =>
        obtain ⟨j, S', hj, rfl, rfl, hS', HS'⟩ := hrel
        clear hxx
        by_cases hlt2 : j < 8
        · have hst := crcStep_lt hS'
          have HST := hid (show crcStep S' = crcSteps (j + 1) S1 by rw [HS'.out]; rfl)
          rcases Nat.mod_two_eq_zero_or_one S' with hp | hp
          · have ha := bits_and1 hS'
            rw [hp] at ha
            have HE := hid (crcStep_even hp)
            clear hp
            go_wp2
            go_round
            case rel => exact ⟨j + 1, crcStep S', by omega, by go_num, by rw [HE.out]; rfl, hst, HST⟩
            case measure => simp [intOf]; omega
          · have ha := bits_and1 hS'
            rw [hp] at ha
            have hxo : bits .xor .u32 ((S' : Int) / 2) 3988292384 = (crcStep S' : Int) := by
              rw [crcStep_odd hp]
              exact bits_xor32 (a := S' / 2) (b := 3988292384) (by omega) (by decide)
            clear hp
            go_wp2
            go_round
            case rel => exact ⟨j + 1, crcStep S', by omega, by go_num, rfl, hst, HST⟩
            case measure => simp [intOf]; omega
        · obtain rfl : j = 8 := by omega
          have HN := hid (show S' = (bs.take (k + 1)).foldl crcByte s1 by
            rw [take_snoc HX.out, List.foldl_append, ← HSS.out, HS'.out, HS1'.out]; rfl)
          go_wp2
          go_round
          case rel => exact ⟨k + 1, S', by omega, by go_num, rfl, hS', HN⟩
          case measure => simp [intOf]; omega
    · obtain rfl : k = q := by omega
      have hV : bits .xor .u32 IntKind.u32.max (S : Int) = (crcMore s0 bs : Int) := by
        have e : crcMore s0 bs = 4294967295 ^^^ S := by
          unfold crcMore
          rw [← HS1.out]
          have := HSS.out
          rw [← HQ.out, List.take_length] at this
          rw [← this]
          exact Nat.xor_comm _ _
        rw [e]
        exact bits_xor32 (a := 4294967295) (b := S) (by decide) hS
      go_wp2
      go_ret
      exact ⟨rfl, rfl⟩

set_option maxHeartbeats 400000 in
set_option maxRecDepth 100000 in
theorem crcOf_calls (bs : List UInt8) (v : Value) (w : World) (hb : Kd.u8.slice.K w Any bs [v]) : Calls Tryz.prog 107 #[v] w fun e w' => e = .returned (.int .u32 (crcOf bs)) ∧ w = w' := by
  have HB := hid hb
  clear hb
  go_enter Tryz.func107, Tryz.ntmps107
  go_wp2_with fail
  refine (crcMore_calls 0 bs v _ (by decide) HB.out).mono ?_
  rintro e w1 ⟨rfl, rfl⟩
  go_wp2
  go_ret
  exact ⟨rfl, rfl⟩

theorem four_at (s : Nat) (k : Nat) (h : k < 4) : (four s)[k]? = some (UInt8.ofNat (s / 256 ^ k)) := by
  unfold four
  match k, h with
  | 0, _ => simp
  | 1, _ => simp
  | 2, _ => simp
  | 3, _ => simp
theorem shr_byte2 (z d : Nat) : (z : Int) / 2 ^ (8 * d) % 256 = ((UInt8.ofNat (z / 256 ^ d)).toNat : Int) := shr_byte z d

set_option maxHeartbeats 1600000 in
set_option maxRecDepth 100000 in
theorem seal_calls (bs : List UInt8) (v : Value) (w : World) (hb : Kd.u8.slice.K w Any bs [v]) (hlen : bs.length ≤ 1000000000) :
    Calls Tryz.prog 95 #[v] w fun e w' => ∃ A m c, e = .returned (.slice A m c) ∧ Own Kd.u8 5 w' w.heap.size NoT (.slice A m c) (sealL bs) ∧ Below w.heap.size w w' := by
  have HB := hid hb
  obtain ⟨B, d, he, hd1, hd2, hr⟩ := hb
  cases he
  have HR := hid hr
  obtain ⟨q, hq⟩ : ∃ q, bs.length = q := ⟨_, rfl⟩
  have HQ := hid hq
  rw [hq] at hd1 hd2 hlen HB ⊢
  obtain ⟨s, hs⟩ : ∃ s, s = crcOf bs := ⟨_, rfl⟩
  have hsl : s < 4294967296 := by rw [hs]; exact crcMore_lt (by decide) bs
  have HS := hid hs
  have HF := hid (show sealL bs = bs ++ four s by rw [hs]; rfl)
  clear hr hq hs
  go_enter Tryz.func95, Tryz.ntmps95
  go_wp2_with fail
  refine (crcOf_calls bs _ _ HB.out).mono ?_
  rintro e w0 ⟨rfl, rfl⟩
  rw [← HS.out]
  go_wp2_with (at_make; go_must (refine make0_arm Kd.u8 w.heap.size w.heap.size rfl _ _ 23 5 rfl (.int .u8 0) 1 Tryz.underlying23 Tryz.infoU8 (q + 4) _ rfl rfl (by simp) (by omega) (by omega) (Below.refl w.heap.size w) (Nat.le_refl _) (Nat.le_refl _) NoT ?_))
  intro w1 hO1 hb1 _
  have HO1 := hid hO1
  have hs1 := hb1.size
  clear hO1
  go_wp2_with (at_builtin; go_must (refine appends_arm Kd.u8 (w0 := w) w.heap.size rfl _ _ 23 5 _ 1 rfl Tryz.underlying23 Tryz.infoU8 rfl (by decide) (by decide) _ [] bs B q d NoT Any NoT rfl rfl HQ.out (HR.out.below hb1) (fun _ _ h => h) (fun _ h => h.elim) HO1.out hb1 hs1 (by simp; omega) ?_))
  intro v2 w2 hO2 hb2 _ _
  have HO2 := hid hO2
  clear hO2
  go_wp2_with fail
  go_loopw [4, 14] (fun o i wr => ∃ k : Nat, k ≤ 4 ∧ i = .int .i64 k ∧ Hid (Own Kd.u8 5 wr w.heap.size NoT o (bs ++ (four s).take k)) ∧ Below w.heap.size w wr) (fun _ i _ => 4 - (intOf i).toNat)
  case atStart => exact ⟨0, by omega, rfl, hid (by simpa using HO2.out), hb2⟩
  case round =>
    obtain ⟨k, hk, rfl, HO, hb⟩ := hrel
    by_cases hlt : k < 4
    · have hss := hb.size
      obtain ⟨y, hy⟩ : ∃ y : UInt8, y = UInt8.ofNat (s / 256 ^ k) := ⟨_, rfl⟩
      have hyy := shr_byte s k
      rw [← hy] at hyy
      have HY := hid (show (four s).take (k + 1) = (four s).take k ++ [y] by rw [take_snoc (four_at s k hlt), hy])
      have hbl : (bs ++ (four s).take k).length ≤ q + 4 := by simp [four, HQ.out]; omega
      clear hy
      go_wp2_with (at_builtin; go_must (refine append_arm Kd.u8 (w0 := w) w.heap.size rfl _ _ 23 5 _ 1 rfl Tryz.underlying23 Tryz.infoU8 rfl (by decide) (by decide) u4 (bs ++ (four s).take k) y [.int .u8 y.toNat] NoT NoT rfl rfl rfl (fun _ h => h.elim) HO.out hb hss (by omega) ?_))
      intro v4 w4 hO4 hb4 _ _
      have HO4 := hid hO4
      clear hO4 hyy hbl
      go_wp2
      go_roundw
      case rel => exact ⟨k + 1, by omega, by go_num, hid (by rw [HY.out]; simpa using HO4.out), hb4⟩
      case measure => simp [intOf]; omega
    · obtain rfl : k = 4 := by omega
      obtain ⟨A3, n3, c3, rfl, _, _⟩ := HO.out.shape'
      go_wp2
      go_ret
      exact ⟨_, _, _, rfl, by rw [HF.out]; exact HO.out, hb⟩
end Go.Proofs.YtkjncmmombkllaaGreat
