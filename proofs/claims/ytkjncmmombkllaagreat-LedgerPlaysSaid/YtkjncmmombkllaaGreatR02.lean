import Derived.Test.YtkjncmmombkllaaGreatR01
import Derived.Test.YtkjncmmombkllaaGreatCrc
namespace Go.Proofs.YtkjncmmombkllaaGreat
open Go.RowKit Go.Lib

theorem rStep_ne {X c : Nat} (h : X % 2 ≠ c % 2) : rStep (X, c) = ((X / 2) ^^^ 3988292384, c / 2) := by unfold rStep; simp only; rw [if_pos h]
theorem rStep_eq {X c : Nat} (h : X % 2 = c % 2) : rStep (X, c) = (X / 2, c / 2) := by unfold rStep; simp only; rw [if_neg (by simpa using h)]
theorem byte_at (s : ByteArray) (k : Nat) (h : k < s.size) : s.data.toList[k]? = some (s.get! k) := data_at h

set_option maxHeartbeats 3200000 in
set_option maxRecDepth 100000 in
theorem r02of_calls (s : ByteArray) (w : World) (hs : s.size ≤ 1000000000) : Calls Tryz.prog 100 #[.string s] w fun e w' => e = .returned (.int .u32 (crcOf s.data.toList)) ∧ w = w' := by
  have hbn := bN_at s
  have HV := hid (show crcOf s.data.toList = crcInv (s.data.toList.foldl crcByte 4294967295) from rfl)
  go_enter Tryz.func100, Tryz.ntmps100
  go_wp2_with fail
  go_loop [3, 4] (fun x i => ∃ k X : Nat, k ≤ s.size ∧ i = .int .i64 k ∧ x = .int .u32 X ∧ X < 4294967296 ∧ Hid (X = (s.data.toList.take k).foldl crcByte 4294967295)) (fun _ i => s.size - (intOf i).toNat)
  case atStart => exact ⟨0, 4294967295, by omega, rfl, rfl, by omega, hid rfl⟩
  case round =>
    obtain ⟨k, X, hk, rfl, rfl, hX, HX⟩ := hrel
    by_cases hlt : k < s.size
    · have hl := bN_lt s k
      have HA := hid (byte_at s k hlt)
      go_wp2_with fail
      go_loop [3, 5, 6] (fun x c i => ∃ j Y C : Nat, j ≤ 8 ∧ i = .int .i64 j ∧ x = .int .u32 Y ∧ c = .int .u32 C ∧ Y < 4294967296 ∧ C < 256 ∧ Hid ((Y, C) = rSteps j (X, bN s k))) (fun _ _ i => 8 - (intOf i).toNat)
      case atStart => exact ⟨0, X, bN s k, by omega, rfl, rfl, rfl, hX, hl, hid rfl⟩
      case round =>
        obtain ⟨j, Y, C, hj, rfl, rfl, rfl, hY, hC, HYC⟩ := hrel
        by_cases hlt2 : j < 8
        · have HN := hid (show rSteps (j + 1) (X, bN s k) = rStep (Y, C) by rw [HYC.out]; rfl)
          by_cases hp : Y % 2 = C % 2
          · have h2 : ((Y : Int) % 2 != (C : Int) % 2) = false := by rw [bne_eq_false_iff_eq]; omega
            have h3 : ((Y : Int) % 2 == (C : Int) % 2) = true := by rw [beq_iff_eq]; omega
            have HE := hid (rStep_eq hp)
            clear hp hbn
            go_wp2
            go_round
            case rel => exact ⟨j + 1, Y / 2, C / 2, by omega, by go_num, rfl, rfl, by omega, by omega, hid (by rw [HN.out, HE.out])⟩
            case measure => simp [intOf]; omega
          · have h2 : ((Y : Int) % 2 != (C : Int) % 2) = true := by rw [bne_iff_ne]; omega
            have h3 : ((Y : Int) % 2 == (C : Int) % 2) = false := by rw [beq_eq_false_iff_ne]; omega
            have HE := hid (rStep_ne hp)
            have hx2 : Y / 2 < 4294967296 := by omega
            have hxl := xor_lt32 (b := 3988292384) hx2 (by decide)
            have hxo : bits .xor .u32 ((Y : Int) / 2) 3988292384 = ((Y / 2 ^^^ 3988292384 : Nat) : Int) := bits_xor32 (a := Y / 2) (b := 3988292384) hx2 (by decide)
            obtain ⟨Z, hZ⟩ : ∃ Z, Z = Y / 2 ^^^ 3988292384 := ⟨_, rfl⟩
            rw [← hZ] at hxo hxl
            have HZ := hid hZ
            clear hp hbn hZ hx2
            go_wp2
            go_round
            case rel => exact ⟨j + 1, Z, C / 2, by omega, by go_num, rfl, rfl, hxl, by omega, hid (by rw [HN.out, HE.out, HZ.out])⟩
            case measure => simp [intOf]; omega
        · obtain rfl : j = 8 := by omega
          have HN := hid (show Y = (s.data.toList.take (k + 1)).foldl crcByte 4294967295 by
            rw [take_snoc HA.out, List.foldl_append, ← HX.out]
            have h1 := rSteps_byte X (s.get! k)
            have h2 := HYC.out
            unfold bN at h2
            rw [← h2] at h1
            exact h1)
          clear hbn
          go_wp2
          go_round
          case rel => exact ⟨k + 1, Y, by omega, by go_num, rfl, hY, HN⟩
          case measure => simp [intOf]; omega
    · obtain rfl : k = s.size := by omega
      have HF := hid (show crcOf s.data.toList = 4294967295 - X by
        rw [HV.out]
        have := HX.out
        rw [← data_len, List.take_length] at this
        rw [← this, crcInv_sub hX])
      have hXX : X ≤ 4294967295 := by omega
      clear hbn
      go_wp2
      go_ret
      exact ⟨ret_int (by rw [HF.out]; omega), rfl⟩

theorem conv_new4 {P : Program} {src e dst : TypeId} (hs : P.underlying src = some (.slice e)) (he : P.underlying e = some (.int .u8)) (hd : P.underlying dst = some .string) (W : World) (a b c d : Int) :
    (convert src dst (.slice (some ⟨W.heap.size, 0, none⟩) 4 4)).run P (W.alloc (.cells #[.int .u8 a, .int .u8 b, .int .u8 c, .int .u8 d] e)) = .ok (.string (strOfNums [a, b, c, d])) (W.alloc (.cells #[.int .u8 a, .int .u8 b, .int .u8 c, .int .u8 d] e)) := by
  refine run_convert_bytes_arg _ src e hs he W.heap.size 0 4 4 [a, b, c, d] rfl (fun i hi => ?_) dst hd
  match i, hi with
  | 0, _ => simp
  | 1, _ => simp
  | 2, _ => simp
  | 3, _ => simp

set_option maxHeartbeats 800000 in
set_option maxRecDepth 100000 in
theorem rfour_calls (x : Nat) (w : World) (hx : x < 4294967296) : Calls Tryz.prog 99 #[.int .u32 x] w fun e w' => e = .returned (.string (mkB (four x))) ∧ Below w.heap.size w w' := by
  have hcv := fun W a b c d => conv_new4 (P := Tryz.prog) Tryz.underlying23 Tryz.underlying5 Tryz.underlying9 W a b c d
  have HV := hid (nums_four (UInt8.ofNat x) (UInt8.ofNat (x / 256)) (UInt8.ofNat (x / 65536)) (UInt8.ofNat (x / 16777216)))
  have e0 := ofNat_byte x
  have e1 := ofNat_byte (x / 256)
  have e2 := ofNat_byte (x / 65536)
  have e3 := ofNat_byte (x / 16777216)
  have E := hid (And.intro e0 (And.intro e1 (And.intro e2 e3)))
  clear e0 e1 e2 e3
  go_enter Tryz.func99, Tryz.ntmps99
  go_wp2
  go_ret
  refine ⟨ret_str ?_, bAlloc (Below.refl _ _) _⟩
  have h := HV.out
  rw [E.out.1, E.out.2.1, E.out.2.2.1, E.out.2.2.2] at h
  show _ = mkB [UInt8.ofNat x, UInt8.ofNat (x / 256), UInt8.ofNat (x / 65536), UInt8.ofNat (x / 16777216)]
  rw [← h]
  congr 2
  simp; omega

set_option maxHeartbeats 800000 in
set_option maxRecDepth 100000 in
theorem rseal_calls (s : ByteArray) (w : World) (hs : s.size ≤ 1000000000) : Calls Tryz.prog 81 #[.string s] w fun e w' => e = .returned (.string (mkB (sealL s.data.toList))) ∧ Below w.heap.size w w' := by
  have HV := hid (show s ++ mkB (four (crcOf s.data.toList)) = mkB (sealL s.data.toList) by
    have h2 : s ++ mkB (four (crcOf s.data.toList)) = mkB s.data.toList ++ mkB (four (crcOf s.data.toList)) := by rw [mkB_of]
    rw [h2, mkB_append]; rfl)
  obtain ⟨c, hc⟩ : ∃ c, c = crcOf s.data.toList := ⟨_, rfl⟩
  have hcl : c < 4294967296 := by rw [hc]; exact crcMore_lt (by decide) _
  rw [← hc] at HV
  have HC := hid hc
  have hfl : (mkB (four c)).size = 4 := rfl
  obtain ⟨b, hb⟩ : ∃ b, b = mkB (four c) := ⟨_, rfl⟩
  rw [← hb] at HV hfl
  have HB := hid hb
  have HFL := hid hfl
  clear hc hb hfl
  go_enter Tryz.func81, Tryz.ntmps81
  go_wp2_with fail
  refine (r02of_calls s _ hs).mono ?_
  rintro e w1 ⟨rfl, rfl⟩
  rw [← HC.out]
  go_wp2_with fail
  refine (rfour_calls c _ hcl).mono ?_
  rintro e w2 ⟨rfl, hb2⟩
  rw [← HB.out]
  have hfl := HFL.out
  go_wp2
  go_ret
  exact ⟨ret_str (by rw [HV.out]), hb2⟩

set_option maxHeartbeats 800000 in
set_option maxRecDepth 100000 in
theorem rput_calls (s : ByteArray) (w : World) : Calls Tryz.prog 63 #[.string s] w fun e w' => e = .returned (.string (mkB (putL s.data.toList))) ∧ Below w.heap.size w w' := by
  by_cases h4 : (4096 : Int) < s.size
  · have HV := hid (show putL s.data.toList = [] by unfold putL; rw [if_pos (by rw [data_len]; omega)])
    go_enter Tryz.func63, Tryz.ntmps63
    go_wp2
    go_ret
    exact ⟨ret_str (by rw [HV.out]; rfl), Below.refl _ _⟩
  · have HV := hid (show putL s.data.toList = sealL (textL s.data.toList) by unfold putL; rw [if_neg (by rw [data_len]; omega)])
    have hln : (textL s.data.toList).length ≤ 5000 := by
      unfold textL
      have := numL_len_le (n := s.data.toList.length) (by rw [data_len]; unfold maxNum; omega)
      have h2 := data_len s
      simp only [List.length_append]; omega
    obtain ⟨b, hb⟩ : ∃ b, b = mkB (textL s.data.toList) := ⟨_, rfl⟩
    have hbs : b.size ≤ 5000 := by rw [hb, mkB_size]; exact hln
    have HB := hid hb
    have HD := hid (show b.data.toList = textL s.data.toList by rw [hb, mkB_data])
    clear hb hln
    go_enter Tryz.func63, Tryz.ntmps63
    go_wp2_with fail
    refine (rtext_calls s _ (by omega)).mono ?_
    rintro e w1 ⟨rfl, hb1⟩
    rw [← HB.out]
    go_wp2_with fail
    refine (rseal_calls b _ (by omega)).mono ?_
    rintro e w2 ⟨rfl, hb2⟩
    rw [HD.out]
    go_wp2
    go_ret
    exact ⟨ret_str (by rw [HV.out]), bThen hb1 hb2⟩
end Go.Proofs.YtkjncmmombkllaaGreat
