import Derived.Test.YtlckkcefkiffjaaProg
import Derived.Test.YtlckkcefkiffjaaRunes
import Derived.Handy
namespace Go.Proofs.Ytlckkcefkiffjaa
open Go.RowKit

set_option maxHeartbeats 2000000 in
set_option maxRecDepth 100000 in
theorem rfold_calls (s : ByteArray) (w : World) (hs : s.size ≤ 140737488351232) : Calls Try.prog 28 #[.string s] w fun e w' => e = .returned (.string (foldS s)) ∧ Below w.heap.size w w' := by
  have hb := bN_at s
  have hcv := fun W c => conv_new1 (P := Try.prog) Try.underlying42 Try.underlying5 Try.underlying9 W c
  go_enter Try.func28, Try.ntmps28
  go_wp2
  go_loopw [3, 4] (fun o i wr => ∃ (k : Nat) (ob : ByteArray), k ≤ s.size ∧ i = .int .i64 k ∧ o = .string ob ∧ Hid (ob = ⟨(foldL (s.data.toList.take k)).toArray⟩) ∧ ob.size ≤ k ∧ Below w.heap.size w wr) (fun _ i _ => s.size - (intOf i).toNat)
  case atStart => exact ⟨0, ⟨#[]⟩, by omega, rfl, rfl, rfl, by simp [ByteArray.size], Below.refl _ _⟩
  case round =>
    obtain ⟨k, ob, hk, rfl, rfl, HO, hob, hbl⟩ := hrel
    by_cases hlt : k < s.size
    · have hl := bN_lt s k
      have HS := hid (fold_step hlt)
      by_cases h1 : 65 ≤ bN s k ∧ bN s k ≤ 90
      · have HL := hid (low_yes h1.1 h1.2)
        obtain ⟨h1, h2⟩ := h1
        go_wp2
        go_roundw
        case rel =>
          refine ⟨k + 1, _, by omega, by go_num, rfl, ?_, by simp [ByteArray.size_append, strOfNums_size]; omega, bAlloc hbl _⟩
          show _ = _
          rw [HS.out, HL.out]
          have := mk_snoc (foldL (s.data.toList.take k)) (UInt8.ofNat (bN s k + 32)) ob HO
          rwa [UInt8.toNat_ofNat_of_lt' (by simp [UInt8.size]; omega)] at this
        case measure => simp [intOf]; omega
      · have HL := hid (low_no h1)
        by_cases h2 : 65 ≤ bN s k
        · have h3 : ¬ bN s k ≤ 90 := by omega
          clear h1
          go_wp2
          go_roundw
          case rel =>
            refine ⟨k + 1, _, by omega, by go_num, rfl, ?_, by simp [ByteArray.size_append, strOfNums_size]; omega, bAlloc hbl _⟩
            show _ = _
            rw [HS.out, HL.out]
            have := mk_snoc (foldL (s.data.toList.take k)) (UInt8.ofNat (bN s k)) ob HO
            rwa [UInt8.toNat_ofNat_of_lt' (by simp [UInt8.size]; omega)] at this
          case measure => simp [intOf]; omega
        · clear h1
          go_wp2
          go_roundw
          case rel =>
            refine ⟨k + 1, _, by omega, by go_num, rfl, ?_, by simp [ByteArray.size_append, strOfNums_size]; omega, bAlloc hbl _⟩
            show _ = _
            rw [HS.out, HL.out]
            have := mk_snoc (foldL (s.data.toList.take k)) (UInt8.ofNat (bN s k)) ob HO
            rwa [UInt8.toNat_ofNat_of_lt' (by simp [UInt8.size]; omega)] at this
          case measure => simp [intOf]; omega
    · have hv := hid (show ob = foldS s by rw [HO.out, List.take_of_length_le (by rw [data_len]; omega)]; rfl)
      go_wp2
      go_ret
      exact ⟨ret_str (by rw [hv.out]), hbl⟩

end Go.Proofs.Ytlckkcefkiffjaa
