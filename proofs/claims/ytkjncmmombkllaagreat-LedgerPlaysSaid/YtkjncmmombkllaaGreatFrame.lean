import Derived.Test.YtkjncmmombkllaaGreatOctet
import Derived.Test.YtkjncmmombkllaaGreatCrc
namespace Go.Proofs.YtkjncmmombkllaaGreat
open Go.RowKit

/- append([]byte(nil), b...) -/
set_option maxHeartbeats 1600000 in
set_option maxRecDepth 100000 in
theorem frPut_calls (bs : List UInt8) (v : Value) (s : ByteArray) (w : World) (hb : Kd.u8.slice.K w Any bs [v]) (hlen : bs.length ≤ 1000000000) :
    Calls Tryz.prog 76 #[v, .string s] w fun e w' => ∃ A m c, e = .returned (.slice A m c) ∧ Own Kd.u8 5 w' w.heap.size NoT (.slice A m c) (bs ++ putL s.data.toList) ∧ Below w.heap.size w w' := by
  obtain ⟨B, d, he, hd1, hd2, hr⟩ := hb
  cases he
  have HR := hid hr
  obtain ⟨q, hq⟩ : ∃ q, bs.length = q := ⟨_, rfl⟩
  have HQ := hid hq
  rw [hq] at hd1 hd2 hlen ⊢
  clear hr hq
  go_enter Tryz.func76, Tryz.ntmps76
  go_wp2_with (at_builtin; go_must (refine appends_arm Kd.u8 (w0 := w) w.heap.size rfl _ _ 23 5 _ 1 rfl Tryz.underlying23 Tryz.infoU8 rfl (by decide) (by decide) (.slice none 0 0) [] bs B q d NoT Any NoT rfl rfl HQ.out HR.out (fun _ _ h => h) (fun _ h => h.elim) (nil_own w) (Below.refl _ _) (Nat.le_refl _) (by simp; omega) ?_))
  intro v2 w2 hO2 hb2 _ _
  have HO2 := hid hO2
  have hs2 := hb2.size
  clear hO2
  by_cases h4 : (4096 : Int) < s.size
  · have HV := hid (show putL s.data.toList = [] by unfold putL; rw [if_pos (by rw [data_len]; omega)])
    obtain ⟨A3, n3, c3, rfl, _, _⟩ := HO2.out.shape'
    go_wp2
    go_ret
    exact ⟨_, _, _, rfl, by rw [HV.out]; simpa using HO2.out, hb2⟩
  · have HV := hid (show putL s.data.toList = sealL (textL s.data.toList) by unfold putL; rw [if_neg (by rw [data_len]; omega)])
    go_wp2_with fail
    refine (text_calls [] (.slice none 0 0) s _ ⟨none, 0, rfl, by simp, by simp, Kd.Row.nil⟩ (by simp) (by omega)).mono ?_
    rintro e w3 ⟨A, m, c, rfl, hO3, hb3⟩
    have HO3 := hid hO3
    have hm := hO3.shape
    have hln := textL_len s.data.toList (by rw [data_len]; unfold maxNum; omega)
    rw [data_len] at hln
    clear hO3
    go_wp2_with fail
    refine (seal_calls (textL s.data.toList) _ _ (Kd.any (by simpa using Own.K HO3.out)) (by omega)).mono ?_
    rintro e w4 ⟨A4, m4, c4, rfl, hO4, hb4⟩
    have HK4 := hid (Own.K hO4)
    have hsl : (sealL (textL s.data.toList)).length = (textL s.data.toList).length + 4 := by simp [sealL, four]
    have b4 := bThen hb2 (bThen hb3 hb4)
    have HO2' := hid ((HO2.out.below hb3).below hb4)
    have HSL := hid hsl
    clear hO4 hm hsl
    obtain ⟨C4, d4, he4, _, _, hr4⟩ := HK4.out
    cases he4
    have hss := b4.size
    go_wp2_with (at_builtin; go_must (refine appends_arm Kd.u8 (w0 := w) w.heap.size rfl _ _ 23 5 _ 1 rfl Tryz.underlying23 Tryz.infoU8 rfl (by decide) (by decide) v2 bs (sealL (textL s.data.toList)) A4 (sealL (textL s.data.toList)).length c4 NoT _ NoT rfl rfl rfl hr4 (fun _ _ h => h) (fun _ h => h.elim) (by simpa using HO2'.out) b4 hss (by rw [HQ.out, HSL.out]; omega) ?_))
    intro v5 w5 hO5 hb5 _ _
    obtain ⟨A3, n3, c3, rfl, _, _⟩ := hO5.shape'
    have HO5 := hid hO5
    clear hO5
    go_wp2
    go_ret
    exact ⟨_, _, _, rfl, by rw [HV.out]; exact HO5.out, hb5⟩
end Go.Proofs.YtkjncmmombkllaaGreat
