/- siskinref17.Field. -/
import Derived.Test.YtkjncmmombkllaaGreatRds
import Derived.Test.YtkjncmmombkllaaGreatRdA
import Derived.Test.YtkjncmmombkllaaGreatR17
import Derived.Test.YtkjncmmombkllaaGreatPrp
namespace Go.Proofs.YtkjncmmombkllaaGreat
open Go.RowKit

set_option maxHeartbeats 1600000 in
set_option maxRecDepth 100000 in
/-- A field whose least is 0. -/
theorem rfField0_calls (g : Nat) (R : RdS) (k : Int) (b : Nat) (f most : Int) (w : World) (hd : RfAt w g R) (hl : R.b.length ≤ 1000000) (hb : b < 5) (hf : f = (b : Int) + 1) : Calls Tryz.prog 93 #[.pointer (some ⟨g, 0, none⟩), .int .i64 k, .int .i64 f, .int .i64 0, .int .i64 most] w fun en w' => en = .returned (.int .i64 (R.opt (hasF k (2 ^ b)) most).1) ∧ RfAt w' g (R.opt (hasF k (2 ^ b)) most).2 ∧ Mod (fun k => k = g) w w' := by
  have HD := hid hd
  clear hd
  obtain ⟨t, ht⟩ : ∃ t, t = hasF k (2 ^ b) := ⟨_, rfl⟩
  rw [← ht]
  have HT := hid ht
  clear ht
  have h0 := (R.num_0 most).1
  have HF := hid hf
  clear hf
  cases t
  · go_enter Tryz.func93, Tryz.ntmps93
    go_wp2_with fail
    refine (rhas17_calls k b f _ hb HF.out).mono ?_
    rintro e w1 ⟨rfl, rfl⟩
    rw [← HT.out]
    go_wp2
    go_ret
    exact ⟨rfl, HD.out, Mod.refl _ _⟩
  · obtain ⟨z, hz⟩ : ∃ z, z = (R.num most).1 := ⟨_, rfl⟩
    rw [← hz] at h0
    have HZ := hid hz
    have h1 : ¬ z < 0 := by omega
    clear hz
    go_enter Tryz.func93, Tryz.ntmps93
    go_wp2_with fail
    refine (rhas17_calls k b f _ hb HF.out).mono ?_
    rintro e w1 ⟨rfl, rfl⟩
    rw [← HT.out]
    go_wp2_with fail
    refine (rfNum_calls g R most _ HD.out hl).mono ?_
    rintro e w1 ⟨rfl, h2, h3⟩
    rw [← HZ.out]
    have H2 := hid h2
    have H3 := hid h3
    clear h2 h3
    go_wp2
    go_ret
    exact ⟨ret_int HZ.out, H2.out, H3.out⟩
set_option maxHeartbeats 1600000 in
set_option maxRecDepth 100000 in
/-- A field whose least is 1. -/
theorem rfField1_calls (g : Nat) (R : RdS) (k : Int) (b : Nat) (f most : Int) (w : World) (hd : RfAt w g R) (hl : R.b.length ≤ 1000000) (hb : b < 5) (hf : f = (b : Int) + 1) : Calls Tryz.prog 93 #[.pointer (some ⟨g, 0, none⟩), .int .i64 k, .int .i64 f, .int .i64 1, .int .i64 most] w fun en w' => en = .returned (.int .i64 (R.optLeast (hasF k (2 ^ b)) most).1) ∧ RfAt w' g (R.optLeast (hasF k (2 ^ b)) most).2 ∧ Mod (fun k => k = g) w w' := by
  have HD := hid hd
  clear hd
  obtain ⟨t, ht⟩ : ∃ t, t = hasF k (2 ^ b) := ⟨_, rfl⟩
  rw [← ht]
  have HT := hid ht
  clear ht
  have h0 := (R.num_0 most).1
  have HF := hid hf
  clear hf
  cases t
  · go_enter Tryz.func93, Tryz.ntmps93
    go_wp2_with fail
    refine (rhas17_calls k b f _ hb HF.out).mono ?_
    rintro e w1 ⟨rfl, rfl⟩
    rw [← HT.out]
    go_wp2
    go_ret
    exact ⟨rfl, HD.out, Mod.refl _ _⟩
  · obtain ⟨z, hz⟩ : ∃ z, z = (R.num most).1 := ⟨_, rfl⟩
    rw [← hz] at h0
    have HZ := hid hz
    by_cases h1 : z = 0
    · have HV := hid (show R.optLeast true most = (0, (R.num most).2.fail 3) by unfold RdS.optLeast RdS.least; rw [if_pos rfl, if_pos (by rw [← hz]; exact h1)])
      subst h1
      clear hz
      go_enter Tryz.func93, Tryz.ntmps93
      go_wp2_with fail
      refine (rhas17_calls k b f _ hb HF.out).mono ?_
      rintro e w1 ⟨rfl, rfl⟩
      rw [← HT.out]
      go_wp2_with fail
      refine (rfNum_calls g R most _ HD.out hl).mono ?_
      rintro e w1 ⟨rfl, h2, h3⟩
      rw [← HZ.out]
      have H2 := hid h2
      have H3 := hid h3
      clear h2 h3
      go_wp2_with fail
      refine (rfFail_calls g _ 3 _ H2.out).mono ?_
      rintro e w2 ⟨rfl, h4, h5⟩
      have H4 := hid h4
      have H5 := hid h5
      clear h4 h5
      go_wp2
      go_ret
      rw [HV.out]
      exact ⟨rfl, H4.out, H3.out.trans H5.out (fun _ _ h => h)⟩
    · have HV := hid (show R.optLeast true most = R.num most by unfold RdS.optLeast RdS.least; rw [if_pos rfl, if_neg (by rw [← hz]; exact h1)])
      have h2 : ¬ z < 1 := by omega
      clear hz
      go_enter Tryz.func93, Tryz.ntmps93
      go_wp2_with fail
      refine (rhas17_calls k b f _ hb HF.out).mono ?_
      rintro e w1 ⟨rfl, rfl⟩
      rw [← HT.out]
      go_wp2_with fail
      refine (rfNum_calls g R most _ HD.out hl).mono ?_
      rintro e w1 ⟨rfl, h2, h3⟩
      rw [← HZ.out]
      have H2 := hid h2
      have H3 := hid h3
      clear h2 h3
      go_wp2
      go_ret
      rw [HV.out]
      exact ⟨ret_int HZ.out, H2.out, H3.out⟩
end Go.Proofs.YtkjncmmombkllaaGreat
