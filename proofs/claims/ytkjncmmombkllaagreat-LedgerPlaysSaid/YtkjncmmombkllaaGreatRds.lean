/- rec.least. -/
import Derived.Test.YtkjncmmombkllaaGreatRdA
import Derived.Test.YtkjncmmombkllaaGreatCrc
import Derived.Test.YtkjncmmombkllaaGreatFrame
namespace Go.Proofs.YtkjncmmombkllaaGreat
open Go.RowKit

def RdS.least (R : RdS) (most : Int) : Int × RdS := if (R.num most).1 = 0 then (0, (R.num most).2.fail 3) else R.num most
set_option maxHeartbeats 800000 in
set_option maxRecDepth 100000 in
theorem rdLeast_calls (T : Nat → Prop) (g : Nat) (R : RdS) (most : Int) (w : World) (hd : RdAt w T g R) : Calls Tryz.prog 86 #[.pointer (some ⟨g, 0, none⟩), .int .i64 most] w fun en w' => en = .returned (.int .i64 (R.least most).1) ∧ RdAt w' T g (R.least most).2 ∧ Mod (fun k => k = g) w w' := by
  by_cases h0 : (R.num most).1 = 0
  · have HV := hid (show R.least most = (0, (R.num most).2.fail 3) by unfold RdS.least; rw [if_pos h0])
    have H0 := hid h0
    clear h0
    go_enter Tryz.func86, Tryz.ntmps86
    go_wp2_with fail
    refine (rdNum_calls T g R most _ hd).mono ?_
    rintro e w1 ⟨rfl, h1, h2⟩
    rw [H0.out]
    have H1 := hid h1
    have H2 := hid h2
    clear h1 h2
    go_wp2_with fail
    refine (rdFail_calls T g _ 3 _ H1.out).mono ?_
    rintro e w2 ⟨rfl, h3, h4⟩
    go_wp2
    go_ret
    rw [HV.out]
    exact ⟨rfl, h3, H2.out.trans h4 (fun _ _ h => h)⟩
  · have HV := hid (show R.least most = R.num most by unfold RdS.least; rw [if_neg h0])
    obtain ⟨z, hz⟩ : ∃ z, z = (R.num most).1 := ⟨_, rfl⟩
    have e0 : (z == (0 : Int)) = false := by rw [beq_eq_false_iff_ne, hz]; exact h0
    have HZ := hid hz
    clear h0 hz
    go_enter Tryz.func86, Tryz.ntmps86
    go_wp2_with fail
    refine (rdNum_calls T g R most _ hd).mono ?_
    rintro e w1 ⟨rfl, h1, h2⟩
    rw [← HZ.out]
    go_wp2
    go_ret
    rw [HV.out, ← HZ.out]
    exact ⟨rfl, h1, h2⟩
end Go.Proofs.YtkjncmmombkllaaGreat
