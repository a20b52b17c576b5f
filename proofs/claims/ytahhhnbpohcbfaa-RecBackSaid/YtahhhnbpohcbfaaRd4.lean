import Derived.Test.YtahhhnbpohcbfaaRd3
namespace Go.Proofs.Ytahhhnbpohcbfaa
open Go.RowKit

set_option maxHeartbeats 1600000 in
set_option maxRecDepth 100000 in
theorem rdNum_calls (T : Nat → Prop) (g : Nat) (R : RdS) (most : Int) (w : World) (hd : RdAt w T g R) : Calls Try.prog 67 #[.pointer (some ⟨g, 0, none⟩), .int .i64 most] w fun en w' => en = .returned (.int .i64 (R.num most).1) ∧ RdAt w' T g (R.num most).2 ∧ Mod (fun k => k = g) w w' := by
  have HD := hid hd
  obtain ⟨hT, hg, A, c, hc, hm, c0, c1, f0, f1, hh, hr⟩ := hd.cells
  clear hd
  by_cases h0 : R.e = 0
  · have e0 : (R.e == (0 : Int)) = true := by rw [beq_iff_eq]; exact h0
    have e1 : (R.e != (0 : Int)) = false := by rw [bne_eq_false_iff_eq]; exact h0
    have H0 := hid h0
    clear h0
    by_cases hz : (nextN R.b most).1 = 0
    · have HV := hid (show R.num most = (((nextN R.b most).2.1 : Int), ⟨R.b.drop (nextN R.b most).2.2, 0⟩) by unfold RdS.num; rw [if_neg (by simp [H0.out]), if_neg (by simp [hz])])
      obtain ⟨n1, n2, n3, n4, n5⟩ := nextN_ok hz
      have HZ := hid hz
      clear hz
      go_enter Try.func67, Try.ntmps67
      go_wp2_with fail
      refine (rdLook_calls T g R most _ HD.out H0.out).mono ?_
      rintro e w1 ⟨n, k, rfl, hA, hM, hS⟩
      obtain ⟨rfl, rfl, rfl⟩ := hS HZ.out
      clear hA hM hS
      obtain ⟨K, hK⟩ : ∃ K, K = (nextN R.b most).2.2 := ⟨_, rfl⟩
      obtain ⟨N, hN⟩ : ∃ N, N = (nextN R.b most).2.1 := ⟨_, rfl⟩
      rw [← hK] at n1 n2 n5 HV ⊢
      rw [← hN] at n3 n4 HV ⊢
      clear hK hN
      have hk1 : (K : Int) ≤ R.b.length := by omega
      have hR2 := Kd.Row.drop hr.out K c n2 hc
      have hl : (R.b.drop K).length = R.b.length - K := by simp
      by_cases hcK : c = K
      · rw [if_pos hcK] at hR2
        have HX := hid (HD.out.setB (b' := R.b.drop K) (A' := A) (n' := R.b.length - K) (c' := 0) hl.symm (by omega) (by omega) hR2)
        rw [H0.out] at HX
        clear hR2 hl
        go_wp2
        go_ret
        rw [HV.out]
        exact ⟨rfl, HX.out, Mod.one (p := ⟨g, 0, none⟩) _⟩
      · rw [if_neg hcK] at hR2
        have HX := hid (HD.out.setB (b' := R.b.drop K) (A' := A.map (·.add K)) (n' := R.b.length - K) (c' := c - K) hl.symm (by omega) (by omega) (by rw [show K * Kd.u8.sz = K from Nat.mul_one K] at hR2; exact hR2))
        rw [H0.out] at HX
        clear hR2 hl
        go_wp2
        go_ret
        rw [HV.out]
        exact ⟨rfl, HX.out, Mod.one (p := ⟨g, 0, none⟩) _⟩
    · have HV := hid (show R.num most = (0, ⟨R.b, (nextN R.b most).1⟩) by unfold RdS.num; rw [if_neg (by simp [H0.out]), if_pos hz])
      obtain ⟨E, hE⟩ : ∃ E, E = (nextN R.b most).1 := ⟨_, rfl⟩
      have hz1 : (E == (0 : Int)) = false := by rw [beq_eq_false_iff_ne, hE]; exact hz
      have hz2 : (E != (0 : Int)) = true := by rw [bne_iff_ne, hE]; exact hz
      have HE := hid hE
      rw [← hE] at HV
      clear hE hz
      go_enter Try.func67, Try.ntmps67
      go_wp2_with fail
      refine (rdLook_calls T g R most _ HD.out H0.out).mono ?_
      rintro e w1 ⟨n, k, rfl, hA, hM, hS⟩
      rw [← HE.out] at hA
      obtain ⟨_, _, A', c', _, _, _, d1, _, _, _, _⟩ := hA.cells
      have HA := hid hA
      have HM := hid hM
      clear hA hM hS c0 c1 f0 f1
      go_wp2
      go_ret
      rw [HV.out]
      exact ⟨rfl, HA.out, HM.out⟩
  · have e0 : (R.e == (0 : Int)) = false := by rw [beq_eq_false_iff_ne]; exact h0
    have e1 : (R.e != (0 : Int)) = true := by rw [bne_iff_ne]; exact h0
    have HV := hid (show R.num most = (0, R) by unfold RdS.num; rw [if_pos h0])
    clear h0
    go_enter Try.func67, Try.ntmps67
    go_wp2
    go_ret
    rw [HV.out]
    exact ⟨rfl, HD.out, Mod.refl _ _⟩
end Go.Proofs.Ytahhhnbpohcbfaa
