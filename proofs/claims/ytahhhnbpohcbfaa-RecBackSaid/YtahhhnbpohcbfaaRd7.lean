import Derived.Test.YtahhhnbpohcbfaaRd6
namespace Go.Proofs.Ytahhhnbpohcbfaa
open Go.RowKit

set_option maxHeartbeats 3200000 in
set_option maxRecDepth 100000 in
theorem rdText_calls (T : Nat → Prop) (g : Nat) (R : RdS) (most : Int) (w : World) (hd : RdAt w T g R) : Calls Try.prog 68 #[.pointer (some ⟨g, 0, none⟩), .int .i64 most] w fun en w' => en = .returned (.string (mkB (R.text most).1)) ∧ RdAt w' T g (R.text most).2 ∧ Mod (fun k => k = g) w w' := by
  have HD := hid hd
  obtain ⟨hT, hg, A, c, hc, hm, c0, c1, f0, f1, hh, hr⟩ := hd.cells
  clear hd
  by_cases h0 : R.e = 0
  · have e0 : (R.e == (0 : Int)) = true := by rw [beq_iff_eq]; exact h0
    have e1 : (R.e != (0 : Int)) = false := by rw [bne_eq_false_iff_eq]; exact h0
    have H0 := hid h0
    clear h0
    by_cases hz : (nextN R.b most).1 = 0
    · obtain ⟨n1, n2, n3, n4, n5⟩ := nextN_ok hz
      have HZ := hid hz
      obtain ⟨K, hK⟩ : ∃ K, K = (nextN R.b most).2.2 := ⟨_, rfl⟩
      obtain ⟨N, hN⟩ : ∃ N, N = (nextN R.b most).2.1 := ⟨_, rfl⟩
      have HK := hid hK
      have HN := hid hN
      rw [← hK] at n1 n2 n5
      rw [← hN] at n3 n4
      by_cases hs : R.b.length < K + N
      · have HV := hid (show R.text most = ([], ⟨R.b, 2⟩) by unfold RdS.text; rw [if_neg (by simp [H0.out]), if_neg (by simp [hz]), if_pos (by rw [← hK, ← hN]; exact hs)])
        have hs1 : (R.b.length : Int) - K < N := by omega
        have HF := hid (R.fail_0 H0.out 2)
        have hw : IntKind.i64.wrap ((R.b.length : Int) - K) = R.b.length - K := IntWalk.i64_in _ (by omega)
        clear hz hK hN
        go_enter Try.func68, Try.ntmps68
        go_wp2_with fail
        refine (rdLook_calls T g R most _ HD.out H0.out).mono ?_
        rintro e w1 ⟨n, k, rfl, hA, hM, hS⟩
        obtain ⟨rfl, rfl, rfl⟩ := hS HZ.out
        rw [← HK.out, ← HN.out]
        clear hA hM hS
        go_wp2_with fail
        refine (rdFail_calls T g R 2 _ HD.out).mono ?_
        rintro e w2 ⟨rfl, h1, h2⟩
        rw [HF.out] at h1
        obtain ⟨_, _, A', c', _, _, _, d1, _, _, _, _⟩ := h1.cells
        have H1 := hid h1
        have H2 := hid h2
        clear h1 h2 c0 c1 f0 f1
        go_wp2
        go_ret
        rw [HV.out]
        exact ⟨rfl, H1.out, H2.out⟩
      · have HV := hid (show R.text most = ((R.b.drop K).take N, ⟨R.b.drop (K + N), 0⟩) by unfold RdS.text; rw [if_neg (by simp [H0.out]), if_neg (by simp [hz]), if_neg (by rw [← hK, ← hN]; exact hs), hK, hN])
        have hs1 : ¬ (R.b.length : Int) - K < N := by omega
        have hw : IntKind.i64.wrap ((R.b.length : Int) - K) = R.b.length - K := IntWalk.i64_in _ (by omega)
        have hw2 : IntKind.i64.wrap ((K : Int) + N) = K + N := IntWalk.i64_in _ (by omega)
        have hw3 : (0 : Int) ≤ (K : Int) + N := by omega
        have hw4 : ((K : Int) + N).toNat = K + N := by omega
        have hw5 : (K : Int) + N ≤ R.b.length := by omega
        have hw6 : (K : Int) ≤ (K : Int) + N := by omega
        clear hz hK hN
        have hR1 := Kd.Row.take (Kd.Row.drop hr.out K c n2 hc) N
        have hR2 := Kd.Row.drop hr.out (K + N) c (by omega) hc
        rw [show K * Kd.u8.sz = K from Nat.mul_one K] at hR1
        rw [show (K + N) * Kd.u8.sz = K + N from Nat.mul_one _] at hR2
        have hl1 : ((R.b.drop K).take N).length = N := by rw [List.length_take, List.length_drop]; omega
        have hl2 : (R.b.drop (K + N)).length = R.b.length - (K + N) := by simp
        by_cases hcK : c = K
        · obtain rfl : N = 0 := by omega
          rw [if_pos hcK] at hR1
          rw [if_pos (by omega)] at hR2
          have HX := hid (HD.out.setB (b' := R.b.drop (K + 0)) (A' := A) (n' := R.b.length - K) (c' := 0) (by rw [hl2, Nat.add_zero]) (by omega) (by omega) hR2)
          rw [H0.out] at HX
          have hcv : (convert 27 9 (.slice A 0 0)).run Try.prog w = .ok (.string (mkB ((R.b.drop K).take 0))) w := conv_u8 (S := fun k => T k ∧ k ≠ g) ⟨A, 0, by rw [hl1], by omega, by omega, hR1⟩
          clear hR1 hR2 hl1 hl2
          go_enter Try.func68, Try.ntmps68
          go_wp2_with fail
          refine (rdLook_calls T g R most _ HD.out H0.out).mono ?_
          rintro e w1 ⟨n, k, rfl, hA, hM, hS⟩
          obtain ⟨rfl, rfl, rfl⟩ := hS HZ.out
          rw [← HK.out, ← HN.out]
          clear hA hM hS
          go_wp2
          go_ret
          rw [HV.out]
          exact ⟨rfl, HX.out, Mod.one (p := ⟨g, 0, none⟩) _⟩
        · rw [if_neg hcK] at hR1
          have hcv : (convert 27 9 (.slice (A.map (fun x => x.add K)) N (c - K))).run Try.prog w = .ok (.string (mkB ((R.b.drop K).take N))) w := conv_u8 (S := fun k => T k ∧ k ≠ g) ⟨A.map (fun x => x.add K), c - K, by rw [hl1], by omega, by omega, hR1⟩
          by_cases hcN : c = K + N
          · rw [if_pos hcN] at hR2
            rw [show c - K = N by omega] at hcv
            have HX := hid (HD.out.setB (b' := R.b.drop (K + N)) (A' := A) (n' := R.b.length - (K + N)) (c' := 0) hl2.symm (by omega) (by omega) hR2)
            rw [H0.out] at HX
            clear hR1 hR2 hl1 hl2
            go_enter Try.func68, Try.ntmps68
            go_wp2_with fail
            refine (rdLook_calls T g R most _ HD.out H0.out).mono ?_
            rintro e w1 ⟨n, k, rfl, hA, hM, hS⟩
            obtain ⟨rfl, rfl, rfl⟩ := hS HZ.out
            rw [← HK.out, ← HN.out]
            clear hA hM hS
            go_wp2
            go_ret
            rw [HV.out]
            exact ⟨rfl, HX.out, Mod.one (p := ⟨g, 0, none⟩) _⟩
          · rw [if_neg hcN] at hR2
            have HX := hid (HD.out.setB (b' := R.b.drop (K + N)) (A' := A.map (fun x => x.add (K + N))) (n' := R.b.length - (K + N)) (c' := c - (K + N)) hl2.symm (by omega) (by omega) hR2)
            rw [H0.out] at HX
            clear hR1 hR2 hl1 hl2
            go_enter Try.func68, Try.ntmps68
            go_wp2_with fail
            refine (rdLook_calls T g R most _ HD.out H0.out).mono ?_
            rintro e w1 ⟨n, k, rfl, hA, hM, hS⟩
            obtain ⟨rfl, rfl, rfl⟩ := hS HZ.out
            rw [← HK.out, ← HN.out]
            clear hA hM hS
            go_wp2
            go_ret
            rw [HV.out]
            exact ⟨rfl, HX.out, Mod.one (p := ⟨g, 0, none⟩) _⟩
    · have HV := hid (show R.text most = ([], ⟨R.b, (nextN R.b most).1⟩) by unfold RdS.text; rw [if_neg (by simp [H0.out]), if_pos hz])
      obtain ⟨E, hE⟩ : ∃ E, E = (nextN R.b most).1 := ⟨_, rfl⟩
      have hz1 : (E == (0 : Int)) = false := by rw [beq_eq_false_iff_ne, hE]; exact hz
      have hz2 : (E != (0 : Int)) = true := by rw [bne_iff_ne, hE]; exact hz
      have HE := hid hE
      rw [← hE] at HV
      clear hE hz
      go_enter Try.func68, Try.ntmps68
      go_wp2_with fail
      refine (rdLook_calls T g R most _ HD.out H0.out).mono ?_
      rintro e w1 ⟨n, k, rfl, hA, hM, hS⟩
      rw [← HE.out] at hA
      obtain ⟨_, _, A', c', _, _, _, d1, _, _, _, _⟩ := hA.cells
      have HA := hid hA
      have HM := hid hM
      clear hA hM hS c0 c1 f0 f1
      go_wp2
      go_ret
      rw [HV.out]
      exact ⟨rfl, HA.out, HM.out⟩
  · have e0 : (R.e == (0 : Int)) = false := by rw [beq_eq_false_iff_ne]; exact h0
    have e1 : (R.e != (0 : Int)) = true := by rw [bne_iff_ne]; exact h0
    have HV := hid (show R.text most = ([], R) by unfold RdS.text; rw [if_pos h0])
    clear h0
    go_enter Try.func68, Try.ntmps68
    go_wp2
    go_ret
    rw [HV.out]
    exact ⟨rfl, HD.out, Mod.refl _ _⟩
end Go.Proofs.Ytahhhnbpohcbfaa
