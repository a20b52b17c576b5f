import Derived.Test.YtahhhnbpohcbfaaRf2
import Derived.Test.YtahhhnbpohcbfaaR17
import Derived.Test.YtahhhnbpohcbfaaPr0
namespace Go.Proofs.Ytahhhnbpohcbfaa
open Go.RowKit

theorem mod_below {F : Nat → Prop} {w w1 w2 : World} (h : Below w.heap.size w w1) (k : Mod F w1 w2) : Mod F w w2 := (Mod.of_below h).trans k (fun _ _ h => h)

set_option maxHeartbeats 1600000 in
set_option maxRecDepth 100000 in
theorem rfNum_calls (g : Nat) (R : RdS) (most : Int) (w : World) (hd : RfAt w g R) (hl : R.b.length ≤ 1000000) : Calls Try.prog 70 #[.pointer (some ⟨g, 0, none⟩), .int .i64 most] w fun en w' => en = .returned (.int .i64 (R.num most).1) ∧ RfAt w' g (R.num most).2 ∧ Mod (fun k => k = g) w w' := by
  have HD := hid hd
  obtain ⟨c0, c1, f0, f1, hg⟩ := hd.cells
  clear hd
  have s2 := mkB_size R.b
  by_cases h0 : R.e = 0
  · have e0 : (R.e == (0 : Int)) = true := by rw [beq_iff_eq]; exact h0
    have e1 : (R.e != (0 : Int)) = false := by rw [bne_eq_false_iff_eq]; exact h0
    have H0 := hid h0
    clear h0
    by_cases hz : (nextN R.b most).1 = 0
    · obtain ⟨n1, n2, n3, n4, n5⟩ := nextN_ok hz
      have HN := hid (show nextV R.b most = .tuple #[.int .i64 (nextN R.b most).2.1, .int .i64 (nextN R.b most).2.2, .int .i64 0] by unfold nextV; rw [hz])
      have HV := hid (show R.num most = (((nextN R.b most).2.1 : Int), ⟨R.b.drop (nextN R.b most).2.2, 0⟩) by unfold RdS.num; rw [if_neg (by simp [H0.out]), if_neg (by simp [hz])])
      obtain ⟨K, hK⟩ : ∃ K, K = (nextN R.b most).2.2 := ⟨_, rfl⟩
      obtain ⟨N, hN⟩ : ∃ N, N = (nextN R.b most).2.1 := ⟨_, rfl⟩
      rw [← hK] at n1 n2 n5 HV HN
      rw [← hN] at n3 n4 HV HN
      clear hK hN hz
      have hk1 : (K : Int) ≤ R.b.length := by omega
      have hk2 : K ≤ (mkB R.b).size := by omega
      go_enter Try.func70, Try.ntmps70
      go_wp2_with fail
      refine (rfNext_calls R.b most _ hl).mono ?_
      rintro e w1 ⟨rfl, hb⟩
      rw [HN.out]
      obtain ⟨d0, d1, i0, i1, hg1⟩ := (HD.out.below hb).cells
      have HB := hid hb
      clear hb c0 c1 f0 f1
      go_wp2
      go_ret
      rw [HV.out, mkB_extract]
      have hx := ((HD.out.below HB.out).setE 0).setB ((R.b.drop K).take (R.b.length - K))
      rw [List.take_of_length_le (by simp)] at hx ⊢
      exact ⟨rfl, hx, mod_below HB.out ((mod_one (p := ⟨g, 1, none⟩) _).setCell (p := ⟨g, 0, none⟩) (fun _ => rfl) _)⟩
    · have HV := hid (show R.num most = (0, ⟨R.b, (nextN R.b most).1⟩) by unfold RdS.num; rw [if_neg (by simp [H0.out]), if_pos hz])
      obtain ⟨E, hE⟩ : ∃ E, E = (nextN R.b most).1 := ⟨_, rfl⟩
      have hz1 : (E == (0 : Int)) = false := by rw [beq_eq_false_iff_ne, hE]; exact hz
      have hz2 : (E != (0 : Int)) = true := by rw [bne_iff_ne, hE]; exact hz
      have HN := hid (show nextV R.b most = .tuple #[.int .i64 (nextN R.b most).2.1, .int .i64 (nextN R.b most).2.2, .int .i64 E] by unfold nextV; rw [hE])
      rw [← hE] at HV
      clear hE hz
      go_enter Try.func70, Try.ntmps70
      go_wp2_with fail
      refine (rfNext_calls R.b most _ hl).mono ?_
      rintro e w1 ⟨rfl, hb⟩
      rw [HN.out]
      obtain ⟨d0, d1, i0, i1, hg1⟩ := (HD.out.below hb).cells
      have HB := hid hb
      clear hb c0 c1 f0 f1
      go_wp2
      go_ret
      rw [HV.out]
      exact ⟨rfl, (HD.out.below HB.out).setE E, mod_below HB.out (mod_one (p := ⟨g, 1, none⟩) _)⟩
  · have e0 : (R.e == (0 : Int)) = false := by rw [beq_eq_false_iff_ne]; exact h0
    have e1 : (R.e != (0 : Int)) = true := by rw [bne_iff_ne]; exact h0
    have HV := hid (show R.num most = (0, R) by unfold RdS.num; rw [if_pos h0])
    clear h0
    go_enter Try.func70, Try.ntmps70
    go_wp2
    go_ret
    rw [HV.out]
    exact ⟨rfl, HD.out, Mod.refl _ _⟩

set_option maxHeartbeats 3200000 in
set_option maxRecDepth 100000 in
theorem rfText_calls (g : Nat) (R : RdS) (most : Int) (w : World) (hd : RfAt w g R) (hl : R.b.length ≤ 1000000) : Calls Try.prog 73 #[.pointer (some ⟨g, 0, none⟩), .int .i64 most] w fun en w' => en = .returned (.string (mkB (R.text most).1)) ∧ RfAt w' g (R.text most).2 ∧ Mod (fun k => k = g) w w' := by
  have HD := hid hd
  obtain ⟨c0, c1, f0, f1, hg⟩ := hd.cells
  clear hd
  have s2 := mkB_size R.b
  by_cases h0 : R.e = 0
  · have e0 : (R.e == (0 : Int)) = true := by rw [beq_iff_eq]; exact h0
    have e1 : (R.e != (0 : Int)) = false := by rw [bne_eq_false_iff_eq]; exact h0
    have H0 := hid h0
    clear h0
    by_cases hz : (nextN R.b most).1 = 0
    · obtain ⟨n1, n2, n3, n4, n5⟩ := nextN_ok hz
      have HN := hid (show nextV R.b most = .tuple #[.int .i64 (nextN R.b most).2.1, .int .i64 (nextN R.b most).2.2, .int .i64 0] by unfold nextV; rw [hz])
      by_cases hs : R.b.length < (nextN R.b most).2.2 + (nextN R.b most).2.1
      · have HV := hid (show R.text most = ([], ⟨R.b, 2⟩) by unfold RdS.text; rw [if_neg (by simp [H0.out]), if_neg (by simp [hz]), if_pos hs])
        obtain ⟨K, hK⟩ : ∃ K, K = (nextN R.b most).2.2 := ⟨_, rfl⟩
        obtain ⟨N, hN⟩ : ∃ N, N = (nextN R.b most).2.1 := ⟨_, rfl⟩
        rw [← hK] at n1 n2 n5 hs HN
        rw [← hN] at n3 n4 hs HN
        clear hK hN hz
        have hs1 : (R.b.length : Int) - K < N := by omega
        have hw : IntKind.i64.wrap ((R.b.length : Int) - K) = R.b.length - K := IntWalk.i64_in _ (by omega)
        go_enter Try.func73, Try.ntmps73
        go_wp2_with fail
        refine (rfNext_calls R.b most _ hl).mono ?_
        rintro e w1 ⟨rfl, hb⟩
        rw [HN.out]
        obtain ⟨d0, d1, i0, i1, hg1⟩ := (HD.out.below hb).cells
        have HB := hid hb
        clear hb c0 c1 f0 f1
        go_wp2
        go_ret
        rw [HV.out]
        exact ⟨rfl, ((HD.out.below HB.out).setE 0).setE 2, mod_below HB.out ((mod_one (p := ⟨g, 1, none⟩) _).setCell (p := ⟨g, 1, none⟩) (fun _ => rfl) _)⟩
      · have HV := hid (show R.text most = ((R.b.drop (nextN R.b most).2.2).take (nextN R.b most).2.1, ⟨R.b.drop ((nextN R.b most).2.2 + (nextN R.b most).2.1), 0⟩) by unfold RdS.text; rw [if_neg (by simp [H0.out]), if_neg (by simp [hz]), if_neg hs])
        obtain ⟨K, hK⟩ : ∃ K, K = (nextN R.b most).2.2 := ⟨_, rfl⟩
        obtain ⟨N, hN⟩ : ∃ N, N = (nextN R.b most).2.1 := ⟨_, rfl⟩
        rw [← hK] at n1 n2 n5 hs HN HV
        rw [← hN] at n3 n4 hs HN HV
        clear hK hN hz
        have hs1 : ¬ (R.b.length : Int) - K < N := by omega
        have hw : IntKind.i64.wrap ((R.b.length : Int) - K) = R.b.length - K := IntWalk.i64_in _ (by omega)
        have hw2 : IntKind.i64.wrap ((K : Int) + N) = K + N := IntWalk.i64_in _ (by omega)
        have hw3 : (0 : Int) ≤ (K : Int) + N := by omega
        have hw4 : ((K : Int) + N).toNat = K + N := by omega
        have hw5 : (K : Int) + N ≤ R.b.length := by omega
        have hw6 : (K : Int) ≤ (K : Int) + N := by omega
        have hw7 : K + N ≤ R.b.length := by omega
        go_enter Try.func73, Try.ntmps73
        go_wp2_with fail
        refine (rfNext_calls R.b most _ hl).mono ?_
        rintro e w1 ⟨rfl, hb⟩
        rw [HN.out]
        obtain ⟨d0, d1, i0, i1, hg1⟩ := (HD.out.below hb).cells
        have HB := hid hb
        clear hb c0 c1 f0 f1
        go_wp2
        go_ret
        rw [HV.out, mkB_extract, mkB_extract, Nat.add_sub_cancel_left]
        have hx := ((HD.out.below HB.out).setE 0).setB ((R.b.drop (K + N)).take (R.b.length - (K + N)))
        rw [List.take_of_length_le (l := R.b.drop (K + N)) (by simp)] at hx ⊢
        exact ⟨rfl, hx, mod_below HB.out ((mod_one (p := ⟨g, 1, none⟩) _).setCell (p := ⟨g, 0, none⟩) (fun _ => rfl) _)⟩
    · have HV := hid (show R.text most = ([], ⟨R.b, (nextN R.b most).1⟩) by unfold RdS.text; rw [if_neg (by simp [H0.out]), if_pos hz])
      obtain ⟨E, hE⟩ : ∃ E, E = (nextN R.b most).1 := ⟨_, rfl⟩
      have hz1 : (E == (0 : Int)) = false := by rw [beq_eq_false_iff_ne, hE]; exact hz
      have hz2 : (E != (0 : Int)) = true := by rw [bne_iff_ne, hE]; exact hz
      have HN := hid (show nextV R.b most = .tuple #[.int .i64 (nextN R.b most).2.1, .int .i64 (nextN R.b most).2.2, .int .i64 E] by unfold nextV; rw [hE])
      rw [← hE] at HV
      clear hE hz
      go_enter Try.func73, Try.ntmps73
      go_wp2_with fail
      refine (rfNext_calls R.b most _ hl).mono ?_
      rintro e w1 ⟨rfl, hb⟩
      rw [HN.out]
      obtain ⟨d0, d1, i0, i1, hg1⟩ := (HD.out.below hb).cells
      have HB := hid hb
      clear hb c0 c1 f0 f1
      go_wp2
      go_ret
      rw [HV.out]
      exact ⟨rfl, (HD.out.below HB.out).setE E, mod_below HB.out (mod_one (p := ⟨g, 1, none⟩) _)⟩
  · have e0 : (R.e == (0 : Int)) = false := by rw [beq_eq_false_iff_ne]; exact h0
    have e1 : (R.e != (0 : Int)) = true := by rw [bne_iff_ne]; exact h0
    have HV := hid (show R.text most = ([], R) by unfold RdS.text; rw [if_pos h0])
    clear h0
    go_enter Try.func73, Try.ntmps73
    go_wp2
    go_ret
    rw [HV.out]
    exact ⟨rfl, HD.out, Mod.refl _ _⟩

set_option maxHeartbeats 1600000 in
set_option maxRecDepth 100000 in
/-- A field whose least is 0. -/
theorem rfField0_calls (g : Nat) (R : RdS) (k : Int) (b : Nat) (f most : Int) (w : World) (hd : RfAt w g R) (hl : R.b.length ≤ 1000000) (hb : b < 5) (hf : f = (b : Int) + 1) : Calls Try.prog 72 #[.pointer (some ⟨g, 0, none⟩), .int .i64 k, .int .i64 f, .int .i64 0, .int .i64 most] w fun en w' => en = .returned (.int .i64 (R.opt (hasF k (2 ^ b)) most).1) ∧ RfAt w' g (R.opt (hasF k (2 ^ b)) most).2 ∧ Mod (fun k => k = g) w w' := by
  have HD := hid hd
  clear hd
  obtain ⟨t, ht⟩ : ∃ t, t = hasF k (2 ^ b) := ⟨_, rfl⟩
  rw [← ht]
  have HT := hid ht
  clear ht
  have h0 := (R.num_0 most).1
  have HF := hid hf
  clear hf
  cases t
  · go_enter Try.func72, Try.ntmps72
    go_wp2_with fail
    refine (rhas17_calls k b f _ hb HF.out).mono ?_
    rintro e w1 ⟨rfl, rfl⟩
    rw [← HT.out]
    go_wp2
    go_ret
    exact ⟨rfl, HD.out, Mod.refl _ _⟩
  · obtain ⟨z, hz⟩ : ∃ z, z = (R.num most).1 := ⟨_, rfl⟩
    rw [← hz] at h0
    have HZ := hid hz
    have h1 : ¬ z < 0 := by omega
    clear hz
    go_enter Try.func72, Try.ntmps72
    go_wp2_with fail
    refine (rhas17_calls k b f _ hb HF.out).mono ?_
    rintro e w1 ⟨rfl, rfl⟩
    rw [← HT.out]
    go_wp2_with fail
    refine (rfNum_calls g R most _ HD.out hl).mono ?_
    rintro e w1 ⟨rfl, h2, h3⟩
    rw [← HZ.out]
    have H2 := hid h2
    have H3 := hid h3
    clear h2 h3
    go_wp2
    go_ret
    exact ⟨ret_int HZ.out, H2.out, H3.out⟩
set_option maxHeartbeats 1600000 in
set_option maxRecDepth 100000 in
/-- A field whose least is 1. -/
theorem rfField1_calls (g : Nat) (R : RdS) (k : Int) (b : Nat) (f most : Int) (w : World) (hd : RfAt w g R) (hl : R.b.length ≤ 1000000) (hb : b < 5) (hf : f = (b : Int) + 1) : Calls Try.prog 72 #[.pointer (some ⟨g, 0, none⟩), .int .i64 k, .int .i64 f, .int .i64 1, .int .i64 most] w fun en w' => en = .returned (.int .i64 (R.optLeast (hasF k (2 ^ b)) most).1) ∧ RfAt w' g (R.optLeast (hasF k (2 ^ b)) most).2 ∧ Mod (fun k => k = g) w w' := by
  have HD := hid hd
  clear hd
  obtain ⟨t, ht⟩ : ∃ t, t = hasF k (2 ^ b) := ⟨_, rfl⟩
  rw [← ht]
  have HT := hid ht
  clear ht
  have h0 := (R.num_0 most).1
  have HF := hid hf
  clear hf
  cases t
  · go_enter Try.func72, Try.ntmps72
    go_wp2_with fail
    refine (rhas17_calls k b f _ hb HF.out).mono ?_
    rintro e w1 ⟨rfl, rfl⟩
    rw [← HT.out]
    go_wp2
    go_ret
    exact ⟨rfl, HD.out, Mod.refl _ _⟩
  · obtain ⟨z, hz⟩ : ∃ z, z = (R.num most).1 := ⟨_, rfl⟩
    rw [← hz] at h0
    have HZ := hid hz
    by_cases h1 : z = 0
    · have HV := hid (show R.optLeast true most = (0, (R.num most).2.fail 3) by unfold RdS.optLeast RdS.least; rw [if_pos rfl, if_pos (by rw [← hz]; exact h1)])
      subst h1
      clear hz
      go_enter Try.func72, Try.ntmps72
      go_wp2_with fail
      refine (rhas17_calls k b f _ hb HF.out).mono ?_
      rintro e w1 ⟨rfl, rfl⟩
      rw [← HT.out]
      go_wp2_with fail
      refine (rfNum_calls g R most _ HD.out hl).mono ?_
      rintro e w1 ⟨rfl, h2, h3⟩
      rw [← HZ.out]
      have H2 := hid h2
      have H3 := hid h3
      clear h2 h3
      go_wp2_with fail
      refine (rfFail_calls g _ 3 _ H2.out).mono ?_
      rintro e w2 ⟨rfl, h4, h5⟩
      have H4 := hid h4
      have H5 := hid h5
      clear h4 h5
      go_wp2
      go_ret
      rw [HV.out]
      exact ⟨rfl, H4.out, H3.out.trans H5.out (fun _ _ h => h)⟩
    · have HV := hid (show R.optLeast true most = R.num most by unfold RdS.optLeast RdS.least; rw [if_pos rfl, if_neg (by rw [← hz]; exact h1)])
      have h2 : ¬ z < 1 := by omega
      clear hz
      go_enter Try.func72, Try.ntmps72
      go_wp2_with fail
      refine (rhas17_calls k b f _ hb HF.out).mono ?_
      rintro e w1 ⟨rfl, rfl⟩
      rw [← HT.out]
      go_wp2_with fail
      refine (rfNum_calls g R most _ HD.out hl).mono ?_
      rintro e w1 ⟨rfl, h2, h3⟩
      rw [← HZ.out]
      have H2 := hid h2
      have H3 := hid h3
      clear h2 h3
      go_wp2
      go_ret
      rw [HV.out]
      exact ⟨ret_int HZ.out, H2.out, H3.out⟩
end Go.Proofs.Ytahhhnbpohcbfaa
