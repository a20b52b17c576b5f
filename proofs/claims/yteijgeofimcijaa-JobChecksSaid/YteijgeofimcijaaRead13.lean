/- siskinref10.Reader.One: the rest of its cases; One, Any. -/
import Derived.Test.YteijgeofimcijaaRead12
namespace Go.Proofs.Yteijgeofimcijaa
open Go.RowKit

set_option maxHeartbeats 4000000 in
set_option maxRecDepth 100000 in
theorem one_yes (tab : List ByteArray) (tv : Value) (en : Int) (g B : Nat) (w : World) (ax : Int) (r : List WordS) (out : List NodeS) (h : QAt tab tv en g B w (⟨sYes, ax⟩ :: r) out 0 0) : Calls Try.prog 168 #[.pointer (some ⟨g, 0, none⟩)] w fun e w' => e = .returned (.tuple #[]) ∧ Mod (rF g B) w w' ∧ ResQ tab tv en g B (.ok r (out ++ [⟨1, 0⟩])) (⟨sYes, ax⟩ :: r) out w' := by
  have HQ := hid h
  have hsum := h.sum
  simp only [List.length_cons] at hsum
  clear h
  go_enter Try.func168, Try.ntmps168
  go_wp2_with fail
  refine (peek10_calls tab tv en g B w _ out HQ.out).mono ?_
  rintro e w2 ⟨rfl, rfl⟩
  simp only [headT]
  rw [show sYes = ⟨#[42]⟩ from rfl]
  go_wp2_with fail
  refine (here_calls tab tv en g B w _ out 0 0 HQ.out).mono ?_
  rintro e w5 ⟨rfl, rfl⟩
  simp only [hereI]
  obtain ⟨a, n, c, z1, zf, hn1, hnc, hg, hcut⟩ := HQ.out.cut
  have zf1 := zf 1
  have HCUT := hid hcut
  have hn1I : (1 : Int) ≤ n := by omega
  clear zf hcut
  by_cases hc1 : c = 1
  · subst hc1
    obtain rfl : n = 1 := by omega
    obtain ⟨V, hV⟩ : ∃ V, V = World.setCell w ⟨g, 1, none⟩ (.slice (some a) 0 0) := ⟨_, rfl⟩
    have HX := hid (show QAt tab tv en g B V r out 0 0 ∧ Mod (rF g B) w V by rw [hV]; exact HCUT.out (some a) 0 0 (by simp) rfl rfl)
    have HVV := hid hV
    clear hV HCUT
    have HQ3 := hid HX.out.1
    have HM3 := hid HX.out.2
    rw [HVV.out] at HQ3 HM3
    obtain ⟨A3, n3, c3, y3, yg, yB, yo, yO, ymore⟩ := HQ3.out.more (x := ⟨1, 0⟩) (by omega)
    have HMORE := hid ymore
    have HO3 := hid yO
    clear ymore yO
    have y3' : w.cell? ⟨g, 3, none⟩ = some (.slice A3 n3 c3) := (World.cell?_setCell_other w ⟨g, 1, none⟩ ⟨g, 3, none⟩ _ (by simp)).symm.trans y3
    go_wp2_with (at_builtin; go_must (refine append_arm Kd.node (w0 := _) B rfl _ _ 23 122 _ 16 rfl Try.underlying23 Try.infoNode rfl (by decide) (by decide) (.slice A3 n3 c3) out ⟨1, 0⟩ [.int .i64 (1), .int .i64 (0)] NoT NoT rfl (by exact congrArg (fun k => Value.slice (some ⟨k, 0, none⟩) 1 1) (show w.heap.size = (World.setCell w ⟨g, 1, none⟩ _).heap.size by simp)) rfl (fun _ h => h.elim) HO3.out (Below.refl _ _) yB (by omega) ?_))
    intro v1 w4 hO4 hb4 hg4 _
    obtain ⟨A4, n4, c4, rfl, hx1, hx2⟩ := hO4.shape'
    obtain ⟨⟨f43, f44⟩, q4, m4⟩ := HMORE.out _ w4 hO4 hb4 hg4
    have HQ4 := hid q4
    have HM4 := hid (rF_trans HM3.out m4)
    clear q4 m4 hx1 hx2 hO4 hb4 hg4
    go_wp2
    (first | go_end0 | refine bodyPost_ret (results_none rfl _ _ _) rfl ?_)
    refine ⟨rfl, HM4.out, ?_⟩
    exact HQ4.out
  · obtain ⟨V, hV⟩ : ∃ V, V = World.setCell w ⟨g, 1, none⟩ (.slice (some ⟨a.block, a.off + 2, none⟩) (n - 1) (c - 1)) := ⟨_, rfl⟩
    have HX := hid (show QAt tab tv en g B V r out 0 0 ∧ Mod (rF g B) w V by rw [hV]; exact HCUT.out _ (n - 1) (c - 1) (by rw [if_neg hc1]) rfl rfl)
    have HVV := hid hV
    clear hV HCUT
    have HQ3 := hid HX.out.1
    have HM3 := hid HX.out.2
    rw [HVV.out] at HQ3 HM3
    obtain ⟨A3, n3, c3, y3, yg, yB, yo, yO, ymore⟩ := HQ3.out.more (x := ⟨1, 0⟩) (by omega)
    have HMORE := hid ymore
    have HO3 := hid yO
    clear ymore yO
    have y3' : w.cell? ⟨g, 3, none⟩ = some (.slice A3 n3 c3) := (World.cell?_setCell_other w ⟨g, 1, none⟩ ⟨g, 3, none⟩ _ (by simp)).symm.trans y3
    go_wp2_with (at_builtin; go_must (refine append_arm Kd.node (w0 := _) B rfl _ _ 23 122 _ 16 rfl Try.underlying23 Try.infoNode rfl (by decide) (by decide) (.slice A3 n3 c3) out ⟨1, 0⟩ [.int .i64 (1), .int .i64 (0)] NoT NoT rfl (by exact congrArg (fun k => Value.slice (some ⟨k, 0, none⟩) 1 1) (show w.heap.size = (World.setCell w ⟨g, 1, none⟩ _).heap.size by simp)) rfl (fun _ h => h.elim) HO3.out (Below.refl _ _) yB (by omega) ?_))
    intro v1 w4 hO4 hb4 hg4 _
    obtain ⟨A4, n4, c4, rfl, hx1, hx2⟩ := hO4.shape'
    obtain ⟨⟨f43, f44⟩, q4, m4⟩ := HMORE.out _ w4 hO4 hb4 hg4
    have HQ4 := hid q4
    have HM4 := hid (rF_trans HM3.out m4)
    clear q4 m4 hx1 hx2 hO4 hb4 hg4
    go_wp2
    (first | go_end0 | refine bodyPost_ret (results_none rfl _ _ _) rfl ?_)
    refine ⟨rfl, HM4.out, ?_⟩
    exact HQ4.out
set_option maxHeartbeats 4000000 in
set_option maxRecDepth 100000 in
theorem one_open (tab : List ByteArray) (tv : Value) (en : Int) (g B : Nat) (f : Nat) (hP : PartQ tab tv en g B 168 (oneP tab en f) f) (w : World) (ax : Int) (r : List WordS) (out : List NodeS) (hm : r.length ≤ f) (h : QAt tab tv en g B w (⟨sOpen, ax⟩ :: r) out 0 0) : Calls Try.prog 168 #[.pointer (some ⟨g, 0, none⟩)] w fun e w' => e = .returned (.tuple #[]) ∧ Mod (rF g B) w w' ∧ ResQ tab tv en g B (oneP tab en (f + 1) (⟨sOpen, ax⟩ :: r) out) (⟨sOpen, ax⟩ :: r) out w' := by
  have HQ := hid h
  have hsum := h.sum
  simp only [List.length_cons] at hsum
  have HANY := hid (any_q tab tv en g B (manyP (oneP tab en f) sAnd 4 f) f (manyP_less (oneP_less tab en f) _ _ _) (manyP_bad (oneP_bad tab en f) _ _ _) (all_q tab tv en g B (oneP tab en f) f (oneP_less tab en f) (oneP_bad tab en f) hP))
  have HD := hid (show oneP tab en (f + 1) (⟨sOpen, ax⟩ :: r) out = shutP en (anyP (oneP tab en f) f r out) by rw [oneP, if_neg (show sOpen ≠ sNot by decide), if_pos rfl])
  clear hP
  clear h
  go_enter Try.func168, Try.ntmps168
  go_wp2_with fail
  refine (peek10_calls tab tv en g B w _ out HQ.out).mono ?_
  rintro e w2 ⟨rfl, rfl⟩
  simp only [headT]
  rw [show sOpen = ⟨#[40]⟩ from rfl]
  go_wp2_with fail
  refine (here_calls tab tv en g B w _ out 0 0 HQ.out).mono ?_
  rintro e w5 ⟨rfl, rfl⟩
  simp only [hereI]
  obtain ⟨a, n, c, z1, zf, hn1, hnc, hg, hcut⟩ := HQ.out.cut
  have zf1 := zf 1
  have HCUT := hid hcut
  have hn1I : (1 : Int) ≤ n := by omega
  clear zf hcut
  by_cases hc1 : c = 1
  · subst hc1
    obtain rfl : n = 1 := by omega
    obtain ⟨V, hV⟩ : ∃ V, V = World.setCell w ⟨g, 1, none⟩ (.slice (some a) 0 0) := ⟨_, rfl⟩
    have HX := hid (show QAt tab tv en g B V r out 0 0 ∧ Mod (rF g B) w V by rw [hV]; exact HCUT.out (some a) 0 0 (by simp) rfl rfl)
    have HVV := hid hV
    clear hV HCUT
    go_wp2_with fail
    rw [← HVV.out]
    refine (HANY.out V r out hm HX.out.1).mono ?_
    rintro e w3 ⟨rfl, hm3, hq3⟩
    have HM3 := hid (rF_trans HX.out.2 hm3)
    clear hm3
    have hq4 : ResQ tab tv en g B (anyP (oneP tab en f) f r out) r out w3 := hq3
    clear hq3
    generalize hr : anyP (oneP tab en f) f r out = q at hq4 HD
    cases q with
    | bad a3 e3 =>
      obtain ⟨r3, o3, k1, k2, k3⟩ := hq4
      have he3 := anyP_bad (oneP_bad tab en f) f _ _ _ _ hr
      have HQ3 := hid k1
      clear k1 hr
      go_wp2_with fail
      refine (peek10_bad tab tv en g B w3 r3 o3 a3 e3 he3 HQ3.out).mono ?_
      rintro e w6 ⟨rfl, rfl⟩
      go_wp2_with fail
      refine (here_calls tab tv en g B w3 r3 o3 a3 e3 HQ3.out).mono ?_
      rintro e w6 ⟨rfl, rfl⟩
      go_wp2_with fail
      refine (fail_more tab tv en g B w3 r3 o3 a3 e3 _ 3 he3 HQ3.out).mono ?_
      rintro e w6 ⟨rfl, rfl⟩
      go_wp2
      (first | go_end0 | refine bodyPost_ret (results_none rfl _ _ _) rfl ?_)
      refine ⟨rfl, HM3.out, ?_⟩
      rw [HD.out]
      exact ⟨r3, o3, HQ3.out, by simp only [List.length_cons]; omega, by simp only [List.length_cons]; omega⟩
    | ok r3 o3 =>
      have hl3 := anyP_less (oneP_less tab en f) f _ _ _ _ hr
      have HQ3 := hid (show QAt tab tv en g B w3 r3 o3 0 0 from hq4)
      clear hq4 hr
      go_wp2_with fail
      refine (peek10_calls tab tv en g B w3 r3 o3 HQ3.out).mono ?_
      rintro e w6 ⟨rfl, rfl⟩
      cases r3 with
      | nil =>
        rw [show headT [] = ⟨#[]⟩ from rfl]
        go_wp2_with fail
        refine (here_calls tab tv en g B w3 [] o3 0 0 HQ3.out).mono ?_
        rintro e w6 ⟨rfl, rfl⟩
        rw [show hereI en [] = en from rfl]
        go_wp2_with fail
        refine (fail_first tab tv en g B w3 [] o3 en 3 HQ3.out).mono ?_
        rintro e w6 ⟨rfl, hq6, hm6⟩
        have HQ6 := hid hq6
        have HM6 := hid (rF_trans HM3.out hm6)
        clear hq6 hm6
        go_wp2
        (first | go_end0 | refine bodyPost_ret (results_none rfl _ _ _) rfl ?_)
        refine ⟨rfl, HM6.out, ?_⟩
        rw [HD.out]
        exact ⟨[], o3, HQ6.out, by simp, by simp only [List.length_cons, List.length_nil] at *; omega⟩
      | cons y r3 =>
        obtain ⟨ty, ay⟩ := y
        simp only [headT]
        simp only [List.length_cons] at hl3
        by_cases h41 : ty = sShut
        · subst h41
          rw [show sShut = ⟨#[41]⟩ from rfl]
          obtain ⟨a, n, c, z1, zf, hn1, hnc, hg, hcut⟩ := HQ3.out.cut
          have zf1 := zf 1
          have HCUT := hid hcut
          have hn1I : (1 : Int) ≤ n := by omega
          clear zf hcut
          by_cases hc1 : c = 1
          · subst hc1
            obtain rfl : n = 1 := by omega
            obtain ⟨VW, hV⟩ : ∃ VW, VW = World.setCell w3 ⟨g, 1, none⟩ (.slice (some a) 0 0) := ⟨_, rfl⟩
            have HXW := hid (show QAt tab tv en g B VW r3 o3 0 0 ∧ Mod (rF g B) w3 VW by rw [hV]; exact HCUT.out (some a) 0 0 (by simp) rfl rfl)
            have HVW := hid hV
            clear hV HCUT
            go_wp2
            (first | go_end0 | refine bodyPost_ret (results_none rfl _ _ _) rfl ?_)
            rw [← HVW.out]
            refine ⟨rfl, rF_trans HM3.out HXW.out.2, ?_⟩
            rw [HD.out, show shutP en (.ok (⟨sShut, ay⟩ :: r3) o3) = .ok r3 o3 by rw [shutP, if_pos rfl]]
            exact HXW.out.1
          · obtain ⟨VW, hV⟩ : ∃ VW, VW = World.setCell w3 ⟨g, 1, none⟩ (.slice (some ⟨a.block, a.off + 2, none⟩) (n - 1) (c - 1)) := ⟨_, rfl⟩
            have HXW := hid (show QAt tab tv en g B VW r3 o3 0 0 ∧ Mod (rF g B) w3 VW by rw [hV]; exact HCUT.out _ (n - 1) (c - 1) (by rw [if_neg hc1]) rfl rfl)
            have HVW := hid hV
            clear hV HCUT
            go_wp2
            (first | go_end0 | refine bodyPost_ret (results_none rfl _ _ _) rfl ?_)
            rw [← HVW.out]
            refine ⟨rfl, rF_trans HM3.out HXW.out.2, ?_⟩
            rw [HD.out, show shutP en (.ok (⟨sShut, ay⟩ :: r3) o3) = .ok r3 o3 by rw [shutP, if_pos rfl]]
            exact HXW.out.1
        · have hst := text_ne' h41 [41] (by decide +kernel)
          have HN := hid h41
          clear h41
          go_wp2_with fail
          refine (here_calls tab tv en g B w3 _ o3 0 0 HQ3.out).mono ?_
          rintro e w6 ⟨rfl, rfl⟩
          simp only [hereI]
          go_wp2_with fail
          refine (fail_first tab tv en g B w3 _ o3 ay 3 HQ3.out).mono ?_
          rintro e w6 ⟨rfl, hq6, hm6⟩
          have HQ6 := hid hq6
          have HM6 := hid (rF_trans HM3.out hm6)
          clear hq6 hm6
          go_wp2
          (first | go_end0 | refine bodyPost_ret (results_none rfl _ _ _) rfl ?_)
          refine ⟨rfl, HM6.out, ?_⟩
          rw [HD.out, show shutP en (.ok (⟨ty, ay⟩ :: r3) o3) = .bad ay 3 by rw [shutP, if_neg HN.out]]
          exact ⟨_, o3, HQ6.out, by simp only [List.length_cons]; omega, by simp only [List.length_cons]; omega⟩
  · obtain ⟨V, hV⟩ : ∃ V, V = World.setCell w ⟨g, 1, none⟩ (.slice (some ⟨a.block, a.off + 2, none⟩) (n - 1) (c - 1)) := ⟨_, rfl⟩
    have HX := hid (show QAt tab tv en g B V r out 0 0 ∧ Mod (rF g B) w V by rw [hV]; exact HCUT.out _ (n - 1) (c - 1) (by rw [if_neg hc1]) rfl rfl)
    have HVV := hid hV
    clear hV HCUT
    go_wp2_with fail
    rw [← HVV.out]
    refine (HANY.out V r out hm HX.out.1).mono ?_
    rintro e w3 ⟨rfl, hm3, hq3⟩
    have HM3 := hid (rF_trans HX.out.2 hm3)
    clear hm3
    have hq4 : ResQ tab tv en g B (anyP (oneP tab en f) f r out) r out w3 := hq3
    clear hq3
    generalize hr : anyP (oneP tab en f) f r out = q at hq4 HD
    cases q with
    | bad a3 e3 =>
      obtain ⟨r3, o3, k1, k2, k3⟩ := hq4
      have he3 := anyP_bad (oneP_bad tab en f) f _ _ _ _ hr
      have HQ3 := hid k1
      clear k1 hr
      go_wp2_with fail
      refine (peek10_bad tab tv en g B w3 r3 o3 a3 e3 he3 HQ3.out).mono ?_
      rintro e w6 ⟨rfl, rfl⟩
      go_wp2_with fail
      refine (here_calls tab tv en g B w3 r3 o3 a3 e3 HQ3.out).mono ?_
      rintro e w6 ⟨rfl, rfl⟩
      go_wp2_with fail
      refine (fail_more tab tv en g B w3 r3 o3 a3 e3 _ 3 he3 HQ3.out).mono ?_
      rintro e w6 ⟨rfl, rfl⟩
      go_wp2
      (first | go_end0 | refine bodyPost_ret (results_none rfl _ _ _) rfl ?_)
      refine ⟨rfl, HM3.out, ?_⟩
      rw [HD.out]
      exact ⟨r3, o3, HQ3.out, by simp only [List.length_cons]; omega, by simp only [List.length_cons]; omega⟩
    | ok r3 o3 =>
      have hl3 := anyP_less (oneP_less tab en f) f _ _ _ _ hr
      have HQ3 := hid (show QAt tab tv en g B w3 r3 o3 0 0 from hq4)
      clear hq4 hr
      go_wp2_with fail
      refine (peek10_calls tab tv en g B w3 r3 o3 HQ3.out).mono ?_
      rintro e w6 ⟨rfl, rfl⟩
      cases r3 with
      | nil =>
        rw [show headT [] = ⟨#[]⟩ from rfl]
        go_wp2_with fail
        refine (here_calls tab tv en g B w3 [] o3 0 0 HQ3.out).mono ?_
        rintro e w6 ⟨rfl, rfl⟩
        rw [show hereI en [] = en from rfl]
        go_wp2_with fail
        refine (fail_first tab tv en g B w3 [] o3 en 3 HQ3.out).mono ?_
        rintro e w6 ⟨rfl, hq6, hm6⟩
        have HQ6 := hid hq6
        have HM6 := hid (rF_trans HM3.out hm6)
        clear hq6 hm6
        go_wp2
        (first | go_end0 | refine bodyPost_ret (results_none rfl _ _ _) rfl ?_)
        refine ⟨rfl, HM6.out, ?_⟩
        rw [HD.out]
        exact ⟨[], o3, HQ6.out, by simp, by simp only [List.length_cons, List.length_nil] at *; omega⟩
      | cons y r3 =>
        obtain ⟨ty, ay⟩ := y
        simp only [headT]
        simp only [List.length_cons] at hl3
        by_cases h41 : ty = sShut
        · subst h41
          rw [show sShut = ⟨#[41]⟩ from rfl]
          obtain ⟨a, n, c, z1, zf, hn1, hnc, hg, hcut⟩ := HQ3.out.cut
          have zf1 := zf 1
          have HCUT := hid hcut
          have hn1I : (1 : Int) ≤ n := by omega
          clear zf hcut
          by_cases hc1 : c = 1
          · subst hc1
            obtain rfl : n = 1 := by omega
            obtain ⟨VW, hV⟩ : ∃ VW, VW = World.setCell w3 ⟨g, 1, none⟩ (.slice (some a) 0 0) := ⟨_, rfl⟩
            have HXW := hid (show QAt tab tv en g B VW r3 o3 0 0 ∧ Mod (rF g B) w3 VW by rw [hV]; exact HCUT.out (some a) 0 0 (by simp) rfl rfl)
            have HVW := hid hV
            clear hV HCUT
            go_wp2
            (first | go_end0 | refine bodyPost_ret (results_none rfl _ _ _) rfl ?_)
            rw [← HVW.out]
            refine ⟨rfl, rF_trans HM3.out HXW.out.2, ?_⟩
            rw [HD.out, show shutP en (.ok (⟨sShut, ay⟩ :: r3) o3) = .ok r3 o3 by rw [shutP, if_pos rfl]]
            exact HXW.out.1
          · obtain ⟨VW, hV⟩ : ∃ VW, VW = World.setCell w3 ⟨g, 1, none⟩ (.slice (some ⟨a.block, a.off + 2, none⟩) (n - 1) (c - 1)) := ⟨_, rfl⟩
            have HXW := hid (show QAt tab tv en g B VW r3 o3 0 0 ∧ Mod (rF g B) w3 VW by rw [hV]; exact HCUT.out _ (n - 1) (c - 1) (by rw [if_neg hc1]) rfl rfl)
            have HVW := hid hV
            clear hV HCUT
            go_wp2
            (first | go_end0 | refine bodyPost_ret (results_none rfl _ _ _) rfl ?_)
            rw [← HVW.out]
            refine ⟨rfl, rF_trans HM3.out HXW.out.2, ?_⟩
            rw [HD.out, show shutP en (.ok (⟨sShut, ay⟩ :: r3) o3) = .ok r3 o3 by rw [shutP, if_pos rfl]]
            exact HXW.out.1
        · have hst := text_ne' h41 [41] (by decide +kernel)
          have HN := hid h41
          clear h41
          go_wp2_with fail
          refine (here_calls tab tv en g B w3 _ o3 0 0 HQ3.out).mono ?_
          rintro e w6 ⟨rfl, rfl⟩
          simp only [hereI]
          go_wp2_with fail
          refine (fail_first tab tv en g B w3 _ o3 ay 3 HQ3.out).mono ?_
          rintro e w6 ⟨rfl, hq6, hm6⟩
          have HQ6 := hid hq6
          have HM6 := hid (rF_trans HM3.out hm6)
          clear hq6 hm6
          go_wp2
          (first | go_end0 | refine bodyPost_ret (results_none rfl _ _ _) rfl ?_)
          refine ⟨rfl, HM6.out, ?_⟩
          rw [HD.out, show shutP en (.ok (⟨ty, ay⟩ :: r3) o3) = .bad ay 3 by rw [shutP, if_neg HN.out]]
          exact ⟨_, o3, HQ6.out, by simp only [List.length_cons]; omega, by simp only [List.length_cons]; omega⟩
end Go.Proofs.Yteijgeofimcijaa
