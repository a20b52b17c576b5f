/- siskinref10.Reader.One. -/
import Derived.Test.YteijgeofimcijaaRead11
import Derived.Test.YteijgeofimcijaaRef05P
namespace Go.Proofs.Yteijgeofimcijaa
open Go.RowKit

set_option maxHeartbeats 1000000 in
set_option maxRecDepth 100000 in
theorem one_nil (tab : List ByteArray) (tv : Value) (en : Int) (g B : Nat) (w : World) (out : List NodeS) (h : QAt tab tv en g B w [] out 0 0) : Calls Try.prog 168 #[.pointer (some ⟨g, 0, none⟩)] w fun e w' => e = .returned (.tuple #[]) ∧ Mod (rF g B) w w' ∧ ResQ tab tv en g B (.bad en 3) [] out w' := by
  have HQ := hid h
  clear h
  go_enter Try.func168, Try.ntmps168
  go_wp2_with fail
  refine (peek10_calls tab tv en g B w [] out HQ.out).mono ?_
  rintro e w2 ⟨rfl, rfl⟩
  rw [show headT [] = ⟨#[]⟩ from rfl]
  go_wp2_with fail
  refine (here_calls tab tv en g B w [] out 0 0 HQ.out).mono ?_
  rintro e w5 ⟨rfl, rfl⟩
  rw [show hereI en [] = en from rfl]
  go_wp2_with fail
  refine (fail_first tab tv en g B w [] out en 3 HQ.out).mono ?_
  rintro e w5 ⟨rfl, hq5, hm5⟩
  have HQ5 := hid hq5
  have HM5 := hid hm5
  clear hq5 hm5
  go_wp2
  (first | go_end0 | refine bodyPost_ret (results_none rfl _ _ _) rfl ?_)
  exact ⟨rfl, HM5.out, [], out, HQ5.out, Nat.le_refl _, Nat.le_refl _⟩
set_option maxHeartbeats 1000000 in
set_option maxRecDepth 100000 in
theorem one_sign (tab : List ByteArray) (tv : Value) (en : Int) (g B : Nat) (w : World) (x : WordS) (r : List WordS) (out : List NodeS) (hx : x.text = sShut ∨ x.text = sAnd ∨ x.text = sOr) (h : QAt tab tv en g B w (x :: r) out 0 0) : Calls Try.prog 168 #[.pointer (some ⟨g, 0, none⟩)] w fun e w' => e = .returned (.tuple #[]) ∧ Mod (rF g B) w w' ∧ ResQ tab tv en g B (.bad x.at_ 3) (x :: r) out w' := by
  have HQ := hid h
  clear h
  obtain ⟨tx, ax⟩ := x
  simp only at hx ⊢
  rcases hx with rfl | rfl | rfl
  all_goals
    go_enter Try.func168, Try.ntmps168
    go_wp2_with fail
    refine (peek10_calls tab tv en g B w _ out HQ.out).mono ?_
    rintro e w2 ⟨rfl, rfl⟩
    simp only [headT]
    first | rw [show sShut = ⟨#[41]⟩ from rfl] at * | rw [show sAnd = ⟨#[38]⟩ from rfl] at * | rw [show sOr = ⟨#[124]⟩ from rfl] at *
    go_wp2_with fail
    refine (here_calls tab tv en g B w _ out 0 0 HQ.out).mono ?_
    rintro e w5 ⟨rfl, rfl⟩
    simp only [hereI]
    go_wp2_with fail
    refine (fail_first tab tv en g B w _ out ax 3 HQ.out).mono ?_
    rintro e w5 ⟨rfl, hq5, hm5⟩
    have HQ5 := hid hq5
    have HM5 := hid hm5
    clear hq5 hm5
    go_wp2
    (first | go_end0 | refine bodyPost_ret (results_none rfl _ _ _) rfl ?_)
    exact ⟨rfl, HM5.out, _, out, HQ5.out, Nat.le_refl _, Nat.le_refl _⟩
set_option maxHeartbeats 4000000 in
set_option maxRecDepth 100000 in
theorem one_not (tab : List ByteArray) (tv : Value) (en : Int) (g B : Nat) (f : Nat) (hP : PartQ tab tv en g B 168 (oneP tab en f) f) (w : World) (ax : Int) (r : List WordS) (out : List NodeS) (hm : r.length ≤ f) (h : QAt tab tv en g B w (⟨sNot, ax⟩ :: r) out 0 0) : Calls Try.prog 168 #[.pointer (some ⟨g, 0, none⟩)] w fun e w' => e = .returned (.tuple #[]) ∧ Mod (rF g B) w w' ∧ ResQ tab tv en g B (oneP tab en (f + 1) (⟨sNot, ax⟩ :: r) out) (⟨sNot, ax⟩ :: r) out w' := by
  have HQ := hid h
  have HPART := hid hP
  have hsum := h.sum
  simp only [List.length_cons] at hsum
  have HD := hid (show oneP tab en (f + 1) (⟨sNot, ax⟩ :: r) out = (oneP tab en f r out).put 3 0 by rw [oneP, if_pos rfl])
  clear h hP
  go_enter Try.func168, Try.ntmps168
  go_wp2_with fail
  refine (peek10_calls tab tv en g B w _ out HQ.out).mono ?_
  rintro e w2 ⟨rfl, rfl⟩
  simp only [headT]
  rw [show sNot = ⟨#[33]⟩ from rfl]
  go_wp2_with fail
  refine (here_calls tab tv en g B w _ out 0 0 HQ.out).mono ?_
  rintro e w5 ⟨rfl, rfl⟩
  simp only [hereI]
  obtain ⟨a, n, c, z1, zf, hn1, hnc, hg, hcut⟩ := HQ.out.cut
  have zf1 := zf 1
  have HCUT := hid hcut
  have hn1I : (1 : Int) ≤ n := by omega
  clear zf hcut
  by_cases hc1 : c = 1
  · subst hc1
    obtain rfl : n = 1 := by omega
    obtain ⟨V, hV⟩ : ∃ V, V = World.setCell w ⟨g, 1, none⟩ (.slice (some a) 0 0) := ⟨_, rfl⟩
    have HX := hid (show QAt tab tv en g B V r out 0 0 ∧ Mod (rF g B) w V by rw [hV]; exact HCUT.out (some a) 0 0 (by simp) rfl rfl)
    have HVV := hid hV
    clear hV HCUT
    go_wp2_with fail
    rw [← HVV.out]
    refine (HPART.out V r out (by omega) HX.out.1).mono ?_
    rintro e w3 ⟨rfl, hm3, hq3⟩
    have HM3 := hid (rF_trans HX.out.2 hm3)
    obtain ⟨r3, o3, a3, e3, hQ3, hl3, hs3, hor3⟩ : ∃ r3 o3 a3 e3, QAt tab tv en g B w3 r3 o3 a3 e3 ∧ r3.length ≤ r.length ∧ o3.length + r3.length ≤ out.length + r.length ∧ ((e3 = 0 ∧ a3 = 0 ∧ oneP tab en f r out = .ok r3 o3) ∨ (e3 ≠ 0 ∧ oneP tab en f r out = .bad a3 e3)) := by
      cases hr : oneP tab en f r out with
      | ok r' o' =>
        rw [hr] at hq3
        have := oneP_less tab en f _ _ _ _ hr
        exact ⟨r', o', 0, 0, hq3, this.1, this.2, .inl ⟨rfl, rfl, rfl⟩⟩
      | bad a er =>
        rw [hr] at hq3
        obtain ⟨r', o', k1, k2, k3⟩ := hq3
        exact ⟨r', o', a, er, k1, k2, k3, .inr ⟨oneP_bad tab en f _ _ _ _ hr, rfl⟩⟩
    have HOR := hid hor3
    have HQ3 := hid hQ3
    clear hm3 hq3 hor3 hQ3
    obtain ⟨A3, n3, c3, y3, yg, yB, yo, yO, ymore⟩ := HQ3.out.more (x := ⟨3, 0⟩) (by omega)
    have HMORE := hid ymore
    have HO3 := hid yO
    clear ymore yO
    go_wp2_with (at_builtin; go_must (refine append_arm Kd.node (w0 := w3) B rfl _ _ 23 122 _ 16 rfl Try.underlying23 Try.infoNode rfl (by decide) (by decide) (.slice A3 n3 c3) o3 ⟨3, 0⟩ [.int .i64 (3), .int .i64 (0)] NoT NoT rfl rfl rfl (fun _ h => h.elim) HO3.out (Below.refl _ _) yB (by omega) ?_))
    intro v1 w4 hO4 hb4 hg4 _
    obtain ⟨A4, n4, c4, rfl, hx1, hx2⟩ := hO4.shape'
    obtain ⟨⟨f43, f44⟩, q4, m4⟩ := HMORE.out _ w4 hO4 hb4 hg4
    have HQ4 := hid q4
    have HM4 := hid (rF_trans HM3.out m4)
    clear q4 m4 hx1 hx2 hO4 hb4 hg4
    go_wp2
    (first | go_end0 | refine bodyPost_ret (results_none rfl _ _ _) rfl ?_)
    refine ⟨rfl, HM4.out, ?_⟩
    rcases HOR.out with ⟨g1, g2, g3⟩ | ⟨g1, g3⟩
    · subst g1; subst g2
      rw [HD.out, g3]
      exact HQ4.out
    · rw [HD.out, g3]
      exact ⟨r3, _, HQ4.out, by simp only [List.length_cons]; omega, by rw [List.length_append]; simp only [List.length_cons, List.length_nil]; omega⟩
  · obtain ⟨V, hV⟩ : ∃ V, V = World.setCell w ⟨g, 1, none⟩ (.slice (some ⟨a.block, a.off + 2, none⟩) (n - 1) (c - 1)) := ⟨_, rfl⟩
    have HX := hid (show QAt tab tv en g B V r out 0 0 ∧ Mod (rF g B) w V by rw [hV]; exact HCUT.out _ (n - 1) (c - 1) (by rw [if_neg hc1]) rfl rfl)
    have HVV := hid hV
    clear hV HCUT
    go_wp2_with fail
    rw [← HVV.out]
    refine (HPART.out V r out (by omega) HX.out.1).mono ?_
    rintro e w3 ⟨rfl, hm3, hq3⟩
    have HM3 := hid (rF_trans HX.out.2 hm3)
    obtain ⟨r3, o3, a3, e3, hQ3, hl3, hs3, hor3⟩ : ∃ r3 o3 a3 e3, QAt tab tv en g B w3 r3 o3 a3 e3 ∧ r3.length ≤ r.length ∧ o3.length + r3.length ≤ out.length + r.length ∧ ((e3 = 0 ∧ a3 = 0 ∧ oneP tab en f r out = .ok r3 o3) ∨ (e3 ≠ 0 ∧ oneP tab en f r out = .bad a3 e3)) := by
      cases hr : oneP tab en f r out with
      | ok r' o' =>
        rw [hr] at hq3
        have := oneP_less tab en f _ _ _ _ hr
        exact ⟨r', o', 0, 0, hq3, this.1, this.2, .inl ⟨rfl, rfl, rfl⟩⟩
      | bad a er =>
        rw [hr] at hq3
        obtain ⟨r', o', k1, k2, k3⟩ := hq3
        exact ⟨r', o', a, er, k1, k2, k3, .inr ⟨oneP_bad tab en f _ _ _ _ hr, rfl⟩⟩
    have HOR := hid hor3
    have HQ3 := hid hQ3
    clear hm3 hq3 hor3 hQ3
    obtain ⟨A3, n3, c3, y3, yg, yB, yo, yO, ymore⟩ := HQ3.out.more (x := ⟨3, 0⟩) (by omega)
    have HMORE := hid ymore
    have HO3 := hid yO
    clear ymore yO
    go_wp2_with (at_builtin; go_must (refine append_arm Kd.node (w0 := w3) B rfl _ _ 23 122 _ 16 rfl Try.underlying23 Try.infoNode rfl (by decide) (by decide) (.slice A3 n3 c3) o3 ⟨3, 0⟩ [.int .i64 (3), .int .i64 (0)] NoT NoT rfl rfl rfl (fun _ h => h.elim) HO3.out (Below.refl _ _) yB (by omega) ?_))
    intro v1 w4 hO4 hb4 hg4 _
    obtain ⟨A4, n4, c4, rfl, hx1, hx2⟩ := hO4.shape'
    obtain ⟨⟨f43, f44⟩, q4, m4⟩ := HMORE.out _ w4 hO4 hb4 hg4
    have HQ4 := hid q4
    have HM4 := hid (rF_trans HM3.out m4)
    clear q4 m4 hx1 hx2 hO4 hb4 hg4
    go_wp2
    (first | go_end0 | refine bodyPost_ret (results_none rfl _ _ _) rfl ?_)
    refine ⟨rfl, HM4.out, ?_⟩
    rcases HOR.out with ⟨g1, g2, g3⟩ | ⟨g1, g3⟩
    · subst g1; subst g2
      rw [HD.out, g3]
      exact HQ4.out
    · rw [HD.out, g3]
      exact ⟨r3, _, HQ4.out, by simp only [List.length_cons]; omega, by rw [List.length_append]; simp only [List.length_cons, List.length_nil]; omega⟩
end Go.Proofs.Yteijgeofimcijaa
