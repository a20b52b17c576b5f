/- siskinref10.Reader.One of a name; One, Any. -/
import Derived.Test.YteijgeofimcijaaRead13
namespace Go.Proofs.Yteijgeofimcijaa
open Go.RowKit

theorem QAt.tab {tab : List ByteArray} {tv : Value} {en : Int} {g B : Nat} {w : World} {ws : List WordS} {out : List NodeS} {a e : Int} (h : QAt tab tv en g B w ws out a e) : (w.cell? ⟨g, 0, none⟩ = some tv ∧ ∃ At ct, tv = .slice At tab.length ct) ∧ Kd.str.slice.K w Any tab [tv] := by
  obtain ⟨A, n, c, O, q1, _, _, _, _, q6, _⟩ := h
  obtain ⟨z, _, _⟩ := cells_of_block q1
  have q7 := q6
  obtain ⟨At, ct, hta, _⟩ := q7
  injection hta with hta _
  exact ⟨⟨z 0 _ rfl, At, ct, hta⟩, Kd.any q6⟩
set_option maxHeartbeats 4000000 in
set_option maxRecDepth 100000 in
theorem one_name (tab : List ByteArray) (tv : Value) (en : Int) (g B : Nat) (tx : ByteArray) (h33 : tx ≠ sNot) (h40 : tx ≠ sOpen) (h42 : tx ≠ sYes) (hc : ¬(tx = sShut ∨ tx = sAnd ∨ tx = sOr)) (w : World) (ax : Int) (r : List WordS) (out : List NodeS) (h : QAt tab tv en g B w (⟨tx, ax⟩ :: r) out 0 0) : Calls Try.prog 168 #[.pointer (some ⟨g, 0, none⟩)] w fun e w' => e = .returned (.tuple #[]) ∧ Mod (rF g B) w w' ∧ ResQ tab tv en g B (nameP tab ⟨tx, ax⟩ r out) (⟨tx, ax⟩ :: r) out w' := by
  have HQ := hid h
  have hsum := h.sum
  simp only [List.length_cons] at hsum
  obtain ⟨⟨z0, At, ct, hta⟩, _⟩ := h.tab
  subst hta
  have hne := h.ne ⟨tx, ax⟩ (List.mem_cons_self ..)
  have n0 : tx.toList.isEmpty = false := by
    have h2 := text_ne' hne [] (by decide +kernel)
    cases hh : tx.toList with
    | nil => rw [hh] at h2; cases h2
    | cons _ _ => rfl
  have n01 : (tx.toList == []) = false := text_ne' hne [] (by decide +kernel)
  have n33 := text_ne' h33 [33] (by decide +kernel)
  have n40 := text_ne' h40 [40] (by decide +kernel)
  have n42 := text_ne' h42 [42] (by decide +kernel)
  have n41 := text_ne' (fun h => hc (.inl h)) [41] (by decide +kernel)
  have n38 := text_ne' (fun h => hc (.inr (.inl h))) [38] (by decide +kernel)
  have n124 := text_ne' (fun h => hc (.inr (.inr h))) [124] (by decide +kernel)
  obtain ⟨k, hk⟩ : ∃ k, k = placeI tab tx := ⟨_, rfl⟩
  have HK := hid hk
  have HN := hid (show nameP tab ⟨tx, ax⟩ r out = if k < 0 ∨ 16 ≤ k then .bad ax 5 else .ok r (out ++ [⟨2, k⟩]) by unfold nameP; rw [HK.out])
  clear hk h33 h40 h42 hc hne
  clear h
  go_enter Try.func168, Try.ntmps168
  go_wp2_with fail
  refine (peek10_calls tab (.slice At tab.length ct) en g B w _ out HQ.out).mono ?_
  rintro e w2 ⟨rfl, rfl⟩
  simp only [headT]
  go_wp2_with fail
  refine (here_calls tab (.slice At tab.length ct) en g B w _ out 0 0 HQ.out).mono ?_
  rintro e w5 ⟨rfl, rfl⟩
  simp only [hereI]
  obtain ⟨a, n, c, z1, zf, hn1, hnc, hg, hcut⟩ := HQ.out.cut
  have zf1 := zf 1
  have HCUT := hid hcut
  have hn1I : (1 : Int) ≤ n := by omega
  clear zf hcut
  by_cases hc1 : c = 1
  · subst hc1
    obtain rfl : n = 1 := by omega
    obtain ⟨V, hV⟩ : ∃ V, V = World.setCell w ⟨g, 1, none⟩ (.slice (some a) 0 0) := ⟨_, rfl⟩
    have HX := hid (show QAt tab (.slice At tab.length ct) en g B V r out 0 0 ∧ Mod (rF g B) w V by rw [hV]; exact HCUT.out (some a) 0 0 (by simp) rfl rfl)
    have HVV := hid hV
    clear hV HCUT
    go_wp2_with fail
    rw [← HVV.out]
    refine (rplace_calls tab tx _ V (QAt.tab HX.out.1).2).mono ?_
    rintro e w3 ⟨rfl, hb3⟩
    have HQ3 := hid (HX.out.1.below hb3)
    have HM3 := hid (HX.out.2.then_below hb3)
    rw [← HK.out]
    clear hb3
    by_cases hk1 : k < 0
    · go_wp2_with fail
      refine (fail_first tab _ en g B w3 r out ax 5 HQ3.out).mono ?_
      rintro e w6 ⟨rfl, hq6, hm6⟩
      have HQ6 := hid hq6
      have HM6 := hid (rF_trans HM3.out hm6)
      clear hq6 hm6
      go_wp2
      (first | go_end0 | refine bodyPost_ret (results_none rfl _ _ _) rfl ?_)
      refine ⟨rfl, HM6.out, ?_⟩
      rw [HN.out, if_pos (.inl hk1)]
      exact ⟨r, out, HQ6.out, by simp only [List.length_cons]; omega, by simp only [List.length_cons]; omega⟩
    · by_cases hk2 : 16 ≤ k
      · have hk3 : 15 < k := by omega
        go_wp2_with fail
        refine (fail_first tab _ en g B w3 r out ax 5 HQ3.out).mono ?_
        rintro e w6 ⟨rfl, hq6, hm6⟩
        have HQ6 := hid hq6
        have HM6 := hid (rF_trans HM3.out hm6)
        clear hq6 hm6
        go_wp2
        (first | go_end0 | refine bodyPost_ret (results_none rfl _ _ _) rfl ?_)
        refine ⟨rfl, HM6.out, ?_⟩
        rw [HN.out, if_pos (.inr hk2)]
        exact ⟨r, out, HQ6.out, by simp only [List.length_cons]; omega, by simp only [List.length_cons]; omega⟩
      · have hk3 : ¬ 15 < k := by omega
        have HNN := hid (show ¬(k < 0 ∨ 16 ≤ k) by omega)
        obtain ⟨A3, n3, c3, y3, yg, yB, yo, yO, ymore⟩ := HQ3.out.more (x := ⟨2, k⟩) (by omega)
        have HMORE := hid ymore
        have HO3 := hid yO
        clear ymore yO
        go_wp2_with (at_builtin; go_must (refine append_arm Kd.node (w0 := w3) B rfl _ _ 23 122 _ 16 rfl Try.underlying23 Try.infoNode rfl (by decide) (by decide) (.slice A3 n3 c3) out ⟨2, k⟩ [.int .i64 (2), .int .i64 (k)] NoT NoT rfl rfl rfl (fun _ h => h.elim) HO3.out (Below.refl _ _) yB (by omega) ?_))
        intro v1 w4 hO4 hb4 hg4 _
        obtain ⟨A4, n4, c4, rfl, hx1, hx2⟩ := hO4.shape'
        obtain ⟨⟨f43, f44⟩, q4, m4⟩ := HMORE.out _ w4 hO4 hb4 hg4
        have HQ4 := hid q4
        have HM4 := hid (rF_trans HM3.out m4)
        clear q4 m4 hx1 hx2 hO4 hb4 hg4
        go_wp2
        (first | go_end0 | refine bodyPost_ret (results_none rfl _ _ _) rfl ?_)
        refine ⟨rfl, HM4.out, ?_⟩
        rw [HN.out, if_neg HNN.out]
        exact HQ4.out
  · obtain ⟨V, hV⟩ : ∃ V, V = World.setCell w ⟨g, 1, none⟩ (.slice (some ⟨a.block, a.off + 2, none⟩) (n - 1) (c - 1)) := ⟨_, rfl⟩
    have HX := hid (show QAt tab (.slice At tab.length ct) en g B V r out 0 0 ∧ Mod (rF g B) w V by rw [hV]; exact HCUT.out _ (n - 1) (c - 1) (by rw [if_neg hc1]) rfl rfl)
    have HVV := hid hV
    clear hV HCUT
    go_wp2_with fail
    rw [← HVV.out]
    refine (rplace_calls tab tx _ V (QAt.tab HX.out.1).2).mono ?_
    rintro e w3 ⟨rfl, hb3⟩
    have HQ3 := hid (HX.out.1.below hb3)
    have HM3 := hid (HX.out.2.then_below hb3)
    rw [← HK.out]
    clear hb3
    by_cases hk1 : k < 0
    · go_wp2_with fail
      refine (fail_first tab _ en g B w3 r out ax 5 HQ3.out).mono ?_
      rintro e w6 ⟨rfl, hq6, hm6⟩
      have HQ6 := hid hq6
      have HM6 := hid (rF_trans HM3.out hm6)
      clear hq6 hm6
      go_wp2
      (first | go_end0 | refine bodyPost_ret (results_none rfl _ _ _) rfl ?_)
      refine ⟨rfl, HM6.out, ?_⟩
      rw [HN.out, if_pos (.inl hk1)]
      exact ⟨r, out, HQ6.out, by simp only [List.length_cons]; omega, by simp only [List.length_cons]; omega⟩
    · by_cases hk2 : 16 ≤ k
      · have hk3 : 15 < k := by omega
        go_wp2_with fail
        refine (fail_first tab _ en g B w3 r out ax 5 HQ3.out).mono ?_
        rintro e w6 ⟨rfl, hq6, hm6⟩
        have HQ6 := hid hq6
        have HM6 := hid (rF_trans HM3.out hm6)
        clear hq6 hm6
        go_wp2
        (first | go_end0 | refine bodyPost_ret (results_none rfl _ _ _) rfl ?_)
        refine ⟨rfl, HM6.out, ?_⟩
        rw [HN.out, if_pos (.inr hk2)]
        exact ⟨r, out, HQ6.out, by simp only [List.length_cons]; omega, by simp only [List.length_cons]; omega⟩
      · have hk3 : ¬ 15 < k := by omega
        have HNN := hid (show ¬(k < 0 ∨ 16 ≤ k) by omega)
        obtain ⟨A3, n3, c3, y3, yg, yB, yo, yO, ymore⟩ := HQ3.out.more (x := ⟨2, k⟩) (by omega)
        have HMORE := hid ymore
        have HO3 := hid yO
        clear ymore yO
        go_wp2_with (at_builtin; go_must (refine append_arm Kd.node (w0 := w3) B rfl _ _ 23 122 _ 16 rfl Try.underlying23 Try.infoNode rfl (by decide) (by decide) (.slice A3 n3 c3) out ⟨2, k⟩ [.int .i64 (2), .int .i64 (k)] NoT NoT rfl rfl rfl (fun _ h => h.elim) HO3.out (Below.refl _ _) yB (by omega) ?_))
        intro v1 w4 hO4 hb4 hg4 _
        obtain ⟨A4, n4, c4, rfl, hx1, hx2⟩ := hO4.shape'
        obtain ⟨⟨f43, f44⟩, q4, m4⟩ := HMORE.out _ w4 hO4 hb4 hg4
        have HQ4 := hid q4
        have HM4 := hid (rF_trans HM3.out m4)
        clear q4 m4 hx1 hx2 hO4 hb4 hg4
        go_wp2
        (first | go_end0 | refine bodyPost_ret (results_none rfl _ _ _) rfl ?_)
        refine ⟨rfl, HM4.out, ?_⟩
        rw [HN.out, if_neg HNN.out]
        exact HQ4.out
theorem one_q (tab : List ByteArray) (tv : Value) (en : Int) (g B : Nat) : ∀ f, PartQ tab tv en g B 168 (oneP tab en f) f
  | 0 => by
    intro w ws out hm h
    obtain rfl : ws = [] := List.length_eq_zero_iff.1 (by omega)
    exact one_nil tab tv en g B w out h
  | f + 1 => by
    intro w ws out hm h
    have ih := one_q tab tv en g B f
    cases ws with
    | nil => exact one_nil tab tv en g B w out h
    | cons x r =>
      obtain ⟨tx, ax⟩ := x
      simp only [List.length_cons] at hm
      by_cases h33 : tx = sNot
      · subst h33
        exact one_not tab tv en g B f ih w ax r out (by omega) h
      · by_cases h40 : tx = sOpen
        · subst h40
          exact one_open tab tv en g B f ih w ax r out (by omega) h
        · by_cases h42 : tx = sYes
          · subst h42
            rw [show oneP tab en (f + 1) (⟨sYes, ax⟩ :: r) out = .ok r (out ++ [⟨1, 0⟩]) by rw [oneP, if_neg (show sYes ≠ sNot by decide), if_neg (show sYes ≠ sOpen by decide), if_pos rfl]]
            exact one_yes tab tv en g B w ax r out h
          · by_cases hc : tx = sShut ∨ tx = sAnd ∨ tx = sOr
            · rw [show oneP tab en (f + 1) (⟨tx, ax⟩ :: r) out = .bad ax 3 by rw [oneP, if_neg h33, if_neg h40, if_neg h42, if_pos hc]]
              exact one_sign tab tv en g B w ⟨tx, ax⟩ r out hc h
            · rw [show oneP tab en (f + 1) (⟨tx, ax⟩ :: r) out = nameP tab ⟨tx, ax⟩ r out by rw [oneP, if_neg h33, if_neg h40, if_neg h42, if_neg hc]]
              exact one_name tab tv en g B tx h33 h40 h42 hc w ax r out h
theorem anyAll_q (tab : List ByteArray) (tv : Value) (en : Int) (g B : Nat) (f : Nat) : PartQ tab tv en g B 87 (anyP (oneP tab en f) f) f :=
  any_q tab tv en g B (manyP (oneP tab en f) sAnd 4 f) f (manyP_less (oneP_less tab en f) _ _ _) (manyP_bad (oneP_bad tab en f) _ _ _) (all_q tab tv en g B (oneP tab en f) f (oneP_less tab en f) (oneP_bad tab en f) (one_q tab tv en g B f))
end Go.Proofs.Yteijgeofimcijaa
