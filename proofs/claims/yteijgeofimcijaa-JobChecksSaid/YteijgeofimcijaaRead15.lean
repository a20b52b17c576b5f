/- siskinref10.Need. -/
import Derived.Test.YteijgeofimcijaaRead14
import Derived.Test.YteijgeofimcijaaRead3
import Derived.Test.YteijgeofimcijaaRef08
import Derived.Test.YteijgeofimcijaaRef09
namespace Go.Proofs.Yteijgeofimcijaa
open Go.RowKit

theorem QAt.cells {tab : List ByteArray} {tv : Value} {en : Int} {g B : Nat} {w : World} {ws : List WordS} {out : List NodeS} {a e : Int} (h : QAt tab tv en g B w ws out a e) : (∃ A n c, w.cell? ⟨g, 1, none⟩ = some (.slice A n c) ∧ n = ws.length) ∧ (∃ A n c, w.cell? ⟨g, 3, none⟩ = some (.slice A n c) ∧ Own Kd.node 122 w B NoT (.slice A n c) out) ∧ w.cell? ⟨g, 4, none⟩ = some (.int .i64 a) ∧ w.cell? ⟨g, 5, none⟩ = some (.int .i64 e) := by
  obtain ⟨A, n, c, O, q1, q2, _, _, q5, _⟩ := h
  obtain ⟨z, _, _⟩ := cells_of_block q1
  obtain ⟨B1, m1, c1, rfl, hx1, hx2⟩ := q5.shape'
  exact ⟨⟨A, n, c, z 1 _ rfl, q2⟩, ⟨B1, m1, c1, z 3 _ rfl, q5⟩, z 4 _ rfl, z 5 _ rfl⟩
theorem growL_ne {out : List WordS} {t : ByteArray} (h : ∀ x ∈ out, 0 < x.text.size) : ∀ x ∈ growL out t, 0 < x.text.size := by
  intro x hx
  unfold growL at hx
  split at hx
  · rename_i y hy
    rcases List.mem_or_eq_of_mem_set hx with hx | hx
    · exact h x hx
    · rw [hx]
      have := h y (List.mem_of_getLast? hy)
      simp only [ByteArray.size_append]; omega
  · exact h x hx
theorem lexGo_ne : ∀ (rs : List RuneS) (st : LexS), (∀ x ∈ st.out, 0 < x.text.size) → ∀ x ∈ (lexGo rs st).1, 0 < x.text.size
  | [], st, h => h
  | r :: rs, st, h => by
    unfold lexGo
    split
    · rename_i st' hs
      refine lexGo_ne rs st' ?_
      have happ : ∀ x ∈ st.out ++ [⟨Utf8.encode r.C, st.n⟩], 0 < x.text.size := by
        intro x hx
        rcases List.mem_append.1 hx with hx | hx
        · exact h x hx
        · rw [List.mem_singleton.1 hx]; exact encode_size_pos _
      unfold stepL at hs
      split at hs
      · injection hs with hs; subst hs
        show ∀ x ∈ (if st.run then growL st.out (Utf8.encode r.C) else st.out ++ [_]), _
        split
        · exact growL_ne h
        · exact happ
      · split at hs
        · injection hs with hs; subst hs; exact h
        · split at hs
          · injection hs with hs; subst hs; exact happ
          · cases hs
    · intro x hx; cases hx
theorem wordsS_ne (s : ByteArray) : ∀ x ∈ (wordsS s).1, x.text ≠ ⟨#[]⟩ := by
  have key : ∀ x ∈ (wordsS s).1, 0 < x.text.size := by
    unfold wordsS
    split
    · intro x hx; cases hx
    · exact lexGo_ne _ _ (fun x hx => by cases hx)
  intro x hx e
  have := key x hx
  rw [e] at this
  exact absurd this (by decide)
set_option maxHeartbeats 4000000 in
set_option maxRecDepth 100000 in
theorem rneed_calls (tab : List ByteArray) (s : ByteArray) (tv : Value) (w : World) (ht : Kd.str.slice.K w Any tab [tv]) (hs : s.size * 24 ≤ 140737488351232) :
    Calls Try.prog 29 #[tv, .string s] w fun e w' => ∃ v, e = .returned (.tuple #[v, .int .i64 (needS tab s).2.1, .int .i64 (needS tab s).2.2]) ∧ Own Kd.node 122 w' w.heap.size NoT v (needS tab s).1 ∧ Below w.heap.size w w' := by
  have HT := hid ht
  clear ht
  go_enter Try.func29, Try.ntmps29
  go_wp2_with fail
  refine (rwords_calls s w (by omega)).mono ?_
  rintro e w1 ⟨v, rfl, hO, hb1⟩
  have HO := hid hO
  have HB1 := hid hb1
  have hwl := wordsS_len s
  have hwne := wordsS_ne s
  obtain ⟨ws, hws⟩ : ∃ ws, ws = (wordsS s).1 := ⟨_, rfl⟩
  obtain ⟨a1, ha1⟩ : ∃ a1, a1 = (wordsS s).2.1 := ⟨_, rfl⟩
  obtain ⟨e1, he1⟩ : ∃ e1, e1 = (wordsS s).2.2 := ⟨_, rfl⟩
  rw [← ha1, ← he1]
  have HW := hid hws
  rw [← hws] at HO hwl hwne
  have HNE := hid hwne
  have HA := hid ha1
  have HE := hid he1
  clear hO hb1 hws ha1 he1 hwne
  by_cases h0 : e1 = 0
  · subst h0
    obtain ⟨A, n, c, rfl, hq1, hq2⟩ := HO.out.shape'
    obtain ⟨At, ct, hta, _, _, _⟩ := HT.out
    injection hta with hta _
    subst hta
    clear hq1 hq2
    go_wp2_with fail
    refine (runes_calls s w1 hs).mono ?_
    rintro e w2 ⟨v2, rfl, hO2, hb2⟩
    obtain ⟨R1, R2, rfl, _, _⟩ := runes_own_at hO2
    clear hO2
    obtain ⟨V, hV⟩ : ∃ V, V = w2.alloc (.cells #[.slice At tab.length ct, .slice A n c, .int .i64 (runes s).length, .slice none 0 0, .int .i64 0, .int .i64 0] 152) := ⟨_, rfl⟩
    have HBV := hid (show Below w2.heap.size w2 V by rw [hV]; exact bAlloc (Below.refl _ _) _)
    have hvs : V.heap.size = w2.heap.size + 1 := by rw [hV]; simp
    have hz := hid (show V.heap[w2.heap.size]? = some (.cells #[.slice At tab.length ct, .slice A n c, .int .i64 (runes s).length, .slice none 0 0, .int .i64 0, .int .i64 0] 152 (0, 0)) by rw [hV]; exact heap_at rfl)
    have HV := hid hV
    clear hV
    have h12 := hb2.size
    have h01 := HB1.out.size
    have HBT := hid (bThen HB1.out hb2)
    obtain ⟨g, hg⟩ : ∃ g, g = w2.heap.size := ⟨_, rfl⟩
    have hI : QAt tab (.slice At tab.length ct) (runes s).length g V.heap.size V ws [] 0 0 := by
      obtain ⟨A', c', he, k1, k2, k3⟩ := (HO.out.below hb2).K
      injection he with he _
      injection he with he1 he2 he3
      subst he1; subst he3
      have hbw : Below w2.heap.size w2 V := HBV.out
      refine ⟨A, n, c, .slice none 0 0, ?_, he2, k1, Kd.Row.below (Kd.Row.mono (fun b _ h => by rw [hg]; exact h) k3) hbw, Own.nil _ _ _ _ _, Kd.below (Kd.mono Kd.str.slice (fun b _ h => by rw [hg]; exact h) (Kd.below (Kd.below HT.out HB1.out) hb2)) hbw, by omega, Nat.le_refl _, by omega, by simp; omega, HNE.out⟩
      rw [hg]
      exact hz.out
    have HANY := hid (anyAll_q tab (.slice At tab.length ct) (runes s).length g V.heap.size ws.length V ws [] (Nat.le_refl _) hI)
    have hbadz := anyP_bad (oneP_bad tab (runes s).length ws.length) ws.length ws []
    have hless := anyP_less (oneP_less tab (runes s).length ws.length) ws.length ws []
    have HD := hid (show needS tab s = (if (readR (anyP (oneP tab (runes s).length ws.length) ws.length ws [])).2.1 ≠ 0 then ([], (readR (anyP (oneP tab (runes s).length ws.length) ws.length ws [])).1, (readR (anyP (oneP tab (runes s).length ws.length) ws.length ws [])).2.1) else ((readR (anyP (oneP tab (runes s).length ws.length) ws.length ws [])).2.2, 0, 0)) by
      unfold needS
      rw [if_neg (by rw [← HE.out]; simp), ← HW.out])
    clear hI
    go_wp2_with fail
    rw [← HV.out, ← hg]
    refine HANY.out.mono ?_
    rintro e w3 ⟨rfl, hm3, hq3⟩
    have HB3 := hid (show Below w.heap.size w w3 from below_mod (HBT.out.trans (HBV.out.mono (by omega))) hm3 (fun i h => by rcases h with h | h <;> omega) (by omega))
    have hgw : w.heap.size ≤ V.heap.size := by omega
    have hgw2 : w.heap.size ≤ g := by omega
    obtain ⟨en, hen⟩ : ∃ en : Int, en = ((runes s).length : Int) := ⟨_, rfl⟩
    rw [← hen] at HD hq3 hbadz hless
    clear HANY hm3 hg hz hb2
    generalize anyP (oneP tab en ws.length) ws.length ws [] = q at hq3 HD hbadz hless
    have bad_case : ∀ (r : List WordS) (o : List NodeS) (a e : Int) (w4 : World), True := fun _ _ _ _ _ => trivial
    cases q with
    | bad a3 e3 =>
      obtain ⟨r3, o3, k1, k2, k3⟩ := hq3
      have he3 := hbadz _ _ rfl
      have HQ3 := hid (show QAt tab (.slice At tab.length ct) en g V.heap.size w3 r3 o3 a3 e3 from k1)
      have HD2 := hid (show needS tab s = ([], a3, e3) by rw [HD.out]; unfold readR; rw [if_pos he3])
      clear hbadz hless k1 k2 k3 hen bad_case
      have HE3 := hid he3
      cases r3 with
      | nil =>
        obtain ⟨⟨A8, n8, c8, z1, hn8⟩, _, _, _⟩ := HQ3.out.cells
        obtain rfl : n8 = 0 := hn8
        obtain ⟨⟨_, _, _, hc1, hcn⟩, _, hc4, hc5⟩ := HQ3.out.cells
        have he5 : (e3 == (0 : Int)) = false := by simp [he3]
        clear hc1 hcn
        go_wp2
        go_quiet (fail)
        go_wp2
        go_ret3
        rw [HD2.out]
        exact ⟨_, rfl, Own.nil _ _ _ _ _, below_drewN HB3.out _⟩
      | cons x r3 =>
        obtain ⟨⟨A8, n8, c8, z1, hn8⟩, _, _, _⟩ := HQ3.out.cells
        have hn9 : (0 : Int) < n8 := by rw [hn8, List.length_cons]; omega
        clear hn8
        go_wp2_with fail
        refine (here_calls tab _ en g _ w3 (x :: r3) o3 a3 e3 HQ3.out).mono ?_
        rintro e w6 ⟨rfl, rfl⟩
        simp only [hereI]
        go_wp2_with fail
        refine (fail_more tab _ en g _ w3 (x :: r3) o3 a3 e3 _ 3 he3 HQ3.out).mono ?_
        rintro e w6 ⟨rfl, rfl⟩
        obtain ⟨⟨_, _, _, hc1, hcn⟩, _, hc4, hc5⟩ := HQ3.out.cells
        have he5 : (e3 == (0 : Int)) = false := by simp [he3]
        clear hc1 hcn
        go_wp2
        go_quiet (fail)
        go_wp2
        go_ret3
        rw [HD2.out]
        exact ⟨_, rfl, Own.nil _ _ _ _ _, below_drewN HB3.out _⟩
    | ok r3 o3 =>
      have HQ3 := hid (show QAt tab (.slice At tab.length ct) en g V.heap.size w3 r3 o3 0 0 from hq3)
      have hl3 := hless _ _ rfl
      simp only [List.length_nil] at hl3
      clear hbadz hless hq3 hen bad_case
      cases r3 with
      | cons x r3 =>
        have HD2 := hid (show needS tab s = ([], x.at_, 3) by rw [HD.out]; rfl)
        obtain ⟨⟨A8, n8, c8, z1, hn8⟩, _, _, _⟩ := HQ3.out.cells
        have hn9 : (0 : Int) < n8 := by rw [hn8, List.length_cons]; omega
        clear hn8
        go_wp2_with fail
        refine (here_calls tab _ en g _ w3 (x :: r3) o3 0 0 HQ3.out).mono ?_
        rintro e w6 ⟨rfl, rfl⟩
        simp only [hereI]
        go_wp2_with fail
        refine (fail_first tab _ en g _ w3 (x :: r3) o3 x.at_ 3 HQ3.out).mono ?_
        rintro e w6 ⟨rfl, hq6, hm6⟩
        have HQ6 := hid hq6
        have HB6 := hid (show Below w.heap.size w w6 from below_mod HB3.out hm6 (fun i h => by rcases h with h | h <;> omega) (HB3.out.size))
        clear hq6 hm6 z1
        obtain ⟨⟨_, _, _, hc1, hcn⟩, _, hc4, hc5⟩ := HQ6.out.cells
        clear hc1 hcn
        go_wp2
        go_quiet (fail)
        go_wp2
        go_ret3
        rw [HD2.out]
        exact ⟨_, rfl, Own.nil _ _ _ _ _, below_drewN HB6.out _⟩
      | nil =>
        obtain ⟨⟨A8, n8, c8, z1, hn8⟩, ⟨A9, n9, c9, z3, hO9⟩, z4, z5⟩ := HQ3.out.cells
        obtain rfl : n8 = 0 := hn8
        have HO9 := hid (hO9.lower (base' := w.heap.size) hgw)
        have HK9 := hid (Kd.any hO9.K)
        have hDD : needS tab s = (if checkN o3 ≠ 0 then ([], 0, checkN o3) else (o3, 0, 0)) := HD.out
        have HC := hid (rcheck_calls o3 _ w3 HK9.out (by omega))
        obtain ⟨cv, hcv⟩ : ∃ cv, cv = checkN o3 := ⟨_, rfl⟩
        rw [← hcv] at HC hDD
        clear hcv hO9
        go_wp2_with fail
        refine HC.out.mono ?_
        rintro e w6 ⟨rfl, hb6⟩
        have HB6 := hid (bThen HB3.out hb6)
        have HQ6 := hid (HQ3.out.below hb6)
        have z36 : w6.cell? ⟨g, 3, none⟩ = some (.slice A9 n9 c9) := cell_keep hb6 z3
        have HO6 := hid (HO9.out.below hb6)
        by_cases hcz : cv = 0
        · subst hcz
          have HD2 := hid (show needS tab s = (o3, 0, 0) by rw [hDD]; rfl)
          clear hDD hb6
          go_wp2
          go_ret3
          rw [HD2.out]
          exact ⟨_, rfl, HO6.out, HB6.out⟩
        · have HD2 := hid (show needS tab s = ([], 0, cv) by rw [hDD, if_pos hcz])
          have hcz2 : (cv == (0 : Int)) = false := by simp [hcz]
          clear hDD hb6 hcz
          go_wp2
          go_ret3
          rw [HD2.out]
          exact ⟨_, rfl, Own.nil _ _ _ _ _, HB6.out⟩
  · have h1 : (e1 == (0 : Int)) = false := by simp [h0]
    have HD := hid (show needS tab s = ([], a1, e1) by unfold needS; rw [if_pos (by rw [← HE.out]; exact h0), ← HA.out, ← HE.out])
    clear h0
    obtain ⟨A, n, c, rfl, hq1, hq2⟩ := HO.out.shape'
    clear hq1 hq2
    go_wp2
    go_ret3
    rw [HD.out]
    exact ⟨_, rfl, Own.nil _ _ _ _ _, HB1.out⟩
end Go.Proofs.Yteijgeofimcijaa
