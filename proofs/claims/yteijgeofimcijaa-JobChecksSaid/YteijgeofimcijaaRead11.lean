/- siskinref10.Reader: All, Any, One. -/
import Derived.Test.YteijgeofimcijaaRead10
namespace Go.Proofs.Yteijgeofimcijaa
open Go.RowKit

def ResQ (tab : List ByteArray) (tv : Value) (en : Int) (g B : Nat) (q : Res) (ws : List WordS) (out : List NodeS) (w' : World) : Prop := match q with
  | .ok r o => QAt tab tv en g B w' r o 0 0
  | .bad a er => ∃ r o, QAt tab tv en g B w' r o a er ∧ r.length ≤ ws.length ∧ o.length + r.length ≤ out.length + ws.length
def PartQ (tab : List ByteArray) (tv : Value) (en : Int) (g B : Nat) (F : FuncId) (p : List WordS → List NodeS → Res) (m : Nat) : Prop :=
  ∀ w ws out, ws.length ≤ m → QAt tab tv en g B w ws out 0 0 → Calls Try.prog F #[.pointer (some ⟨g, 0, none⟩)] w fun e w' => e = .returned (.tuple #[]) ∧ Mod (rF g B) w w' ∧ ResQ tab tv en g B (p ws out) ws out w'
def LoopQ (tab : List ByteArray) (tv : Value) (en : Int) (g B : Nat) (p : List WordS → List NodeS → Res) (sign : ByteArray) (op : Int) (m : Nat) (ws : List WordS) (out : List NodeS) (w : World) : Prop :=
  ∃ r o a e, QAt tab tv en g B w r o a e ∧ r.length ≤ ws.length ∧ o.length + r.length ≤ out.length + ws.length ∧ ((e = 0 ∧ ∃ k, r.length ≤ k ∧ a = 0 ∧ manyP p sign op m ws out = loopP p sign op k r o) ∨ (e ≠ 0 ∧ manyP p sign op m ws out = .bad a e))
theorem text_ne' {t s : ByteArray} (h : t ≠ s) (l : List UInt8) (hl : s.toList = l) : (t.toList == l) = false := by
  rw [← hl, streq, decide_eq_false h]
set_option maxHeartbeats 4000000 in
set_option maxRecDepth 100000 in
theorem all_q (tab : List ByteArray) (tv : Value) (en : Int) (g B : Nat) (p : List WordS → List NodeS → Res) (m : Nat) (hp : Less p) (hbad : Bad p) (hP : PartQ tab tv en g B 168 p m) : PartQ tab tv en g B 138 (manyP p sAnd 4 m) m := by
  intro w ws out hm h
  have HPART := hid hP
  have HLESS := hid hp
  have HBAD := hid hbad
  have HR := hid h
  have HD := hid (show manyP p sAnd 4 m ws out = match p ws out with | .ok r' out' => loopP p sAnd 4 m r' out' | .bad a e => .bad a e from rfl)
  clear hP hp h hbad
  have hempty : ((⟨#[]⟩ : ByteArray).toList == [38]) = false := by decide +kernel
  go_enter Try.func138, Try.ntmps138
  go_wp2_with fail
  refine (HPART.out w ws out hm HR.out).mono ?_
  rintro e w1 ⟨rfl, hm1, hq⟩
  have HM1 := hid hm1
  have H0 := hid (show LoopQ tab tv en g B p sAnd 4 m ws out w1 by
    cases hr : p ws out with
    | ok r o =>
      rw [hr] at hq HD
      have := HLESS.out _ _ _ _ hr
      exact ⟨r, o, 0, 0, hq, by omega, by omega, .inl ⟨rfl, m, by omega, rfl, HD.out⟩⟩
    | bad a er =>
      rw [hr] at hq HD
      obtain ⟨r, o, h1, h2, h3⟩ := hq
      exact ⟨r, o, a, er, h1, h2, h3, .inr ⟨HBAD.out _ _ _ _ hr, HD.out⟩⟩)
  clear hm1 hq
  go_wp2
  go_loopw [] (fun wr => Hid (LoopQ tab tv en g B p sAnd 4 m ws out wr) ∧ Hid (Mod (rF g B) w wr)) (fun wr => wLen g wr)
  case atStart => exact ⟨H0, HM1⟩
  case round =>
    obtain ⟨HL, HMM⟩ := hrel
    obtain ⟨r, o, a1, e1, hQ, hrl, hol, hor⟩ := HL.out
    have HQ := hid hQ
    clear hQ
    rcases hor with ⟨rfl, k, hrk, hK⟩ | ⟨he, hK⟩
    · have ha1 : a1 = 0 := hK.1
      subst ha1
      have HK := hid hK.2
      clear hK
      go_wp2_with fail
      refine (peek10_calls tab tv en g B wr r o HQ.out).mono ?_
      rintro e w2 ⟨rfl, rfl⟩
      cases r with
      | nil =>
        rw [show headT [] = ⟨#[]⟩ from rfl]
        have HV := hid (show loopP p sAnd 4 k [] o = .ok [] o by cases k <;> rfl)
        go_wp2
        go_end0
        refine ⟨rfl, HMM.out, ?_⟩
        rw [HK.out, HV.out]
        exact HQ.out
      | cons x r =>
        rw [show headT (x :: r) = x.text from rfl]
        obtain ⟨k', rfl⟩ : ∃ k', k = k' + 1 := ⟨k - 1, by simp only [List.length_cons] at hrk; omega⟩
        by_cases hs : x.text = sAnd
        · have hst : (x.text.toList == [38]) = true := by rw [hs]; decide +kernel
          have HV := hid (show loopP p sAnd 4 (k' + 1) (x :: r) o = match p r o with | .ok r' out' => loopP p sAnd 4 k' r' (out' ++ [⟨4, 0⟩]) | .bad a e => .bad a e by rw [loopP, if_pos hs]; cases p r o <;> rfl)
          obtain ⟨a, n, c, z1, zf, hn1, hnc, hg, hcut⟩ := HQ.out.cut
          have zf1 := zf 1
          clear zf
          have HCUT := hid hcut
          have hn1I : (1 : Int) ≤ n := by omega
          have hsum := HQ.out.sum
          have hlen := HQ.out.len
          simp only [List.length_cons] at hsum hrk hrl hol hlen
          clear hs hcut
          by_cases hc1 : c = 1
          · subst hc1
            obtain rfl : n = 1 := by omega
            obtain ⟨V, hV⟩ : ∃ V, V = wr.setCell ⟨g, 1, none⟩ (.slice (some a) 0 0) := ⟨_, rfl⟩
            have HX := hid (show QAt tab tv en g B V r o 0 0 ∧ Mod (rF g B) wr V by rw [hV]; exact HCUT.out (some a) 0 0 (by simp) rfl rfl)
            have HVV := hid hV
            clear hV
            go_wp2_with fail
            rw [← HVV.out]
            refine (HPART.out V r o (by omega) HX.out.1).mono ?_
            rintro e w3 ⟨rfl, hm3, hq3⟩
            have HM3 := hid (rF_trans (rF_trans HMM.out HX.out.2) hm3)
            obtain ⟨r3, o3, a3, e3, hQ3, hl3, hs3, hor3⟩ : ∃ r3 o3 a3 e3, QAt tab tv en g B w3 r3 o3 a3 e3 ∧ r3.length ≤ r.length ∧ o3.length + r3.length ≤ o.length + r.length ∧ ((e3 = 0 ∧ a3 = 0 ∧ manyP p sAnd 4 m ws out = loopP p sAnd 4 k' r3 (o3 ++ [⟨4, 0⟩])) ∨ (e3 ≠ 0 ∧ manyP p sAnd 4 m ws out = .bad a3 e3)) := by
              cases hr : p r o with
              | ok r' o' =>
                rw [hr] at hq3 HV
                have := HLESS.out _ _ _ _ hr
                exact ⟨r', o', 0, 0, hq3, this.1, this.2, .inl ⟨rfl, rfl, HK.out.trans HV.out⟩⟩
              | bad a er =>
                rw [hr] at hq3 HV
                obtain ⟨r', o', k1, k2, k3⟩ := hq3
                exact ⟨r', o', a, er, k1, k2, k3, .inr ⟨HBAD.out _ _ _ _ hr, HK.out.trans HV.out⟩⟩
            have HOR := hid hor3
            have HQ3 := hid hQ3
            clear hm3 hq3 hor3 hQ3
            obtain ⟨A3, n3, c3, y3, yg, yB, yo, yO, ymore⟩ := HQ3.out.more (x := ⟨4, 0⟩) (by omega)
            have HMORE := hid ymore
            have HO3 := hid yO
            clear ymore yO
            go_wp2_with (at_builtin; go_must (refine append_arm Kd.node (w0 := w3) B rfl _ _ 23 122 _ 16 rfl Try.underlying23 Try.infoNode rfl (by decide) (by decide) (.slice A3 n3 c3) o3 ⟨4, 0⟩ [.int .i64 4, .int .i64 0] NoT NoT rfl rfl rfl (fun _ h => h.elim) HO3.out (Below.refl _ _) yB (by omega) ?_))
            intro v1 w4 hO4 hb4 hg4 _
            obtain ⟨A4, n4, c4, rfl, hx1, hx2⟩ := hO4.shape'
            obtain ⟨⟨f43, f44⟩, q4, m4⟩ := HMORE.out _ w4 hO4 hb4 hg4
            have HQ4 := hid q4
            have HM4 := hid (rF_trans HM3.out m4)
            have HLEN := hid (show wLen g (w4.setCell ⟨g, 3, none⟩ (.slice A4 n4 c4)) < wLen g wr by rw [q4.len, hlen]; omega)
            clear q4 m4 hx1 hx2 hO4 hb4 hg4
            go_wp2
            go_roundw
            case rel =>
              refine ⟨hid ⟨r3, _, a3, e3, HQ4.out, by omega, by rw [List.length_append]; simp; omega, ?_⟩, HM4⟩
              rcases HOR.out with ⟨g1, g2, g3⟩ | g1
              · exact .inl ⟨g1, k', by omega, g2, g3⟩
              · exact .inr g1
            case measure => exact HLEN.out
          · obtain ⟨V, hV⟩ : ∃ V, V = wr.setCell ⟨g, 1, none⟩ (.slice (some ⟨a.block, a.off + 2, none⟩) (n - 1) (c - 1)) := ⟨_, rfl⟩
            have HX := hid (show QAt tab tv en g B V r o 0 0 ∧ Mod (rF g B) wr V by rw [hV]; exact HCUT.out _ (n - 1) (c - 1) (by rw [if_neg hc1]) rfl rfl)
            have HVV := hid hV
            clear hV
            go_wp2_with fail
            rw [← HVV.out]
            refine (HPART.out V r o (by omega) HX.out.1).mono ?_
            rintro e w3 ⟨rfl, hm3, hq3⟩
            have HM3 := hid (rF_trans (rF_trans HMM.out HX.out.2) hm3)
            obtain ⟨r3, o3, a3, e3, hQ3, hl3, hs3, hor3⟩ : ∃ r3 o3 a3 e3, QAt tab tv en g B w3 r3 o3 a3 e3 ∧ r3.length ≤ r.length ∧ o3.length + r3.length ≤ o.length + r.length ∧ ((e3 = 0 ∧ a3 = 0 ∧ manyP p sAnd 4 m ws out = loopP p sAnd 4 k' r3 (o3 ++ [⟨4, 0⟩])) ∨ (e3 ≠ 0 ∧ manyP p sAnd 4 m ws out = .bad a3 e3)) := by
              cases hr : p r o with
              | ok r' o' =>
                rw [hr] at hq3 HV
                have := HLESS.out _ _ _ _ hr
                exact ⟨r', o', 0, 0, hq3, this.1, this.2, .inl ⟨rfl, rfl, HK.out.trans HV.out⟩⟩
              | bad a er =>
                rw [hr] at hq3 HV
                obtain ⟨r', o', k1, k2, k3⟩ := hq3
                exact ⟨r', o', a, er, k1, k2, k3, .inr ⟨HBAD.out _ _ _ _ hr, HK.out.trans HV.out⟩⟩
            have HOR := hid hor3
            have HQ3 := hid hQ3
            clear hm3 hq3 hor3 hQ3
            obtain ⟨A3, n3, c3, y3, yg, yB, yo, yO, ymore⟩ := HQ3.out.more (x := ⟨4, 0⟩) (by omega)
            have HMORE := hid ymore
            have HO3 := hid yO
            clear ymore yO
            go_wp2_with (at_builtin; go_must (refine append_arm Kd.node (w0 := w3) B rfl _ _ 23 122 _ 16 rfl Try.underlying23 Try.infoNode rfl (by decide) (by decide) (.slice A3 n3 c3) o3 ⟨4, 0⟩ [.int .i64 4, .int .i64 0] NoT NoT rfl rfl rfl (fun _ h => h.elim) HO3.out (Below.refl _ _) yB (by omega) ?_))
            intro v1 w4 hO4 hb4 hg4 _
            obtain ⟨A4, n4, c4, rfl, hx1, hx2⟩ := hO4.shape'
            obtain ⟨⟨f43, f44⟩, q4, m4⟩ := HMORE.out _ w4 hO4 hb4 hg4
            have HQ4 := hid q4
            have HM4 := hid (rF_trans HM3.out m4)
            have HLEN := hid (show wLen g (w4.setCell ⟨g, 3, none⟩ (.slice A4 n4 c4)) < wLen g wr by rw [q4.len, hlen]; omega)
            clear q4 m4 hx1 hx2 hO4 hb4 hg4
            go_wp2
            go_roundw
            case rel =>
              refine ⟨hid ⟨r3, _, a3, e3, HQ4.out, by omega, by rw [List.length_append]; simp; omega, ?_⟩, HM4⟩
              rcases HOR.out with ⟨g1, g2, g3⟩ | g1
              · exact .inl ⟨g1, k', by omega, g2, g3⟩
              · exact .inr g1
            case measure => exact HLEN.out
        · have hst := text_ne' hs [38] (by decide +kernel)
          have HV := hid (show loopP p sAnd 4 (k' + 1) (x :: r) o = .ok (x :: r) o by rw [loopP, if_neg hs])
          clear hs
          go_wp2
          go_end0
          refine ⟨rfl, HMM.out, ?_⟩
          rw [HK.out, HV.out]
          exact HQ.out
    · have HK := hid hK
      go_wp2_with fail
      refine (peek10_bad tab tv en g B wr r o a1 e1 he HQ.out).mono ?_
      rintro e w2 ⟨rfl, rfl⟩
      go_wp2
      go_end0
      refine ⟨rfl, HMM.out, ?_⟩
      rw [HK.out]
      exact ⟨r, o, HQ.out, hrl, hol⟩
set_option maxHeartbeats 4000000 in
set_option maxRecDepth 100000 in
theorem any_q (tab : List ByteArray) (tv : Value) (en : Int) (g B : Nat) (p : List WordS → List NodeS → Res) (m : Nat) (hp : Less p) (hbad : Bad p) (hP : PartQ tab tv en g B 138 p m) : PartQ tab tv en g B 87 (manyP p sOr 5 m) m := by
  intro w ws out hm h
  have HPART := hid hP
  have HLESS := hid hp
  have HBAD := hid hbad
  have HR := hid h
  have HD := hid (show manyP p sOr 5 m ws out = match p ws out with | .ok r' out' => loopP p sOr 5 m r' out' | .bad a e => .bad a e from rfl)
  clear hP hp h hbad
  have hempty : ((⟨#[]⟩ : ByteArray).toList == [124]) = false := by decide +kernel
  go_enter Try.func87, Try.ntmps87
  go_wp2_with fail
  refine (HPART.out w ws out hm HR.out).mono ?_
  rintro e w1 ⟨rfl, hm1, hq⟩
  have HM1 := hid hm1
  have H0 := hid (show LoopQ tab tv en g B p sOr 5 m ws out w1 by
    cases hr : p ws out with
    | ok r o =>
      rw [hr] at hq HD
      have := HLESS.out _ _ _ _ hr
      exact ⟨r, o, 0, 0, hq, by omega, by omega, .inl ⟨rfl, m, by omega, rfl, HD.out⟩⟩
    | bad a er =>
      rw [hr] at hq HD
      obtain ⟨r, o, h1, h2, h3⟩ := hq
      exact ⟨r, o, a, er, h1, h2, h3, .inr ⟨HBAD.out _ _ _ _ hr, HD.out⟩⟩)
  clear hm1 hq
  go_wp2
  go_loopw [] (fun wr => Hid (LoopQ tab tv en g B p sOr 5 m ws out wr) ∧ Hid (Mod (rF g B) w wr)) (fun wr => wLen g wr)
  case atStart => exact ⟨H0, HM1⟩
  case round =>
    obtain ⟨HL, HMM⟩ := hrel
    obtain ⟨r, o, a1, e1, hQ, hrl, hol, hor⟩ := HL.out
    have HQ := hid hQ
    clear hQ
    rcases hor with ⟨rfl, k, hrk, hK⟩ | ⟨he, hK⟩
    · have ha1 : a1 = 0 := hK.1
      subst ha1
      have HK := hid hK.2
      clear hK
      go_wp2_with fail
      refine (peek10_calls tab tv en g B wr r o HQ.out).mono ?_
      rintro e w2 ⟨rfl, rfl⟩
      cases r with
      | nil =>
        rw [show headT [] = ⟨#[]⟩ from rfl]
        have HV := hid (show loopP p sOr 5 k [] o = .ok [] o by cases k <;> rfl)
        go_wp2
        go_end0
        refine ⟨rfl, HMM.out, ?_⟩
        rw [HK.out, HV.out]
        exact HQ.out
      | cons x r =>
        rw [show headT (x :: r) = x.text from rfl]
        obtain ⟨k', rfl⟩ : ∃ k', k = k' + 1 := ⟨k - 1, by simp only [List.length_cons] at hrk; omega⟩
        by_cases hs : x.text = sOr
        · have hst : (x.text.toList == [124]) = true := by rw [hs]; decide +kernel
          have HV := hid (show loopP p sOr 5 (k' + 1) (x :: r) o = match p r o with | .ok r' out' => loopP p sOr 5 k' r' (out' ++ [⟨5, 0⟩]) | .bad a e => .bad a e by rw [loopP, if_pos hs]; cases p r o <;> rfl)
          obtain ⟨a, n, c, z1, zf, hn1, hnc, hg, hcut⟩ := HQ.out.cut
          have zf1 := zf 1
          clear zf
          have HCUT := hid hcut
          have hn1I : (1 : Int) ≤ n := by omega
          have hsum := HQ.out.sum
          have hlen := HQ.out.len
          simp only [List.length_cons] at hsum hrk hrl hol hlen
          clear hs hcut
          by_cases hc1 : c = 1
          · subst hc1
            obtain rfl : n = 1 := by omega
            obtain ⟨V, hV⟩ : ∃ V, V = wr.setCell ⟨g, 1, none⟩ (.slice (some a) 0 0) := ⟨_, rfl⟩
            have HX := hid (show QAt tab tv en g B V r o 0 0 ∧ Mod (rF g B) wr V by rw [hV]; exact HCUT.out (some a) 0 0 (by simp) rfl rfl)
            have HVV := hid hV
            clear hV
            go_wp2_with fail
            rw [← HVV.out]
            refine (HPART.out V r o (by omega) HX.out.1).mono ?_
            rintro e w3 ⟨rfl, hm3, hq3⟩
            have HM3 := hid (rF_trans (rF_trans HMM.out HX.out.2) hm3)
            obtain ⟨r3, o3, a3, e3, hQ3, hl3, hs3, hor3⟩ : ∃ r3 o3 a3 e3, QAt tab tv en g B w3 r3 o3 a3 e3 ∧ r3.length ≤ r.length ∧ o3.length + r3.length ≤ o.length + r.length ∧ ((e3 = 0 ∧ a3 = 0 ∧ manyP p sOr 5 m ws out = loopP p sOr 5 k' r3 (o3 ++ [⟨5, 0⟩])) ∨ (e3 ≠ 0 ∧ manyP p sOr 5 m ws out = .bad a3 e3)) := by
              cases hr : p r o with
              | ok r' o' =>
                rw [hr] at hq3 HV
                have := HLESS.out _ _ _ _ hr
                exact ⟨r', o', 0, 0, hq3, this.1, this.2, .inl ⟨rfl, rfl, HK.out.trans HV.out⟩⟩
              | bad a er =>
                rw [hr] at hq3 HV
                obtain ⟨r', o', k1, k2, k3⟩ := hq3
                exact ⟨r', o', a, er, k1, k2, k3, .inr ⟨HBAD.out _ _ _ _ hr, HK.out.trans HV.out⟩⟩
            have HOR := hid hor3
            have HQ3 := hid hQ3
            clear hm3 hq3 hor3 hQ3
            obtain ⟨A3, n3, c3, y3, yg, yB, yo, yO, ymore⟩ := HQ3.out.more (x := ⟨5, 0⟩) (by omega)
            have HMORE := hid ymore
            have HO3 := hid yO
            clear ymore yO
            go_wp2_with (at_builtin; go_must (refine append_arm Kd.node (w0 := w3) B rfl _ _ 23 122 _ 16 rfl Try.underlying23 Try.infoNode rfl (by decide) (by decide) (.slice A3 n3 c3) o3 ⟨5, 0⟩ [.int .i64 5, .int .i64 0] NoT NoT rfl rfl rfl (fun _ h => h.elim) HO3.out (Below.refl _ _) yB (by omega) ?_))
            intro v1 w4 hO4 hb4 hg4 _
            obtain ⟨A4, n4, c4, rfl, hx1, hx2⟩ := hO4.shape'
            obtain ⟨⟨f43, f44⟩, q4, m4⟩ := HMORE.out _ w4 hO4 hb4 hg4
            have HQ4 := hid q4
            have HM4 := hid (rF_trans HM3.out m4)
            have HLEN := hid (show wLen g (w4.setCell ⟨g, 3, none⟩ (.slice A4 n4 c4)) < wLen g wr by rw [q4.len, hlen]; omega)
            clear q4 m4 hx1 hx2 hO4 hb4 hg4
            go_wp2
            go_roundw
            case rel =>
              refine ⟨hid ⟨r3, _, a3, e3, HQ4.out, by omega, by rw [List.length_append]; simp; omega, ?_⟩, HM4⟩
              rcases HOR.out with ⟨g1, g2, g3⟩ | g1
              · exact .inl ⟨g1, k', by omega, g2, g3⟩
              · exact .inr g1
            case measure => exact HLEN.out
          · obtain ⟨V, hV⟩ : ∃ V, V = wr.setCell ⟨g, 1, none⟩ (.slice (some ⟨a.block, a.off + 2, none⟩) (n - 1) (c - 1)) := ⟨_, rfl⟩
            have HX := hid (show QAt tab tv en g B V r o 0 0 ∧ Mod (rF g B) wr V by rw [hV]; exact HCUT.out _ (n - 1) (c - 1) (by rw [if_neg hc1]) rfl rfl)
            have HVV := hid hV
            clear hV
            go_wp2_with fail
            rw [← HVV.out]
            refine (HPART.out V r o (by omega) HX.out.1).mono ?_
            rintro e w3 ⟨rfl, hm3, hq3⟩
            have HM3 := hid (rF_trans (rF_trans HMM.out HX.out.2) hm3)
            obtain ⟨r3, o3, a3, e3, hQ3, hl3, hs3, hor3⟩ : ∃ r3 o3 a3 e3, QAt tab tv en g B w3 r3 o3 a3 e3 ∧ r3.length ≤ r.length ∧ o3.length + r3.length ≤ o.length + r.length ∧ ((e3 = 0 ∧ a3 = 0 ∧ manyP p sOr 5 m ws out = loopP p sOr 5 k' r3 (o3 ++ [⟨5, 0⟩])) ∨ (e3 ≠ 0 ∧ manyP p sOr 5 m ws out = .bad a3 e3)) := by
              cases hr : p r o with
              | ok r' o' =>
                rw [hr] at hq3 HV
                have := HLESS.out _ _ _ _ hr
                exact ⟨r', o', 0, 0, hq3, this.1, this.2, .inl ⟨rfl, rfl, HK.out.trans HV.out⟩⟩
              | bad a er =>
                rw [hr] at hq3 HV
                obtain ⟨r', o', k1, k2, k3⟩ := hq3
                exact ⟨r', o', a, er, k1, k2, k3, .inr ⟨HBAD.out _ _ _ _ hr, HK.out.trans HV.out⟩⟩
            have HOR := hid hor3
            have HQ3 := hid hQ3
            clear hm3 hq3 hor3 hQ3
            obtain ⟨A3, n3, c3, y3, yg, yB, yo, yO, ymore⟩ := HQ3.out.more (x := ⟨5, 0⟩) (by omega)
            have HMORE := hid ymore
            have HO3 := hid yO
            clear ymore yO
            go_wp2_with (at_builtin; go_must (refine append_arm Kd.node (w0 := w3) B rfl _ _ 23 122 _ 16 rfl Try.underlying23 Try.infoNode rfl (by decide) (by decide) (.slice A3 n3 c3) o3 ⟨5, 0⟩ [.int .i64 5, .int .i64 0] NoT NoT rfl rfl rfl (fun _ h => h.elim) HO3.out (Below.refl _ _) yB (by omega) ?_))
            intro v1 w4 hO4 hb4 hg4 _
            obtain ⟨A4, n4, c4, rfl, hx1, hx2⟩ := hO4.shape'
            obtain ⟨⟨f43, f44⟩, q4, m4⟩ := HMORE.out _ w4 hO4 hb4 hg4
            have HQ4 := hid q4
            have HM4 := hid (rF_trans HM3.out m4)
            have HLEN := hid (show wLen g (w4.setCell ⟨g, 3, none⟩ (.slice A4 n4 c4)) < wLen g wr by rw [q4.len, hlen]; omega)
            clear q4 m4 hx1 hx2 hO4 hb4 hg4
            go_wp2
            go_roundw
            case rel =>
              refine ⟨hid ⟨r3, _, a3, e3, HQ4.out, by omega, by rw [List.length_append]; simp; omega, ?_⟩, HM4⟩
              rcases HOR.out with ⟨g1, g2, g3⟩ | g1
              · exact .inl ⟨g1, k', by omega, g2, g3⟩
              · exact .inr g1
            case measure => exact HLEN.out
        · have hst := text_ne' hs [124] (by decide +kernel)
          have HV := hid (show loopP p sOr 5 (k' + 1) (x :: r) o = .ok (x :: r) o by rw [loopP, if_neg hs])
          clear hs
          go_wp2
          go_end0
          refine ⟨rfl, HMM.out, ?_⟩
          rw [HK.out, HV.out]
          exact HQ.out
    · have HK := hid hK
      go_wp2_with fail
      refine (peek10_bad tab tv en g B wr r o a1 e1 he HQ.out).mono ?_
      rintro e w2 ⟨rfl, rfl⟩
      go_wp2
      go_end0
      refine ⟨rfl, HMM.out, ?_⟩
      rw [HK.out]
      exact ⟨r, o, HQ.out, hrl, hol⟩
end Go.Proofs.Yteijgeofimcijaa
