/- read.reader: many, any, all, one. -/
import Derived.Test.YteijgeofimcijaaRead1
import Derived.Outline
import Derived.Deep.RegionHeld3
namespace Go.Proofs.Yteijgeofimcijaa
open Go.RowKit

def ResOk (tab : List ByteArray) (tv : Value) (en : Int) (g B : Nat) (r : Res) (w : World) (e : Ending) (w' : World) : Prop := Mod (rF g B) w w' ∧ (match r with
  | .ok ws out => e = .returned (.tuple #[]) ∧ RAt tab tv en g B w' ws out
  | .bad a er => e = wrongV a er)
def PartOk (tab : List ByteArray) (tv : Value) (en : Int) (g B : Nat) (F : FuncId) (p : List WordS → List NodeS → Res) (m : Nat) : Prop :=
  ∀ w ws out, ws.length ≤ m → RAt tab tv en g B w ws out → Calls Try.prog F #[.pointer (some ⟨g, 0, none⟩)] w (ResOk tab tv en g B (p ws out) w)
theorem RAt.len {tab : List ByteArray} {tv : Value} {en : Int} {g B : Nat} {w : World} {ws : List WordS} {out : List NodeS} (h : RAt tab tv en g B w ws out) : wLen g w = ws.length := by
  obtain ⟨A, n, c, O, h1, h2, _⟩ := h
  obtain ⟨z, _, _⟩ := cells_of_block h1
  unfold wLen
  rw [show w.cell? ⟨g, 1, none⟩ = some (.slice A n c) from z 1 _ rfl]
  exact h2
theorem RAt.sum {tab : List ByteArray} {tv : Value} {en : Int} {g B : Nat} {w : World} {ws : List WordS} {out : List NodeS} (h : RAt tab tv en g B w ws out) : out.length + ws.length ≤ 100000 := by
  obtain ⟨A, n, c, O, _, _, _, _, _, _, _, _, _, h⟩ := h
  exact h
set_option maxHeartbeats 4000000 in
set_option maxRecDepth 100000 in
theorem many_calls (tab : List ByteArray) (tv : Value) (en : Int) (g B : Nat) (F : FuncId) (p : List WordS → List NodeS → Res) (m : Nat) (sign : ByteArray) (op : Int) (hsg : sign ≠ ⟨#[]⟩) (hp : Less p) (hP : PartOk tab tv en g B F p m) (hE : ∀ args w, (callFunc F args).run Try.prog w = .ok (.enter F args) w)
    (w : World) (ws : List WordS) (out : List NodeS) (hm : ws.length ≤ m) (h : RAt tab tv en g B w ws out) :
    Calls Try.prog 166 #[.pointer (some ⟨g, 0, none⟩), .string sign, .int .i64 op, .func (.func F) #[.pointer (some ⟨g, 0, none⟩)] #[]] w (ResOk tab tv en g B (manyP p sign op m ws out) w) := by
  have HPART := hid hP
  have HLESS := hid hp
  have HR := hid h
  have HD := hid (show manyP p sign op m ws out = match p ws out with | .ok r' out' => loopP p sign op m r' out' | .bad a e => .bad a e from rfl)
  have HSG := hid hsg
  clear hP hp h hsg
  go_enter Try.func166, Try.ntmps166
  go_wp2_with fail
  refine (HPART.out w ws out hm HR.out).mono ?_
  rintro e w1 ⟨hm1, he⟩
  have HM1 := hid hm1
  clear hm1
  cases hr : p ws out with
  | bad a er =>
    rw [hr] at he HD
    subst he
    unfold wrongV
    go_wp2
    refine ⟨rfl, HM1.out, ?_⟩
    rw [HD.out]
    rfl
  | ok r1 o1 =>
    have hl := HLESS.out _ _ _ _ hr
    rw [hr] at he HD
    obtain ⟨rfl, hR1⟩ := he
    have HR1 := hid hR1
    clear hr hR1
    go_wp2
    go_loopw [] (fun wr => ∃ (k : Nat) (r : List WordS) (o : List NodeS), r.length ≤ k ∧ r.length ≤ m ∧ Hid (RAt tab tv en g B wr r o) ∧ Hid (manyP p sign op m ws out = loopP p sign op k r o) ∧ Hid (Mod (rF g B) w wr)) (fun wr => wLen g wr)
    case atStart => exact ⟨m, r1, o1, by omega, by omega, HR1, HD, HM1⟩
    case round =>
      obtain ⟨k, r, o, hrk, hrm, HRR, HK, HMM⟩ := hrel
      go_wp2_with fail
      refine (peek_calls tab tv en g B wr r o HRR.out).mono ?_
      rintro e w2 ⟨rfl, rfl⟩
      cases r with
      | nil =>
        have h1 : headT [] = ⟨#[]⟩ := rfl
        rw [h1]
        have hne : sign.toList.isEmpty = false := by
          have h2 := streq ⟨#[]⟩ sign
          rw [decide_eq_false (fun e => HSG.out e.symm)] at h2
          have h3 : (⟨#[]⟩ : ByteArray).toList = [] := by decide +kernel
          rw [h3] at h2
          cases hh : sign.toList with
          | nil => rw [hh] at h2; cases h2
          | cons _ _ => rfl
        have HV := hid (show loopP p sign op k [] o = .ok [] o by cases k <;> rfl)
        clear h1
        go_wp2
        go_end0
        refine ⟨HMM.out, ?_⟩
        rw [HK.out, HV.out]
        exact ⟨rfl, HRR.out⟩
      | cons x r =>
        have h1 : headT (x :: r) = x.text := rfl
        rw [h1]
        clear h1
        obtain ⟨k', rfl⟩ : ∃ k', k = k' + 1 := ⟨k - 1, by simp only [List.length_cons] at hrk; omega⟩
        have hst := streq x.text sign
        by_cases hs : x.text = sign
        · rw [decide_eq_true hs] at hst
          have HV := hid (show loopP p sign op (k' + 1) (x :: r) o = match p r o with | .ok r' out' => loopP p sign op k' r' (out' ++ [⟨op, 0⟩]) | .bad a e => .bad a e by rw [loopP, if_pos hs]; cases p r o <;> rfl)
          have hsum := HRR.out.sum
          clear hs
          go_wp2_with fail
          refine (take_one tab tv en g B wr x r o HRR.out).mono ?_
          rintro e w2 ⟨rfl, hR2, hm2⟩
          have HM2 := hid (rF_trans HMM.out hm2)
          have HR2 := hid hR2
          clear hR2 hm2
          go_wp2_with fail
          refine (HPART.out w2 r o (by simp only [List.length_cons] at hrm; omega) HR2.out).mono ?_
          rintro e w3 ⟨hm3, he⟩
          have HM3 := hid (rF_trans HM2.out hm3)
          clear hm3
          cases hr2 : p r o with
          | bad a er =>
            rw [hr2] at he HV
            subst he
            unfold wrongV
            clear hr2
            go_wp2
            refine ⟨rfl, HM3.out, ?_⟩
            rw [HK.out, HV.out]
            rfl
          | ok r3 o3 =>
            have hl3 := HLESS.out _ _ _ _ hr2
            rw [hr2] at he HV
            obtain ⟨rfl, hR3⟩ := he
            have HR3 := hid hR3
            clear hr2 hR3
            simp only [List.length_cons] at hsum hrk hrm
            go_wp2_with fail
            refine (put_calls tab tv en g B w3 r3 o3 op 0 HR3.out (by omega)).mono ?_
            rintro e w4 ⟨rfl, hR4, hm4⟩
            have HR4 := hid hR4
            have HM4 := hid (rF_trans HM3.out hm4)
            have HLEN := hid (show wLen g w4 < wLen g wr by rw [hR4.len, HRR.out.len, List.length_cons]; omega)
            clear hR4 hm4
            go_wp2
            go_roundw
            case rel => exact ⟨k', r3, _, by omega, by omega, HR4, hid (HK.out.trans HV.out), HM4⟩
            case measure => exact HLEN.out
        · rw [decide_eq_false hs] at hst
          have HV := hid (show loopP p sign op (k' + 1) (x :: r) o = .ok (x :: r) o by rw [loopP, if_neg hs])
          clear hs
          go_wp2
          go_end0
          refine ⟨HMM.out, ?_⟩
          rw [HK.out, HV.out]
          exact ⟨rfl, HRR.out⟩
theorem all_enter : ∀ args w, (callFunc 167 args).run Try.prog w = .ok (.enter 167 args) w := by
  intro args w
  kernel_rfl
theorem one_enter : ∀ args w, (callFunc 180 args).run Try.prog w = .ok (.enter 180 args) w := by
  intro args w
  kernel_rfl
set_option maxHeartbeats 1000000 in
set_option maxRecDepth 100000 in
theorem all_ok (tab : List ByteArray) (tv : Value) (en : Int) (g B : Nat) (p : List WordS → List NodeS → Res) (m : Nat) (hp : Less p) (hP : PartOk tab tv en g B 180 p m) : PartOk tab tv en g B 167 (allP p m) m := by
  intro w ws out hm h
  have hmf := makeFunc_run Try.prog
  have H := hid (many_calls tab tv en g B 180 p m sAnd 4 (by decide) hp hP one_enter w ws out hm h)
  clear hP hp h
  go_enter Try.func167, Try.ntmps167
  go_wp2_with fail
  refine H.out.mono ?_
  rintro e w1 ⟨hm1, he⟩
  have HM1 := hid hm1
  clear hm1
  have HD := hid (show allP p m ws out = manyP p sAnd 4 m ws out from rfl)
  cases hr : manyP p sAnd 4 m ws out with
  | bad a er =>
    rw [hr] at he HD
    subst he
    unfold wrongV
    clear hr H
    go_wp2
    refine ⟨rfl, HM1.out, ?_⟩
    rw [HD.out]
    rfl
  | ok r1 o1 =>
    rw [hr] at he HD
    obtain ⟨rfl, hR1⟩ := he
    have HR1 := hid hR1
    clear hr hR1 H
    go_wp2
    go_end0
    refine ⟨HM1.out, ?_⟩
    rw [HD.out]
    exact ⟨rfl, HR1.out⟩
set_option maxHeartbeats 1000000 in
set_option maxRecDepth 100000 in
theorem any_ok (tab : List ByteArray) (tv : Value) (en : Int) (g B : Nat) (p : List WordS → List NodeS → Res) (m : Nat) (hp : Less p) (hP : PartOk tab tv en g B 180 p m) : PartOk tab tv en g B 137 (anyP p m) m := by
  intro w ws out hm h
  have hmf := makeFunc_run Try.prog
  have H := hid (many_calls tab tv en g B 167 (allP p m) m sOr 5 (by decide) (allP_less hp m) (all_ok tab tv en g B p m hp hP) all_enter w ws out hm h)
  clear hP hp h
  go_enter Try.func137, Try.ntmps137
  go_wp2_with fail
  refine H.out.mono ?_
  rintro e w1 ⟨hm1, he⟩
  have HM1 := hid hm1
  clear hm1
  have HD := hid (show anyP p m ws out = manyP (allP p m) sOr 5 m ws out from rfl)
  cases hr : manyP (allP p m) sOr 5 m ws out with
  | bad a er =>
    rw [hr] at he HD
    subst he
    unfold wrongV
    clear hr H
    go_wp2
    refine ⟨rfl, HM1.out, ?_⟩
    rw [HD.out]
    rfl
  | ok r1 o1 =>
    rw [hr] at he HD
    obtain ⟨rfl, hR1⟩ := he
    have HR1 := hid hR1
    clear hr hR1 H
    go_wp2
    go_end0
    refine ⟨HM1.out, ?_⟩
    rw [HD.out]
    exact ⟨rfl, HR1.out⟩
theorem one_zero (tab : List ByteArray) (tv : Value) (en : Int) (g B : Nat) (w : World) (out : List NodeS) (h : RAt tab tv en g B w [] out) : Calls Try.prog 180 #[.pointer (some ⟨g, 0, none⟩)] w (ResOk tab tv en g B (.bad en 3) w) := by
  have HR := hid h
  clear h
  go_enter Try.func180, Try.ntmps180
  go_wp2_with fail
  refine (take_none tab tv en g B w out HR.out).mono ?_
  rintro e w1 ⟨rfl, hb⟩
  unfold wrongV
  go_wp2
  exact ⟨rfl, Mod.of_below hb, rfl⟩
theorem text_ne {t s : ByteArray} (h : t ≠ s) (l : List UInt8) (hl : s.toList = l) : (t.toList == l) = false := by
  rw [← hl, streq, decide_eq_false h]
set_option maxHeartbeats 4000000 in
set_option maxRecDepth 100000 in
theorem one_step (tab : List ByteArray) (tv : Value) (en : Int) (g B : Nat) (f : Nat) (hP : PartOk tab tv en g B 180 (oneP tab en f) f) : PartOk tab tv en g B 180 (oneP tab en (f + 1)) (f + 1) := by
  intro w ws out hm h
  have HPART := hid hP
  have HR := hid h
  clear hP h
  cases ws with
  | nil =>
    go_enter Try.func180, Try.ntmps180
    go_wp2_with fail
    refine (take_none tab tv en g B w out HR.out).mono ?_
    rintro e w1 ⟨rfl, hb⟩
    unfold wrongV
    go_wp2
    exact ⟨rfl, Mod.of_below hb, rfl⟩
  | cons x r =>
    go_enter Try.func180, Try.ntmps180
    go_wp2_with fail
    refine (take_one tab tv en g B w x r out HR.out).mono ?_
    rintro e w1 ⟨rfl, hR1, hm1⟩
    obtain ⟨tx, ax⟩ := x
    obtain ⟨V, hV⟩ : ∃ V, V = w1.alloc (.cells #[.string tx, .int .i64 ax] 36) := ⟨_, rfl⟩
    have HBV := hid (show Below w1.heap.size w1 V by rw [hV]; exact bAlloc (Below.refl _ _) _)
    have hz := hid (show V.heap[w1.heap.size]? = some (.cells #[.string tx, .int .i64 ax] 36 (0, 0)) by rw [hV]; exact heap_at rfl)
    have HCB := hid (fun (u : World) (h : Below V.heap.size V u) => (show u.cell? ⟨w1.heap.size, 0, none⟩ = some (.string tx) ∧ u.cell? ⟨w1.heap.size, 1, none⟩ = some (.int .i64 ax) from by
      obtain ⟨z0, _, _⟩ := cells_of_block ((h.block w1.heap.size (Array.getElem?_eq_some_iff.1 hz.out).1).trans hz.out)
      exact ⟨z0 0 _ rfl, z0 1 _ rfl⟩))
    have HV := hid hV
    have HRV := hid (hR1.below HBV.out)
    have HMV := hid (hm1.then_below HBV.out)
    have hsum := HR.out.sum
    simp only [List.length_cons] at hsum hm
    clear hV hR1 hm1
    by_cases h33 : tx = sNot
    · subst h33
      have HD := hid (show oneP tab en (f + 1) (⟨sNot, ax⟩ :: r) out = (oneP tab en f r out).put 3 0 by rw [oneP, if_pos rfl])
      rw [show sNot = ⟨#[33]⟩ from rfl] at *
      go_wp2_with fail
      rw [← HV.out]
      refine (HPART.out V r out (by omega) HRV.out).mono ?_
      rintro e w2 ⟨hm2, he⟩
      have HM2 := hid (rF_trans HMV.out hm2)
      clear hm2
      cases hr2 : oneP tab en f r out with
      | bad a er =>
        rw [hr2] at he HD
        subst he
        unfold wrongV
        clear hr2
        go_wp2
        refine ⟨rfl, HM2.out, ?_⟩
        rw [HD.out]
        rfl
      | ok r3 o3 =>
        have hl3 := oneP_less tab en f _ _ _ _ hr2
        rw [hr2] at he HD
        obtain ⟨rfl, hR3⟩ := he
        have HR3 := hid hR3
        clear hr2 hR3
        go_wp2_with fail
        refine (put_calls tab tv en g B w2 r3 o3 3 0 HR3.out (by omega)).mono ?_
        rintro e w4 ⟨rfl, hR4, hm4⟩
        have HR4 := hid hR4
        have HM4 := hid (rF_trans HM2.out hm4)
        clear hR4 hm4
        go_wp2
        go_end0
        refine ⟨HM4.out, ?_⟩
        rw [HD.out]
        exact ⟨rfl, HR4.out⟩
    · by_cases h40 : tx = sOpen
      · subst h40
        have HD := hid (show oneP tab en (f + 1) (⟨sOpen, ax⟩ :: r) out = shutP en (anyP (oneP tab en f) f r out) by rw [oneP, if_neg (show sOpen ≠ sNot by decide), if_pos rfl])
        rw [show sOpen = ⟨#[40]⟩ from rfl] at *
        clear h33
        go_wp2_with fail
        rw [← HV.out]
        refine (any_ok tab tv en g B (oneP tab en f) f (oneP_less tab en f) HPART.out V r out (by omega) HRV.out).mono ?_
        rintro e w2 ⟨hm2, he⟩
        have HM2 := hid (rF_trans HMV.out hm2)
        clear hm2
        cases hr2 : anyP (oneP tab en f) f r out with
        | bad a er =>
          rw [hr2] at he HD
          subst he
          unfold wrongV
          clear hr2
          go_wp2
          refine ⟨rfl, HM2.out, ?_⟩
          rw [HD.out]
          rfl
        | ok r3 o3 =>
          rw [hr2] at he HD
          obtain ⟨rfl, hR3⟩ := he
          have HR3 := hid hR3
          clear hr2 hR3
          cases r3 with
          | nil =>
            go_wp2_with fail
            refine (take_none tab tv en g B w2 o3 HR3.out).mono ?_
            rintro e w3 ⟨rfl, hb3⟩
            unfold wrongV
            have HM3 := hid (HM2.out.then_below hb3)
            clear hb3
            go_wp2
            refine ⟨rfl, HM3.out, ?_⟩
            rw [HD.out]
            rfl
          | cons y r3 =>
            go_wp2_with fail
            refine (take_one tab tv en g B w2 y r3 o3 HR3.out).mono ?_
            rintro e w3 ⟨rfl, hR4, hm3⟩
            have HR4 := hid hR4
            have HM3 := hid (rF_trans HM2.out hm3)
            have HS3 := hid (show shutP en (.ok (y :: r3) o3) = if y.text = sShut then .ok r3 o3 else .bad y.at_ 3 from rfl)
            obtain ⟨ty, ay⟩ := y
            clear hR4 hm3
            by_cases h41 : ty = sShut
            · subst h41
              rw [show sShut = ⟨#[41]⟩ from rfl] at *
              go_wp2
              go_end0
              refine ⟨HM3.out.then_below (bAlloc (Below.refl _ _) _), ?_⟩
              rw [HD.out, HS3.out, if_pos trivial]
              exact ⟨rfl, HR4.out.below (bAlloc (Below.refl _ _) _)⟩
            · have hst := text_ne h41 [41] (by decide +kernel)
              have HN := hid h41
              clear h41
              go_wp2
              refine ⟨rfl, HM3.out.then_below (bAlloc (Below.refl _ _) _), ?_⟩
              rw [HD.out, HS3.out, if_neg HN.out]
              rfl
      · by_cases h42 : tx = sYes
        · subst h42
          have HD := hid (show oneP tab en (f + 1) (⟨sYes, ax⟩ :: r) out = .ok r (out ++ [⟨1, 0⟩]) by rw [oneP, if_neg (show sYes ≠ sNot by decide), if_neg (show sYes ≠ sOpen by decide), if_pos rfl])
          rw [show sYes = ⟨#[42]⟩ from rfl] at *
          clear h33 h40
          go_wp2_with fail
          rw [← HV.out]
          refine (put_calls tab tv en g B V r out 1 0 HRV.out (by omega)).mono ?_
          rintro e w4 ⟨rfl, hR4, hm4⟩
          have HR4 := hid hR4
          have HM4 := hid (rF_trans HMV.out hm4)
          clear hR4 hm4
          go_wp2
          go_end0
          refine ⟨HM4.out, ?_⟩
          rw [HD.out]
          exact ⟨rfl, HR4.out⟩
        · have n33 := text_ne h33 [33] (by decide +kernel)
          have n40 := text_ne h40 [40] (by decide +kernel)
          have n42 := text_ne h42 [42] (by decide +kernel)
          by_cases hc : tx = sShut ∨ tx = sAnd ∨ tx = sOr
          · have HD := hid (show oneP tab en (f + 1) (⟨tx, ax⟩ :: r) out = .bad ax 3 by rw [oneP, if_neg h33, if_neg h40, if_neg h42, if_pos hc])
            have hfin : Mod (rF g B) w V ∧ (match oneP tab en (f + 1) (⟨tx, ax⟩ :: r) out with
              | .ok ws out => wrongV ax 3 = .returned (.tuple #[]) ∧ RAt tab tv en g B V ws out
              | .bad a er => wrongV ax 3 = wrongV a er) := ⟨HMV.out, by rw [HD.out]⟩
            have HF := hid hfin
            have hcells := HCB.out V (Below.refl _ _)
            rw [HV.out] at HF
            clear h33 h40 h42 hfin
            rcases hc with rfl | rfl | rfl
            · rw [show sShut = ⟨#[41]⟩ from rfl] at *
              go_wp2
              exact ⟨rfl, HF.out⟩
            · rw [show sAnd = ⟨#[38]⟩ from rfl] at *
              go_wp2
              exact ⟨rfl, HF.out⟩
            · rw [show sOr = ⟨#[124]⟩ from rfl] at *
              go_wp2
              exact ⟨rfl, HF.out⟩
          · have n41 := text_ne (fun h => hc (.inl h)) [41] (by decide +kernel)
            have n38 := text_ne (fun h => hc (.inr (.inl h))) [38] (by decide +kernel)
            have n124 := text_ne (fun h => hc (.inr (.inr h))) [124] (by decide +kernel)
            have HD := hid (show oneP tab en (f + 1) (⟨tx, ax⟩ :: r) out = nameP tab ⟨tx, ax⟩ r out by rw [oneP, if_neg h33, if_neg h40, if_neg h42, if_neg hc])
            clear h33 h40 h42 hc
            obtain ⟨k, hk⟩ : ∃ k, k = placeI tab tx := ⟨_, rfl⟩
            have HK := hid hk
            clear hk
            obtain ⟨A, n, c, O, q1, _, _, _, _, q6, q7, q8, _⟩ := HRV.out
            have q6' := q6
            obtain ⟨At, ct, hta, _, _, _⟩ := q6'
            injection hta with hta _
            subst hta
            have HT := hid (Kd.any q6)
            have hg := (Array.getElem?_eq_some_iff.1 q1).1
            have HC0 := hid (fun (u : World) (h : Below V.heap.size V u) => (show u.cell? ⟨g, 0, none⟩ = some (.slice At tab.length ct) from by
              obtain ⟨z0, _, _⟩ := cells_of_block ((h.block g hg).trans q1)
              exact z0 0 _ rfl))
            have HN := hid (show nameP tab ⟨tx, ax⟩ r out = if k < 0 ∨ 16 ≤ k then .bad ax 5 else .ok r (out ++ [⟨2, k⟩]) by unfold nameP; rw [HK.out])
            clear q1 q6 q7 q8
            go_wp2_with fail
            rw [← HV.out]
            have c0 := And.intro (HC0.out V.drew (Below.refl _ _).drew) (HCB.out V.drew (Below.refl _ _).drew).1
            go_region_held3 (fun w' => w'.cell? ⟨g, 0, none⟩ = some (.slice At tab.length ct) ∧ w'.cell? ⟨w1.heap.size, 0, none⟩ = some (.string tx)) (first | exact c0 | exact c1 | fail) (first
              | ((with_reducible refine (place_calls tab tx _ V.drew (Kd.below HT.out (Below.refl _ _).drew)).mono ?_); rintro e w3 ⟨rfl, hb3⟩; have U3 := hid (show Below V.heap.size V w3 from (Below.refl _ _).drew.trans hb3); have c1 := And.intro (HC0.out _ U3.out) (HCB.out _ U3.out).1; clear hb3)
              | fail)
            rw [← HK.out]
            have c2 := (HCB.out _ U3.out).2
            clear c0 c1
            by_cases hk1 : k < 0
            · go_wp2
              refine ⟨rfl, HMV.out.then_below U3.out, ?_⟩
              rw [HD.out, HN.out, if_pos (.inl hk1)]
              rfl
            · by_cases hk2 : 16 ≤ k
              · go_wp2
                refine ⟨rfl, HMV.out.then_below U3.out, ?_⟩
                rw [HD.out, HN.out, if_pos (.inr hk2)]
                rfl
              · have HNN := hid (show ¬(k < 0 ∨ 16 ≤ k) by omega)
                go_wp2_with fail
                refine (put_calls tab _ en g B w3 r out 2 k (HRV.out.below U3.out) (by omega)).mono ?_
                rintro e w4 ⟨rfl, hR4, hm4⟩
                have HR4 := hid hR4
                have HM4 := hid (rF_trans (HMV.out.then_below U3.out) hm4)
                clear hR4 hm4
                go_wp2
                go_end0
                refine ⟨HM4.out, ?_⟩
                rw [HD.out, HN.out, if_neg HNN.out]
                exact ⟨rfl, HR4.out⟩
theorem one_ok (tab : List ByteArray) (tv : Value) (en : Int) (g B : Nat) : ∀ f, PartOk tab tv en g B 180 (oneP tab en f) f
  | 0 => by
    intro w ws out hm h
    obtain rfl : ws = [] := List.length_eq_zero_iff.1 (by omega)
    exact one_zero tab tv en g B w out h
  | f + 1 => one_step tab tv en g B f (one_ok tab tv en g B f)
end Go.Proofs.Yteijgeofimcijaa
