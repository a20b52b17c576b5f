import Derived.Test.YtgedkcglkhleoaaGreatDoorBase
import Derived.Test.YtgedkcglkhleoaaGreatDoorNeedW
import Derived.WalkLawsBesides
import Derived.Outline
import Derived.Deep.RegionHeld3
import Derived.Test.YtgedkcglkhleoaaGreatDoorLex
import Derived.Defers
import Derived.Recover
/- read.reader: its state; peek, take, put. -/
namespace Go.Proofs.YtgedkcglkhleoaaGreatDoor
open Go.RowKit

theorem Tryz.infoNode : (Tryz.prog.info? 130).map (fun i => (i.zero, i.size, i.bytes)) = some (some (.agg #[.int .i64 0, .int .i64 0]), 2, 16) := by kernel_rfl
/-- The reader at block g; what it has made lies from B on. -/
def RAt (tab : List ByteArray) (tv : Value) (en : Int) (g B : Nat) (w : World) (ws : List WordS) (out : List NodeS) : Prop :=
  ∃ A n c O, w.heap[g]? = some (.cells #[tv, .slice A n c, .int .i64 en, O] 118 (0, 0)) ∧ n = ws.length ∧ ws.length ≤ c ∧ Kd.word.Row w (fun b => b < g) A ws ∧ Own Kd.node 130 w B NoT O out ∧
    Kd.str.slice.K w (fun b => b < g) tab [tv] ∧ g < B ∧ B ≤ w.heap.size ∧ ws.length ≤ 1000 ∧ out.length + ws.length ≤ 100000
def rF (g B : Nat) : Nat → Prop := fun b => b = g ∨ B ≤ b
section
variable {tab : List ByteArray} {tv : Value} {en : Int} {g B : Nat} {w w1 : World} {ws : List WordS} {out : List NodeS}
theorem RAt.below (h : RAt tab tv en g B w ws out) (hb : Below w.heap.size w w1) : RAt tab tv en g B w1 ws out := by
  obtain ⟨A, n, c, O, h1, h2, h3, h4, h5, h6, h7, h8, h9⟩ := h
  exact ⟨A, n, c, O, (hb.block g (Array.getElem?_eq_some_iff.1 h1).1).trans h1, h2, h3, Kd.Row.below h4 hb, h5.below hb, Kd.below h6 hb, h7, Nat.le_trans h8 hb.size, h9⟩
theorem row_word0 {A : Option Addr} {S : Nat → Prop} {x : WordS} {r : List WordS} (h : Kd.word.Row w S A (x :: r)) : ∃ a, A = some a ∧ w.cell? a = some (.string x.text) ∧ w.cell? ⟨a.block, a.off + 1, none⟩ = some (.int .i64 x.at_) ∧ S a.block ∧ a.block < w.heap.size := by
  obtain ⟨a, cs, h1, k1, k2, h4, h5⟩ := h 0 x rfl
  cases h4
  refine ⟨a, h1, ?_, ?_, k1, k2⟩
  · have := h5 0 _ rfl
    rw [show 0 * Kd.word.sz + 0 = 0 from rfl] at this
    unfold Addr.add at this
    rwa [if_pos rfl] at this
  · have := h5 1 _ rfl
    rwa [show 0 * Kd.word.sz + 1 = 1 from rfl, Kd.add_lit _ _ (by decide)] at this
theorem RAt.taken {A : Option Addr} {n c : Nat} {O : Value} {x : WordS} {r : List WordS} (h1 : w.heap[g]? = some (.cells #[tv, .slice A n c, .int .i64 en, O] 118 (0, 0))) (h2 : n = (x :: r).length) (h3 : (x :: r).length ≤ c)
    (h4 : Kd.word.Row w (fun b => b < g) A (x :: r)) (h5 : Own Kd.node 130 w B NoT O out) (h6 : Kd.str.slice.K w (fun b => b < g) tab [tv]) (h7 : g < B) (h8 : B ≤ w.heap.size) (h9 : (x :: r).length ≤ 1000) (h10 : out.length + (x :: r).length ≤ 100000)
    (A2 : Option Addr) (n2 c2 : Nat) (hA : A2 = if c = 1 then A else A.map (·.add 2)) (hn2 : n2 = n - 1) (hc2 : c2 = c - 1) (o1 o2 : Obj) :
    RAt tab tv en g B (((w.setCell ⟨g, 1, none⟩ (.slice A2 n2 c2)).alloc o1).alloc o2) r out ∧ Mod (rF g B) w (((w.setCell ⟨g, 1, none⟩ (.slice A2 n2 c2)).alloc o1).alloc o2) := by
  have hm : ∀ b, b < g → b < w.heap.size → (w.setCell ⟨g, 1, none⟩ (.slice A2 n2 c2)).heap[b]? = w.heap[b]? := fun b hb _ => Below.heap_setCell w ⟨g, 1, none⟩ _ b (by show b ≠ g; omega)
  refine ⟨RAt.below (w := w.setCell ⟨g, 1, none⟩ (.slice A2 n2 c2)) ⟨A2, n2, c2, O, heap_set h1 1 _, by rw [hn2, h2]; simp, by rw [hc2]; simp at h3; omega, ?_, ?_, ?_, h7, by simpa using h8, by simp at h9; omega, by simp at h10; omega⟩ (bAlloc (bAlloc (Below.refl _ _) _) _), ?_⟩
  · have h : Kd.word.Row w (fun b => b < g) (if c = 1 then A else A.map (·.add 2)) r := Kd.Row.drop h4 1 c (by simp) h3
    rw [← hA] at h
    exact h.move (fun b hb hl => hm b hb hl)
  · exact h5.setCell (fun h => h) (fun e => by have := (h5.lt g e).1; omega) _
  · exact Kd.str.slice.move (fun b hb hl => hm b hb hl) h6
  · refine Mod.alloc (Mod.alloc (Mod.setCell (Mod.refl _ _) (fun _ => .inl rfl) _) _) _
end
def headT : List WordS → ByteArray
  | [] => ⟨#[]⟩
  | x :: _ => x.text
set_option maxHeartbeats 1000000 in
set_option maxRecDepth 100000 in
theorem peek_calls (tab : List ByteArray) (tv : Value) (en : Int) (g B : Nat) (w : World) (ws : List WordS) (out : List NodeS) (h : RAt tab tv en g B w ws out) :
    Calls Tryz.prog 113 #[.pointer (some ⟨g, 0, none⟩)] w fun e w' => e = .returned (.string (headT ws)) ∧ w = w' := by
  obtain ⟨A, n, c, O, h1, h2, h3, h4, _⟩ := h
  obtain ⟨z, _, _⟩ := cells_of_block h1
  have z1 := z 1 _ rfl
  clear z h1
  cases ws with
  | nil =>
    obtain rfl : n = 0 := h2
    clear h4
    go_enter Tryz.func113, Tryz.ntmps113
    go_wp2
    go_ret
    exact ⟨rfl, rfl⟩
  | cons x r =>
    obtain ⟨a, rfl, q0, q1, _, _⟩ := row_word0 h4
    have hn0 : ((n : Int) == 0) = false := by rw [h2, List.length_cons, beq_eq_false_iff_ne]; omega
    have hn1 : (0 : Int) < n := by rw [h2, List.length_cons]; omega
    have hn2 : 0 < n := by omega
    clear h2 h3 h4
    go_enter Tryz.func113, Tryz.ntmps113
    go_wp2
    go_ret
    exact ⟨rfl, rfl⟩
def wrongV (a e : Int) : Ending := .panicked [{ v := .iface 120 (.agg #[.int .i64 a, .int .i64 e]), recovered := false }]
set_option maxHeartbeats 1000000 in
set_option maxRecDepth 100000 in
theorem take_none (tab : List ByteArray) (tv : Value) (en : Int) (g B : Nat) (w : World) (out : List NodeS) (h : RAt tab tv en g B w [] out) :
    Calls Tryz.prog 114 #[.pointer (some ⟨g, 0, none⟩)] w fun e w' => e = wrongV en 3 ∧ Below w.heap.size w w' := by
  obtain ⟨A, n, c, O, h1, h2, _⟩ := h
  obtain rfl : n = 0 := h2
  have hg := (Array.getElem?_eq_some_iff.1 h1).1
  obtain ⟨z, _, _⟩ := cells_of_block h1
  have z1 := z 1 _ rfl
  have z2 := z 2 _ rfl
  clear z h1
  go_enter Tryz.func114, Tryz.ntmps114
  go_wp2
  exact ⟨rfl, rfl, bAlloc (Below.refl _ _) _⟩
set_option maxHeartbeats 2000000 in
set_option maxRecDepth 100000 in
theorem take_one (tab : List ByteArray) (tv : Value) (en : Int) (g B : Nat) (w : World) (x : WordS) (r : List WordS) (out : List NodeS) (h : RAt tab tv en g B w (x :: r) out) :
    Calls Tryz.prog 114 #[.pointer (some ⟨g, 0, none⟩)] w fun e w' => e = .returned (.agg #[.string x.text, .int .i64 x.at_]) ∧ RAt tab tv en g B w' r out ∧ Mod (rF g B) w w' := by
  have HR := hid h
  obtain ⟨A, n, c, O, h1, h2, h3, h4, h5, h6, h7, h8, h9, h10⟩ := h
  have HEND := hid (RAt.taken h1 h2 h3 h4 h5 h6 h7 h8 h9 h10)
  have hg := (Array.getElem?_eq_some_iff.1 h1).1
  obtain ⟨z, zf, _⟩ := cells_of_block h1
  have z1 : w.cell? ⟨g, 1, none⟩ = some (.slice A n c) := z 1 _ rfl
  have zf1 := zf 1
  obtain ⟨a, rfl, q0, q1, q2, q3⟩ := row_word0 h4
  have hn0 : ((n : Int) == 0) = false := by rw [h2, List.length_cons, beq_eq_false_iff_ne]; omega
  have hn1 : (0 : Int) < n := by rw [h2, List.length_cons]; omega
  have hn2 : 0 < n := by simp at h2; omega
  have hn3 : 1 ≤ n := hn2
  have hn4 : (1 : Int) ≤ n := by omega
  clear z zf h1 h2 h3 h4 h5 h6 h9 h10
  go_enter Tryz.func114, Tryz.ntmps114
  go_wp2
  all_goals
    refine bodyPost_ret (v := .agg #[.string x.text, .int .i64 x.at_]) (by simp [results, Tryz.results114, go_sem]) rfl ⟨rfl, ?_⟩
    first
    | exact HEND.out (some a) (n - 1) 0 (by simp [h]) rfl (by omega) _ _
    | exact HEND.out (some ⟨a.block, a.off + 2, none⟩) (n - 1) (c - 1) (by rw [if_neg h]; rfl) rfl rfl _ _
theorem RAt.putted {tab : List ByteArray} {tv : Value} {en : Int} {g B : Nat} {w w1 : World} {ws : List WordS} {out : List NodeS} {A : Option Addr} {n c : Nat} {O v1 : Value} {x : NodeS} (h1 : w.heap[g]? = some (.cells #[tv, .slice A n c, .int .i64 en, O] 118 (0, 0))) (h2 : n = ws.length) (h3 : ws.length ≤ c)
    (h4 : Kd.word.Row w (fun b => b < g) A ws) (h5 : Own Kd.node 130 w B NoT O out) (h6 : Kd.str.slice.K w (fun b => b < g) tab [tv]) (h7 : g < B) (h8 : B ≤ w.heap.size) (h9 : ws.length ≤ 1000) (h10 : out.length + 1 + ws.length ≤ 100000)
    (hO : Own Kd.node 130 w1 B NoT v1 (out ++ [x])) (hb : Below B w w1) (hg : w.grownBy w1 O.ownBlock) :
    RAt tab tv en g B (w1.setCell ⟨g, 3, none⟩ v1) ws (out ++ [x]) ∧ Mod (rF g B) w (w1.setCell ⟨g, 3, none⟩ v1) := by
  have hg1 : w1.heap[g]? = some (.cells #[tv, .slice A n c, .int .i64 en, O] 118 (0, 0)) := (hb.block g h7).trans h1
  have hm : ∀ b, b < g → b < w.heap.size → (w1.setCell ⟨g, 3, none⟩ v1).heap[b]? = w.heap[b]? := fun b h _ => (Below.heap_setCell w1 ⟨g, 3, none⟩ _ b (by show b ≠ g; omega)).trans (hb.block b (by omega))
  refine ⟨⟨A, n, c, v1, heap_set hg1 3 _, h2, h3, h4.move (fun b h hl => hm b h hl), hO.setCell (fun h => h) (fun e => by have := (hO.lt g e).1; omega) _, Kd.str.slice.move (fun b h hl => hm b h hl) h6, h7, ?_, h9, by rw [List.length_append]; simp; omega⟩, ?_⟩
  · have := hb.size
    simp; omega
  · exact Mod.setCell (Mod.grown (Mod.refl _ _) hg (fun k hk _ => .inr (h5.lt k hk).1)) (fun _ => .inl rfl) _
set_option maxHeartbeats 2000000 in
set_option maxRecDepth 100000 in
theorem put_calls (tab : List ByteArray) (tv : Value) (en : Int) (g B : Nat) (w : World) (ws : List WordS) (out : List NodeS) (op n : Int) (h : RAt tab tv en g B w ws out) (hl : out.length + 1 + ws.length ≤ 100000) :
    Calls Tryz.prog 115 #[.pointer (some ⟨g, 0, none⟩), .int .i64 op, .int .i64 n] w fun e w' => e = .returned (.tuple #[]) ∧ RAt tab tv en g B w' ws (out ++ [⟨op, n⟩]) ∧ Mod (rF g B) w w' := by
  obtain ⟨A, m, c, O, h1, h2, h3, h4, h5, h6, h7, h8, h9, _⟩ := h
  have HEND := hid (fun w1 v1 => RAt.putted (w1 := w1) (v1 := v1) (x := ⟨op, n⟩) h1 h2 h3 h4 h5 h6 h7 h8 h9 hl)
  have HO := hid h5
  have HH := hid h1
  have hg := (Array.getElem?_eq_some_iff.1 h1).1
  obtain ⟨z, zf, _⟩ := cells_of_block h1
  obtain ⟨B1, m1, c1, rfl, hq1, hq2⟩ := h5.shape'
  have z3 : w.cell? ⟨g, 3, none⟩ = some (.slice B1 m1 c1) := z 3 _ rfl
  clear z zf h1 h2 h3 h4 h5 h6 h9 hq1 hq2
  go_enter Tryz.func115, Tryz.ntmps115
  go_wp2_with (at_builtin; go_must (refine append_arm Kd.node (w0 := w) B rfl _ _ 79 130 _ 16 rfl Tryz.underlying79 Tryz.infoNode rfl (by decide) (by decide) (.slice B1 m1 c1) out ⟨op, n⟩ [.int .i64 op, .int .i64 n] NoT NoT rfl rfl rfl (fun _ h => h.elim) HO.out (Below.refl _ _) h8 (by omega) ?_))
  intro v1 w1 hO1 hb1 hg1 _
  obtain ⟨B2, m2, c2, rfl, hq1, hq2⟩ := hO1.shape'
  have hh : w1.heap[g]? = some (.cells #[tv, .slice A m c, .int .i64 en, .slice B1 m1 c1] 118 (0, 0)) := (hb1.block g h7).trans HH.out
  obtain ⟨_, zf, _⟩ := cells_of_block hh
  have zf3 := zf 3
  have HE2 := hid (HEND.out w1 _ hO1 hb1 hg1)
  clear zf hh hO1 hb1 hg1 hq1 hq2
  go_wp2
  go_end0
  exact ⟨rfl, HE2.out⟩
theorem rF_trans {g B : Nat} {w w1 w2 : World} (h : Mod (rF g B) w w1) (k : Mod (rF g B) w1 w2) : Mod (rF g B) w w2 := h.trans k (fun _ _ h => h)
def wLen (g : Nat) (w : World) : Nat := match w.cell? ⟨g, 1, none⟩ with
  | some (.slice _ n _) => n
  | _ => 0
end Go.Proofs.YtgedkcglkhleoaaGreatDoor
/- read.reader: many, any, all, one. -/
namespace Go.Proofs.YtgedkcglkhleoaaGreatDoor
open Go.RowKit

def ResOk (tab : List ByteArray) (tv : Value) (en : Int) (g B : Nat) (r : Res) (w : World) (e : Ending) (w' : World) : Prop := Mod (rF g B) w w' ∧ (match r with
  | .ok ws out => e = .returned (.tuple #[]) ∧ RAt tab tv en g B w' ws out
  | .bad a er => e = wrongV a er)
def PartOk (tab : List ByteArray) (tv : Value) (en : Int) (g B : Nat) (F : FuncId) (p : List WordS → List NodeS → Res) (m : Nat) : Prop :=
  ∀ w ws out, ws.length ≤ m → RAt tab tv en g B w ws out → Calls Tryz.prog F #[.pointer (some ⟨g, 0, none⟩)] w (ResOk tab tv en g B (p ws out) w)
theorem RAt.len {tab : List ByteArray} {tv : Value} {en : Int} {g B : Nat} {w : World} {ws : List WordS} {out : List NodeS} (h : RAt tab tv en g B w ws out) : wLen g w = ws.length := by
  obtain ⟨A, n, c, O, h1, h2, _⟩ := h
  obtain ⟨z, _, _⟩ := cells_of_block h1
  unfold wLen
  rw [show w.cell? ⟨g, 1, none⟩ = some (.slice A n c) from z 1 _ rfl]
  exact h2
theorem RAt.sum {tab : List ByteArray} {tv : Value} {en : Int} {g B : Nat} {w : World} {ws : List WordS} {out : List NodeS} (h : RAt tab tv en g B w ws out) : out.length + ws.length ≤ 100000 := by
  obtain ⟨A, n, c, O, _, _, _, _, _, _, _, _, _, h⟩ := h
  exact h
set_option maxHeartbeats 4000000 in
set_option maxRecDepth 100000 in
theorem many_calls (tab : List ByteArray) (tv : Value) (en : Int) (g B : Nat) (F : FuncId) (p : List WordS → List NodeS → Res) (m : Nat) (sign : ByteArray) (op : Int) (hsg : sign ≠ ⟨#[]⟩) (hp : Less p) (hP : PartOk tab tv en g B F p m) (hE : ∀ args w, (callFunc F args).run Tryz.prog w = .ok (.enter F args) w)
    (w : World) (ws : List WordS) (out : List NodeS) (hm : ws.length ≤ m) (h : RAt tab tv en g B w ws out) :
    Calls Tryz.prog 99 #[.pointer (some ⟨g, 0, none⟩), .string sign, .int .i64 op, .func (.func F) #[.pointer (some ⟨g, 0, none⟩)] #[]] w (ResOk tab tv en g B (manyP p sign op m ws out) w) := by
  have HPART := hid hP
  have HLESS := hid hp
  have HR := hid h
  have HD := hid (show manyP p sign op m ws out = match p ws out with | .ok r' out' => loopP p sign op m r' out' | .bad a e => .bad a e from rfl)
  have HSG := hid hsg
  clear hP hp h hsg
  go_enter Tryz.func99, Tryz.ntmps99
  go_wp2_with fail
  refine (HPART.out w ws out hm HR.out).mono ?_
  rintro e w1 ⟨hm1, he⟩
  have HM1 := hid hm1
  clear hm1
  cases hr : p ws out with
  | bad a er =>
    rw [hr] at he HD
    subst he
    unfold wrongV
    go_wp2
    refine ⟨rfl, HM1.out, ?_⟩
    rw [HD.out]
    rfl
  | ok r1 o1 =>
    have hl := HLESS.out _ _ _ _ hr
    rw [hr] at he HD
    obtain ⟨rfl, hR1⟩ := he
    have HR1 := hid hR1
    clear hr hR1
    go_wp2
    go_loopw [] (fun wr => ∃ (k : Nat) (r : List WordS) (o : List NodeS), r.length ≤ k ∧ r.length ≤ m ∧ Hid (RAt tab tv en g B wr r o) ∧ Hid (manyP p sign op m ws out = loopP p sign op k r o) ∧ Hid (Mod (rF g B) w wr)) (fun wr => wLen g wr)
    case atStart => exact ⟨m, r1, o1, by omega, by omega, HR1, HD, HM1⟩
    case round =>
      obtain ⟨k, r, o, hrk, hrm, HRR, HK, HMM⟩ := hrel
      go_wp2_with fail
      refine (peek_calls tab tv en g B wr r o HRR.out).mono ?_
      rintro e w2 ⟨rfl, rfl⟩
      cases r with
      | nil =>
        have h1 : headT [] = ⟨#[]⟩ := rfl
        rw [h1]
        have hne : sign.toList.isEmpty = false := by
          have h2 := streq ⟨#[]⟩ sign
          rw [decide_eq_false (fun e => HSG.out e.symm)] at h2
          have h3 : (⟨#[]⟩ : ByteArray).toList = [] := by decide +kernel
          rw [h3] at h2
          cases hh : sign.toList with
          | nil => rw [hh] at h2; cases h2
          | cons _ _ => rfl
        have HV := hid (show loopP p sign op k [] o = .ok [] o by cases k <;> rfl)
        clear h1
        go_wp2
        go_end0
        refine ⟨HMM.out, ?_⟩
        rw [HK.out, HV.out]
        exact ⟨rfl, HRR.out⟩
      | cons x r =>
        have h1 : headT (x :: r) = x.text := rfl
        rw [h1]
        clear h1
        obtain ⟨k', rfl⟩ : ∃ k', k = k' + 1 := ⟨k - 1, by simp only [List.length_cons] at hrk; omega⟩
        have hst := streq x.text sign
        by_cases hs : x.text = sign
        · rw [decide_eq_true hs] at hst
          have HV := hid (show loopP p sign op (k' + 1) (x :: r) o = match p r o with | .ok r' out' => loopP p sign op k' r' (out' ++ [⟨op, 0⟩]) | .bad a e => .bad a e by rw [loopP, if_pos hs]; cases p r o <;> rfl)
          have hsum := HRR.out.sum
          clear hs
          go_wp2_with fail
          refine (take_one tab tv en g B wr x r o HRR.out).mono ?_
          rintro e w2 ⟨rfl, hR2, hm2⟩
          have HM2 := hid (rF_trans HMM.out hm2)
          have HR2 := hid hR2
          clear hR2 hm2
          go_wp2_with fail
          refine (HPART.out w2 r o (by simp only [List.length_cons] at hrm; omega) HR2.out).mono ?_
          rintro e w3 ⟨hm3, he⟩
          have HM3 := hid (rF_trans HM2.out hm3)
          clear hm3
          cases hr2 : p r o with
          | bad a er =>
            rw [hr2] at he HV
            subst he
            unfold wrongV
            clear hr2
            go_wp2
            refine ⟨rfl, HM3.out, ?_⟩
            rw [HK.out, HV.out]
            rfl
          | ok r3 o3 =>
            have hl3 := HLESS.out _ _ _ _ hr2
            rw [hr2] at he HV
            obtain ⟨rfl, hR3⟩ := he
            have HR3 := hid hR3
            clear hr2 hR3
            simp only [List.length_cons] at hsum hrk hrm
            go_wp2_with fail
            refine (put_calls tab tv en g B w3 r3 o3 op 0 HR3.out (by omega)).mono ?_
            rintro e w4 ⟨rfl, hR4, hm4⟩
            have HR4 := hid hR4
            have HM4 := hid (rF_trans HM3.out hm4)
            have HLEN := hid (show wLen g w4 < wLen g wr by rw [hR4.len, HRR.out.len, List.length_cons]; omega)
            clear hR4 hm4
            go_wp2
            go_roundw
            case rel => exact ⟨k', r3, _, by omega, by omega, HR4, hid (HK.out.trans HV.out), HM4⟩
            case measure => exact HLEN.out
        · rw [decide_eq_false hs] at hst
          have HV := hid (show loopP p sign op (k' + 1) (x :: r) o = .ok (x :: r) o by rw [loopP, if_neg hs])
          clear hs
          go_wp2
          go_end0
          refine ⟨HMM.out, ?_⟩
          rw [HK.out, HV.out]
          exact ⟨rfl, HRR.out⟩
theorem all_enter : ∀ args w, (callFunc 100 args).run Tryz.prog w = .ok (.enter 100 args) w := by
  intro args w
  kernel_rfl
theorem one_enter : ∀ args w, (callFunc 116 args).run Tryz.prog w = .ok (.enter 116 args) w := by
  intro args w
  kernel_rfl
set_option maxHeartbeats 1000000 in
set_option maxRecDepth 100000 in
theorem all_ok (tab : List ByteArray) (tv : Value) (en : Int) (g B : Nat) (p : List WordS → List NodeS → Res) (m : Nat) (hp : Less p) (hP : PartOk tab tv en g B 116 p m) : PartOk tab tv en g B 100 (allP p m) m := by
  intro w ws out hm h
  have hmf := makeFunc_run Tryz.prog
  have H := hid (many_calls tab tv en g B 116 p m sAnd 4 (by decide) hp hP one_enter w ws out hm h)
  clear hP hp h
  go_enter Tryz.func100, Tryz.ntmps100
  go_wp2_with fail
  refine H.out.mono ?_
  rintro e w1 ⟨hm1, he⟩
  have HM1 := hid hm1
  clear hm1
  have HD := hid (show allP p m ws out = manyP p sAnd 4 m ws out from rfl)
  cases hr : manyP p sAnd 4 m ws out with
  | bad a er =>
    rw [hr] at he HD
    subst he
    unfold wrongV
    clear hr H
    go_wp2
    refine ⟨rfl, HM1.out, ?_⟩
    rw [HD.out]
    rfl
  | ok r1 o1 =>
    rw [hr] at he HD
    obtain ⟨rfl, hR1⟩ := he
    have HR1 := hid hR1
    clear hr hR1 H
    go_wp2
    go_end0
    refine ⟨HM1.out, ?_⟩
    rw [HD.out]
    exact ⟨rfl, HR1.out⟩
set_option maxHeartbeats 1000000 in
set_option maxRecDepth 100000 in
theorem any_ok (tab : List ByteArray) (tv : Value) (en : Int) (g B : Nat) (p : List WordS → List NodeS → Res) (m : Nat) (hp : Less p) (hP : PartOk tab tv en g B 116 p m) : PartOk tab tv en g B 89 (anyP p m) m := by
  intro w ws out hm h
  have hmf := makeFunc_run Tryz.prog
  have H := hid (many_calls tab tv en g B 100 (allP p m) m sOr 5 (by decide) (allP_less hp m) (all_ok tab tv en g B p m hp hP) all_enter w ws out hm h)
  clear hP hp h
  go_enter Tryz.func89, Tryz.ntmps89
  go_wp2_with fail
  refine H.out.mono ?_
  rintro e w1 ⟨hm1, he⟩
  have HM1 := hid hm1
  clear hm1
  have HD := hid (show anyP p m ws out = manyP (allP p m) sOr 5 m ws out from rfl)
  cases hr : manyP (allP p m) sOr 5 m ws out with
  | bad a er =>
    rw [hr] at he HD
    subst he
    unfold wrongV
    clear hr H
    go_wp2
    refine ⟨rfl, HM1.out, ?_⟩
    rw [HD.out]
    rfl
  | ok r1 o1 =>
    rw [hr] at he HD
    obtain ⟨rfl, hR1⟩ := he
    have HR1 := hid hR1
    clear hr hR1 H
    go_wp2
    go_end0
    refine ⟨HM1.out, ?_⟩
    rw [HD.out]
    exact ⟨rfl, HR1.out⟩
theorem one_zero (tab : List ByteArray) (tv : Value) (en : Int) (g B : Nat) (w : World) (out : List NodeS) (h : RAt tab tv en g B w [] out) : Calls Tryz.prog 116 #[.pointer (some ⟨g, 0, none⟩)] w (ResOk tab tv en g B (.bad en 3) w) := by
  have HR := hid h
  clear h
  go_enter Tryz.func116, Tryz.ntmps116
  go_wp2_with fail
  refine (take_none tab tv en g B w out HR.out).mono ?_
  rintro e w1 ⟨rfl, hb⟩
  unfold wrongV
  go_wp2
  exact ⟨rfl, Mod.of_below hb, rfl⟩
theorem text_ne {t s : ByteArray} (h : t ≠ s) (l : List UInt8) (hl : s.toList = l) : (t.toList == l) = false := by
  rw [← hl, streq, decide_eq_false h]
set_option maxHeartbeats 4000000 in
set_option maxRecDepth 100000 in
theorem one_step (tab : List ByteArray) (tv : Value) (en : Int) (g B : Nat) (f : Nat) (hP : PartOk tab tv en g B 116 (oneP tab en f) f) : PartOk tab tv en g B 116 (oneP tab en (f + 1)) (f + 1) := by
  intro w ws out hm h
  have HPART := hid hP
  have HR := hid h
  clear hP h
  cases ws with
  | nil =>
    go_enter Tryz.func116, Tryz.ntmps116
    go_wp2_with fail
    refine (take_none tab tv en g B w out HR.out).mono ?_
    rintro e w1 ⟨rfl, hb⟩
    unfold wrongV
    go_wp2
    exact ⟨rfl, Mod.of_below hb, rfl⟩
  | cons x r =>
    go_enter Tryz.func116, Tryz.ntmps116
    go_wp2_with fail
    refine (take_one tab tv en g B w x r out HR.out).mono ?_
    rintro e w1 ⟨rfl, hR1, hm1⟩
    obtain ⟨tx, ax⟩ := x
    obtain ⟨V, hV⟩ : ∃ V, V = w1.alloc (.cells #[.string tx, .int .i64 ax] 140) := ⟨_, rfl⟩
    have HBV := hid (show Below w1.heap.size w1 V by rw [hV]; exact bAlloc (Below.refl _ _) _)
    have hz := hid (show V.heap[w1.heap.size]? = some (.cells #[.string tx, .int .i64 ax] 140 (0, 0)) by rw [hV]; exact heap_at rfl)
    have HCB := hid (fun (u : World) (h : Below V.heap.size V u) => (show u.cell? ⟨w1.heap.size, 0, none⟩ = some (.string tx) ∧ u.cell? ⟨w1.heap.size, 1, none⟩ = some (.int .i64 ax) from by
      obtain ⟨z0, _, _⟩ := cells_of_block ((h.block w1.heap.size (Array.getElem?_eq_some_iff.1 hz.out).1).trans hz.out)
      exact ⟨z0 0 _ rfl, z0 1 _ rfl⟩))
    have HV := hid hV
    have HRV := hid (hR1.below HBV.out)
    have HMV := hid (hm1.then_below HBV.out)
    have hsum := HR.out.sum
    simp only [List.length_cons] at hsum hm
    clear hV hR1 hm1
    by_cases h33 : tx = sNot
    · subst h33
      have HD := hid (show oneP tab en (f + 1) (⟨sNot, ax⟩ :: r) out = (oneP tab en f r out).put 3 0 by rw [oneP, if_pos rfl])
      rw [show sNot = ⟨#[33]⟩ from rfl] at *
      go_wp2_with fail
      rw [← HV.out]
      refine (HPART.out V r out (by omega) HRV.out).mono ?_
      rintro e w2 ⟨hm2, he⟩
      have HM2 := hid (rF_trans HMV.out hm2)
      clear hm2
      cases hr2 : oneP tab en f r out with
      | bad a er =>
        rw [hr2] at he HD
        subst he
        unfold wrongV
        clear hr2
        go_wp2
        refine ⟨rfl, HM2.out, ?_⟩
        rw [HD.out]
        rfl
      | ok r3 o3 =>
        have hl3 := oneP_less tab en f _ _ _ _ hr2
        rw [hr2] at he HD
        obtain ⟨rfl, hR3⟩ := he
        have HR3 := hid hR3
        clear hr2 hR3
        go_wp2_with fail
        refine (put_calls tab tv en g B w2 r3 o3 3 0 HR3.out (by omega)).mono ?_
        rintro e w4 ⟨rfl, hR4, hm4⟩
        have HR4 := hid hR4
        have HM4 := hid (rF_trans HM2.out hm4)
        clear hR4 hm4
        go_wp2
        go_end0
        refine ⟨HM4.out, ?_⟩
        rw [HD.out]
        exact ⟨rfl, HR4.out⟩
    · by_cases h40 : tx = sOpen
      · subst h40
        have HD := hid (show oneP tab en (f + 1) (⟨sOpen, ax⟩ :: r) out = shutP en (anyP (oneP tab en f) f r out) by rw [oneP, if_neg (show sOpen ≠ sNot by decide), if_pos rfl])
        rw [show sOpen = ⟨#[40]⟩ from rfl] at *
        clear h33
        go_wp2_with fail
        rw [← HV.out]
        refine (any_ok tab tv en g B (oneP tab en f) f (oneP_less tab en f) HPART.out V r out (by omega) HRV.out).mono ?_
        rintro e w2 ⟨hm2, he⟩
        have HM2 := hid (rF_trans HMV.out hm2)
        clear hm2
        cases hr2 : anyP (oneP tab en f) f r out with
        | bad a er =>
          rw [hr2] at he HD
          subst he
          unfold wrongV
          clear hr2
          go_wp2
          refine ⟨rfl, HM2.out, ?_⟩
          rw [HD.out]
          rfl
        | ok r3 o3 =>
          rw [hr2] at he HD
          obtain ⟨rfl, hR3⟩ := he
          have HR3 := hid hR3
          clear hr2 hR3
          cases r3 with
          | nil =>
            go_wp2_with fail
            refine (take_none tab tv en g B w2 o3 HR3.out).mono ?_
            rintro e w3 ⟨rfl, hb3⟩
            unfold wrongV
            have HM3 := hid (HM2.out.then_below hb3)
            clear hb3
            go_wp2
            refine ⟨rfl, HM3.out, ?_⟩
            rw [HD.out]
            rfl
          | cons y r3 =>
            go_wp2_with fail
            refine (take_one tab tv en g B w2 y r3 o3 HR3.out).mono ?_
            rintro e w3 ⟨rfl, hR4, hm3⟩
            have HR4 := hid hR4
            have HM3 := hid (rF_trans HM2.out hm3)
            have HS3 := hid (show shutP en (.ok (y :: r3) o3) = if y.text = sShut then .ok r3 o3 else .bad y.at_ 3 from rfl)
            obtain ⟨ty, ay⟩ := y
            clear hR4 hm3
            by_cases h41 : ty = sShut
            · subst h41
              rw [show sShut = ⟨#[41]⟩ from rfl] at *
              go_wp2
              go_end0
              refine ⟨HM3.out.then_below (bAlloc (Below.refl _ _) _), ?_⟩
              rw [HD.out, HS3.out, if_pos trivial]
              exact ⟨rfl, HR4.out.below (bAlloc (Below.refl _ _) _)⟩
            · have hst := text_ne h41 [41] (by decide +kernel)
              have HN := hid h41
              clear h41
              go_wp2
              refine ⟨rfl, HM3.out.then_below (bAlloc (Below.refl _ _) _), ?_⟩
              rw [HD.out, HS3.out, if_neg HN.out]
              rfl
      · by_cases h42 : tx = sYes
        · subst h42
          have HD := hid (show oneP tab en (f + 1) (⟨sYes, ax⟩ :: r) out = .ok r (out ++ [⟨1, 0⟩]) by rw [oneP, if_neg (show sYes ≠ sNot by decide), if_neg (show sYes ≠ sOpen by decide), if_pos rfl])
          rw [show sYes = ⟨#[42]⟩ from rfl] at *
          clear h33 h40
          go_wp2_with fail
          rw [← HV.out]
          refine (put_calls tab tv en g B V r out 1 0 HRV.out (by omega)).mono ?_
          rintro e w4 ⟨rfl, hR4, hm4⟩
          have HR4 := hid hR4
          have HM4 := hid (rF_trans HMV.out hm4)
          clear hR4 hm4
          go_wp2
          go_end0
          refine ⟨HM4.out, ?_⟩
          rw [HD.out]
          exact ⟨rfl, HR4.out⟩
        · have n33 := text_ne h33 [33] (by decide +kernel)
          have n40 := text_ne h40 [40] (by decide +kernel)
          have n42 := text_ne h42 [42] (by decide +kernel)
          by_cases hc : tx = sShut ∨ tx = sAnd ∨ tx = sOr
          · have HD := hid (show oneP tab en (f + 1) (⟨tx, ax⟩ :: r) out = .bad ax 3 by rw [oneP, if_neg h33, if_neg h40, if_neg h42, if_pos hc])
            have hfin : Mod (rF g B) w V ∧ (match oneP tab en (f + 1) (⟨tx, ax⟩ :: r) out with
              | .ok ws out => wrongV ax 3 = .returned (.tuple #[]) ∧ RAt tab tv en g B V ws out
              | .bad a er => wrongV ax 3 = wrongV a er) := ⟨HMV.out, by rw [HD.out]⟩
            have HF := hid hfin
            have hcells := HCB.out V (Below.refl _ _)
            rw [HV.out] at HF
            clear h33 h40 h42 hfin
            rcases hc with rfl | rfl | rfl
            · rw [show sShut = ⟨#[41]⟩ from rfl] at *
              go_wp2
              exact ⟨rfl, HF.out⟩
            · rw [show sAnd = ⟨#[38]⟩ from rfl] at *
              go_wp2
              exact ⟨rfl, HF.out⟩
            · rw [show sOr = ⟨#[124]⟩ from rfl] at *
              go_wp2
              exact ⟨rfl, HF.out⟩
          · have n41 := text_ne (fun h => hc (.inl h)) [41] (by decide +kernel)
            have n38 := text_ne (fun h => hc (.inr (.inl h))) [38] (by decide +kernel)
            have n124 := text_ne (fun h => hc (.inr (.inr h))) [124] (by decide +kernel)
            have HD := hid (show oneP tab en (f + 1) (⟨tx, ax⟩ :: r) out = nameP tab ⟨tx, ax⟩ r out by rw [oneP, if_neg h33, if_neg h40, if_neg h42, if_neg hc])
            clear h33 h40 h42 hc
            obtain ⟨k, hk⟩ : ∃ k, k = placeI tab tx := ⟨_, rfl⟩
            have HK := hid hk
            clear hk
            obtain ⟨A, n, c, O, q1, _, _, _, _, q6, q7, q8, _⟩ := HRV.out
            have q6' := q6
            obtain ⟨At, ct, hta, _, _, _⟩ := q6'
            injection hta with hta _
            subst hta
            have HT := hid (Kd.any q6)
            have hg := (Array.getElem?_eq_some_iff.1 q1).1
            have HC0 := hid (fun (u : World) (h : Below V.heap.size V u) => (show u.cell? ⟨g, 0, none⟩ = some (.slice At tab.length ct) from by
              obtain ⟨z0, _, _⟩ := cells_of_block ((h.block g hg).trans q1)
              exact z0 0 _ rfl))
            have HN := hid (show nameP tab ⟨tx, ax⟩ r out = if k < 0 ∨ 16 ≤ k then .bad ax 5 else .ok r (out ++ [⟨2, k⟩]) by unfold nameP; rw [HK.out])
            clear q1 q6 q7 q8
            go_wp2_with fail
            rw [← HV.out]
            have c0 := And.intro (HC0.out V.drew (Below.refl _ _).drew) (HCB.out V.drew (Below.refl _ _).drew).1
            go_region_held3 (fun w' => w'.cell? ⟨g, 0, none⟩ = some (.slice At tab.length ct) ∧ w'.cell? ⟨w1.heap.size, 0, none⟩ = some (.string tx)) (first | exact c0 | exact c1 | fail) (first
              | ((with_reducible refine (place_calls tab tx _ V.drew (Kd.below HT.out (Below.refl _ _).drew)).mono ?_); rintro e w3 ⟨rfl, hb3⟩; have U3 := hid (show Below V.heap.size V w3 from (Below.refl _ _).drew.trans hb3); have c1 := And.intro (HC0.out _ U3.out) (HCB.out _ U3.out).1; clear hb3)
              | fail)
            rw [← HK.out]
            have c2 := (HCB.out _ U3.out).2
            clear c0 c1
            by_cases hk1 : k < 0
            · go_wp2
              refine ⟨rfl, HMV.out.then_below U3.out, ?_⟩
              rw [HD.out, HN.out, if_pos (.inl hk1)]
              rfl
            · by_cases hk2 : 16 ≤ k
              · go_wp2
                refine ⟨rfl, HMV.out.then_below U3.out, ?_⟩
                rw [HD.out, HN.out, if_pos (.inr hk2)]
                rfl
              · have HNN := hid (show ¬(k < 0 ∨ 16 ≤ k) by omega)
                go_wp2_with fail
                refine (put_calls tab _ en g B w3 r out 2 k (HRV.out.below U3.out) (by omega)).mono ?_
                rintro e w4 ⟨rfl, hR4, hm4⟩
                have HR4 := hid hR4
                have HM4 := hid (rF_trans (HMV.out.then_below U3.out) hm4)
                clear hR4 hm4
                go_wp2
                go_end0
                refine ⟨HM4.out, ?_⟩
                rw [HD.out, HN.out, if_neg HNN.out]
                exact ⟨rfl, HR4.out⟩
theorem one_ok (tab : List ByteArray) (tv : Value) (en : Int) (g B : Nat) : ∀ f, PartOk tab tv en g B 116 (oneP tab en f) f
  | 0 => by
    intro w ws out hm h
    obtain rfl : ws = [] := List.length_eq_zero_iff.1 (by omega)
    exact one_zero tab tv en g B w out h
  | f + 1 => one_step tab tv en g B f (one_ok tab tv en g B f)
end Go.Proofs.YtgedkcglkhleoaaGreatDoor
/- read.reader.read: the door; read.Need. -/
namespace Go.Proofs.YtgedkcglkhleoaaGreatDoor
open Go.RowKit

set_option maxHeartbeats 1000000 in
theorem catch_wrong (b : Nat) (a er x y : Int) (older : List PanicEntry) (w : World) (h0 : w.cell? ⟨b, 0, none⟩ = some (.int .i64 x)) (h1 : w.cell? ⟨b, 1, none⟩ = some (.int .i64 y)) (hz : ∀ j, w.frozen? ⟨b, j, none⟩ = false) :
    CallsD Tryz.prog 88 #[.pointer (some ⟨b, 0, none⟩)] (.panicking ({ v := .iface 120 (.agg #[.int .i64 a, .int .i64 er]), recovered := false } :: older)) w fun e u' w' =>
      e = .returned (.tuple #[]) ∧ u' = .panicking ({ v := .iface 120 (.agg #[.int .i64 a, .int .i64 er]), recovered := true } :: older) ∧ w' = (w.setCell ⟨b, 0, none⟩ (.int .i64 a)).setCell ⟨b, 1, none⟩ (.int .i64 er) := by
  have hta : ∀ w, (Instr.typeAssert (.iface 120 (.agg #[.int .i64 a, .int .i64 er])) 20 120 false).run Tryz.prog w = .ok (.agg #[.int .i64 a, .int .i64 er]) w := fun w => by kernel_rfl
  refine callsD_of_wpS Tryz.func88 rfl fun c₀ cs hu => ?_
  apply wpS_seq
  apply wpS_region
  simp [wpOpsS, go_sem, recoverD, hu, Tryz.ntmps88, Exit.thenS]
  have heq : ∀ w, (binOp BinOp.eql 20 (.iface 120 (.agg #[.int .i64 a, .int .i64 er])) .nilIface).run Tryz.prog w = .ok (.bool false) w := fun w => by kernel_rfl
  refine wpS_of_wp ?_
  simp only [Array.replicate]
  go_wp2
  simp [bodyPostS, results, Tryz.results88]
set_option maxHeartbeats 1000000 in
theorem catch_none (b : Nat) (w : World) :
    CallsD Tryz.prog 88 #[.pointer (some ⟨b, 0, none⟩)] .returning w fun e u' w' => e = .returned (.tuple #[]) ∧ u' = .returning ∧ w' = w := by
  have heq : ∀ w, (binOp BinOp.eql 20 .nilIface .nilIface).run Tryz.prog w = .ok (.bool true) w := fun w => by kernel_rfl
  refine callsD_of_wpS Tryz.func88 rfl fun c₀ cs hu => ?_
  apply wpS_seq
  apply wpS_region
  simp [wpOpsS, go_sem, recoverD, hu, Tryz.ntmps88, Exit.thenS]
  refine wpS_of_wp ?_
  simp only [Array.replicate]
  go_wp2
  cases c₀
  simp_all [bodyPostS, results, Tryz.results88]
theorem RAt.other {tab : List ByteArray} {tv : Value} {en : Int} {g B : Nat} {w : World} {ws : List WordS} {out : List NodeS} (h : RAt tab tv en g B w ws out) (R j : Nat) (h1 : g < R) (h2 : R < B) (u : Value) : RAt tab tv en g B (w.setCell ⟨R, j, none⟩ u) ws out := by
  obtain ⟨A, n, c, O, q1, q2, q3, q4, q5, q6, q7, q8, q9⟩ := h
  have hm : ∀ b, b ≠ R → (w.setCell ⟨R, j, none⟩ u).heap[b]? = w.heap[b]? := fun b hb => Below.heap_setCell w ⟨R, j, none⟩ _ b (by show b ≠ R; exact hb)
  exact ⟨A, n, c, O, (hm g (by omega)).trans q1, q2, q3, q4.move (fun b hb _ => hm b (by omega)), q5.setCell (fun h => h) (fun e => by have := (q5.lt R e).1; omega) _, Kd.str.slice.move (fun b hb _ => hm b (by omega)) q6, q7, by simpa using q8, q9⟩
set_option maxHeartbeats 4000000 in
set_option maxRecDepth 100000 in
theorem read_calls (tab : List ByteArray) (tv : Value) (en : Int) (g : Nat) (w : World) (ws : List WordS) (hg : g < w.heap.size) (hI : ∀ W B, Below w.heap.size w W → g < B → B ≤ W.heap.size → RAt tab tv en g B W ws []) (a0 e0 : Int) (o0 : List NodeS) (hq0 : readR (anyP (oneP tab en ws.length) ws.length ws []) = (a0, e0, o0)) :
    Calls Tryz.prog 69 #[.pointer (some ⟨g, 0, none⟩)] w fun e w' => e = .returned (.agg #[.int .i64 a0, .int .i64 e0]) ∧ Mod (fun b => b = g ∨ w.heap.size ≤ b) w w' ∧
      (e0 = 0 → RAt tab tv en g (w.heap.size + 1) w' [] o0) := by
  have hmf := makeFunc_run Tryz.prog
  have HI := hid hI
  obtain ⟨V, hV⟩ : ∃ V, V = w.alloc (.cells #[.int .i64 0, .int .i64 0] 120) := ⟨_, rfl⟩
  have HBV := hid (show Below w.heap.size w V by rw [hV]; exact bAlloc (Below.refl _ _) _)
  have hvs : V.heap.size = w.heap.size + 1 := by rw [hV]; simp
  have hz := hid (show V.heap[w.heap.size]? = some (.cells #[.int .i64 0, .int .i64 0] 120 (0, 0)) by rw [hV]; exact heap_at rfl)
  have HCB := hid (fun (u : World) (h : Mod (rF g (w.heap.size + 1)) V u) => (show u.cell? ⟨w.heap.size, 0, none⟩ = some (.int .i64 0) ∧ u.cell? ⟨w.heap.size, 1, none⟩ = some (.int .i64 0) ∧ ∀ j, u.frozen? ⟨w.heap.size, j, none⟩ = false from by
    obtain ⟨z0, z1, _⟩ := cells_of_block ((h.block w.heap.size (Array.getElem?_eq_some_iff.1 hz.out).1 (by rintro (h | h) <;> omega)).trans hz.out)
    exact ⟨z0 0 _ rfl, z0 1 _ rfl, z1⟩))
  have HV := hid hV
  have HVS := hid hvs
  clear hV hvs hI
  obtain ⟨R, hR⟩ : ∃ R, R = w.heap.size := ⟨_, rfl⟩
  have HRR := hid hR
  go_enter_defers Tryz.func69, Tryz.ntmps69
  go_wp2_with fail
  rw [← HV.out]
  refine (any_ok tab tv en g (w.heap.size + 1) (oneP tab en ws.length) ws.length (oneP_less tab en _) (one_ok tab tv en g (w.heap.size + 1) _) V ws [] (Nat.le_refl _) (HI.out V (w.heap.size + 1) HBV.out (by omega) (by rw [HVS.out]; exact Nat.le_refl _))).mono ?_
  rintro e w1 ⟨hm1, he⟩
  obtain ⟨c0, c1, c2⟩ := HCB.out w1 hm1
  have HM1 := hid (show Mod (fun b => b = g ∨ w.heap.size ≤ b) w w1 from (Mod.of_below HBV.out).trans hm1 (fun k _ h => h.imp id (fun h => by omega)))
  have hsz : w.heap.size < w1.heap.size := by have := hm1.size; rw [HVS.out] at this; omega
  clear hm1
  generalize hq : anyP (oneP tab en ws.length) ws.length ws [] = q at he hq0
  cases q with
  | bad a er =>
    subst he
    unfold wrongV
    have her := anyP_bad (oneP_bad tab en ws.length) ws.length _ _ _ _ hq
    unfold readR at hq0
    injection hq0 with hq1 hq2
    injection hq2 with hq2 hq3
    subst hq1; subst hq2; subst hq3
    have HER := hid her
    clear hq her
    go_wp2
    refine leaves_cons (f := 88) (args := #[.pointer (some ⟨w.heap.size, 0, none⟩)]) (by simp) (by simp [go_sem]) ?_
    refine (catch_wrong w.heap.size a er 0 0 _ w1 c0 c1 c2).mono ?_
    rintro e u' w2 ⟨rfl, rfl, rfl⟩
    simp [Leaves, settle, results, Tryz.results69, go_sem, c0, c1]
    exact ⟨Mod.setCell (Mod.setCell HM1.out (fun _ => .inr (Nat.le_refl _)) _) (fun _ => .inr (Nat.le_refl _)) _, fun h => absurd h HER.out⟩
  | ok r o =>
    obtain ⟨rfl, hR1⟩ := he
    have HR1 := hid hR1
    obtain ⟨A, n, c, O, q1, q2, q3, q4, q5, q6, q7, q8, _⟩ := hR1
    obtain ⟨z, zf, _⟩ := cells_of_block q1
    have z1 : w1.cell? ⟨g, 1, none⟩ = some (.slice A n c) := z 1 _ rfl
    have z3 : w1.cell? ⟨g, 3, none⟩ = some O := z 3 _ rfl
    obtain ⟨B1, m1, k1, rfl, hx1, hx2⟩ := q5.shape'
    have HK := hid (Kd.any q5.K)
    clear hq z zf q1 q3 q5 q6 q7 q8 hx1 hx2
    cases r with
    | cons x r =>
      obtain ⟨a, rfl, p0, p1, _, _⟩ := row_word0 q4
      have hn1 : (0 : Int) < n := by rw [q2, List.length_cons]; omega
      have hn2 : 0 < n := by omega
      unfold readR at hq0
      injection hq0 with hq1 hq2
      injection hq2 with hq2 hq3
      subst hq1; subst hq2; subst hq3
      clear q2 q4
      go_wp2
      refine leaves_cons (f := 88) (args := #[.pointer (some ⟨w.heap.size, 0, none⟩)]) (by simp) (by simp [go_sem]) ?_
      refine (catch_wrong w.heap.size _ 3 0 0 _ w1 c0 c1 c2).mono ?_
      rintro e u' w2 ⟨rfl, rfl, rfl⟩
      simp [Leaves, settle, results, Tryz.results69, go_sem, c0, c1]
      exact Mod.setCell (Mod.setCell HM1.out (fun _ => .inr (Nat.le_refl _)) _) (fun _ => .inr (Nat.le_refl _)) _
    | nil =>
      obtain rfl : n = 0 := q2
      unfold readR at hq0
      injection hq0 with hq1 hq2
      injection hq2 with hq2 hq3
      subst hq1; subst hq2; subst hq3
      have hsum := HR1.out.sum
      simp only [List.length_nil] at hsum
      clear q4
      go_wp2_with fail
      refine (needCheck_calls o _ w1 HK.out (by omega)).mono ?_
      rintro e w2 ⟨rfl, hb2⟩
      have HM2 := hid (HM1.out.then_below hb2)
      have HR2 := hid (HR1.out.below hb2)
      obtain ⟨cv, hcv⟩ : ∃ cv, cv = checkN o := ⟨_, rfl⟩
      rw [← hcv]
      have d0 : w2.cell? ⟨w.heap.size, 0, none⟩ = some (.int .i64 0) := (hb2.cell hsz).trans c0
      have d1 : w2.cell? ⟨w.heap.size, 1, none⟩ = some (.int .i64 0) := (hb2.cell hsz).trans c1
      have d2 : ∀ j, w2.frozen? ⟨w.heap.size, j, none⟩ = false := fun j => (hb2.frozen hsz).trans (c2 j)
      clear c0 c1 c2 hb2
      go_wp2
      refine leaves_cons (f := 88) (args := #[.pointer (some ⟨w.heap.size, 0, none⟩)]) (by simp) (by simp [go_sem]) ?_
      refine (catch_none w.heap.size _).mono ?_
      rintro e u' w3 ⟨rfl, rfl, rfl⟩
      simp [Leaves, settle, results, Tryz.results69, go_sem, d0, d1]
      refine ⟨Mod.setCell (Mod.setCell HM2.out (fun _ => .inr (Nat.le_refl _)) _) (fun _ => .inr (Nat.le_refl _)) _, fun _ => ?_⟩
      exact (HR2.out.other w.heap.size 0 hg (Nat.lt_succ_self _) _).other w.heap.size 1 hg (Nat.lt_succ_self _) _
theorem growL_len (out : List WordS) (t : ByteArray) : (growL out t).length = out.length := by
  unfold growL
  split
  · rw [List.length_set]
  · rfl
theorem lexGo_len : ∀ (rs : List RuneS) (st : LexS), (lexGo rs st).1.length ≤ st.out.length + rs.length
  | [], st => by simp [lexGo]
  | r :: rs, st => by
    unfold lexGo
    split
    · rename_i st' h
      have ih := lexGo_len rs st'
      have hl : st'.out.length ≤ st.out.length + 1 := by
        unfold stepL at h
        split at h
        · injection h with h; subst h
          show (if st.run then growL st.out (Utf8.encode r.C) else st.out ++ [_]).length ≤ _
          split
          · rw [growL_len]; omega
          · simp
        · split at h
          · injection h with h; subst h; simp
          · split at h
            · injection h with h; subst h; simp
            · cases h
      simp only [List.length_cons]; omega
    · simp
theorem wordsS_len (s : ByteArray) : (wordsS s).1.length ≤ 200 := by
  unfold wordsS
  split
  · simp
  · have := lexGo_len (runes s) ⟨[], false, 0⟩
    have := runes_len s
    simp only [List.length_nil] at *
    omega
set_option maxHeartbeats 4000000 in
set_option maxRecDepth 100000 in
theorem readNeed_calls (tab : List ByteArray) (s : ByteArray) (tv : Value) (w : World) (ht : Kd.str.slice.K w Any tab [tv]) (hs : s.size ≤ 140737488351232) :
    Calls Tryz.prog 52 #[tv, .string s] w fun e w' => ∃ v, e = .returned (.tuple #[v, .int .i64 (needS tab s).2.1, .int .i64 (needS tab s).2.2]) ∧ Own Kd.node 130 w' w.heap.size NoT v (needS tab s).1 ∧ Below w.heap.size w w' := by
  have HT := hid ht
  have HD := hid (show needS tab s = _ from rfl)
  clear ht
  go_enter Tryz.func52, Tryz.ntmps52
  go_wp2_with fail
  refine (lexWords_calls s w hs).mono ?_
  rintro e w1 ⟨v, rfl, hO, hb1⟩
  have HO := hid hO
  have HB1 := hid hb1
  have hwl := wordsS_len s
  obtain ⟨ws, hws⟩ : ∃ ws, ws = (wordsS s).1 := ⟨_, rfl⟩
  obtain ⟨a1, ha1⟩ : ∃ a1, a1 = (wordsS s).2.1 := ⟨_, rfl⟩
  obtain ⟨e1, he1⟩ : ∃ e1, e1 = (wordsS s).2.2 := ⟨_, rfl⟩
  rw [← ha1, ← he1]
  have HW := hid hws
  rw [← hws] at HO hwl
  have HA := hid ha1
  have HE := hid he1
  clear hO hb1 hws ha1 he1 HD
  by_cases h0 : e1 = 0
  · subst h0
    obtain ⟨A, n, c, rfl, hq1, hq2⟩ := HO.out.shape'
    obtain ⟨At, ct, hta, _, _, _⟩ := HT.out
    injection hta with hta _
    subst hta
    clear hq1 hq2
    go_wp2_with fail
    refine (count_calls s w1 hs).mono ?_
    rintro e w2 ⟨rfl, hb2⟩
    obtain ⟨V, hV⟩ : ∃ V, V = w2.alloc (.cells #[.slice At tab.length ct, .slice A n c, .int .i64 (runes s).length, .slice none 0 0] 118) := ⟨_, rfl⟩
    have HBV := hid (show Below w2.heap.size w2 V by rw [hV]; exact bAlloc (Below.refl _ _) _)
    have hvs : V.heap.size = w2.heap.size + 1 := by rw [hV]; simp
    have hz := hid (show V.heap[w2.heap.size]? = some (.cells #[.slice At tab.length ct, .slice A n c, .int .i64 (runes s).length, .slice none 0 0] 118 (0, 0)) by rw [hV]; exact heap_at rfl)
    have HV := hid hV
    clear hV
    have h12 := hb2.size
    have h01 := HB1.out.size
    have HBT := hid (bThen HB1.out hb2)
    obtain ⟨g, hg⟩ : ∃ g, g = w2.heap.size := ⟨_, rfl⟩
    have hI : ∀ W B, Below V.heap.size V W → g < B → B ≤ W.heap.size → RAt tab (.slice At tab.length ct) (runes s).length g B W ws [] := by
      intro W B hb hgB hBW
      obtain ⟨A', c', he, k1, k2, k3⟩ := (HO.out.below hb2).K
      injection he with he _
      injection he with he1 he2 he3
      subst he1; subst he3
      have hbw : Below w2.heap.size w2 W := HBV.out.trans (hb.mono HBV.out.size)
      refine ⟨A, n, c, .slice none 0 0, ?_, he2, k1, Kd.Row.below (Kd.Row.mono (fun b _ h => by rw [hg]; exact h) k3) hbw, Own.nil _ _ _ _ _, Kd.below (Kd.mono Kd.str.slice (fun b _ h => by rw [hg]; exact h) (Kd.below (Kd.below HT.out HB1.out) hb2)) hbw, hgB, hBW, by omega, by simp; omega⟩
      rw [hg]
      exact (hb.block w2.heap.size (by omega)).trans hz.out
    generalize hq : readR (anyP (oneP tab (runes s).length ws.length) ws.length ws []) = q
    obtain ⟨a0, e0, o0⟩ := q
    have HD := hid (show needS tab s = (if e0 ≠ 0 then ([], a0, e0) else (o0, 0, 0)) by
      unfold needS
      rw [if_neg (by rw [← HE.out]; simp), ← HW.out, hq])
    have HRC := hid (read_calls tab (.slice At tab.length ct) (runes s).length g V ws (by omega) hI a0 e0 o0 hq)
    clear hI hq
    go_wp2_with fail
    rw [← HV.out, ← hg]
    refine HRC.out.mono ?_
    rintro e w3 ⟨rfl, hm3, hR3⟩
    have HB3 := hid (show Below w.heap.size w w3 from below_mod (HBT.out.trans (HBV.out.mono (by omega))) hm3 (fun i h => by rcases h with h | h <;> omega) (by omega))
    have hgw : w.heap.size ≤ V.heap.size + 1 := by omega
    clear hm3 hg
    by_cases h0 : e0 = 0
    · have HD2 := hid (show needS tab s = (o0, 0, 0) by rw [HD.out, if_neg (by simp [h0])])
      have hR := hR3 h0
      subst h0
      clear hR3 hb2 hz
      obtain ⟨A5, n5, c5, O, q1, _, _, _, q5, _, _, q8, _⟩ := hR
      have hg3 := (Array.getElem?_eq_some_iff.1 q1).1
      obtain ⟨z, _, _⟩ := cells_of_block q1
      obtain ⟨B1, m1, k1, rfl, hx1, hx2⟩ := q5.shape'
      have z3 : w3.cell? ⟨g, 3, none⟩ = some (.slice B1 m1 k1) := z 3 _ rfl
      have HOO := hid (q5.lower (base' := w.heap.size) (by omega))
      clear z q1 q5 q8 hx1 hx2
      go_wp2
      go_ret3
      rw [HD2.out]
      exact ⟨_, rfl, HOO.out.alloc _, bAlloc HB3.out _⟩
    · have HD2 := hid (show needS tab s = ([], a0, e0) by rw [HD.out, if_pos h0])
      have h1 : (e0 == (0 : Int)) = false := by simp [h0]
      clear h0 hR3 hb2 hz
      go_wp2
      go_quiet (fail)
      go_wp2
      go_ret3
      rw [HD2.out]
      exact ⟨_, rfl, Own.nil _ _ _ _ _, below_drewN (bAlloc HB3.out _) _⟩
  · have h1 : (e1 == (0 : Int)) = false := by simp [h0]
    have HD := hid (show needS tab s = ([], a1, e1) by unfold needS; rw [if_pos (by rw [← HE.out]; exact h0), ← HA.out, ← HE.out])
    clear h0
    obtain ⟨A, n, c, rfl, hq1, hq2⟩ := HO.out.shape'
    clear hq1 hq2
    go_wp2
    go_ret3
    rw [HD.out]
    exact ⟨_, rfl, Own.nil _ _ _ _ _, HB1.out⟩
end Go.Proofs.YtgedkcglkhleoaaGreatDoor
