/- read.reader: its state; peek, take, put. -/
import Derived.Test.YteijgeofimcijaaRead0
import Derived.Test.YteijgeofimcijaaMade
import Derived.Test.YteijgeofimcijaaMod
import Derived.WalkLawsBesides
namespace Go.Proofs.Yteijgeofimcijaa
open Go.RowKit

theorem Try.infoNode : (Try.prog.info? 122).map (fun i => (i.zero, i.size, i.bytes)) = some (some (.agg #[.int .i64 0, .int .i64 0]), 2, 16) := by kernel_rfl
/-- The reader at block g; what it has made lies from B on. -/
def RAt (tab : List ByteArray) (tv : Value) (en : Int) (g B : Nat) (w : World) (ws : List WordS) (out : List NodeS) : Prop :=
  ∃ A n c O, w.heap[g]? = some (.cells #[tv, .slice A n c, .int .i64 en, O] 146 (0, 0)) ∧ n = ws.length ∧ ws.length ≤ c ∧ Kd.word.Row w (fun b => b < g) A ws ∧ Own Kd.node 122 w B NoT O out ∧
    Kd.str.slice.K w (fun b => b < g) tab [tv] ∧ g < B ∧ B ≤ w.heap.size ∧ ws.length ≤ 1000 ∧ out.length + ws.length ≤ 100000
def rF (g B : Nat) : Nat → Prop := fun b => b = g ∨ B ≤ b
section
variable {tab : List ByteArray} {tv : Value} {en : Int} {g B : Nat} {w w1 : World} {ws : List WordS} {out : List NodeS}
theorem RAt.below (h : RAt tab tv en g B w ws out) (hb : Below w.heap.size w w1) : RAt tab tv en g B w1 ws out := by
  obtain ⟨A, n, c, O, h1, h2, h3, h4, h5, h6, h7, h8, h9⟩ := h
  exact ⟨A, n, c, O, (hb.block g (Array.getElem?_eq_some_iff.1 h1).1).trans h1, h2, h3, Kd.Row.below h4 hb, h5.below hb, Kd.below h6 hb, h7, Nat.le_trans h8 hb.size, h9⟩
theorem row_word0 {A : Option Addr} {S : Nat → Prop} {x : WordS} {r : List WordS} (h : Kd.word.Row w S A (x :: r)) : ∃ a, A = some a ∧ w.cell? a = some (.string x.text) ∧ w.cell? ⟨a.block, a.off + 1, none⟩ = some (.int .i64 x.at_) ∧ S a.block ∧ a.block < w.heap.size := by
  obtain ⟨a, cs, h1, k1, k2, h4, h5⟩ := h 0 x rfl
  cases h4
  refine ⟨a, h1, ?_, ?_, k1, k2⟩
  · have := h5 0 _ rfl
    rw [show 0 * Kd.word.sz + 0 = 0 from rfl] at this
    unfold Addr.add at this
    rwa [if_pos rfl] at this
  · have := h5 1 _ rfl
    rwa [show 0 * Kd.word.sz + 1 = 1 from rfl, Kd.add_lit _ _ (by decide)] at this
theorem RAt.taken {A : Option Addr} {n c : Nat} {O : Value} {x : WordS} {r : List WordS} (h1 : w.heap[g]? = some (.cells #[tv, .slice A n c, .int .i64 en, O] 146 (0, 0))) (h2 : n = (x :: r).length) (h3 : (x :: r).length ≤ c)
    (h4 : Kd.word.Row w (fun b => b < g) A (x :: r)) (h5 : Own Kd.node 122 w B NoT O out) (h6 : Kd.str.slice.K w (fun b => b < g) tab [tv]) (h7 : g < B) (h8 : B ≤ w.heap.size) (h9 : (x :: r).length ≤ 1000) (h10 : out.length + (x :: r).length ≤ 100000)
    (A2 : Option Addr) (n2 c2 : Nat) (hA : A2 = if c = 1 then A else A.map (·.add 2)) (hn2 : n2 = n - 1) (hc2 : c2 = c - 1) (o1 o2 : Obj) :
    RAt tab tv en g B (((w.setCell ⟨g, 1, none⟩ (.slice A2 n2 c2)).alloc o1).alloc o2) r out ∧ Mod (rF g B) w (((w.setCell ⟨g, 1, none⟩ (.slice A2 n2 c2)).alloc o1).alloc o2) := by
  have hm : ∀ b, b < g → b < w.heap.size → (w.setCell ⟨g, 1, none⟩ (.slice A2 n2 c2)).heap[b]? = w.heap[b]? := fun b hb _ => Below.heap_setCell w ⟨g, 1, none⟩ _ b (by show b ≠ g; omega)
  refine ⟨RAt.below (w := w.setCell ⟨g, 1, none⟩ (.slice A2 n2 c2)) ⟨A2, n2, c2, O, heap_set h1 1 _, by rw [hn2, h2]; simp, by rw [hc2]; simp at h3; omega, ?_, ?_, ?_, h7, by simpa using h8, by simp at h9; omega, by simp at h10; omega⟩ (bAlloc (bAlloc (Below.refl _ _) _) _), ?_⟩
  · have h : Kd.word.Row w (fun b => b < g) (if c = 1 then A else A.map (·.add 2)) r := Kd.Row.drop h4 1 c (by simp) h3
    rw [← hA] at h
    exact h.move (fun b hb hl => hm b hb hl)
  · exact h5.setCell (fun h => h) (fun e => by have := (h5.lt g e).1; omega) _
  · exact Kd.str.slice.move (fun b hb hl => hm b hb hl) h6
  · refine Mod.alloc (Mod.alloc (Mod.setCell (Mod.refl _ _) (fun _ => .inl rfl) _) _) _
end
def headT : List WordS → ByteArray
  | [] => ⟨#[]⟩
  | x :: _ => x.text
set_option maxHeartbeats 1000000 in
set_option maxRecDepth 100000 in
theorem peek_calls (tab : List ByteArray) (tv : Value) (en : Int) (g B : Nat) (w : World) (ws : List WordS) (out : List NodeS) (h : RAt tab tv en g B w ws out) :
    Calls Try.prog 177 #[.pointer (some ⟨g, 0, none⟩)] w fun e w' => e = .returned (.string (headT ws)) ∧ w = w' := by
  obtain ⟨A, n, c, O, h1, h2, h3, h4, _⟩ := h
  obtain ⟨z, _, _⟩ := cells_of_block h1
  have z1 := z 1 _ rfl
  clear z h1
  cases ws with
  | nil =>
    obtain rfl : n = 0 := h2
    clear h4
    go_enter Try.func177, Try.ntmps177
    go_wp2
    go_ret
    exact ⟨rfl, rfl⟩
  | cons x r =>
    obtain ⟨a, rfl, q0, q1, _, _⟩ := row_word0 h4
    have hn0 : ((n : Int) == 0) = false := by rw [h2, List.length_cons, beq_eq_false_iff_ne]; omega
    have hn1 : (0 : Int) < n := by rw [h2, List.length_cons]; omega
    have hn2 : 0 < n := by omega
    clear h2 h3 h4
    go_enter Try.func177, Try.ntmps177
    go_wp2
    go_ret
    exact ⟨rfl, rfl⟩
def wrongV (a e : Int) : Ending := .panicked [{ v := .iface 148 (.agg #[.int .i64 a, .int .i64 e]), recovered := false }]
set_option maxHeartbeats 1000000 in
set_option maxRecDepth 100000 in
theorem take_none (tab : List ByteArray) (tv : Value) (en : Int) (g B : Nat) (w : World) (out : List NodeS) (h : RAt tab tv en g B w [] out) :
    Calls Try.prog 178 #[.pointer (some ⟨g, 0, none⟩)] w fun e w' => e = wrongV en 3 ∧ Below w.heap.size w w' := by
  obtain ⟨A, n, c, O, h1, h2, _⟩ := h
  obtain rfl : n = 0 := h2
  have hg := (Array.getElem?_eq_some_iff.1 h1).1
  obtain ⟨z, _, _⟩ := cells_of_block h1
  have z1 := z 1 _ rfl
  have z2 := z 2 _ rfl
  clear z h1
  go_enter Try.func178, Try.ntmps178
  go_wp2
  exact ⟨rfl, rfl, bAlloc (Below.refl _ _) _⟩
set_option maxHeartbeats 2000000 in
set_option maxRecDepth 100000 in
theorem take_one (tab : List ByteArray) (tv : Value) (en : Int) (g B : Nat) (w : World) (x : WordS) (r : List WordS) (out : List NodeS) (h : RAt tab tv en g B w (x :: r) out) :
    Calls Try.prog 178 #[.pointer (some ⟨g, 0, none⟩)] w fun e w' => e = .returned (.agg #[.string x.text, .int .i64 x.at_]) ∧ RAt tab tv en g B w' r out ∧ Mod (rF g B) w w' := by
  have HR := hid h
  obtain ⟨A, n, c, O, h1, h2, h3, h4, h5, h6, h7, h8, h9, h10⟩ := h
  have HEND := hid (RAt.taken h1 h2 h3 h4 h5 h6 h7 h8 h9 h10)
  have hg := (Array.getElem?_eq_some_iff.1 h1).1
  obtain ⟨z, zf, _⟩ := cells_of_block h1
  have z1 : w.cell? ⟨g, 1, none⟩ = some (.slice A n c) := z 1 _ rfl
  have zf1 := zf 1
  obtain ⟨a, rfl, q0, q1, q2, q3⟩ := row_word0 h4
  have hn0 : ((n : Int) == 0) = false := by rw [h2, List.length_cons, beq_eq_false_iff_ne]; omega
  have hn1 : (0 : Int) < n := by rw [h2, List.length_cons]; omega
  have hn2 : 0 < n := by simp at h2; omega
  have hn3 : 1 ≤ n := hn2
  have hn4 : (1 : Int) ≤ n := by omega
  clear z zf h1 h2 h3 h4 h5 h6 h9 h10
  go_enter Try.func178, Try.ntmps178
  go_wp2
  all_goals
    refine bodyPost_ret (v := .agg #[.string x.text, .int .i64 x.at_]) (by simp [results, Try.results178, go_sem]) rfl ⟨rfl, ?_⟩
    first
    | exact HEND.out (some a) (n - 1) 0 (by simp [h]) rfl (by omega) _ _
    | exact HEND.out (some ⟨a.block, a.off + 2, none⟩) (n - 1) (c - 1) (by rw [if_neg h]; rfl) rfl rfl _ _
theorem RAt.putted {tab : List ByteArray} {tv : Value} {en : Int} {g B : Nat} {w w1 : World} {ws : List WordS} {out : List NodeS} {A : Option Addr} {n c : Nat} {O v1 : Value} {x : NodeS} (h1 : w.heap[g]? = some (.cells #[tv, .slice A n c, .int .i64 en, O] 146 (0, 0))) (h2 : n = ws.length) (h3 : ws.length ≤ c)
    (h4 : Kd.word.Row w (fun b => b < g) A ws) (h5 : Own Kd.node 122 w B NoT O out) (h6 : Kd.str.slice.K w (fun b => b < g) tab [tv]) (h7 : g < B) (h8 : B ≤ w.heap.size) (h9 : ws.length ≤ 1000) (h10 : out.length + 1 + ws.length ≤ 100000)
    (hO : Own Kd.node 122 w1 B NoT v1 (out ++ [x])) (hb : Below B w w1) (hg : w.grownBy w1 O.ownBlock) :
    RAt tab tv en g B (w1.setCell ⟨g, 3, none⟩ v1) ws (out ++ [x]) ∧ Mod (rF g B) w (w1.setCell ⟨g, 3, none⟩ v1) := by
  have hg1 : w1.heap[g]? = some (.cells #[tv, .slice A n c, .int .i64 en, O] 146 (0, 0)) := (hb.block g h7).trans h1
  have hm : ∀ b, b < g → b < w.heap.size → (w1.setCell ⟨g, 3, none⟩ v1).heap[b]? = w.heap[b]? := fun b h _ => (Below.heap_setCell w1 ⟨g, 3, none⟩ _ b (by show b ≠ g; omega)).trans (hb.block b (by omega))
  refine ⟨⟨A, n, c, v1, heap_set hg1 3 _, h2, h3, h4.move (fun b h hl => hm b h hl), hO.setCell (fun h => h) (fun e => by have := (hO.lt g e).1; omega) _, Kd.str.slice.move (fun b h hl => hm b h hl) h6, h7, ?_, h9, by rw [List.length_append]; simp; omega⟩, ?_⟩
  · have := hb.size
    simp; omega
  · exact Mod.setCell (Mod.grown (Mod.refl _ _) hg (fun k hk _ => .inr (h5.lt k hk).1)) (fun _ => .inl rfl) _
set_option maxHeartbeats 2000000 in
set_option maxRecDepth 100000 in
theorem put_calls (tab : List ByteArray) (tv : Value) (en : Int) (g B : Nat) (w : World) (ws : List WordS) (out : List NodeS) (op n : Int) (h : RAt tab tv en g B w ws out) (hl : out.length + 1 + ws.length ≤ 100000) :
    Calls Try.prog 179 #[.pointer (some ⟨g, 0, none⟩), .int .i64 op, .int .i64 n] w fun e w' => e = .returned (.tuple #[]) ∧ RAt tab tv en g B w' ws (out ++ [⟨op, n⟩]) ∧ Mod (rF g B) w w' := by
  obtain ⟨A, m, c, O, h1, h2, h3, h4, h5, h6, h7, h8, h9, _⟩ := h
  have HEND := hid (fun w1 v1 => RAt.putted (w1 := w1) (v1 := v1) (x := ⟨op, n⟩) h1 h2 h3 h4 h5 h6 h7 h8 h9 hl)
  have HO := hid h5
  have HH := hid h1
  have hg := (Array.getElem?_eq_some_iff.1 h1).1
  obtain ⟨z, zf, _⟩ := cells_of_block h1
  obtain ⟨B1, m1, c1, rfl, hq1, hq2⟩ := h5.shape'
  have z3 : w.cell? ⟨g, 3, none⟩ = some (.slice B1 m1 c1) := z 3 _ rfl
  clear z zf h1 h2 h3 h4 h5 h6 h9 hq1 hq2
  go_enter Try.func179, Try.ntmps179
  go_wp2_with (at_builtin; go_must (refine append_arm Kd.node (w0 := w) B rfl _ _ 23 122 _ 16 rfl Try.underlying23 Try.infoNode rfl (by decide) (by decide) (.slice B1 m1 c1) out ⟨op, n⟩ [.int .i64 op, .int .i64 n] NoT NoT rfl rfl rfl (fun _ h => h.elim) HO.out (Below.refl _ _) h8 (by omega) ?_))
  intro v1 w1 hO1 hb1 hg1 _
  obtain ⟨B2, m2, c2, rfl, hq1, hq2⟩ := hO1.shape'
  have hh : w1.heap[g]? = some (.cells #[tv, .slice A m c, .int .i64 en, .slice B1 m1 c1] 146 (0, 0)) := (hb1.block g h7).trans HH.out
  obtain ⟨_, zf, _⟩ := cells_of_block hh
  have zf3 := zf 3
  have HE2 := hid (HEND.out w1 _ hO1 hb1 hg1)
  clear zf hh hO1 hb1 hg1 hq1 hq2
  go_wp2
  go_end0
  exact ⟨rfl, HE2.out⟩
theorem rF_trans {g B : Nat} {w w1 w2 : World} (h : Mod (rF g B) w w1) (k : Mod (rF g B) w1 w2) : Mod (rF g B) w w2 := h.trans k (fun _ _ h => h)
def wLen (g : Nat) (w : World) : Nat := match w.cell? ⟨g, 1, none⟩ with
  | some (.slice _ n _) => n
  | _ => 0
end Go.Proofs.Yteijgeofimcijaa
