/- siskinref10.Reader: its state; Peek, Here, Fail, All, Any. -/
import Derived.Test.YteijgeofimcijaaRead1
import Derived.Outline
namespace Go.Proofs.Yteijgeofimcijaa
open Go.RowKit

def QAt (tab : List ByteArray) (tv : Value) (en : Int) (g B : Nat) (w : World) (ws : List WordS) (out : List NodeS) (at_ er : Int) : Prop :=
  ∃ A n c O, w.heap[g]? = some (.cells #[tv, .slice A n c, .int .i64 en, O, .int .i64 at_, .int .i64 er] 152 (0, 0)) ∧ n = ws.length ∧ ws.length ≤ c ∧ Kd.word.Row w (fun b => b < g) A ws ∧ Own Kd.node 122 w B NoT O out ∧
    Kd.str.slice.K w (fun b => b < g) tab [tv] ∧ g < B ∧ B ≤ w.heap.size ∧ ws.length ≤ 1000 ∧ out.length + ws.length ≤ 100000 ∧ (∀ x ∈ ws, x.text ≠ ⟨#[]⟩)
section
variable {tab : List ByteArray} {tv : Value} {en : Int} {g B : Nat} {w w1 : World} {ws : List WordS} {out : List NodeS} {at_ er : Int}
theorem QAt.below (h : QAt tab tv en g B w ws out at_ er) (hb : Below w.heap.size w w1) : QAt tab tv en g B w1 ws out at_ er := by
  obtain ⟨A, n, c, O, h1, h2, h3, h4, h5, h6, h7, h8, h9⟩ := h
  exact ⟨A, n, c, O, (hb.block g (Array.getElem?_eq_some_iff.1 h1).1).trans h1, h2, h3, Kd.Row.below h4 hb, h5.below hb, Kd.below h6 hb, h7, Nat.le_trans h8 hb.size, h9⟩
theorem QAt.sum (h : QAt tab tv en g B w ws out at_ er) : out.length + ws.length ≤ 100000 := by
  obtain ⟨A, n, c, O, _, _, _, _, _, _, _, _, _, h, _⟩ := h
  exact h
theorem QAt.ne (h : QAt tab tv en g B w ws out at_ er) : ∀ x ∈ ws, x.text ≠ ⟨#[]⟩ := by
  obtain ⟨A, n, c, O, _, _, _, _, _, _, _, _, _, _, h⟩ := h
  exact h
theorem QAt.len (h : QAt tab tv en g B w ws out at_ er) : wLen g w = ws.length := by
  obtain ⟨A, n, c, O, h1, h2, _⟩ := h
  obtain ⟨z, _, _⟩ := cells_of_block h1
  unfold wLen
  rw [show w.cell? ⟨g, 1, none⟩ = some (.slice A n c) from z 1 _ rfl]
  exact h2
/-- A word less. -/
theorem QAt.cut {x : WordS} {r : List WordS} (h : QAt tab tv en g B w (x :: r) out at_ er) : ∃ a n c, w.cell? ⟨g, 1, none⟩ = some (.slice (some a) n c) ∧ (∀ j, w.frozen? ⟨g, j, none⟩ = false) ∧ 1 ≤ n ∧ n ≤ c ∧ g < w.heap.size ∧ ∀ A2 n2 c2, A2 = (if c = 1 then some a else some ⟨a.block, a.off + 2, none⟩) → n2 = n - 1 → c2 = c - 1 →
    QAt tab tv en g B (w.setCell ⟨g, 1, none⟩ (.slice A2 n2 c2)) r out at_ er ∧ Mod (rF g B) w (w.setCell ⟨g, 1, none⟩ (.slice A2 n2 c2)) := by
  obtain ⟨A, n, c, O, h1, h2, h3, h4, h5, h6, h7, h8, h9, h10, h11⟩ := h
  obtain ⟨z, zf, _⟩ := cells_of_block h1
  simp only [List.length_cons] at h2 h3 h9 h10
  obtain ⟨a, rfl, _, _, _, _⟩ := row_word0 h4
  refine ⟨a, n, c, z 1 _ rfl, zf, by omega, by omega, (Array.getElem?_eq_some_iff.1 h1).1, fun A2 n2 c2 hA hn2 hc2 => ?_⟩
  have hm : ∀ b, b < g → b < w.heap.size → (w.setCell ⟨g, 1, none⟩ (.slice A2 n2 c2)).heap[b]? = w.heap[b]? := fun b hb _ => Below.heap_setCell w ⟨g, 1, none⟩ _ b (by show b ≠ g; omega)
  refine ⟨⟨A2, n2, c2, O, heap_set h1 1 _, by omega, by omega, ?_, ?_, ?_, h7, by simpa using h8, by omega, by omega, fun y hy => h11 y (List.mem_cons_of_mem _ hy)⟩, Mod.setCell (Mod.refl _ _) (fun _ => .inl rfl) _⟩
  · have h : Kd.word.Row w (fun b => b < g) (if c = 1 then some a else some ⟨a.block, a.off + 2, none⟩) r := Kd.Row.drop h4 1 c (by simp) (by simpa using h3)
    rw [← hA] at h
    exact h.move (fun b hb hl => hm b hb hl)
  · exact h5.setCell (fun h => h) (fun e => by have := (h5.lt g e).1; omega) _
  · exact Kd.str.slice.move (fun b hb hl => hm b hb hl) h6
/-- A node more. -/
theorem QAt.more {x : NodeS} (h : QAt tab tv en g B w ws out at_ er) (hl : out.length + 1 + ws.length ≤ 100000) : ∃ A n c, w.cell? ⟨g, 3, none⟩ = some (.slice A n c) ∧ g < w.heap.size ∧ B ≤ w.heap.size ∧ out.length ≤ 100000 ∧ Own Kd.node 122 w B NoT (.slice A n c) out ∧
    ∀ v1 w1, Own Kd.node 122 w1 B NoT v1 (out ++ [x]) → Below B w w1 → w.grownBy w1 (Value.slice A n c).ownBlock → (w1.frozen? ⟨g, 3, none⟩ = false ∧ w1.cell? ⟨g, 3, none⟩ = some (.slice A n c)) ∧ QAt tab tv en g B (w1.setCell ⟨g, 3, none⟩ v1) ws (out ++ [x]) at_ er ∧ Mod (rF g B) w (w1.setCell ⟨g, 3, none⟩ v1) := by
  obtain ⟨A, n, c, O, h1, h2, h3, h4, h5, h6, h7, h8, h9, h10, h11⟩ := h
  obtain ⟨z, _, _⟩ := cells_of_block h1
  obtain ⟨B1, m1, c1, rfl, hq1, hq2⟩ := h5.shape'
  refine ⟨B1, m1, c1, z 3 _ rfl, (Array.getElem?_eq_some_iff.1 h1).1, h8, by omega, h5, fun v1 w1 hO hb hg => ?_⟩
  have hg1 := (hb.block g h7).trans h1
  obtain ⟨zc, zf, _⟩ := cells_of_block hg1
  have hm : ∀ b, b < g → b < w.heap.size → (w1.setCell ⟨g, 3, none⟩ v1).heap[b]? = w.heap[b]? := fun b h _ => (Below.heap_setCell w1 ⟨g, 3, none⟩ _ b (by show b ≠ g; omega)).trans (hb.block b (by omega))
  refine ⟨⟨zf 3, zc 3 _ rfl⟩, ⟨A, n, c, v1, heap_set hg1 3 _, h2, h3, h4.move (fun b h hl => hm b h hl), hO.setCell (fun h => h) (fun e => by have := (hO.lt g e).1; omega) _, Kd.str.slice.move (fun b h hl => hm b h hl) h6, h7, ?_, h9, by rw [List.length_append]; simp; omega, h11⟩, ?_⟩
  · have := hb.size
    simp; omega
  · exact Mod.setCell (Mod.grown (Mod.refl _ _) hg (fun k hk _ => .inr (h5.lt k hk).1)) (fun _ => .inl rfl) _
end
def hereI (en : Int) : List WordS → Int
  | [] => en
  | x :: _ => x.at_
set_option maxHeartbeats 1000000 in
set_option maxRecDepth 100000 in
theorem peek10_calls (tab : List ByteArray) (tv : Value) (en : Int) (g B : Nat) (w : World) (ws : List WordS) (out : List NodeS) (h : QAt tab tv en g B w ws out 0 0) :
    Calls Try.prog 139 #[.pointer (some ⟨g, 0, none⟩)] w fun e w' => e = .returned (.string (headT ws)) ∧ w = w' := by
  obtain ⟨A, n, c, O, h1, h2, h3, h4, _⟩ := h
  obtain ⟨z, _, _⟩ := cells_of_block h1
  have z1 : w.cell? ⟨g, 1, none⟩ = some (.slice A n c) := z 1 _ rfl
  have z5 : w.cell? ⟨g, 5, none⟩ = some (.int .i64 0) := z 5 _ rfl
  clear z h1
  cases ws with
  | nil =>
    obtain rfl : n = 0 := h2
    clear h4
    go_enter Try.func139, Try.ntmps139
    go_wp2
    go_ret
    exact ⟨rfl, rfl⟩
  | cons x r =>
    obtain ⟨a, rfl, q0, q1, _, _⟩ := row_word0 h4
    have hn0 : ((n : Int) == 0) = false := by rw [h2, List.length_cons, beq_eq_false_iff_ne]; omega
    have hn1 : (0 : Int) < n := by rw [h2, List.length_cons]; omega
    have hn2 : 0 < n := by omega
    clear h2 h3 h4
    go_enter Try.func139, Try.ntmps139
    go_wp2
    go_ret
    exact ⟨rfl, rfl⟩
set_option maxHeartbeats 1000000 in
set_option maxRecDepth 100000 in
theorem peek10_bad (tab : List ByteArray) (tv : Value) (en : Int) (g B : Nat) (w : World) (ws : List WordS) (out : List NodeS) (at_ er : Int) (her : er ≠ 0) (h : QAt tab tv en g B w ws out at_ er) :
    Calls Try.prog 139 #[.pointer (some ⟨g, 0, none⟩)] w fun e w' => e = .returned (.string ⟨#[]⟩) ∧ w = w' := by
  obtain ⟨A, n, c, O, h1, h2, h3, h4, _⟩ := h
  obtain ⟨z, _, _⟩ := cells_of_block h1
  have z1 : w.cell? ⟨g, 1, none⟩ = some (.slice A n c) := z 1 _ rfl
  have z5 : w.cell? ⟨g, 5, none⟩ = some (.int .i64 er) := z 5 _ rfl
  have he : (er == (0 : Int)) = false := by simp [her]
  clear z h1 h2 h3 h4 her
  go_enter Try.func139, Try.ntmps139
  by_cases hn : n = 0
  · subst hn
    go_wp2
    go_ret
    exact ⟨rfl, rfl⟩
  · have hn0 : ((n : Int) == 0) = false := by rw [beq_eq_false_iff_ne]; omega
    clear hn
    go_wp2
    go_ret
    exact ⟨rfl, rfl⟩
set_option maxHeartbeats 1000000 in
set_option maxRecDepth 100000 in
theorem here_calls (tab : List ByteArray) (tv : Value) (en : Int) (g B : Nat) (w : World) (ws : List WordS) (out : List NodeS) (at_ er : Int) (h : QAt tab tv en g B w ws out at_ er) :
    Calls Try.prog 89 #[.pointer (some ⟨g, 0, none⟩)] w fun e w' => e = .returned (.int .i64 (hereI en ws)) ∧ w = w' := by
  obtain ⟨A, n, c, O, h1, h2, h3, h4, _⟩ := h
  obtain ⟨z, _, _⟩ := cells_of_block h1
  have z1 : w.cell? ⟨g, 1, none⟩ = some (.slice A n c) := z 1 _ rfl
  have z2 : w.cell? ⟨g, 2, none⟩ = some (.int .i64 en) := z 2 _ rfl
  clear z h1
  cases ws with
  | nil =>
    obtain rfl : n = 0 := h2
    clear h4
    go_enter Try.func89, Try.ntmps89
    go_wp2
    go_ret
    exact ⟨rfl, rfl⟩
  | cons x r =>
    obtain ⟨a, rfl, q0, q1, _, _⟩ := row_word0 h4
    have hn0 : ((n : Int) == 0) = false := by rw [h2, List.length_cons, beq_eq_false_iff_ne]; omega
    have hn1 : (0 : Int) < n := by rw [h2, List.length_cons]; omega
    have hn2 : 0 < n := by omega
    clear h2 h3 h4
    go_enter Try.func89, Try.ntmps89
    go_wp2
    go_ret
    exact ⟨rfl, rfl⟩
theorem QAt.fail {tab : List ByteArray} {tv : Value} {en : Int} {g B : Nat} {w : World} {ws : List WordS} {out : List NodeS} {at_ er : Int} (h : QAt tab tv en g B w ws out at_ er) (a e : Int) :
    QAt tab tv en g B ((w.setCell ⟨g, 4, none⟩ (.int .i64 a)).setCell ⟨g, 5, none⟩ (.int .i64 e)) ws out a e ∧ Mod (rF g B) w ((w.setCell ⟨g, 4, none⟩ (.int .i64 a)).setCell ⟨g, 5, none⟩ (.int .i64 e)) := by
  obtain ⟨A, n, c, O, h1, h2, h3, h4, h5, h6, h7, h8, h9⟩ := h
  have hm : ∀ b, b < g → b < w.heap.size → ((w.setCell ⟨g, 4, none⟩ (.int .i64 a)).setCell ⟨g, 5, none⟩ (.int .i64 e)).heap[b]? = w.heap[b]? := fun b hb _ => (Below.heap_setCell _ ⟨g, 5, none⟩ _ b (by show b ≠ g; omega)).trans (Below.heap_setCell w ⟨g, 4, none⟩ _ b (by show b ≠ g; omega))
  have ho : ∀ {w' : World} {O : Value}, Own Kd.node 122 w' B NoT O out → O.ownBlock ≠ some g := fun h e => by have := (h.lt g e).1; omega
  have h5a := h5.setCell (p := ⟨g, 4, none⟩) (fun h => h) (ho h5) (.int .i64 a)
  exact ⟨⟨A, n, c, O, heap_set (heap_set h1 4 _) 5 _, h2, h3, h4.move (fun b hb hl => hm b hb hl), h5a.setCell (p := ⟨g, 5, none⟩) (fun h => h) (ho h5a) _, Kd.str.slice.move (fun b hb hl => hm b hb hl) h6, h7, by simpa using h8, h9⟩,
    Mod.setCell (Mod.setCell (Mod.refl _ _) (fun _ => .inl rfl) _) (fun _ => .inl rfl) _⟩
set_option maxHeartbeats 1000000 in
set_option maxRecDepth 100000 in
theorem fail_first (tab : List ByteArray) (tv : Value) (en : Int) (g B : Nat) (w : World) (ws : List WordS) (out : List NodeS) (a e : Int) (h : QAt tab tv en g B w ws out 0 0) :
    Calls Try.prog 88 #[.pointer (some ⟨g, 0, none⟩), .int .i64 a, .int .i64 e] w fun e' w' => e' = .returned (.tuple #[]) ∧ QAt tab tv en g B w' ws out a e ∧ Mod (rF g B) w w' := by
  have HF := hid (h.fail a e)
  obtain ⟨A, n, c, O, h1, _⟩ := h
  have hg := (Array.getElem?_eq_some_iff.1 h1).1
  obtain ⟨z, zf, _⟩ := cells_of_block h1
  have z4 : w.cell? ⟨g, 4, none⟩ = some (.int .i64 0) := z 4 _ rfl
  have z5 : w.cell? ⟨g, 5, none⟩ = some (.int .i64 0) := z 5 _ rfl
  clear z h1
  go_enter Try.func88, Try.ntmps88
  go_wp2
  go_end0
  exact ⟨rfl, HF.out⟩
set_option maxHeartbeats 1000000 in
set_option maxRecDepth 100000 in
theorem fail_more (tab : List ByteArray) (tv : Value) (en : Int) (g B : Nat) (w : World) (ws : List WordS) (out : List NodeS) (a0 e0 a e : Int) (he0 : e0 ≠ 0) (h : QAt tab tv en g B w ws out a0 e0) :
    Calls Try.prog 88 #[.pointer (some ⟨g, 0, none⟩), .int .i64 a, .int .i64 e] w fun e' w' => e' = .returned (.tuple #[]) ∧ w = w' := by
  obtain ⟨A, n, c, O, h1, _⟩ := h
  obtain ⟨z, zf, _⟩ := cells_of_block h1
  have z5 : w.cell? ⟨g, 5, none⟩ = some (.int .i64 e0) := z 5 _ rfl
  have he : (e0 == (0 : Int)) = false := by simp [he0]
  clear z h1 he0
  go_enter Try.func88, Try.ntmps88
  go_wp2
  go_end0
  exact ⟨rfl, rfl⟩
end Go.Proofs.Yteijgeofimcijaa
