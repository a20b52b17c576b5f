import Derived.Test.YtgedkcglkhleoaaGreatDoorReadP
import Derived.Outline
import Derived.Test.YtgedkcglkhleoaaGreatDoorBase
import Derived.Test.YtgedkcglkhleoaaGreatDoorRef08
import Derived.Test.YtgedkcglkhleoaaGreatDoorRef09
/- siskinref10.Reader: its state; Peek, Here, Fail, All, Any. -/
namespace Go.Proofs.YtgedkcglkhleoaaGreatDoor
open Go.RowKit

def QAt (tab : List ByteArray) (tv : Value) (en : Int) (g B : Nat) (w : World) (ws : List WordS) (out : List NodeS) (at_ er : Int) : Prop :=
  ∃ A n c O, w.heap[g]? = some (.cells #[tv, .slice A n c, .int .i64 en, O, .int .i64 at_, .int .i64 er] 105 (0, 0)) ∧ n = ws.length ∧ ws.length ≤ c ∧ Kd.word.Row w (fun b => b < g) A ws ∧ Own Kd.node 130 w B NoT O out ∧
    Kd.str.slice.K w (fun b => b < g) tab [tv] ∧ g < B ∧ B ≤ w.heap.size ∧ ws.length ≤ 1000 ∧ out.length + ws.length ≤ 100000 ∧ (∀ x ∈ ws, x.text ≠ ⟨#[]⟩)
section
variable {tab : List ByteArray} {tv : Value} {en : Int} {g B : Nat} {w w1 : World} {ws : List WordS} {out : List NodeS} {at_ er : Int}
theorem QAt.below (h : QAt tab tv en g B w ws out at_ er) (hb : Below w.heap.size w w1) : QAt tab tv en g B w1 ws out at_ er := by
  obtain ⟨A, n, c, O, h1, h2, h3, h4, h5, h6, h7, h8, h9⟩ := h
  exact ⟨A, n, c, O, (hb.block g (Array.getElem?_eq_some_iff.1 h1).1).trans h1, h2, h3, Kd.Row.below h4 hb, h5.below hb, Kd.below h6 hb, h7, Nat.le_trans h8 hb.size, h9⟩
theorem QAt.sum (h : QAt tab tv en g B w ws out at_ er) : out.length + ws.length ≤ 100000 := by
  obtain ⟨A, n, c, O, _, _, _, _, _, _, _, _, _, h, _⟩ := h
  exact h
theorem QAt.ne (h : QAt tab tv en g B w ws out at_ er) : ∀ x ∈ ws, x.text ≠ ⟨#[]⟩ := by
  obtain ⟨A, n, c, O, _, _, _, _, _, _, _, _, _, _, h⟩ := h
  exact h
theorem QAt.len (h : QAt tab tv en g B w ws out at_ er) : wLen g w = ws.length := by
  obtain ⟨A, n, c, O, h1, h2, _⟩ := h
  obtain ⟨z, _, _⟩ := cells_of_block h1
  unfold wLen
  rw [show w.cell? ⟨g, 1, none⟩ = some (.slice A n c) from z 1 _ rfl]
  exact h2
/-- A word less. -/
theorem QAt.cut {x : WordS} {r : List WordS} (h : QAt tab tv en g B w (x :: r) out at_ er) : ∃ a n c, w.cell? ⟨g, 1, none⟩ = some (.slice (some a) n c) ∧ (∀ j, w.frozen? ⟨g, j, none⟩ = false) ∧ 1 ≤ n ∧ n ≤ c ∧ g < w.heap.size ∧ ∀ A2 n2 c2, A2 = (if c = 1 then some a else some ⟨a.block, a.off + 2, none⟩) → n2 = n - 1 → c2 = c - 1 →
    QAt tab tv en g B (w.setCell ⟨g, 1, none⟩ (.slice A2 n2 c2)) r out at_ er ∧ Mod (rF g B) w (w.setCell ⟨g, 1, none⟩ (.slice A2 n2 c2)) := by
  obtain ⟨A, n, c, O, h1, h2, h3, h4, h5, h6, h7, h8, h9, h10, h11⟩ := h
  obtain ⟨z, zf, _⟩ := cells_of_block h1
  simp only [List.length_cons] at h2 h3 h9 h10
  obtain ⟨a, rfl, _, _, _, _⟩ := row_word0 h4
  refine ⟨a, n, c, z 1 _ rfl, zf, by omega, by omega, (Array.getElem?_eq_some_iff.1 h1).1, fun A2 n2 c2 hA hn2 hc2 => ?_⟩
  have hm : ∀ b, b < g → b < w.heap.size → (w.setCell ⟨g, 1, none⟩ (.slice A2 n2 c2)).heap[b]? = w.heap[b]? := fun b hb _ => Below.heap_setCell w ⟨g, 1, none⟩ _ b (by show b ≠ g; omega)
  refine ⟨⟨A2, n2, c2, O, heap_set h1 1 _, by omega, by omega, ?_, ?_, ?_, h7, by simpa using h8, by omega, by omega, fun y hy => h11 y (List.mem_cons_of_mem _ hy)⟩, Mod.setCell (Mod.refl _ _) (fun _ => .inl rfl) _⟩
  · have h : Kd.word.Row w (fun b => b < g) (if c = 1 then some a else some ⟨a.block, a.off + 2, none⟩) r := Kd.Row.drop h4 1 c (by simp) (by simpa using h3)
    rw [← hA] at h
    exact h.move (fun b hb hl => hm b hb hl)
  · exact h5.setCell (fun h => h) (fun e => by have := (h5.lt g e).1; omega) _
  · exact Kd.str.slice.move (fun b hb hl => hm b hb hl) h6
/-- A node more. -/
theorem QAt.more {x : NodeS} (h : QAt tab tv en g B w ws out at_ er) (hl : out.length + 1 + ws.length ≤ 100000) : ∃ A n c, w.cell? ⟨g, 3, none⟩ = some (.slice A n c) ∧ g < w.heap.size ∧ B ≤ w.heap.size ∧ out.length ≤ 100000 ∧ Own Kd.node 130 w B NoT (.slice A n c) out ∧
    ∀ v1 w1, Own Kd.node 130 w1 B NoT v1 (out ++ [x]) → Below B w w1 → w.grownBy w1 (Value.slice A n c).ownBlock → (w1.frozen? ⟨g, 3, none⟩ = false ∧ w1.cell? ⟨g, 3, none⟩ = some (.slice A n c)) ∧ QAt tab tv en g B (w1.setCell ⟨g, 3, none⟩ v1) ws (out ++ [x]) at_ er ∧ Mod (rF g B) w (w1.setCell ⟨g, 3, none⟩ v1) := by
  obtain ⟨A, n, c, O, h1, h2, h3, h4, h5, h6, h7, h8, h9, h10, h11⟩ := h
  obtain ⟨z, _, _⟩ := cells_of_block h1
  obtain ⟨B1, m1, c1, rfl, hq1, hq2⟩ := h5.shape'
  refine ⟨B1, m1, c1, z 3 _ rfl, (Array.getElem?_eq_some_iff.1 h1).1, h8, by omega, h5, fun v1 w1 hO hb hg => ?_⟩
  have hg1 := (hb.block g h7).trans h1
  obtain ⟨zc, zf, _⟩ := cells_of_block hg1
  have hm : ∀ b, b < g → b < w.heap.size → (w1.setCell ⟨g, 3, none⟩ v1).heap[b]? = w.heap[b]? := fun b h _ => (Below.heap_setCell w1 ⟨g, 3, none⟩ _ b (by show b ≠ g; omega)).trans (hb.block b (by omega))
  refine ⟨⟨zf 3, zc 3 _ rfl⟩, ⟨A, n, c, v1, heap_set hg1 3 _, h2, h3, h4.move (fun b h hl => hm b h hl), hO.setCell (fun h => h) (fun e => by have := (hO.lt g e).1; omega) _, Kd.str.slice.move (fun b h hl => hm b h hl) h6, h7, ?_, h9, by rw [List.length_append]; simp; omega, h11⟩, ?_⟩
  · have := hb.size
    simp; omega
  · exact Mod.setCell (Mod.grown (Mod.refl _ _) hg (fun k hk _ => .inr (h5.lt k hk).1)) (fun _ => .inl rfl) _
end
def hereI (en : Int) : List WordS → Int
  | [] => en
  | x :: _ => x.at_
set_option maxHeartbeats 1000000 in
set_option maxRecDepth 100000 in
theorem peek10_calls (tab : List ByteArray) (tv : Value) (en : Int) (g B : Nat) (w : World) (ws : List WordS) (out : List NodeS) (h : QAt tab tv en g B w ws out 0 0) :
    Calls Tryz.prog 77 #[.pointer (some ⟨g, 0, none⟩)] w fun e w' => e = .returned (.string (headT ws)) ∧ w = w' := by
  obtain ⟨A, n, c, O, h1, h2, h3, h4, _⟩ := h
  obtain ⟨z, _, _⟩ := cells_of_block h1
  have z1 : w.cell? ⟨g, 1, none⟩ = some (.slice A n c) := z 1 _ rfl
  have z5 : w.cell? ⟨g, 5, none⟩ = some (.int .i64 0) := z 5 _ rfl
  clear z h1
  cases ws with
  | nil =>
    obtain rfl : n = 0 := h2
    clear h4
    go_enter Tryz.func77, Tryz.ntmps77
    go_wp2
    go_ret
    exact ⟨rfl, rfl⟩
  | cons x r =>
    obtain ⟨a, rfl, q0, q1, _, _⟩ := row_word0 h4
    have hn0 : ((n : Int) == 0) = false := by rw [h2, List.length_cons, beq_eq_false_iff_ne]; omega
    have hn1 : (0 : Int) < n := by rw [h2, List.length_cons]; omega
    have hn2 : 0 < n := by omega
    clear h2 h3 h4
    go_enter Tryz.func77, Tryz.ntmps77
    go_wp2
    go_ret
    exact ⟨rfl, rfl⟩
set_option maxHeartbeats 1000000 in
set_option maxRecDepth 100000 in
theorem peek10_bad (tab : List ByteArray) (tv : Value) (en : Int) (g B : Nat) (w : World) (ws : List WordS) (out : List NodeS) (at_ er : Int) (her : er ≠ 0) (h : QAt tab tv en g B w ws out at_ er) :
    Calls Tryz.prog 77 #[.pointer (some ⟨g, 0, none⟩)] w fun e w' => e = .returned (.string ⟨#[]⟩) ∧ w = w' := by
  obtain ⟨A, n, c, O, h1, h2, h3, h4, _⟩ := h
  obtain ⟨z, _, _⟩ := cells_of_block h1
  have z1 : w.cell? ⟨g, 1, none⟩ = some (.slice A n c) := z 1 _ rfl
  have z5 : w.cell? ⟨g, 5, none⟩ = some (.int .i64 er) := z 5 _ rfl
  have he : (er == (0 : Int)) = false := by simp [her]
  clear z h1 h2 h3 h4 her
  go_enter Tryz.func77, Tryz.ntmps77
  by_cases hn : n = 0
  · subst hn
    go_wp2
    go_ret
    exact ⟨rfl, rfl⟩
  · have hn0 : ((n : Int) == 0) = false := by rw [beq_eq_false_iff_ne]; omega
    clear hn
    go_wp2
    go_ret
    exact ⟨rfl, rfl⟩
set_option maxHeartbeats 1000000 in
set_option maxRecDepth 100000 in
theorem here_calls (tab : List ByteArray) (tv : Value) (en : Int) (g B : Nat) (w : World) (ws : List WordS) (out : List NodeS) (at_ er : Int) (h : QAt tab tv en g B w ws out at_ er) :
    Calls Tryz.prog 59 #[.pointer (some ⟨g, 0, none⟩)] w fun e w' => e = .returned (.int .i64 (hereI en ws)) ∧ w = w' := by
  obtain ⟨A, n, c, O, h1, h2, h3, h4, _⟩ := h
  obtain ⟨z, _, _⟩ := cells_of_block h1
  have z1 : w.cell? ⟨g, 1, none⟩ = some (.slice A n c) := z 1 _ rfl
  have z2 : w.cell? ⟨g, 2, none⟩ = some (.int .i64 en) := z 2 _ rfl
  clear z h1
  cases ws with
  | nil =>
    obtain rfl : n = 0 := h2
    clear h4
    go_enter Tryz.func59, Tryz.ntmps59
    go_wp2
    go_ret
    exact ⟨rfl, rfl⟩
  | cons x r =>
    obtain ⟨a, rfl, q0, q1, _, _⟩ := row_word0 h4
    have hn0 : ((n : Int) == 0) = false := by rw [h2, List.length_cons, beq_eq_false_iff_ne]; omega
    have hn1 : (0 : Int) < n := by rw [h2, List.length_cons]; omega
    have hn2 : 0 < n := by omega
    clear h2 h3 h4
    go_enter Tryz.func59, Tryz.ntmps59
    go_wp2
    go_ret
    exact ⟨rfl, rfl⟩
theorem QAt.fail {tab : List ByteArray} {tv : Value} {en : Int} {g B : Nat} {w : World} {ws : List WordS} {out : List NodeS} {at_ er : Int} (h : QAt tab tv en g B w ws out at_ er) (a e : Int) :
    QAt tab tv en g B ((w.setCell ⟨g, 4, none⟩ (.int .i64 a)).setCell ⟨g, 5, none⟩ (.int .i64 e)) ws out a e ∧ Mod (rF g B) w ((w.setCell ⟨g, 4, none⟩ (.int .i64 a)).setCell ⟨g, 5, none⟩ (.int .i64 e)) := by
  obtain ⟨A, n, c, O, h1, h2, h3, h4, h5, h6, h7, h8, h9⟩ := h
  have hm : ∀ b, b < g → b < w.heap.size → ((w.setCell ⟨g, 4, none⟩ (.int .i64 a)).setCell ⟨g, 5, none⟩ (.int .i64 e)).heap[b]? = w.heap[b]? := fun b hb _ => (Below.heap_setCell _ ⟨g, 5, none⟩ _ b (by show b ≠ g; omega)).trans (Below.heap_setCell w ⟨g, 4, none⟩ _ b (by show b ≠ g; omega))
  have ho : ∀ {w' : World} {O : Value}, Own Kd.node 130 w' B NoT O out → O.ownBlock ≠ some g := fun h e => by have := (h.lt g e).1; omega
  have h5a := h5.setCell (p := ⟨g, 4, none⟩) (fun h => h) (ho h5) (.int .i64 a)
  exact ⟨⟨A, n, c, O, heap_set (heap_set h1 4 _) 5 _, h2, h3, h4.move (fun b hb hl => hm b hb hl), h5a.setCell (p := ⟨g, 5, none⟩) (fun h => h) (ho h5a) _, Kd.str.slice.move (fun b hb hl => hm b hb hl) h6, h7, by simpa using h8, h9⟩,
    Mod.setCell (Mod.setCell (Mod.refl _ _) (fun _ => .inl rfl) _) (fun _ => .inl rfl) _⟩
set_option maxHeartbeats 1000000 in
set_option maxRecDepth 100000 in
theorem fail_first (tab : List ByteArray) (tv : Value) (en : Int) (g B : Nat) (w : World) (ws : List WordS) (out : List NodeS) (a e : Int) (h : QAt tab tv en g B w ws out 0 0) :
    Calls Tryz.prog 58 #[.pointer (some ⟨g, 0, none⟩), .int .i64 a, .int .i64 e] w fun e' w' => e' = .returned (.tuple #[]) ∧ QAt tab tv en g B w' ws out a e ∧ Mod (rF g B) w w' := by
  have HF := hid (h.fail a e)
  obtain ⟨A, n, c, O, h1, _⟩ := h
  have hg := (Array.getElem?_eq_some_iff.1 h1).1
  obtain ⟨z, zf, _⟩ := cells_of_block h1
  have z4 : w.cell? ⟨g, 4, none⟩ = some (.int .i64 0) := z 4 _ rfl
  have z5 : w.cell? ⟨g, 5, none⟩ = some (.int .i64 0) := z 5 _ rfl
  clear z h1
  go_enter Tryz.func58, Tryz.ntmps58
  go_wp2
  go_end0
  exact ⟨rfl, HF.out⟩
set_option maxHeartbeats 1000000 in
set_option maxRecDepth 100000 in
theorem fail_more (tab : List ByteArray) (tv : Value) (en : Int) (g B : Nat) (w : World) (ws : List WordS) (out : List NodeS) (a0 e0 a e : Int) (he0 : e0 ≠ 0) (h : QAt tab tv en g B w ws out a0 e0) :
    Calls Tryz.prog 58 #[.pointer (some ⟨g, 0, none⟩), .int .i64 a, .int .i64 e] w fun e' w' => e' = .returned (.tuple #[]) ∧ w = w' := by
  obtain ⟨A, n, c, O, h1, _⟩ := h
  obtain ⟨z, zf, _⟩ := cells_of_block h1
  have z5 : w.cell? ⟨g, 5, none⟩ = some (.int .i64 e0) := z 5 _ rfl
  have he : (e0 == (0 : Int)) = false := by simp [he0]
  clear z h1 he0
  go_enter Tryz.func58, Tryz.ntmps58
  go_wp2
  go_end0
  exact ⟨rfl, rfl⟩
end Go.Proofs.YtgedkcglkhleoaaGreatDoor
/- siskinref10.Reader: All, Any, One. -/
namespace Go.Proofs.YtgedkcglkhleoaaGreatDoor
open Go.RowKit

def ResQ (tab : List ByteArray) (tv : Value) (en : Int) (g B : Nat) (q : Res) (ws : List WordS) (out : List NodeS) (w' : World) : Prop := match q with
  | .ok r o => QAt tab tv en g B w' r o 0 0
  | .bad a er => ∃ r o, QAt tab tv en g B w' r o a er ∧ r.length ≤ ws.length ∧ o.length + r.length ≤ out.length + ws.length
def PartQ (tab : List ByteArray) (tv : Value) (en : Int) (g B : Nat) (F : FuncId) (p : List WordS → List NodeS → Res) (m : Nat) : Prop :=
  ∀ w ws out, ws.length ≤ m → QAt tab tv en g B w ws out 0 0 → Calls Tryz.prog F #[.pointer (some ⟨g, 0, none⟩)] w fun e w' => e = .returned (.tuple #[]) ∧ Mod (rF g B) w w' ∧ ResQ tab tv en g B (p ws out) ws out w'
def LoopQ (tab : List ByteArray) (tv : Value) (en : Int) (g B : Nat) (p : List WordS → List NodeS → Res) (sign : ByteArray) (op : Int) (m : Nat) (ws : List WordS) (out : List NodeS) (w : World) : Prop :=
  ∃ r o a e, QAt tab tv en g B w r o a e ∧ r.length ≤ ws.length ∧ o.length + r.length ≤ out.length + ws.length ∧ ((e = 0 ∧ ∃ k, r.length ≤ k ∧ a = 0 ∧ manyP p sign op m ws out = loopP p sign op k r o) ∨ (e ≠ 0 ∧ manyP p sign op m ws out = .bad a e))
theorem text_ne' {t s : ByteArray} (h : t ≠ s) (l : List UInt8) (hl : s.toList = l) : (t.toList == l) = false := by
  rw [← hl, streq, decide_eq_false h]
set_option maxHeartbeats 4000000 in
set_option maxRecDepth 100000 in
theorem all_q (tab : List ByteArray) (tv : Value) (en : Int) (g B : Nat) (p : List WordS → List NodeS → Res) (m : Nat) (hp : Less p) (hbad : Bad p) (hP : PartQ tab tv en g B 92 p m) : PartQ tab tv en g B 76 (manyP p sAnd 4 m) m := by
  intro w ws out hm h
  have HPART := hid hP
  have HLESS := hid hp
  have HBAD := hid hbad
  have HR := hid h
  have HD := hid (show manyP p sAnd 4 m ws out = match p ws out with | .ok r' out' => loopP p sAnd 4 m r' out' | .bad a e => .bad a e from rfl)
  clear hP hp h hbad
  have hempty : ((⟨#[]⟩ : ByteArray).toList == [38]) = false := by decide +kernel
  go_enter Tryz.func76, Tryz.ntmps76
  go_wp2_with fail
  refine (HPART.out w ws out hm HR.out).mono ?_
  rintro e w1 ⟨rfl, hm1, hq⟩
  have HM1 := hid hm1
  have H0 := hid (show LoopQ tab tv en g B p sAnd 4 m ws out w1 by
    cases hr : p ws out with
    | ok r o =>
      rw [hr] at hq HD
      have := HLESS.out _ _ _ _ hr
      exact ⟨r, o, 0, 0, hq, by omega, by omega, .inl ⟨rfl, m, by omega, rfl, HD.out⟩⟩
    | bad a er =>
      rw [hr] at hq HD
      obtain ⟨r, o, h1, h2, h3⟩ := hq
      exact ⟨r, o, a, er, h1, h2, h3, .inr ⟨HBAD.out _ _ _ _ hr, HD.out⟩⟩)
  clear hm1 hq
  go_wp2
  go_loopw [] (fun wr => Hid (LoopQ tab tv en g B p sAnd 4 m ws out wr) ∧ Hid (Mod (rF g B) w wr)) (fun wr => wLen g wr)
  case atStart => exact ⟨H0, HM1⟩
  case round =>
    obtain ⟨HL, HMM⟩ := hrel
    obtain ⟨r, o, a1, e1, hQ, hrl, hol, hor⟩ := HL.out
    have HQ := hid hQ
    clear hQ
    rcases hor with ⟨rfl, k, hrk, hK⟩ | ⟨he, hK⟩
    · have ha1 : a1 = 0 := hK.1
      subst ha1
      have HK := hid hK.2
      clear hK
      go_wp2_with fail
      refine (peek10_calls tab tv en g B wr r o HQ.out).mono ?_
      rintro e w2 ⟨rfl, rfl⟩
      cases r with
      | nil =>
        rw [show headT [] = ⟨#[]⟩ from rfl]
        have HV := hid (show loopP p sAnd 4 k [] o = .ok [] o by cases k <;> rfl)
        go_wp2
        go_end0
        refine ⟨rfl, HMM.out, ?_⟩
        rw [HK.out, HV.out]
        exact HQ.out
      | cons x r =>
        rw [show headT (x :: r) = x.text from rfl]
        obtain ⟨k', rfl⟩ : ∃ k', k = k' + 1 := ⟨k - 1, by simp only [List.length_cons] at hrk; omega⟩
        by_cases hs : x.text = sAnd
        · have hst : (x.text.toList == [38]) = true := by rw [hs]; decide +kernel
          have HV := hid (show loopP p sAnd 4 (k' + 1) (x :: r) o = match p r o with | .ok r' out' => loopP p sAnd 4 k' r' (out' ++ [⟨4, 0⟩]) | .bad a e => .bad a e by rw [loopP, if_pos hs]; cases p r o <;> rfl)
          obtain ⟨a, n, c, z1, zf, hn1, hnc, hg, hcut⟩ := HQ.out.cut
          have zf1 := zf 1
          clear zf
          have HCUT := hid hcut
          have hn1I : (1 : Int) ≤ n := by omega
          have hsum := HQ.out.sum
          have hlen := HQ.out.len
          simp only [List.length_cons] at hsum hrk hrl hol hlen
          clear hs hcut
          by_cases hc1 : c = 1
          · subst hc1
            obtain rfl : n = 1 := by omega
            obtain ⟨V, hV⟩ : ∃ V, V = wr.setCell ⟨g, 1, none⟩ (.slice (some a) 0 0) := ⟨_, rfl⟩
            have HX := hid (show QAt tab tv en g B V r o 0 0 ∧ Mod (rF g B) wr V by rw [hV]; exact HCUT.out (some a) 0 0 (by simp) rfl rfl)
            have HVV := hid hV
            clear hV
            go_wp2_with fail
            rw [← HVV.out]
            refine (HPART.out V r o (by omega) HX.out.1).mono ?_
            rintro e w3 ⟨rfl, hm3, hq3⟩
            have HM3 := hid (rF_trans (rF_trans HMM.out HX.out.2) hm3)
            obtain ⟨r3, o3, a3, e3, hQ3, hl3, hs3, hor3⟩ : ∃ r3 o3 a3 e3, QAt tab tv en g B w3 r3 o3 a3 e3 ∧ r3.length ≤ r.length ∧ o3.length + r3.length ≤ o.length + r.length ∧ ((e3 = 0 ∧ a3 = 0 ∧ manyP p sAnd 4 m ws out = loopP p sAnd 4 k' r3 (o3 ++ [⟨4, 0⟩])) ∨ (e3 ≠ 0 ∧ manyP p sAnd 4 m ws out = .bad a3 e3)) := by
              cases hr : p r o with
              | ok r' o' =>
                rw [hr] at hq3 HV
                have := HLESS.out _ _ _ _ hr
                exact ⟨r', o', 0, 0, hq3, this.1, this.2, .inl ⟨rfl, rfl, HK.out.trans HV.out⟩⟩
              | bad a er =>
                rw [hr] at hq3 HV
                obtain ⟨r', o', k1, k2, k3⟩ := hq3
                exact ⟨r', o', a, er, k1, k2, k3, .inr ⟨HBAD.out _ _ _ _ hr, HK.out.trans HV.out⟩⟩
            have HOR := hid hor3
            have HQ3 := hid hQ3
            clear hm3 hq3 hor3 hQ3
            obtain ⟨A3, n3, c3, y3, yg, yB, yo, yO, ymore⟩ := HQ3.out.more (x := ⟨4, 0⟩) (by omega)
            have HMORE := hid ymore
            have HO3 := hid yO
            clear ymore yO
            go_wp2_with (at_builtin; go_must (refine append_arm Kd.node (w0 := w3) B rfl _ _ 79 130 _ 16 rfl Tryz.underlying79 Tryz.infoNode rfl (by decide) (by decide) (.slice A3 n3 c3) o3 ⟨4, 0⟩ [.int .i64 4, .int .i64 0] NoT NoT rfl rfl rfl (fun _ h => h.elim) HO3.out (Below.refl _ _) yB (by omega) ?_))
            intro v1 w4 hO4 hb4 hg4 _
            obtain ⟨A4, n4, c4, rfl, hx1, hx2⟩ := hO4.shape'
            obtain ⟨⟨f43, f44⟩, q4, m4⟩ := HMORE.out _ w4 hO4 hb4 hg4
            have HQ4 := hid q4
            have HM4 := hid (rF_trans HM3.out m4)
            have HLEN := hid (show wLen g (w4.setCell ⟨g, 3, none⟩ (.slice A4 n4 c4)) < wLen g wr by rw [q4.len, hlen]; omega)
            clear q4 m4 hx1 hx2 hO4 hb4 hg4
            go_wp2
            go_roundw
            case rel =>
              refine ⟨hid ⟨r3, _, a3, e3, HQ4.out, by omega, by rw [List.length_append]; simp; omega, ?_⟩, HM4⟩
              rcases HOR.out with ⟨g1, g2, g3⟩ | g1
              · exact .inl ⟨g1, k', by omega, g2, g3⟩
              · exact .inr g1
            case measure => exact HLEN.out
          · obtain ⟨V, hV⟩ : ∃ V, V = wr.setCell ⟨g, 1, none⟩ (.slice (some ⟨a.block, a.off + 2, none⟩) (n - 1) (c - 1)) := ⟨_, rfl⟩
            have HX := hid (show QAt tab tv en g B V r o 0 0 ∧ Mod (rF g B) wr V by rw [hV]; exact HCUT.out _ (n - 1) (c - 1) (by rw [if_neg hc1]) rfl rfl)
            have HVV := hid hV
            clear hV
            go_wp2_with fail
            rw [← HVV.out]
            refine (HPART.out V r o (by omega) HX.out.1).mono ?_
            rintro e w3 ⟨rfl, hm3, hq3⟩
            have HM3 := hid (rF_trans (rF_trans HMM.out HX.out.2) hm3)
            obtain ⟨r3, o3, a3, e3, hQ3, hl3, hs3, hor3⟩ : ∃ r3 o3 a3 e3, QAt tab tv en g B w3 r3 o3 a3 e3 ∧ r3.length ≤ r.length ∧ o3.length + r3.length ≤ o.length + r.length ∧ ((e3 = 0 ∧ a3 = 0 ∧ manyP p sAnd 4 m ws out = loopP p sAnd 4 k' r3 (o3 ++ [⟨4, 0⟩])) ∨ (e3 ≠ 0 ∧ manyP p sAnd 4 m ws out = .bad a3 e3)) := by
              cases hr : p r o with
              | ok r' o' =>
                rw [hr] at hq3 HV
                have := HLESS.out _ _ _ _ hr
                exact ⟨r', o', 0, 0, hq3, this.1, this.2, .inl ⟨rfl, rfl, HK.out.trans HV.out⟩⟩
              | bad a er =>
                rw [hr] at hq3 HV
                obtain ⟨r', o', k1, k2, k3⟩ := hq3
                exact ⟨r', o', a, er, k1, k2, k3, .inr ⟨HBAD.out _ _ _ _ hr, HK.out.trans HV.out⟩⟩
            have HOR := hid hor3
            have HQ3 := hid hQ3
            clear hm3 hq3 hor3 hQ3
            obtain ⟨A3, n3, c3, y3, yg, yB, yo, yO, ymore⟩ := HQ3.out.more (x := ⟨4, 0⟩) (by omega)
            have HMORE := hid ymore
            have HO3 := hid yO
            clear ymore yO
            go_wp2_with (at_builtin; go_must (refine append_arm Kd.node (w0 := w3) B rfl _ _ 79 130 _ 16 rfl Tryz.underlying79 Tryz.infoNode rfl (by decide) (by decide) (.slice A3 n3 c3) o3 ⟨4, 0⟩ [.int .i64 4, .int .i64 0] NoT NoT rfl rfl rfl (fun _ h => h.elim) HO3.out (Below.refl _ _) yB (by omega) ?_))
            intro v1 w4 hO4 hb4 hg4 _
            obtain ⟨A4, n4, c4, rfl, hx1, hx2⟩ := hO4.shape'
            obtain ⟨⟨f43, f44⟩, q4, m4⟩ := HMORE.out _ w4 hO4 hb4 hg4
            have HQ4 := hid q4
            have HM4 := hid (rF_trans HM3.out m4)
            have HLEN := hid (show wLen g (w4.setCell ⟨g, 3, none⟩ (.slice A4 n4 c4)) < wLen g wr by rw [q4.len, hlen]; omega)
            clear q4 m4 hx1 hx2 hO4 hb4 hg4
            go_wp2
            go_roundw
            case rel =>
              refine ⟨hid ⟨r3, _, a3, e3, HQ4.out, by omega, by rw [List.length_append]; simp; omega, ?_⟩, HM4⟩
              rcases HOR.out with ⟨g1, g2, g3⟩ | g1
              · exact .inl ⟨g1, k', by omega, g2, g3⟩
              · exact .inr g1
            case measure => exact HLEN.out
        · have hst := text_ne' hs [38] (by decide +kernel)
          have HV := hid (show loopP p sAnd 4 (k' + 1) (x :: r) o = .ok (x :: r) o by rw [loopP, if_neg hs])
          clear hs
          go_wp2
          go_end0
          refine ⟨rfl, HMM.out, ?_⟩
          rw [HK.out, HV.out]
          exact HQ.out
    · have HK := hid hK
      go_wp2_with fail
      refine (peek10_bad tab tv en g B wr r o a1 e1 he HQ.out).mono ?_
      rintro e w2 ⟨rfl, rfl⟩
      go_wp2
      go_end0
      refine ⟨rfl, HMM.out, ?_⟩
      rw [HK.out]
      exact ⟨r, o, HQ.out, hrl, hol⟩
set_option maxHeartbeats 4000000 in
set_option maxRecDepth 100000 in
theorem any_q (tab : List ByteArray) (tv : Value) (en : Int) (g B : Nat) (p : List WordS → List NodeS → Res) (m : Nat) (hp : Less p) (hbad : Bad p) (hP : PartQ tab tv en g B 76 p m) : PartQ tab tv en g B 57 (manyP p sOr 5 m) m := by
  intro w ws out hm h
  have HPART := hid hP
  have HLESS := hid hp
  have HBAD := hid hbad
  have HR := hid h
  have HD := hid (show manyP p sOr 5 m ws out = match p ws out with | .ok r' out' => loopP p sOr 5 m r' out' | .bad a e => .bad a e from rfl)
  clear hP hp h hbad
  have hempty : ((⟨#[]⟩ : ByteArray).toList == [124]) = false := by decide +kernel
  go_enter Tryz.func57, Tryz.ntmps57
  go_wp2_with fail
  refine (HPART.out w ws out hm HR.out).mono ?_
  rintro e w1 ⟨rfl, hm1, hq⟩
  have HM1 := hid hm1
  have H0 := hid (show LoopQ tab tv en g B p sOr 5 m ws out w1 by
    cases hr : p ws out with
    | ok r o =>
      rw [hr] at hq HD
      have := HLESS.out _ _ _ _ hr
      exact ⟨r, o, 0, 0, hq, by omega, by omega, .inl ⟨rfl, m, by omega, rfl, HD.out⟩⟩
    | bad a er =>
      rw [hr] at hq HD
      obtain ⟨r, o, h1, h2, h3⟩ := hq
      exact ⟨r, o, a, er, h1, h2, h3, .inr ⟨HBAD.out _ _ _ _ hr, HD.out⟩⟩)
  clear hm1 hq
  go_wp2
  go_loopw [] (fun wr => Hid (LoopQ tab tv en g B p sOr 5 m ws out wr) ∧ Hid (Mod (rF g B) w wr)) (fun wr => wLen g wr)
  case atStart => exact ⟨H0, HM1⟩
  case round =>
    obtain ⟨HL, HMM⟩ := hrel
    obtain ⟨r, o, a1, e1, hQ, hrl, hol, hor⟩ := HL.out
    have HQ := hid hQ
    clear hQ
    rcases hor with ⟨rfl, k, hrk, hK⟩ | ⟨he, hK⟩
    · have ha1 : a1 = 0 := hK.1
      subst ha1
      have HK := hid hK.2
      clear hK
      go_wp2_with fail
      refine (peek10_calls tab tv en g B wr r o HQ.out).mono ?_
      rintro e w2 ⟨rfl, rfl⟩
      cases r with
      | nil =>
        rw [show headT [] = ⟨#[]⟩ from rfl]
        have HV := hid (show loopP p sOr 5 k [] o = .ok [] o by cases k <;> rfl)
        go_wp2
        go_end0
        refine ⟨rfl, HMM.out, ?_⟩
        rw [HK.out, HV.out]
        exact HQ.out
      | cons x r =>
        rw [show headT (x :: r) = x.text from rfl]
        obtain ⟨k', rfl⟩ : ∃ k', k = k' + 1 := ⟨k - 1, by simp only [List.length_cons] at hrk; omega⟩
        by_cases hs : x.text = sOr
        · have hst : (x.text.toList == [124]) = true := by rw [hs]; decide +kernel
          have HV := hid (show loopP p sOr 5 (k' + 1) (x :: r) o = match p r o with | .ok r' out' => loopP p sOr 5 k' r' (out' ++ [⟨5, 0⟩]) | .bad a e => .bad a e by rw [loopP, if_pos hs]; cases p r o <;> rfl)
          obtain ⟨a, n, c, z1, zf, hn1, hnc, hg, hcut⟩ := HQ.out.cut
          have zf1 := zf 1
          clear zf
          have HCUT := hid hcut
          have hn1I : (1 : Int) ≤ n := by omega
          have hsum := HQ.out.sum
          have hlen := HQ.out.len
          simp only [List.length_cons] at hsum hrk hrl hol hlen
          clear hs hcut
          by_cases hc1 : c = 1
          · subst hc1
            obtain rfl : n = 1 := by omega
            obtain ⟨V, hV⟩ : ∃ V, V = wr.setCell ⟨g, 1, none⟩ (.slice (some a) 0 0) := ⟨_, rfl⟩
            have HX := hid (show QAt tab tv en g B V r o 0 0 ∧ Mod (rF g B) wr V by rw [hV]; exact HCUT.out (some a) 0 0 (by simp) rfl rfl)
            have HVV := hid hV
            clear hV
            go_wp2_with fail
            rw [← HVV.out]
            refine (HPART.out V r o (by omega) HX.out.1).mono ?_
            rintro e w3 ⟨rfl, hm3, hq3⟩
            have HM3 := hid (rF_trans (rF_trans HMM.out HX.out.2) hm3)
            obtain ⟨r3, o3, a3, e3, hQ3, hl3, hs3, hor3⟩ : ∃ r3 o3 a3 e3, QAt tab tv en g B w3 r3 o3 a3 e3 ∧ r3.length ≤ r.length ∧ o3.length + r3.length ≤ o.length + r.length ∧ ((e3 = 0 ∧ a3 = 0 ∧ manyP p sOr 5 m ws out = loopP p sOr 5 k' r3 (o3 ++ [⟨5, 0⟩])) ∨ (e3 ≠ 0 ∧ manyP p sOr 5 m ws out = .bad a3 e3)) := by
              cases hr : p r o with
              | ok r' o' =>
                rw [hr] at hq3 HV
                have := HLESS.out _ _ _ _ hr
                exact ⟨r', o', 0, 0, hq3, this.1, this.2, .inl ⟨rfl, rfl, HK.out.trans HV.out⟩⟩
              | bad a er =>
                rw [hr] at hq3 HV
                obtain ⟨r', o', k1, k2, k3⟩ := hq3
                exact ⟨r', o', a, er, k1, k2, k3, .inr ⟨HBAD.out _ _ _ _ hr, HK.out.trans HV.out⟩⟩
            have HOR := hid hor3
            have HQ3 := hid hQ3
            clear hm3 hq3 hor3 hQ3
            obtain ⟨A3, n3, c3, y3, yg, yB, yo, yO, ymore⟩ := HQ3.out.more (x := ⟨5, 0⟩) (by omega)
            have HMORE := hid ymore
            have HO3 := hid yO
            clear ymore yO
            go_wp2_with (at_builtin; go_must (refine append_arm Kd.node (w0 := w3) B rfl _ _ 79 130 _ 16 rfl Tryz.underlying79 Tryz.infoNode rfl (by decide) (by decide) (.slice A3 n3 c3) o3 ⟨5, 0⟩ [.int .i64 5, .int .i64 0] NoT NoT rfl rfl rfl (fun _ h => h.elim) HO3.out (Below.refl _ _) yB (by omega) ?_))
            intro v1 w4 hO4 hb4 hg4 _
            obtain ⟨A4, n4, c4, rfl, hx1, hx2⟩ := hO4.shape'
            obtain ⟨⟨f43, f44⟩, q4, m4⟩ := HMORE.out _ w4 hO4 hb4 hg4
            have HQ4 := hid q4
            have HM4 := hid (rF_trans HM3.out m4)
            have HLEN := hid (show wLen g (w4.setCell ⟨g, 3, none⟩ (.slice A4 n4 c4)) < wLen g wr by rw [q4.len, hlen]; omega)
            clear q4 m4 hx1 hx2 hO4 hb4 hg4
            go_wp2
            go_roundw
            case rel =>
              refine ⟨hid ⟨r3, _, a3, e3, HQ4.out, by omega, by rw [List.length_append]; simp; omega, ?_⟩, HM4⟩
              rcases HOR.out with ⟨g1, g2, g3⟩ | g1
              · exact .inl ⟨g1, k', by omega, g2, g3⟩
              · exact .inr g1
            case measure => exact HLEN.out
          · obtain ⟨V, hV⟩ : ∃ V, V = wr.setCell ⟨g, 1, none⟩ (.slice (some ⟨a.block, a.off + 2, none⟩) (n - 1) (c - 1)) := ⟨_, rfl⟩
            have HX := hid (show QAt tab tv en g B V r o 0 0 ∧ Mod (rF g B) wr V by rw [hV]; exact HCUT.out _ (n - 1) (c - 1) (by rw [if_neg hc1]) rfl rfl)
            have HVV := hid hV
            clear hV
            go_wp2_with fail
            rw [← HVV.out]
            refine (HPART.out V r o (by omega) HX.out.1).mono ?_
            rintro e w3 ⟨rfl, hm3, hq3⟩
            have HM3 := hid (rF_trans (rF_trans HMM.out HX.out.2) hm3)
            obtain ⟨r3, o3, a3, e3, hQ3, hl3, hs3, hor3⟩ : ∃ r3 o3 a3 e3, QAt tab tv en g B w3 r3 o3 a3 e3 ∧ r3.length ≤ r.length ∧ o3.length + r3.length ≤ o.length + r.length ∧ ((e3 = 0 ∧ a3 = 0 ∧ manyP p sOr 5 m ws out = loopP p sOr 5 k' r3 (o3 ++ [⟨5, 0⟩])) ∨ (e3 ≠ 0 ∧ manyP p sOr 5 m ws out = .bad a3 e3)) := by
              cases hr : p r o with
              | ok r' o' =>
                rw [hr] at hq3 HV
                have := HLESS.out _ _ _ _ hr
                exact ⟨r', o', 0, 0, hq3, this.1, this.2, .inl ⟨rfl, rfl, HK.out.trans HV.out⟩⟩
              | bad a er =>
                rw [hr] at hq3 HV
                obtain ⟨r', o', k1, k2, k3⟩ := hq3
                exact ⟨r', o', a, er, k1, k2, k3, .inr ⟨HBAD.out _ _ _ _ hr, HK.out.trans HV.out⟩⟩
            have HOR := hid hor3
            have HQ3 := hid hQ3
            clear hm3 hq3 hor3 hQ3
            obtain ⟨A3, n3, c3, y3, yg, yB, yo, yO, ymore⟩ := HQ3.out.more (x := ⟨5, 0⟩) (by omega)
            have HMORE := hid ymore
            have HO3 := hid yO
            clear ymore yO
            go_wp2_with (at_builtin; go_must (refine append_arm Kd.node (w0 := w3) B rfl _ _ 79 130 _ 16 rfl Tryz.underlying79 Tryz.infoNode rfl (by decide) (by decide) (.slice A3 n3 c3) o3 ⟨5, 0⟩ [.int .i64 5, .int .i64 0] NoT NoT rfl rfl rfl (fun _ h => h.elim) HO3.out (Below.refl _ _) yB (by omega) ?_))
            intro v1 w4 hO4 hb4 hg4 _
            obtain ⟨A4, n4, c4, rfl, hx1, hx2⟩ := hO4.shape'
            obtain ⟨⟨f43, f44⟩, q4, m4⟩ := HMORE.out _ w4 hO4 hb4 hg4
            have HQ4 := hid q4
            have HM4 := hid (rF_trans HM3.out m4)
            have HLEN := hid (show wLen g (w4.setCell ⟨g, 3, none⟩ (.slice A4 n4 c4)) < wLen g wr by rw [q4.len, hlen]; omega)
            clear q4 m4 hx1 hx2 hO4 hb4 hg4
            go_wp2
            go_roundw
            case rel =>
              refine ⟨hid ⟨r3, _, a3, e3, HQ4.out, by omega, by rw [List.length_append]; simp; omega, ?_⟩, HM4⟩
              rcases HOR.out with ⟨g1, g2, g3⟩ | g1
              · exact .inl ⟨g1, k', by omega, g2, g3⟩
              · exact .inr g1
            case measure => exact HLEN.out
        · have hst := text_ne' hs [124] (by decide +kernel)
          have HV := hid (show loopP p sOr 5 (k' + 1) (x :: r) o = .ok (x :: r) o by rw [loopP, if_neg hs])
          clear hs
          go_wp2
          go_end0
          refine ⟨rfl, HMM.out, ?_⟩
          rw [HK.out, HV.out]
          exact HQ.out
    · have HK := hid hK
      go_wp2_with fail
      refine (peek10_bad tab tv en g B wr r o a1 e1 he HQ.out).mono ?_
      rintro e w2 ⟨rfl, rfl⟩
      go_wp2
      go_end0
      refine ⟨rfl, HMM.out, ?_⟩
      rw [HK.out]
      exact ⟨r, o, HQ.out, hrl, hol⟩
end Go.Proofs.YtgedkcglkhleoaaGreatDoor
/- siskinref10.Reader.One. -/
namespace Go.Proofs.YtgedkcglkhleoaaGreatDoor
open Go.RowKit

set_option maxHeartbeats 1000000 in
set_option maxRecDepth 100000 in
theorem one_nil (tab : List ByteArray) (tv : Value) (en : Int) (g B : Nat) (w : World) (out : List NodeS) (h : QAt tab tv en g B w [] out 0 0) : Calls Tryz.prog 92 #[.pointer (some ⟨g, 0, none⟩)] w fun e w' => e = .returned (.tuple #[]) ∧ Mod (rF g B) w w' ∧ ResQ tab tv en g B (.bad en 3) [] out w' := by
  have HQ := hid h
  clear h
  go_enter Tryz.func92, Tryz.ntmps92
  go_wp2_with fail
  refine (peek10_calls tab tv en g B w [] out HQ.out).mono ?_
  rintro e w2 ⟨rfl, rfl⟩
  rw [show headT [] = ⟨#[]⟩ from rfl]
  go_wp2_with fail
  refine (here_calls tab tv en g B w [] out 0 0 HQ.out).mono ?_
  rintro e w5 ⟨rfl, rfl⟩
  rw [show hereI en [] = en from rfl]
  go_wp2_with fail
  refine (fail_first tab tv en g B w [] out en 3 HQ.out).mono ?_
  rintro e w5 ⟨rfl, hq5, hm5⟩
  have HQ5 := hid hq5
  have HM5 := hid hm5
  clear hq5 hm5
  go_wp2
  (first | go_end0 | refine bodyPost_ret (results_none rfl _ _ _) rfl ?_)
  exact ⟨rfl, HM5.out, [], out, HQ5.out, Nat.le_refl _, Nat.le_refl _⟩
set_option maxHeartbeats 1000000 in
set_option maxRecDepth 100000 in
theorem one_sign (tab : List ByteArray) (tv : Value) (en : Int) (g B : Nat) (w : World) (x : WordS) (r : List WordS) (out : List NodeS) (hx : x.text = sShut ∨ x.text = sAnd ∨ x.text = sOr) (h : QAt tab tv en g B w (x :: r) out 0 0) : Calls Tryz.prog 92 #[.pointer (some ⟨g, 0, none⟩)] w fun e w' => e = .returned (.tuple #[]) ∧ Mod (rF g B) w w' ∧ ResQ tab tv en g B (.bad x.at_ 3) (x :: r) out w' := by
  have HQ := hid h
  clear h
  obtain ⟨tx, ax⟩ := x
  simp only at hx ⊢
  rcases hx with rfl | rfl | rfl
  all_goals
    go_enter Tryz.func92, Tryz.ntmps92
    go_wp2_with fail
    refine (peek10_calls tab tv en g B w _ out HQ.out).mono ?_
    rintro e w2 ⟨rfl, rfl⟩
    simp only [headT]
    first | rw [show sShut = ⟨#[41]⟩ from rfl] at * | rw [show sAnd = ⟨#[38]⟩ from rfl] at * | rw [show sOr = ⟨#[124]⟩ from rfl] at *
    go_wp2_with fail
    refine (here_calls tab tv en g B w _ out 0 0 HQ.out).mono ?_
    rintro e w5 ⟨rfl, rfl⟩
    simp only [hereI]
    go_wp2_with fail
    refine (fail_first tab tv en g B w _ out ax 3 HQ.out).mono ?_
    rintro e w5 ⟨rfl, hq5, hm5⟩
    have HQ5 := hid hq5
    have HM5 := hid hm5
    clear hq5 hm5
    go_wp2
    (first | go_end0 | refine bodyPost_ret (results_none rfl _ _ _) rfl ?_)
    exact ⟨rfl, HM5.out, _, out, HQ5.out, Nat.le_refl _, Nat.le_refl _⟩
set_option maxHeartbeats 4000000 in
set_option maxRecDepth 100000 in
theorem one_not (tab : List ByteArray) (tv : Value) (en : Int) (g B : Nat) (f : Nat) (hP : PartQ tab tv en g B 92 (oneP tab en f) f) (w : World) (ax : Int) (r : List WordS) (out : List NodeS) (hm : r.length ≤ f) (h : QAt tab tv en g B w (⟨sNot, ax⟩ :: r) out 0 0) : Calls Tryz.prog 92 #[.pointer (some ⟨g, 0, none⟩)] w fun e w' => e = .returned (.tuple #[]) ∧ Mod (rF g B) w w' ∧ ResQ tab tv en g B (oneP tab en (f + 1) (⟨sNot, ax⟩ :: r) out) (⟨sNot, ax⟩ :: r) out w' := by
  have HQ := hid h
  have HPART := hid hP
  have hsum := h.sum
  simp only [List.length_cons] at hsum
  have HD := hid (show oneP tab en (f + 1) (⟨sNot, ax⟩ :: r) out = (oneP tab en f r out).put 3 0 by rw [oneP, if_pos rfl])
  clear h hP
  go_enter Tryz.func92, Tryz.ntmps92
  go_wp2_with fail
  refine (peek10_calls tab tv en g B w _ out HQ.out).mono ?_
  rintro e w2 ⟨rfl, rfl⟩
  simp only [headT]
  rw [show sNot = ⟨#[33]⟩ from rfl]
  go_wp2_with fail
  refine (here_calls tab tv en g B w _ out 0 0 HQ.out).mono ?_
  rintro e w5 ⟨rfl, rfl⟩
  simp only [hereI]
  obtain ⟨a, n, c, z1, zf, hn1, hnc, hg, hcut⟩ := HQ.out.cut
  have zf1 := zf 1
  have HCUT := hid hcut
  have hn1I : (1 : Int) ≤ n := by omega
  clear zf hcut
  by_cases hc1 : c = 1
  · subst hc1
    obtain rfl : n = 1 := by omega
    obtain ⟨V, hV⟩ : ∃ V, V = World.setCell w ⟨g, 1, none⟩ (.slice (some a) 0 0) := ⟨_, rfl⟩
    have HX := hid (show QAt tab tv en g B V r out 0 0 ∧ Mod (rF g B) w V by rw [hV]; exact HCUT.out (some a) 0 0 (by simp) rfl rfl)
    have HVV := hid hV
    clear hV HCUT
    go_wp2_with fail
    rw [← HVV.out]
    refine (HPART.out V r out (by omega) HX.out.1).mono ?_
    rintro e w3 ⟨rfl, hm3, hq3⟩
    have HM3 := hid (rF_trans HX.out.2 hm3)
    obtain ⟨r3, o3, a3, e3, hQ3, hl3, hs3, hor3⟩ : ∃ r3 o3 a3 e3, QAt tab tv en g B w3 r3 o3 a3 e3 ∧ r3.length ≤ r.length ∧ o3.length + r3.length ≤ out.length + r.length ∧ ((e3 = 0 ∧ a3 = 0 ∧ oneP tab en f r out = .ok r3 o3) ∨ (e3 ≠ 0 ∧ oneP tab en f r out = .bad a3 e3)) := by
      cases hr : oneP tab en f r out with
      | ok r' o' =>
        rw [hr] at hq3
        have := oneP_less tab en f _ _ _ _ hr
        exact ⟨r', o', 0, 0, hq3, this.1, this.2, .inl ⟨rfl, rfl, rfl⟩⟩
      | bad a er =>
        rw [hr] at hq3
        obtain ⟨r', o', k1, k2, k3⟩ := hq3
        exact ⟨r', o', a, er, k1, k2, k3, .inr ⟨oneP_bad tab en f _ _ _ _ hr, rfl⟩⟩
    have HOR := hid hor3
    have HQ3 := hid hQ3
    clear hm3 hq3 hor3 hQ3
    obtain ⟨A3, n3, c3, y3, yg, yB, yo, yO, ymore⟩ := HQ3.out.more (x := ⟨3, 0⟩) (by omega)
    have HMORE := hid ymore
    have HO3 := hid yO
    clear ymore yO
    go_wp2_with (at_builtin; go_must (refine append_arm Kd.node (w0 := w3) B rfl _ _ 79 130 _ 16 rfl Tryz.underlying79 Tryz.infoNode rfl (by decide) (by decide) (.slice A3 n3 c3) o3 ⟨3, 0⟩ [.int .i64 (3), .int .i64 (0)] NoT NoT rfl rfl rfl (fun _ h => h.elim) HO3.out (Below.refl _ _) yB (by omega) ?_))
    intro v1 w4 hO4 hb4 hg4 _
    obtain ⟨A4, n4, c4, rfl, hx1, hx2⟩ := hO4.shape'
    obtain ⟨⟨f43, f44⟩, q4, m4⟩ := HMORE.out _ w4 hO4 hb4 hg4
    have HQ4 := hid q4
    have HM4 := hid (rF_trans HM3.out m4)
    clear q4 m4 hx1 hx2 hO4 hb4 hg4
    go_wp2
    (first | go_end0 | refine bodyPost_ret (results_none rfl _ _ _) rfl ?_)
    refine ⟨rfl, HM4.out, ?_⟩
    rcases HOR.out with ⟨g1, g2, g3⟩ | ⟨g1, g3⟩
    · subst g1; subst g2
      rw [HD.out, g3]
      exact HQ4.out
    · rw [HD.out, g3]
      exact ⟨r3, _, HQ4.out, by simp only [List.length_cons]; omega, by rw [List.length_append]; simp only [List.length_cons, List.length_nil]; omega⟩
  · obtain ⟨V, hV⟩ : ∃ V, V = World.setCell w ⟨g, 1, none⟩ (.slice (some ⟨a.block, a.off + 2, none⟩) (n - 1) (c - 1)) := ⟨_, rfl⟩
    have HX := hid (show QAt tab tv en g B V r out 0 0 ∧ Mod (rF g B) w V by rw [hV]; exact HCUT.out _ (n - 1) (c - 1) (by rw [if_neg hc1]) rfl rfl)
    have HVV := hid hV
    clear hV HCUT
    go_wp2_with fail
    rw [← HVV.out]
    refine (HPART.out V r out (by omega) HX.out.1).mono ?_
    rintro e w3 ⟨rfl, hm3, hq3⟩
    have HM3 := hid (rF_trans HX.out.2 hm3)
    obtain ⟨r3, o3, a3, e3, hQ3, hl3, hs3, hor3⟩ : ∃ r3 o3 a3 e3, QAt tab tv en g B w3 r3 o3 a3 e3 ∧ r3.length ≤ r.length ∧ o3.length + r3.length ≤ out.length + r.length ∧ ((e3 = 0 ∧ a3 = 0 ∧ oneP tab en f r out = .ok r3 o3) ∨ (e3 ≠ 0 ∧ oneP tab en f r out = .bad a3 e3)) := by
      cases hr : oneP tab en f r out with
      | ok r' o' =>
        rw [hr] at hq3
        have := oneP_less tab en f _ _ _ _ hr
        exact ⟨r', o', 0, 0, hq3, this.1, this.2, .inl ⟨rfl, rfl, rfl⟩⟩
      | bad a er =>
        rw [hr] at hq3
        obtain ⟨r', o', k1, k2, k3⟩ := hq3
        exact ⟨r', o', a, er, k1, k2, k3, .inr ⟨oneP_bad tab en f _ _ _ _ hr, rfl⟩⟩
    have HOR := hid hor3
    have HQ3 := hid hQ3
    clear hm3 hq3 hor3 hQ3
    obtain ⟨A3, n3, c3, y3, yg, yB, yo, yO, ymore⟩ := HQ3.out.more (x := ⟨3, 0⟩) (by omega)
    have HMORE := hid ymore
    have HO3 := hid yO
    clear ymore yO
    go_wp2_with (at_builtin; go_must (refine append_arm Kd.node (w0 := w3) B rfl _ _ 79 130 _ 16 rfl Tryz.underlying79 Tryz.infoNode rfl (by decide) (by decide) (.slice A3 n3 c3) o3 ⟨3, 0⟩ [.int .i64 (3), .int .i64 (0)] NoT NoT rfl rfl rfl (fun _ h => h.elim) HO3.out (Below.refl _ _) yB (by omega) ?_))
    intro v1 w4 hO4 hb4 hg4 _
    obtain ⟨A4, n4, c4, rfl, hx1, hx2⟩ := hO4.shape'
    obtain ⟨⟨f43, f44⟩, q4, m4⟩ := HMORE.out _ w4 hO4 hb4 hg4
    have HQ4 := hid q4
    have HM4 := hid (rF_trans HM3.out m4)
    clear q4 m4 hx1 hx2 hO4 hb4 hg4
    go_wp2
    (first | go_end0 | refine bodyPost_ret (results_none rfl _ _ _) rfl ?_)
    refine ⟨rfl, HM4.out, ?_⟩
    rcases HOR.out with ⟨g1, g2, g3⟩ | ⟨g1, g3⟩
    · subst g1; subst g2
      rw [HD.out, g3]
      exact HQ4.out
    · rw [HD.out, g3]
      exact ⟨r3, _, HQ4.out, by simp only [List.length_cons]; omega, by rw [List.length_append]; simp only [List.length_cons, List.length_nil]; omega⟩
end Go.Proofs.YtgedkcglkhleoaaGreatDoor
/- siskinref10.Reader.One: the rest of its cases; One, Any. -/
namespace Go.Proofs.YtgedkcglkhleoaaGreatDoor
open Go.RowKit

set_option maxHeartbeats 4000000 in
set_option maxRecDepth 100000 in
theorem one_yes (tab : List ByteArray) (tv : Value) (en : Int) (g B : Nat) (w : World) (ax : Int) (r : List WordS) (out : List NodeS) (h : QAt tab tv en g B w (⟨sYes, ax⟩ :: r) out 0 0) : Calls Tryz.prog 92 #[.pointer (some ⟨g, 0, none⟩)] w fun e w' => e = .returned (.tuple #[]) ∧ Mod (rF g B) w w' ∧ ResQ tab tv en g B (.ok r (out ++ [⟨1, 0⟩])) (⟨sYes, ax⟩ :: r) out w' := by
  have HQ := hid h
  have hsum := h.sum
  simp only [List.length_cons] at hsum
  clear h
  go_enter Tryz.func92, Tryz.ntmps92
  go_wp2_with fail
  refine (peek10_calls tab tv en g B w _ out HQ.out).mono ?_
  rintro e w2 ⟨rfl, rfl⟩
  simp only [headT]
  rw [show sYes = ⟨#[42]⟩ from rfl]
  go_wp2_with fail
  refine (here_calls tab tv en g B w _ out 0 0 HQ.out).mono ?_
  rintro e w5 ⟨rfl, rfl⟩
  simp only [hereI]
  obtain ⟨a, n, c, z1, zf, hn1, hnc, hg, hcut⟩ := HQ.out.cut
  have zf1 := zf 1
  have HCUT := hid hcut
  have hn1I : (1 : Int) ≤ n := by omega
  clear zf hcut
  by_cases hc1 : c = 1
  · subst hc1
    obtain rfl : n = 1 := by omega
    obtain ⟨V, hV⟩ : ∃ V, V = World.setCell w ⟨g, 1, none⟩ (.slice (some a) 0 0) := ⟨_, rfl⟩
    have HX := hid (show QAt tab tv en g B V r out 0 0 ∧ Mod (rF g B) w V by rw [hV]; exact HCUT.out (some a) 0 0 (by simp) rfl rfl)
    have HVV := hid hV
    clear hV HCUT
    have HQ3 := hid HX.out.1
    have HM3 := hid HX.out.2
    rw [HVV.out] at HQ3 HM3
    obtain ⟨A3, n3, c3, y3, yg, yB, yo, yO, ymore⟩ := HQ3.out.more (x := ⟨1, 0⟩) (by omega)
    have HMORE := hid ymore
    have HO3 := hid yO
    clear ymore yO
    have y3' : w.cell? ⟨g, 3, none⟩ = some (.slice A3 n3 c3) := (World.cell?_setCell_other w ⟨g, 1, none⟩ ⟨g, 3, none⟩ _ (by simp)).symm.trans y3
    go_wp2_with (at_builtin; go_must (refine append_arm Kd.node (w0 := _) B rfl _ _ 79 130 _ 16 rfl Tryz.underlying79 Tryz.infoNode rfl (by decide) (by decide) (.slice A3 n3 c3) out ⟨1, 0⟩ [.int .i64 (1), .int .i64 (0)] NoT NoT rfl (by exact congrArg (fun k => Value.slice (some ⟨k, 0, none⟩) 1 1) (show w.heap.size = (World.setCell w ⟨g, 1, none⟩ _).heap.size by simp)) rfl (fun _ h => h.elim) HO3.out (Below.refl _ _) yB (by omega) ?_))
    intro v1 w4 hO4 hb4 hg4 _
    obtain ⟨A4, n4, c4, rfl, hx1, hx2⟩ := hO4.shape'
    obtain ⟨⟨f43, f44⟩, q4, m4⟩ := HMORE.out _ w4 hO4 hb4 hg4
    have HQ4 := hid q4
    have HM4 := hid (rF_trans HM3.out m4)
    clear q4 m4 hx1 hx2 hO4 hb4 hg4
    go_wp2
    (first | go_end0 | refine bodyPost_ret (results_none rfl _ _ _) rfl ?_)
    refine ⟨rfl, HM4.out, ?_⟩
    exact HQ4.out
  · obtain ⟨V, hV⟩ : ∃ V, V = World.setCell w ⟨g, 1, none⟩ (.slice (some ⟨a.block, a.off + 2, none⟩) (n - 1) (c - 1)) := ⟨_, rfl⟩
    have HX := hid (show QAt tab tv en g B V r out 0 0 ∧ Mod (rF g B) w V by rw [hV]; exact HCUT.out _ (n - 1) (c - 1) (by rw [if_neg hc1]) rfl rfl)
    have HVV := hid hV
    clear hV HCUT
    have HQ3 := hid HX.out.1
    have HM3 := hid HX.out.2
    rw [HVV.out] at HQ3 HM3
    obtain ⟨A3, n3, c3, y3, yg, yB, yo, yO, ymore⟩ := HQ3.out.more (x := ⟨1, 0⟩) (by omega)
    have HMORE := hid ymore
    have HO3 := hid yO
    clear ymore yO
    have y3' : w.cell? ⟨g, 3, none⟩ = some (.slice A3 n3 c3) := (World.cell?_setCell_other w ⟨g, 1, none⟩ ⟨g, 3, none⟩ _ (by simp)).symm.trans y3
    go_wp2_with (at_builtin; go_must (refine append_arm Kd.node (w0 := _) B rfl _ _ 79 130 _ 16 rfl Tryz.underlying79 Tryz.infoNode rfl (by decide) (by decide) (.slice A3 n3 c3) out ⟨1, 0⟩ [.int .i64 (1), .int .i64 (0)] NoT NoT rfl (by exact congrArg (fun k => Value.slice (some ⟨k, 0, none⟩) 1 1) (show w.heap.size = (World.setCell w ⟨g, 1, none⟩ _).heap.size by simp)) rfl (fun _ h => h.elim) HO3.out (Below.refl _ _) yB (by omega) ?_))
    intro v1 w4 hO4 hb4 hg4 _
    obtain ⟨A4, n4, c4, rfl, hx1, hx2⟩ := hO4.shape'
    obtain ⟨⟨f43, f44⟩, q4, m4⟩ := HMORE.out _ w4 hO4 hb4 hg4
    have HQ4 := hid q4
    have HM4 := hid (rF_trans HM3.out m4)
    clear q4 m4 hx1 hx2 hO4 hb4 hg4
    go_wp2
    (first | go_end0 | refine bodyPost_ret (results_none rfl _ _ _) rfl ?_)
    refine ⟨rfl, HM4.out, ?_⟩
    exact HQ4.out
set_option maxHeartbeats 4000000 in
set_option maxRecDepth 100000 in
theorem one_open (tab : List ByteArray) (tv : Value) (en : Int) (g B : Nat) (f : Nat) (hP : PartQ tab tv en g B 92 (oneP tab en f) f) (w : World) (ax : Int) (r : List WordS) (out : List NodeS) (hm : r.length ≤ f) (h : QAt tab tv en g B w (⟨sOpen, ax⟩ :: r) out 0 0) : Calls Tryz.prog 92 #[.pointer (some ⟨g, 0, none⟩)] w fun e w' => e = .returned (.tuple #[]) ∧ Mod (rF g B) w w' ∧ ResQ tab tv en g B (oneP tab en (f + 1) (⟨sOpen, ax⟩ :: r) out) (⟨sOpen, ax⟩ :: r) out w' := by
  have HQ := hid h
  have hsum := h.sum
  simp only [List.length_cons] at hsum
  have HANY := hid (any_q tab tv en g B (manyP (oneP tab en f) sAnd 4 f) f (manyP_less (oneP_less tab en f) _ _ _) (manyP_bad (oneP_bad tab en f) _ _ _) (all_q tab tv en g B (oneP tab en f) f (oneP_less tab en f) (oneP_bad tab en f) hP))
  have HD := hid (show oneP tab en (f + 1) (⟨sOpen, ax⟩ :: r) out = shutP en (anyP (oneP tab en f) f r out) by rw [oneP, if_neg (show sOpen ≠ sNot by decide), if_pos rfl])
  clear hP
  clear h
  go_enter Tryz.func92, Tryz.ntmps92
  go_wp2_with fail
  refine (peek10_calls tab tv en g B w _ out HQ.out).mono ?_
  rintro e w2 ⟨rfl, rfl⟩
  simp only [headT]
  rw [show sOpen = ⟨#[40]⟩ from rfl]
  go_wp2_with fail
  refine (here_calls tab tv en g B w _ out 0 0 HQ.out).mono ?_
  rintro e w5 ⟨rfl, rfl⟩
  simp only [hereI]
  obtain ⟨a, n, c, z1, zf, hn1, hnc, hg, hcut⟩ := HQ.out.cut
  have zf1 := zf 1
  have HCUT := hid hcut
  have hn1I : (1 : Int) ≤ n := by omega
  clear zf hcut
  by_cases hc1 : c = 1
  · subst hc1
    obtain rfl : n = 1 := by omega
    obtain ⟨V, hV⟩ : ∃ V, V = World.setCell w ⟨g, 1, none⟩ (.slice (some a) 0 0) := ⟨_, rfl⟩
    have HX := hid (show QAt tab tv en g B V r out 0 0 ∧ Mod (rF g B) w V by rw [hV]; exact HCUT.out (some a) 0 0 (by simp) rfl rfl)
    have HVV := hid hV
    clear hV HCUT
    go_wp2_with fail
    rw [← HVV.out]
    refine (HANY.out V r out hm HX.out.1).mono ?_
    rintro e w3 ⟨rfl, hm3, hq3⟩
    have HM3 := hid (rF_trans HX.out.2 hm3)
    clear hm3
    have hq4 : ResQ tab tv en g B (anyP (oneP tab en f) f r out) r out w3 := hq3
    clear hq3
    generalize hr : anyP (oneP tab en f) f r out = q at hq4 HD
    cases q with
    | bad a3 e3 =>
      obtain ⟨r3, o3, k1, k2, k3⟩ := hq4
      have he3 := anyP_bad (oneP_bad tab en f) f _ _ _ _ hr
      have HQ3 := hid k1
      clear k1 hr
      go_wp2_with fail
      refine (peek10_bad tab tv en g B w3 r3 o3 a3 e3 he3 HQ3.out).mono ?_
      rintro e w6 ⟨rfl, rfl⟩
      go_wp2_with fail
      refine (here_calls tab tv en g B w3 r3 o3 a3 e3 HQ3.out).mono ?_
      rintro e w6 ⟨rfl, rfl⟩
      go_wp2_with fail
      refine (fail_more tab tv en g B w3 r3 o3 a3 e3 _ 3 he3 HQ3.out).mono ?_
      rintro e w6 ⟨rfl, rfl⟩
      go_wp2
      (first | go_end0 | refine bodyPost_ret (results_none rfl _ _ _) rfl ?_)
      refine ⟨rfl, HM3.out, ?_⟩
      rw [HD.out]
      exact ⟨r3, o3, HQ3.out, by simp only [List.length_cons]; omega, by simp only [List.length_cons]; omega⟩
    | ok r3 o3 =>
      have hl3 := anyP_less (oneP_less tab en f) f _ _ _ _ hr
      have HQ3 := hid (show QAt tab tv en g B w3 r3 o3 0 0 from hq4)
      clear hq4 hr
      go_wp2_with fail
      refine (peek10_calls tab tv en g B w3 r3 o3 HQ3.out).mono ?_
      rintro e w6 ⟨rfl, rfl⟩
      cases r3 with
      | nil =>
        rw [show headT [] = ⟨#[]⟩ from rfl]
        go_wp2_with fail
        refine (here_calls tab tv en g B w3 [] o3 0 0 HQ3.out).mono ?_
        rintro e w6 ⟨rfl, rfl⟩
        rw [show hereI en [] = en from rfl]
        go_wp2_with fail
        refine (fail_first tab tv en g B w3 [] o3 en 3 HQ3.out).mono ?_
        rintro e w6 ⟨rfl, hq6, hm6⟩
        have HQ6 := hid hq6
        have HM6 := hid (rF_trans HM3.out hm6)
        clear hq6 hm6
        go_wp2
        (first | go_end0 | refine bodyPost_ret (results_none rfl _ _ _) rfl ?_)
        refine ⟨rfl, HM6.out, ?_⟩
        rw [HD.out]
        exact ⟨[], o3, HQ6.out, by simp, by simp only [List.length_cons, List.length_nil] at *; omega⟩
      | cons y r3 =>
        obtain ⟨ty, ay⟩ := y
        simp only [headT]
        simp only [List.length_cons] at hl3
        by_cases h41 : ty = sShut
        · subst h41
          rw [show sShut = ⟨#[41]⟩ from rfl]
          obtain ⟨a, n, c, z1, zf, hn1, hnc, hg, hcut⟩ := HQ3.out.cut
          have zf1 := zf 1
          have HCUT := hid hcut
          have hn1I : (1 : Int) ≤ n := by omega
          clear zf hcut
          by_cases hc1 : c = 1
          · subst hc1
            obtain rfl : n = 1 := by omega
            obtain ⟨VW, hV⟩ : ∃ VW, VW = World.setCell w3 ⟨g, 1, none⟩ (.slice (some a) 0 0) := ⟨_, rfl⟩
            have HXW := hid (show QAt tab tv en g B VW r3 o3 0 0 ∧ Mod (rF g B) w3 VW by rw [hV]; exact HCUT.out (some a) 0 0 (by simp) rfl rfl)
            have HVW := hid hV
            clear hV HCUT
            go_wp2
            (first | go_end0 | refine bodyPost_ret (results_none rfl _ _ _) rfl ?_)
            rw [← HVW.out]
            refine ⟨rfl, rF_trans HM3.out HXW.out.2, ?_⟩
            rw [HD.out, show shutP en (.ok (⟨sShut, ay⟩ :: r3) o3) = .ok r3 o3 by rw [shutP, if_pos rfl]]
            exact HXW.out.1
          · obtain ⟨VW, hV⟩ : ∃ VW, VW = World.setCell w3 ⟨g, 1, none⟩ (.slice (some ⟨a.block, a.off + 2, none⟩) (n - 1) (c - 1)) := ⟨_, rfl⟩
            have HXW := hid (show QAt tab tv en g B VW r3 o3 0 0 ∧ Mod (rF g B) w3 VW by rw [hV]; exact HCUT.out _ (n - 1) (c - 1) (by rw [if_neg hc1]) rfl rfl)
            have HVW := hid hV
            clear hV HCUT
            go_wp2
            (first | go_end0 | refine bodyPost_ret (results_none rfl _ _ _) rfl ?_)
            rw [← HVW.out]
            refine ⟨rfl, rF_trans HM3.out HXW.out.2, ?_⟩
            rw [HD.out, show shutP en (.ok (⟨sShut, ay⟩ :: r3) o3) = .ok r3 o3 by rw [shutP, if_pos rfl]]
            exact HXW.out.1
        · have hst := text_ne' h41 [41] (by decide +kernel)
          have HN := hid h41
          clear h41
          go_wp2_with fail
          refine (here_calls tab tv en g B w3 _ o3 0 0 HQ3.out).mono ?_
          rintro e w6 ⟨rfl, rfl⟩
          simp only [hereI]
          go_wp2_with fail
          refine (fail_first tab tv en g B w3 _ o3 ay 3 HQ3.out).mono ?_
          rintro e w6 ⟨rfl, hq6, hm6⟩
          have HQ6 := hid hq6
          have HM6 := hid (rF_trans HM3.out hm6)
          clear hq6 hm6
          go_wp2
          (first | go_end0 | refine bodyPost_ret (results_none rfl _ _ _) rfl ?_)
          refine ⟨rfl, HM6.out, ?_⟩
          rw [HD.out, show shutP en (.ok (⟨ty, ay⟩ :: r3) o3) = .bad ay 3 by rw [shutP, if_neg HN.out]]
          exact ⟨_, o3, HQ6.out, by simp only [List.length_cons]; omega, by simp only [List.length_cons]; omega⟩
  · obtain ⟨V, hV⟩ : ∃ V, V = World.setCell w ⟨g, 1, none⟩ (.slice (some ⟨a.block, a.off + 2, none⟩) (n - 1) (c - 1)) := ⟨_, rfl⟩
    have HX := hid (show QAt tab tv en g B V r out 0 0 ∧ Mod (rF g B) w V by rw [hV]; exact HCUT.out _ (n - 1) (c - 1) (by rw [if_neg hc1]) rfl rfl)
    have HVV := hid hV
    clear hV HCUT
    go_wp2_with fail
    rw [← HVV.out]
    refine (HANY.out V r out hm HX.out.1).mono ?_
    rintro e w3 ⟨rfl, hm3, hq3⟩
    have HM3 := hid (rF_trans HX.out.2 hm3)
    clear hm3
    have hq4 : ResQ tab tv en g B (anyP (oneP tab en f) f r out) r out w3 := hq3
    clear hq3
    generalize hr : anyP (oneP tab en f) f r out = q at hq4 HD
    cases q with
    | bad a3 e3 =>
      obtain ⟨r3, o3, k1, k2, k3⟩ := hq4
      have he3 := anyP_bad (oneP_bad tab en f) f _ _ _ _ hr
      have HQ3 := hid k1
      clear k1 hr
      go_wp2_with fail
      refine (peek10_bad tab tv en g B w3 r3 o3 a3 e3 he3 HQ3.out).mono ?_
      rintro e w6 ⟨rfl, rfl⟩
      go_wp2_with fail
      refine (here_calls tab tv en g B w3 r3 o3 a3 e3 HQ3.out).mono ?_
      rintro e w6 ⟨rfl, rfl⟩
      go_wp2_with fail
      refine (fail_more tab tv en g B w3 r3 o3 a3 e3 _ 3 he3 HQ3.out).mono ?_
      rintro e w6 ⟨rfl, rfl⟩
      go_wp2
      (first | go_end0 | refine bodyPost_ret (results_none rfl _ _ _) rfl ?_)
      refine ⟨rfl, HM3.out, ?_⟩
      rw [HD.out]
      exact ⟨r3, o3, HQ3.out, by simp only [List.length_cons]; omega, by simp only [List.length_cons]; omega⟩
    | ok r3 o3 =>
      have hl3 := anyP_less (oneP_less tab en f) f _ _ _ _ hr
      have HQ3 := hid (show QAt tab tv en g B w3 r3 o3 0 0 from hq4)
      clear hq4 hr
      go_wp2_with fail
      refine (peek10_calls tab tv en g B w3 r3 o3 HQ3.out).mono ?_
      rintro e w6 ⟨rfl, rfl⟩
      cases r3 with
      | nil =>
        rw [show headT [] = ⟨#[]⟩ from rfl]
        go_wp2_with fail
        refine (here_calls tab tv en g B w3 [] o3 0 0 HQ3.out).mono ?_
        rintro e w6 ⟨rfl, rfl⟩
        rw [show hereI en [] = en from rfl]
        go_wp2_with fail
        refine (fail_first tab tv en g B w3 [] o3 en 3 HQ3.out).mono ?_
        rintro e w6 ⟨rfl, hq6, hm6⟩
        have HQ6 := hid hq6
        have HM6 := hid (rF_trans HM3.out hm6)
        clear hq6 hm6
        go_wp2
        (first | go_end0 | refine bodyPost_ret (results_none rfl _ _ _) rfl ?_)
        refine ⟨rfl, HM6.out, ?_⟩
        rw [HD.out]
        exact ⟨[], o3, HQ6.out, by simp, by simp only [List.length_cons, List.length_nil] at *; omega⟩
      | cons y r3 =>
        obtain ⟨ty, ay⟩ := y
        simp only [headT]
        simp only [List.length_cons] at hl3
        by_cases h41 : ty = sShut
        · subst h41
          rw [show sShut = ⟨#[41]⟩ from rfl]
          obtain ⟨a, n, c, z1, zf, hn1, hnc, hg, hcut⟩ := HQ3.out.cut
          have zf1 := zf 1
          have HCUT := hid hcut
          have hn1I : (1 : Int) ≤ n := by omega
          clear zf hcut
          by_cases hc1 : c = 1
          · subst hc1
            obtain rfl : n = 1 := by omega
            obtain ⟨VW, hV⟩ : ∃ VW, VW = World.setCell w3 ⟨g, 1, none⟩ (.slice (some a) 0 0) := ⟨_, rfl⟩
            have HXW := hid (show QAt tab tv en g B VW r3 o3 0 0 ∧ Mod (rF g B) w3 VW by rw [hV]; exact HCUT.out (some a) 0 0 (by simp) rfl rfl)
            have HVW := hid hV
            clear hV HCUT
            go_wp2
            (first | go_end0 | refine bodyPost_ret (results_none rfl _ _ _) rfl ?_)
            rw [← HVW.out]
            refine ⟨rfl, rF_trans HM3.out HXW.out.2, ?_⟩
            rw [HD.out, show shutP en (.ok (⟨sShut, ay⟩ :: r3) o3) = .ok r3 o3 by rw [shutP, if_pos rfl]]
            exact HXW.out.1
          · obtain ⟨VW, hV⟩ : ∃ VW, VW = World.setCell w3 ⟨g, 1, none⟩ (.slice (some ⟨a.block, a.off + 2, none⟩) (n - 1) (c - 1)) := ⟨_, rfl⟩
            have HXW := hid (show QAt tab tv en g B VW r3 o3 0 0 ∧ Mod (rF g B) w3 VW by rw [hV]; exact HCUT.out _ (n - 1) (c - 1) (by rw [if_neg hc1]) rfl rfl)
            have HVW := hid hV
            clear hV HCUT
            go_wp2
            (first | go_end0 | refine bodyPost_ret (results_none rfl _ _ _) rfl ?_)
            rw [← HVW.out]
            refine ⟨rfl, rF_trans HM3.out HXW.out.2, ?_⟩
            rw [HD.out, show shutP en (.ok (⟨sShut, ay⟩ :: r3) o3) = .ok r3 o3 by rw [shutP, if_pos rfl]]
            exact HXW.out.1
        · have hst := text_ne' h41 [41] (by decide +kernel)
          have HN := hid h41
          clear h41
          go_wp2_with fail
          refine (here_calls tab tv en g B w3 _ o3 0 0 HQ3.out).mono ?_
          rintro e w6 ⟨rfl, rfl⟩
          simp only [hereI]
          go_wp2_with fail
          refine (fail_first tab tv en g B w3 _ o3 ay 3 HQ3.out).mono ?_
          rintro e w6 ⟨rfl, hq6, hm6⟩
          have HQ6 := hid hq6
          have HM6 := hid (rF_trans HM3.out hm6)
          clear hq6 hm6
          go_wp2
          (first | go_end0 | refine bodyPost_ret (results_none rfl _ _ _) rfl ?_)
          refine ⟨rfl, HM6.out, ?_⟩
          rw [HD.out, show shutP en (.ok (⟨ty, ay⟩ :: r3) o3) = .bad ay 3 by rw [shutP, if_neg HN.out]]
          exact ⟨_, o3, HQ6.out, by simp only [List.length_cons]; omega, by simp only [List.length_cons]; omega⟩
end Go.Proofs.YtgedkcglkhleoaaGreatDoor
/- siskinref10.Reader.One of a name; One, Any. -/
namespace Go.Proofs.YtgedkcglkhleoaaGreatDoor
open Go.RowKit

theorem QAt.tab {tab : List ByteArray} {tv : Value} {en : Int} {g B : Nat} {w : World} {ws : List WordS} {out : List NodeS} {a e : Int} (h : QAt tab tv en g B w ws out a e) : (w.cell? ⟨g, 0, none⟩ = some tv ∧ ∃ At ct, tv = .slice At tab.length ct) ∧ Kd.str.slice.K w Any tab [tv] := by
  obtain ⟨A, n, c, O, q1, _, _, _, _, q6, _⟩ := h
  obtain ⟨z, _, _⟩ := cells_of_block q1
  have q7 := q6
  obtain ⟨At, ct, hta, _⟩ := q7
  injection hta with hta _
  exact ⟨⟨z 0 _ rfl, At, ct, hta⟩, Kd.any q6⟩
set_option maxHeartbeats 4000000 in
set_option maxRecDepth 100000 in
theorem one_name (tab : List ByteArray) (tv : Value) (en : Int) (g B : Nat) (tx : ByteArray) (h33 : tx ≠ sNot) (h40 : tx ≠ sOpen) (h42 : tx ≠ sYes) (hc : ¬(tx = sShut ∨ tx = sAnd ∨ tx = sOr)) (w : World) (ax : Int) (r : List WordS) (out : List NodeS) (h : QAt tab tv en g B w (⟨tx, ax⟩ :: r) out 0 0) : Calls Tryz.prog 92 #[.pointer (some ⟨g, 0, none⟩)] w fun e w' => e = .returned (.tuple #[]) ∧ Mod (rF g B) w w' ∧ ResQ tab tv en g B (nameP tab ⟨tx, ax⟩ r out) (⟨tx, ax⟩ :: r) out w' := by
  have HQ := hid h
  have hsum := h.sum
  simp only [List.length_cons] at hsum
  obtain ⟨⟨z0, At, ct, hta⟩, _⟩ := h.tab
  subst hta
  have hne := h.ne ⟨tx, ax⟩ (List.mem_cons_self ..)
  have n0 : tx.toList.isEmpty = false := by
    have h2 := text_ne' hne [] (by decide +kernel)
    cases hh : tx.toList with
    | nil => rw [hh] at h2; cases h2
    | cons _ _ => rfl
  have n01 : (tx.toList == []) = false := text_ne' hne [] (by decide +kernel)
  have n33 := text_ne' h33 [33] (by decide +kernel)
  have n40 := text_ne' h40 [40] (by decide +kernel)
  have n42 := text_ne' h42 [42] (by decide +kernel)
  have n41 := text_ne' (fun h => hc (.inl h)) [41] (by decide +kernel)
  have n38 := text_ne' (fun h => hc (.inr (.inl h))) [38] (by decide +kernel)
  have n124 := text_ne' (fun h => hc (.inr (.inr h))) [124] (by decide +kernel)
  obtain ⟨k, hk⟩ : ∃ k, k = placeI tab tx := ⟨_, rfl⟩
  have HK := hid hk
  have HN := hid (show nameP tab ⟨tx, ax⟩ r out = if k < 0 ∨ 16 ≤ k then .bad ax 5 else .ok r (out ++ [⟨2, k⟩]) by unfold nameP; rw [HK.out])
  clear hk h33 h40 h42 hc hne
  clear h
  go_enter Tryz.func92, Tryz.ntmps92
  go_wp2_with fail
  refine (peek10_calls tab (.slice At tab.length ct) en g B w _ out HQ.out).mono ?_
  rintro e w2 ⟨rfl, rfl⟩
  simp only [headT]
  go_wp2_with fail
  refine (here_calls tab (.slice At tab.length ct) en g B w _ out 0 0 HQ.out).mono ?_
  rintro e w5 ⟨rfl, rfl⟩
  simp only [hereI]
  obtain ⟨a, n, c, z1, zf, hn1, hnc, hg, hcut⟩ := HQ.out.cut
  have zf1 := zf 1
  have HCUT := hid hcut
  have hn1I : (1 : Int) ≤ n := by omega
  clear zf hcut
  by_cases hc1 : c = 1
  · subst hc1
    obtain rfl : n = 1 := by omega
    obtain ⟨V, hV⟩ : ∃ V, V = World.setCell w ⟨g, 1, none⟩ (.slice (some a) 0 0) := ⟨_, rfl⟩
    have HX := hid (show QAt tab (.slice At tab.length ct) en g B V r out 0 0 ∧ Mod (rF g B) w V by rw [hV]; exact HCUT.out (some a) 0 0 (by simp) rfl rfl)
    have HVV := hid hV
    clear hV HCUT
    go_wp2_with fail
    rw [← HVV.out]
    refine (rplace_calls tab tx _ V (QAt.tab HX.out.1).2).mono ?_
    rintro e w3 ⟨rfl, hb3⟩
    have HQ3 := hid (HX.out.1.below hb3)
    have HM3 := hid (HX.out.2.then_below hb3)
    rw [← HK.out]
    clear hb3
    by_cases hk1 : k < 0
    · go_wp2_with fail
      refine (fail_first tab _ en g B w3 r out ax 5 HQ3.out).mono ?_
      rintro e w6 ⟨rfl, hq6, hm6⟩
      have HQ6 := hid hq6
      have HM6 := hid (rF_trans HM3.out hm6)
      clear hq6 hm6
      go_wp2
      (first | go_end0 | refine bodyPost_ret (results_none rfl _ _ _) rfl ?_)
      refine ⟨rfl, HM6.out, ?_⟩
      rw [HN.out, if_pos (.inl hk1)]
      exact ⟨r, out, HQ6.out, by simp only [List.length_cons]; omega, by simp only [List.length_cons]; omega⟩
    · by_cases hk2 : 16 ≤ k
      · have hk3 : 15 < k := by omega
        go_wp2_with fail
        refine (fail_first tab _ en g B w3 r out ax 5 HQ3.out).mono ?_
        rintro e w6 ⟨rfl, hq6, hm6⟩
        have HQ6 := hid hq6
        have HM6 := hid (rF_trans HM3.out hm6)
        clear hq6 hm6
        go_wp2
        (first | go_end0 | refine bodyPost_ret (results_none rfl _ _ _) rfl ?_)
        refine ⟨rfl, HM6.out, ?_⟩
        rw [HN.out, if_pos (.inr hk2)]
        exact ⟨r, out, HQ6.out, by simp only [List.length_cons]; omega, by simp only [List.length_cons]; omega⟩
      · have hk3 : ¬ 15 < k := by omega
        have HNN := hid (show ¬(k < 0 ∨ 16 ≤ k) by omega)
        obtain ⟨A3, n3, c3, y3, yg, yB, yo, yO, ymore⟩ := HQ3.out.more (x := ⟨2, k⟩) (by omega)
        have HMORE := hid ymore
        have HO3 := hid yO
        clear ymore yO
        go_wp2_with (at_builtin; go_must (refine append_arm Kd.node (w0 := w3) B rfl _ _ 79 130 _ 16 rfl Tryz.underlying79 Tryz.infoNode rfl (by decide) (by decide) (.slice A3 n3 c3) out ⟨2, k⟩ [.int .i64 (2), .int .i64 (k)] NoT NoT rfl rfl rfl (fun _ h => h.elim) HO3.out (Below.refl _ _) yB (by omega) ?_))
        intro v1 w4 hO4 hb4 hg4 _
        obtain ⟨A4, n4, c4, rfl, hx1, hx2⟩ := hO4.shape'
        obtain ⟨⟨f43, f44⟩, q4, m4⟩ := HMORE.out _ w4 hO4 hb4 hg4
        have HQ4 := hid q4
        have HM4 := hid (rF_trans HM3.out m4)
        clear q4 m4 hx1 hx2 hO4 hb4 hg4
        go_wp2
        (first | go_end0 | refine bodyPost_ret (results_none rfl _ _ _) rfl ?_)
        refine ⟨rfl, HM4.out, ?_⟩
        rw [HN.out, if_neg HNN.out]
        exact HQ4.out
  · obtain ⟨V, hV⟩ : ∃ V, V = World.setCell w ⟨g, 1, none⟩ (.slice (some ⟨a.block, a.off + 2, none⟩) (n - 1) (c - 1)) := ⟨_, rfl⟩
    have HX := hid (show QAt tab (.slice At tab.length ct) en g B V r out 0 0 ∧ Mod (rF g B) w V by rw [hV]; exact HCUT.out _ (n - 1) (c - 1) (by rw [if_neg hc1]) rfl rfl)
    have HVV := hid hV
    clear hV HCUT
    go_wp2_with fail
    rw [← HVV.out]
    refine (rplace_calls tab tx _ V (QAt.tab HX.out.1).2).mono ?_
    rintro e w3 ⟨rfl, hb3⟩
    have HQ3 := hid (HX.out.1.below hb3)
    have HM3 := hid (HX.out.2.then_below hb3)
    rw [← HK.out]
    clear hb3
    by_cases hk1 : k < 0
    · go_wp2_with fail
      refine (fail_first tab _ en g B w3 r out ax 5 HQ3.out).mono ?_
      rintro e w6 ⟨rfl, hq6, hm6⟩
      have HQ6 := hid hq6
      have HM6 := hid (rF_trans HM3.out hm6)
      clear hq6 hm6
      go_wp2
      (first | go_end0 | refine bodyPost_ret (results_none rfl _ _ _) rfl ?_)
      refine ⟨rfl, HM6.out, ?_⟩
      rw [HN.out, if_pos (.inl hk1)]
      exact ⟨r, out, HQ6.out, by simp only [List.length_cons]; omega, by simp only [List.length_cons]; omega⟩
    · by_cases hk2 : 16 ≤ k
      · have hk3 : 15 < k := by omega
        go_wp2_with fail
        refine (fail_first tab _ en g B w3 r out ax 5 HQ3.out).mono ?_
        rintro e w6 ⟨rfl, hq6, hm6⟩
        have HQ6 := hid hq6
        have HM6 := hid (rF_trans HM3.out hm6)
        clear hq6 hm6
        go_wp2
        (first | go_end0 | refine bodyPost_ret (results_none rfl _ _ _) rfl ?_)
        refine ⟨rfl, HM6.out, ?_⟩
        rw [HN.out, if_pos (.inr hk2)]
        exact ⟨r, out, HQ6.out, by simp only [List.length_cons]; omega, by simp only [List.length_cons]; omega⟩
      · have hk3 : ¬ 15 < k := by omega
        have HNN := hid (show ¬(k < 0 ∨ 16 ≤ k) by omega)
        obtain ⟨A3, n3, c3, y3, yg, yB, yo, yO, ymore⟩ := HQ3.out.more (x := ⟨2, k⟩) (by omega)
        have HMORE := hid ymore
        have HO3 := hid yO
        clear ymore yO
        go_wp2_with (at_builtin; go_must (refine append_arm Kd.node (w0 := w3) B rfl _ _ 79 130 _ 16 rfl Tryz.underlying79 Tryz.infoNode rfl (by decide) (by decide) (.slice A3 n3 c3) out ⟨2, k⟩ [.int .i64 (2), .int .i64 (k)] NoT NoT rfl rfl rfl (fun _ h => h.elim) HO3.out (Below.refl _ _) yB (by omega) ?_))
        intro v1 w4 hO4 hb4 hg4 _
        obtain ⟨A4, n4, c4, rfl, hx1, hx2⟩ := hO4.shape'
        obtain ⟨⟨f43, f44⟩, q4, m4⟩ := HMORE.out _ w4 hO4 hb4 hg4
        have HQ4 := hid q4
        have HM4 := hid (rF_trans HM3.out m4)
        clear q4 m4 hx1 hx2 hO4 hb4 hg4
        go_wp2
        (first | go_end0 | refine bodyPost_ret (results_none rfl _ _ _) rfl ?_)
        refine ⟨rfl, HM4.out, ?_⟩
        rw [HN.out, if_neg HNN.out]
        exact HQ4.out
theorem one_q (tab : List ByteArray) (tv : Value) (en : Int) (g B : Nat) : ∀ f, PartQ tab tv en g B 92 (oneP tab en f) f
  | 0 => by
    intro w ws out hm h
    obtain rfl : ws = [] := List.length_eq_zero_iff.1 (by omega)
    exact one_nil tab tv en g B w out h
  | f + 1 => by
    intro w ws out hm h
    have ih := one_q tab tv en g B f
    cases ws with
    | nil => exact one_nil tab tv en g B w out h
    | cons x r =>
      obtain ⟨tx, ax⟩ := x
      simp only [List.length_cons] at hm
      by_cases h33 : tx = sNot
      · subst h33
        exact one_not tab tv en g B f ih w ax r out (by omega) h
      · by_cases h40 : tx = sOpen
        · subst h40
          exact one_open tab tv en g B f ih w ax r out (by omega) h
        · by_cases h42 : tx = sYes
          · subst h42
            rw [show oneP tab en (f + 1) (⟨sYes, ax⟩ :: r) out = .ok r (out ++ [⟨1, 0⟩]) by rw [oneP, if_neg (show sYes ≠ sNot by decide), if_neg (show sYes ≠ sOpen by decide), if_pos rfl]]
            exact one_yes tab tv en g B w ax r out h
          · by_cases hc : tx = sShut ∨ tx = sAnd ∨ tx = sOr
            · rw [show oneP tab en (f + 1) (⟨tx, ax⟩ :: r) out = .bad ax 3 by rw [oneP, if_neg h33, if_neg h40, if_neg h42, if_pos hc]]
              exact one_sign tab tv en g B w ⟨tx, ax⟩ r out hc h
            · rw [show oneP tab en (f + 1) (⟨tx, ax⟩ :: r) out = nameP tab ⟨tx, ax⟩ r out by rw [oneP, if_neg h33, if_neg h40, if_neg h42, if_neg hc]]
              exact one_name tab tv en g B tx h33 h40 h42 hc w ax r out h
theorem anyAll_q (tab : List ByteArray) (tv : Value) (en : Int) (g B : Nat) (f : Nat) : PartQ tab tv en g B 57 (anyP (oneP tab en f) f) f :=
  any_q tab tv en g B (manyP (oneP tab en f) sAnd 4 f) f (manyP_less (oneP_less tab en f) _ _ _) (manyP_bad (oneP_bad tab en f) _ _ _) (all_q tab tv en g B (oneP tab en f) f (oneP_less tab en f) (oneP_bad tab en f) (one_q tab tv en g B f))
end Go.Proofs.YtgedkcglkhleoaaGreatDoor
/- siskinref10.Need. -/
namespace Go.Proofs.YtgedkcglkhleoaaGreatDoor
open Go.RowKit

theorem QAt.cells {tab : List ByteArray} {tv : Value} {en : Int} {g B : Nat} {w : World} {ws : List WordS} {out : List NodeS} {a e : Int} (h : QAt tab tv en g B w ws out a e) : (∃ A n c, w.cell? ⟨g, 1, none⟩ = some (.slice A n c) ∧ n = ws.length) ∧ (∃ A n c, w.cell? ⟨g, 3, none⟩ = some (.slice A n c) ∧ Own Kd.node 130 w B NoT (.slice A n c) out) ∧ w.cell? ⟨g, 4, none⟩ = some (.int .i64 a) ∧ w.cell? ⟨g, 5, none⟩ = some (.int .i64 e) := by
  obtain ⟨A, n, c, O, q1, q2, _, _, q5, _⟩ := h
  obtain ⟨z, _, _⟩ := cells_of_block q1
  obtain ⟨B1, m1, c1, rfl, hx1, hx2⟩ := q5.shape'
  exact ⟨⟨A, n, c, z 1 _ rfl, q2⟩, ⟨B1, m1, c1, z 3 _ rfl, q5⟩, z 4 _ rfl, z 5 _ rfl⟩
theorem growL_ne {out : List WordS} {t : ByteArray} (h : ∀ x ∈ out, 0 < x.text.size) : ∀ x ∈ growL out t, 0 < x.text.size := by
  intro x hx
  unfold growL at hx
  split at hx
  · rename_i y hy
    rcases List.mem_or_eq_of_mem_set hx with hx | hx
    · exact h x hx
    · rw [hx]
      have := h y (List.mem_of_getLast? hy)
      simp only [ByteArray.size_append]; omega
  · exact h x hx
theorem lexGo_ne : ∀ (rs : List RuneS) (st : LexS), (∀ x ∈ st.out, 0 < x.text.size) → ∀ x ∈ (lexGo rs st).1, 0 < x.text.size
  | [], st, h => h
  | r :: rs, st, h => by
    unfold lexGo
    split
    · rename_i st' hs
      refine lexGo_ne rs st' ?_
      have happ : ∀ x ∈ st.out ++ [⟨Utf8.encode r.C, st.n⟩], 0 < x.text.size := by
        intro x hx
        rcases List.mem_append.1 hx with hx | hx
        · exact h x hx
        · rw [List.mem_singleton.1 hx]; exact encode_size_pos _
      unfold stepL at hs
      split at hs
      · injection hs with hs; subst hs
        show ∀ x ∈ (if st.run then growL st.out (Utf8.encode r.C) else st.out ++ [_]), _
        split
        · exact growL_ne h
        · exact happ
      · split at hs
        · injection hs with hs; subst hs; exact h
        · split at hs
          · injection hs with hs; subst hs; exact happ
          · cases hs
    · intro x hx; cases hx
theorem wordsS_ne (s : ByteArray) : ∀ x ∈ (wordsS s).1, x.text ≠ ⟨#[]⟩ := by
  have key : ∀ x ∈ (wordsS s).1, 0 < x.text.size := by
    unfold wordsS
    split
    · intro x hx; cases hx
    · exact lexGo_ne _ _ (fun x hx => by cases hx)
  intro x hx e
  have := key x hx
  rw [e] at this
  exact absurd this (by decide)
set_option maxHeartbeats 4000000 in
set_option maxRecDepth 100000 in
theorem rneed_calls (tab : List ByteArray) (s : ByteArray) (tv : Value) (w : World) (ht : Kd.str.slice.K w Any tab [tv]) (hs : s.size * 24 ≤ 140737488351232) :
    Calls Tryz.prog 43 #[tv, .string s] w fun e w' => ∃ v, e = .returned (.tuple #[v, .int .i64 (needS tab s).2.1, .int .i64 (needS tab s).2.2]) ∧ Own Kd.node 130 w' w.heap.size NoT v (needS tab s).1 ∧ Below w.heap.size w w' := by
  have HT := hid ht
  clear ht
  go_enter Tryz.func43, Tryz.ntmps43
  go_wp2_with fail
  refine (rwords_calls s w (by omega)).mono ?_
  rintro e w1 ⟨v, rfl, hO, hb1⟩
  have HO := hid hO
  have HB1 := hid hb1
  have hwl := wordsS_len s
  have hwne := wordsS_ne s
  obtain ⟨ws, hws⟩ : ∃ ws, ws = (wordsS s).1 := ⟨_, rfl⟩
  obtain ⟨a1, ha1⟩ : ∃ a1, a1 = (wordsS s).2.1 := ⟨_, rfl⟩
  obtain ⟨e1, he1⟩ : ∃ e1, e1 = (wordsS s).2.2 := ⟨_, rfl⟩
  rw [← ha1, ← he1]
  have HW := hid hws
  rw [← hws] at HO hwl hwne
  have HNE := hid hwne
  have HA := hid ha1
  have HE := hid he1
  clear hO hb1 hws ha1 he1 hwne
  by_cases h0 : e1 = 0
  · subst h0
    obtain ⟨A, n, c, rfl, hq1, hq2⟩ := HO.out.shape'
    obtain ⟨At, ct, hta, _, _, _⟩ := HT.out
    injection hta with hta _
    subst hta
    clear hq1 hq2
    go_wp2_with fail
    refine (runes_calls s w1 hs).mono ?_
    rintro e w2 ⟨v2, rfl, hO2, hb2⟩
    obtain ⟨R1, R2, rfl, _, _⟩ := runes_own_at hO2
    clear hO2
    obtain ⟨V, hV⟩ : ∃ V, V = w2.alloc (.cells #[.slice At tab.length ct, .slice A n c, .int .i64 (runes s).length, .slice none 0 0, .int .i64 0, .int .i64 0] 105) := ⟨_, rfl⟩
    have HBV := hid (show Below w2.heap.size w2 V by rw [hV]; exact bAlloc (Below.refl _ _) _)
    have hvs : V.heap.size = w2.heap.size + 1 := by rw [hV]; simp
    have hz := hid (show V.heap[w2.heap.size]? = some (.cells #[.slice At tab.length ct, .slice A n c, .int .i64 (runes s).length, .slice none 0 0, .int .i64 0, .int .i64 0] 105 (0, 0)) by rw [hV]; exact heap_at rfl)
    have HV := hid hV
    clear hV
    have h12 := hb2.size
    have h01 := HB1.out.size
    have HBT := hid (bThen HB1.out hb2)
    obtain ⟨g, hg⟩ : ∃ g, g = w2.heap.size := ⟨_, rfl⟩
    have hI : QAt tab (.slice At tab.length ct) (runes s).length g V.heap.size V ws [] 0 0 := by
      obtain ⟨A', c', he, k1, k2, k3⟩ := (HO.out.below hb2).K
      injection he with he _
      injection he with he1 he2 he3
      subst he1; subst he3
      have hbw : Below w2.heap.size w2 V := HBV.out
      refine ⟨A, n, c, .slice none 0 0, ?_, he2, k1, Kd.Row.below (Kd.Row.mono (fun b _ h => by rw [hg]; exact h) k3) hbw, Own.nil _ _ _ _ _, Kd.below (Kd.mono Kd.str.slice (fun b _ h => by rw [hg]; exact h) (Kd.below (Kd.below HT.out HB1.out) hb2)) hbw, by omega, Nat.le_refl _, by omega, by simp; omega, HNE.out⟩
      rw [hg]
      exact hz.out
    have HANY := hid (anyAll_q tab (.slice At tab.length ct) (runes s).length g V.heap.size ws.length V ws [] (Nat.le_refl _) hI)
    have hbadz := anyP_bad (oneP_bad tab (runes s).length ws.length) ws.length ws []
    have hless := anyP_less (oneP_less tab (runes s).length ws.length) ws.length ws []
    have HD := hid (show needS tab s = (if (readR (anyP (oneP tab (runes s).length ws.length) ws.length ws [])).2.1 ≠ 0 then ([], (readR (anyP (oneP tab (runes s).length ws.length) ws.length ws [])).1, (readR (anyP (oneP tab (runes s).length ws.length) ws.length ws [])).2.1) else ((readR (anyP (oneP tab (runes s).length ws.length) ws.length ws [])).2.2, 0, 0)) by
      unfold needS
      rw [if_neg (by rw [← HE.out]; simp), ← HW.out])
    clear hI
    go_wp2_with fail
    rw [← HV.out, ← hg]
    refine HANY.out.mono ?_
    rintro e w3 ⟨rfl, hm3, hq3⟩
    have HB3 := hid (show Below w.heap.size w w3 from below_mod (HBT.out.trans (HBV.out.mono (by omega))) hm3 (fun i h => by rcases h with h | h <;> omega) (by omega))
    have hgw : w.heap.size ≤ V.heap.size := by omega
    have hgw2 : w.heap.size ≤ g := by omega
    obtain ⟨en, hen⟩ : ∃ en : Int, en = ((runes s).length : Int) := ⟨_, rfl⟩
    rw [← hen] at HD hq3 hbadz hless
    clear HANY hm3 hg hz hb2
    generalize anyP (oneP tab en ws.length) ws.length ws [] = q at hq3 HD hbadz hless
    have bad_case : ∀ (r : List WordS) (o : List NodeS) (a e : Int) (w4 : World), True := fun _ _ _ _ _ => trivial
    cases q with
    | bad a3 e3 =>
      obtain ⟨r3, o3, k1, k2, k3⟩ := hq3
      have he3 := hbadz _ _ rfl
      have HQ3 := hid (show QAt tab (.slice At tab.length ct) en g V.heap.size w3 r3 o3 a3 e3 from k1)
      have HD2 := hid (show needS tab s = ([], a3, e3) by rw [HD.out]; unfold readR; rw [if_pos he3])
      clear hbadz hless k1 k2 k3 hen bad_case
      have HE3 := hid he3
      cases r3 with
      | nil =>
        obtain ⟨⟨A8, n8, c8, z1, hn8⟩, _, _, _⟩ := HQ3.out.cells
        obtain rfl : n8 = 0 := hn8
        obtain ⟨⟨_, _, _, hc1, hcn⟩, _, hc4, hc5⟩ := HQ3.out.cells
        have he5 : (e3 == (0 : Int)) = false := by simp [he3]
        clear hc1 hcn
        go_wp2
        go_quiet (fail)
        go_wp2
        go_ret3
        rw [HD2.out]
        exact ⟨_, rfl, Own.nil _ _ _ _ _, below_drewN HB3.out _⟩
      | cons x r3 =>
        obtain ⟨⟨A8, n8, c8, z1, hn8⟩, _, _, _⟩ := HQ3.out.cells
        have hn9 : (0 : Int) < n8 := by rw [hn8, List.length_cons]; omega
        clear hn8
        go_wp2_with fail
        refine (here_calls tab _ en g _ w3 (x :: r3) o3 a3 e3 HQ3.out).mono ?_
        rintro e w6 ⟨rfl, rfl⟩
        simp only [hereI]
        go_wp2_with fail
        refine (fail_more tab _ en g _ w3 (x :: r3) o3 a3 e3 _ 3 he3 HQ3.out).mono ?_
        rintro e w6 ⟨rfl, rfl⟩
        obtain ⟨⟨_, _, _, hc1, hcn⟩, _, hc4, hc5⟩ := HQ3.out.cells
        have he5 : (e3 == (0 : Int)) = false := by simp [he3]
        clear hc1 hcn
        go_wp2
        go_quiet (fail)
        go_wp2
        go_ret3
        rw [HD2.out]
        exact ⟨_, rfl, Own.nil _ _ _ _ _, below_drewN HB3.out _⟩
    | ok r3 o3 =>
      have HQ3 := hid (show QAt tab (.slice At tab.length ct) en g V.heap.size w3 r3 o3 0 0 from hq3)
      have hl3 := hless _ _ rfl
      simp only [List.length_nil] at hl3
      clear hbadz hless hq3 hen bad_case
      cases r3 with
      | cons x r3 =>
        have HD2 := hid (show needS tab s = ([], x.at_, 3) by rw [HD.out]; rfl)
        obtain ⟨⟨A8, n8, c8, z1, hn8⟩, _, _, _⟩ := HQ3.out.cells
        have hn9 : (0 : Int) < n8 := by rw [hn8, List.length_cons]; omega
        clear hn8
        go_wp2_with fail
        refine (here_calls tab _ en g _ w3 (x :: r3) o3 0 0 HQ3.out).mono ?_
        rintro e w6 ⟨rfl, rfl⟩
        simp only [hereI]
        go_wp2_with fail
        refine (fail_first tab _ en g _ w3 (x :: r3) o3 x.at_ 3 HQ3.out).mono ?_
        rintro e w6 ⟨rfl, hq6, hm6⟩
        have HQ6 := hid hq6
        have HB6 := hid (show Below w.heap.size w w6 from below_mod HB3.out hm6 (fun i h => by rcases h with h | h <;> omega) (HB3.out.size))
        clear hq6 hm6 z1
        obtain ⟨⟨_, _, _, hc1, hcn⟩, _, hc4, hc5⟩ := HQ6.out.cells
        clear hc1 hcn
        go_wp2
        go_quiet (fail)
        go_wp2
        go_ret3
        rw [HD2.out]
        exact ⟨_, rfl, Own.nil _ _ _ _ _, below_drewN HB6.out _⟩
      | nil =>
        obtain ⟨⟨A8, n8, c8, z1, hn8⟩, ⟨A9, n9, c9, z3, hO9⟩, z4, z5⟩ := HQ3.out.cells
        obtain rfl : n8 = 0 := hn8
        have HO9 := hid (hO9.lower (base' := w.heap.size) hgw)
        have HK9 := hid (Kd.any hO9.K)
        have hDD : needS tab s = (if checkN o3 ≠ 0 then ([], 0, checkN o3) else (o3, 0, 0)) := HD.out
        have HC := hid (rcheck_calls o3 _ w3 HK9.out (by omega))
        obtain ⟨cv, hcv⟩ : ∃ cv, cv = checkN o3 := ⟨_, rfl⟩
        rw [← hcv] at HC hDD
        clear hcv hO9
        go_wp2_with fail
        refine HC.out.mono ?_
        rintro e w6 ⟨rfl, hb6⟩
        have HB6 := hid (bThen HB3.out hb6)
        have HQ6 := hid (HQ3.out.below hb6)
        have z36 : w6.cell? ⟨g, 3, none⟩ = some (.slice A9 n9 c9) := cell_keep hb6 z3
        have HO6 := hid (HO9.out.below hb6)
        by_cases hcz : cv = 0
        · subst hcz
          have HD2 := hid (show needS tab s = (o3, 0, 0) by rw [hDD]; rfl)
          clear hDD hb6
          go_wp2
          go_ret3
          rw [HD2.out]
          exact ⟨_, rfl, HO6.out, HB6.out⟩
        · have HD2 := hid (show needS tab s = ([], 0, cv) by rw [hDD, if_pos hcz])
          have hcz2 : (cv == (0 : Int)) = false := by simp [hcz]
          clear hDD hb6 hcz
          go_wp2
          go_ret3
          rw [HD2.out]
          exact ⟨_, rfl, Own.nil _ _ _ _ _, HB6.out⟩
  · have h1 : (e1 == (0 : Int)) = false := by simp [h0]
    have HD := hid (show needS tab s = ([], a1, e1) by unfold needS; rw [if_pos (by rw [← HE.out]; exact h0), ← HA.out, ← HE.out])
    clear h0
    obtain ⟨A, n, c, rfl, hq1, hq2⟩ := HO.out.shape'
    clear hq1 hq2
    go_wp2
    go_ret3
    rw [HD.out]
    exact ⟨_, rfl, Own.nil _ _ _ _ _, HB1.out⟩
end Go.Proofs.YtgedkcglkhleoaaGreatDoor
