/- hand.where, noted, tasks, All; book.Open; slices.Contains. -/
import Derived.Test.YteijgeofimcijaaEntryK
import Derived.Outline
import Derived.Deep.RegionHeld3
namespace Go.Proofs.Yteijgeofimcijaa
open Go.RowKit

set_option maxHeartbeats 4000000 in
set_option maxRecDepth 100000 in
theorem where_calls (F : FuncId) (c1 c2 c3 : Value) (hE : ∀ args w, (callFunc F args).run Try.prog w = .ok (.enter F args) w) (p : Nat → Bool) (n : Nat) (hn : n ≤ 1000000) (w : World)
    (hp : ∀ (k : Nat) (u : World), k < n → Below w.heap.size w u → Calls Try.prog F #[.int .i64 k, c1, c2, c3] u fun e u' => e = .returned (.bool (p k)) ∧ Below u.heap.size u u') :
    Calls Try.prog 98 #[.int .i64 n, .func (.func F) #[] #[c1, c2, c3]] w fun e w' => ∃ v, e = .returned v ∧ Own I64 3 w' w.heap.size NoT v (whereN p n) ∧ Below w.heap.size w w' := by
  have HP := hid hp
  clear hp
  go_enter Try.func98, Try.ntmps98
  go_wp2
  go_loopw [5, 8] (fun o i wr => ∃ k : Nat, k ≤ n ∧ i = .int .i64 k ∧ Own I64 3 wr w.heap.size NoT o (whereN p k) ∧ Below w.heap.size w wr) (fun _ i _ => n - (intOf i).toNat)
  case atStart => exact ⟨0, by omega, rfl, Own.nil _ _ _ _ _, Below.refl _ _⟩
  case round =>
    obtain ⟨k, hk, rfl, hO, hb⟩ := hrel
    by_cases hlt : k < n
    · have hltI : (k : Int) < (n : Int) := by omega
      have hln := whereN_len p k
      have HO := hid hO
      have HB := hid hb
      clear hO hb
      go_wp2_with fail
      refine (HP.out k wr hlt HB.out).mono ?_
      rintro e w1 ⟨rfl, hb1⟩
      have HB1 := hid (bThen HB.out hb1)
      have HO1 := hid (HO.out.below hb1)
      clear hb1
      cases hbit : p k
      · have HN := hid (show whereN p (k + 1) = whereN p k by rw [whereN, if_neg (by rw [hbit]; decide)])
        clear hbit
        go_wp2
        go_roundw
        case rel => exact ⟨k + 1, by omega, by go_num, by rw [HN.out]; exact HO1.out, HB1.out⟩
        case measure => simp [intOf]; omega
      · have HN := hid (show whereN p (k + 1) = whereN p k ++ [(k : Int)] by rw [whereN, if_pos hbit])
        clear hbit
        have hO := HO1.out
        have hb := HB1.out
        go_wp2_with (at_builtin; go_must (refine append_arm I64 (w0 := w) w.heap.size rfl _ _ 71 3 _ 8 rfl Try.underlying71 Try.infoInt rfl (by decide) (by decide) u5 (whereN p k) (k : Int) [.int .i64 k] NoT NoT rfl rfl rfl (fun _ h => h.elim) hO hb hb.size (by omega) ?_))
        intro v1 w2 hO1 hb1 _ _
        go_wp2
        go_roundw
        case rel => exact ⟨k + 1, by omega, by go_num, by rw [HN.out]; exact hO1, hb1⟩
        case measure => simp [intOf]; omega
    · obtain rfl : k = n := by omega
      go_wp2
      go_ret
      exact ⟨_, rfl, hO, hb⟩
set_option maxHeartbeats 4000000 in
set_option maxRecDepth 100000 in
theorem where2_calls (F : FuncId) (c1 c2 : Value) (hE : ∀ args w, (callFunc F args).run Try.prog w = .ok (.enter F args) w) (p : Nat → Bool) (n : Nat) (hn : n ≤ 1000000) (w : World)
    (hp : ∀ (k : Nat) (u : World), k < n → Below w.heap.size w u → Calls Try.prog F #[.int .i64 k, c1, c2] u fun e u' => e = .returned (.bool (p k)) ∧ Below u.heap.size u u') :
    Calls Try.prog 98 #[.int .i64 n, .func (.func F) #[] #[c1, c2]] w fun e w' => ∃ v, e = .returned v ∧ Own I64 3 w' w.heap.size NoT v (whereN p n) ∧ Below w.heap.size w w' := by
  have HP := hid hp
  clear hp
  go_enter Try.func98, Try.ntmps98
  go_wp2
  go_loopw [5, 8] (fun o i wr => ∃ k : Nat, k ≤ n ∧ i = .int .i64 k ∧ Own I64 3 wr w.heap.size NoT o (whereN p k) ∧ Below w.heap.size w wr) (fun _ i _ => n - (intOf i).toNat)
  case atStart => exact ⟨0, by omega, rfl, Own.nil _ _ _ _ _, Below.refl _ _⟩
  case round =>
    obtain ⟨k, hk, rfl, hO, hb⟩ := hrel
    by_cases hlt : k < n
    · have hltI : (k : Int) < (n : Int) := by omega
      have hln := whereN_len p k
      have HO := hid hO
      have HB := hid hb
      clear hO hb
      go_wp2_with fail
      refine (HP.out k wr hlt HB.out).mono ?_
      rintro e w1 ⟨rfl, hb1⟩
      have HB1 := hid (bThen HB.out hb1)
      have HO1 := hid (HO.out.below hb1)
      clear hb1
      cases hbit : p k
      · have HN := hid (show whereN p (k + 1) = whereN p k by rw [whereN, if_neg (by rw [hbit]; decide)])
        clear hbit
        go_wp2
        go_roundw
        case rel => exact ⟨k + 1, by omega, by go_num, by rw [HN.out]; exact HO1.out, HB1.out⟩
        case measure => simp [intOf]; omega
      · have HN := hid (show whereN p (k + 1) = whereN p k ++ [(k : Int)] by rw [whereN, if_pos hbit])
        clear hbit
        have hO := HO1.out
        have hb := HB1.out
        go_wp2_with (at_builtin; go_must (refine append_arm I64 (w0 := w) w.heap.size rfl _ _ 71 3 _ 8 rfl Try.underlying71 Try.infoInt rfl (by decide) (by decide) u5 (whereN p k) (k : Int) [.int .i64 k] NoT NoT rfl rfl rfl (fun _ h => h.elim) hO hb hb.size (by omega) ?_))
        intro v1 w2 hO1 hb1 _ _
        go_wp2
        go_roundw
        case rel => exact ⟨k + 1, by omega, by go_num, by rw [HN.out]; exact hO1, hb1⟩
        case measure => simp [intOf]; omega
    · obtain rfl : k = n := by omega
      go_wp2
      go_ret
      exact ⟨_, rfl, hO, hb⟩
set_option maxHeartbeats 4000000 in
set_option maxRecDepth 100000 in
theorem noted_calls (had : List Bool) (k : Nat) (v : Value) (w : World) (hl : Kd.bool.slice.K w Any had [v]) :
    Calls Try.prog 103 #[v, .int .i64 k] w fun e w' => e = .returned (.bool (notedB had k)) ∧ w = w' := by
  obtain ⟨A, c, he, hc, hm, hr⟩ := hl
  cases he
  obtain ⟨q, hq⟩ : ∃ q, had.length = q := ⟨_, rfl⟩
  have HQ := hid hq
  have HR := hid hr
  rw [hq] at hc hm ⊢
  clear hr hq
  by_cases hlt : k < q
  · obtain ⟨a, x, rfl, hx, r0⟩ := HR.out.at_bool k (by rw [HQ.out]; exact hlt)
    have HF := hid (show notedB had k = x by unfold notedB; rw [hx]; rfl)
    have hltI : (k : Int) < (q : Int) := by omega
    have hk0 : (0 : Int) ≤ (k : Int) := by omega
    clear hx
    go_enter Try.func103, Try.ntmps103
    go_wp2
    go_ret
    rw [HF.out]
    exact ⟨rfl, rfl⟩
  · have HF := hid (show notedB had k = false by unfold notedB; rw [List.getElem?_eq_none (by rw [HQ.out]; omega)]; rfl)
    have hltI : ¬ (k : Int) < (q : Int) := by omega
    go_enter Try.func103, Try.ntmps103
    go_wp2
    go_ret
    rw [HF.out]
    exact ⟨rfl, rfl⟩
set_option maxHeartbeats 4000000 in
set_option maxRecDepth 100000 in
theorem handTasks_calls (E : EntryS) (EA EB ED : Option Addr) (ea eb ed : Nat) (w : World) :
    Calls Try.prog 101 #[.agg #[.int .i64 E.id, .int .i64 E.sched, .int .i64 E.epoch, .slice EA E.needs.length ea, .slice EB E.bound.length eb, .slice ED E.done.length ed]] w fun e w' => e = .returned (.int .i64 (tasksN E : Nat)) ∧ Below w.heap.size w w' := by
  have HD := hid (show ((tasksN E : Nat) : Int) = min (E.needs.length : Int) (min (E.bound.length : Int) (E.done.length : Int)) by unfold tasksN; omega)
  go_enter Try.func101, Try.ntmps101
  go_wp2
  go_ret
  rw [HD.out]
  exact ⟨rfl, bAlloc (Below.refl _ _) _⟩
theorem all1_enter : ∀ args w, (callFunc 109 args).run Try.prog w = .ok (.enter 109 args) w := by
  intro args w
  kernel_rfl
/-- An entry's box lies at b, a list of marks at h. -/
def Boxes (w : World) (E : EntryS) (EA EB ED : Option Addr) (ea eb ed : Nat) (had : List Bool) (hv : Value) (b h : Nat) : Prop := (w.cell? ⟨b, 0, none⟩ = some (.int .i64 E.id) ∧ w.cell? ⟨b, 1, none⟩ = some (.int .i64 E.sched) ∧ w.cell? ⟨b, 2, none⟩ = some (.int .i64 E.epoch) ∧ w.cell? ⟨b, 3, none⟩ = some (.slice EA E.needs.length ea) ∧ w.cell? ⟨b, 4, none⟩ = some (.slice EB E.bound.length eb) ∧ w.cell? ⟨b, 5, none⟩ = some (.slice ED E.done.length ed)) ∧ w.cell? ⟨h, 0, none⟩ = some hv ∧ EAt w E EA EB ED ea eb ed ∧ Kd.bool.slice.K w Any had [hv] ∧ b < w.heap.size ∧ h < w.heap.size
theorem Boxes.below {w w1 : World} {E : EntryS} {EA EB ED : Option Addr} {ea eb ed : Nat} {had : List Bool} {hv : Value} {b h : Nat} (q : Boxes w E EA EB ED ea eb ed had hv b h) (hb : Below w.heap.size w w1) : Boxes w1 E EA EB ED ea eb ed had hv b h := by
  obtain ⟨⟨q0, q1, q2, q3, q4, q5⟩, q6, q7, q8, q9, q10⟩ := q
  have m := (bcell hb).1
  have := hb.size
  exact ⟨⟨(m _ _ q9).trans q0, (m _ _ q9).trans q1, (m _ _ q9).trans q2, (m _ _ q9).trans q3, (m _ _ q9).trans q4, (m _ _ q9).trans q5⟩, (m _ _ q10).trans q6, q7.below hb, Kd.below q8 hb, by omega, by omega⟩
theorem tasks_lt {E : EntryS} {k : Nat} (h : k < tasksN E) : k < E.needs.length ∧ k < E.bound.length ∧ k < E.done.length := by unfold tasksN at h; omega
set_option maxHeartbeats 4000000 in
set_option maxRecDepth 100000 in
theorem all1_calls (E : EntryS) (EA EB ED : Option Addr) (ea eb ed : Nat) (had : List Bool) (hv : Value) (b h k : Nat) (w : World) (hB : Boxes w E EA EB ED ea eb ed had hv b h) (hk : k < tasksN E) :
    Calls Try.prog 109 #[.int .i64 k, .pointer (some ⟨b, 0, none⟩), .pointer (some ⟨h, 0, none⟩)] w fun e w' => e = .returned (.bool (leftB E had k)) ∧ Below w.heap.size w w' := by
  obtain ⟨⟨q0, q1, q2, q3, q4, q5⟩, q6, q7, q8, q9, q10⟩ := hB
  obtain ⟨t1, t2, t3⟩ := tasks_lt hk
  obtain ⟨rb, cb⟩ := K_row q7.bound
  obtain ⟨rd, cd⟩ := K_row q7.done
  obtain ⟨a, x, rfl, hx, r0⟩ := rb.at_int k t2
  obtain ⟨a2, y, rfl, hy, r1⟩ := rd.at_bool k t3
  have HN := hid (fun u (hb : Below w.heap.size w u) => noted_calls had k hv u (Kd.below q8 hb))
  have HF := hid (show leftB E had k = (decide (0 < x) && !y && !notedB had k) by unfold leftB; rw [hx, hy]; rfl)
  have hltI : (k : Int) < (E.bound.length : Int) := by omega
  have hltI2 : (k : Int) < (E.done.length : Int) := by omega
  have hk0 : (0 : Int) ≤ (k : Int) := by omega
  generalize E.bound.length = n1 at *
  generalize E.done.length = n2 at *
  obtain ⟨Ah, ch, he, _, _, _⟩ := q8
  injection he with he _
  subst he
  clear hx hy rb rd q7 t1 hk
  obtain ⟨nb, hnb⟩ : ∃ nb, nb = notedB had k := ⟨_, rfl⟩
  rw [← hnb] at HF HN
  clear hnb
  by_cases hx0 : 0 < x
  · rw [decide_eq_true hx0] at HF
    cases y
    · go_enter Try.func109, Try.ntmps109
      go_wp2_with fail
      refine (HN.out _ (Below.refl _ _)).mono ?_
      rintro e w1 ⟨rfl, rfl⟩
      go_wp2
      go_ret
      rw [HF.out]
      exact ⟨rfl, Below.refl _ _⟩
    · go_enter Try.func109, Try.ntmps109
      go_wp2
      go_ret
      rw [HF.out]
      exact ⟨rfl, Below.refl _ _⟩
  · rw [decide_eq_false hx0] at HF
    go_enter Try.func109, Try.ntmps109
    go_wp2
    go_ret
    rw [HF.out]
    exact ⟨rfl, Below.refl _ _⟩
end Go.Proofs.Yteijgeofimcijaa
