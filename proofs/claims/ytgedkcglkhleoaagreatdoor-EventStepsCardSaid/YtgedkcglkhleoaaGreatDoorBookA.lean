/- Books: an entry's box; book.Open; siskinref20.Open, Tasks, Long; siskinref06.Same, siskinref32.Outs. -/
import Derived.Test.YtgedkcglkhleoaaGreatDoorEntryK
import Derived.Test.YtgedkcglkhleoaaGreatDoorBase
import Derived.Outline
import Derived.Deep.RegionHeld3
import Derived.Deep.QuietTactic
import Derived.BigQuiet
namespace Go.Proofs.YtgedkcglkhleoaaGreatDoor
open Go.RowKit

theorem tasks_lt {E : EntryS} {k : Nat} (h : k < tasksN E) : k < E.needs.length ∧ k < E.bound.length ∧ k < E.done.length := by unfold tasksN at h; omega

def BoxE (w : World) (E : EntryS) (EA EB ED : Option Addr) (ea eb ed : Nat) (b : Nat) : Prop := (w.cell? ⟨b, 0, none⟩ = some (.int .i64 E.id) ∧ w.cell? ⟨b, 1, none⟩ = some (.int .i64 E.sched) ∧ w.cell? ⟨b, 2, none⟩ = some (.int .i64 E.epoch) ∧ w.cell? ⟨b, 3, none⟩ = some (.slice EA E.needs.length ea) ∧ w.cell? ⟨b, 4, none⟩ = some (.slice EB E.bound.length eb) ∧ w.cell? ⟨b, 5, none⟩ = some (.slice ED E.done.length ed)) ∧ EAt w E EA EB ED ea eb ed ∧ b < w.heap.size
theorem BoxE.below {w w1 : World} {E : EntryS} {EA EB ED : Option Addr} {ea eb ed : Nat} {b : Nat} (q : BoxE w E EA EB ED ea eb ed b) (hb : Below w.heap.size w w1) : BoxE w1 E EA EB ED ea eb ed b := by
  obtain ⟨⟨q0, q1, q2, q3, q4, q5⟩, q7, q9⟩ := q
  have m := (bcell hb).1
  have := hb.size
  exact ⟨⟨(m _ _ q9).trans q0, (m _ _ q9).trans q1, (m _ _ q9).trans q2, (m _ _ q9).trans q3, (m _ _ q9).trans q4, (m _ _ q9).trans q5⟩, q7.below hb, by omega⟩
def BoxC (w : World) (C : ConfS) (CA CB : Option Addr) (ca cb : Nat) (b : Nat) : Prop := (w.cell? ⟨b, 0, none⟩ = some (.int .i64 C.scheds) ∧ w.cell? ⟨b, 1, none⟩ = some (.int .i64 C.lease) ∧ w.cell? ⟨b, 2, none⟩ = some (.int .i64 C.again) ∧ w.cell? ⟨b, 3, none⟩ = some (.int .i64 C.room) ∧ w.cell? ⟨b, 4, none⟩ = some (.int .i64 C.out) ∧ w.cell? ⟨b, 5, none⟩ = some (.slice CA C.names.length ca) ∧ w.cell? ⟨b, 6, none⟩ = some (.slice CB C.workers.length cb)) ∧ CAt w C CA CB ca cb ∧ b < w.heap.size
theorem BoxC.below {w w1 : World} {C : ConfS} {CA CB : Option Addr} {ca cb : Nat} {b : Nat} (q : BoxC w C CA CB ca cb b) (hb : Below w.heap.size w w1) : BoxC w1 C CA CB ca cb b := by
  obtain ⟨⟨q0, q1, q2, q3, q4, q5, q6⟩, q7, q9⟩ := q
  have m := (bcell hb).1
  have := hb.size
  exact ⟨⟨(m _ _ q9).trans q0, (m _ _ q9).trans q1, (m _ _ q9).trans q2, (m _ _ q9).trans q3, (m _ _ q9).trans q4, (m _ _ q9).trans q5, (m _ _ q9).trans q6⟩, q7.below hb, by omega⟩
theorem boxE_of {w : World} {E : EntryS} {EA EB ED : Option Addr} {ea eb ed : Nat} {b : Nat} (hz : w.heap[b]? = some (.cells #[.int .i64 E.id, .int .i64 E.sched, .int .i64 E.epoch, .slice EA E.needs.length ea, .slice EB E.bound.length eb, .slice ED E.done.length ed] 45 (0, 0))) (hE : EAt w E EA EB ED ea eb ed) : BoxE w E EA EB ED ea eb ed b := ⟨box6 hz w (Below.refl _ _), hE, (Array.getElem?_eq_some_iff.1 hz).1⟩
theorem boxC_of {w : World} {C : ConfS} {CA CB : Option Addr} {ca cb : Nat} {b : Nat} (hz : w.heap[b]? = some (.cells #[.int .i64 C.scheds, .int .i64 C.lease, .int .i64 C.again, .int .i64 C.room, .int .i64 C.out, .slice CA C.names.length ca, .slice CB C.workers.length cb] 25 (0, 0))) (hC : CAt w C CA CB ca cb) : BoxC w C CA CB ca cb b := ⟨conf_box hz w (Below.refl _ _), hC, (Array.getElem?_eq_some_iff.1 hz).1⟩


theorem rowBox (w : World) (E : EntryS) (EA EB ED : Option Addr) (ea eb ed : Nat) (V : World) (hV : V = w.alloc (.cells #[.int .i64 E.id, .int .i64 E.sched, .int .i64 E.epoch, .slice EA E.needs.length ea, .slice EB E.bound.length eb, .slice ED E.done.length ed] 45)) (hE : EAt w E EA EB ED ea eb ed) : Below w.heap.size w V ∧ BoxE V E EA EB ED ea eb ed w.heap.size := by
  have hb : Below w.heap.size w V := by rw [hV]; exact bAlloc (Below.refl _ _) _
  exact ⟨hb, boxE_of (by rw [hV]; exact heap_at rfl) (hE.below hb)⟩
set_option maxHeartbeats 4000000 in
set_option maxRecDepth 100000 in
theorem rtasks_calls (E : EntryS) (EA EB ED : Option Addr) (ea eb ed : Nat) (w : World) :
    Calls Tryz.prog 28 #[.agg #[.int .i64 E.id, .int .i64 E.sched, .int .i64 E.epoch, .slice EA E.needs.length ea, .slice EB E.bound.length eb, .slice ED E.done.length ed]] w fun e w' => e = .returned (.int .i64 (tasksN E : Nat)) ∧ Below w.heap.size w w' := by
  have HD := hid (show tasksN E = min (min E.needs.length E.bound.length) E.done.length from rfl)
  obtain ⟨n1, hn1⟩ : ∃ n1, n1 = E.needs.length := ⟨_, rfl⟩
  obtain ⟨n2, hn2⟩ : ∃ n2, n2 = E.bound.length := ⟨_, rfl⟩
  obtain ⟨n3, hn3⟩ : ∃ n3, n3 = E.done.length := ⟨_, rfl⟩
  rw [← hn1, ← hn2, ← hn3] at HD
  rw [← hn1, ← hn2, ← hn3]
  clear hn1 hn2 hn3
  by_cases h1 : n2 < n1
  · have h1I : (n2 : Int) < (n1 : Int) := by omega
    by_cases h2 : n3 < n2
    · have h2I : (n3 : Int) < (n2 : Int) := by omega
      go_enter Tryz.func28, Tryz.ntmps28
      go_wp2
      go_ret
      exact ⟨ret_int (by rw [HD.out]; omega), bAlloc (Below.refl _ _) _⟩
    · have h2I : ¬ (n3 : Int) < (n2 : Int) := by omega
      go_enter Tryz.func28, Tryz.ntmps28
      go_wp2
      go_ret
      exact ⟨ret_int (by rw [HD.out]; omega), bAlloc (Below.refl _ _) _⟩
  · have h1I : ¬ (n2 : Int) < (n1 : Int) := by omega
    by_cases h2 : n3 < n1
    · have h2I : (n3 : Int) < (n1 : Int) := by omega
      go_enter Tryz.func28, Tryz.ntmps28
      go_wp2
      go_ret
      exact ⟨ret_int (by rw [HD.out]; omega), bAlloc (Below.refl _ _) _⟩
    · have h2I : ¬ (n3 : Int) < (n1 : Int) := by omega
      go_enter Tryz.func28, Tryz.ntmps28
      go_wp2
      go_ret
      exact ⟨ret_int (by rw [HD.out]; omega), bAlloc (Below.refl _ _) _⟩
def longE (E : EntryS) : Bool := longB E.needs 30 300 || decide (30 < E.bound.length) || decide (30 < E.done.length)
def longEs (es : List EntryS) : Bool := es.any longE || decide (60 < es.length)
set_option maxHeartbeats 4000000 in
set_option maxRecDepth 100000 in
theorem rlong20_calls (es : List EntryS) (v : Value) (w : World) (hl : Kd.entry.slice.K w Any es [v]) :
    Calls Tryz.prog 7 #[v] w fun e w' => e = .returned (.bool (longEs es)) ∧ w = w' := by
  obtain ⟨A, c, he, hc, hm, hr⟩ := hl
  cases he
  have HR := hid hr
  obtain ⟨q, hq⟩ : ∃ q, es.length = q := ⟨_, rfl⟩
  have HQ := hid hq
  rw [hq] at hc hm ⊢
  clear hr hq
  go_enter Tryz.func7, Tryz.ntmps7
  go_wp2
  go_loop [3] (fun i => ∃ k : Nat, k ≤ q ∧ i = .int .i64 k ∧ Hid ((es.take k).any longE = false)) (fun i => q - (intOf i).toNat)
  case atStart => exact ⟨0, by omega, rfl, rfl⟩
  case round =>
    obtain ⟨k, hk, rfl, HN⟩ := hrel
    by_cases hlt : k < q
    · obtain ⟨a, E, EA, EB, ED, ea, eb, ed, rfl, hx, k1, k2, k3, r0, r1, r2, r3, r4, r5⟩ := HR.out.at_entry k (by rw [HQ.out]; exact hlt)
      have HX := hid hx
      have hltI : (k : Int) < (q : Int) := by omega
      have hk0 : (0 : Int) ≤ (k : Int) := by omega
      have HK := hid k1
      have HD := hid (show longE E = (longB E.needs 30 300 || decide (30 < E.bound.length) || decide (30 < E.done.length)) from rfl)
      have HSN := hid (show (es.take (k + 1)).any longE = longE E by rw [take_snoc HX.out, List.any_append, HN.out]; simp)
      have HYES := hid (fun h : longE E = true => show longEs es = true by unfold longEs; rw [Bool.or_eq_true]; left; exact List.any_eq_true.2 ⟨E, List.mem_of_getElem? HX.out, h⟩)
      obtain ⟨n1, hn1⟩ : ∃ n1, n1 = E.bound.length := ⟨_, rfl⟩
      obtain ⟨n2, hn2⟩ : ∃ n2, n2 = E.done.length := ⟨_, rfl⟩
      rw [← hn1] at r4 HD
      rw [← hn2] at r5 HD
      clear hx k1 k2 k3 r0 r1 r2 hn1 hn2
      go_wp2_with fail
      refine (long_calls E.needs 30 300 _ _ HK.out).mono ?_
      rintro e w1 ⟨rfl, rfl⟩
      cases hlb : longB E.needs 30 300
      case true =>
        have HF := hid (HYES.out (by rw [HD.out, hlb]; rfl))
        clear hlb
        go_wp2
        go_ret
        rw [HF.out]
        exact ⟨rfl, rfl⟩
      rw [hlb] at HD
      clear hlb
      by_cases h1 : 30 < n1
      · have h1I : (30 : Int) < (n1 : Int) := by omega
        have HF := hid (HYES.out (by rw [HD.out, decide_eq_true h1]; rfl))
        go_wp2
        go_ret
        rw [HF.out]
        exact ⟨rfl, rfl⟩
      have h1I : ¬ (30 : Int) < (n1 : Int) := by omega
      by_cases h2 : 30 < n2
      · have h2I : (30 : Int) < (n2 : Int) := by omega
        have HF := hid (HYES.out (by rw [HD.out, decide_eq_true h2, Bool.or_true]))
        go_wp2
        go_ret
        rw [HF.out]
        exact ⟨rfl, rfl⟩
      have h2I : ¬ (30 : Int) < (n2 : Int) := by omega
      have HN2 := hid (show (es.take (k + 1)).any longE = false by rw [HSN.out, HD.out, decide_eq_false h1, decide_eq_false h2]; rfl)
      go_wp2
      go_round
      case rel => exact ⟨k + 1, by omega, by go_num, HN2⟩
      case measure => simp [intOf]; omega
    · obtain rfl : k = q := by omega
      have e : es.take k = es := by rw [List.take_of_length_le]; rw [HQ.out]; exact Nat.le_refl _
      have HF := hid (show longEs es = decide (60 < k) by unfold longEs; rw [← e, HN.out, e, HQ.out]; rfl)
      clear e
      by_cases h60 : 60 < k
      · have hI : (60 : Int) < (k : Int) := by omega
        go_wp2
        go_ret
        exact ⟨ret_bool (by rw [HF.out]; simp [h60]), rfl⟩
      · have hI : ¬ (60 : Int) < (k : Int) := by omega
        go_wp2
        go_ret
        exact ⟨ret_bool (by rw [HF.out]; simp [h60]; try omega), rfl⟩
theorem Kd.Row.at_out2 {w : World} {S : Nat → Prop} {A : Option Addr} {xs : List OutS} (h : Kd.out.Row w S A xs) (i : Nat) (hi : i < xs.length) :
    ∃ a x, A = some a ∧ xs[i]? = some x ∧ w.cell? (a.add (i * 5)) = some (.int .i64 x.to) ∧ w.cell? ⟨(a.add (i * 5)).block, (a.add (i * 5)).off + 1, none⟩ = some (.int .i64 x.kind) ∧ w.cell? ⟨(a.add (i * 5)).block, (a.add (i * 5)).off + 2, none⟩ = some (.int .i64 x.job) ∧ w.cell? ⟨(a.add (i * 5)).block, (a.add (i * 5)).off + 3, none⟩ = some (.int .i64 x.task) ∧ w.cell? ⟨(a.add (i * 5)).block, (a.add (i * 5)).off + 4, none⟩ = some (.int .i64 x.epoch) := by
  obtain ⟨a, cs, h1, _, _, h4, h5⟩ := h i xs[i] (List.getElem?_eq_getElem hi)
  cases h4
  have key : ∀ (j : Nat) (u : Value), 0 < j → ([.int .i64 xs[i].to, .int .i64 xs[i].kind, .int .i64 xs[i].job, .int .i64 xs[i].task, .int .i64 xs[i].epoch] : List Value)[j]? = some u → w.cell? ⟨(a.add (i * 5)).block, (a.add (i * 5)).off + j, none⟩ = some u := by
    intro j u hj hu
    have := h5 j u hu
    rwa [show i * Kd.out.sz + j = i * 5 + j from rfl, ← Kd.add_add, Kd.add_lit (a.add (i * 5)) j hj] at this
  exact ⟨a, xs[i], h1, List.getElem?_eq_getElem hi, h5 0 _ rfl, key 1 _ (by decide) rfl, key 2 _ (by decide) rfl, key 3 _ (by decide) rfl, key 4 _ (by decide) rfl⟩
end Go.Proofs.YtgedkcglkhleoaaGreatDoor
