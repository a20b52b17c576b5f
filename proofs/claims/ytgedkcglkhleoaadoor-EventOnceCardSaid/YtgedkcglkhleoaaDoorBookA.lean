/- Books: an entry's box; book.Open; siskinref20.Open, Tasks, Long; siskinref06.Same, siskinref32.Outs. -/
import Derived.Test.YtgedkcglkhleoaaDoorEntryK
import Derived.Test.YtgedkcglkhleoaaDoorBase
import Derived.Outline
import Derived.Deep.RegionHeld3
import Derived.Deep.QuietTactic
import Derived.BigQuiet
namespace Go.Proofs.YtgedkcglkhleoaaDoor
open Go.RowKit

theorem tasks_lt {E : EntryS} {k : Nat} (h : k < tasksN E) : k < E.needs.length ∧ k < E.bound.length ∧ k < E.done.length := by unfold tasksN at h; omega

def BoxE (w : World) (E : EntryS) (EA EB ED : Option Addr) (ea eb ed : Nat) (b : Nat) : Prop := (w.cell? ⟨b, 0, none⟩ = some (.int .i64 E.id) ∧ w.cell? ⟨b, 1, none⟩ = some (.int .i64 E.sched) ∧ w.cell? ⟨b, 2, none⟩ = some (.int .i64 E.epoch) ∧ w.cell? ⟨b, 3, none⟩ = some (.slice EA E.needs.length ea) ∧ w.cell? ⟨b, 4, none⟩ = some (.slice EB E.bound.length eb) ∧ w.cell? ⟨b, 5, none⟩ = some (.slice ED E.done.length ed)) ∧ EAt w E EA EB ED ea eb ed ∧ b < w.heap.size
theorem BoxE.below {w w1 : World} {E : EntryS} {EA EB ED : Option Addr} {ea eb ed : Nat} {b : Nat} (q : BoxE w E EA EB ED ea eb ed b) (hb : Below w.heap.size w w1) : BoxE w1 E EA EB ED ea eb ed b := by
  obtain ⟨⟨q0, q1, q2, q3, q4, q5⟩, q7, q9⟩ := q
  have m := (bcell hb).1
  have := hb.size
  exact ⟨⟨(m _ _ q9).trans q0, (m _ _ q9).trans q1, (m _ _ q9).trans q2, (m _ _ q9).trans q3, (m _ _ q9).trans q4, (m _ _ q9).trans q5⟩, q7.below hb, by omega⟩
def BoxC (w : World) (C : ConfS) (CA CB : Option Addr) (ca cb : Nat) (b : Nat) : Prop := (w.cell? ⟨b, 0, none⟩ = some (.int .i64 C.scheds) ∧ w.cell? ⟨b, 1, none⟩ = some (.int .i64 C.lease) ∧ w.cell? ⟨b, 2, none⟩ = some (.int .i64 C.again) ∧ w.cell? ⟨b, 3, none⟩ = some (.int .i64 C.room) ∧ w.cell? ⟨b, 4, none⟩ = some (.int .i64 C.out) ∧ w.cell? ⟨b, 5, none⟩ = some (.slice CA C.names.length ca) ∧ w.cell? ⟨b, 6, none⟩ = some (.slice CB C.workers.length cb)) ∧ CAt w C CA CB ca cb ∧ b < w.heap.size
theorem BoxC.below {w w1 : World} {C : ConfS} {CA CB : Option Addr} {ca cb : Nat} {b : Nat} (q : BoxC w C CA CB ca cb b) (hb : Below w.heap.size w w1) : BoxC w1 C CA CB ca cb b := by
  obtain ⟨⟨q0, q1, q2, q3, q4, q5, q6⟩, q7, q9⟩ := q
  have m := (bcell hb).1
  have := hb.size
  exact ⟨⟨(m _ _ q9).trans q0, (m _ _ q9).trans q1, (m _ _ q9).trans q2, (m _ _ q9).trans q3, (m _ _ q9).trans q4, (m _ _ q9).trans q5, (m _ _ q9).trans q6⟩, q7.below hb, by omega⟩
theorem boxE_of {w : World} {E : EntryS} {EA EB ED : Option Addr} {ea eb ed : Nat} {b : Nat} (hz : w.heap[b]? = some (.cells #[.int .i64 E.id, .int .i64 E.sched, .int .i64 E.epoch, .slice EA E.needs.length ea, .slice EB E.bound.length eb, .slice ED E.done.length ed] 53 (0, 0))) (hE : EAt w E EA EB ED ea eb ed) : BoxE w E EA EB ED ea eb ed b := ⟨box6 hz w (Below.refl _ _), hE, (Array.getElem?_eq_some_iff.1 hz).1⟩
theorem boxC_of {w : World} {C : ConfS} {CA CB : Option Addr} {ca cb : Nat} {b : Nat} (hz : w.heap[b]? = some (.cells #[.int .i64 C.scheds, .int .i64 C.lease, .int .i64 C.again, .int .i64 C.room, .int .i64 C.out, .slice CA C.names.length ca, .slice CB C.workers.length cb] 25 (0, 0))) (hC : CAt w C CA CB ca cb) : BoxC w C CA CB ca cb b := ⟨conf_box hz w (Below.refl _ _), hC, (Array.getElem?_eq_some_iff.1 hz).1⟩


theorem rowBox (w : World) (E : EntryS) (EA EB ED : Option Addr) (ea eb ed : Nat) (V : World) (hV : V = w.alloc (.cells #[.int .i64 E.id, .int .i64 E.sched, .int .i64 E.epoch, .slice EA E.needs.length ea, .slice EB E.bound.length eb, .slice ED E.done.length ed] 53)) (hE : EAt w E EA EB ED ea eb ed) : Below w.heap.size w V ∧ BoxE V E EA EB ED ea eb ed w.heap.size := by
  have hb : Below w.heap.size w V := by rw [hV]; exact bAlloc (Below.refl _ _) _
  exact ⟨hb, boxE_of (by rw [hV]; exact heap_at rfl) (hE.below hb)⟩
def longE (E : EntryS) : Bool := longB E.needs 30 300 || decide (30 < E.bound.length) || decide (30 < E.done.length)
def longEs (es : List EntryS) : Bool := es.any longE || decide (60 < es.length)
theorem Kd.Row.at_out2 {w : World} {S : Nat → Prop} {A : Option Addr} {xs : List OutS} (h : Kd.out.Row w S A xs) (i : Nat) (hi : i < xs.length) :
    ∃ a x, A = some a ∧ xs[i]? = some x ∧ w.cell? (a.add (i * 5)) = some (.int .i64 x.to) ∧ w.cell? ⟨(a.add (i * 5)).block, (a.add (i * 5)).off + 1, none⟩ = some (.int .i64 x.kind) ∧ w.cell? ⟨(a.add (i * 5)).block, (a.add (i * 5)).off + 2, none⟩ = some (.int .i64 x.job) ∧ w.cell? ⟨(a.add (i * 5)).block, (a.add (i * 5)).off + 3, none⟩ = some (.int .i64 x.task) ∧ w.cell? ⟨(a.add (i * 5)).block, (a.add (i * 5)).off + 4, none⟩ = some (.int .i64 x.epoch) := by
  obtain ⟨a, cs, h1, _, _, h4, h5⟩ := h i xs[i] (List.getElem?_eq_getElem hi)
  cases h4
  have key : ∀ (j : Nat) (u : Value), 0 < j → ([.int .i64 xs[i].to, .int .i64 xs[i].kind, .int .i64 xs[i].job, .int .i64 xs[i].task, .int .i64 xs[i].epoch] : List Value)[j]? = some u → w.cell? ⟨(a.add (i * 5)).block, (a.add (i * 5)).off + j, none⟩ = some u := by
    intro j u hj hu
    have := h5 j u hu
    rwa [show i * Kd.out.sz + j = i * 5 + j from rfl, ← Kd.add_add, Kd.add_lit (a.add (i * 5)) j hj] at this
  exact ⟨a, xs[i], h1, List.getElem?_eq_getElem hi, h5 0 _ rfl, key 1 _ (by decide) rfl, key 2 _ (by decide) rfl, key 3 _ (by decide) rfl, key 4 _ (by decide) rfl⟩
end Go.Proofs.YtgedkcglkhleoaaDoor
