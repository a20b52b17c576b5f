/- Books: an entry's box; book.Open; siskinref20.Open, Tasks, Long; siskinref06.Same, siskinref32.Outs. -/
import Derived.Test.YtolckkckheiceaaEntryK
import Derived.Test.YtolckkckheiceaaBase
import Derived.Outline
import Derived.Deep.RegionHeld3
import Derived.Deep.QuietTactic
import Derived.BigQuiet
namespace Go.Proofs.Ytolckkckheiceaa
open Go.RowKit

theorem tasks_lt {E : EntryS} {k : Nat} (h : k < tasksN E) : k < E.needs.length ∧ k < E.bound.length ∧ k < E.done.length := by unfold tasksN at h; omega

def BoxE (w : World) (E : EntryS) (EA EB ED : Option Addr) (ea eb ed : Nat) (b : Nat) : Prop := (w.cell? ⟨b, 0, none⟩ = some (.int .i64 E.id) ∧ w.cell? ⟨b, 1, none⟩ = some (.int .i64 E.sched) ∧ w.cell? ⟨b, 2, none⟩ = some (.int .i64 E.epoch) ∧ w.cell? ⟨b, 3, none⟩ = some (.slice EA E.needs.length ea) ∧ w.cell? ⟨b, 4, none⟩ = some (.slice EB E.bound.length eb) ∧ w.cell? ⟨b, 5, none⟩ = some (.slice ED E.done.length ed)) ∧ EAt w E EA EB ED ea eb ed ∧ b < w.heap.size
theorem BoxE.below {w w1 : World} {E : EntryS} {EA EB ED : Option Addr} {ea eb ed : Nat} {b : Nat} (q : BoxE w E EA EB ED ea eb ed b) (hb : Below w.heap.size w w1) : BoxE w1 E EA EB ED ea eb ed b := by
  obtain ⟨⟨q0, q1, q2, q3, q4, q5⟩, q7, q9⟩ := q
  have m := (bcell hb).1
  have := hb.size
  exact ⟨⟨(m _ _ q9).trans q0, (m _ _ q9).trans q1, (m _ _ q9).trans q2, (m _ _ q9).trans q3, (m _ _ q9).trans q4, (m _ _ q9).trans q5⟩, q7.below hb, by omega⟩
def BoxC (w : World) (C : ConfS) (CA CB : Option Addr) (ca cb : Nat) (b : Nat) : Prop := (w.cell? ⟨b, 0, none⟩ = some (.int .i64 C.scheds) ∧ w.cell? ⟨b, 1, none⟩ = some (.int .i64 C.lease) ∧ w.cell? ⟨b, 2, none⟩ = some (.int .i64 C.again) ∧ w.cell? ⟨b, 3, none⟩ = some (.int .i64 C.room) ∧ w.cell? ⟨b, 4, none⟩ = some (.int .i64 C.out) ∧ w.cell? ⟨b, 5, none⟩ = some (.slice CA C.names.length ca) ∧ w.cell? ⟨b, 6, none⟩ = some (.slice CB C.workers.length cb)) ∧ CAt w C CA CB ca cb ∧ b < w.heap.size
theorem BoxC.below {w w1 : World} {C : ConfS} {CA CB : Option Addr} {ca cb : Nat} {b : Nat} (q : BoxC w C CA CB ca cb b) (hb : Below w.heap.size w w1) : BoxC w1 C CA CB ca cb b := by
  obtain ⟨⟨q0, q1, q2, q3, q4, q5, q6⟩, q7, q9⟩ := q
  have m := (bcell hb).1
  have := hb.size
  exact ⟨⟨(m _ _ q9).trans q0, (m _ _ q9).trans q1, (m _ _ q9).trans q2, (m _ _ q9).trans q3, (m _ _ q9).trans q4, (m _ _ q9).trans q5, (m _ _ q9).trans q6⟩, q7.below hb, by omega⟩
theorem boxE_of {w : World} {E : EntryS} {EA EB ED : Option Addr} {ea eb ed : Nat} {b : Nat} (hz : w.heap[b]? = some (.cells #[.int .i64 E.id, .int .i64 E.sched, .int .i64 E.epoch, .slice EA E.needs.length ea, .slice EB E.bound.length eb, .slice ED E.done.length ed] 29 (0, 0))) (hE : EAt w E EA EB ED ea eb ed) : BoxE w E EA EB ED ea eb ed b := ⟨box6 hz w (Below.refl _ _), hE, (Array.getElem?_eq_some_iff.1 hz).1⟩
theorem boxC_of {w : World} {C : ConfS} {CA CB : Option Addr} {ca cb : Nat} {b : Nat} (hz : w.heap[b]? = some (.cells #[.int .i64 C.scheds, .int .i64 C.lease, .int .i64 C.again, .int .i64 C.room, .int .i64 C.out, .slice CA C.names.length ca, .slice CB C.workers.length cb] 25 (0, 0))) (hC : CAt w C CA CB ca cb) : BoxC w C CA CB ca cb b := ⟨conf_box hz w (Below.refl _ _), hC, (Array.getElem?_eq_some_iff.1 hz).1⟩


theorem rowBox (w : World) (E : EntryS) (EA EB ED : Option Addr) (ea eb ed : Nat) (V : World) (hV : V = w.alloc (.cells #[.int .i64 E.id, .int .i64 E.sched, .int .i64 E.epoch, .slice EA E.needs.length ea, .slice EB E.bound.length eb, .slice ED E.done.length ed] 29)) (hE : EAt w E EA EB ED ea eb ed) : Below w.heap.size w V ∧ BoxE V E EA EB ED ea eb ed w.heap.size := by
  have hb : Below w.heap.size w V := by rw [hV]; exact bAlloc (Below.refl _ _) _
  exact ⟨hb, boxE_of (by rw [hV]; exact heap_at rfl) (hE.below hb)⟩
set_option maxHeartbeats 4000000 in
set_option maxRecDepth 100000 in
theorem bookOpen_calls (E : EntryS) (EA EB ED : Option Addr) (ea eb ed : Nat) (w : World) (hE : EAt w E EA EB ED ea eb ed) (hbl : E.bound.length ≤ 1000) :
    Calls Try.prog 60 #[.agg #[.int .i64 E.id, .int .i64 E.sched, .int .i64 E.epoch, .slice EA E.needs.length ea, .slice EB E.bound.length eb, .slice ED E.done.length ed]] w fun e w' => ∃ v, e = .returned v ∧ Own I64 3 w' w.heap.size NoT v (openL E) ∧ Below w.heap.size w w' := by
  obtain ⟨V, hV⟩ : ∃ V, V = w.alloc (.cells #[.int .i64 E.id, .int .i64 E.sched, .int .i64 E.epoch, .slice EA E.needs.length ea, .slice EB E.bound.length eb, .slice ED E.done.length ed] 29) := ⟨_, rfl⟩
  have hb0 : Below w.heap.size w V := by rw [hV]; exact bAlloc (Below.refl _ _) _
  have HBV := hid hb0
  have HBX := hid (boxE_of (b := w.heap.size) (by rw [hV]; exact heap_at rfl) (hE.below hb0))
  obtain ⟨⟨c0, c1, c2, c3, c4, c5⟩, _, _⟩ := HBX.out
  have HV := hid hV
  obtain ⟨n, hn⟩ : ∃ n, n = min E.needs.length E.bound.length := ⟨_, rfl⟩
  have hnI : min (E.needs.length : Int) (E.bound.length : Int) = (n : Int) := by omega
  have hn1 : n ≤ 1000 := by omega
  have hn2 : n ≤ E.bound.length := by omega
  have HNN := hid hn
  have HRB := hid (K_row HBX.out.2.1.bound).1
  clear hV hE hb0 hn
  go_enter Try.func60, Try.ntmps60
  go_wp2
  rw [← HV.out]
  go_loopw [3, 12] (fun o i wr => ∃ k : Nat, k ≤ n ∧ i = .int .i64 k ∧ Hid (Own I64 3 wr V.heap.size NoT o (whereN (openB E) k)) ∧ Hid (Below V.heap.size V wr)) (fun _ i _ => n - (intOf i).toNat)
  case atStart => exact ⟨0, by omega, rfl, Own.nil _ _ _ _ _, Below.refl _ _⟩
  case round =>
    obtain ⟨k, hk, rfl, HO, HB⟩ := hrel
    obtain ⟨A3, n3, c3', rfl, hq1, hq2⟩ := HO.out.shape'
    clear hq1 hq2
    by_cases hlt : k < n
    · obtain ⟨⟨d0, d1, d2, d3, d4, d5⟩, _, _⟩ := HBX.out.below HB.out
      obtain ⟨a, x, rfl, hx, r0⟩ := (HRB.out.below HB.out).at_int k (by omega)
      have HX := hid (show openB E k = decide (x = 0) by unfold openB; rw [hx]; rfl)
      have hltI : (k : Int) < (n : Int) := by omega
      have hkb : (k : Int) < (E.bound.length : Int) := by omega
      have hk0 : (0 : Int) ≤ (k : Int) := by omega
      have hln := whereN_len (openB E) k
      generalize E.bound.length = nb at *
      clear hx
      by_cases hx0 : x = 0
      · have hb : (x == 0) = true := by rw [beq_iff_eq]; exact hx0
        have HN := hid (show whereN (openB E) (k + 1) = whereN (openB E) k ++ [(k : Int)] by rw [whereN, if_pos (by rw [HX.out, decide_eq_true hx0])])
        clear hx0
        have hO := HO.out
        have hB := HB.out
        go_wp2_with (at_builtin; go_must (refine append_arm I64 (w0 := V) V.heap.size rfl _ _ 26 3 _ 8 rfl Try.underlying26 Try.infoInt rfl (by decide) (by decide) (.slice A3 n3 c3') (whereN (openB E) k) (k : Int) [.int .i64 k] NoT NoT rfl rfl rfl (fun _ h => h.elim) hO hB hB.size (by omega) ?_))
        intro v1 w2 hO1 hb1 _ _
        go_wp2
        go_roundw
        case rel => exact ⟨k + 1, by omega, by go_num, by rw [HN.out]; exact hO1, hb1⟩
        case measure => simp [intOf]; omega
      · have hb : (x == 0) = false := by rw [beq_eq_false_iff_ne]; exact hx0
        have HN := hid (show whereN (openB E) (k + 1) = whereN (openB E) k by rw [whereN, if_neg (by rw [HX.out, decide_eq_false hx0]; decide)])
        clear hx0
        go_wp2
        go_roundw
        case rel => exact ⟨k + 1, by omega, by go_num, by rw [HN.out]; exact HO.out, HB.out⟩
        case measure => simp [intOf]; omega
    · obtain rfl : k = n := by omega
      have HF := hid (show whereN (openB E) k = openL E by unfold openL; rw [← HNN.out])
      go_wp2
      go_ret
      exact ⟨_, rfl, by rw [← HF.out]; exact HO.out.lower HBV.out.size, bThen HBV.out HB.out⟩
set_option maxHeartbeats 4000000 in
set_option maxRecDepth 100000 in
theorem rtasks_calls (E : EntryS) (EA EB ED : Option Addr) (ea eb ed : Nat) (w : World) :
    Calls Try.prog 149 #[.agg #[.int .i64 E.id, .int .i64 E.sched, .int .i64 E.epoch, .slice EA E.needs.length ea, .slice EB E.bound.length eb, .slice ED E.done.length ed]] w fun e w' => e = .returned (.int .i64 (tasksN E : Nat)) ∧ Below w.heap.size w w' := by
  have HD := hid (show tasksN E = min (min E.needs.length E.bound.length) E.done.length from rfl)
  obtain ⟨n1, hn1⟩ : ∃ n1, n1 = E.needs.length := ⟨_, rfl⟩
  obtain ⟨n2, hn2⟩ : ∃ n2, n2 = E.bound.length := ⟨_, rfl⟩
  obtain ⟨n3, hn3⟩ : ∃ n3, n3 = E.done.length := ⟨_, rfl⟩
  rw [← hn1, ← hn2, ← hn3] at HD
  rw [← hn1, ← hn2, ← hn3]
  clear hn1 hn2 hn3
  by_cases h1 : n2 < n1
  · have h1I : (n2 : Int) < (n1 : Int) := by omega
    by_cases h2 : n3 < n2
    · have h2I : (n3 : Int) < (n2 : Int) := by omega
      go_enter Try.func149, Try.ntmps149
      go_wp2
      go_ret
      exact ⟨ret_int (by rw [HD.out]; omega), bAlloc (Below.refl _ _) _⟩
    · have h2I : ¬ (n3 : Int) < (n2 : Int) := by omega
      go_enter Try.func149, Try.ntmps149
      go_wp2
      go_ret
      exact ⟨ret_int (by rw [HD.out]; omega), bAlloc (Below.refl _ _) _⟩
  · have h1I : ¬ (n2 : Int) < (n1 : Int) := by omega
    by_cases h2 : n3 < n1
    · have h2I : (n3 : Int) < (n1 : Int) := by omega
      go_enter Try.func149, Try.ntmps149
      go_wp2
      go_ret
      exact ⟨ret_int (by rw [HD.out]; omega), bAlloc (Below.refl _ _) _⟩
    · have h2I : ¬ (n3 : Int) < (n1 : Int) := by omega
      go_enter Try.func149, Try.ntmps149
      go_wp2
      go_ret
      exact ⟨ret_int (by rw [HD.out]; omega), bAlloc (Below.refl _ _) _⟩
set_option maxHeartbeats 4000000 in
set_option maxRecDepth 100000 in
theorem ropen_calls (E : EntryS) (EA EB ED : Option Addr) (ea eb ed : Nat) (w : World) (hE : EAt w E EA EB ED ea eb ed) (hbl : E.bound.length ≤ 1000) :
    Calls Try.prog 15 #[.agg #[.int .i64 E.id, .int .i64 E.sched, .int .i64 E.epoch, .slice EA E.needs.length ea, .slice EB E.bound.length eb, .slice ED E.done.length ed]] w fun e w' => ∃ v, e = .returned v ∧ Own I64 3 w' w.heap.size NoT v (openL E) ∧ Below w.heap.size w w' := by
  obtain ⟨V, hV⟩ : ∃ V, V = w.alloc (.cells #[.int .i64 E.id, .int .i64 E.sched, .int .i64 E.epoch, .slice EA E.needs.length ea, .slice EB E.bound.length eb, .slice ED E.done.length ed] 29) := ⟨_, rfl⟩
  obtain ⟨hb0, hbx⟩ := rowBox w E EA EB ED ea eb ed V hV hE
  have HBV := hid hb0
  have HBX := hid hbx
  obtain ⟨⟨c0, c1, c2, c3, c4, c5⟩, _, _⟩ := hbx
  have HV := hid hV
  obtain ⟨n, hn⟩ : ∃ n, n = min E.needs.length E.bound.length := ⟨_, rfl⟩
  have HNN := hid hn
  have HRB := hid (K_row HBX.out.2.1.bound).1
  obtain ⟨n1, hn1⟩ : ∃ n1, n1 = E.needs.length := ⟨_, rfl⟩
  obtain ⟨n2, hn2⟩ : ∃ n2, n2 = E.bound.length := ⟨_, rfl⟩
  have H2 := hid hn2
  have hn' : n = min n1 n2 := by rw [hn1, hn2]; exact hn
  have hn2k : n2 ≤ 1000 := by omega
  have HNM := hid hn'
  have hle1 : n ≤ n1 := by omega
  have hle2 : n ≤ n2 := by omega
  have HCX := hid (fun (u : World) (hb : Below V.heap.size V u) => show (u.cell? ⟨w.heap.size, 3, none⟩ = some (.slice EA n1 ea) ∧ u.cell? ⟨w.heap.size, 4, none⟩ = some (.slice EB n2 eb)) from by
    obtain ⟨⟨_, _, _, d3, d4, _⟩, _, _⟩ := HBX.out.below hb
    rw [hn1, hn2]; exact ⟨d3, d4⟩)
  rw [← hn1] at c3 HV ⊢
  rw [← hn2] at c4 HV ⊢
  clear hV hE hb0 hn hn1 hn2 hn' hbl
  go_enter Try.func15, Try.ntmps15
  go_wp2
  rw [← HV.out]
  go_loopw [3, 4] (fun o i wr => ∃ k : Nat, k ≤ n ∧ i = .int .i64 k ∧ Hid (Own I64 3 wr V.heap.size NoT o (whereN (openB E) k)) ∧ Hid (Below V.heap.size V wr)) (fun _ i _ => n - (intOf i).toNat)
  case atStart => exact ⟨0, by omega, rfl, Own.nil _ _ _ _ _, Below.refl _ _⟩
  case round =>
    obtain ⟨k, hk, rfl, HO, HB⟩ := hrel
    obtain ⟨A3, n3, c3', rfl, hq1, hq2⟩ := HO.out.shape'
    obtain ⟨d3, d4⟩ := HCX.out wr HB.out
    clear hq1 hq2
    by_cases hlt : k < n
    · obtain ⟨a, x, rfl, hx, r0⟩ := (HRB.out.below HB.out).at_int k (by rw [← H2.out]; omega)
      have HX := hid (show openB E k = decide (x = 0) by unfold openB; rw [hx]; rfl)
      have i1 : (k : Int) < (n1 : Int) := by omega
      have i2 : (k : Int) < (n2 : Int) := by omega
      have hk0 : (0 : Int) ≤ (k : Int) := by omega
      have hln := whereN_len (openB E) k
      clear hx
      by_cases hx0 : x = 0
      · have hb : (x == 0) = true := by rw [beq_iff_eq]; exact hx0
        have HN := hid (show whereN (openB E) (k + 1) = whereN (openB E) k ++ [(k : Int)] by rw [whereN, if_pos (by rw [HX.out, decide_eq_true hx0])])
        clear hx0
        have hO := HO.out
        have hB := HB.out
        go_wp2_with (at_builtin; go_must (refine append_arm I64 (w0 := V) V.heap.size rfl _ _ 26 3 _ 8 rfl Try.underlying26 Try.infoInt rfl (by decide) (by decide) (.slice A3 n3 c3') (whereN (openB E) k) (k : Int) [.int .i64 k] NoT NoT rfl rfl rfl (fun _ h => h.elim) hO hB hB.size (by omega) ?_))
        intro v1 w2 hO1 hb1 _ _
        go_wp2
        go_roundw
        case rel => exact ⟨k + 1, by omega, by go_num, by rw [HN.out]; exact hO1, hb1⟩
        case measure => simp [intOf]; omega
      · have hb : (x == 0) = false := by rw [beq_eq_false_iff_ne]; exact hx0
        have HN := hid (show whereN (openB E) (k + 1) = whereN (openB E) k by rw [whereN, if_neg (by rw [HX.out, decide_eq_false hx0]; decide)])
        clear hx0
        go_wp2
        go_roundw
        case rel => exact ⟨k + 1, by omega, by go_num, by rw [HN.out]; exact HO.out, HB.out⟩
        case measure => simp [intOf]; omega
    · obtain rfl : k = n := by omega
      have HF := hid (show whereN (openB E) k = openL E by unfold openL; rw [← HNN.out])
      have hnm := HNM.out
      by_cases z1 : k < n1
      · have i1 : (k : Int) < (n1 : Int) := by omega
        have i2 : ¬ (k : Int) < (n2 : Int) := by omega
        clear hnm
        go_wp2
        go_ret
        exact ⟨_, rfl, by rw [← HF.out]; exact HO.out.lower HBV.out.size, bThen HBV.out HB.out⟩
      · have i1 : ¬ (k : Int) < (n1 : Int) := by omega
        clear hnm
        go_wp2
        go_ret
        exact ⟨_, rfl, by rw [← HF.out]; exact HO.out.lower HBV.out.size, bThen HBV.out HB.out⟩

def longE (E : EntryS) : Bool := longB E.needs 30 300 || decide (30 < E.bound.length) || decide (30 < E.done.length)
def longEs (es : List EntryS) : Bool := es.any longE || decide (60 < es.length)
theorem Kd.Row.at_entry {w : World} {S : Nat → Prop} {A : Option Addr} {xs : List EntryS} (h : Kd.entry.Row w S A xs) (i : Nat) (hi : i < xs.length) :
    ∃ a E EA EB ED ea eb ed, A = some a ∧ xs[i]? = some E ∧ Kd.str.slice.K w S E.needs [.slice EA E.needs.length ea] ∧ I64.slice.K w S E.bound [.slice EB E.bound.length eb] ∧ Kd.bool.slice.K w S E.done [.slice ED E.done.length ed] ∧
      w.cell? (a.add (i * 6)) = some (.int .i64 E.id) ∧ w.cell? ⟨(a.add (i * 6)).block, (a.add (i * 6)).off + 1, none⟩ = some (.int .i64 E.sched) ∧ w.cell? ⟨(a.add (i * 6)).block, (a.add (i * 6)).off + 2, none⟩ = some (.int .i64 E.epoch) ∧ w.cell? ⟨(a.add (i * 6)).block, (a.add (i * 6)).off + 3, none⟩ = some (.slice EA E.needs.length ea) ∧ w.cell? ⟨(a.add (i * 6)).block, (a.add (i * 6)).off + 4, none⟩ = some (.slice EB E.bound.length eb) ∧ w.cell? ⟨(a.add (i * 6)).block, (a.add (i * 6)).off + 5, none⟩ = some (.slice ED E.done.length ed) := by
  obtain ⟨a, cs, h1, _, _, h4, h5⟩ := h i xs[i] (List.getElem?_eq_getElem hi)
  obtain ⟨EA, ea, EB, eb, ED, ed, rfl, k1, k2, k3⟩ := entry_cells h4
  have key : ∀ (j : Nat) (u : Value), 0 < j → ([.int .i64 xs[i].id, .int .i64 xs[i].sched, .int .i64 xs[i].epoch, .slice EA xs[i].needs.length ea, .slice EB xs[i].bound.length eb, .slice ED xs[i].done.length ed] : List Value)[j]? = some u → w.cell? ⟨(a.add (i * 6)).block, (a.add (i * 6)).off + j, none⟩ = some u := by
    intro j u hj hu
    have := h5 j u hu
    rwa [show i * Kd.entry.sz + j = i * 6 + j from rfl, ← Kd.add_add, Kd.add_lit (a.add (i * 6)) j hj] at this
  exact ⟨a, xs[i], EA, EB, ED, ea, eb, ed, h1, List.getElem?_eq_getElem hi, k1, k2, k3, h5 0 _ rfl, key 1 _ (by decide) rfl, key 2 _ (by decide) rfl, key 3 _ (by decide) rfl, key 4 _ (by decide) rfl, key 5 _ (by decide) rfl⟩
set_option maxHeartbeats 4000000 in
set_option maxRecDepth 100000 in
theorem rlong20_calls (es : List EntryS) (v : Value) (w : World) (hl : Kd.entry.slice.K w Any es [v]) :
    Calls Try.prog 11 #[v] w fun e w' => e = .returned (.bool (longEs es)) ∧ w = w' := by
  obtain ⟨A, c, he, hc, hm, hr⟩ := hl
  cases he
  have HR := hid hr
  obtain ⟨q, hq⟩ : ∃ q, es.length = q := ⟨_, rfl⟩
  have HQ := hid hq
  rw [hq] at hc hm ⊢
  clear hr hq
  go_enter Try.func11, Try.ntmps11
  go_wp2
  go_loop [3] (fun i => ∃ k : Nat, k ≤ q ∧ i = .int .i64 k ∧ Hid ((es.take k).any longE = false)) (fun i => q - (intOf i).toNat)
  case atStart => exact ⟨0, by omega, rfl, rfl⟩
  case round =>
    obtain ⟨k, hk, rfl, HN⟩ := hrel
    by_cases hlt : k < q
    · obtain ⟨a, E, EA, EB, ED, ea, eb, ed, rfl, hx, k1, k2, k3, r0, r1, r2, r3, r4, r5⟩ := HR.out.at_entry k (by rw [HQ.out]; exact hlt)
      have HX := hid hx
      have hltI : (k : Int) < (q : Int) := by omega
      have hk0 : (0 : Int) ≤ (k : Int) := by omega
      have HK := hid k1
      have HD := hid (show longE E = (longB E.needs 30 300 || decide (30 < E.bound.length) || decide (30 < E.done.length)) from rfl)
      have HSN := hid (show (es.take (k + 1)).any longE = longE E by rw [take_snoc HX.out, List.any_append, HN.out]; simp)
      have HYES := hid (fun h : longE E = true => show longEs es = true by unfold longEs; rw [Bool.or_eq_true]; left; exact List.any_eq_true.2 ⟨E, List.mem_of_getElem? HX.out, h⟩)
      obtain ⟨n1, hn1⟩ : ∃ n1, n1 = E.bound.length := ⟨_, rfl⟩
      obtain ⟨n2, hn2⟩ : ∃ n2, n2 = E.done.length := ⟨_, rfl⟩
      rw [← hn1] at r4 HD
      rw [← hn2] at r5 HD
      clear hx k1 k2 k3 r0 r1 r2 hn1 hn2
      go_wp2_with fail
      refine (long_calls E.needs 30 300 _ _ HK.out).mono ?_
      rintro e w1 ⟨rfl, rfl⟩
      cases hlb : longB E.needs 30 300
      case true =>
        have HF := hid (HYES.out (by rw [HD.out, hlb]; rfl))
        clear hlb
        go_wp2
        go_ret
        rw [HF.out]
        exact ⟨rfl, rfl⟩
      rw [hlb] at HD
      clear hlb
      by_cases h1 : 30 < n1
      · have h1I : (30 : Int) < (n1 : Int) := by omega
        have HF := hid (HYES.out (by rw [HD.out, decide_eq_true h1]; rfl))
        go_wp2
        go_ret
        rw [HF.out]
        exact ⟨rfl, rfl⟩
      have h1I : ¬ (30 : Int) < (n1 : Int) := by omega
      by_cases h2 : 30 < n2
      · have h2I : (30 : Int) < (n2 : Int) := by omega
        have HF := hid (HYES.out (by rw [HD.out, decide_eq_true h2, Bool.or_true]))
        go_wp2
        go_ret
        rw [HF.out]
        exact ⟨rfl, rfl⟩
      have h2I : ¬ (30 : Int) < (n2 : Int) := by omega
      have HN2 := hid (show (es.take (k + 1)).any longE = false by rw [HSN.out, HD.out, decide_eq_false h1, decide_eq_false h2]; rfl)
      go_wp2
      go_round
      case rel => exact ⟨k + 1, by omega, by go_num, HN2⟩
      case measure => simp [intOf]; omega
    · obtain rfl : k = q := by omega
      have e : es.take k = es := by rw [List.take_of_length_le]; rw [HQ.out]; exact Nat.le_refl _
      have HF := hid (show longEs es = decide (60 < k) by unfold longEs; rw [← e, HN.out, e, HQ.out]; rfl)
      clear e
      by_cases h60 : 60 < k
      · have hI : (60 : Int) < (k : Int) := by omega
        go_wp2
        go_ret
        exact ⟨ret_bool (by rw [HF.out]; simp [h60]), rfl⟩
      · have hI : ¬ (60 : Int) < (k : Int) := by omega
        go_wp2
        go_ret
        exact ⟨ret_bool (by rw [HF.out]; simp [h60]; try omega), rfl⟩
set_option maxHeartbeats 4000000 in
set_option maxRecDepth 100000 in
theorem isame_calls (l : List Int) (v1 v2 : Value) (w : World) (h1 : I64.slice.K w Any l [v1]) (h2 : I64.slice.K w Any l [v2]) :
    Calls Try.prog 21 #[v1, v2] w fun e w' => e = .returned (.bool true) ∧ ∃ n, w' = w.drewN n := by
  obtain ⟨A, c, he, hc, hm, hr⟩ := h1
  cases he
  obtain ⟨B, d, he, hd, _, hr2⟩ := h2
  cases he
  obtain ⟨q, hq⟩ : ∃ q, l.length = q := ⟨_, rfl⟩
  have HQ := hid hq
  have HR := hid hr
  have HR2 := hid hr2
  rw [hq] at hc hm hd ⊢
  have hqq : ((q : Int) == (q : Int)) = true := beq_self_eq_true _
  have hqn : ((q : Int) != (q : Int)) = false := bne_self_eq_false _
  clear hr hr2 hq
  go_enter Try.func21, Try.ntmps21
  go_wp2
  go_loopw [5] (fun i wr => ∃ k n : Nat, k ≤ q ∧ i = .int .i64 k ∧ wr = w.drewN n) (fun i _ => q - (intOf i).toNat)
  case atStart => exact ⟨0, 0, by omega, rfl, rfl⟩
  case round =>
    obtain ⟨k, n, hk, rfl, rfl⟩ := hrel
    by_cases hlt : k < q
    · obtain ⟨a, x, rfl, hx, r0⟩ := HR.out.at_int k (by rw [HQ.out]; exact hlt)
      obtain ⟨b, x', rfl, hx', s0⟩ := HR2.out.at_int k (by rw [HQ.out]; exact hlt)
      rw [hx] at hx'
      obtain rfl := Option.some.inj hx'
      have e2 : (x != x) = false := bne_self_eq_false _
      have hltI : (k : Int) < (q : Int) := by omega
      have hk0 : (0 : Int) ≤ (k : Int) := by omega
      clear hx hx'
      go_wp2
      go_quiet (fail)
      go_wp2
      go_roundw
      case rel => first | exact ⟨k + 1, _, by omega, by go_num, rfl⟩ | ((repeat apply Exists.intro); exact ⟨⟨k + 1, _, by omega, by go_num, rfl⟩, rfl⟩)
      case measure => simp [intOf]; omega
    · obtain rfl : k = q := by omega
      go_wp2
      go_ret
      exact ⟨rfl, n, rfl⟩
theorem Kd.Row.at_out2 {w : World} {S : Nat → Prop} {A : Option Addr} {xs : List OutS} (h : Kd.out.Row w S A xs) (i : Nat) (hi : i < xs.length) :
    ∃ a x, A = some a ∧ xs[i]? = some x ∧ w.cell? (a.add (i * 5)) = some (.int .i64 x.to) ∧ w.cell? ⟨(a.add (i * 5)).block, (a.add (i * 5)).off + 1, none⟩ = some (.int .i64 x.kind) ∧ w.cell? ⟨(a.add (i * 5)).block, (a.add (i * 5)).off + 2, none⟩ = some (.int .i64 x.job) ∧ w.cell? ⟨(a.add (i * 5)).block, (a.add (i * 5)).off + 3, none⟩ = some (.int .i64 x.task) ∧ w.cell? ⟨(a.add (i * 5)).block, (a.add (i * 5)).off + 4, none⟩ = some (.int .i64 x.epoch) := by
  obtain ⟨a, cs, h1, _, _, h4, h5⟩ := h i xs[i] (List.getElem?_eq_getElem hi)
  cases h4
  have key : ∀ (j : Nat) (u : Value), 0 < j → ([.int .i64 xs[i].to, .int .i64 xs[i].kind, .int .i64 xs[i].job, .int .i64 xs[i].task, .int .i64 xs[i].epoch] : List Value)[j]? = some u → w.cell? ⟨(a.add (i * 5)).block, (a.add (i * 5)).off + j, none⟩ = some u := by
    intro j u hj hu
    have := h5 j u hu
    rwa [show i * Kd.out.sz + j = i * 5 + j from rfl, ← Kd.add_add, Kd.add_lit (a.add (i * 5)) j hj] at this
  exact ⟨a, xs[i], h1, List.getElem?_eq_getElem hi, h5 0 _ rfl, key 1 _ (by decide) rfl, key 2 _ (by decide) rfl, key 3 _ (by decide) rfl, key 4 _ (by decide) rfl⟩
set_option maxHeartbeats 4000000 in
set_option maxRecDepth 100000 in
theorem outs_calls (l : List OutS) (v1 v2 : Value) (w : World) (h1 : Kd.out.slice.K w Any l [v1]) (h2 : Kd.out.slice.K w Any l [v2]) :
    Calls Try.prog 27 #[v1, v2] w fun e w' => e = .returned (.bool true) ∧ ∃ n, w' = w.drewN n := by
  obtain ⟨A, c, he, hc, hm, hr⟩ := h1
  cases he
  obtain ⟨B, d, he, hd, _, hr2⟩ := h2
  cases he
  obtain ⟨q, hq⟩ : ∃ q, l.length = q := ⟨_, rfl⟩
  have HQ := hid hq
  have HR := hid hr
  have HR2 := hid hr2
  rw [hq] at hc hm hd ⊢
  have hqq : ((q : Int) == (q : Int)) = true := beq_self_eq_true _
  have hqn : ((q : Int) != (q : Int)) = false := bne_self_eq_false _
  clear hr hr2 hq
  go_enter Try.func27, Try.ntmps27
  go_wp2
  go_loopw [5] (fun i wr => ∃ k n : Nat, k ≤ q ∧ i = .int .i64 k ∧ wr = w.drewN n) (fun i _ => q - (intOf i).toNat)
  case atStart => exact ⟨0, 0, by omega, rfl, rfl⟩
  case round =>
    obtain ⟨k, n, hk, rfl, rfl⟩ := hrel
    by_cases hlt : k < q
    · obtain ⟨a, x, rfl, hx, r0, r1, r2, r3, r4⟩ := HR.out.at_out2 k (by rw [HQ.out]; exact hlt)
      obtain ⟨b, x', rfl, hx', s0, s1, s2, s3, s4⟩ := HR2.out.at_out2 k (by rw [HQ.out]; exact hlt)
      rw [hx] at hx'
      obtain rfl := Option.some.inj hx'
      have hltI : (k : Int) < (q : Int) := by omega
      have hk0 : (0 : Int) ≤ (k : Int) := by omega
      clear hx hx'
      go_wp2
      go_quiet (fail)
      go_wp2
      go_roundw
      case rel => first | exact ⟨k + 1, _, by omega, by go_num, rfl⟩ | ((repeat apply Exists.intro); exact ⟨⟨k + 1, _, by omega, by go_num, rfl⟩, rfl⟩)
      case measure => simp [intOf]; omega
    · obtain rfl : k = q := by omega
      go_wp2
      go_ret
      exact ⟨rfl, n, rfl⟩
end Go.Proofs.Ytolckkckheiceaa
