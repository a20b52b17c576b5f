/- event.Running, siskinref39.Running: how many tasks run at a worker. -/
import Derived.Test.YtgedkcglkhleoaaGreatDoorEvt0
import Derived.Test.YtgedkcglkhleoaaGreatDoorTasks
import Derived.Test.YtgedkcglkhleoaaGreatDoorBase
namespace Go.Proofs.YtgedkcglkhleoaaGreatDoor
open Go.RowKit

theorem tasks_fits {E : EntryS} (h : Fits E) : tasksE E ≤ 1000000 := by
  have := h.needs
  unfold tasksE
  omega
theorem runB_bound {b : List EntryS} (h : ∀ E ∈ b, Fits E) (j : Int) : ∀ k, k ≤ b.length → runB (b.take k) j ≤ k * 1000000
  | 0, _ => by simp [runB]
  | k + 1, hk => by
    have ih := runB_bound h j k (by omega)
    have hx : b[k]? = some b[k] := List.getElem?_eq_getElem (by omega)
    rw [runB_take hx]
    have h1 := runE_le b[k] j (tasksE b[k])
    have h2 := tasks_fits (h b[k] (List.getElem_mem _))
    omega
theorem at_getD {l : List Int} {i : Nat} {x : Int} (h : l[i]? = some x) : l.getD i 0 = x := by rw [List.getD_eq_getElem?_getD, h]; rfl
theorem at_getDb {l : List Bool} {i : Nat} {x : Bool} (h : l[i]? = some x) : l.getD i false = x := by rw [List.getD_eq_getElem?_getD, h]; rfl
theorem runsT_at {E : EntryS} {k x : Int} {i : Nat} {d : Bool} (h : E.bound[i]? = some x) (hd : E.done[i]? = some d) : runsT E k i = (decide (0 < x) && (decide (x - 1 = k) && !d)) := by
  unfold runsT
  rw [at_getD h, at_getDb hd]
theorem wrap_pred {x : Int} (h0 : 0 < x) (h1 : x ≤ 9223372036854775807) : IntKind.i64.wrap (x - 1) = x - 1 := IntWalk.i64_in _ (by omega)
set_option maxHeartbeats 4000000 in
set_option maxRecDepth 100000 in
theorem erunning_calls (b : List EntryS) (v : Value) (j : Int) (w : World) (hb : Kd.entry.slice.K w Any b [v]) (hF : ∀ E ∈ b, Fits E) (hl : b.length ≤ 1000) (hi : ∀ E ∈ b, ∀ x ∈ E.bound, x ≤ 9223372036854775807) :
    Calls Tryz.prog 13 #[v, .int .i64 j] w fun e w' => e = .returned (.int .i64 (runB b j : Nat)) ∧ Below w.heap.size w w' := by
  obtain ⟨A, c, he, hc, hm, hr⟩ := hb
  cases he
  have HR := hid hr
  have HF := hid hF
  have HI := hid hi
  have HBD := hid (runB_bound hF j)
  obtain ⟨q, hq⟩ : ∃ q, b.length = q := ⟨_, rfl⟩
  have HQ := hid hq
  rw [hq] at hc hm hl ⊢
  clear hr hq hF hi
  go_enter Tryz.func13, Tryz.ntmps13
  go_wp2
  go_loopw [5, 11] (fun n i wr => ∃ (k s : Nat), k ≤ q ∧ i = .int .i64 k ∧ n = .int .i64 s ∧ Hid (s = runB (b.take k) j) ∧ Hid (Below w.heap.size w wr)) (fun _ i _ => q - (intOf i).toNat)
  case atStart => exact ⟨0, 0, by omega, rfl, rfl, hid (by simp [runB]), hid (Below.refl _ _)⟩
  case round =>
    obtain ⟨k, s, hk, rfl, rfl, HSS, HB⟩ := hrel
    by_cases hlt : k < q
    · obtain ⟨a, E, EA, EB, ED, ea, eb, ed, rfl, hx, k1, k2, k3, r0, r1, r2, r3, r4, r5⟩ := (HR.out.below HB.out).at_entry k (by rw [HQ.out]; exact hlt)
      have hltI : (k : Int) < (q : Int) := by omega
      have hk0 : (0 : Int) ≤ (k : Int) := by omega
      have HX := hid hx
      have HFE := hid (HF.out E (List.mem_of_getElem? hx))
      have HIE := hid (HI.out E (List.mem_of_getElem? hx))
      have hbd := HBD.out (k + 1) (by rw [HQ.out]; omega)
      have HST := hid (show runB (b.take (k + 1)) j = s + runE E j (tasksE E) by rw [runB_take hx, HSS.out])
      rw [HST.out] at hbd
      have HTF := hid (tasks_fits HFE.out)
      obtain ⟨Wa, hWa⟩ : ∃ Wa, Wa = wr.alloc (.cells #[.int .i64 E.id, .int .i64 E.sched, .int .i64 E.epoch, .slice EA E.needs.length ea, .slice EB E.bound.length eb, .slice ED E.done.length ed] 45) := ⟨_, rfl⟩
      have HBa := hid (show Below wr.heap.size wr Wa by rw [hWa]; exact bAlloc (Below.refl _ _) _)
      have HZa := hid (show Wa.heap[wr.heap.size]? = some (.cells #[.int .i64 E.id, .int .i64 E.sched, .int .i64 E.epoch, .slice EA E.needs.length ea, .slice EB E.bound.length eb, .slice ED E.done.length ed] 45 (0, 0)) by rw [hWa]; exact heap_at rfl)
      have HRB := hid (K_row (Kd.below k2 HBa.out)).1
      have HRD := hid (K_row (Kd.below k3 HBa.out)).1
      obtain ⟨y1, _, _⟩ := cells_of_block HZa.out
      have z0 := y1 0 _ rfl
      have z1 := y1 1 _ rfl
      have z2 := y1 2 _ rfl
      have z3 := y1 3 _ rfl
      have z4 := y1 4 _ rfl
      have z5 := y1 5 _ rfl
      have hEqa := hWa.symm
      clear hx k1 k2 k3 y1 hWa
      go_wp2_with fail
      refine (etasks_calls E EA EB ED ea eb ed Wa).mono ?_
      rintro e w1 ⟨rfl, hb1⟩
      have HB1 := hid hb1
      obtain ⟨t, ht⟩ : ∃ t, t = tasksE E := ⟨_, rfl⟩
      have HT := hid ht
      rw [← ht] at hbd ⊢
      clear ht hb1 z0 z1 z2 z3 z4 z5 r0 r1 r2 r3 r4 r5 hEqa
      go_wp2
      go_loopw [5, 17] (fun n i ws => ∃ (m r : Nat), m ≤ t ∧ i = .int .i64 m ∧ n = .int .i64 r ∧ Hid (r = s + runE E j m) ∧ Hid (Below Wa.heap.size Wa ws)) (fun _ i _ => t - (intOf i).toNat)
      case atStart => exact ⟨0, s, by omega, rfl, rfl, hid (by simp [runE]), HB1⟩
      case round =>
        obtain ⟨m, r, hm2, rfl, rfl, HRR, HBs⟩ := hrel
        obtain ⟨y1, _, _⟩ := cells_of_block ((HBs.out.block _ (Array.getElem?_eq_some_iff.1 HZa.out).1).trans HZa.out)
        have z4 := y1 4 _ rfl
        have z5 := y1 5 _ rfl
        clear y1
        by_cases hml : m < t
        · have hlt2 : m < E.bound.length ∧ m < E.done.length := by have := HT.out; unfold tasksE at this; omega
          obtain ⟨ab, x, rfl, hx, p0⟩ := (HRB.out.below HBs.out).at_int m hlt2.1
          obtain ⟨ad, d, rfl, hd, p1⟩ := (HRD.out.below HBs.out).at_bool m hlt2.2
          have HRT := hid (runsT_at (k := j) hx hd)
          have hxm := HIE.out x (List.mem_of_getElem? hx)
          have hmI : (m : Int) < (t : Int) := by omega
          have hm0 : (0 : Int) ≤ (m : Int) := by omega
          have hmb : (m : Int) < (E.bound.length : Int) := by omega
          have hmd : (m : Int) < (E.done.length : Int) := by omega
          have hrm := runE_le E j m
          have hmx : m < 1000000 := by have := HTF.out; have := HT.out; omega
          have hrb : (r : Int) + 1 < 9000000000000000000 := by
            have := HRR.out
            have := HTF.out
            have := HT.out
            have := HBD.out k (by rw [HQ.out]; omega)
            have := HSS.out
            omega
          have hw : IntKind.i64.wrap ((r : Int) + 1) = ((r + 1 : Nat) : Int) := by rw [IntWalk.i64_in _ (by omega)]; omega
          clear hx hd
          by_cases h0 : 0 < x
          case neg =>
            have HR2 := hid (show r = s + runE E j (m + 1) by rw [runE_succ, HRT.out, decide_eq_false h0, HRR.out]; simp)
            go_wp2
            go_roundw
            case rel => exact ⟨m + 1, r, by omega, by go_num, rfl, HR2, HBs⟩
            case measure => simp [intOf]; omega
          have hp := wrap_pred h0 hxm
          by_cases h1 : x - 1 = j
          case neg =>
            have he : (x - 1 == j) = false := beq_false_of_ne h1
            have HR2 := hid (show r = s + runE E j (m + 1) by rw [runE_succ, HRT.out, decide_eq_false h1, HRR.out]; simp)
            go_wp2
            go_roundw
            case rel => exact ⟨m + 1, r, by omega, by go_num, rfl, HR2, HBs⟩
            case measure => simp [intOf]; omega
          have he : (x - 1 == j) = true := by rw [h1]; exact beq_self_eq_true _
          have H1 := hid h1
          clear h1
          cases d
          case true =>
            have HR2 := hid (show r = s + runE E j (m + 1) by rw [runE_succ, HRT.out, show (!true) = false from rfl, HRR.out]; simp)
            go_wp2
            go_roundw
            case rel => exact ⟨m + 1, r, by omega, by go_num, rfl, HR2, HBs⟩
            case measure => simp [intOf]; omega
          have HR2 := hid (show r + 1 = s + runE E j (m + 1) by rw [runE_succ, HRT.out, decide_eq_true h0, decide_eq_true H1.out, HRR.out]; simp; omega)
          go_wp2
          go_roundw
          case rel => exact ⟨m + 1, r + 1, by omega, by go_num, congrArg _ (by omega), HR2, HBs⟩
          case measure => simp [intOf]; omega
        · obtain rfl : m = t := by omega
          have HR2 := hid (show r = runB (b.take (k + 1)) j by rw [HST.out, HRR.out, HT.out])
          have HB2 := hid (HB.out.trans ((bThen HBa.out HBs.out).mono HB.out.size))
          go_wp2
          go_roundw
          case rel => exact ⟨k + 1, r, by omega, by go_num, rfl, HR2, HB2⟩
          case measure => simp [intOf]; omega
    · obtain rfl : k = q := by omega
      have HFN := hid (show s = runB b j by rw [HSS.out, List.take_of_length_le (by rw [HQ.out]; exact Nat.le_refl _)])
      go_wp2
      go_ret
      rw [← HFN.out]
      exact ⟨rfl, HB.out⟩
set_option maxHeartbeats 4000000 in
set_option maxRecDepth 100000 in
theorem rrunning39_calls (b : List EntryS) (v : Value) (j : Int) (w : World) (hb : Kd.entry.slice.K w Any b [v]) (hF : ∀ E ∈ b, Fits E) (hl : b.length ≤ 1000) (hi : ∀ E ∈ b, ∀ x ∈ E.bound, x ≤ 9223372036854775807) :
    Calls Tryz.prog 14 #[v, .int .i64 j] w fun e w' => e = .returned (.int .i64 (runB b j : Nat)) ∧ Below w.heap.size w w' := by
  obtain ⟨A, c, he, hc, hm, hr⟩ := hb
  cases he
  have HR := hid hr
  have HF := hid hF
  have HI := hid hi
  have HBD := hid (runB_bound hF j)
  obtain ⟨q, hq⟩ : ∃ q, b.length = q := ⟨_, rfl⟩
  have HQ := hid hq
  rw [hq] at hc hm hl ⊢
  clear hr hq hF hi
  go_enter Tryz.func14, Tryz.ntmps14
  go_wp2
  go_loopw [5, 6] (fun n i wr => ∃ (k s : Nat), k ≤ q ∧ i = .int .i64 k ∧ n = .int .i64 s ∧ Hid (s = runB (b.take k) j) ∧ Hid (Below w.heap.size w wr)) (fun _ i _ => q - (intOf i).toNat)
  case atStart => exact ⟨0, 0, by omega, rfl, rfl, hid (by simp [runB]), hid (Below.refl _ _)⟩
  case round =>
    obtain ⟨k, s, hk, rfl, rfl, HSS, HB⟩ := hrel
    by_cases hlt : k < q
    · obtain ⟨a, E, EA, EB, ED, ea, eb, ed, rfl, hx, k1, k2, k3, r0, r1, r2, r3, r4, r5⟩ := (HR.out.below HB.out).at_entry k (by rw [HQ.out]; exact hlt)
      have hltI : (k : Int) < (q : Int) := by omega
      have hk0 : (0 : Int) ≤ (k : Int) := by omega
      have HFE := hid (HF.out E (List.mem_of_getElem? hx))
      have HIE := hid (HI.out E (List.mem_of_getElem? hx))
      have HST := hid (show runB (b.take (k + 1)) j = s + runE E j (tasksE E) by rw [runB_take hx, HSS.out])
      have HTF := hid (tasks_fits HFE.out)
      have HRB := hid (K_row k2).1
      have HRD := hid (K_row k3).1
      have HCS := hid (fun (u : World) (hb : Below wr.heap.size wr u) => show (u.cell? (a.add (k * 6)) = some (.int .i64 E.id) ∧ u.cell? ⟨(a.add (k * 6)).block, (a.add (k * 6)).off + 1, none⟩ = some (.int .i64 E.sched) ∧ u.cell? ⟨(a.add (k * 6)).block, (a.add (k * 6)).off + 2, none⟩ = some (.int .i64 E.epoch) ∧ u.cell? ⟨(a.add (k * 6)).block, (a.add (k * 6)).off + 3, none⟩ = some (.slice EA E.needs.length ea) ∧ u.cell? ⟨(a.add (k * 6)).block, (a.add (k * 6)).off + 4, none⟩ = some (.slice EB E.bound.length eb) ∧ u.cell? ⟨(a.add (k * 6)).block, (a.add (k * 6)).off + 5, none⟩ = some (.slice ED E.done.length ed)) from
        ⟨(hb.cell (World.block_lt_of_cell? _ _ r0)).trans r0, (hb.cell (World.block_lt_of_cell? _ _ r1)).trans r1, (hb.cell (World.block_lt_of_cell? _ _ r2)).trans r2, (hb.cell (World.block_lt_of_cell? _ _ r3)).trans r3, (hb.cell (World.block_lt_of_cell? _ _ r4)).trans r4, (hb.cell (World.block_lt_of_cell? _ _ r5)).trans r5⟩)
      obtain ⟨t, ht⟩ : ∃ t, t = tasksE E := ⟨_, rfl⟩
      have HT := hid ht
      clear hx k1 k2 k3 ht r0 r1 r2 r3 r4 r5
      go_wp2
      go_loopw [5, 7] (fun n i ws => ∃ (m r : Nat), m ≤ t ∧ i = .int .i64 m ∧ n = .int .i64 r ∧ Hid (r = s + runE E j m) ∧ Hid (Below wr.heap.size wr ws)) (fun _ i _ => t - (intOf i).toNat)
      case atStart => exact ⟨0, s, by omega, rfl, rfl, hid (by simp [runE]), hid (Below.refl _ _)⟩
      case round =>
        obtain ⟨m, r, hm2, rfl, rfl, HRR, HBs⟩ := hrel
        obtain ⟨r0, r1, r2, r3, r4, r5⟩ := HCS.out _ HBs.out
        go_wp2_with fail
        refine (rtasks20_calls E EA EB ED ea eb ed _).mono ?_
        rintro e w2 ⟨rfl, hb2⟩
        have HB2 := hid (bThen HBs.out hb2)
        clear hb2 r0 r1 r2 r3 r4 r5
        obtain ⟨r0, r1, r2, r3, r4, r5⟩ := HCS.out w2 HB2.out
        rw [← HT.out]
        by_cases hml : m < t
        · have hlt2 : m < E.bound.length ∧ m < E.done.length := by have := HT.out; unfold tasksE at this; omega
          obtain ⟨ab, x, rfl, hx, p0⟩ := (HRB.out.below HB2.out).at_int m hlt2.1
          obtain ⟨ad, d, rfl, hd, p1⟩ := (HRD.out.below HB2.out).at_bool m hlt2.2
          have HRT := hid (runsT_at (k := j) hx hd)
          have hxm := HIE.out x (List.mem_of_getElem? hx)
          have hmI : (m : Int) < (t : Int) := by omega
          have hm0 : (0 : Int) ≤ (m : Int) := by omega
          have hmb : (m : Int) < (E.bound.length : Int) := by omega
          have hmd : (m : Int) < (E.done.length : Int) := by omega
          have hrm := runE_le E j m
          have hmx : m < 1000000 := by have := HTF.out; have := HT.out; omega
          have hrb : (r : Int) + 1 < 9000000000000000000 := by
            have := HRR.out
            have := HTF.out
            have := HT.out
            have := HBD.out k (by rw [HQ.out]; omega)
            have := HSS.out
            omega
          have hw : IntKind.i64.wrap ((r : Int) + 1) = ((r + 1 : Nat) : Int) := by rw [IntWalk.i64_in _ (by omega)]; omega
          have HXM := hid hxm
          clear hx hd hrb hrm hxm
          by_cases h0 : 0 < x
          case neg =>
            have HR2 := hid (show r = s + runE E j (m + 1) by rw [runE_succ, HRT.out, decide_eq_false h0, HRR.out]; simp)
            go_wp2
            all_goals go_roundw
            all_goals first | exact ⟨m + 1, r, by omega, by go_num, rfl, HR2, HB2⟩ | (simp [intOf]; omega)
          have hp := wrap_pred h0 HXM.out
          by_cases h1 : x - 1 = j
          case neg =>
            have he : (x - 1 == j) = false := beq_false_of_ne h1
            have HR2 := hid (show r = s + runE E j (m + 1) by rw [runE_succ, HRT.out, decide_eq_false h1, HRR.out]; simp)
            go_wp2
            all_goals go_roundw
            all_goals first | exact ⟨m + 1, r, by omega, by go_num, rfl, HR2, HB2⟩ | (simp [intOf]; omega)
          have he : (x - 1 == j) = true := by rw [h1]; exact beq_self_eq_true _
          have H1 := hid h1
          clear h1
          cases d
          case true =>
            have HR2 := hid (show r = s + runE E j (m + 1) by rw [runE_succ, HRT.out, show (!true) = false from rfl, HRR.out]; simp)
            go_wp2
            all_goals go_roundw
            all_goals first | exact ⟨m + 1, r, by omega, by go_num, rfl, HR2, HB2⟩ | (simp [intOf]; omega)
          have HR2 := hid (show r + 1 = s + runE E j (m + 1) by rw [runE_succ, HRT.out, decide_eq_true h0, decide_eq_true H1.out, HRR.out]; simp; omega)
          go_wp2
          all_goals go_roundw
          all_goals first | exact ⟨m + 1, r + 1, by omega, by go_num, congrArg _ (by omega), HR2, HB2⟩ | (simp [intOf]; omega)
        · obtain rfl : m = t := by omega
          have HR2 := hid (show r = runB (b.take (k + 1)) j by rw [HST.out, HRR.out, HT.out])
          have HB3 := hid (HB.out.trans (HB2.out.mono HB.out.size))
          go_wp2
          go_roundw
          case rel => exact ⟨k + 1, r, by omega, by go_num, rfl, HR2, HB3⟩
          case measure => simp [intOf]; omega
    · obtain rfl : k = q := by omega
      have HFN := hid (show s = runB b j by rw [HSS.out, List.take_of_length_le (by rw [HQ.out]; exact Nat.le_refl _)])
      go_wp2
      go_ret
      rw [← HFN.out]
      exact ⟨rfl, HB.out⟩
end Go.Proofs.YtgedkcglkhleoaaGreatDoor
