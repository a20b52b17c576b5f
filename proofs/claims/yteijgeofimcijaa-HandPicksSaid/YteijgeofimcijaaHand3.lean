/- book.Open; slices.Contains; hand.May, Pending, Pick. -/
import Derived.Test.YteijgeofimcijaaHand2
import Derived.Test.YteijgeofimcijaaBoxW
namespace Go.Proofs.Yteijgeofimcijaa
open Go.RowKit

def BoxE (w : World) (E : EntryS) (EA EB ED : Option Addr) (ea eb ed : Nat) (b : Nat) : Prop := (w.cell? ⟨b, 0, none⟩ = some (.int .i64 E.id) ∧ w.cell? ⟨b, 1, none⟩ = some (.int .i64 E.sched) ∧ w.cell? ⟨b, 2, none⟩ = some (.int .i64 E.epoch) ∧ w.cell? ⟨b, 3, none⟩ = some (.slice EA E.needs.length ea) ∧ w.cell? ⟨b, 4, none⟩ = some (.slice EB E.bound.length eb) ∧ w.cell? ⟨b, 5, none⟩ = some (.slice ED E.done.length ed)) ∧ EAt w E EA EB ED ea eb ed ∧ b < w.heap.size
theorem BoxE.below {w w1 : World} {E : EntryS} {EA EB ED : Option Addr} {ea eb ed : Nat} {b : Nat} (q : BoxE w E EA EB ED ea eb ed b) (hb : Below w.heap.size w w1) : BoxE w1 E EA EB ED ea eb ed b := by
  obtain ⟨⟨q0, q1, q2, q3, q4, q5⟩, q7, q9⟩ := q
  have m := (bcell hb).1
  have := hb.size
  exact ⟨⟨(m _ _ q9).trans q0, (m _ _ q9).trans q1, (m _ _ q9).trans q2, (m _ _ q9).trans q3, (m _ _ q9).trans q4, (m _ _ q9).trans q5⟩, q7.below hb, by omega⟩
def BoxC (w : World) (C : ConfS) (CA CB : Option Addr) (ca cb : Nat) (b : Nat) : Prop := (w.cell? ⟨b, 0, none⟩ = some (.int .i64 C.scheds) ∧ w.cell? ⟨b, 1, none⟩ = some (.int .i64 C.lease) ∧ w.cell? ⟨b, 2, none⟩ = some (.int .i64 C.again) ∧ w.cell? ⟨b, 3, none⟩ = some (.int .i64 C.room) ∧ w.cell? ⟨b, 4, none⟩ = some (.int .i64 C.out) ∧ w.cell? ⟨b, 5, none⟩ = some (.slice CA C.names.length ca) ∧ w.cell? ⟨b, 6, none⟩ = some (.slice CB C.workers.length cb)) ∧ CAt w C CA CB ca cb ∧ b < w.heap.size
theorem BoxC.below {w w1 : World} {C : ConfS} {CA CB : Option Addr} {ca cb : Nat} {b : Nat} (q : BoxC w C CA CB ca cb b) (hb : Below w.heap.size w w1) : BoxC w1 C CA CB ca cb b := by
  obtain ⟨⟨q0, q1, q2, q3, q4, q5, q6⟩, q7, q9⟩ := q
  have m := (bcell hb).1
  have := hb.size
  exact ⟨⟨(m _ _ q9).trans q0, (m _ _ q9).trans q1, (m _ _ q9).trans q2, (m _ _ q9).trans q3, (m _ _ q9).trans q4, (m _ _ q9).trans q5, (m _ _ q9).trans q6⟩, q7.below hb, by omega⟩
theorem boxE_of {w : World} {E : EntryS} {EA EB ED : Option Addr} {ea eb ed : Nat} {b : Nat} (hz : w.heap[b]? = some (.cells #[.int .i64 E.id, .int .i64 E.sched, .int .i64 E.epoch, .slice EA E.needs.length ea, .slice EB E.bound.length eb, .slice ED E.done.length ed] 74 (0, 0))) (hE : EAt w E EA EB ED ea eb ed) : BoxE w E EA EB ED ea eb ed b := ⟨box6 hz w (Below.refl _ _), hE, (Array.getElem?_eq_some_iff.1 hz).1⟩
theorem boxC_of {w : World} {C : ConfS} {CA CB : Option Addr} {ca cb : Nat} {b : Nat} (hz : w.heap[b]? = some (.cells #[.int .i64 C.scheds, .int .i64 C.lease, .int .i64 C.again, .int .i64 C.room, .int .i64 C.out, .slice CA C.names.length ca, .slice CB C.workers.length cb] 56 (0, 0))) (hC : CAt w C CA CB ca cb) : BoxC w C CA CB ca cb b := ⟨conf_box hz w (Below.refl _ _), hC, (Array.getElem?_eq_some_iff.1 hz).1⟩

set_option maxHeartbeats 4000000 in
set_option maxRecDepth 100000 in
theorem bookOpen_calls (E : EntryS) (EA EB ED : Option Addr) (ea eb ed : Nat) (w : World) (hE : EAt w E EA EB ED ea eb ed) (hbl : E.bound.length ≤ 1000) :
    Calls Try.prog 105 #[.agg #[.int .i64 E.id, .int .i64 E.sched, .int .i64 E.epoch, .slice EA E.needs.length ea, .slice EB E.bound.length eb, .slice ED E.done.length ed]] w fun e w' => ∃ v, e = .returned v ∧ Own I64 3 w' w.heap.size NoT v (openL E) ∧ Below w.heap.size w w' := by
  obtain ⟨V, hV⟩ : ∃ V, V = w.alloc (.cells #[.int .i64 E.id, .int .i64 E.sched, .int .i64 E.epoch, .slice EA E.needs.length ea, .slice EB E.bound.length eb, .slice ED E.done.length ed] 74) := ⟨_, rfl⟩
  have hb0 : Below w.heap.size w V := by rw [hV]; exact bAlloc (Below.refl _ _) _
  have HBV := hid hb0
  have HBX := hid (boxE_of (b := w.heap.size) (by rw [hV]; exact heap_at rfl) (hE.below hb0))
  obtain ⟨⟨c0, c1, c2, c3, c4, c5⟩, _, _⟩ := HBX.out
  have HV := hid hV
  obtain ⟨n, hn⟩ : ∃ n, n = min E.needs.length E.bound.length := ⟨_, rfl⟩
  have hnI : min (E.needs.length : Int) (E.bound.length : Int) = (n : Int) := by omega
  have hn1 : n ≤ 1000 := by omega
  have hn2 : n ≤ E.bound.length := by omega
  have HNN := hid hn
  have HRB := hid (K_row HBX.out.2.1.bound).1
  clear hV hE hb0 hn
  go_enter Try.func105, Try.ntmps105
  go_wp2
  rw [← HV.out]
  go_loopw [3, 12] (fun o i wr => ∃ k : Nat, k ≤ n ∧ i = .int .i64 k ∧ Hid (Own I64 3 wr V.heap.size NoT o (whereN (openB E) k)) ∧ Hid (Below V.heap.size V wr)) (fun _ i _ => n - (intOf i).toNat)
  case atStart => exact ⟨0, by omega, rfl, Own.nil _ _ _ _ _, Below.refl _ _⟩
  case round =>
    obtain ⟨k, hk, rfl, HO, HB⟩ := hrel
    obtain ⟨A3, n3, c3', rfl, hq1, hq2⟩ := HO.out.shape'
    clear hq1 hq2
    by_cases hlt : k < n
    · obtain ⟨⟨d0, d1, d2, d3, d4, d5⟩, _, _⟩ := HBX.out.below HB.out
      obtain ⟨a, x, rfl, hx, r0⟩ := (HRB.out.below HB.out).at_int k (by omega)
      have HX := hid (show openB E k = decide (x = 0) by unfold openB; rw [hx]; rfl)
      have hltI : (k : Int) < (n : Int) := by omega
      have hkb : (k : Int) < (E.bound.length : Int) := by omega
      have hk0 : (0 : Int) ≤ (k : Int) := by omega
      have hln := whereN_len (openB E) k
      generalize E.bound.length = nb at *
      clear hx
      by_cases hx0 : x = 0
      · have hb : (x == 0) = true := by rw [beq_iff_eq]; exact hx0
        have HN := hid (show whereN (openB E) (k + 1) = whereN (openB E) k ++ [(k : Int)] by rw [whereN, if_pos (by rw [HX.out, decide_eq_true hx0])])
        clear hx0
        have hO := HO.out
        have hB := HB.out
        go_wp2_with (at_builtin; go_must (refine append_arm I64 (w0 := V) V.heap.size rfl _ _ 71 3 _ 8 rfl Try.underlying71 Try.infoInt rfl (by decide) (by decide) (.slice A3 n3 c3') (whereN (openB E) k) (k : Int) [.int .i64 k] NoT NoT rfl rfl rfl (fun _ h => h.elim) hO hB hB.size (by omega) ?_))
        intro v1 w2 hO1 hb1 _ _
        go_wp2
        go_roundw
        case rel => exact ⟨k + 1, by omega, by go_num, by rw [HN.out]; exact hO1, hb1⟩
        case measure => simp [intOf]; omega
      · have hb : (x == 0) = false := by rw [beq_eq_false_iff_ne]; exact hx0
        have HN := hid (show whereN (openB E) (k + 1) = whereN (openB E) k by rw [whereN, if_neg (by rw [HX.out, decide_eq_false hx0]; decide)])
        clear hx0
        go_wp2
        go_roundw
        case rel => exact ⟨k + 1, by omega, by go_num, by rw [HN.out]; exact HO.out, HB.out⟩
        case measure => simp [intOf]; omega
    · obtain rfl : k = n := by omega
      have HF := hid (show whereN (openB E) k = openL E by unfold openL; rw [← HNN.out])
      go_wp2
      go_ret
      exact ⟨_, rfl, by rw [← HF.out]; exact HO.out.lower HBV.out.size, bThen HBV.out HB.out⟩
set_option maxHeartbeats 4000000 in
set_option maxRecDepth 100000 in
theorem slIndex_calls (l : List Int) (x : Int) (v : Value) (w : World) (hl : I64.slice.K w Any l [v]) :
    Calls Try.prog 146 #[v, .int .i64 x] w fun e w' => (∃ i : Int, e = .returned (.int .i64 i) ∧ (0 ≤ i ↔ x ∈ l)) ∧ w = w' := by
  obtain ⟨A, c, he, hc, hm, hr⟩ := hl
  cases he
  have HR := hid hr
  obtain ⟨q, hq⟩ : ∃ q, l.length = q := ⟨_, rfl⟩
  have HQ := hid hq
  rw [hq] at hc hm ⊢
  clear hr hq
  go_enter Try.func146, Try.ntmps146
  go_wp2
  go_loop [8] (fun i => ∃ k : Nat, k ≤ q ∧ i = .int .i64 k ∧ Hid (∀ (j : Nat) y, j < k → l[j]? = some y → y ≠ x)) (fun i => q - (intOf i).toNat)
  case atStart => exact ⟨0, by omega, rfl, fun j y h => by omega⟩
  case round =>
    obtain ⟨k, hk, rfl, HN⟩ := hrel
    by_cases hlt : k < q
    · obtain ⟨a, y, rfl, hy, r0⟩ := HR.out.at_int k (by rw [HQ.out]; exact hlt)
      have HY := hid hy
      have hltI : (k : Int) < (q : Int) := by omega
      have hk0 : (0 : Int) ≤ (k : Int) := by omega
      clear hy
      by_cases hyx : x = y
      · have hb : (x == y) = true := by rw [beq_iff_eq]; exact hyx
        have HF := hid (show x ∈ l by rw [hyx]; exact List.mem_of_getElem? HY.out)
        clear hyx
        go_wp2
        go_ret
        exact ⟨⟨_, rfl, ⟨fun _ => HF.out, fun _ => hk0⟩⟩, rfl⟩
      · have hb : (x == y) = false := by rw [beq_eq_false_iff_ne]; exact hyx
        have HN2 := hid (show ∀ (j : Nat) z, j < k + 1 → l[j]? = some z → z ≠ x from fun j z hj hz => by
          rcases Nat.lt_or_ge j k with h | h
          · exact HN.out j z h hz
          · rw [show j = k by omega, HY.out] at hz
            rw [← Option.some.inj hz]; exact fun e => hyx e.symm)
        clear hyx
        go_wp2
        go_round
        case rel => exact ⟨k + 1, by omega, by go_num, HN2⟩
        case measure => simp [intOf]; omega
    · obtain rfl : k = q := by omega
      have HF := hid (show ¬ x ∈ l by
        intro hm
        obtain ⟨j, hj⟩ := List.getElem?_of_mem hm
        exact HN.out j x (by have := (List.getElem?_eq_some_iff.1 hj).1; rw [HQ.out] at this; exact this) hj rfl)
      go_wp2
      go_ret
      exact ⟨⟨_, rfl, ⟨fun h => absurd h (by decide), fun h => absurd h HF.out⟩⟩, rfl⟩
set_option maxHeartbeats 4000000 in
set_option maxRecDepth 100000 in
theorem containsI_calls (l : List Int) (x : Int) (v : Value) (w : World) (hl : I64.slice.K w Any l [v]) :
    Calls Try.prog 104 #[v, .int .i64 x] w fun e w' => e = .returned (.bool (decide (x ∈ l))) ∧ w = w' := by
  have HL := hid hl
  obtain ⟨A, c, he, _, _, _⟩ := hl
  cases he
  go_enter Try.func104, Try.ntmps104
  go_wp2_with fail
  refine (slIndex_calls l x _ w HL.out).mono ?_
  rintro e w1 ⟨⟨i, rfl, hi⟩, rfl⟩
  have HI := hid (show decide (0 ≤ i) = decide (x ∈ l) from decide_eq_decide.2 hi)
  clear hi
  go_wp2
  go_ret
  rw [← HI.out]
  exact ⟨rfl, rfl⟩
theorem open_at {E : EntryS} {i : Int} (h : i ∈ openL E) : ∃ j : Nat, i = j ∧ j < E.needs.length ∧ j < E.bound.length ∧ E.bound[j]? = some 0 := by
  obtain ⟨j, h1, h2, h3⟩ := (whereN_mem _ _ _).1 h
  refine ⟨j, h1, by omega, by omega, ?_⟩
  unfold openB at h3
  cases hx : E.bound[j]? with
  | none => rw [hx] at h3; simp at h3
  | some x => rw [hx] at h3; simp at h3; rw [h3]
set_option maxHeartbeats 4000000 in
set_option maxRecDepth 100000 in
theorem handMay_calls (C : ConfS) (CA CB : Option Addr) (ca cb : Nat) (E : EntryS) (EA EB ED : Option Addr) (ea eb ed : Nat) (wk i : Int) (w : World) (hC : CAt w C CA CB ca cb) (hE : EAt w E EA EB ED ea eb ed) (hbl : E.bound.length ≤ 1000) (hns : ∀ s ∈ E.needs, s.size ≤ 140737488351232) :
    Calls Try.prog 48 #[.agg #[.int .i64 C.scheds, .int .i64 C.lease, .int .i64 C.again, .int .i64 C.room, .int .i64 C.out, .slice CA C.names.length ca, .slice CB C.workers.length cb], .agg #[.int .i64 E.id, .int .i64 E.sched, .int .i64 E.epoch, .slice EA E.needs.length ea, .slice EB E.bound.length eb, .slice ED E.done.length ed], .int .i64 wk, .int .i64 i] w fun e w' => e = .returned (.bool (mayB C E wk i)) ∧ Below w.heap.size w w' := by
  obtain ⟨V, hV⟩ : ∃ V, V = (w.alloc (.cells #[.int .i64 C.scheds, .int .i64 C.lease, .int .i64 C.again, .int .i64 C.room, .int .i64 C.out, .slice CA C.names.length ca, .slice CB C.workers.length cb] 56)).alloc (.cells #[.int .i64 E.id, .int .i64 E.sched, .int .i64 E.epoch, .slice EA E.needs.length ea, .slice EB E.bound.length eb, .slice ED E.done.length ed] 74) := ⟨_, rfl⟩
  have hb0 : Below w.heap.size w V := by rw [hV]; exact bAlloc (bAlloc (Below.refl _ _) _) _
  have HBV := hid hb0
  have HBC := hid (boxC_of (b := w.heap.size) (by rw [hV, Below.heap_alloc _ _ _ (by simp)]; exact heap_at rfl) (hC.below hb0))
  have HBE := hid (boxE_of (b := w.heap.size + 1) (by rw [hV]; exact heap_at (by simp)) (hE.below hb0))
  have HV := hid hV
  have HNS := hid hns
  clear hV hE hC hb0 hns
  have HSE := hid (fun (u : World) (hb : Below V.heap.size V u) => (HBE.out.below hb).1)
  by_cases hin : i ∈ openL E
  case neg =>
    have HF := hid (show mayB C E wk i = false by unfold mayB; rw [decide_eq_false hin]; rfl)
    have HIN := hid (decide_eq_false hin)
    clear hin
    go_enter Try.func48, Try.ntmps48
    go_wp2_with fail
    rw [← HV.out]
    have c0 := HSE.out V.drew (Below.refl _ _).drew
    have HEA := hid (HBE.out.below (Below.refl _ _).drew).2.1
    refine wp_region_held_drew (S := fun w' => w'.cell? ⟨w.heap.size + 1, 0, none⟩ = some (.int .i64 E.id) ∧ w'.cell? ⟨w.heap.size + 1, 1, none⟩ = some (.int .i64 E.sched) ∧ w'.cell? ⟨w.heap.size + 1, 2, none⟩ = some (.int .i64 E.epoch) ∧ w'.cell? ⟨w.heap.size + 1, 3, none⟩ = some (.slice EA E.needs.length ea) ∧ w'.cell? ⟨w.heap.size + 1, 4, none⟩ = some (.slice EB E.bound.length eb) ∧ w'.cell? ⟨w.heap.size + 1, 5, none⟩ = some (.slice ED E.done.length ed)) (by kernel_rfl) c0 (fun hHeld => ?_)
    refine anyH_take 0 (v := ?_) rfl (by kernel_rfl) (by kernel_rfl) (by kernel_rfl) (fun _ _ _ h => h) (by rfl) hHeld ?_ ?_
    rotate_left
    · (intro w hSw; (try dsimp only at hSw); go_split_ands; go_simp; try with_reducible rfl)
    (try simp only [Act.put, List.setIfInBounds_toArray, List.set_cons_zero, List.set_cons_succ])
    refine anyH_take 2 (v := ?_) rfl (by kernel_rfl) (by kernel_rfl) (by kernel_rfl) (fun _ _ _ h => h) (by rfl) hHeld ?_ ?_
    rotate_left
    · (intro w hSw; (try dsimp only at hSw); go_split_ands; go_simp; try with_reducible rfl)
    (try simp only [Act.put, List.setIfInBounds_toArray, List.set_cons_zero, List.set_cons_succ])
    refine anyH_one 1 rfl (by kernel_rfl) (fun K hK => ?_)
    go_simp
    refine (bookOpen_calls E EA EB ED ea eb ed V.drew HEA.out hbl).mono ?_
    rintro e w1 ⟨v1, rfl, hO, hb1⟩
    have U1 := hid (bThen (Below.refl V.heap.size V).drew hb1)
    have HO1 := hid (Kd.any hO.K)
    have c1 := HSE.out w1 U1.out
    clear hO hb1
    go_simp
    refine hK.out _ _ c1 (fun hHeld => ?_)
    clear hK K
    (try simp only [Act.put, List.setIfInBounds_toArray, List.set_cons_zero, List.set_cons_succ])
    refine anyH_one 3 rfl (by kernel_rfl) (fun K hK => ?_)
    go_simp
    refine (containsI_calls (openL E) i _ w1 HO1.out).mono ?_
    rintro e w2 ⟨rfl, hw2⟩
    subst hw2
    rw [HIN.out]
    go_simp
    refine hK.out _ _ c1 (fun hHeld => ?_)
    clear hK K
    (try simp only [Act.put, List.setIfInBounds_toArray, List.set_cons_zero, List.set_cons_succ])
    refine anyH_take 4 (v := ?_) rfl (by kernel_rfl) (by kernel_rfl) (by kernel_rfl) (fun _ _ _ h => h) (by rfl) hHeld ?_ ?_
    rotate_left
    · (intro w hSw; (try dsimp only at hSw); go_split_ands; go_simp; try with_reducible rfl)
    (try simp only [Act.put, List.setIfInBounds_toArray, List.set_cons_zero, List.set_cons_succ])
    refine anyH_skip 5 rfl (by kernel_rfl) (by kernel_rfl) (by kernel_rfl) (fun _ _ _ h => h) (by rfl) hHeld ?_
    (try simp only [Act.put, List.setIfInBounds_toArray, List.set_cons_zero, List.set_cons_succ])
    refine anyH_skip 6 rfl (by kernel_rfl) (by kernel_rfl) (by kernel_rfl) (fun _ _ _ h => h) (by rfl) hHeld ?_
    (try simp only [Act.put, List.setIfInBounds_toArray, List.set_cons_zero, List.set_cons_succ])
    refine anyH_skip 7 rfl (by kernel_rfl) (by kernel_rfl) (by kernel_rfl) (fun _ _ _ h => h) (by rfl) hHeld ?_
    (try simp only [Act.put, List.setIfInBounds_toArray, List.set_cons_zero, List.set_cons_succ])
    refine anyH_skip 8 rfl (by kernel_rfl) (by kernel_rfl) (by kernel_rfl) (fun _ _ _ h => h) (by rfl) hHeld ?_
    (try simp only [Act.put, List.setIfInBounds_toArray, List.set_cons_zero, List.set_cons_succ])
    refine anyH_skip 9 rfl (by kernel_rfl) (by kernel_rfl) (by kernel_rfl) (fun _ _ _ h => h) (by rfl) hHeld ?_
    (try simp only [Act.put, List.setIfInBounds_toArray, List.set_cons_zero, List.set_cons_succ])
    refine anyH_skip 10 rfl (by kernel_rfl) (by kernel_rfl) (by kernel_rfl) (fun _ _ _ h => h) (by rfl) hHeld ?_
    (try simp only [Act.put, List.setIfInBounds_toArray, List.set_cons_zero, List.set_cons_succ])
    refine anyH_skip 12 rfl (by kernel_rfl) (by kernel_rfl) (by kernel_rfl) (fun _ _ _ h => h) (by rfl) hHeld ?_
    (try simp only [Act.put, List.setIfInBounds_toArray, List.set_cons_zero, List.set_cons_succ])
    refine anyH_skip 11 rfl (by kernel_rfl) (by kernel_rfl) (by kernel_rfl) (fun _ _ _ h => h) (by rfl) hHeld ?_
    (try simp only [Act.put, List.setIfInBounds_toArray, List.set_cons_zero, List.set_cons_succ])
    refine anyH_skip 13 rfl (by kernel_rfl) (by kernel_rfl) (by kernel_rfl) (fun _ _ _ h => h) (by rfl) hHeld ?_
    (try simp only [Act.put, List.setIfInBounds_toArray, List.set_cons_zero, List.set_cons_succ])
    refine anyH_take 14 (v := ?_) rfl (by kernel_rfl) (by kernel_rfl) (by kernel_rfl) (fun _ _ _ h => h) (by rfl) hHeld ?_ ?_
    rotate_left
    · (intro w hSw; (try dsimp only at hSw); go_split_ands; go_simp; try with_reducible rfl)
    (try simp only [Act.put, List.setIfInBounds_toArray, List.set_cons_zero, List.set_cons_succ])
    refine anyH_take 15 (v := ?_) rfl (by kernel_rfl) (by kernel_rfl) (by kernel_rfl) (fun _ _ _ h => h) (by rfl) hHeld ?_ ?_
    rotate_left
    · (intro w hSw; (try dsimp only at hSw); go_split_ands; go_simp; try with_reducible rfl)
    (try simp only [Act.put, List.setIfInBounds_toArray, List.set_cons_zero, List.set_cons_succ])
    refine wpAnyH_done (by kernel_rfl) ?_ _
    go_wp2
    go_ret
    rw [HF.out]
    exact ⟨rfl, bThen HBV.out U1.out⟩
  obtain ⟨j, hj, hjn, hjb, _⟩ := open_at hin
  obtain ⟨s, hs⟩ : ∃ s, E.needs[j]? = some s := ⟨E.needs[j]'hjn, List.getElem?_eq_getElem _⟩
  have HF := hid (show mayB C E wk i = hasB (setS C.names C.workers s) wk by unfold mayB; rw [decide_eq_true hin, hj, Int.toNat_natCast, hs]; rfl)
  have HIN := hid (decide_eq_true hin)
  have HSZ := hid (HNS.out s (List.mem_of_getElem? hs))
  have HNL := hid (needS_len C.names s)
  have HLT := hid (setS_lt C.names C.workers s)
  have HSS := hid hs
  obtain ⟨an, han⟩ : ∃ an, EA = some an := by
    obtain ⟨rb, _⟩ := K_row HBE.out.2.1.needs
    obtain ⟨an, _, h, _⟩ := rb.at_str j hjn
    exact ⟨an, h⟩
  subst han
  subst hj
  have hjI : (j : Int) < (E.needs.length : Int) := by omega
  have hj0 : (0 : Int) ≤ (j : Int) := by omega
  have HS := hid (fun (u : World) (hb : Below V.heap.size V u) => show ((u.cell? ⟨w.heap.size, 0, none⟩ = some (.int .i64 C.scheds) ∧ u.cell? ⟨w.heap.size, 1, none⟩ = some (.int .i64 C.lease) ∧ u.cell? ⟨w.heap.size, 2, none⟩ = some (.int .i64 C.again) ∧ u.cell? ⟨w.heap.size, 3, none⟩ = some (.int .i64 C.room) ∧ u.cell? ⟨w.heap.size, 4, none⟩ = some (.int .i64 C.out) ∧ u.cell? ⟨w.heap.size, 5, none⟩ = some (.slice CA C.names.length ca) ∧ u.cell? ⟨w.heap.size, 6, none⟩ = some (.slice CB C.workers.length cb)) ∧ (u.cell? ⟨w.heap.size + 1, 0, none⟩ = some (.int .i64 E.id) ∧ u.cell? ⟨w.heap.size + 1, 1, none⟩ = some (.int .i64 E.sched) ∧ u.cell? ⟨w.heap.size + 1, 2, none⟩ = some (.int .i64 E.epoch) ∧ u.cell? ⟨w.heap.size + 1, 3, none⟩ = some (.slice (some an) E.needs.length ea) ∧ u.cell? ⟨w.heap.size + 1, 4, none⟩ = some (.slice EB E.bound.length eb) ∧ u.cell? ⟨w.heap.size + 1, 5, none⟩ = some (.slice ED E.done.length ed)) ∧ u.cell? (an.add j) = some (.string s)) from by
    obtain ⟨d, dE, _⟩ := HBE.out.below hb
    obtain ⟨rb, _⟩ := K_row dE.needs
    obtain ⟨a', x', ha', hx', r0'⟩ := rb.at_str j hjn
    cases ha'
    rw [HSS.out] at hx'
    obtain rfl := Option.some.inj hx'
    exact ⟨(HBC.out.below hb).1, d, r0'⟩)
  have HHT := hid (hasB_tree (setS C.names C.workers s) wk)
  obtain ⟨z, hz⟩ : ∃ z, z = setS C.names C.workers s := ⟨_, rfl⟩
  have HZ := hid hz
  rw [← hz] at HF HLT HHT
  clear hin hs hz hjb
  go_enter Try.func48, Try.ntmps48
  go_wp2_with fail
  rw [← HV.out]
  have HEA := hid (HBE.out.below (Below.refl _ _).drew).2.1
  have HCA := hid (fun (u : World) (hb : Below V.heap.size V u) => show CAt u C CA CB ca cb from (HBC.out.below hb).2.1)
  have c0 := HS.out V.drew (Below.refl _ _).drew
  go_region_held3 (fun w' => (w'.cell? ⟨w.heap.size, 0, none⟩ = some (.int .i64 C.scheds) ∧ w'.cell? ⟨w.heap.size, 1, none⟩ = some (.int .i64 C.lease) ∧ w'.cell? ⟨w.heap.size, 2, none⟩ = some (.int .i64 C.again) ∧ w'.cell? ⟨w.heap.size, 3, none⟩ = some (.int .i64 C.room) ∧ w'.cell? ⟨w.heap.size, 4, none⟩ = some (.int .i64 C.out) ∧ w'.cell? ⟨w.heap.size, 5, none⟩ = some (.slice CA C.names.length ca) ∧ w'.cell? ⟨w.heap.size, 6, none⟩ = some (.slice CB C.workers.length cb)) ∧ (w'.cell? ⟨w.heap.size + 1, 0, none⟩ = some (.int .i64 E.id) ∧ w'.cell? ⟨w.heap.size + 1, 1, none⟩ = some (.int .i64 E.sched) ∧ w'.cell? ⟨w.heap.size + 1, 2, none⟩ = some (.int .i64 E.epoch) ∧ w'.cell? ⟨w.heap.size + 1, 3, none⟩ = some (.slice (some an) E.needs.length ea) ∧ w'.cell? ⟨w.heap.size + 1, 4, none⟩ = some (.slice EB E.bound.length eb) ∧ w'.cell? ⟨w.heap.size + 1, 5, none⟩ = some (.slice ED E.done.length ed)) ∧ w'.cell? (an.add j) = some (.string s)) (first | exact c0 | exact c1 | exact c2 | exact c3 | exact c4 | fail) (first
    | ((with_reducible refine (bookOpen_calls E (some an) EB ED ea eb ed V.drew HEA.out hbl).mono ?_); rintro e w1 ⟨v1, rfl, hO, hb1⟩; have U1 := hid (bThen (Below.refl V.heap.size V).drew hb1); have HO1 := hid (Kd.any hO.K); have c1 := HS.out w1 U1.out; clear hO hb1)
    | ((with_reducible refine (containsI_calls (openL E) j _ w1 HO1.out).mono ?_); rintro e w2 ⟨rfl, hw2⟩; subst hw2; rw [HIN.out]; have c2 := c1)
    | ((with_reducible refine (jobSet_calls C.names C.workers s C.scheds C.lease C.again C.room C.out _ _ w1 (HCA.out w1 U1.out).names (HCA.out w1 U1.out).workers (HCA.out w1 U1.out).attrs HSZ.out (by have := HNL.out; omega)).mono ?_); rintro e w3 ⟨rfl, hb3⟩; rw [← HZ.out]; have U3 := hid (bThen U1.out hb3); have c3 := HS.out w3 U3.out; clear hb3)
    | ((with_reducible refine (has_calls z wk w3 HLT.out).mono ?_); rintro e w4 ⟨rfl, hw4⟩; subst hw4; rw [HHT.out]; have c4 := c3)
    | fail)
  go_wp2
  go_ret
  rw [HF.out]
  exact ⟨rfl, bThen HBV.out U3.out⟩
end Go.Proofs.Yteijgeofimcijaa
