/- siskinref20.Why. -/
import Derived.Test.YtkjncmmombkllaaBook9
import Derived.Test.YtkjncmmombkllaaR17
import Derived.Test.YtkjncmmombkllaaBase
namespace Go.Proofs.Ytkjncmmombkllaa
open Go.RowKit

set_option maxHeartbeats 4000000 in
set_option maxRecDepth 100000 in
theorem rwhy_calls (b : List EntryS) (v : Value) (x : RecS) (XA : Option Addr) (xc : Nat) (w : World) (hb : Kd.entry.slice.K w Any b [v]) (hx : Kd.str.slice.K w Any x.needs [.slice XA x.needs.length xc]) (hB : BOk b) :
    Calls Try.prog 26 #[v, .agg #[.int .i64 x.kind, .int .i64 x.job, .int .i64 x.task, .int .i64 x.worker, .int .i64 x.sched, .int .i64 x.epoch, .slice XA x.needs.length xc]] w fun e w' => e = .returned (.int .i64 (whyB b x)) ∧ Below w.heap.size w w' := by
  obtain ⟨V, hV⟩ : ∃ V, V = w.alloc (.cells #[.int .i64 x.kind, .int .i64 x.job, .int .i64 x.task, .int .i64 x.worker, .int .i64 x.sched, .int .i64 x.epoch, .slice XA x.needs.length xc] 35) := ⟨_, rfl⟩
  have hb0 : Below w.heap.size w V := by rw [hV]; exact bAlloc (Below.refl _ _) _
  have HZ := hid (show V.heap[w.heap.size]? = some (.cells #[.int .i64 x.kind, .int .i64 x.job, .int .i64 x.task, .int .i64 x.worker, .int .i64 x.sched, .int .i64 x.epoch, .slice XA x.needs.length xc] 35 (0, 0)) by rw [hV]; exact heap_at rfl)
  have HBV := hid hb0
  have HB := hid (Kd.below hb hb0)
  have HX := hid (Kd.below hx hb0)
  have HBO := hid hB
  have hEq := hV.symm
  obtain ⟨A, c, he, _, _, _⟩ := hb
  injection he with he _
  subst he
  obtain ⟨q, hq⟩ : ∃ q, q = b.length := ⟨_, rfl⟩
  have HQ := hid hq
  rw [← hq] at HB ⊢
  obtain ⟨n, hn⟩ : ∃ n, n = x.needs.length := ⟨_, rfl⟩
  rw [← hn] at HX HZ hEq ⊢
  have HR := hid (fun (u : World) (h : Below V.heap.size V u) => rec_cells (x := x) (A := XA) (n := n) (c := xc) ((h.block w.heap.size (Array.getElem?_eq_some_iff.1 HZ.out).1).trans HZ.out))
  clear hV hb0 hx hB hq hn
  obtain ⟨x0, x1, x2, x3, x4, x5, x6⟩ := HR.out V (Below.refl _ _)
  cases hok : recOk x
  case false =>
    have HW := hid (whyB_check (b := b) hok)
    go_enter Try.func26, Try.ntmps26
    go_wp2_with fail
    refine (rcheck17_calls x XA n xc V HX.out).mono ?_
    rintro e w1 ⟨rfl, hb1⟩
    rw [hok]
    have B1 := hid (bThen HBV.out hb1)
    clear hb1 hok
    go_wp2
    go_ret
    rw [HW.out]
    exact ⟨rfl, B1.out⟩
  have HOK := hid hok
  go_enter Try.func26, Try.ntmps26
  go_wp2_with fail
  refine (rcheck17_calls x XA n xc V HX.out).mono ?_
  rintro e w1 ⟨rfl, hb1⟩
  rw [hok]
  have HB1 := hid hb1
  clear hb1 hok x0 x1 x2 x3 x4 x5 x6 hEq
  obtain ⟨x0, x1, x2, x3, x4, x5, x6⟩ := HR.out w1 HB1.out
  go_wp2_with fail
  refine (rplace_calls20 b x.job _ w1 (Kd.below HB.out HB1.out)).mono ?_
  rintro e w2 ⟨rfl, rfl⟩
  have HB1W := hid (bThen HBV.out HB1.out)
  by_cases hk : x.kind = 1
  · have HW0 := hid (whyB_accept (b := b) HOK.out hk)
    have hk1 : (x.kind == (1 : Int)) = true := by rw [hk]; decide
    by_cases hp : 0 ≤ placeE b x.job
    · have HW := hid (HW0.out.trans (if_pos hp))
      obtain ⟨i, E, hpk, _, _, _⟩ := idxE_some hp
      have hpk' : placeE b x.job = i := hpk
      rw [hpk']
      clear hp hk hpk hpk'
      have hk0 : (0 : Int) ≤ (i : Int) := by omega
      go_wp2
      go_ret
      rw [HW.out]
      exact ⟨rfl, HB1W.out⟩
    have HW1 := hid (HW0.out.trans (if_neg hp))
    have hpn : placeE b x.job = -1 := idxE_neg hp
    rw [hpn]
    clear hp hk hpn
    by_cases hl : 40 ≤ q
    · have HW := hid (HW1.out.trans (if_pos (by rw [← HQ.out]; exact hl)))
      have hlI : (40 : Int) ≤ (q : Int) := by omega
      go_wp2
      go_ret
      rw [HW.out]
      exact ⟨rfl, HB1W.out⟩
    have HW := hid (HW1.out.trans (if_neg (by rw [← HQ.out]; exact hl)))
    have hlI : ¬ (40 : Int) ≤ (q : Int) := by omega
    go_wp2
    go_ret
    rw [HW.out]
    exact ⟨rfl, HB1W.out⟩
  have hk1 : (x.kind == (1 : Int)) = false := by rw [beq_eq_false_iff_ne]; exact hk
  have HKD := hid hk
  have U0 := hid (Below.refl w1.heap.size w1).drew
  by_cases hp : 0 ≤ placeE b x.job
  case neg =>
    have HW := hid (whyB_none (b := b) HOK.out HKD.out (findE_none hp))
    have hpn : placeE b x.job = -1 := idxE_neg hp
    rw [hpn]
    clear hp hk hpn
    have q0 : (w1.drew.cell? ⟨w.heap.size, 0, none⟩ = some (.int .i64 x.kind)) := x0
    go_wp2_with fail
    refine wp_region_held_drew (S := fun w' => w'.cell? ⟨w.heap.size, 0, none⟩ = some (.int .i64 x.kind)) (by kernel_rfl) q0 (fun hHeld => ?_)
    refine anyH_take 0 (v := ?_) rfl (by kernel_rfl) (by kernel_rfl) (by kernel_rfl) (fun _ _ _ h => h) (by rfl) hHeld ?_ ?_
    rotate_left
    · (intro w hSw; (try dsimp only at hSw); go_split_ands; go_simp; try with_reducible rfl)
    (try simp only [Act.put, List.setIfInBounds_toArray, List.set_cons_zero, List.set_cons_succ])
    refine anyH_take 1 (v := ?_) rfl (by kernel_rfl) (by kernel_rfl) (by kernel_rfl) (fun _ _ _ h => h) (by rfl) hHeld ?_ ?_
    rotate_left
    · (intro w hSw; (try dsimp only at hSw); go_split_ands; go_simp; try with_reducible rfl)
    (try simp only [Act.put, List.setIfInBounds_toArray, List.set_cons_zero, List.set_cons_succ])
    refine anyH_take 2 (v := ?_) rfl (by kernel_rfl) (by kernel_rfl) (by kernel_rfl) (fun _ _ _ h => h) (by rfl) hHeld ?_ ?_
    rotate_left
    · (intro w hSw; (try dsimp only at hSw); go_split_ands; go_simp; try with_reducible rfl)
    (try simp only [Act.put, List.setIfInBounds_toArray, List.set_cons_zero, List.set_cons_succ])
    refine anyH_skip 3 rfl (by kernel_rfl) (by kernel_rfl) (by kernel_rfl) (fun _ _ _ h => h) (by rfl) hHeld ?_
    (try simp only [Act.put, List.setIfInBounds_toArray, List.set_cons_zero, List.set_cons_succ])
    refine anyH_skip 4 rfl (by kernel_rfl) (by kernel_rfl) (by kernel_rfl) (fun _ _ _ h => h) (by rfl) hHeld ?_
    (try simp only [Act.put, List.setIfInBounds_toArray, List.set_cons_zero, List.set_cons_succ])
    refine anyH_skip 5 rfl (by kernel_rfl) (by kernel_rfl) (by kernel_rfl) (fun _ _ _ h => h) (by rfl) hHeld ?_
    (try simp only [Act.put, List.setIfInBounds_toArray, List.set_cons_zero, List.set_cons_succ])
    refine anyH_skip 6 rfl (by kernel_rfl) (by kernel_rfl) (by kernel_rfl) (fun _ _ _ h => h) (by rfl) hHeld ?_
    (try simp only [Act.put, List.setIfInBounds_toArray, List.set_cons_zero, List.set_cons_succ])
    refine anyH_skip 7 rfl (by kernel_rfl) (by kernel_rfl) (by kernel_rfl) (fun _ _ _ h => h) (by rfl) hHeld ?_
    (try simp only [Act.put, List.setIfInBounds_toArray, List.set_cons_zero, List.set_cons_succ])
    refine anyH_skip 8 rfl (by kernel_rfl) (by kernel_rfl) (by kernel_rfl) (fun _ _ _ h => h) (by rfl) hHeld ?_
    (try simp only [Act.put, List.setIfInBounds_toArray, List.set_cons_zero, List.set_cons_succ])
    refine anyH_skip 9 rfl (by kernel_rfl) (by kernel_rfl) (by kernel_rfl) (fun _ _ _ h => h) (by rfl) hHeld ?_
    (try simp only [Act.put, List.setIfInBounds_toArray, List.set_cons_zero, List.set_cons_succ])
    refine anyH_skip 10 rfl (by kernel_rfl) (by kernel_rfl) (by kernel_rfl) (fun _ _ _ h => h) (by rfl) hHeld ?_
    (try simp only [Act.put, List.setIfInBounds_toArray, List.set_cons_zero, List.set_cons_succ])
    refine anyH_skip 11 rfl (by kernel_rfl) (by kernel_rfl) (by kernel_rfl) (fun _ _ _ h => h) (by rfl) hHeld ?_
    (try simp only [Act.put, List.setIfInBounds_toArray, List.set_cons_zero, List.set_cons_succ])
    refine anyH_skip 12 rfl (by kernel_rfl) (by kernel_rfl) (by kernel_rfl) (fun _ _ _ h => h) (by rfl) hHeld ?_
    (try simp only [Act.put, List.setIfInBounds_toArray, List.set_cons_zero, List.set_cons_succ])
    refine anyH_skip 13 rfl (by kernel_rfl) (by kernel_rfl) (by kernel_rfl) (fun _ _ _ h => h) (by rfl) hHeld ?_
    (try simp only [Act.put, List.setIfInBounds_toArray, List.set_cons_zero, List.set_cons_succ])
    refine anyH_skip 14 rfl (by kernel_rfl) (by kernel_rfl) (by kernel_rfl) (fun _ _ _ h => h) (by rfl) hHeld ?_
    (try simp only [Act.put, List.setIfInBounds_toArray, List.set_cons_zero, List.set_cons_succ])
    refine anyH_skip 15 rfl (by kernel_rfl) (by kernel_rfl) (by kernel_rfl) (fun _ _ _ h => h) (by rfl) hHeld ?_
    (try simp only [Act.put, List.setIfInBounds_toArray, List.set_cons_zero, List.set_cons_succ])
    refine anyH_take 16 (v := ?_) rfl (by kernel_rfl) (by kernel_rfl) (by kernel_rfl) (fun _ _ _ h => h) (by rfl) hHeld ?_ ?_
    rotate_left
    · (intro w hSw; (try dsimp only at hSw); go_split_ands; go_simp; try with_reducible rfl)
    (try simp only [Act.put, List.setIfInBounds_toArray, List.set_cons_zero, List.set_cons_succ])
    refine wpAnyH_done (by kernel_rfl) ?_ _
    go_wp2
    go_ret
    rw [HW.out]
    exact ⟨rfl, (bThen HB1W.out U0.out)⟩
  obtain ⟨k, E, hpk, hxe, _, hkl⟩ := idxE_some hp
  have hpk' : placeE b x.job = k := hpk
  have HFE := hid (findE_some hpk' hxe)
  have HWB := hid (whyB_some HOK.out HKD.out HFE.out)
  rw [hpk']
  have hk0 : (0 : Int) ≤ (k : Int) := by omega
  have hkn : ¬ (k : Int) < 0 := by omega
  have hkq : (k : Int) < (q : Int) := by rw [HQ.out]; omega
  have HEO := hid (HBO.out.1 E (List.mem_of_getElem? hxe))
  obtain ⟨a, E', EA, EB, ED, ea, eb, ed, rfl, hx', k1, k2, k3, r0, r1, r2, r3, r4, r5⟩ := (K_row (Kd.below HB.out HB1.out)).1.at_entry k hkl
  rw [hxe] at hx'
  obtain rfl := Option.some.inj hx'
  have HEA := hid (EAt.mk k1 k2 k3)
  have HS := hid (fun (u : World) (h : Below w1.heap.size w1 u) => show ((u.cell? (a.add (k * 6)) = some (.int .i64 E.id) ∧ u.cell? ⟨(a.add (k * 6)).block, (a.add (k * 6)).off + 1, none⟩ = some (.int .i64 E.sched) ∧ u.cell? ⟨(a.add (k * 6)).block, (a.add (k * 6)).off + 2, none⟩ = some (.int .i64 E.epoch) ∧ u.cell? ⟨(a.add (k * 6)).block, (a.add (k * 6)).off + 3, none⟩ = some (.slice EA E.needs.length ea) ∧ u.cell? ⟨(a.add (k * 6)).block, (a.add (k * 6)).off + 4, none⟩ = some (.slice EB E.bound.length eb) ∧ u.cell? ⟨(a.add (k * 6)).block, (a.add (k * 6)).off + 5, none⟩ = some (.slice ED E.done.length ed)) ∧ u.cell? ⟨w.heap.size, 0, none⟩ = some (.int .i64 x.kind) ∧ u.cell? ⟨w.heap.size, 2, none⟩ = some (.int .i64 x.task) ∧ u.cell? ⟨w.heap.size, 5, none⟩ = some (.int .i64 x.epoch)) from
    ⟨⟨(h.cell (World.block_lt_of_cell? _ _ r0)).trans r0, (h.cell (World.block_lt_of_cell? _ _ r1)).trans r1, (h.cell (World.block_lt_of_cell? _ _ r2)).trans r2, (h.cell (World.block_lt_of_cell? _ _ r3)).trans r3, (h.cell (World.block_lt_of_cell? _ _ r4)).trans r4, (h.cell (World.block_lt_of_cell? _ _ r5)).trans r5⟩, (h.cell (World.block_lt_of_cell? _ _ x0)).trans x0, (h.cell (World.block_lt_of_cell? _ _ x2)).trans x2, (h.cell (World.block_lt_of_cell? _ _ x5)).trans x5⟩)
  have q0 := HS.out w1.drew U0.out
  have HKK := hid (recOk_parts HOK.out).1
  clear hp hk hpk hpk' hxe hx' hkl k1 k2 k3 x1 x2 x3 x4 x5 x6 r0 r1 r2 r3 r4 r5
  by_cases h4 : x.kind = 4
  · have HWE := hid (whyE_own (E := E) h4)
    have hk4 : (x.kind != (4 : Int)) = false := by rw [h4]; decide
    have hk5 : (x.kind == (4 : Int)) = true := by rw [h4]; decide
    have hep := recOk_own HOK.out h4
    have hw1 : IntKind.i64.wrap (x.epoch - 1) = x.epoch - 1 := IntWalk.i64_in _ (by omega)
    clear h4 hep
    go_wp2_with fail
    refine wp_region_held_drew (S := fun w' => (w'.cell? (a.add (k * 6)) = some (.int .i64 E.id) ∧ w'.cell? ⟨(a.add (k * 6)).block, (a.add (k * 6)).off + 1, none⟩ = some (.int .i64 E.sched) ∧ w'.cell? ⟨(a.add (k * 6)).block, (a.add (k * 6)).off + 2, none⟩ = some (.int .i64 E.epoch) ∧ w'.cell? ⟨(a.add (k * 6)).block, (a.add (k * 6)).off + 3, none⟩ = some (.slice EA E.needs.length ea) ∧ w'.cell? ⟨(a.add (k * 6)).block, (a.add (k * 6)).off + 4, none⟩ = some (.slice EB E.bound.length eb) ∧ w'.cell? ⟨(a.add (k * 6)).block, (a.add (k * 6)).off + 5, none⟩ = some (.slice ED E.done.length ed)) ∧ w'.cell? ⟨w.heap.size, 0, none⟩ = some (.int .i64 x.kind) ∧ w'.cell? ⟨w.heap.size, 2, none⟩ = some (.int .i64 x.task) ∧ w'.cell? ⟨w.heap.size, 5, none⟩ = some (.int .i64 x.epoch)) (by kernel_rfl) q0 (fun hHeld => ?_)
    refine anyH_take 0 (v := ?_) rfl (by kernel_rfl) (by kernel_rfl) (by kernel_rfl) (fun _ _ _ h => h) (by rfl) hHeld ?_ ?_
    rotate_left
    · (intro w hSw; (try dsimp only at hSw); go_split_ands; go_simp; try with_reducible rfl)
    (try simp only [Act.put, List.setIfInBounds_toArray, List.set_cons_zero, List.set_cons_succ])
    refine anyH_take 1 (v := ?_) rfl (by kernel_rfl) (by kernel_rfl) (by kernel_rfl) (fun _ _ _ h => h) (by rfl) hHeld ?_ ?_
    rotate_left
    · (intro w hSw; (try dsimp only at hSw); go_split_ands; go_simp; try with_reducible rfl)
    (try simp only [Act.put, List.setIfInBounds_toArray, List.set_cons_zero, List.set_cons_succ])
    refine anyH_take 2 (v := ?_) rfl (by kernel_rfl) (by kernel_rfl) (by kernel_rfl) (fun _ _ _ h => h) (by rfl) hHeld ?_ ?_
    rotate_left
    · (intro w hSw; (try dsimp only at hSw); go_split_ands; go_simp; try with_reducible rfl)
    (try simp only [Act.put, List.setIfInBounds_toArray, List.set_cons_zero, List.set_cons_succ])
    refine anyH_take 3 (v := ?_) rfl (by kernel_rfl) (by kernel_rfl) (by kernel_rfl) (fun _ _ _ h => h) (by rfl) hHeld ?_ ?_
    rotate_left
    · (intro w hSw; (try dsimp only at hSw); go_split_ands; go_simp; try with_reducible rfl)
    (try simp only [Act.put, List.setIfInBounds_toArray, List.set_cons_zero, List.set_cons_succ])
    refine anyH_take 4 (v := ?_) rfl (by kernel_rfl) (by kernel_rfl) (by kernel_rfl) (fun _ _ _ h => h) (by rfl) hHeld ?_ ?_
    rotate_left
    · (intro w hSw; (try dsimp only at hSw); go_split_ands; go_simp; try with_reducible rfl)
    (try simp only [Act.put, List.setIfInBounds_toArray, List.set_cons_zero, List.set_cons_succ])
    refine anyH_take 5 (v := ?_) rfl (by kernel_rfl) (by kernel_rfl) (by kernel_rfl) (fun _ _ _ h => h) (by rfl) hHeld ?_ ?_
    rotate_left
    · (intro w hSw; (try dsimp only at hSw); go_split_ands; go_simp; try with_reducible rfl)
    (try simp only [Act.put, List.setIfInBounds_toArray, List.set_cons_zero, List.set_cons_succ])
    refine anyH_take 6 (v := ?_) rfl (by kernel_rfl) (by kernel_rfl) (by kernel_rfl) (fun _ _ _ h => h) (by rfl) hHeld ?_ ?_
    rotate_left
    · (intro w hSw; (try dsimp only at hSw); go_split_ands; go_simp; try with_reducible rfl)
    (try simp only [Act.put, List.setIfInBounds_toArray, List.set_cons_zero, List.set_cons_succ])
    refine anyH_skip 7 rfl (by kernel_rfl) (by kernel_rfl) (by kernel_rfl) (fun _ _ _ h => h) (by rfl) hHeld ?_
    (try simp only [Act.put, List.setIfInBounds_toArray, List.set_cons_zero, List.set_cons_succ])
    refine anyH_skip 8 rfl (by kernel_rfl) (by kernel_rfl) (by kernel_rfl) (fun _ _ _ h => h) (by rfl) hHeld ?_
    (try simp only [Act.put, List.setIfInBounds_toArray, List.set_cons_zero, List.set_cons_succ])
    refine anyH_skip 9 rfl (by kernel_rfl) (by kernel_rfl) (by kernel_rfl) (fun _ _ _ h => h) (by rfl) hHeld ?_
    (try simp only [Act.put, List.setIfInBounds_toArray, List.set_cons_zero, List.set_cons_succ])
    refine anyH_skip 10 rfl (by kernel_rfl) (by kernel_rfl) (by kernel_rfl) (fun _ _ _ h => h) (by rfl) hHeld ?_
    (try simp only [Act.put, List.setIfInBounds_toArray, List.set_cons_zero, List.set_cons_succ])
    refine anyH_skip 11 rfl (by kernel_rfl) (by kernel_rfl) (by kernel_rfl) (fun _ _ _ h => h) (by rfl) hHeld ?_
    (try simp only [Act.put, List.setIfInBounds_toArray, List.set_cons_zero, List.set_cons_succ])
    refine anyH_skip 12 rfl (by kernel_rfl) (by kernel_rfl) (by kernel_rfl) (fun _ _ _ h => h) (by rfl) hHeld ?_
    (try simp only [Act.put, List.setIfInBounds_toArray, List.set_cons_zero, List.set_cons_succ])
    refine anyH_skip 13 rfl (by kernel_rfl) (by kernel_rfl) (by kernel_rfl) (fun _ _ _ h => h) (by rfl) hHeld ?_
    (try simp only [Act.put, List.setIfInBounds_toArray, List.set_cons_zero, List.set_cons_succ])
    refine anyH_skip 14 rfl (by kernel_rfl) (by kernel_rfl) (by kernel_rfl) (fun _ _ _ h => h) (by rfl) hHeld ?_
    (try simp only [Act.put, List.setIfInBounds_toArray, List.set_cons_zero, List.set_cons_succ])
    refine anyH_take 15 (v := ?_) rfl (by kernel_rfl) (by kernel_rfl) (by kernel_rfl) (fun _ _ _ h => h) (by rfl) hHeld ?_ ?_
    rotate_left
    · (intro w hSw; (try dsimp only at hSw); go_split_ands; go_simp; try with_reducible rfl)
    (try simp only [Act.put, List.setIfInBounds_toArray, List.set_cons_zero, List.set_cons_succ])
    refine anyH_take 16 (v := ?_) rfl (by kernel_rfl) (by kernel_rfl) (by kernel_rfl) (fun _ _ _ h => h) (by rfl) hHeld ?_ ?_
    rotate_left
    · (intro w hSw; (try dsimp only at hSw); go_split_ands; go_simp; try with_reducible rfl)
    (try simp only [Act.put, List.setIfInBounds_toArray, List.set_cons_zero, List.set_cons_succ])
    refine wpAnyH_done (by kernel_rfl) ?_ _
    obtain ⟨Wd, hWd⟩ : ∃ W, W = w1.drew := ⟨_, rfl⟩
    rw [← hWd] at U0 q0 ⊢
    obtain ⟨W2, hW2⟩ : ∃ W, W = Wd.alloc (.cells #[.int .i64 E.id, .int .i64 E.sched, .int .i64 E.epoch, .slice EA E.needs.length ea, .slice EB E.bound.length eb, .slice ED E.done.length ed] 64) := ⟨_, rfl⟩
    have HB2 := hid (show Below Wd.heap.size Wd W2 by rw [hW2]; exact bAlloc (Below.refl _ _) _)
    obtain ⟨p2, _, _⟩ := cells_of_block (show W2.heap[Wd.heap.size]? = some (.cells #[.int .i64 E.id, .int .i64 E.sched, .int .i64 E.epoch, .slice EA E.needs.length ea, .slice EB E.bound.length eb, .slice ED E.done.length ed] 64 (0, 0)) by rw [hW2]; exact heap_at rfl)
    have e2 := p2 2 _ rfl
    have q2 := HS.out W2 (bThen U0.out HB2.out)
    obtain ⟨⟨r0, r1, r2, r3, r4, r5⟩, s0, s1, s2⟩ := q0
    obtain ⟨_, t0, t1, t2⟩ := q2
    have HBE := hid (bThen HB1W.out (bThen U0.out HB2.out))
    have hEq2 := hW2.symm
    clear hHeld p2 hWd hW2
    by_cases hep : x.epoch = E.epoch + 1
    · have HW := hid ((HWB.out.trans HWE.out).trans (if_pos hep))
      have hne : (x.epoch - 1 != E.epoch) = false := by rw [hep]; simp
      clear hep
      go_wp2
      go_ret
      rw [HW.out]
      exact ⟨rfl, HBE.out⟩
    · have HW := hid ((HWB.out.trans HWE.out).trans (if_neg hep))
      have hne : (x.epoch - 1 != E.epoch) = true := by rw [bne_iff_ne]; omega
      clear hep
      go_wp2
      go_ret
      rw [HW.out]
      exact ⟨rfl, HBE.out⟩
  have hk4 : (x.kind != (4 : Int)) = true := by rw [bne_iff_ne]; exact h4
  have hk5 : (x.kind == (4 : Int)) = false := by rw [beq_eq_false_iff_ne]; exact h4
  have hkk : x.kind = 2 ∨ x.kind = 3 := by have := HKK.out; have := HKD.out; omega
  have HW8 := hid (whyE_task (E := E) h4 (x := x))
  have HW2 := hid (fun hk => whyE_bind (E := E) (x := x) hk)
  have HW3 := hid (fun hk => whyE_end (E := E) (x := x) hk)
  obtain ⟨t, ht⟩ : ∃ t : Nat, x.task = t := ⟨x.task.toNat, by have := recOk_task HOK.out hkk; omega⟩
  have htt : x.task.toNat = t := by rw [ht]; rfl
  have HTK := hid HEO.out.tasks
  obtain ⟨tn, htn⟩ : ∃ tn, tn = tasksE E := ⟨_, rfl⟩
  have HTC := hid (rtasks20_calls E EA EB ED ea eb ed w1.drew)
  rw [htt] at HW2 HW3
  rw [ht] at HW8 HW2 HW3 HS q0
  rw [← htn] at HW8 HW2 HW3 HTK HTC
  have HHK := hid hkk
  clear h4 ht htt htn hkk
  go_wp2_with fail
  refine wp_region_held_drew (S := fun w' => (w'.cell? (a.add (k * 6)) = some (.int .i64 E.id) ∧ w'.cell? ⟨(a.add (k * 6)).block, (a.add (k * 6)).off + 1, none⟩ = some (.int .i64 E.sched) ∧ w'.cell? ⟨(a.add (k * 6)).block, (a.add (k * 6)).off + 2, none⟩ = some (.int .i64 E.epoch) ∧ w'.cell? ⟨(a.add (k * 6)).block, (a.add (k * 6)).off + 3, none⟩ = some (.slice EA E.needs.length ea) ∧ w'.cell? ⟨(a.add (k * 6)).block, (a.add (k * 6)).off + 4, none⟩ = some (.slice EB E.bound.length eb) ∧ w'.cell? ⟨(a.add (k * 6)).block, (a.add (k * 6)).off + 5, none⟩ = some (.slice ED E.done.length ed)) ∧ w'.cell? ⟨w.heap.size, 0, none⟩ = some (.int .i64 x.kind) ∧ w'.cell? ⟨w.heap.size, 2, none⟩ = some (.int .i64 t) ∧ w'.cell? ⟨w.heap.size, 5, none⟩ = some (.int .i64 x.epoch)) (by kernel_rfl) q0 (fun hHeld => ?_)
  refine anyH_take 0 (v := ?_) rfl (by kernel_rfl) (by kernel_rfl) (by kernel_rfl) (fun _ _ _ h => h) (by rfl) hHeld ?_ ?_
  rotate_left
  · (intro w hSw; (try dsimp only at hSw); go_split_ands; go_simp; try with_reducible rfl)
  (try simp only [Act.put, List.setIfInBounds_toArray, List.set_cons_zero, List.set_cons_succ])
  refine anyH_take 1 (v := ?_) rfl (by kernel_rfl) (by kernel_rfl) (by kernel_rfl) (fun _ _ _ h => h) (by rfl) hHeld ?_ ?_
  rotate_left
  · (intro w hSw; (try dsimp only at hSw); go_split_ands; go_simp; try with_reducible rfl)
  (try simp only [Act.put, List.setIfInBounds_toArray, List.set_cons_zero, List.set_cons_succ])
  refine anyH_take 2 (v := ?_) rfl (by kernel_rfl) (by kernel_rfl) (by kernel_rfl) (fun _ _ _ h => h) (by rfl) hHeld ?_ ?_
  rotate_left
  · (intro w hSw; (try dsimp only at hSw); go_split_ands; go_simp; try with_reducible rfl)
  (try simp only [Act.put, List.setIfInBounds_toArray, List.set_cons_zero, List.set_cons_succ])
  refine anyH_take 3 (v := ?_) rfl (by kernel_rfl) (by kernel_rfl) (by kernel_rfl) (fun _ _ _ h => h) (by rfl) hHeld ?_ ?_
  rotate_left
  · (intro w hSw; (try dsimp only at hSw); go_split_ands; go_simp; try with_reducible rfl)
  (try simp only [Act.put, List.setIfInBounds_toArray, List.set_cons_zero, List.set_cons_succ])
  refine anyH_take 4 (v := ?_) rfl (by kernel_rfl) (by kernel_rfl) (by kernel_rfl) (fun _ _ _ h => h) (by rfl) hHeld ?_ ?_
  rotate_left
  · (intro w hSw; (try dsimp only at hSw); go_split_ands; go_simp; try with_reducible rfl)
  (try simp only [Act.put, List.setIfInBounds_toArray, List.set_cons_zero, List.set_cons_succ])
  refine anyH_take 5 (v := ?_) rfl (by kernel_rfl) (by kernel_rfl) (by kernel_rfl) (fun _ _ _ h => h) (by rfl) hHeld ?_ ?_
  rotate_left
  · (intro w hSw; (try dsimp only at hSw); go_split_ands; go_simp; try with_reducible rfl)
  (try simp only [Act.put, List.setIfInBounds_toArray, List.set_cons_zero, List.set_cons_succ])
  refine anyH_take 6 (v := ?_) rfl (by kernel_rfl) (by kernel_rfl) (by kernel_rfl) (fun _ _ _ h => h) (by rfl) hHeld ?_ ?_
  rotate_left
  · (intro w hSw; (try dsimp only at hSw); go_split_ands; go_simp; try with_reducible rfl)
  (try simp only [Act.put, List.setIfInBounds_toArray, List.set_cons_zero, List.set_cons_succ])
  refine anyH_take 7 (v := ?_) rfl (by kernel_rfl) (by kernel_rfl) (by kernel_rfl) (fun _ _ _ h => h) (by rfl) hHeld ?_ ?_
  rotate_left
  · (intro w hSw; (try dsimp only at hSw); go_split_ands; go_simp; try with_reducible rfl)
  (try simp only [Act.put, List.setIfInBounds_toArray, List.set_cons_zero, List.set_cons_succ])
  refine anyH_take 8 (v := ?_) rfl (by kernel_rfl) (by kernel_rfl) (by kernel_rfl) (fun _ _ _ h => h) (by rfl) hHeld ?_ ?_
  rotate_left
  · (intro w hSw; (try dsimp only at hSw); go_split_ands; go_simp; try with_reducible rfl)
  (try simp only [Act.put, List.setIfInBounds_toArray, List.set_cons_zero, List.set_cons_succ])
  refine anyH_take 9 (v := ?_) rfl (by kernel_rfl) (by kernel_rfl) (by kernel_rfl) (fun _ _ _ h => h) (by rfl) hHeld ?_ ?_
  rotate_left
  · (intro w hSw; (try dsimp only at hSw); go_split_ands; go_simp; try with_reducible rfl)
  (try simp only [Act.put, List.setIfInBounds_toArray, List.set_cons_zero, List.set_cons_succ])
  refine anyH_take 10 (v := ?_) rfl (by kernel_rfl) (by kernel_rfl) (by kernel_rfl) (fun _ _ _ h => h) (by rfl) hHeld ?_ ?_
  rotate_left
  · (intro w hSw; (try dsimp only at hSw); go_split_ands; go_simp; try with_reducible rfl)
  (try simp only [Act.put, List.setIfInBounds_toArray, List.set_cons_zero, List.set_cons_succ])
  refine anyH_take 11 (v := ?_) rfl (by kernel_rfl) (by kernel_rfl) (by kernel_rfl) (fun _ _ _ h => h) (by rfl) hHeld ?_ ?_
  rotate_left
  · (intro w hSw; (try dsimp only at hSw); go_split_ands; go_simp; try with_reducible rfl)
  (try simp only [Act.put, List.setIfInBounds_toArray, List.set_cons_zero, List.set_cons_succ])
  refine anyH_take 12 (v := ?_) rfl (by kernel_rfl) (by kernel_rfl) (by kernel_rfl) (fun _ _ _ h => h) (by rfl) hHeld ?_ ?_
  rotate_left
  · (intro w hSw; (try dsimp only at hSw); go_split_ands; go_simp; try with_reducible rfl)
  (try simp only [Act.put, List.setIfInBounds_toArray, List.set_cons_zero, List.set_cons_succ])
  refine anyH_one 13 rfl (by kernel_rfl) (fun K hK => ?_)
  go_simp
  refine HTC.out.mono ?_
  rintro e w2 ⟨rfl, hb2⟩
  have U1 := hid (bThen U0.out hb2)
  clear hb2
  go_simp
  refine hK.out _ _ (HS.out _ U1.out) (fun hHeld => ?_)
  clear hK K
  (try simp only [Act.put, List.setIfInBounds_toArray, List.set_cons_zero, List.set_cons_succ])
  refine anyH_take 14 (v := ?_) rfl (by kernel_rfl) (by kernel_rfl) (by kernel_rfl) (fun _ _ _ h => h) (by rfl) hHeld ?_ ?_
  rotate_left
  · (intro w hSw; (try dsimp only at hSw); go_split_ands; go_simp; try with_reducible rfl)
  (try simp only [Act.put, List.setIfInBounds_toArray, List.set_cons_zero, List.set_cons_succ])
  refine anyH_take 15 (v := ?_) rfl (by kernel_rfl) (by kernel_rfl) (by kernel_rfl) (fun _ _ _ h => h) (by rfl) hHeld ?_ ?_
  rotate_left
  · (intro w hSw; (try dsimp only at hSw); go_split_ands; go_simp; try with_reducible rfl)
  (try simp only [Act.put, List.setIfInBounds_toArray, List.set_cons_zero, List.set_cons_succ])
  refine anyH_take 16 (v := ?_) rfl (by kernel_rfl) (by kernel_rfl) (by kernel_rfl) (fun _ _ _ h => h) (by rfl) hHeld ?_ ?_
  rotate_left
  · (intro w hSw; (try dsimp only at hSw); go_split_ands; go_simp; try with_reducible rfl)
  (try simp only [Act.put, List.setIfInBounds_toArray, List.set_cons_zero, List.set_cons_succ])
  refine wpAnyH_done (by kernel_rfl) ?_ _
  by_cases hge : (tn : Int) ≤ (t : Int)
  · have HW := hid (HWB.out.trans (HW8.out hge))
    have HBE := hid (bThen HB1W.out U1.out)
    go_wp2
    go_ret
    rw [HW.out]
    exact ⟨rfl, HBE.out⟩
  have q1 := HS.out w2 U1.out
  obtain ⟨W2, hW2⟩ : ∃ W, W = w2.alloc (.cells #[.int .i64 E.id, .int .i64 E.sched, .int .i64 E.epoch, .slice EA E.needs.length ea, .slice EB E.bound.length eb, .slice ED E.done.length ed] 64) := ⟨_, rfl⟩
  have HB2 := hid (show Below w2.heap.size w2 W2 by rw [hW2]; exact bAlloc (Below.refl _ _) _)
  obtain ⟨p2, _, _⟩ := cells_of_block (show W2.heap[w2.heap.size]? = some (.cells #[.int .i64 E.id, .int .i64 E.sched, .int .i64 E.epoch, .slice EA E.needs.length ea, .slice EB E.bound.length eb, .slice ED E.done.length ed] 64 (0, 0)) by rw [hW2]; exact heap_at rfl)
  have e2 := p2 2 _ rfl
  have e4 := p2 4 _ rfl
  have e5 := p2 5 _ rfl
  have q2 := HS.out W2 (bThen U1.out HB2.out)
  obtain ⟨⟨r0, r1, r2, r3, r4, r5⟩, s0, s1, s2⟩ := q1
  obtain ⟨_, t0, t1, t2⟩ := q2
  have HBE := hid (bThen HB1W.out (bThen U1.out HB2.out))
  have HEA2 := hid (HEA.out.below (bThen U1.out HB2.out))
  have hln : t < E.needs.length := by have := HTK.out; omega
  have hlb : t < E.bound.length := by have := HEO.out.bl; omega
  have hld : t < E.done.length := by have := HEO.out.dl; omega
  obtain ⟨ab, vb, rfl, hxb, z0⟩ := (K_row HEA2.out.bound).1.at_int t hlb
  obtain ⟨ad, vd, rfl, hxd, z1⟩ := (K_row HEA2.out.done).1.at_bool t hld
  have hgb : E.bound.getD t 0 = vb := by rw [List.getD_eq_getElem?_getD, hxb]; rfl
  have hgd : E.done.getD t false = vd := by rw [List.getD_eq_getElem?_getD, hxd]; rfl
  rw [hgb] at HW2 HW3
  rw [hgd] at HW3
  have ht0 : (0 : Int) ≤ (t : Int) := by omega
  have hlbI : (t : Int) < (E.bound.length : Int) := by omega
  have hldI : (t : Int) < (E.done.length : Int) := by omega
  have hEq2 := hW2.symm
  clear hHeld p2 hW2 hxb hxd hgb hgd hln hlb hld q0
  by_cases h2 : x.kind = 2
  · have hk2 : (x.kind == (2 : Int)) = true := by rw [h2]; decide
    by_cases hq : x.epoch = E.epoch
    case neg =>
      have hne : (x.epoch != E.epoch) = true := by rw [bne_iff_ne]; exact hq
      have HW := hid (HWB.out.trans ((HW2.out h2 (by omega)).trans (if_pos hq)))
      clear hq h2
      go_wp2
      go_ret
      rw [HW.out]
      exact ⟨rfl, HBE.out⟩
    have hne : (x.epoch != E.epoch) = false := by rw [hq]; simp
    have HW2b := hid ((HW2.out h2 (by omega)).trans (if_neg (fun h => h hq)))
    clear hq h2
    by_cases hv : vb = 0
    · have hnv : (vb != 0) = false := by rw [hv]; decide
      have HW := hid (HWB.out.trans (HW2b.out.trans (if_neg (fun h => h hv))))
      clear hv
      go_wp2
      go_ret
      rw [HW.out]
      exact ⟨rfl, HBE.out⟩
    · have hnv : (vb != 0) = true := by rw [bne_iff_ne]; exact hv
      have HW := hid (HWB.out.trans (HW2b.out.trans (if_pos hv)))
      clear hv
      go_wp2
      go_ret
      rw [HW.out]
      exact ⟨rfl, HBE.out⟩
  have h3 : x.kind = 3 := by have := HHK.out; omega
  have hk2 : (x.kind == (2 : Int)) = false := by rw [h3]; decide
  by_cases hv : vb = 0
  · have hnv : (vb == 0) = true := by rw [hv]; decide
    have HW := hid (HWB.out.trans ((HW3.out h3 (by omega)).trans (if_pos hv)))
    clear hv h2 h3
    go_wp2
    go_ret
    rw [HW.out]
    exact ⟨rfl, HBE.out⟩
  have hnv : (vb == 0) = false := by rw [beq_eq_false_iff_ne]; exact hv
  have HW3b := hid ((HW3.out h3 (by omega)).trans (if_neg hv))
  clear hv h2 h3
  cases vd with
  | true =>
    have HW := hid (HWB.out.trans (HW3b.out.trans (if_pos rfl)))
    go_wp2
    go_ret
    rw [HW.out]
    exact ⟨rfl, HBE.out⟩
  | false =>
    have HW := hid (HWB.out.trans (HW3b.out.trans (if_neg (by decide))))
    go_wp2
    go_ret
    rw [HW.out]
    exact ⟨rfl, HBE.out⟩
end Go.Proofs.Ytkjncmmombkllaa
