import Derived.Test.YtkjncmmombkllaaGreatBook9
import Derived.Test.YtkjncmmombkllaaGreatR17
import Derived.Test.YtkjncmmombkllaaGreatBase
/- siskinref20.Why. -/
namespace Go.Proofs.YtkjncmmombkllaaGreat
open Go.RowKit

set_option maxHeartbeats 4000000 in
set_option maxRecDepth 100000 in
theorem rwhy_calls (b : List EntryS) (v : Value) (x : RecS) (XA : Option Addr) (xc : Nat) (w : World) (hb : Kd.entry.slice.K w Any b [v]) (hx : Kd.str.slice.K w Any x.needs [.slice XA x.needs.length xc]) (hB : BOk b) :
    Calls Tryz.prog 59 #[v, .agg #[.int .i64 x.kind, .int .i64 x.job, .int .i64 x.task, .int .i64 x.worker, .int .i64 x.sched, .int .i64 x.epoch, .slice XA x.needs.length xc]] w fun e w' => e = .returned (.int .i64 (whyB b x)) ∧ Below w.heap.size w w' := by
  obtain ⟨V, hV⟩ : ∃ V, V = w.alloc (.cells #[.int .i64 x.kind, .int .i64 x.job, .int .i64 x.task, .int .i64 x.worker, .int .i64 x.sched, .int .i64 x.epoch, .slice XA x.needs.length xc] 46) := ⟨_, rfl⟩
  have hb0 : Below w.heap.size w V := by rw [hV]; exact bAlloc (Below.refl _ _) _
  have HZ := hid (show V.heap[w.heap.size]? = some (.cells #[.int .i64 x.kind, .int .i64 x.job, .int .i64 x.task, .int .i64 x.worker, .int .i64 x.sched, .int .i64 x.epoch, .slice XA x.needs.length xc] 46 (0, 0)) by rw [hV]; exact heap_at rfl)
  have HBV := hid hb0
  have HB := hid (Kd.below hb hb0)
  have HX := hid (Kd.below hx hb0)
  have HBO := hid hB
  have hEq := hV.symm
  obtain ⟨A, c, he, _, _, _⟩ := hb
  injection he with he _
  subst he
  obtain ⟨q, hq⟩ : ∃ q, q = b.length := ⟨_, rfl⟩
  have HQ := hid hq
  rw [← hq] at HB ⊢
  obtain ⟨n, hn⟩ : ∃ n, n = x.needs.length := ⟨_, rfl⟩
  rw [← hn] at HX HZ hEq ⊢
  have HR := hid (fun (u : World) (h : Below V.heap.size V u) => rec_cells (x := x) (A := XA) (n := n) (c := xc) ((h.block w.heap.size (Array.getElem?_eq_some_iff.1 HZ.out).1).trans HZ.out))
  clear hV hb0 hx hB hq hn
  obtain ⟨x0, x1, x2, x3, x4, x5, x6⟩ := HR.out V (Below.refl _ _)
  cases hok : recOk x
  case false =>
    have HW := hid (whyB_check (b := b) hok)
    go_enter Tryz.func59, Tryz.ntmps59
    go_wp2_with fail
    refine (rcheck17_calls x XA n xc V HX.out).mono ?_
    rintro e w1 ⟨rfl, hb1⟩
    rw [hok]
    have B1 := hid (bThen HBV.out hb1)
    clear hb1 hok
    go_wp2
    go_ret
    rw [HW.out]
    exact ⟨rfl, B1.out⟩
  have HOK := hid hok
  go_enter Tryz.func59, Tryz.ntmps59
  go_wp2_with fail
  refine (rcheck17_calls x XA n xc V HX.out).mono ?_
  rintro e w1 ⟨rfl, hb1⟩
  rw [hok]
  have HB1 := hid hb1
  clear hb1 hok x0 x1 x2 x3 x4 x5 x6 hEq
  obtain ⟨x0, x1, x2, x3, x4, x5, x6⟩ := HR.out w1 HB1.out
  go_wp2_with fail
  refine (rplace_calls20 b x.job _ w1 (Kd.below HB.out HB1.out)).mono ?_
  rintro e w2 ⟨rfl, rfl⟩
  have HB1W := hid (bThen HBV.out HB1.out)
  by_cases hk : x.kind = 1
  · have HW0 := hid (whyB_accept (b := b) HOK.out hk)
    have hk1 : (x.kind == (1 : Int)) = true := by rw [hk]; decide
    by_cases hp : 0 ≤ placeE b x.job
    · have HW := hid (HW0.out.trans (if_pos hp))
      obtain ⟨i, E, hpk, _, _, _⟩ := idxE_some hp
      have hpk' : placeE b x.job = i := hpk
      rw [hpk']
      clear hp hk hpk hpk'
      have hk0 : (0 : Int) ≤ (i : Int) := by omega
      go_wp2
      go_ret
      rw [HW.out]
      exact ⟨rfl, HB1W.out⟩
    have HW1 := hid (HW0.out.trans (if_neg hp))
    have hpn : placeE b x.job = -1 := idxE_neg hp
    rw [hpn]
    clear hp hk hpn
    by_cases hl : 40 ≤ q
    · have HW := hid (HW1.out.trans (if_pos (by rw [← HQ.out]; exact hl)))
      have hlI : (40 : Int) ≤ (q : Int) := by omega
      go_wp2
      go_ret
      rw [HW.out]
      exact ⟨rfl, HB1W.out⟩
    have HW := hid (HW1.out.trans (if_neg (by rw [← HQ.out]; exact hl)))
    have hlI : ¬ (40 : Int) ≤ (q : Int) := by omega
    go_wp2
    go_ret
    rw [HW.out]
    exact ⟨rfl, HB1W.out⟩
  have hk1 : (x.kind == (1 : Int)) = false := by rw [beq_eq_false_iff_ne]; exact hk
  have HKD := hid hk
  have U0 := hid (Below.refl w1.heap.size w1).drew
  by_cases hp : 0 ≤ placeE b x.job
  case neg =>
    have HW := hid (whyB_none (b := b) HOK.out HKD.out (findE_none hp))
    have hpn : placeE b x.job = -1 := idxE_neg hp
    rw [hpn]
    clear hp hk hpn
    have q0 : (w1.drew.cell? ⟨w.heap.size, 0, none⟩ = some (.int .i64 x.kind)) := x0
    go_wp2_with fail
    refine wp_region_held_drew (S := fun w' => w'.cell? ⟨w.heap.size, 0, none⟩ = some (.int .i64 x.kind)) (by kernel_rfl) q0 (fun hHeld => ?_)
    refine anyH_take 0 (v := ?_) rfl (by kernel_rfl) (by kernel_rfl) (by kernel_rfl) (fun _ _ _ h => h) (by rfl) hHeld ?_ ?_
    rotate_left
    · (intro w hSw; (try dsimp only at hSw); go_split_ands; go_simp; try with_reducible rfl)
    (try simp only [Act.put, List.setIfInBounds_toArray, List.set_cons_zero, List.set_cons_succ])
    refine anyH_take 1 (v := ?_) rfl (by kernel_rfl) (by kernel_rfl) (by kernel_rfl) (fun _ _ _ h => h) (by rfl) hHeld ?_ ?_
    rotate_left
    · (intro w hSw; (try dsimp only at hSw); go_split_ands; go_simp; try with_reducible rfl)
    (try simp only [Act.put, List.setIfInBounds_toArray, List.set_cons_zero, List.set_cons_succ])
    refine anyH_take 2 (v := ?_) rfl (by kernel_rfl) (by kernel_rfl) (by kernel_rfl) (fun _ _ _ h => h) (by rfl) hHeld ?_ ?_
    rotate_left
    · (intro w hSw; (try dsimp only at hSw); go_split_ands; go_simp; try with_reducible rfl)
    (try simp only [Act.put, List.setIfInBounds_toArray, List.set_cons_zero, List.set_cons_succ])
    refine anyH_skip 3 rfl (by kernel_rfl) (by kernel_rfl) (by kernel_rfl) (fun _ _ _ h => h) (by rfl) hHeld ?_
    (try simp only [Act.put, List.setIfInBounds_toArray, List.set_cons_zero, List.set_cons_succ])
    refine anyH_skip 4 rfl (by kernel_rfl) (by kernel_rfl) (by kernel_rfl) (fun _ _ _ h => h) (by rfl) hHeld ?_
    (try simp only [Act.put, List.setIfInBounds_toArray, List.set_cons_zero, List.set_cons_succ])
    refine anyH_skip 5 rfl (by kernel_rfl) (by kernel_rfl) (by kernel_rfl) (fun _ _ _ h => h) (by rfl) hHeld ?_
    (try simp only [Act.put, List.setIfInBounds_toArray, List.set_cons_zero, List.set_cons_succ])
    refine anyH_skip 6 rfl (by kernel_rfl) (by kernel_rfl) (by kernel_rfl) (fun _ _ _ h => h) (by rfl) hHeld ?_
    (try simp only [Act.put, List.setIfInBounds_toArray, List.set_cons_zero, List.set_cons_succ])
    refine anyH_skip 7 rfl (by kernel_rfl) (by kernel_rfl) (by kernel_rfl) (fun _ _ _ h => h) (by rfl) hHeld ?_
    (try simp only [Act.put, List.setIfInBounds_toArray, List.set_cons_zero, List.set_cons_succ])
    refine anyH_skip 8 rfl (by kernel_rfl) (by kernel_rfl) (by kernel_rfl) (fun _ _ _ h => h) (by rfl) hHeld ?_
    (try simp only [Act.put, List.setIfInBounds_toArray, List.set_cons_zero, List.set_cons_succ])
    refine anyH_skip 9 rfl (by kernel_rfl) (by kernel_rfl) (by kernel_rfl) (fun _ _ _ h => h) (by rfl) hHeld ?_
    (try simp only [Act.put, List.setIfInBounds_toArray, List.set_cons_zero, List.set_cons_succ])
    refine anyH_skip 10 rfl (by kernel_rfl) (by kernel_rfl) (by kernel_rfl) (fun _ _ _ h => h) (by rfl) hHeld ?_
    (try simp only [Act.put, List.setIfInBounds_toArray, List.set_cons_zero, List.set_cons_succ])
    refine anyH_skip 11 rfl (by kernel_rfl) (by kernel_rfl) (by kernel_rfl) (fun _ _ _ h => h) (by rfl) hHeld ?_
    (try simp only [Act.put, List.setIfInBounds_toArray, List.set_cons_zero, List.set_cons_succ])
    refine anyH_skip 12 rfl (by kernel_rfl) (by kernel_rfl) (by kernel_rfl) (fun _ _ _ h => h) (by rfl) hHeld ?_
    (try simp only [Act.put, List.setIfInBounds_toArray, List.set_cons_zero, List.set_cons_succ])
    refine anyH_skip 13 rfl (by kernel_rfl) (by kernel_rfl) (by kernel_rfl) (fun _ _ _ h => h) (by rfl) hHeld ?_
    (try simp only [Act.put, List.setIfInBounds_toArray, List.set_cons_zero, List.set_cons_succ])
    refine anyH_skip 14 rfl (by kernel_rfl) (by kernel_rfl) (by kernel_rfl) (fun _ _ _ h => h) (by rfl) hHeld ?_
    (try simp only [Act.put, List.setIfInBounds_toArray, List.set_cons_zero, List.set_cons_succ])
    refine anyH_skip 15 rfl (by kernel_rfl) (by kernel_rfl) (by kernel_rfl) (fun _ _ _ h => h) (by rfl) hHeld ?_
    (try simp only [Act.put, List.setIfInBounds_toArray, List.set_cons_zero, List.set_cons_succ])
    refine anyH_take 16 (v := ?_) rfl (by kernel_rfl) (by kernel_rfl) (by kernel_rfl) (fun _ _ _ h => h) (by rfl) hHeld ?_ ?_
    rotate_left
    · (intro w hSw; (try dsimp only at hSw); go_split_ands; go_simp; try with_reducible rfl)
    (try simp only [Act.put, List.setIfInBounds_toArray, List.set_cons_zero, List.set_cons_succ])
    refine wpAnyH_done (by kernel_rfl) ?_ _
    go_wp2
    go_ret
    rw [HW.out]
    exact ⟨rfl, (bThen HB1W.out U0.out)⟩
  obtain ⟨k, E, hpk, hxe, _, hkl⟩ := idxE_some hp
  have hpk' : placeE b x.job = k := hpk
  have HFE := hid (findE_some hpk' hxe)
  have HWB := hid (whyB_some HOK.out HKD.out HFE.out)
  rw [hpk']
  have hk0 : (0 : Int) ≤ (k : Int) := by omega
  have hkn : ¬ (k : Int) < 0 := by omega
  have hkq : (k : Int) < (q : Int) := by rw [HQ.out]; omega
  have HEO := hid (HBO.out.1 E (List.mem_of_getElem? hxe))
  obtain ⟨a, E', EA, EB, ED, ea, eb, ed, rfl, hx', k1, k2, k3, r0, r1, r2, r3, r4, r5⟩ := (K_row (Kd.below HB.out HB1.out)).1.at_entry k hkl
  rw [hxe] at hx'
  obtain rfl := Option.some.inj hx'
  have HEA := hid (EAt.mk k1 k2 k3)
  have HS := hid (fun (u : World) (h : Below w1.heap.size w1 u) => show ((u.cell? (a.add (k * 6)) = some (.int .i64 E.id) ∧ u.cell? ⟨(a.add (k * 6)).block, (a.add (k * 6)).off + 1, none⟩ = some (.int .i64 E.sched) ∧ u.cell? ⟨(a.add (k * 6)).block, (a.add (k * 6)).off + 2, none⟩ = some (.int .i64 E.epoch) ∧ u.cell? ⟨(a.add (k * 6)).block, (a.add (k * 6)).off + 3, none⟩ = some (.slice EA E.needs.length ea) ∧ u.cell? ⟨(a.add (k * 6)).block, (a.add (k * 6)).off + 4, none⟩ = some (.slice EB E.bound.length eb) ∧ u.cell? ⟨(a.add (k * 6)).block, (a.add (k * 6)).off + 5, none⟩ = some (.slice ED E.done.length ed)) ∧ u.cell? ⟨w.heap.size, 0, none⟩ = some (.int .i64 x.kind) ∧ u.cell? ⟨w.heap.size, 2, none⟩ = some (.int .i64 x.task) ∧ u.cell? ⟨w.heap.size, 5, none⟩ = some (.int .i64 x.epoch)) from
    ⟨⟨(h.cell (World.block_lt_of_cell? _ _ r0)).trans r0, (h.cell (World.block_lt_of_cell? _ _ r1)).trans r1, (h.cell (World.block_lt_of_cell? _ _ r2)).trans r2, (h.cell (World.block_lt_of_cell? _ _ r3)).trans r3, (h.cell (World.block_lt_of_cell? _ _ r4)).trans r4, (h.cell (World.block_lt_of_cell? _ _ r5)).trans r5⟩, (h.cell (World.block_lt_of_cell? _ _ x0)).trans x0, (h.cell (World.block_lt_of_cell? _ _ x2)).trans x2, (h.cell (World.block_lt_of_cell? _ _ x5)).trans x5⟩)
  have q0 := HS.out w1.drew U0.out
  have HKK := hid (recOk_parts HOK.out).1
  clear hp hk hpk hpk' hxe hx' hkl k1 k2 k3 x1 x2 x3 x4 x5 x6 r0 r1 r2 r3 r4 r5
  by_cases h4 : x.kind = 4
  · have HWE := hid (whyE_own (E := E) h4)
    have hk4 : (x.kind != (4 : Int)) = false := by rw [h4]; decide
    have hk5 : (x.kind == (4 : Int)) = true := by rw [h4]; decide
    have hep := recOk_own HOK.out h4
    have hw1 : IntKind.i64.wrap (x.epoch - 1) = x.epoch - 1 := IntWalk.i64_in _ (by omega)
    clear h4 hep
    go_wp2_with fail
    refine wp_region_held_drew (S := fun w' => (w'.cell? (a.add (k * 6)) = some (.int .i64 E.id) ∧ w'.cell? ⟨(a.add (k * 6)).block, (a.add (k * 6)).off + 1, none⟩ = some (.int .i64 E.sched) ∧ w'.cell? ⟨(a.add (k * 6)).block, (a.add (k * 6)).off + 2, none⟩ = some (.int .i64 E.epoch) ∧ w'.cell? ⟨(a.add (k * 6)).block, (a.add (k * 6)).off + 3, none⟩ = some (.slice EA E.needs.length ea) ∧ w'.cell? ⟨(a.add (k * 6)).block, (a.add (k * 6)).off + 4, none⟩ = some (.slice EB E.bound.length eb) ∧ w'.cell? ⟨(a.add (k * 6)).block, (a.add (k * 6)).off + 5, none⟩ = some (.slice ED E.done.length ed)) ∧ w'.cell? ⟨w.heap.size, 0, none⟩ = some (.int .i64 x.kind) ∧ w'.cell? ⟨w.heap.size, 2, none⟩ = some (.int .i64 x.task) ∧ w'.cell? ⟨w.heap.size, 5, none⟩ = some (.int .i64 x.epoch)) (by kernel_rfl) q0 (fun hHeld => ?_)
    refine anyH_take 0 (v := ?_) rfl (by kernel_rfl) (by kernel_rfl) (by kernel_rfl) (fun _ _ _ h => h) (by rfl) hHeld ?_ ?_
    rotate_left
    · (intro w hSw; (try dsimp only at hSw); go_split_ands; go_simp; try with_reducible rfl)
    (try simp only [Act.put, List.setIfInBounds_toArray, List.set_cons_zero, List.set_cons_succ])
    refine anyH_take 1 (v := ?_) rfl (by kernel_rfl) (by kernel_rfl) (by kernel_rfl) (fun _ _ _ h => h) (by rfl) hHeld ?_ ?_
    rotate_left
    · (intro w hSw; (try dsimp only at hSw); go_split_ands; go_simp; try with_reducible rfl)
    (try simp only [Act.put, List.setIfInBounds_toArray, List.set_cons_zero, List.set_cons_succ])
    refine anyH_take 2 (v := ?_) rfl (by kernel_rfl) (by kernel_rfl) (by kernel_rfl) (fun _ _ _ h => h) (by rfl) hHeld ?_ ?_
    rotate_left
    · (intro w hSw; (try dsimp only at hSw); go_split_ands; go_simp; try with_reducible rfl)
    (try simp only [Act.put, List.setIfInBounds_toArray, List.set_cons_zero, List.set_cons_succ])
    refine anyH_take 3 (v := ?_) rfl (by kernel_rfl) (by kernel_rfl) (by kernel_rfl) (fun _ _ _ h => h) (by rfl) hHeld ?_ ?_
    rotate_left
    · (intro w hSw; (try dsimp only at hSw); go_split_ands; go_simp; try with_reducible rfl)
    (try simp only [Act.put, List.setIfInBounds_toArray, List.set_cons_zero, List.set_cons_succ])
    refine anyH_take 4 (v := ?_) rfl (by kernel_rfl) (by kernel_rfl) (by kernel_rfl) (fun _ _ _ h => h) (by rfl) hHeld ?_ ?_
    rotate_left
    · (intro w hSw; (try dsimp only at hSw); go_split_ands; go_simp; try with_reducible rfl)
    (try simp only [Act.put, List.setIfInBounds_toArray, List.set_cons_zero, List.set_cons_succ])
    refine anyH_take 5 (v := ?_) rfl (by kernel_rfl) (by kernel_rfl) (by kernel_rfl) (fun _ _ _ h => h) (by rfl) hHeld ?_ ?_
    rotate_left
    · (intro w hSw; (try dsimp only at hSw); go_split_ands; go_simp; try with_reducible rfl)
    (try simp only [Act.put, List.setIfInBounds_toArray, List.set_cons_zero, List.set_cons_succ])
    refine anyH_take 6 (v := ?_) rfl (by kernel_rfl) (by kernel_rfl) (by kernel_rfl) (fun _ _ _ h => h) (by rfl) hHeld ?_ ?_
    rotate_left
    · (intro w hSw; (try dsimp only at hSw); go_split_ands; go_simp; try with_reducible rfl)
    (try simp only [Act.put, List.setIfInBounds_toArray, List.set_cons_zero, List.set_cons_succ])
    refine anyH_skip 7 rfl (by kernel_rfl) (by kernel_rfl) (by kernel_rfl) (fun _ _ _ h => h) (by rfl) hHeld ?_
    (try simp only [Act.put, List.setIfInBounds_toArray, List.set_cons_zero, List.set_cons_succ])
    refine anyH_skip 8 rfl (by kernel_rfl) (by kernel_rfl) (by kernel_rfl) (fun _ _ _ h => h) (by rfl) hHeld ?_
    (try simp only [Act.put, List.setIfInBounds_toArray, List.set_cons_zero, List.set_cons_succ])
    refine anyH_skip 9 rfl (by kernel_rfl) (by kernel_rfl) (by kernel_rfl) (fun _ _ _ h => h) (by rfl) hHeld ?_
    (try simp only [Act.put, List.setIfInBounds_toArray, List.set_cons_zero, List.set_cons_succ])
    refine anyH_skip 10 rfl (by kernel_rfl) (by kernel_rfl) (by kernel_rfl) (fun _ _ _ h => h) (by rfl) hHeld ?_
    (try simp only [Act.put, List.setIfInBounds_toArray, List.set_cons_zero, List.set_cons_succ])
    refine anyH_skip 11 rfl (by kernel_rfl) (by kernel_rfl) (by kernel_rfl) (fun _ _ _ h => h) (by rfl) hHeld ?_
    (try simp only [Act.put, List.setIfInBounds_toArray, List.set_cons_zero, List.set_cons_succ])
    refine anyH_skip 12 rfl (by kernel_rfl) (by kernel_rfl) (by kernel_rfl) (fun _ _ _ h => h) (by rfl) hHeld ?_
    (try simp only [Act.put, List.setIfInBounds_toArray, List.set_cons_zero, List.set_cons_succ])
    refine anyH_skip 13 rfl (by kernel_rfl) (by kernel_rfl) (by kernel_rfl) (fun _ _ _ h => h) (by rfl) hHeld ?_
    (try simp only [Act.put, List.setIfInBounds_toArray, List.set_cons_zero, List.set_cons_succ])
    refine anyH_skip 14 rfl (by kernel_rfl) (by kernel_rfl) (by kernel_rfl) (fun _ _ _ h => h) (by rfl) hHeld ?_
    (try simp only [Act.put, List.setIfInBounds_toArray, List.set_cons_zero, List.set_cons_succ])
    refine anyH_take 15 (v := ?_) rfl (by kernel_rfl) (by kernel_rfl) (by kernel_rfl) (fun _ _ _ h => h) (by rfl) hHeld ?_ ?_
    rotate_left
    · (intro w hSw; (try dsimp only at hSw); go_split_ands; go_simp; try with_reducible rfl)
    (try simp only [Act.put, List.setIfInBounds_toArray, List.set_cons_zero, List.set_cons_succ])
    refine anyH_take 16 (v := ?_) rfl (by kernel_rfl) (by kernel_rfl) (by kernel_rfl) (fun _ _ _ h => h) (by rfl) hHeld ?_ ?_
    rotate_left
    · (intro w hSw; (try dsimp only at hSw); go_split_ands; go_simp; try with_reducible rfl)
    (try simp only [Act.put, List.setIfInBounds_toArray, List.set_cons_zero, List.set_cons_succ])
    refine wpAnyH_done (by kernel_rfl) ?_ _
    obtain ⟨Wd, hWd⟩ : ∃ W, W = w1.drew := ⟨_, rfl⟩
    rw [← hWd] at U0 q0 ⊢
    obtain ⟨W2, hW2⟩ : ∃ W, W = Wd.alloc (.cells #[.int .i64 E.id, .int .i64 E.sched, .int .i64 E.epoch, .slice EA E.needs.length ea, .slice EB E.bound.length eb, .slice ED E.done.length ed] 55) := ⟨_, rfl⟩
    have HB2 := hid (show Below Wd.heap.size Wd W2 by rw [hW2]; exact bAlloc (Below.refl _ _) _)
    obtain ⟨p2, _, _⟩ := cells_of_block (show W2.heap[Wd.heap.size]? = some (.cells #[.int .i64 E.id, .int .i64 E.sched, .int .i64 E.epoch, .slice EA E.needs.length ea, .slice EB E.bound.length eb, .slice ED E.done.length ed] 55 (0, 0)) by rw [hW2]; exact heap_at rfl)
    have e2 := p2 2 _ rfl
    have q2 := HS.out W2 (bThen U0.out HB2.out)
    obtain ⟨⟨r0, r1, r2, r3, r4, r5⟩, s0, s1, s2⟩ := q0
    obtain ⟨_, t0, t1, t2⟩ := q2
    have HBE := hid (bThen HB1W.out (bThen U0.out HB2.out))
    have hEq2 := hW2.symm
    clear hHeld p2 hWd hW2
    by_cases hep : x.epoch = E.epoch + 1
    · have HW := hid ((HWB.out.trans HWE.out).trans (if_pos hep))
      have hne : (x.epoch - 1 != E.epoch) = false := by rw [hep]; simp
      clear hep
      go_wp2
      go_ret
      rw [HW.out]
      exact ⟨rfl, HBE.out⟩
    · have HW := hid ((HWB.out.trans HWE.out).trans (if_neg hep))
      have hne : (x.epoch - 1 != E.epoch) = true := by rw [bne_iff_ne]; omega
      clear hep
      go_wp2
      go_ret
      rw [HW.out]
      exact ⟨rfl, HBE.out⟩
  have hk4 : (x.kind != (4 : Int)) = true := by rw [bne_iff_ne]; exact h4
  have hk5 : (x.kind == (4 : Int)) = false := by rw [beq_eq_false_iff_ne]; exact h4
  have hkk : x.kind = 2 ∨ x.kind = 3 := by have := HKK.out; have := HKD.out; omega
  have HW8 := hid (whyE_task (E := E) h4 (x := x))
  have HW2 := hid (fun hk => whyE_bind (E := E) (x := x) hk)
  have HW3 := hid (fun hk => whyE_end (E := E) (x := x) hk)
  obtain ⟨t, ht⟩ : ∃ t : Nat, x.task = t := ⟨x.task.toNat, by have := recOk_task HOK.out hkk; omega⟩
  have htt : x.task.toNat = t := by rw [ht]; rfl
  have HTK := hid HEO.out.tasks
  obtain ⟨tn, htn⟩ : ∃ tn, tn = tasksE E := ⟨_, rfl⟩
  have HTC := hid (rtasks20_calls E EA EB ED ea eb ed w1.drew)
  rw [htt] at HW2 HW3
  rw [ht] at HW8 HW2 HW3 HS q0
  rw [← htn] at HW8 HW2 HW3 HTK HTC
  have HHK := hid hkk
  clear h4 ht htt htn hkk
  go_wp2_with fail
  refine wp_region_held_drew (S := fun w' => (w'.cell? (a.add (k * 6)) = some (.int .i64 E.id) ∧ w'.cell? ⟨(a.add (k * 6)).block, (a.add (k * 6)).off + 1, none⟩ = some (.int .i64 E.sched) ∧ w'.cell? ⟨(a.add (k * 6)).block, (a.add (k * 6)).off + 2, none⟩ = some (.int .i64 E.epoch) ∧ w'.cell? ⟨(a.add (k * 6)).block, (a.add (k * 6)).off + 3, none⟩ = some (.slice EA E.needs.length ea) ∧ w'.cell? ⟨(a.add (k * 6)).block, (a.add (k * 6)).off + 4, none⟩ = some (.slice EB E.bound.length eb) ∧ w'.cell? ⟨(a.add (k * 6)).block, (a.add (k * 6)).off + 5, none⟩ = some (.slice ED E.done.length ed)) ∧ w'.cell? ⟨w.heap.size, 0, none⟩ = some (.int .i64 x.kind) ∧ w'.cell? ⟨w.heap.size, 2, none⟩ = some (.int .i64 t) ∧ w'.cell? ⟨w.heap.size, 5, none⟩ = some (.int .i64 x.epoch)) (by kernel_rfl) q0 (fun hHeld => ?_)
  refine anyH_take 0 (v := ?_) rfl (by kernel_rfl) (by kernel_rfl) (by kernel_rfl) (fun _ _ _ h => h) (by rfl) hHeld ?_ ?_
  rotate_left
  · (intro w hSw; (try dsimp only at hSw); go_split_ands; go_simp; try with_reducible rfl)
  (try simp only [Act.put, List.setIfInBounds_toArray, List.set_cons_zero, List.set_cons_succ])
  refine anyH_take 1 (v := ?_) rfl (by kernel_rfl) (by kernel_rfl) (by kernel_rfl) (fun _ _ _ h => h) (by rfl) hHeld ?_ ?_
  rotate_left
  · (intro w hSw; (try dsimp only at hSw); go_split_ands; go_simp; try with_reducible rfl)
  (try simp only [Act.put, List.setIfInBounds_toArray, List.set_cons_zero, List.set_cons_succ])
  refine anyH_take 2 (v := ?_) rfl (by kernel_rfl) (by kernel_rfl) (by kernel_rfl) (fun _ _ _ h => h) (by rfl) hHeld ?_ ?_
  rotate_left
  · (intro w hSw; (try dsimp only at hSw); go_split_ands; go_simp; try with_reducible rfl)
  (try simp only [Act.put, List.setIfInBounds_toArray, List.set_cons_zero, List.set_cons_succ])
  refine anyH_take 3 (v := ?_) rfl (by kernel_rfl) (by kernel_rfl) (by kernel_rfl) (fun _ _ _ h => h) (by rfl) hHeld ?_ ?_
  rotate_left
  · (intro w hSw; (try dsimp only at hSw); go_split_ands; go_simp; try with_reducible rfl)
  (try simp only [Act.put, List.setIfInBounds_toArray, List.set_cons_zero, List.set_cons_succ])
  refine anyH_take 4 (v := ?_) rfl (by kernel_rfl) (by kernel_rfl) (by kernel_rfl) (fun _ _ _ h => h) (by rfl) hHeld ?_ ?_
  rotate_left
  · (intro w hSw; (try dsimp only at hSw); go_split_ands; go_simp; try with_reducible rfl)
  (try simp only [Act.put, List.setIfInBounds_toArray, List.set_cons_zero, List.set_cons_succ])
  refine anyH_take 5 (v := ?_) rfl (by kernel_rfl) (by kernel_rfl) (by kernel_rfl) (fun _ _ _ h => h) (by rfl) hHeld ?_ ?_
  rotate_left
  · (intro w hSw; (try dsimp only at hSw); go_split_ands; go_simp; try with_reducible rfl)
  (try simp only [Act.put, List.setIfInBounds_toArray, List.set_cons_zero, List.set_cons_succ])
  refine anyH_take 6 (v := ?_) rfl (by kernel_rfl) (by kernel_rfl) (by kernel_rfl) (fun _ _ _ h => h) (by rfl) hHeld ?_ ?_
  rotate_left
  · (intro w hSw; (try dsimp only at hSw); go_split_ands; go_simp; try with_reducible rfl)
  (try simp only [Act.put, List.setIfInBounds_toArray, List.set_cons_zero, List.set_cons_succ])
  refine anyH_take 7 (v := ?_) rfl (by kernel_rfl) (by kernel_rfl) (by kernel_rfl) (fun _ _ _ h => h) (by rfl) hHeld ?_ ?_
  rotate_left
  · (intro w hSw; (try dsimp only at hSw); go_split_ands; go_simp; try with_reducible rfl)
  (try simp only [Act.put, List.setIfInBounds_toArray, List.set_cons_zero, List.set_cons_succ])
  refine anyH_take 8 (v := ?_) rfl (by kernel_rfl) (by kernel_rfl) (by kernel_rfl) (fun _ _ _ h => h) (by rfl) hHeld ?_ ?_
  rotate_left
  · (intro w hSw; (try dsimp only at hSw); go_split_ands; go_simp; try with_reducible rfl)
  (try simp only [Act.put, List.setIfInBounds_toArray, List.set_cons_zero, List.set_cons_succ])
  refine anyH_take 9 (v := ?_) rfl (by kernel_rfl) (by kernel_rfl) (by kernel_rfl) (fun _ _ _ h => h) (by rfl) hHeld ?_ ?_
  rotate_left
  · (intro w hSw; (try dsimp only at hSw); go_split_ands; go_simp; try with_reducible rfl)
  (try simp only [Act.put, List.setIfInBounds_toArray, List.set_cons_zero, List.set_cons_succ])
  refine anyH_take 10 (v := ?_) rfl (by kernel_rfl) (by kernel_rfl) (by kernel_rfl) (fun _ _ _ h => h) (by rfl) hHeld ?_ ?_
  rotate_left
  · (intro w hSw; (try dsimp only at hSw); go_split_ands; go_simp; try with_reducible rfl)
  (try simp only [Act.put, List.setIfInBounds_toArray, List.set_cons_zero, List.set_cons_succ])
  refine anyH_take 11 (v := ?_) rfl (by kernel_rfl) (by kernel_rfl) (by kernel_rfl) (fun _ _ _ h => h) (by rfl) hHeld ?_ ?_
  rotate_left
  · (intro w hSw; (try dsimp only at hSw); go_split_ands; go_simp; try with_reducible rfl)
  (try simp only [Act.put, List.setIfInBounds_toArray, List.set_cons_zero, List.set_cons_succ])
  refine anyH_take 12 (v := ?_) rfl (by kernel_rfl) (by kernel_rfl) (by kernel_rfl) (fun _ _ _ h => h) (by rfl) hHeld ?_ ?_
  rotate_left
  · (intro w hSw; (try dsimp only at hSw); go_split_ands; go_simp; try with_reducible rfl)
  (try simp only [Act.put, List.setIfInBounds_toArray, List.set_cons_zero, List.set_cons_succ])
  refine anyH_one 13 rfl (by kernel_rfl) (fun K hK => ?_)
  go_simp
  refine HTC.out.mono ?_
  rintro e w2 ⟨rfl, hb2⟩
  have U1 := hid (bThen U0.out hb2)
  clear hb2
  go_simp
  refine hK.out _ _ (HS.out _ U1.out) (fun hHeld => ?_)
  clear hK K
  (try simp only [Act.put, List.setIfInBounds_toArray, List.set_cons_zero, List.set_cons_succ])
  refine anyH_take 14 (v := ?_) rfl (by kernel_rfl) (by kernel_rfl) (by kernel_rfl) (fun _ _ _ h => h) (by rfl) hHeld ?_ ?_
  rotate_left
  · (intro w hSw; (try dsimp only at hSw); go_split_ands; go_simp; try with_reducible rfl)
  (try simp only [Act.put, List.setIfInBounds_toArray, List.set_cons_zero, List.set_cons_succ])
  refine anyH_take 15 (v := ?_) rfl (by kernel_rfl) (by kernel_rfl) (by kernel_rfl) (fun _ _ _ h => h) (by rfl) hHeld ?_ ?_
  rotate_left
  · (intro w hSw; (try dsimp only at hSw); go_split_ands; go_simp; try with_reducible rfl)
  (try simp only [Act.put, List.setIfInBounds_toArray, List.set_cons_zero, List.set_cons_succ])
  refine anyH_take 16 (v := ?_) rfl (by kernel_rfl) (by kernel_rfl) (by kernel_rfl) (fun _ _ _ h => h) (by rfl) hHeld ?_ ?_
  rotate_left
  · (intro w hSw; (try dsimp only at hSw); go_split_ands; go_simp; try with_reducible rfl)
  (try simp only [Act.put, List.setIfInBounds_toArray, List.set_cons_zero, List.set_cons_succ])
  refine wpAnyH_done (by kernel_rfl) ?_ _
  by_cases hge : (tn : Int) ≤ (t : Int)
  · have HW := hid (HWB.out.trans (HW8.out hge))
    have HBE := hid (bThen HB1W.out U1.out)
    go_wp2
    go_ret
    rw [HW.out]
    exact ⟨rfl, HBE.out⟩
  have q1 := HS.out w2 U1.out
  obtain ⟨W2, hW2⟩ : ∃ W, W = w2.alloc (.cells #[.int .i64 E.id, .int .i64 E.sched, .int .i64 E.epoch, .slice EA E.needs.length ea, .slice EB E.bound.length eb, .slice ED E.done.length ed] 55) := ⟨_, rfl⟩
  have HB2 := hid (show Below w2.heap.size w2 W2 by rw [hW2]; exact bAlloc (Below.refl _ _) _)
  obtain ⟨p2, _, _⟩ := cells_of_block (show W2.heap[w2.heap.size]? = some (.cells #[.int .i64 E.id, .int .i64 E.sched, .int .i64 E.epoch, .slice EA E.needs.length ea, .slice EB E.bound.length eb, .slice ED E.done.length ed] 55 (0, 0)) by rw [hW2]; exact heap_at rfl)
  have e2 := p2 2 _ rfl
  have e4 := p2 4 _ rfl
  have e5 := p2 5 _ rfl
  have q2 := HS.out W2 (bThen U1.out HB2.out)
  obtain ⟨⟨r0, r1, r2, r3, r4, r5⟩, s0, s1, s2⟩ := q1
  obtain ⟨_, t0, t1, t2⟩ := q2
  have HBE := hid (bThen HB1W.out (bThen U1.out HB2.out))
  have HEA2 := hid (HEA.out.below (bThen U1.out HB2.out))
  have hln : t < E.needs.length := by have := HTK.out; omega
  have hlb : t < E.bound.length := by have := HEO.out.bl; omega
  have hld : t < E.done.length := by have := HEO.out.dl; omega
  obtain ⟨ab, vb, rfl, hxb, z0⟩ := (K_row HEA2.out.bound).1.at_int t hlb
  obtain ⟨ad, vd, rfl, hxd, z1⟩ := (K_row HEA2.out.done).1.at_bool t hld
  have hgb : E.bound.getD t 0 = vb := by rw [List.getD_eq_getElem?_getD, hxb]; rfl
  have hgd : E.done.getD t false = vd := by rw [List.getD_eq_getElem?_getD, hxd]; rfl
  rw [hgb] at HW2 HW3
  rw [hgd] at HW3
  have ht0 : (0 : Int) ≤ (t : Int) := by omega
  have hlbI : (t : Int) < (E.bound.length : Int) := by omega
  have hldI : (t : Int) < (E.done.length : Int) := by omega
  have hEq2 := hW2.symm
  clear hHeld p2 hW2 hxb hxd hgb hgd hln hlb hld q0
  by_cases h2 : x.kind = 2
  · have hk2 : (x.kind == (2 : Int)) = true := by rw [h2]; decide
    by_cases hq : x.epoch = E.epoch
    case neg =>
      have hne : (x.epoch != E.epoch) = true := by rw [bne_iff_ne]; exact hq
      have HW := hid (HWB.out.trans ((HW2.out h2 (by omega)).trans (if_pos hq)))
      clear hq h2
      go_wp2
      go_ret
      rw [HW.out]
      exact ⟨rfl, HBE.out⟩
    have hne : (x.epoch != E.epoch) = false := by rw [hq]; simp
    have HW2b := hid ((HW2.out h2 (by omega)).trans (if_neg (fun h => h hq)))
    clear hq h2
    by_cases hv : vb = 0
    · have hnv : (vb != 0) = false := by rw [hv]; decide
      have HW := hid (HWB.out.trans (HW2b.out.trans (if_neg (fun h => h hv))))
      clear hv
      go_wp2
      go_ret
      rw [HW.out]
      exact ⟨rfl, HBE.out⟩
    · have hnv : (vb != 0) = true := by rw [bne_iff_ne]; exact hv
      have HW := hid (HWB.out.trans (HW2b.out.trans (if_pos hv)))
      clear hv
      go_wp2
      go_ret
      rw [HW.out]
      exact ⟨rfl, HBE.out⟩
  have h3 : x.kind = 3 := by have := HHK.out; omega
  have hk2 : (x.kind == (2 : Int)) = false := by rw [h3]; decide
  by_cases hv : vb = 0
  · have hnv : (vb == 0) = true := by rw [hv]; decide
    have HW := hid (HWB.out.trans ((HW3.out h3 (by omega)).trans (if_pos hv)))
    clear hv h2 h3
    go_wp2
    go_ret
    rw [HW.out]
    exact ⟨rfl, HBE.out⟩
  have hnv : (vb == 0) = false := by rw [beq_eq_false_iff_ne]; exact hv
  have HW3b := hid ((HW3.out h3 (by omega)).trans (if_neg hv))
  clear hv h2 h3
  cases vd with
  | true =>
    have HW := hid (HWB.out.trans (HW3b.out.trans (if_pos rfl)))
    go_wp2
    go_ret
    rw [HW.out]
    exact ⟨rfl, HBE.out⟩
  | false =>
    have HW := hid (HWB.out.trans (HW3b.out.trans (if_neg (by decide))))
    go_wp2
    go_ret
    rw [HW.out]
    exact ⟨rfl, HBE.out⟩
end Go.Proofs.YtkjncmmombkllaaGreat
/- siskinref20.Step. -/
namespace Go.Proofs.YtkjncmmombkllaaGreat
open Go.RowKit

theorem findE_parts20 {b : List EntryS} {j : Int} {E : EntryS} (h : findE b j = some E) : ∃ k : Nat, placeE b j = k ∧ b[k]? = some E ∧ E.id = j := by
  unfold findE at h
  split at h
  · rename_i h0
    obtain ⟨k, E', h1, h2, h3, _⟩ := idxE_some h0
    have h1 : placeE b j = k := h1
    rw [h1, Int.toNat_natCast, h2] at h
    obtain rfl := Option.some.inj h
    exact ⟨k, h1, h2, by simpa using h3⟩
  · cases h
theorem ne_own {k g n c : Nat} (h : k ≠ g) : some k ≠ (Value.slice (some ⟨g, 0, none⟩) n c).ownBlock := fun e => h (Option.some.inj e)
set_option maxHeartbeats 4000000 in
set_option maxRecDepth 100000 in
theorem rstep_calls (S : Nat → Prop) (b : List EntryS) (v : Value) (x : RecS) (XA : Option Addr) (xc : Nat) (w : World) (hb : Kd.entry.slice.K w S b [v]) (hx : Kd.str.slice.K w S x.needs [.slice XA x.needs.length xc]) (hB : BOk b) :
    Calls Tryz.prog 36 #[v, .agg #[.int .i64 x.kind, .int .i64 x.job, .int .i64 x.task, .int .i64 x.worker, .int .i64 x.sched, .int .i64 x.epoch, .slice XA x.needs.length xc]] w fun e w' => ∃ o, e = .returned (.tuple #[o, .int .i64 (whyB b x)]) ∧ Kd.entry.slice.K w' (fun k => S k ∨ w.heap.size ≤ k) (nextB b x) [o] ∧ Below w.heap.size w w' := by
  obtain ⟨V, hV⟩ : ∃ V, V = w.alloc (.cells #[.int .i64 x.kind, .int .i64 x.job, .int .i64 x.task, .int .i64 x.worker, .int .i64 x.sched, .int .i64 x.epoch, .slice XA x.needs.length xc] 46) := ⟨_, rfl⟩
  have hb0 : Below w.heap.size w V := by rw [hV]; exact bAlloc (Below.refl _ _) _
  have HZ := hid (show V.heap[w.heap.size]? = some (.cells #[.int .i64 x.kind, .int .i64 x.job, .int .i64 x.task, .int .i64 x.worker, .int .i64 x.sched, .int .i64 x.epoch, .slice XA x.needs.length xc] 46 (0, 0)) by rw [hV]; exact heap_at rfl)
  have HVS := hid (show V.heap.size = w.heap.size + 1 by rw [hV]; simp)
  have HBV := hid hb0
  have HB := hid (Kd.below (Kd.entry.slice.mono (S' := fun k => S k ∧ k < w.heap.size) (fun k a b => ⟨a, b⟩) hb) hb0)
  have HX := hid (Kd.below (Kd.str.slice.mono (S' := fun k => S k ∧ k < w.heap.size) (fun k a b => ⟨a, b⟩) hx) hb0)
  have HBO := hid hB
  have hEq := hV.symm
  obtain ⟨A, c, he, _, _, _⟩ := hb
  injection he with he _
  subst he
  obtain ⟨q, hq⟩ : ∃ q, q = b.length := ⟨_, rfl⟩
  have HQ := hid hq
  have hq40 : q ≤ 40 := by rw [hq]; exact hB.2
  rw [← hq] at HB ⊢
  obtain ⟨n, hn⟩ : ∃ n, n = x.needs.length := ⟨_, rfl⟩
  have HN := hid hn
  rw [← hn] at HX HZ hEq ⊢
  have HR := hid (fun (u : World) (h : Below V.heap.size V u) => rec_cells (x := x) (A := XA) (n := n) (c := xc) ((h.block w.heap.size (Array.getElem?_eq_some_iff.1 HZ.out).1).trans HZ.out))
  clear hV hb0 hx hB hq hn
  obtain ⟨x0, x1, x2, x3, x4, x5, x6⟩ := HR.out V (Below.refl _ _)
  go_enter Tryz.func36, Tryz.ntmps36
  go_wp2_with fail
  have hst := rwhy_calls b (.slice A q c) x XA xc V (Kd.any HB.out) (by rw [← HN.out]; exact Kd.any HX.out) HBO.out
  rw [← HN.out] at hst
  refine hst.mono ?_
  clear hst
  rintro e w1 ⟨rfl, hb1⟩
  have HB1 := hid hb1
  clear hb1 x0 x1 x2 x3 x4 x5 x6 hEq
  obtain ⟨x0, x1, x2, x3, x4, x5, x6⟩ := HR.out w1 HB1.out
  by_cases hwy : whyB b x = 0
  case neg =>
    have hne : (whyB b x != 0) = true := by rw [bne_iff_ne]; exact hwy
    have HNX := hid (nextB_no (b := b) (x := x) hwy)
    have HBE := hid (bThen HBV.out HB1.out)
    clear hwy
    go_wp2
    go_ret2
    rw [HNX.out]
    exact ⟨_, rfl, nilKE _ _, HBE.out⟩
  have HWY := hid hwy
  rw [hwy]
  clear hwy
  obtain ⟨W2, hW2⟩ : ∃ W, W = w1.alloc (.cells #[] 55) := ⟨_, rfl⟩
  have HB2 := hid (show Below w1.heap.size w1 W2 by rw [hW2]; exact bAlloc (Below.refl _ _) _)
  have HZ2 := hid (show W2.heap[w1.heap.size]? = some (.cells #[] 55 (0, 0)) by rw [hW2]; exact heap_at rfl)
  have HS2 := hid (show W2.heap.size = w1.heap.size + 1 by rw [hW2]; simp)
  have hO0 := hid (own_emptyE (d := Kd.entry) (T := fun k => S k ∧ k < w.heap.size) HZ2.out (Nat.le_refl _))
  have HBW2 := hid (Kd.below HB.out (bThen HB1.out HB2.out))
  have hEq2 := hW2.symm
  have hsz := HB1.out.size
  have hsv := HVS.out
  clear hW2
  go_wp2_with (at_builtin; go_must (refine appends_arm Kd.entry (w0 := w1) (W := W2) w1.heap.size rfl _ _ 60 55 _ 96 rfl Tryz.underlying60 Tryz.infoEntry rfl (by decide) (by decide) (.slice (some ⟨w1.heap.size, 0, none⟩) 0 0) [] b A q c (fun k => S k ∧ k < w.heap.size) (fun k => S k ∧ k < w.heap.size) (fun k => S k ∧ k < w.heap.size) rfl rfl HQ.out.symm (K_row HBW2.out).1 (fun _ _ h => h) (fun k h _ => ⟨h, ne_own (by have := h.2; omega)⟩) hO0.out HB2.out HB2.out.size (by simp; omega) ?_))
  intro v3 w3 hO3 hb3 hg3 _
  try rw [List.nil_append] at hO3
  obtain ⟨Ao, no, co, rfl, hno, _⟩ := hO3.shape'
  have HO3 := hid hO3
  have HB3 := hid (show Below w1.heap.size w1 w3 from hb3)
  have HNO := hid hno
  have HS3 := hid (show w1.heap.size + 1 ≤ w3.heap.size by have := hg3.size; have := HS2.out; omega)
  clear hO3 hb3 hno hg3 x0 x1 x2 x3 x4 x5 x6 hEq2
  obtain ⟨x0, x1, x2, x3, x4, x5, x6⟩ := HR.out w3 (bThen HB1.out HB3.out)
  have HRO := hid (show ∀ j, (Value.slice Ao no co).ownBlock = some j → w1.heap.size ≤ j ∧ j < w3.heap.size from fun j h => HO3.out.lt j h)
  have HBW := hid (bThen HBV.out (bThen HB1.out HB3.out))
  have HBX := hid (bThen HB1.out HB3.out)
  have HREC := hid (whyB_rec HWY.out)
  have hsw : w.heap.size < w1.heap.size := by omega
  have hs3 := HS3.out
  by_cases hk : x.kind = 1
  · have hk1 : (x.kind == (1 : Int)) = true := by rw [hk]; decide
    have HNX := hid (nextB_accept HWY.out hk)
    have hn16 : n ≤ 16 := by rw [HN.out]; exact (recOk_accept HREC.out hk).2.1
    clear hk
    have hm1 : ∀ W, (Instr.makeSlice 52 (.int .i64 (n : Int)) (.int .i64 (n : Int))).run Tryz.prog W = .ok (.slice (some ⟨W.heap.size, 0, none⟩) n n) (W.alloc (.cells (madeCells #[.int .i64 0] n) 3)) := run_make_i n (by omega)
    have hm2 : ∀ W, (Instr.makeSlice 53 (.int .i64 (n : Int)) (.int .i64 (n : Int))).run Tryz.prog W = .ok (.slice (some ⟨W.heap.size, 0, none⟩) n n) (W.alloc (.cells (madeCells #[.bool false] n) 4)) := run_make_b n (by omega)
    have HSR := hid (fun (u : World) (h : Below w3.heap.size w3 u) => HR.out u (bThen HBX.out h))
    have U0 := hid (Below.refl w3.heap.size w3).drew
    have q0 := HSR.out w3.drew U0.out
    go_wp2_with fail
    refine wp_region_held_drew (S := fun w' => w'.cell? ⟨w.heap.size, 0, none⟩ = some (.int .i64 x.kind) ∧ w'.cell? ⟨w.heap.size, 1, none⟩ = some (.int .i64 x.job) ∧ w'.cell? ⟨w.heap.size, 2, none⟩ = some (.int .i64 x.task) ∧ w'.cell? ⟨w.heap.size, 3, none⟩ = some (.int .i64 x.worker) ∧ w'.cell? ⟨w.heap.size, 4, none⟩ = some (.int .i64 x.sched) ∧ w'.cell? ⟨w.heap.size, 5, none⟩ = some (.int .i64 x.epoch) ∧ w'.cell? ⟨w.heap.size, 6, none⟩ = some (.slice XA n xc)) (by kernel_rfl) q0 (fun hHeld => ?_)
    obtain ⟨y0, hy0⟩ : ∃ y, y = w3.drew := ⟨_, rfl⟩
    have O0 := hid (show Own Kd.entry 55 y0 w1.heap.size (fun j => (S j ∧ j < w.heap.size) ∨ y0.heap.size ≤ j) (.slice Ao no co) b from by rw [hy0]; exact (HO3.out.below U0.out).move (fun _ _ _ => rfl) (fun k h _ => .inl h))
    rw [← hy0] at U0 q0 hHeld ⊢
    clear hy0
    refine anyH_take 0 (v := ?_) rfl (by kernel_rfl) (by kernel_rfl) (by kernel_rfl) (fun _ _ _ h => h) (by rfl) hHeld ?_ ?_
    rotate_left
    · (intro w hSw; (try dsimp only at hSw); go_split_ands; go_simp; try with_reducible rfl)
    (try simp only [Act.put, List.setIfInBounds_toArray, List.set_cons_zero, List.set_cons_succ])
    refine anyH_take 1 (v := ?_) rfl (by kernel_rfl) (by kernel_rfl) (by kernel_rfl) (fun _ _ _ h => h) (by rfl) hHeld ?_ ?_
    rotate_left
    · (intro w hSw; (try dsimp only at hSw); go_split_ands; go_simp; try with_reducible rfl)
    (try simp only [Act.put, List.setIfInBounds_toArray, List.set_cons_zero, List.set_cons_succ])
    refine anyH_take 2 (v := ?_) rfl (by kernel_rfl) (by kernel_rfl) (by kernel_rfl) (fun _ _ _ h => h) (by rfl) hHeld ?_ ?_
    rotate_left
    · (intro w hSw; (try dsimp only at hSw); go_split_ands; go_simp; try with_reducible rfl)
    (try simp only [Act.put, List.setIfInBounds_toArray, List.set_cons_zero, List.set_cons_succ])
    refine anyH_take 3 (v := ?_) rfl (by kernel_rfl) (by kernel_rfl) (by kernel_rfl) (fun _ _ _ h => h) (by rfl) hHeld ?_ ?_
    rotate_left
    · (intro w hSw; (try dsimp only at hSw); go_split_ands; go_simp; try with_reducible rfl)
    (try simp only [Act.put, List.setIfInBounds_toArray, List.set_cons_zero, List.set_cons_succ])
    refine anyH_take 4 (v := ?_) rfl (by kernel_rfl) (by kernel_rfl) (by kernel_rfl) (fun _ _ _ h => h) (by rfl) hHeld ?_ ?_
    rotate_left
    · (intro w hSw; (try dsimp only at hSw); go_split_ands; go_simp; try with_reducible rfl)
    (try simp only [Act.put, List.setIfInBounds_toArray, List.set_cons_zero, List.set_cons_succ])
    refine anyH_take 5 (v := ?_) rfl (by kernel_rfl) (by kernel_rfl) (by kernel_rfl) (fun _ _ _ h => h) (by rfl) hHeld ?_ ?_
    rotate_left
    · (intro w hSw; (try dsimp only at hSw); go_split_ands; go_simp; try with_reducible rfl)
    (try simp only [Act.put, List.setIfInBounds_toArray, List.set_cons_zero, List.set_cons_succ])
    refine anyH_take 6 (v := ?_) rfl (by kernel_rfl) (by kernel_rfl) (by kernel_rfl) (fun _ _ _ h => h) (by rfl) hHeld ?_ ?_
    rotate_left
    · (intro w hSw; (try dsimp only at hSw); go_split_ands; go_simp; try with_reducible rfl)
    (try simp only [Act.put, List.setIfInBounds_toArray, List.set_cons_zero, List.set_cons_succ])
    refine anyH_take 7 (v := ?_) rfl (by kernel_rfl) (by kernel_rfl) (by kernel_rfl) (fun _ _ _ h => h) (by rfl) hHeld ?_ ?_
    rotate_left
    · (intro w hSw; (try dsimp only at hSw); go_split_ands; go_simp; try with_reducible rfl)
    (try simp only [Act.put, List.setIfInBounds_toArray, List.set_cons_zero, List.set_cons_succ])
    refine anyH_take 9 (v := ?_) rfl (by kernel_rfl) (by kernel_rfl) (by kernel_rfl) (fun _ _ _ h => h) (by rfl) hHeld ?_ ?_
    rotate_left
    · (intro w hSw; (try dsimp only at hSw); go_split_ands; go_simp; try with_reducible rfl)
    (try simp only [Act.put, List.setIfInBounds_toArray, List.set_cons_zero, List.set_cons_succ])
    refine anyH_two 8 10 rfl rfl (by kernel_rfl) (fun K hK => ?_) (fun K hK => ?_)
    · go_simp
      obtain ⟨y1, hy⟩ : ∃ y, y = y0.alloc (.cells (madeCells #[.int .i64 0] n) 3) := ⟨_, rfl⟩
      rw [← hy]
      have hb : Below y0.heap.size y0 y1 := by rw [hy]; exact bAlloc (Below.refl _ _) _
      have U1 := hid (bThen U0.out hb)
      have z1 : y0.heap.size ≤ y1.heap.size := hb.size
      have O1 := hid (O0.out.below hb)
      have hz : y1.heap[y0.heap.size]? = some (.cells (madeCells #[.int .i64 0] n) 3 (0, 0)) := by rw [hy]; exact heap_at rfl
      have M1 := hid (show I64.slice.K y1 (fun j => ((S j ∧ j < w.heap.size) ∨ y0.heap.size ≤ j) ∧ some j ≠ (Value.slice Ao no co).ownBlock) (List.replicate n 0) [.slice (some ⟨y0.heap.size, 0, none⟩) n n] from K_of_block n n (by simp) hz ⟨.inr (by omega), fun e => by have := HRO.out _ e.symm; have := U0.out.size; omega⟩ (cells_rep rfl n) (Nat.le_refl _) (by simp; omega))
      clear hz hb hy
      refine hK.out _ _ (HSR.out _ U1.out) (fun hHeld => ?_)
      clear hK K
      (try simp only [Act.put, List.setIfInBounds_toArray, List.set_cons_zero, List.set_cons_succ])
      refine anyH_one 10 rfl (by kernel_rfl) (fun K hK => ?_)
      go_simp
      obtain ⟨y2, hy⟩ : ∃ y, y = y1.alloc (.cells (madeCells #[.bool false] n) 4) := ⟨_, rfl⟩
      rw [← hy]
      have hb : Below y1.heap.size y1 y2 := by rw [hy]; exact bAlloc (Below.refl _ _) _
      have U2 := hid (bThen U1.out hb)
      have z2 : y1.heap.size ≤ y2.heap.size := hb.size
      have O2 := hid (O1.out.below hb)
      have M2 := hid (Kd.below M1.out hb)
      have hz : y2.heap[y1.heap.size]? = some (.cells (madeCells #[.bool false] n) 4 (0, 0)) := by rw [hy]; exact heap_at rfl
      have B2 := hid (show Kd.bool.slice.K y2 (fun j => ((S j ∧ j < w.heap.size) ∨ y0.heap.size ≤ j) ∧ some j ≠ (Value.slice Ao no co).ownBlock) (List.replicate n false) [.slice (some ⟨y1.heap.size, 0, none⟩) n n] from K_of_block n n (by simp) hz ⟨.inr (by omega), fun e => by have := HRO.out _ e.symm; have := U0.out.size; omega⟩ (cells_rep rfl n) (Nat.le_refl _) (by simp; omega))
      clear hz hb hy
      refine hK.out _ _ (HSR.out _ U2.out) (fun hHeld => ?_)
      clear hK K
      (try simp only [Act.put, List.setIfInBounds_toArray, List.set_cons_zero, List.set_cons_succ])
      refine anyH_take 11 (v := ?_) rfl (by kernel_rfl) (by kernel_rfl) (by kernel_rfl) (fun _ _ _ h => h) (by rfl) hHeld ?_ ?_
      rotate_left
      · (intro w hSw; (try dsimp only at hSw); go_split_ands; go_simp; try with_reducible rfl)
      (try simp only [Act.put, List.setIfInBounds_toArray, List.set_cons_zero, List.set_cons_succ])
      refine anyH_one 12 rfl (by kernel_rfl) (fun K hK => ?_)
      go_simp
      obtain ⟨y3, hy⟩ : ∃ y, y = y2.alloc (.cells #[.int .i64 x.job, .int .i64 x.sched, .int .i64 1, .slice XA n xc, .slice (some ⟨y0.heap.size, 0, none⟩) n n, .slice (some ⟨y1.heap.size, 0, none⟩) n n] 55) := ⟨_, rfl⟩
      rw [← hy]
      have hb : Below y2.heap.size y2 y3 := by rw [hy]; exact bAlloc (Below.refl _ _) _
      have U3 := hid (bThen U2.out hb)
      have z3 : y2.heap.size ≤ y3.heap.size := hb.size
      have O3 := hid (O2.out.below hb)
      have M3 := hid (Kd.below M2.out hb)
      have B3 := hid (Kd.below B2.out hb)
      have R3 := hid (show y3.heap[y2.heap.size]? = some (.cells #[.int .i64 x.job, .int .i64 x.sched, .int .i64 1, .slice XA n xc, .slice (some ⟨y0.heap.size, 0, none⟩) n n, .slice (some ⟨y1.heap.size, 0, none⟩) n n] 55 (0, 0)) by rw [hy]; exact heap_at rfl)
      clear hb hy
      refine hK.out _ _ (HSR.out _ U3.out) (fun hHeld => ?_)
      clear hK K
      (try simp only [Act.put, List.setIfInBounds_toArray, List.set_cons_zero, List.set_cons_succ])
      refine anyH_one 13 rfl (by kernel_rfl) (fun K hK => ?_)
      have hxn := Kd.str.slice.mono (S' := (fun j => ((S j ∧ j < w.heap.size) ∨ y0.heap.size ≤ j) ∧ some j ≠ (Value.slice Ao no co).ownBlock)) (fun j h _ => ⟨.inl h, fun e => by have := HRO.out _ e.symm; have := h.2; omega⟩) (Kd.below HX.out (bThen HBX.out U3.out))
      have he := entry_of (w := y3) (S := (fun j => ((S j ∧ j < w.heap.size) ∨ y0.heap.size ≤ j) ∧ some j ≠ (Value.slice Ao no co).ownBlock)) (acceptR x) (A := XA) (a := xc) (B := some ⟨y0.heap.size, 0, none⟩) (b := n) (D := some ⟨y1.heap.size, 0, none⟩) (d := n) (by show Kd.str.slice.K _ _ x.needs [.slice XA x.needs.length xc]; rw [← HN.out]; exact hxn) (by show I64.slice.K _ _ (List.replicate x.needs.length 0) [.slice _ (List.replicate x.needs.length (0 : Int)).length n]; rw [List.length_replicate, ← HN.out]; exact M3.out) (by show Kd.bool.slice.K _ _ (List.replicate x.needs.length false) [.slice _ (List.replicate x.needs.length false).length n]; rw [List.length_replicate, ← HN.out]; exact B3.out)
      rw [show (acceptR x).needs.length = n from HN.out.symm, show (acceptR x).bound.length = n from (List.length_replicate).trans HN.out.symm, show (acceptR x).done.length = n from (List.length_replicate).trans HN.out.symm] at he
      have HRR := hid (show Kd.entry.slice.K y3 (fun j => ((S j ∧ j < w.heap.size) ∨ y0.heap.size ≤ j) ∧ some j ≠ (Value.slice Ao no co).ownBlock) [acceptR x] [.slice (some ⟨y2.heap.size, 0, none⟩) 1 1] from K_of_block (d := Kd.entry) 1 1 rfl R3.out ⟨.inr (by omega), fun e => by have := HRO.out _ e.symm; have := U0.out.size; omega⟩ ⟨_, [], by simp [acceptR], he, rfl⟩ (Nat.le_refl _) (show 1 ≤ 140737488355328 by decide))
      refine appendsG_step Kd.entry w1.heap.size rfl _ _ 60 55 _ 96 rfl Tryz.underlying60 Tryz.infoEntry rfl (by decide) (by decide) (.slice Ao no co) b [acceptR x] (some ⟨y2.heap.size, 0, none⟩) 1 1 (fun j => (S j ∧ j < w.heap.size) ∨ y0.heap.size ≤ j) (fun j => ((S j ∧ j < w.heap.size) ∨ y0.heap.size ≤ j) ∧ some j ≠ (Value.slice Ao no co).ownBlock) (fun j => ((S j ∧ j < w.heap.size) ∨ y0.heap.size ≤ j) ∧ some j ≠ (Value.slice Ao no co).ownBlock) rfl rfl rfl (K_row HRR.out).1 (fun _ _ h => h) (fun _ h _ => h) O3.out (by have := HS3.out; have := U0.out.size; omega) (by have := HQ.out; omega) ?_
      intro vb y4 hOb hgb _
      have HOb := hid (show Kd.entry.slice.K y4 (fun j => S j ∨ w.heap.size ≤ j) (b ++ [acceptR x]) [vb] from by refine Kd.entry.slice.mono (fun j h _ => ?_) hOb.K; have := U0.out.size; rcases h with (h | h) | h; exact .inl h.1; exact .inr (by omega); exact .inr (by omega))
      have U4 := hid (show Below w.heap.size w y4 from (bThen HBW.out U3.out).trans ⟨hgb.os, hgb.tape, hgb.output, hgb.size, fun k hk => hgb.block k (Nat.lt_of_lt_of_le hk (bThen HBW.out U3.out).size) (fun e => by have h1 := HRO.out k e.symm; omega)⟩)
      have q9 := HSR.out y3 U3.out
      have HC9 := hid (show ∀ j, y4.cell? ⟨w.heap.size, j, none⟩ = y3.cell? ⟨w.heap.size, j, none⟩ from fun j => World.cell?_of_block (hgb.block w.heap.size (Nat.lt_of_lt_of_le (by omega : w.heap.size < w3.heap.size) U3.out.size) (fun e => by have h1 := HRO.out _ e.symm; omega)))
      clear hOb hgb he hxn
      refine hK.out _ _ ⟨(HC9.out 0).trans q9.1, (HC9.out 1).trans q9.2.1, (HC9.out 2).trans q9.2.2.1, (HC9.out 3).trans q9.2.2.2.1, (HC9.out 4).trans q9.2.2.2.2.1, (HC9.out 5).trans q9.2.2.2.2.2.1, (HC9.out 6).trans q9.2.2.2.2.2.2⟩ (fun hHeld => ?_)
      clear hK K
      (try simp only [Act.put, List.setIfInBounds_toArray, List.set_cons_zero, List.set_cons_succ])
      refine anyH_take 14 (v := ?_) rfl (by kernel_rfl) (by kernel_rfl) (by kernel_rfl) (fun _ _ _ h => h) (by rfl) hHeld ?_ ?_
      rotate_left
      · (intro w hSw; (try dsimp only at hSw); go_split_ands; go_simp; try with_reducible rfl)
      (try simp only [Act.put, List.setIfInBounds_toArray, List.set_cons_zero, List.set_cons_succ])
      refine anyH_take 15 (v := ?_) rfl (by kernel_rfl) (by kernel_rfl) (by kernel_rfl) (fun _ _ _ h => h) (by rfl) hHeld ?_ ?_
      rotate_left
      · (intro w hSw; (try dsimp only at hSw); go_split_ands; go_simp; try with_reducible rfl)
      (try simp only [Act.put, List.setIfInBounds_toArray, List.set_cons_zero, List.set_cons_succ])
      refine wpAnyH_done (by kernel_rfl) ?_ _
      go_wp2
      go_ret2
      rw [HNX.out, HWY.out]
      exact ⟨_, rfl, HOb.out, U4.out⟩
    · go_simp
      obtain ⟨y1, hy⟩ : ∃ y, y = y0.alloc (.cells (madeCells #[.bool false] n) 4) := ⟨_, rfl⟩
      rw [← hy]
      have hb : Below y0.heap.size y0 y1 := by rw [hy]; exact bAlloc (Below.refl _ _) _
      have U1 := hid (bThen U0.out hb)
      have z1 : y0.heap.size ≤ y1.heap.size := hb.size
      have O1 := hid (O0.out.below hb)
      have hz : y1.heap[y0.heap.size]? = some (.cells (madeCells #[.bool false] n) 4 (0, 0)) := by rw [hy]; exact heap_at rfl
      have B1 := hid (show Kd.bool.slice.K y1 (fun j => ((S j ∧ j < w.heap.size) ∨ y0.heap.size ≤ j) ∧ some j ≠ (Value.slice Ao no co).ownBlock) (List.replicate n false) [.slice (some ⟨y0.heap.size, 0, none⟩) n n] from K_of_block n n (by simp) hz ⟨.inr (by omega), fun e => by have := HRO.out _ e.symm; have := U0.out.size; omega⟩ (cells_rep rfl n) (Nat.le_refl _) (by simp; omega))
      clear hz hb hy
      refine hK.out _ _ (HSR.out _ U1.out) (fun hHeld => ?_)
      clear hK K
      (try simp only [Act.put, List.setIfInBounds_toArray, List.set_cons_zero, List.set_cons_succ])
      refine anyH_one 8 rfl (by kernel_rfl) (fun K hK => ?_)
      go_simp
      obtain ⟨y2, hy⟩ : ∃ y, y = y1.alloc (.cells (madeCells #[.int .i64 0] n) 3) := ⟨_, rfl⟩
      rw [← hy]
      have hb : Below y1.heap.size y1 y2 := by rw [hy]; exact bAlloc (Below.refl _ _) _
      have U2 := hid (bThen U1.out hb)
      have z2 : y1.heap.size ≤ y2.heap.size := hb.size
      have O2 := hid (O1.out.below hb)
      have B2 := hid (Kd.below B1.out hb)
      have hz : y2.heap[y1.heap.size]? = some (.cells (madeCells #[.int .i64 0] n) 3 (0, 0)) := by rw [hy]; exact heap_at rfl
      have M2 := hid (show I64.slice.K y2 (fun j => ((S j ∧ j < w.heap.size) ∨ y0.heap.size ≤ j) ∧ some j ≠ (Value.slice Ao no co).ownBlock) (List.replicate n 0) [.slice (some ⟨y1.heap.size, 0, none⟩) n n] from K_of_block n n (by simp) hz ⟨.inr (by omega), fun e => by have := HRO.out _ e.symm; have := U0.out.size; omega⟩ (cells_rep rfl n) (Nat.le_refl _) (by simp; omega))
      clear hz hb hy
      refine hK.out _ _ (HSR.out _ U2.out) (fun hHeld => ?_)
      clear hK K
      (try simp only [Act.put, List.setIfInBounds_toArray, List.set_cons_zero, List.set_cons_succ])
      refine anyH_take 11 (v := ?_) rfl (by kernel_rfl) (by kernel_rfl) (by kernel_rfl) (fun _ _ _ h => h) (by rfl) hHeld ?_ ?_
      rotate_left
      · (intro w hSw; (try dsimp only at hSw); go_split_ands; go_simp; try with_reducible rfl)
      (try simp only [Act.put, List.setIfInBounds_toArray, List.set_cons_zero, List.set_cons_succ])
      refine anyH_one 12 rfl (by kernel_rfl) (fun K hK => ?_)
      go_simp
      obtain ⟨y3, hy⟩ : ∃ y, y = y2.alloc (.cells #[.int .i64 x.job, .int .i64 x.sched, .int .i64 1, .slice XA n xc, .slice (some ⟨y1.heap.size, 0, none⟩) n n, .slice (some ⟨y0.heap.size, 0, none⟩) n n] 55) := ⟨_, rfl⟩
      rw [← hy]
      have hb : Below y2.heap.size y2 y3 := by rw [hy]; exact bAlloc (Below.refl _ _) _
      have U3 := hid (bThen U2.out hb)
      have z3 : y2.heap.size ≤ y3.heap.size := hb.size
      have O3 := hid (O2.out.below hb)
      have B3 := hid (Kd.below B2.out hb)
      have M3 := hid (Kd.below M2.out hb)
      have R3 := hid (show y3.heap[y2.heap.size]? = some (.cells #[.int .i64 x.job, .int .i64 x.sched, .int .i64 1, .slice XA n xc, .slice (some ⟨y1.heap.size, 0, none⟩) n n, .slice (some ⟨y0.heap.size, 0, none⟩) n n] 55 (0, 0)) by rw [hy]; exact heap_at rfl)
      clear hb hy
      refine hK.out _ _ (HSR.out _ U3.out) (fun hHeld => ?_)
      clear hK K
      (try simp only [Act.put, List.setIfInBounds_toArray, List.set_cons_zero, List.set_cons_succ])
      refine anyH_one 13 rfl (by kernel_rfl) (fun K hK => ?_)
      have hxn := Kd.str.slice.mono (S' := (fun j => ((S j ∧ j < w.heap.size) ∨ y0.heap.size ≤ j) ∧ some j ≠ (Value.slice Ao no co).ownBlock)) (fun j h _ => ⟨.inl h, fun e => by have := HRO.out _ e.symm; have := h.2; omega⟩) (Kd.below HX.out (bThen HBX.out U3.out))
      have he := entry_of (w := y3) (S := (fun j => ((S j ∧ j < w.heap.size) ∨ y0.heap.size ≤ j) ∧ some j ≠ (Value.slice Ao no co).ownBlock)) (acceptR x) (A := XA) (a := xc) (B := some ⟨y1.heap.size, 0, none⟩) (b := n) (D := some ⟨y0.heap.size, 0, none⟩) (d := n) (by show Kd.str.slice.K _ _ x.needs [.slice XA x.needs.length xc]; rw [← HN.out]; exact hxn) (by show I64.slice.K _ _ (List.replicate x.needs.length 0) [.slice _ (List.replicate x.needs.length (0 : Int)).length n]; rw [List.length_replicate, ← HN.out]; exact M3.out) (by show Kd.bool.slice.K _ _ (List.replicate x.needs.length false) [.slice _ (List.replicate x.needs.length false).length n]; rw [List.length_replicate, ← HN.out]; exact B3.out)
      rw [show (acceptR x).needs.length = n from HN.out.symm, show (acceptR x).bound.length = n from (List.length_replicate).trans HN.out.symm, show (acceptR x).done.length = n from (List.length_replicate).trans HN.out.symm] at he
      have HRR := hid (show Kd.entry.slice.K y3 (fun j => ((S j ∧ j < w.heap.size) ∨ y0.heap.size ≤ j) ∧ some j ≠ (Value.slice Ao no co).ownBlock) [acceptR x] [.slice (some ⟨y2.heap.size, 0, none⟩) 1 1] from K_of_block (d := Kd.entry) 1 1 rfl R3.out ⟨.inr (by omega), fun e => by have := HRO.out _ e.symm; have := U0.out.size; omega⟩ ⟨_, [], by simp [acceptR], he, rfl⟩ (Nat.le_refl _) (show 1 ≤ 140737488355328 by decide))
      refine appendsG_step Kd.entry w1.heap.size rfl _ _ 60 55 _ 96 rfl Tryz.underlying60 Tryz.infoEntry rfl (by decide) (by decide) (.slice Ao no co) b [acceptR x] (some ⟨y2.heap.size, 0, none⟩) 1 1 (fun j => (S j ∧ j < w.heap.size) ∨ y0.heap.size ≤ j) (fun j => ((S j ∧ j < w.heap.size) ∨ y0.heap.size ≤ j) ∧ some j ≠ (Value.slice Ao no co).ownBlock) (fun j => ((S j ∧ j < w.heap.size) ∨ y0.heap.size ≤ j) ∧ some j ≠ (Value.slice Ao no co).ownBlock) rfl rfl rfl (K_row HRR.out).1 (fun _ _ h => h) (fun _ h _ => h) O3.out (by have := HS3.out; have := U0.out.size; omega) (by have := HQ.out; omega) ?_
      intro vb y4 hOb hgb _
      have HOb := hid (show Kd.entry.slice.K y4 (fun j => S j ∨ w.heap.size ≤ j) (b ++ [acceptR x]) [vb] from by refine Kd.entry.slice.mono (fun j h _ => ?_) hOb.K; have := U0.out.size; rcases h with (h | h) | h; exact .inl h.1; exact .inr (by omega); exact .inr (by omega))
      have U4 := hid (show Below w.heap.size w y4 from (bThen HBW.out U3.out).trans ⟨hgb.os, hgb.tape, hgb.output, hgb.size, fun k hk => hgb.block k (Nat.lt_of_lt_of_le hk (bThen HBW.out U3.out).size) (fun e => by have h1 := HRO.out k e.symm; omega)⟩)
      have q9 := HSR.out y3 U3.out
      have HC9 := hid (show ∀ j, y4.cell? ⟨w.heap.size, j, none⟩ = y3.cell? ⟨w.heap.size, j, none⟩ from fun j => World.cell?_of_block (hgb.block w.heap.size (Nat.lt_of_lt_of_le (by omega : w.heap.size < w3.heap.size) U3.out.size) (fun e => by have h1 := HRO.out _ e.symm; omega)))
      clear hOb hgb he hxn
      refine hK.out _ _ ⟨(HC9.out 0).trans q9.1, (HC9.out 1).trans q9.2.1, (HC9.out 2).trans q9.2.2.1, (HC9.out 3).trans q9.2.2.2.1, (HC9.out 4).trans q9.2.2.2.2.1, (HC9.out 5).trans q9.2.2.2.2.2.1, (HC9.out 6).trans q9.2.2.2.2.2.2⟩ (fun hHeld => ?_)
      clear hK K
      (try simp only [Act.put, List.setIfInBounds_toArray, List.set_cons_zero, List.set_cons_succ])
      refine anyH_take 14 (v := ?_) rfl (by kernel_rfl) (by kernel_rfl) (by kernel_rfl) (fun _ _ _ h => h) (by rfl) hHeld ?_ ?_
      rotate_left
      · (intro w hSw; (try dsimp only at hSw); go_split_ands; go_simp; try with_reducible rfl)
      (try simp only [Act.put, List.setIfInBounds_toArray, List.set_cons_zero, List.set_cons_succ])
      refine anyH_take 15 (v := ?_) rfl (by kernel_rfl) (by kernel_rfl) (by kernel_rfl) (fun _ _ _ h => h) (by rfl) hHeld ?_ ?_
      rotate_left
      · (intro w hSw; (try dsimp only at hSw); go_split_ands; go_simp; try with_reducible rfl)
      (try simp only [Act.put, List.setIfInBounds_toArray, List.set_cons_zero, List.set_cons_succ])
      refine wpAnyH_done (by kernel_rfl) ?_ _
      go_wp2
      go_ret2
      rw [HNX.out, HWY.out]
      exact ⟨_, rfl, HOb.out, U4.out⟩
  have hk1 : (x.kind == (1 : Int)) = false := by rw [beq_eq_false_iff_ne]; exact hk
  cases hf : findE b x.job with
  | none => rw [whyB_none HREC.out hk hf] at HWY; exact absurd HWY.out (by decide)
  | some E =>
  have HWE := hid (show whyE E x = 0 from (whyB_some HREC.out hk hf).symm.trans HWY.out)
  obtain ⟨k, hpk, hbk, hidE⟩ := findE_parts20 hf
  have HNX := hid (show nextB b x = b.set k (doneE E x) from by rw [nextB_some HWY.out hk hf, hpk, Int.toNat_natCast])
  have HEO := hid (HBO.out.1 E (List.mem_of_getElem? hbk))
  have hkl : k < b.length := (List.getElem?_eq_some_iff.1 hbk).1
  have HKL := hid hkl
  have hkq : (k : Int) < (q : Int) := by rw [HQ.out]; omega
  have hk0 : (0 : Int) ≤ (k : Int) := by omega
  have hkn : (k : Int) < (no : Int) := by have := HNO.out; omega
  obtain ⟨g, rfl, hgl⟩ := HO3.out.first (by omega)
  have hgb := HRO.out g rfl
  obtain ⟨a, E', EA, EB, ED, ea, eb, ed, rfl, hx', k1, k2, k3, r0, r1, r2, r3, r4, r5⟩ := (K_row (Kd.below HB.out HBX.out)).1.at_entry k hkl
  rw [hbk] at hx'
  obtain rfl := Option.some.inj hx'
  have HK1 := hid k1
  have HK2 := hid k2
  have HK3 := hid k3
  have HKK := hid (recOk_parts HREC.out).1
  have HKD := hid hk
  clear hx' k1 k2 k3 hf hbk hidE hkl hk
  go_wp2_with fail
  refine (rplace_calls20 b x.job _ w3 (Kd.any (Kd.below HB.out HBX.out))).mono ?_
  rintro e w4 ⟨rfl, rfl⟩
  rw [hpk]
  obtain ⟨W4, hW4⟩ : ∃ W, W = w3.alloc (.cells #[.int .i64 E.id, .int .i64 E.sched, .int .i64 E.epoch, .slice EA E.needs.length ea, .slice EB E.bound.length eb, .slice ED E.done.length ed] 55) := ⟨_, rfl⟩
  have HB4 := hid (show Below w3.heap.size w3 W4 by rw [hW4]; exact bAlloc (Below.refl _ _) _)
  have HS4 := hid (show W4.heap.size = w3.heap.size + 1 by rw [hW4]; simp)
  have HZ4 := hid (show W4.heap[w3.heap.size]? = some (.cells #[.int .i64 E.id, .int .i64 E.sched, .int .i64 E.epoch, .slice EA E.needs.length ea, .slice EB E.bound.length eb, .slice ED E.done.length ed] 55 (0, 0)) by rw [hW4]; exact heap_at rfl)
  have HBE := hid (bThen HBW.out HB4.out)
  obtain ⟨p4, g4, _⟩ := cells_of_block HZ4.out
  have e1 := p4 1 _ rfl
  have e2 := p4 2 _ rfl
  have e4 := p4 4 _ rfl
  have e5 := p4 5 _ rfl
  have ef1 := g4 1
  have ef2 := g4 2
  have ef4 := g4 4
  have ef5 := g4 5
  obtain ⟨z0, z1, z2, z3, z4, z5, z6⟩ := HR.out W4 (bThen HBX.out HB4.out)
  have hEq4 := hW4.symm
  have hs4 := HS4.out
  clear p4 g4 hW4 hpk
  have hcc : x.kind = 2 ∨ x.kind = 3 ∨ x.kind = 4 := by have := HKK.out; have := HKD.out; omega

  rcases hcc with h2 | h2 | h2
  · have HDN := hid (doneE_bind (E := E) h2)
    have c1 : (x.kind == (2 : Int)) = true := by rw [h2]; decide
    have c2 : (x.kind == (3 : Int)) = false := by rw [h2]; decide
    have c3 : (x.kind == (4 : Int)) = false := by rw [h2]; decide
    have htk := recOk_task HREC.out (.inl h2)
    have hwk := recOk_worker HREC.out h2
    have hww : IntKind.i64.wrap (x.worker + 1) = x.worker + 1 := IntWalk.i64_in _ (by omega)
    obtain ⟨t, ht⟩ : ∃ t : Nat, x.task = t := ⟨x.task.toNat, by omega⟩
    have htt : x.task.toNat = t := by rw [ht]; rfl
    have HTT := hid ht
    have htn : t < E.bound.length := by
      have h8 : ¬ (tasksE E : Int) ≤ x.task := fun h8 => by have h9 := HWE.out; rw [whyE_task (by rw [h2]; decide) h8] at h9; exact absurd h9 (by decide)
      have := HEO.out.tasks; have := HEO.out.bl; have := HEO.out.dl; omega
    have hfl : E.bound.length ≤ 16 := by have := HEO.out.nl; have := HEO.out.bl; have := HEO.out.dl; omega
    rw [htt] at HDN
    rw [ht] at z2
    clear ht htt htk h2
    obtain ⟨W5, hW5⟩ : ∃ W, W = W4.alloc (.cells #[] 3) := ⟨_, rfl⟩
    have HB5 := hid (show Below W4.heap.size W4 W5 by rw [hW5]; exact bAlloc (Below.refl _ _) _)
    have HO5 := hid (own_emptyE (d := I64) (T := NoT) (show W5.heap[W4.heap.size]? = some (.cells #[] 3 (0, 0)) by rw [hW5]; exact heap_at rfl) (Nat.le_refl _))
    have HR5 := hid (K_row (Kd.below HK2.out (bThen HB4.out HB5.out)))
    have hEq5 := hW5.symm
    obtain ⟨p5, _, _⟩ := cells_of_block ((HB5.out.block w3.heap.size (by omega)).trans HZ4.out)
    have f4 := p5 4 _ rfl
    clear p5 hW5 hs4
    go_wp2_with (at_builtin; go_must (refine appends_arm (Kd.int .i64) (w0 := W4) (W := W5) W4.heap.size rfl _ _ 52 3 _ 8 rfl Tryz.underlying52 Tryz.infoInt rfl (by decide) (by decide) (.slice (some ⟨W4.heap.size, 0, none⟩) 0 0) [] E.bound EB E.bound.length eb NoT (fun k => S k ∧ k < w.heap.size) NoT rfl rfl rfl HR5.out.1 (fun _ _ h => h) (fun _ h => h.elim) HO5.out HB5.out HB5.out.size (by simp; omega) ?_))
    intro v6 w6 hO6 hb6 hg6 _
    have hs4 := HS4.out
    try rw [List.nil_append] at hO6
    obtain ⟨Ab, nb, cb, rfl, hnb, _⟩ := hO6.shape'
    subst hnb
    obtain ⟨gb, rfl, hgb2⟩ := hO6.first (by omega)
    have hgb3 : W4.heap.size ≤ gb := (hO6.lt gb rfl).1
    have HB6 := hid (show Below W4.heap.size W4 w6 from hb6)
    obtain ⟨W7, hW7⟩ : ∃ W, W = w6.setCell ⟨w3.heap.size, 4, none⟩ (.slice (some ⟨gb, 0, none⟩) E.bound.length cb) := ⟨_, rfl⟩
    have HZ6 := hid ((HB6.out.block w3.heap.size (by omega)).trans HZ4.out)
    have HZ7 := hid (show W7.heap[w3.heap.size]? = some (.cells #[.int .i64 E.id, .int .i64 E.sched, .int .i64 E.epoch, .slice EA E.needs.length ea, .slice (some ⟨gb, 0, none⟩) E.bound.length cb, .slice ED E.done.length ed] 55 (0, 0)) by rw [hW7]; have h := heap_set HZ6.out 4 (.slice (some ⟨gb, 0, none⟩) E.bound.length cb); simpa using h)
    have HN7 := hid (show ∀ j, j ≠ w3.heap.size → W7.heap[j]? = w6.heap[j]? from fun j hj => by rw [hW7]; exact Below.heap_setCell _ _ _ _ hj)
    have HO7 := hid (hO6.move (w1 := W7) (fun j hj hl => HN7.out j (fun e => by rcases hj with hj | hj; exact hj.elim; have := (hO6.lt j hj).1; omega)) (fun _ h _ => h))
    obtain ⟨W8, hW8⟩ : ∃ W, W = W7.setCell ⟨gb, t, none⟩ (.int .i64 (x.worker + 1)) := ⟨_, rfl⟩
    obtain ⟨ab9, vb9, hab9, hxb9, zz9⟩ := (K_row (Kd.any HO7.out.K)).1.at_int t htn
    injection hab9 with hab9
    subst hab9
    rw [add_lit0] at zz9
    have zf9 := HO7.out.free.2.2 t
    have HO8 := hid (show Own I64 3 W8 W4.heap.size NoT (.slice (some ⟨gb, 0, none⟩) E.bound.length cb) (E.bound.set t (x.worker + 1)) from by
      rw [hW8]
      exact HO7.out.set t vb9 (x.worker + 1) hxb9 0 (by decide) (.int .i64 (x.worker + 1)) (fun w S cs hc => by
        have hc : cs = [.int .i64 vb9] := hc
        rw [hc]; rfl) ⟨gb, t, none⟩ (by simp [I64, Kd.int, Kd.bool, Kd.flat]))
    have HN8 := hid (show ∀ j, j ≠ gb → W8.heap[j]? = W7.heap[j]? from fun j hj => by rw [hW8]; exact Below.heap_setCell _ _ _ _ hj)
    have HNA := hid (show ∀ j, j < w3.heap.size → W8.heap[j]? = w3.heap[j]? from fun j hj => (HN8.out j (by omega)).trans ((HN7.out j (by omega)).trans ((HB6.out.block j (by omega)).trans (HB4.out.block j hj))))
    have HZ8 := hid ((HN8.out w3.heap.size (by omega)).trans HZ7.out)
    have HB8 := hid (show Below w.heap.size w W8 by rw [hW8, hW7]; exact (((bThen HBE.out HB6.out).setCell (p := ⟨w3.heap.size, 4, none⟩) (by show w.heap.size ≤ w3.heap.size; omega) _).setCell (p := ⟨gb, t, none⟩) (by show w.heap.size ≤ gb; omega) _))
    have HJ1 := hid (Kd.str.slice.mono (S' := fun j => ((S j ∧ j < w.heap.size) ∨ w3.heap.size ≤ j) ∧ j ≠ g) (fun j h _ => ⟨.inl h, by have := h.2; omega⟩) (Kd.str.slice.move (w1 := W8) (fun j h hl => HNA.out j hl) HK1.out))
    have HJ2 := hid (show I64.slice.K W8 (fun j => ((S j ∧ j < w.heap.size) ∨ w3.heap.size ≤ j) ∧ j ≠ g) (E.bound.set t (x.worker + 1)) [.slice (some ⟨gb, 0, none⟩) (E.bound.set t (x.worker + 1)).length cb] from by rw [List.length_set]; refine I64.slice.mono (fun j h _ => ?_) HO8.out.K; rcases h with h | h; exact h.elim; exact ⟨.inr (by omega), by omega⟩)
    have HJ3 := hid (Kd.bool.slice.mono (S' := fun j => ((S j ∧ j < w.heap.size) ∨ w3.heap.size ≤ j) ∧ j ≠ g) (fun j h _ => ⟨.inl h, by have := h.2; omega⟩) (Kd.bool.slice.move (w1 := W8) (fun j h hl => HNA.out j hl) HK3.out))
    obtain ⟨p7, g7, _⟩ := cells_of_block HZ6.out
    have i4 := p7 4 _ rfl
    have if4 := g7 4
    obtain ⟨p8, _, _⟩ := cells_of_block HZ7.out
    have j4 := p8 4 _ rfl
    have HR7 := hid (show ∀ j, W7.cell? ⟨w.heap.size, j, none⟩ = w3.cell? ⟨w.heap.size, j, none⟩ from fun j => World.cell?_of_block ((HN7.out w.heap.size (by omega)).trans ((HB6.out.block w.heap.size (by omega)).trans (HB4.out.block w.heap.size (by omega)))))
    have HR6 := hid (show ∀ j, W8.cell? ⟨w.heap.size, j, none⟩ = w3.cell? ⟨w.heap.size, j, none⟩ from fun j => World.cell?_of_block (HNA.out w.heap.size (by omega)))
    obtain ⟨y0, y1, y2, y3, y4, y5, y6⟩ := HR.out w3 HBX.out
    have n0 := (HR7.out 0).trans y0
    have n2 := (HR7.out 2).trans y2
    rw [HTT.out] at n2
    have n3 := (HR7.out 3).trans y3
    have l0 := (HR6.out 0).trans y0
    have hEq7 := hW7.symm
    have hEq8 := hW8.symm
    have ht0 : (0 : Int) ≤ (t : Int) := by omega
    have htI : (t : Int) < (E.bound.length : Int) := by omega
    have hq1 : ¬ w3.heap.size = w.heap.size := by omega
    have hq2 : ¬ w.heap.size = w3.heap.size := by omega
    clear hO6 hb6 hg6 p7 g7 p8 y0 y1 y2 y3 y4 y5 y6 hW7 hW8 hxb9 e1 e2 e4 e5 ef1 ef2 ef4 ef5 z0 z1 z2 z3 z4 z5 z6 hEq4 hEq5 hs4 f4
    have hs4 := HS4.out
    have hO := hid ((HO3.out.move (w1 := W8) (T' := fun j => (S j ∧ j < w.heap.size) ∨ w3.heap.size ≤ j) (fun j hj hl => HNA.out j hl) (fun j h _ => .inl h)))
    obtain ⟨wf, hwf, HKF, HNF, HBF⟩ := hO.out.put6 k HKL.out (doneE E x) (.int .i64 E.id) (.int .i64 E.sched) (.int .i64 E.epoch) (.slice EA E.needs.length ea) (.slice (some ⟨gb, 0, none⟩) E.bound.length cb) (.slice ED E.done.length ed) (by
      have he := entry_of (w := W8) (S := fun j => ((S j ∧ j < w.heap.size) ∨ w3.heap.size ≤ j) ∧ j ≠ g) (doneE E x) (A := EA) (a := ea) (B := (some ⟨gb, 0, none⟩)) (b := cb) (D := ED) (d := ed) (by rw [HDN.out]; exact HJ1.out) (by rw [HDN.out]; exact HJ2.out) (by rw [HDN.out]; exact HJ3.out)
      rw [HDN.out] at he ⊢
      try simp only [List.length_set] at he
      exact he)
    obtain ⟨a9, E9, GA, GB, GD, ga, gb, gd, ha9, _, _, _, _, s0, s1, s2, s3, s4, s5⟩ := (K_row (Kd.any hO.out.K)).1.at_entry k HKL.out
    injection ha9 with ha9
    subst ha9
    rw [add_lit0] at s0 s1 s2 s3 s4 s5
    have hfr := hO.out.free.2.2
    have t0 := hfr (k * 6)
    have t1 := hfr (k * 6 + 1)
    have t2 := hfr (k * 6 + 2)
    have t3 := hfr (k * 6 + 3)
    have t4 := hfr (k * 6 + 4)
    have t5 := hfr (k * 6 + 5)
    obtain ⟨p5, _, _⟩ := cells_of_block HZ8.out
    have v0 := p5 0 _ rfl
    have v1 := p5 1 _ rfl
    have v2 := p5 2 _ rfl
    have v3 := p5 3 _ rfl
    have v4 := p5 4 _ rfl
    have v5 := p5 5 _ rfl
    have HKF := hid (show Kd.entry.slice.K wf (fun j => S j ∨ w.heap.size ≤ j) (b.set k (doneE E x)) [.slice (some ⟨g, 0, none⟩) no co] from by refine Kd.entry.slice.mono (fun j h _ => ?_) HKF; rcases h with (h | h) | h; exact .inl h.1; exact .inr (by omega); exact .inr (by omega))
    have HBF := hid (show Below w.heap.size w wf from HB8.out.trans (HBF.mono (by omega)))
    clear HNF hfr p5 hs4
    go_wp2
    rw [← hwf]
    go_ret2
    rw [HNX.out, HWY.out]
    exact ⟨_, rfl, HKF.out, HBF.out⟩
  · have HDN := hid (doneE_end (E := E) h2)
    have c1 : (x.kind == (2 : Int)) = false := by rw [h2]; decide
    have c2 : (x.kind == (3 : Int)) = true := by rw [h2]; decide
    have c3 : (x.kind == (4 : Int)) = false := by rw [h2]; decide
    have htk := recOk_task HREC.out (.inr h2)
    obtain ⟨t, ht⟩ : ∃ t : Nat, x.task = t := ⟨x.task.toNat, by omega⟩
    have htt : x.task.toNat = t := by rw [ht]; rfl
    have HTT := hid ht
    have htn : t < E.done.length := by
      have h8 : ¬ (tasksE E : Int) ≤ x.task := fun h8 => by have h9 := HWE.out; rw [whyE_task (by rw [h2]; decide) h8] at h9; exact absurd h9 (by decide)
      have := HEO.out.tasks; have := HEO.out.bl; have := HEO.out.dl; omega
    have hfl : E.done.length ≤ 16 := by have := HEO.out.nl; have := HEO.out.bl; have := HEO.out.dl; omega
    rw [htt] at HDN
    rw [ht] at z2
    clear ht htt htk h2
    obtain ⟨W5, hW5⟩ : ∃ W, W = W4.alloc (.cells #[] 4) := ⟨_, rfl⟩
    have HB5 := hid (show Below W4.heap.size W4 W5 by rw [hW5]; exact bAlloc (Below.refl _ _) _)
    have HO5 := hid (own_emptyE (d := Kd.bool) (T := NoT) (show W5.heap[W4.heap.size]? = some (.cells #[] 4 (0, 0)) by rw [hW5]; exact heap_at rfl) (Nat.le_refl _))
    have HR5 := hid (K_row (Kd.below HK3.out (bThen HB4.out HB5.out)))
    have hEq5 := hW5.symm
    obtain ⟨p5, _, _⟩ := cells_of_block ((HB5.out.block w3.heap.size (by omega)).trans HZ4.out)
    have f5 := p5 5 _ rfl
    clear p5 hW5 hs4
    go_wp2_with (at_builtin; go_must (refine appends_arm (Kd.bool) (w0 := W4) (W := W5) W4.heap.size rfl _ _ 53 4 _ 1 rfl Tryz.underlying53 Tryz.infoBool rfl (by decide) (by decide) (.slice (some ⟨W4.heap.size, 0, none⟩) 0 0) [] E.done ED E.done.length ed NoT (fun k => S k ∧ k < w.heap.size) NoT rfl rfl rfl HR5.out.1 (fun _ _ h => h) (fun _ h => h.elim) HO5.out HB5.out HB5.out.size (by simp; omega) ?_))
    intro v6 w6 hO6 hb6 hg6 _
    have hs4 := HS4.out
    try rw [List.nil_append] at hO6
    obtain ⟨Ab, nb, cb, rfl, hnb, _⟩ := hO6.shape'
    subst hnb
    obtain ⟨gb, rfl, hgb2⟩ := hO6.first (by omega)
    have hgb3 : W4.heap.size ≤ gb := (hO6.lt gb rfl).1
    have HB6 := hid (show Below W4.heap.size W4 w6 from hb6)
    obtain ⟨W7, hW7⟩ : ∃ W, W = w6.setCell ⟨w3.heap.size, 5, none⟩ (.slice (some ⟨gb, 0, none⟩) E.done.length cb) := ⟨_, rfl⟩
    have HZ6 := hid ((HB6.out.block w3.heap.size (by omega)).trans HZ4.out)
    have HZ7 := hid (show W7.heap[w3.heap.size]? = some (.cells #[.int .i64 E.id, .int .i64 E.sched, .int .i64 E.epoch, .slice EA E.needs.length ea, .slice EB E.bound.length eb, .slice (some ⟨gb, 0, none⟩) E.done.length cb] 55 (0, 0)) by rw [hW7]; have h := heap_set HZ6.out 5 (.slice (some ⟨gb, 0, none⟩) E.done.length cb); simpa using h)
    have HN7 := hid (show ∀ j, j ≠ w3.heap.size → W7.heap[j]? = w6.heap[j]? from fun j hj => by rw [hW7]; exact Below.heap_setCell _ _ _ _ hj)
    have HO7 := hid (hO6.move (w1 := W7) (fun j hj hl => HN7.out j (fun e => by rcases hj with hj | hj; exact hj.elim; have := (hO6.lt j hj).1; omega)) (fun _ h _ => h))
    obtain ⟨W8, hW8⟩ : ∃ W, W = W7.setCell ⟨gb, t, none⟩ (.bool true) := ⟨_, rfl⟩
    obtain ⟨ab9, vb9, hab9, hxb9, zz9⟩ := (K_row (Kd.any HO7.out.K)).1.at_bool t htn
    injection hab9 with hab9
    subst hab9
    rw [add_lit0] at zz9
    have zf9 := HO7.out.free.2.2 t
    have HO8 := hid (show Own Kd.bool 4 W8 W4.heap.size NoT (.slice (some ⟨gb, 0, none⟩) E.done.length cb) (E.done.set t true) from by
      rw [hW8]
      exact HO7.out.set t vb9 true hxb9 0 (by decide) (.bool true) (fun w S cs hc => by
        have hc : cs = [.bool vb9] := hc
        rw [hc]; rfl) ⟨gb, t, none⟩ (by simp [I64, Kd.int, Kd.bool, Kd.flat]))
    have HN8 := hid (show ∀ j, j ≠ gb → W8.heap[j]? = W7.heap[j]? from fun j hj => by rw [hW8]; exact Below.heap_setCell _ _ _ _ hj)
    have HNA := hid (show ∀ j, j < w3.heap.size → W8.heap[j]? = w3.heap[j]? from fun j hj => (HN8.out j (by omega)).trans ((HN7.out j (by omega)).trans ((HB6.out.block j (by omega)).trans (HB4.out.block j hj))))
    have HZ8 := hid ((HN8.out w3.heap.size (by omega)).trans HZ7.out)
    have HB8 := hid (show Below w.heap.size w W8 by rw [hW8, hW7]; exact (((bThen HBE.out HB6.out).setCell (p := ⟨w3.heap.size, 5, none⟩) (by show w.heap.size ≤ w3.heap.size; omega) _).setCell (p := ⟨gb, t, none⟩) (by show w.heap.size ≤ gb; omega) _))
    have HJ1 := hid (Kd.str.slice.mono (S' := fun j => ((S j ∧ j < w.heap.size) ∨ w3.heap.size ≤ j) ∧ j ≠ g) (fun j h _ => ⟨.inl h, by have := h.2; omega⟩) (Kd.str.slice.move (w1 := W8) (fun j h hl => HNA.out j hl) HK1.out))
    have HJ2 := hid (I64.slice.mono (S' := fun j => ((S j ∧ j < w.heap.size) ∨ w3.heap.size ≤ j) ∧ j ≠ g) (fun j h _ => ⟨.inl h, by have := h.2; omega⟩) (I64.slice.move (w1 := W8) (fun j h hl => HNA.out j hl) HK2.out))
    have HJ3 := hid (show Kd.bool.slice.K W8 (fun j => ((S j ∧ j < w.heap.size) ∨ w3.heap.size ≤ j) ∧ j ≠ g) (E.done.set t true) [.slice (some ⟨gb, 0, none⟩) (E.done.set t true).length cb] from by rw [List.length_set]; refine Kd.bool.slice.mono (fun j h _ => ?_) HO8.out.K; rcases h with h | h; exact h.elim; exact ⟨.inr (by omega), by omega⟩)
    obtain ⟨p7, g7, _⟩ := cells_of_block HZ6.out
    have i5 := p7 5 _ rfl
    have if5 := g7 5
    obtain ⟨p8, _, _⟩ := cells_of_block HZ7.out
    have j5 := p8 5 _ rfl
    have HR7 := hid (show ∀ j, W7.cell? ⟨w.heap.size, j, none⟩ = w3.cell? ⟨w.heap.size, j, none⟩ from fun j => World.cell?_of_block ((HN7.out w.heap.size (by omega)).trans ((HB6.out.block w.heap.size (by omega)).trans (HB4.out.block w.heap.size (by omega)))))
    have HR6 := hid (show ∀ j, W8.cell? ⟨w.heap.size, j, none⟩ = w3.cell? ⟨w.heap.size, j, none⟩ from fun j => World.cell?_of_block (HNA.out w.heap.size (by omega)))
    obtain ⟨y0, y1, y2, y3, y4, y5, y6⟩ := HR.out w3 HBX.out
    have n0 := (HR7.out 0).trans y0
    have n2 := (HR7.out 2).trans y2
    rw [HTT.out] at n2
    have n3 := (HR7.out 3).trans y3
    have l0 := (HR6.out 0).trans y0
    have hEq7 := hW7.symm
    have hEq8 := hW8.symm
    have ht0 : (0 : Int) ≤ (t : Int) := by omega
    have htI : (t : Int) < (E.done.length : Int) := by omega
    have hq1 : ¬ w3.heap.size = w.heap.size := by omega
    have hq2 : ¬ w.heap.size = w3.heap.size := by omega
    clear hO6 hb6 hg6 p7 g7 p8 y0 y1 y2 y3 y4 y5 y6 hW7 hW8 hxb9 e1 e2 e4 e5 ef1 ef2 ef4 ef5 z0 z1 z2 z3 z4 z5 z6 hEq4 hEq5 hs4 f5
    have hs4 := HS4.out
    have hO := hid ((HO3.out.move (w1 := W8) (T' := fun j => (S j ∧ j < w.heap.size) ∨ w3.heap.size ≤ j) (fun j hj hl => HNA.out j hl) (fun j h _ => .inl h)))
    obtain ⟨wf, hwf, HKF, HNF, HBF⟩ := hO.out.put6 k HKL.out (doneE E x) (.int .i64 E.id) (.int .i64 E.sched) (.int .i64 E.epoch) (.slice EA E.needs.length ea) (.slice EB E.bound.length eb) (.slice (some ⟨gb, 0, none⟩) E.done.length cb) (by
      have he := entry_of (w := W8) (S := fun j => ((S j ∧ j < w.heap.size) ∨ w3.heap.size ≤ j) ∧ j ≠ g) (doneE E x) (A := EA) (a := ea) (B := EB) (b := eb) (D := (some ⟨gb, 0, none⟩)) (d := cb) (by rw [HDN.out]; exact HJ1.out) (by rw [HDN.out]; exact HJ2.out) (by rw [HDN.out]; exact HJ3.out)
      rw [HDN.out] at he ⊢
      try simp only [List.length_set] at he
      exact he)
    obtain ⟨a9, E9, GA, GB, GD, ga, gb, gd, ha9, _, _, _, _, s0, s1, s2, s3, s4, s5⟩ := (K_row (Kd.any hO.out.K)).1.at_entry k HKL.out
    injection ha9 with ha9
    subst ha9
    rw [add_lit0] at s0 s1 s2 s3 s4 s5
    have hfr := hO.out.free.2.2
    have t0 := hfr (k * 6)
    have t1 := hfr (k * 6 + 1)
    have t2 := hfr (k * 6 + 2)
    have t3 := hfr (k * 6 + 3)
    have t4 := hfr (k * 6 + 4)
    have t5 := hfr (k * 6 + 5)
    obtain ⟨p5, _, _⟩ := cells_of_block HZ8.out
    have v0 := p5 0 _ rfl
    have v1 := p5 1 _ rfl
    have v2 := p5 2 _ rfl
    have v3 := p5 3 _ rfl
    have v4 := p5 4 _ rfl
    have v5 := p5 5 _ rfl
    have HKF := hid (show Kd.entry.slice.K wf (fun j => S j ∨ w.heap.size ≤ j) (b.set k (doneE E x)) [.slice (some ⟨g, 0, none⟩) no co] from by refine Kd.entry.slice.mono (fun j h _ => ?_) HKF; rcases h with (h | h) | h; exact .inl h.1; exact .inr (by omega); exact .inr (by omega))
    have HBF := hid (show Below w.heap.size w wf from HB8.out.trans (HBF.mono (by omega)))
    clear HNF hfr p5 hs4
    go_wp2
    rw [← hwf]
    go_ret2
    rw [HNX.out, HWY.out]
    exact ⟨_, rfl, HKF.out, HBF.out⟩
  · have HDN := hid (doneE_own (E := E) h2)
    have c1 : (x.kind == (2 : Int)) = false := by rw [h2]; decide
    have c2 : (x.kind == (3 : Int)) = false := by rw [h2]; decide
    have c3 : (x.kind == (4 : Int)) = true := by rw [h2]; decide
    obtain ⟨W5, hW5⟩ : ∃ W, W = (W4.setCell ⟨w3.heap.size, 1, none⟩ (.int .i64 x.sched)).setCell ⟨w3.heap.size, 2, none⟩ (.int .i64 x.epoch) := ⟨_, rfl⟩
    have HZ5 := hid (show W5.heap[w3.heap.size]? = some (.cells #[.int .i64 E.id, .int .i64 x.sched, .int .i64 x.epoch, .slice EA E.needs.length ea, .slice EB E.bound.length eb, .slice ED E.done.length ed] 55 (0, 0)) by
      rw [hW5]
      have h := heap_set (heap_set HZ4.out 1 (.int .i64 x.sched)) 2 (.int .i64 x.epoch)
      simpa using h)
    have HN5 := hid (show ∀ j, j < w3.heap.size → W5.heap[j]? = w3.heap[j]? from fun j hj => by
      rw [hW5]
      exact ((Below.heap_setCell _ _ _ _ (by show j ≠ w3.heap.size; omega)).trans (Below.heap_setCell _ _ _ _ (by show j ≠ w3.heap.size; omega))).trans (HB4.out.block j hj))
    have HB5 := hid (show Below w.heap.size w W5 by rw [hW5]; exact (HBE.out.setCell (p := ⟨w3.heap.size, 1, none⟩) (by show w.heap.size ≤ w3.heap.size; omega) _).setCell (p := ⟨w3.heap.size, 2, none⟩) (by show w.heap.size ≤ w3.heap.size; omega) _)
    have HJ1 := hid (Kd.str.slice.mono (S' := fun j => ((S j ∧ j < w.heap.size) ∨ w3.heap.size ≤ j) ∧ j ≠ g) (fun j h _ => ⟨.inl h, by have := h.2; omega⟩) (Kd.str.slice.move (w1 := W5) (fun j h hl => HN5.out j hl) HK1.out))
    have HJ2 := hid (I64.slice.mono (S' := fun j => ((S j ∧ j < w.heap.size) ∨ w3.heap.size ≤ j) ∧ j ≠ g) (fun j h _ => ⟨.inl h, by have := h.2; omega⟩) (I64.slice.move (w1 := W5) (fun j h hl => HN5.out j hl) HK2.out))
    have HJ3 := hid (Kd.bool.slice.mono (S' := fun j => ((S j ∧ j < w.heap.size) ∨ w3.heap.size ≤ j) ∧ j ≠ g) (fun j h _ => ⟨.inl h, by have := h.2; omega⟩) (Kd.bool.slice.move (w1 := W5) (fun j h hl => HN5.out j hl) HK3.out))
    have hEq5 := hW5.symm
    clear hW5 h2
    have hq1 : ¬ w3.heap.size = w.heap.size := by omega
    have hq2 : ¬ w.heap.size = w3.heap.size := by omega
    have hs4 := HS4.out
    have hO := hid ((HO3.out.move (w1 := W5) (T' := fun j => (S j ∧ j < w.heap.size) ∨ w3.heap.size ≤ j) (fun j hj hl => HN5.out j hl) (fun j h _ => .inl h)))
    obtain ⟨wf, hwf, HKF, HNF, HBF⟩ := hO.out.put6 k HKL.out (doneE E x) (.int .i64 E.id) (.int .i64 x.sched) (.int .i64 x.epoch) (.slice EA E.needs.length ea) (.slice EB E.bound.length eb) (.slice ED E.done.length ed) (by
      have he := entry_of (w := W5) (S := fun j => ((S j ∧ j < w.heap.size) ∨ w3.heap.size ≤ j) ∧ j ≠ g) (doneE E x) (A := EA) (a := ea) (B := EB) (b := eb) (D := ED) (d := ed) (by rw [HDN.out]; exact HJ1.out) (by rw [HDN.out]; exact HJ2.out) (by rw [HDN.out]; exact HJ3.out)
      rw [HDN.out] at he ⊢
      try simp only [List.length_set] at he
      exact he)
    obtain ⟨a9, E9, GA, GB, GD, ga, gb, gd, ha9, _, _, _, _, s0, s1, s2, s3, s4, s5⟩ := (K_row (Kd.any hO.out.K)).1.at_entry k HKL.out
    injection ha9 with ha9
    subst ha9
    rw [add_lit0] at s0 s1 s2 s3 s4 s5
    have hfr := hO.out.free.2.2
    have t0 := hfr (k * 6)
    have t1 := hfr (k * 6 + 1)
    have t2 := hfr (k * 6 + 2)
    have t3 := hfr (k * 6 + 3)
    have t4 := hfr (k * 6 + 4)
    have t5 := hfr (k * 6 + 5)
    obtain ⟨p5, _, _⟩ := cells_of_block HZ5.out
    have v0 := p5 0 _ rfl
    have v1 := p5 1 _ rfl
    have v2 := p5 2 _ rfl
    have v3 := p5 3 _ rfl
    have v4 := p5 4 _ rfl
    have v5 := p5 5 _ rfl
    have HKF := hid (show Kd.entry.slice.K wf (fun j => S j ∨ w.heap.size ≤ j) (b.set k (doneE E x)) [.slice (some ⟨g, 0, none⟩) no co] from by refine Kd.entry.slice.mono (fun j h _ => ?_) HKF; rcases h with (h | h) | h; exact .inl h.1; exact .inr (by omega); exact .inr (by omega))
    have HBF := hid (show Below w.heap.size w wf from HB5.out.trans (HBF.mono (by omega)))
    clear HNF hfr p5 hs4
    go_wp2
    rw [← hwf]
    go_ret2
    rw [HNX.out, HWY.out]
    exact ⟨_, rfl, HKF.out, HBF.out⟩
end Go.Proofs.YtkjncmmombkllaaGreat
