/- siskinref20.One of equal entries. -/
import Derived.Test.YtgedkcglkhleoaaGreatDoorEntryE
import Derived.Test.YtgedkcglkhleoaaGreatDoorBase
namespace Go.Proofs.YtgedkcglkhleoaaGreatDoor
open Go.RowKit

set_option maxHeartbeats 4000000 in
set_option maxRecDepth 100000 in
theorem one20_calls (E : EntryS) (EA EB ED : Option Addr) (ea eb ed : Nat) (FA FB FD : Option Addr) (fa fb fd : Nat) (w : World) (h1 : EAt w E EA EB ED ea eb ed) (h2 : EAt w E FA FB FD fa fb fd) :
    Calls Tryz.prog 31 #[.agg #[.int .i64 E.id, .int .i64 E.sched, .int .i64 E.epoch, .slice EA E.needs.length ea, .slice EB E.bound.length eb, .slice ED E.done.length ed], .agg #[.int .i64 E.id, .int .i64 E.sched, .int .i64 E.epoch, .slice FA E.needs.length fa, .slice FB E.bound.length fb, .slice FD E.done.length fd]] w fun e w' => e = .returned (.bool true) ∧ Below w.heap.size w w' := by
  obtain ⟨V, hV⟩ : ∃ V, V = (w.alloc (.cells #[.int .i64 E.id, .int .i64 E.sched, .int .i64 E.epoch, .slice EA E.needs.length ea, .slice EB E.bound.length eb, .slice ED E.done.length ed] 45)).alloc (.cells #[.int .i64 E.id, .int .i64 E.sched, .int .i64 E.epoch, .slice FA E.needs.length fa, .slice FB E.bound.length fb, .slice FD E.done.length fd] 45) := ⟨_, rfl⟩
  have hb0 : Below w.heap.size w V := by rw [hV]; exact bAlloc (bAlloc (Below.refl _ _) _) _
  have hz1 : V.heap[w.heap.size]? = some (.cells #[.int .i64 E.id, .int .i64 E.sched, .int .i64 E.epoch, .slice EA E.needs.length ea, .slice EB E.bound.length eb, .slice ED E.done.length ed] 45 (0, 0)) := by rw [hV, Below.heap_alloc _ _ _ (by simp)]; exact heap_at rfl
  have hz2 : V.heap[w.heap.size + 1]? = some (.cells #[.int .i64 E.id, .int .i64 E.sched, .int .i64 E.epoch, .slice FA E.needs.length fa, .slice FB E.bound.length fb, .slice FD E.done.length fd] 45 (0, 0)) := by rw [hV]; exact heap_at (by simp)
  have HZ1 := hid hz1
  have HZ2 := hid hz2
  have HBV := hid hb0
  have H1 := hid (show EAt V E EA EB ED ea eb ed from ⟨Kd.below h1.needs hb0, Kd.below h1.bound hb0, Kd.below h1.done hb0⟩)
  have H2 := hid (show EAt V E FA FB FD fa fb fd from ⟨Kd.below h2.needs hb0, Kd.below h2.bound hb0, Kd.below h2.done hb0⟩)
  have hEq := hV.symm
  obtain ⟨n, hn⟩ : ∃ n, n = E.done.length := ⟨_, rfl⟩
  have HN := hid hn
  rw [← hn] at HZ1 HZ2 hEq ⊢
  clear hV h1 h2 hb0 hz1 hz2 hn
  have HC1 := hid (fun (u : World) (h : Below V.heap.size V u) => (cells_of_block ((h.block w.heap.size (Array.getElem?_eq_some_iff.1 HZ1.out).1).trans HZ1.out)).1)
  have HC2 := hid (fun (u : World) (h : Below V.heap.size V u) => (cells_of_block ((h.block (w.heap.size + 1) (Array.getElem?_eq_some_iff.1 HZ2.out).1).trans HZ2.out)).1)
  have x0 := HC1.out V (Below.refl _ _) 0 _ rfl
  have x1 := HC1.out V (Below.refl _ _) 1 _ rfl
  have x2 := HC1.out V (Below.refl _ _) 2 _ rfl
  have x3 := HC1.out V (Below.refl _ _) 3 _ rfl
  have y0 := HC2.out V (Below.refl _ _) 0 _ rfl
  have y1 := HC2.out V (Below.refl _ _) 1 _ rfl
  have y2 := HC2.out V (Below.refl _ _) 2 _ rfl
  have y3 := HC2.out V (Below.refl _ _) 3 _ rfl
  go_enter Tryz.func31, Tryz.ntmps31
  go_wp2_with fail
  refine (same_calls E.needs E.needs _ _ V H1.out.needs H2.out.needs).mono ?_
  rintro e w1 ⟨rfl, hb1⟩
  rw [decide_eq_true (rfl : E.needs = E.needs)]
  have HB1 := hid hb1
  clear hb1 hEq x0 x1 x2 x3 y0 y1 y2 y3
  have x4 := HC1.out w1 HB1.out 4 _ rfl
  have y4 := HC2.out w1 HB1.out 4 _ rfl
  go_wp2_with fail
  refine (isame_calls E.bound _ _ w1 (Kd.below H1.out.bound HB1.out) (Kd.below H2.out.bound HB1.out)).mono ?_
  rintro e w2 ⟨rfl, n2, hd⟩
  have HB2 := hid (show Below V.heap.size V w2 by rw [hd]; exact below_drewN HB1.out n2)
  clear hd x4 y4
  have x5 := HC1.out w2 HB2.out 5 _ rfl
  have y5 := HC2.out w2 HB2.out 5 _ rfl
  go_wp2
  go_loopw [5] (fun i wr => ∃ k : Nat, k ≤ n ∧ i = .int .i64 k ∧ Hid (Below V.heap.size V wr)) (fun i _ => n - (intOf i).toNat)
  case atStart => exact ⟨0, by omega, rfl, HB2⟩
  case round =>
    obtain ⟨k, hk, rfl, HB⟩ := hrel
    have x5 := HC1.out wr HB.out 5 _ rfl
    have y5 := HC2.out wr HB.out 5 _ rfl
    by_cases hlt : k < n
    · obtain ⟨a, b1, rfl, hx, r0⟩ := (K_row (Kd.below H1.out.done HB.out)).1.at_bool k (by rw [← HN.out]; exact hlt)
      obtain ⟨a', b2, rfl, hx', r1⟩ := (K_row (Kd.below H2.out.done HB.out)).1.at_bool k (by rw [← HN.out]; exact hlt)
      rw [hx] at hx'
      obtain rfl := Option.some.inj hx'
      have hltI : (k : Int) < (n : Int) := by omega
      have hk0 : (0 : Int) ≤ (k : Int) := by omega
      clear hx hx'
      have HBn := hid (fun nq => below_drewN HB.out nq)
      have hmx : n ≤ 140737488355328 := by
        obtain ⟨_, _, _, _, hm, _⟩ := H1.out.done
        rw [HN.out]; exact hm
      have hw : IntKind.i64.wrap ((k : Int) + 1) = (k : Int) + 1 := IntWalk.i64_in _ (by omega)
      have e1 : (b1 != b1) = false := by simp
      have e2 : (b1 == b1) = true := by simp
      go_wp2_with fail
      go_quiet (fail)
      go_wp2
      go_roundw
      case rel => exact ⟨k + 1, by omega, by go_num, hid (HBn.out _)⟩
      case measure => simp [intOf]; omega
    · obtain rfl : k = n := by omega
      go_wp2
      go_ret
      exact ⟨rfl, bThen HBV.out HB.out⟩
set_option maxHeartbeats 4000000 in
set_option maxRecDepth 100000 in
theorem same20_calls (b : List EntryS) (v u : Value) (w : World) (h1 : Kd.entry.slice.K w Any b [v]) (h2 : Kd.entry.slice.K w Any b [u]) :
    Calls Tryz.prog 12 #[v, u] w fun e w' => e = .returned (.bool true) ∧ Below w.heap.size w w' := by
  have H1 := hid h1
  have H2 := hid h2
  obtain ⟨A, c, he, hc, hm, _⟩ := h1
  injection he with he _
  subst he
  obtain ⟨A', c', he, hc', _, _⟩ := h2
  injection he with he _
  subst he
  obtain ⟨n, hn⟩ : ∃ n, n = b.length := ⟨_, rfl⟩
  have HN := hid hn
  rw [← hn] at hm hc hc' H1 H2 ⊢
  clear hn
  go_enter Tryz.func12, Tryz.ntmps12
  go_wp2
  go_loopw [5] (fun i wr => ∃ k : Nat, k ≤ n ∧ i = .int .i64 k ∧ Hid (Below w.heap.size w wr)) (fun i _ => n - (intOf i).toNat)
  case atStart => exact ⟨0, by omega, rfl, hid (Below.refl _ _)⟩
  case round =>
    obtain ⟨k, hk, rfl, HB⟩ := hrel
    by_cases hlt : k < n
    · obtain ⟨a, E, EA, EB, ED, ea, eb, ed, rfl, hx, k1, k2, k3, r0, r1, r2, r3, r4, r5⟩ := (K_row (Kd.below H1.out HB.out)).1.at_entry k (by rw [← HN.out]; exact hlt)
      obtain ⟨a', E', FA, FB, FD, fa, fb, fd, rfl, hx', g1, g2, g3, s0, s1, s2, s3, s4, s5⟩ := (K_row (Kd.below H2.out HB.out)).1.at_entry k (by rw [← HN.out]; exact hlt)
      rw [hx] at hx'
      obtain rfl := Option.some.inj hx'
      have hltI : (k : Int) < (n : Int) := by omega
      have hk0 : (0 : Int) ≤ (k : Int) := by omega
      have hw : IntKind.i64.wrap ((k : Int) + 1) = (k : Int) + 1 := IntWalk.i64_in _ (by omega)
      have U0 := hid (Below.refl wr.heap.size wr).drew
      have HE1 := hid (show EAt wr.drew E EA EB ED ea eb ed from ⟨Kd.below k1 U0.out, Kd.below k2 U0.out, Kd.below k3 U0.out⟩)
      have HE2 := hid (show EAt wr.drew E FA FB FD fa fb fd from ⟨Kd.below g1 U0.out, Kd.below g2 U0.out, Kd.below g3 U0.out⟩)
      have HS := hid (fun (w' : World) (hb : Below wr.heap.size wr w') => show ((w'.cell? (a.add (k * 6)) = some (.int .i64 E.id) ∧ w'.cell? ⟨(a.add (k * 6)).block, (a.add (k * 6)).off + 1, none⟩ = some (.int .i64 E.sched) ∧ w'.cell? ⟨(a.add (k * 6)).block, (a.add (k * 6)).off + 2, none⟩ = some (.int .i64 E.epoch) ∧ w'.cell? ⟨(a.add (k * 6)).block, (a.add (k * 6)).off + 3, none⟩ = some (.slice EA E.needs.length ea) ∧ w'.cell? ⟨(a.add (k * 6)).block, (a.add (k * 6)).off + 4, none⟩ = some (.slice EB E.bound.length eb) ∧ w'.cell? ⟨(a.add (k * 6)).block, (a.add (k * 6)).off + 5, none⟩ = some (.slice ED E.done.length ed)) ∧ w'.cell? (a'.add (k * 6)) = some (.int .i64 E.id) ∧ w'.cell? ⟨(a'.add (k * 6)).block, (a'.add (k * 6)).off + 1, none⟩ = some (.int .i64 E.sched) ∧ w'.cell? ⟨(a'.add (k * 6)).block, (a'.add (k * 6)).off + 2, none⟩ = some (.int .i64 E.epoch) ∧ w'.cell? ⟨(a'.add (k * 6)).block, (a'.add (k * 6)).off + 3, none⟩ = some (.slice FA E.needs.length fa) ∧ w'.cell? ⟨(a'.add (k * 6)).block, (a'.add (k * 6)).off + 4, none⟩ = some (.slice FB E.bound.length fb) ∧ w'.cell? ⟨(a'.add (k * 6)).block, (a'.add (k * 6)).off + 5, none⟩ = some (.slice FD E.done.length fd)) from
        ⟨⟨(hb.cell (World.block_lt_of_cell? _ _ r0)).trans r0, (hb.cell (World.block_lt_of_cell? _ _ r1)).trans r1, (hb.cell (World.block_lt_of_cell? _ _ r2)).trans r2, (hb.cell (World.block_lt_of_cell? _ _ r3)).trans r3, (hb.cell (World.block_lt_of_cell? _ _ r4)).trans r4, (hb.cell (World.block_lt_of_cell? _ _ r5)).trans r5⟩, (hb.cell (World.block_lt_of_cell? _ _ s0)).trans s0, (hb.cell (World.block_lt_of_cell? _ _ s1)).trans s1, (hb.cell (World.block_lt_of_cell? _ _ s2)).trans s2, (hb.cell (World.block_lt_of_cell? _ _ s3)).trans s3, (hb.cell (World.block_lt_of_cell? _ _ s4)).trans s4, (hb.cell (World.block_lt_of_cell? _ _ s5)).trans s5⟩)
      have q0 := HS.out wr.drew U0.out
      clear hx hx' k1 k2 k3 g1 g2 g3 r0 r1 r2 r3 r4 r5 s0 s1 s2 s3 s4 s5
      go_wp2_with fail
      refine wp_region_held_drew (S := fun w' => (w'.cell? (a.add (k * 6)) = some (.int .i64 E.id) ∧ w'.cell? ⟨(a.add (k * 6)).block, (a.add (k * 6)).off + 1, none⟩ = some (.int .i64 E.sched) ∧ w'.cell? ⟨(a.add (k * 6)).block, (a.add (k * 6)).off + 2, none⟩ = some (.int .i64 E.epoch) ∧ w'.cell? ⟨(a.add (k * 6)).block, (a.add (k * 6)).off + 3, none⟩ = some (.slice EA E.needs.length ea) ∧ w'.cell? ⟨(a.add (k * 6)).block, (a.add (k * 6)).off + 4, none⟩ = some (.slice EB E.bound.length eb) ∧ w'.cell? ⟨(a.add (k * 6)).block, (a.add (k * 6)).off + 5, none⟩ = some (.slice ED E.done.length ed)) ∧ w'.cell? (a'.add (k * 6)) = some (.int .i64 E.id) ∧ w'.cell? ⟨(a'.add (k * 6)).block, (a'.add (k * 6)).off + 1, none⟩ = some (.int .i64 E.sched) ∧ w'.cell? ⟨(a'.add (k * 6)).block, (a'.add (k * 6)).off + 2, none⟩ = some (.int .i64 E.epoch) ∧ w'.cell? ⟨(a'.add (k * 6)).block, (a'.add (k * 6)).off + 3, none⟩ = some (.slice FA E.needs.length fa) ∧ w'.cell? ⟨(a'.add (k * 6)).block, (a'.add (k * 6)).off + 4, none⟩ = some (.slice FB E.bound.length fb) ∧ w'.cell? ⟨(a'.add (k * 6)).block, (a'.add (k * 6)).off + 5, none⟩ = some (.slice FD E.done.length fd)) (by kernel_rfl) q0 (fun hHeld => ?_)
      refine anyH_take 0 (v := ?_) rfl (by kernel_rfl) (by kernel_rfl) (by kernel_rfl) (fun _ _ _ h => h) (by rfl) hHeld ?_ ?_
      rotate_left
      · (intro w hSw; (try dsimp only at hSw); go_split_ands; go_simp; try with_reducible rfl)
      (try simp only [Act.put, List.setIfInBounds_toArray, List.set_cons_zero, List.set_cons_succ])
      refine anyH_take 1 (v := ?_) rfl (by kernel_rfl) (by kernel_rfl) (by kernel_rfl) (fun _ _ _ h => h) (by rfl) hHeld ?_ ?_
      rotate_left
      · (intro w hSw; (try dsimp only at hSw); go_split_ands; go_simp; try with_reducible rfl)
      (try simp only [Act.put, List.setIfInBounds_toArray, List.set_cons_zero, List.set_cons_succ])
      refine anyH_take 2 (v := ?_) rfl (by kernel_rfl) (by kernel_rfl) (by kernel_rfl) (fun _ _ _ h => h) (by rfl) hHeld ?_ ?_
      rotate_left
      · (intro w hSw; (try dsimp only at hSw); go_split_ands; go_simp; try with_reducible rfl)
      (try simp only [Act.put, List.setIfInBounds_toArray, List.set_cons_zero, List.set_cons_succ])
      refine anyH_take 3 (v := ?_) rfl (by kernel_rfl) (by kernel_rfl) (by kernel_rfl) (fun _ _ _ h => h) (by rfl) hHeld ?_ ?_
      rotate_left
      · (intro w hSw; (try dsimp only at hSw); go_split_ands; go_simp; try with_reducible rfl)
      (try simp only [Act.put, List.setIfInBounds_toArray, List.set_cons_zero, List.set_cons_succ])
      refine anyH_take 4 (v := ?_) rfl (by kernel_rfl) (by kernel_rfl) (by kernel_rfl) (fun _ _ _ h => h) (by rfl) hHeld ?_ ?_
      rotate_left
      · (intro w hSw; (try dsimp only at hSw); go_split_ands; go_simp; try with_reducible rfl)
      (try simp only [Act.put, List.setIfInBounds_toArray, List.set_cons_zero, List.set_cons_succ])
      refine anyH_take 5 (v := ?_) rfl (by kernel_rfl) (by kernel_rfl) (by kernel_rfl) (fun _ _ _ h => h) (by rfl) hHeld ?_ ?_
      rotate_left
      · (intro w hSw; (try dsimp only at hSw); go_split_ands; go_simp; try with_reducible rfl)
      (try simp only [Act.put, List.setIfInBounds_toArray, List.set_cons_zero, List.set_cons_succ])
      refine anyH_take 6 (v := ?_) rfl (by kernel_rfl) (by kernel_rfl) (by kernel_rfl) (fun _ _ _ h => h) (by rfl) hHeld ?_ ?_
      rotate_left
      · (intro w hSw; (try dsimp only at hSw); go_split_ands; go_simp; try with_reducible rfl)
      (try simp only [Act.put, List.setIfInBounds_toArray, List.set_cons_zero, List.set_cons_succ])
      refine anyH_take 7 (v := ?_) rfl (by kernel_rfl) (by kernel_rfl) (by kernel_rfl) (fun _ _ _ h => h) (by rfl) hHeld ?_ ?_
      rotate_left
      · (intro w hSw; (try dsimp only at hSw); go_split_ands; go_simp; try with_reducible rfl)
      (try simp only [Act.put, List.setIfInBounds_toArray, List.set_cons_zero, List.set_cons_succ])
      refine anyH_one 8 rfl (by kernel_rfl) (fun K hK => ?_)
      go_simp
      refine (one20_calls E EA EB ED ea eb ed FA FB FD fa fb fd wr.drew HE1.out HE2.out).mono ?_
      rintro e w1 ⟨rfl, hb1⟩
      have U1 := hid (bThen U0.out hb1)
      clear hb1
      go_simp
      refine hK.out _ _ (HS.out _ U1.out) (fun hHeld => ?_)
      clear hK K
      (try simp only [Act.put, List.setIfInBounds_toArray, List.set_cons_zero, List.set_cons_succ])
      refine anyH_take 9 (v := ?_) rfl (by kernel_rfl) (by kernel_rfl) (by kernel_rfl) (fun _ _ _ h => h) (by rfl) hHeld ?_ ?_
      rotate_left
      · (intro w hSw; (try dsimp only at hSw); go_split_ands; go_simp; try with_reducible rfl)
      (try simp only [Act.put, List.setIfInBounds_toArray, List.set_cons_zero, List.set_cons_succ])
      refine wpAnyH_done (by kernel_rfl) ?_ _
      go_wp2
      go_roundw
      case rel => exact ⟨k + 1, by omega, by go_num, hid (bThen HB.out U1.out)⟩
      case measure => simp [intOf]; omega
    · obtain rfl : k = n := by omega
      go_wp2
      go_ret
      exact ⟨rfl, HB.out⟩
end Go.Proofs.YtgedkcglkhleoaaGreatDoor
