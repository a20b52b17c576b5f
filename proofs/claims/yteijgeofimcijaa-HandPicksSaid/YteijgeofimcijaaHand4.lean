/- hand.Pending, Pick. -/
import Derived.Test.YteijgeofimcijaaHand3
namespace Go.Proofs.Yteijgeofimcijaa
open Go.RowKit

theorem pend1_enter : ∀ args w, (callFunc 102 args).run Try.prog w = .ok (.enter 102 args) w := by
  intro args w
  kernel_rfl
theorem pick1_enter : ∀ args w, (callFunc 99 args).run Try.prog w = .ok (.enter 99 args) w := by
  intro args w
  kernel_rfl
set_option maxHeartbeats 4000000 in
set_option maxRecDepth 100000 in
theorem pend1_calls (E : EntryS) (EA EB ED : Option Addr) (ea eb ed : Nat) (wk : Int) (had : List Bool) (hv : Value) (b wb h k : Nat) (w : World) (hB : BoxE w E EA EB ED ea eb ed b) (hw0 : w.cell? ⟨wb, 0, none⟩ = some (.int .i64 wk)) (hw1 : wb < w.heap.size) (hh0 : w.cell? ⟨h, 0, none⟩ = some hv) (hh1 : h < w.heap.size) (hhd : Kd.bool.slice.K w Any had [hv]) (hk : k < tasksN E) (hbd : BoundOk E) :
    Calls Try.prog 102 #[.int .i64 k, .pointer (some ⟨wb, 0, none⟩), .pointer (some ⟨b, 0, none⟩), .pointer (some ⟨h, 0, none⟩)] w fun e w' => e = .returned (.bool (pendB E wk had k)) ∧ Below w.heap.size w w' := by
  obtain ⟨t1, t2, t3⟩ := tasks_lt hk
  obtain ⟨rb, cb⟩ := K_row hB.2.1.bound
  obtain ⟨rd, cd⟩ := K_row hB.2.1.done
  obtain ⟨a, x, rfl, hx, r0⟩ := rb.at_int k t2
  obtain ⟨a2, y, rfl, hy, r1⟩ := rd.at_bool k t3
  have hx64 := hbd x (List.mem_of_getElem? hx)
  have HN := hid (fun u (hb : Below w.heap.size w u) => noted_calls had k hv u (Kd.below hhd hb))
  have HF := hid (show pendB E wk had k = (decide (0 ≤ wk) && decide (x - 1 = wk) && !y && !notedB had k) by unfold pendB; rw [hx, hy]; rfl)
  have hwx : IntKind.i64.wrap (x - 1) = x - 1 := IntWalk.i64_in _ (by omega)
  have hltI : (k : Int) < (E.bound.length : Int) := by omega
  have hltI2 : (k : Int) < (E.done.length : Int) := by omega
  have hk0 : (0 : Int) ≤ (k : Int) := by omega
  obtain ⟨Ah, ch, he, _, _, _⟩ := hhd
  injection he with he _
  subst he
  have HX := hid hx
  have HY := hid hy
  have HS := hid (fun (u : World) (hb : Below w.heap.size w u) => show (u.cell? ⟨wb, 0, none⟩ = some (.int .i64 wk) ∧ u.cell? ⟨h, 0, none⟩ = some (.slice Ah had.length ch) ∧ u.cell? ⟨b, 4, none⟩ = some (.slice (some a) E.bound.length eb) ∧ u.cell? ⟨b, 5, none⟩ = some (.slice (some a2) E.done.length ed) ∧ u.cell? (a.add k) = some (.int .i64 x) ∧ u.cell? (a2.add k) = some (.bool y)) from by
    obtain ⟨⟨_, _, _, _, d4, d5⟩, dE, _⟩ := hB.below hb
    obtain ⟨rb, _⟩ := K_row dE.bound
    obtain ⟨rd, _⟩ := K_row dE.done
    obtain ⟨a', x', ha', hx', r0'⟩ := rb.at_int k t2
    obtain ⟨a3, y', ha3, hy', r1'⟩ := rd.at_bool k t3
    cases ha'; cases ha3
    rw [HX.out] at hx'
    rw [HY.out] at hy'
    obtain rfl := Option.some.inj hx'
    obtain rfl := Option.some.inj hy'
    exact ⟨((bcell hb).1 _ _ hw1).trans hw0, ((bcell hb).1 _ _ hh1).trans hh0, d4, d5, r0', r1'⟩)
  generalize E.bound.length = n1 at *
  generalize E.done.length = n2 at *
  obtain ⟨nb, hnb⟩ : ∃ nb, nb = notedB had k := ⟨_, rfl⟩
  rw [← hnb] at HF HN
  have c0 := HS.out w.drew (Below.refl _ _).drew
  clear hx hy rb rd t1 hk hw0 hw1 hh0 hh1 hnb hB hx64 r0 r1
  by_cases h0 : 0 ≤ wk
  case neg =>
    rw [decide_eq_false h0] at HF
    have h0d : decide ((0 : Int) ≤ wk) = false := decide_eq_false h0
    go_enter Try.func102, Try.ntmps102
    go_wp2_with fail
    refine wp_region_held_drew (S := fun w' => w'.cell? ⟨wb, 0, none⟩ = some (.int .i64 wk) ∧ w'.cell? ⟨h, 0, none⟩ = some (.slice Ah had.length ch) ∧ w'.cell? ⟨b, 4, none⟩ = some (.slice (some a) n1 eb) ∧ w'.cell? ⟨b, 5, none⟩ = some (.slice (some a2) n2 ed) ∧ w'.cell? (a.add k) = some (.int .i64 x) ∧ w'.cell? (a2.add k) = some (.bool y)) (by kernel_rfl) c0 (fun hHeld => ?_)
    refine anyH_take 0 (v := ?_) rfl (by kernel_rfl) (by kernel_rfl) (by kernel_rfl) (fun _ _ _ h => h) (by rfl) hHeld ?_ ?_
    rotate_left
    · (intro w hSw; (try dsimp only at hSw); go_split_ands; go_simp; try with_reducible rfl)
    (try simp only [Act.put, List.setIfInBounds_toArray, List.set_cons_zero, List.set_cons_succ])
    refine anyH_take 1 (v := ?_) rfl (by kernel_rfl) (by kernel_rfl) (by kernel_rfl) (fun _ _ _ h => h) (by rfl) hHeld ?_ ?_
    rotate_left
    · (intro w hSw; (try dsimp only at hSw); go_split_ands; go_simp; try with_reducible rfl)
    (try simp only [Act.put, List.setIfInBounds_toArray, List.set_cons_zero, List.set_cons_succ])
    refine anyH_take 2 (v := ?_) rfl (by kernel_rfl) (by kernel_rfl) (by kernel_rfl) (fun _ _ _ h => h) (by rfl) hHeld ?_ ?_
    rotate_left
    · (intro w hSw; (try dsimp only at hSw); go_split_ands; go_simp; try with_reducible rfl)
    (try simp only [Act.put, List.setIfInBounds_toArray, List.set_cons_zero, List.set_cons_succ])
    refine anyH_skip 3 rfl (by kernel_rfl) (by kernel_rfl) (by kernel_rfl) (fun _ _ _ h => h) (by rfl) hHeld ?_
    (try simp only [Act.put, List.setIfInBounds_toArray, List.set_cons_zero, List.set_cons_succ])
    refine anyH_skip 4 rfl (by kernel_rfl) (by kernel_rfl) (by kernel_rfl) (fun _ _ _ h => h) (by rfl) hHeld ?_
    (try simp only [Act.put, List.setIfInBounds_toArray, List.set_cons_zero, List.set_cons_succ])
    refine anyH_skip 5 rfl (by kernel_rfl) (by kernel_rfl) (by kernel_rfl) (fun _ _ _ h => h) (by rfl) hHeld ?_
    (try simp only [Act.put, List.setIfInBounds_toArray, List.set_cons_zero, List.set_cons_succ])
    refine anyH_skip 6 rfl (by kernel_rfl) (by kernel_rfl) (by kernel_rfl) (fun _ _ _ h => h) (by rfl) hHeld ?_
    (try simp only [Act.put, List.setIfInBounds_toArray, List.set_cons_zero, List.set_cons_succ])
    refine anyH_skip 7 rfl (by kernel_rfl) (by kernel_rfl) (by kernel_rfl) (fun _ _ _ h => h) (by rfl) hHeld ?_
    (try simp only [Act.put, List.setIfInBounds_toArray, List.set_cons_zero, List.set_cons_succ])
    refine anyH_skip 8 rfl (by kernel_rfl) (by kernel_rfl) (by kernel_rfl) (fun _ _ _ h => h) (by rfl) hHeld ?_
    (try simp only [Act.put, List.setIfInBounds_toArray, List.set_cons_zero, List.set_cons_succ])
    refine anyH_skip 9 rfl (by kernel_rfl) (by kernel_rfl) (by kernel_rfl) (fun _ _ _ h => h) (by rfl) hHeld ?_
    (try simp only [Act.put, List.setIfInBounds_toArray, List.set_cons_zero, List.set_cons_succ])
    refine anyH_skip 10 rfl (by kernel_rfl) (by kernel_rfl) (by kernel_rfl) (fun _ _ _ h => h) (by rfl) hHeld ?_
    (try simp only [Act.put, List.setIfInBounds_toArray, List.set_cons_zero, List.set_cons_succ])
    refine anyH_take 11 (v := ?_) rfl (by kernel_rfl) (by kernel_rfl) (by kernel_rfl) (fun _ _ _ h => h) (by rfl) hHeld ?_ ?_
    rotate_left
    · (intro w hSw; (try dsimp only at hSw); go_split_ands; go_simp; try with_reducible rfl)
    (try simp only [Act.put, List.setIfInBounds_toArray, List.set_cons_zero, List.set_cons_succ])
    refine anyH_take 12 (v := ?_) rfl (by kernel_rfl) (by kernel_rfl) (by kernel_rfl) (fun _ _ _ h => h) (by rfl) hHeld ?_ ?_
    rotate_left
    · (intro w hSw; (try dsimp only at hSw); go_split_ands; go_simp; try with_reducible rfl)
    (try simp only [Act.put, List.setIfInBounds_toArray, List.set_cons_zero, List.set_cons_succ])
    refine anyH_skip 13 rfl (by kernel_rfl) (by kernel_rfl) (by kernel_rfl) (fun _ _ _ h => h) (by rfl) hHeld ?_
    (try simp only [Act.put, List.setIfInBounds_toArray, List.set_cons_zero, List.set_cons_succ])
    refine anyH_skip 14 rfl (by kernel_rfl) (by kernel_rfl) (by kernel_rfl) (fun _ _ _ h => h) (by rfl) hHeld ?_
    (try simp only [Act.put, List.setIfInBounds_toArray, List.set_cons_zero, List.set_cons_succ])
    refine anyH_skip 15 rfl (by kernel_rfl) (by kernel_rfl) (by kernel_rfl) (fun _ _ _ h => h) (by rfl) hHeld ?_
    (try simp only [Act.put, List.setIfInBounds_toArray, List.set_cons_zero, List.set_cons_succ])
    refine anyH_skip 16 rfl (by kernel_rfl) (by kernel_rfl) (by kernel_rfl) (fun _ _ _ h => h) (by rfl) hHeld ?_
    (try simp only [Act.put, List.setIfInBounds_toArray, List.set_cons_zero, List.set_cons_succ])
    refine anyH_skip 17 rfl (by kernel_rfl) (by kernel_rfl) (by kernel_rfl) (fun _ _ _ h => h) (by rfl) hHeld ?_
    (try simp only [Act.put, List.setIfInBounds_toArray, List.set_cons_zero, List.set_cons_succ])
    refine anyH_skip 18 rfl (by kernel_rfl) (by kernel_rfl) (by kernel_rfl) (fun _ _ _ h => h) (by rfl) hHeld ?_
    (try simp only [Act.put, List.setIfInBounds_toArray, List.set_cons_zero, List.set_cons_succ])
    refine anyH_take 19 (v := ?_) rfl (by kernel_rfl) (by kernel_rfl) (by kernel_rfl) (fun _ _ _ h => h) (by rfl) hHeld ?_ ?_
    rotate_left
    · (intro w hSw; (try dsimp only at hSw); go_split_ands; go_simp; try with_reducible rfl)
    (try simp only [Act.put, List.setIfInBounds_toArray, List.set_cons_zero, List.set_cons_succ])
    refine anyH_take 20 (v := ?_) rfl (by kernel_rfl) (by kernel_rfl) (by kernel_rfl) (fun _ _ _ h => h) (by rfl) hHeld ?_ ?_
    rotate_left
    · (intro w hSw; (try dsimp only at hSw); go_split_ands; go_simp; try with_reducible rfl)
    (try simp only [Act.put, List.setIfInBounds_toArray, List.set_cons_zero, List.set_cons_succ])
    refine anyH_skip 21 rfl (by kernel_rfl) (by kernel_rfl) (by kernel_rfl) (fun _ _ _ h => h) (by rfl) hHeld ?_
    (try simp only [Act.put, List.setIfInBounds_toArray, List.set_cons_zero, List.set_cons_succ])
    refine anyH_skip 22 rfl (by kernel_rfl) (by kernel_rfl) (by kernel_rfl) (fun _ _ _ h => h) (by rfl) hHeld ?_
    (try simp only [Act.put, List.setIfInBounds_toArray, List.set_cons_zero, List.set_cons_succ])
    refine anyH_skip 23 rfl (by kernel_rfl) (by kernel_rfl) (by kernel_rfl) (fun _ _ _ h => h) (by rfl) hHeld ?_
    (try simp only [Act.put, List.setIfInBounds_toArray, List.set_cons_zero, List.set_cons_succ])
    refine anyH_skip 24 rfl (by kernel_rfl) (by kernel_rfl) (by kernel_rfl) (fun _ _ _ h => h) (by rfl) hHeld ?_
    (try simp only [Act.put, List.setIfInBounds_toArray, List.set_cons_zero, List.set_cons_succ])
    refine anyH_take 25 (v := ?_) rfl (by kernel_rfl) (by kernel_rfl) (by kernel_rfl) (fun _ _ _ h => h) (by rfl) hHeld ?_ ?_
    rotate_left
    · (intro w hSw; (try dsimp only at hSw); go_split_ands; go_simp; try with_reducible rfl)
    (try simp only [Act.put, List.setIfInBounds_toArray, List.set_cons_zero, List.set_cons_succ])
    refine anyH_take 26 (v := ?_) rfl (by kernel_rfl) (by kernel_rfl) (by kernel_rfl) (fun _ _ _ h => h) (by rfl) hHeld ?_ ?_
    rotate_left
    · (intro w hSw; (try dsimp only at hSw); go_split_ands; go_simp; try with_reducible rfl)
    (try simp only [Act.put, List.setIfInBounds_toArray, List.set_cons_zero, List.set_cons_succ])
    refine wpAnyH_done (by kernel_rfl) ?_ _
    go_wp2
    go_ret
    rw [HF.out]
    exact ⟨rfl, (Below.refl _ _).drew⟩
  rw [decide_eq_true h0] at HF
  have h0d : decide ((0 : Int) ≤ wk) = true := decide_eq_true h0
  by_cases h1 : x - 1 = wk
  case neg =>
    rw [decide_eq_false h1] at HF
    have h1b : (x - 1 == wk) = false := by rw [beq_eq_false_iff_ne]; exact h1
    clear h1
    go_enter Try.func102, Try.ntmps102
    go_wp2_with fail
    refine wp_region_held_drew (S := fun w' => w'.cell? ⟨wb, 0, none⟩ = some (.int .i64 wk) ∧ w'.cell? ⟨h, 0, none⟩ = some (.slice Ah had.length ch) ∧ w'.cell? ⟨b, 4, none⟩ = some (.slice (some a) n1 eb) ∧ w'.cell? ⟨b, 5, none⟩ = some (.slice (some a2) n2 ed) ∧ w'.cell? (a.add k) = some (.int .i64 x) ∧ w'.cell? (a2.add k) = some (.bool y)) (by kernel_rfl) c0 (fun hHeld => ?_)
    refine anyH_take 0 (v := ?_) rfl (by kernel_rfl) (by kernel_rfl) (by kernel_rfl) (fun _ _ _ h => h) (by rfl) hHeld ?_ ?_
    rotate_left
    · (intro w hSw; (try dsimp only at hSw); go_split_ands; go_simp; try with_reducible rfl)
    (try simp only [Act.put, List.setIfInBounds_toArray, List.set_cons_zero, List.set_cons_succ])
    refine anyH_take 1 (v := ?_) rfl (by kernel_rfl) (by kernel_rfl) (by kernel_rfl) (fun _ _ _ h => h) (by rfl) hHeld ?_ ?_
    rotate_left
    · (intro w hSw; (try dsimp only at hSw); go_split_ands; go_simp; try with_reducible rfl)
    (try simp only [Act.put, List.setIfInBounds_toArray, List.set_cons_zero, List.set_cons_succ])
    refine anyH_take 2 (v := ?_) rfl (by kernel_rfl) (by kernel_rfl) (by kernel_rfl) (fun _ _ _ h => h) (by rfl) hHeld ?_ ?_
    rotate_left
    · (intro w hSw; (try dsimp only at hSw); go_split_ands; go_simp; try with_reducible rfl)
    (try simp only [Act.put, List.setIfInBounds_toArray, List.set_cons_zero, List.set_cons_succ])
    refine anyH_take 3 (v := ?_) rfl (by kernel_rfl) (by kernel_rfl) (by kernel_rfl) (fun _ _ _ h => h) (by rfl) hHeld ?_ ?_
    rotate_left
    · (intro w hSw; (try dsimp only at hSw); go_split_ands; go_simp; try with_reducible rfl)
    (try simp only [Act.put, List.setIfInBounds_toArray, List.set_cons_zero, List.set_cons_succ])
    refine anyH_take 4 (v := ?_) rfl (by kernel_rfl) (by kernel_rfl) (by kernel_rfl) (fun _ _ _ h => h) (by rfl) hHeld ?_ ?_
    rotate_left
    · (intro w hSw; (try dsimp only at hSw); go_split_ands; go_simp; try with_reducible rfl)
    (try simp only [Act.put, List.setIfInBounds_toArray, List.set_cons_zero, List.set_cons_succ])
    refine anyH_take 5 (v := ?_) rfl (by kernel_rfl) (by kernel_rfl) (by kernel_rfl) (fun _ _ _ h => h) (by rfl) hHeld ?_ ?_
    rotate_left
    · (intro w hSw; (try dsimp only at hSw); go_split_ands; go_simp; try with_reducible rfl)
    (try simp only [Act.put, List.setIfInBounds_toArray, List.set_cons_zero, List.set_cons_succ])
    refine anyH_take 6 (v := ?_) rfl (by kernel_rfl) (by kernel_rfl) (by kernel_rfl) (fun _ _ _ h => h) (by rfl) hHeld ?_ ?_
    rotate_left
    · (intro w hSw; (try dsimp only at hSw); go_split_ands; go_simp; try with_reducible rfl)
    (try simp only [Act.put, List.setIfInBounds_toArray, List.set_cons_zero, List.set_cons_succ])
    refine anyH_take 7 (v := ?_) rfl (by kernel_rfl) (by kernel_rfl) (by kernel_rfl) (fun _ _ _ h => h) (by rfl) hHeld ?_ ?_
    rotate_left
    · (intro w hSw; (try dsimp only at hSw); go_split_ands; go_simp; try with_reducible rfl)
    (try simp only [Act.put, List.setIfInBounds_toArray, List.set_cons_zero, List.set_cons_succ])
    refine anyH_take 8 (v := ?_) rfl (by kernel_rfl) (by kernel_rfl) (by kernel_rfl) (fun _ _ _ h => h) (by rfl) hHeld ?_ ?_
    rotate_left
    · (intro w hSw; (try dsimp only at hSw); go_split_ands; go_simp; try with_reducible rfl)
    (try simp only [Act.put, List.setIfInBounds_toArray, List.set_cons_zero, List.set_cons_succ])
    refine anyH_take 9 (v := ?_) rfl (by kernel_rfl) (by kernel_rfl) (by kernel_rfl) (fun _ _ _ h => h) (by rfl) hHeld ?_ ?_
    rotate_left
    · (intro w hSw; (try dsimp only at hSw); go_split_ands; go_simp; try with_reducible rfl)
    (try simp only [Act.put, List.setIfInBounds_toArray, List.set_cons_zero, List.set_cons_succ])
    refine anyH_take 10 (v := ?_) rfl (by kernel_rfl) (by kernel_rfl) (by kernel_rfl) (fun _ _ _ h => h) (by rfl) hHeld ?_ ?_
    rotate_left
    · (intro w hSw; (try dsimp only at hSw); go_split_ands; go_simp; try with_reducible rfl)
    (try simp only [Act.put, List.setIfInBounds_toArray, List.set_cons_zero, List.set_cons_succ])
    refine anyH_take 11 (v := ?_) rfl (by kernel_rfl) (by kernel_rfl) (by kernel_rfl) (fun _ _ _ h => h) (by rfl) hHeld ?_ ?_
    rotate_left
    · (intro w hSw; (try dsimp only at hSw); go_split_ands; go_simp; try with_reducible rfl)
    (try simp only [Act.put, List.setIfInBounds_toArray, List.set_cons_zero, List.set_cons_succ])
    refine anyH_take 12 (v := ?_) rfl (by kernel_rfl) (by kernel_rfl) (by kernel_rfl) (fun _ _ _ h => h) (by rfl) hHeld ?_ ?_
    rotate_left
    · (intro w hSw; (try dsimp only at hSw); go_split_ands; go_simp; try with_reducible rfl)
    (try simp only [Act.put, List.setIfInBounds_toArray, List.set_cons_zero, List.set_cons_succ])
    refine anyH_skip 13 rfl (by kernel_rfl) (by kernel_rfl) (by kernel_rfl) (fun _ _ _ h => h) (by rfl) hHeld ?_
    (try simp only [Act.put, List.setIfInBounds_toArray, List.set_cons_zero, List.set_cons_succ])
    refine anyH_skip 14 rfl (by kernel_rfl) (by kernel_rfl) (by kernel_rfl) (fun _ _ _ h => h) (by rfl) hHeld ?_
    (try simp only [Act.put, List.setIfInBounds_toArray, List.set_cons_zero, List.set_cons_succ])
    refine anyH_skip 15 rfl (by kernel_rfl) (by kernel_rfl) (by kernel_rfl) (fun _ _ _ h => h) (by rfl) hHeld ?_
    (try simp only [Act.put, List.setIfInBounds_toArray, List.set_cons_zero, List.set_cons_succ])
    refine anyH_skip 16 rfl (by kernel_rfl) (by kernel_rfl) (by kernel_rfl) (fun _ _ _ h => h) (by rfl) hHeld ?_
    (try simp only [Act.put, List.setIfInBounds_toArray, List.set_cons_zero, List.set_cons_succ])
    refine anyH_skip 17 rfl (by kernel_rfl) (by kernel_rfl) (by kernel_rfl) (fun _ _ _ h => h) (by rfl) hHeld ?_
    (try simp only [Act.put, List.setIfInBounds_toArray, List.set_cons_zero, List.set_cons_succ])
    refine anyH_skip 18 rfl (by kernel_rfl) (by kernel_rfl) (by kernel_rfl) (fun _ _ _ h => h) (by rfl) hHeld ?_
    (try simp only [Act.put, List.setIfInBounds_toArray, List.set_cons_zero, List.set_cons_succ])
    refine anyH_take 19 (v := ?_) rfl (by kernel_rfl) (by kernel_rfl) (by kernel_rfl) (fun _ _ _ h => h) (by rfl) hHeld ?_ ?_
    rotate_left
    · (intro w hSw; (try dsimp only at hSw); go_split_ands; go_simp; try with_reducible rfl)
    (try simp only [Act.put, List.setIfInBounds_toArray, List.set_cons_zero, List.set_cons_succ])
    refine anyH_take 20 (v := ?_) rfl (by kernel_rfl) (by kernel_rfl) (by kernel_rfl) (fun _ _ _ h => h) (by rfl) hHeld ?_ ?_
    rotate_left
    · (intro w hSw; (try dsimp only at hSw); go_split_ands; go_simp; try with_reducible rfl)
    (try simp only [Act.put, List.setIfInBounds_toArray, List.set_cons_zero, List.set_cons_succ])
    refine anyH_skip 21 rfl (by kernel_rfl) (by kernel_rfl) (by kernel_rfl) (fun _ _ _ h => h) (by rfl) hHeld ?_
    (try simp only [Act.put, List.setIfInBounds_toArray, List.set_cons_zero, List.set_cons_succ])
    refine anyH_skip 22 rfl (by kernel_rfl) (by kernel_rfl) (by kernel_rfl) (fun _ _ _ h => h) (by rfl) hHeld ?_
    (try simp only [Act.put, List.setIfInBounds_toArray, List.set_cons_zero, List.set_cons_succ])
    refine anyH_skip 23 rfl (by kernel_rfl) (by kernel_rfl) (by kernel_rfl) (fun _ _ _ h => h) (by rfl) hHeld ?_
    (try simp only [Act.put, List.setIfInBounds_toArray, List.set_cons_zero, List.set_cons_succ])
    refine anyH_skip 24 rfl (by kernel_rfl) (by kernel_rfl) (by kernel_rfl) (fun _ _ _ h => h) (by rfl) hHeld ?_
    (try simp only [Act.put, List.setIfInBounds_toArray, List.set_cons_zero, List.set_cons_succ])
    refine anyH_take 25 (v := ?_) rfl (by kernel_rfl) (by kernel_rfl) (by kernel_rfl) (fun _ _ _ h => h) (by rfl) hHeld ?_ ?_
    rotate_left
    · (intro w hSw; (try dsimp only at hSw); go_split_ands; go_simp; try with_reducible rfl)
    (try simp only [Act.put, List.setIfInBounds_toArray, List.set_cons_zero, List.set_cons_succ])
    refine anyH_take 26 (v := ?_) rfl (by kernel_rfl) (by kernel_rfl) (by kernel_rfl) (fun _ _ _ h => h) (by rfl) hHeld ?_ ?_
    rotate_left
    · (intro w hSw; (try dsimp only at hSw); go_split_ands; go_simp; try with_reducible rfl)
    (try simp only [Act.put, List.setIfInBounds_toArray, List.set_cons_zero, List.set_cons_succ])
    refine wpAnyH_done (by kernel_rfl) ?_ _
    go_wp2
    go_ret
    rw [HF.out]
    exact ⟨rfl, (Below.refl _ _).drew⟩
  rw [decide_eq_true h1] at HF
  have h1b : (x - 1 == wk) = true := by rw [beq_iff_eq]; exact h1
  clear h1
  cases y
  case true =>
    go_enter Try.func102, Try.ntmps102
    go_wp2_with fail
    refine wp_region_held_drew (S := fun w' => w'.cell? ⟨wb, 0, none⟩ = some (.int .i64 wk) ∧ w'.cell? ⟨h, 0, none⟩ = some (.slice Ah had.length ch) ∧ w'.cell? ⟨b, 4, none⟩ = some (.slice (some a) n1 eb) ∧ w'.cell? ⟨b, 5, none⟩ = some (.slice (some a2) n2 ed) ∧ w'.cell? (a.add k) = some (.int .i64 x) ∧ w'.cell? (a2.add k) = some (.bool true)) (by kernel_rfl) c0 (fun hHeld => ?_)
    refine anyH_take 0 (v := ?_) rfl (by kernel_rfl) (by kernel_rfl) (by kernel_rfl) (fun _ _ _ h => h) (by rfl) hHeld ?_ ?_
    rotate_left
    · (intro w hSw; (try dsimp only at hSw); go_split_ands; go_simp; try with_reducible rfl)
    (try simp only [Act.put, List.setIfInBounds_toArray, List.set_cons_zero, List.set_cons_succ])
    refine anyH_take 1 (v := ?_) rfl (by kernel_rfl) (by kernel_rfl) (by kernel_rfl) (fun _ _ _ h => h) (by rfl) hHeld ?_ ?_
    rotate_left
    · (intro w hSw; (try dsimp only at hSw); go_split_ands; go_simp; try with_reducible rfl)
    (try simp only [Act.put, List.setIfInBounds_toArray, List.set_cons_zero, List.set_cons_succ])
    refine anyH_take 2 (v := ?_) rfl (by kernel_rfl) (by kernel_rfl) (by kernel_rfl) (fun _ _ _ h => h) (by rfl) hHeld ?_ ?_
    rotate_left
    · (intro w hSw; (try dsimp only at hSw); go_split_ands; go_simp; try with_reducible rfl)
    (try simp only [Act.put, List.setIfInBounds_toArray, List.set_cons_zero, List.set_cons_succ])
    refine anyH_take 3 (v := ?_) rfl (by kernel_rfl) (by kernel_rfl) (by kernel_rfl) (fun _ _ _ h => h) (by rfl) hHeld ?_ ?_
    rotate_left
    · (intro w hSw; (try dsimp only at hSw); go_split_ands; go_simp; try with_reducible rfl)
    (try simp only [Act.put, List.setIfInBounds_toArray, List.set_cons_zero, List.set_cons_succ])
    refine anyH_take 4 (v := ?_) rfl (by kernel_rfl) (by kernel_rfl) (by kernel_rfl) (fun _ _ _ h => h) (by rfl) hHeld ?_ ?_
    rotate_left
    · (intro w hSw; (try dsimp only at hSw); go_split_ands; go_simp; try with_reducible rfl)
    (try simp only [Act.put, List.setIfInBounds_toArray, List.set_cons_zero, List.set_cons_succ])
    refine anyH_take 5 (v := ?_) rfl (by kernel_rfl) (by kernel_rfl) (by kernel_rfl) (fun _ _ _ h => h) (by rfl) hHeld ?_ ?_
    rotate_left
    · (intro w hSw; (try dsimp only at hSw); go_split_ands; go_simp; try with_reducible rfl)
    (try simp only [Act.put, List.setIfInBounds_toArray, List.set_cons_zero, List.set_cons_succ])
    refine anyH_take 6 (v := ?_) rfl (by kernel_rfl) (by kernel_rfl) (by kernel_rfl) (fun _ _ _ h => h) (by rfl) hHeld ?_ ?_
    rotate_left
    · (intro w hSw; (try dsimp only at hSw); go_split_ands; go_simp; try with_reducible rfl)
    (try simp only [Act.put, List.setIfInBounds_toArray, List.set_cons_zero, List.set_cons_succ])
    refine anyH_take 7 (v := ?_) rfl (by kernel_rfl) (by kernel_rfl) (by kernel_rfl) (fun _ _ _ h => h) (by rfl) hHeld ?_ ?_
    rotate_left
    · (intro w hSw; (try dsimp only at hSw); go_split_ands; go_simp; try with_reducible rfl)
    (try simp only [Act.put, List.setIfInBounds_toArray, List.set_cons_zero, List.set_cons_succ])
    refine anyH_take 8 (v := ?_) rfl (by kernel_rfl) (by kernel_rfl) (by kernel_rfl) (fun _ _ _ h => h) (by rfl) hHeld ?_ ?_
    rotate_left
    · (intro w hSw; (try dsimp only at hSw); go_split_ands; go_simp; try with_reducible rfl)
    (try simp only [Act.put, List.setIfInBounds_toArray, List.set_cons_zero, List.set_cons_succ])
    refine anyH_take 9 (v := ?_) rfl (by kernel_rfl) (by kernel_rfl) (by kernel_rfl) (fun _ _ _ h => h) (by rfl) hHeld ?_ ?_
    rotate_left
    · (intro w hSw; (try dsimp only at hSw); go_split_ands; go_simp; try with_reducible rfl)
    (try simp only [Act.put, List.setIfInBounds_toArray, List.set_cons_zero, List.set_cons_succ])
    refine anyH_take 10 (v := ?_) rfl (by kernel_rfl) (by kernel_rfl) (by kernel_rfl) (fun _ _ _ h => h) (by rfl) hHeld ?_ ?_
    rotate_left
    · (intro w hSw; (try dsimp only at hSw); go_split_ands; go_simp; try with_reducible rfl)
    (try simp only [Act.put, List.setIfInBounds_toArray, List.set_cons_zero, List.set_cons_succ])
    refine anyH_take 11 (v := ?_) rfl (by kernel_rfl) (by kernel_rfl) (by kernel_rfl) (fun _ _ _ h => h) (by rfl) hHeld ?_ ?_
    rotate_left
    · (intro w hSw; (try dsimp only at hSw); go_split_ands; go_simp; try with_reducible rfl)
    (try simp only [Act.put, List.setIfInBounds_toArray, List.set_cons_zero, List.set_cons_succ])
    refine anyH_take 12 (v := ?_) rfl (by kernel_rfl) (by kernel_rfl) (by kernel_rfl) (fun _ _ _ h => h) (by rfl) hHeld ?_ ?_
    rotate_left
    · (intro w hSw; (try dsimp only at hSw); go_split_ands; go_simp; try with_reducible rfl)
    (try simp only [Act.put, List.setIfInBounds_toArray, List.set_cons_zero, List.set_cons_succ])
    refine anyH_take 13 (v := ?_) rfl (by kernel_rfl) (by kernel_rfl) (by kernel_rfl) (fun _ _ _ h => h) (by rfl) hHeld ?_ ?_
    rotate_left
    · (intro w hSw; (try dsimp only at hSw); go_split_ands; go_simp; try with_reducible rfl)
    (try simp only [Act.put, List.setIfInBounds_toArray, List.set_cons_zero, List.set_cons_succ])
    refine anyH_take 14 (v := ?_) rfl (by kernel_rfl) (by kernel_rfl) (by kernel_rfl) (fun _ _ _ h => h) (by rfl) hHeld ?_ ?_
    rotate_left
    · (intro w hSw; (try dsimp only at hSw); go_split_ands; go_simp; try with_reducible rfl)
    (try simp only [Act.put, List.setIfInBounds_toArray, List.set_cons_zero, List.set_cons_succ])
    refine anyH_take 15 (v := ?_) rfl (by kernel_rfl) (by kernel_rfl) (by kernel_rfl) (fun _ _ _ h => h) (by rfl) hHeld ?_ ?_
    rotate_left
    · (intro w hSw; (try dsimp only at hSw); go_split_ands; go_simp; try with_reducible rfl)
    (try simp only [Act.put, List.setIfInBounds_toArray, List.set_cons_zero, List.set_cons_succ])
    refine anyH_take 16 (v := ?_) rfl (by kernel_rfl) (by kernel_rfl) (by kernel_rfl) (fun _ _ _ h => h) (by rfl) hHeld ?_ ?_
    rotate_left
    · (intro w hSw; (try dsimp only at hSw); go_split_ands; go_simp; try with_reducible rfl)
    (try simp only [Act.put, List.setIfInBounds_toArray, List.set_cons_zero, List.set_cons_succ])
    refine anyH_take 17 (v := ?_) rfl (by kernel_rfl) (by kernel_rfl) (by kernel_rfl) (fun _ _ _ h => h) (by rfl) hHeld ?_ ?_
    rotate_left
    · (intro w hSw; (try dsimp only at hSw); go_split_ands; go_simp; try with_reducible rfl)
    (try simp only [Act.put, List.setIfInBounds_toArray, List.set_cons_zero, List.set_cons_succ])
    refine anyH_take 18 (v := ?_) rfl (by kernel_rfl) (by kernel_rfl) (by kernel_rfl) (fun _ _ _ h => h) (by rfl) hHeld ?_ ?_
    rotate_left
    · (intro w hSw; (try dsimp only at hSw); go_split_ands; go_simp; try with_reducible rfl)
    (try simp only [Act.put, List.setIfInBounds_toArray, List.set_cons_zero, List.set_cons_succ])
    refine anyH_take 19 (v := ?_) rfl (by kernel_rfl) (by kernel_rfl) (by kernel_rfl) (fun _ _ _ h => h) (by rfl) hHeld ?_ ?_
    rotate_left
    · (intro w hSw; (try dsimp only at hSw); go_split_ands; go_simp; try with_reducible rfl)
    (try simp only [Act.put, List.setIfInBounds_toArray, List.set_cons_zero, List.set_cons_succ])
    refine anyH_take 20 (v := ?_) rfl (by kernel_rfl) (by kernel_rfl) (by kernel_rfl) (fun _ _ _ h => h) (by rfl) hHeld ?_ ?_
    rotate_left
    · (intro w hSw; (try dsimp only at hSw); go_split_ands; go_simp; try with_reducible rfl)
    (try simp only [Act.put, List.setIfInBounds_toArray, List.set_cons_zero, List.set_cons_succ])
    refine anyH_skip 21 rfl (by kernel_rfl) (by kernel_rfl) (by kernel_rfl) (fun _ _ _ h => h) (by rfl) hHeld ?_
    (try simp only [Act.put, List.setIfInBounds_toArray, List.set_cons_zero, List.set_cons_succ])
    refine anyH_skip 22 rfl (by kernel_rfl) (by kernel_rfl) (by kernel_rfl) (fun _ _ _ h => h) (by rfl) hHeld ?_
    (try simp only [Act.put, List.setIfInBounds_toArray, List.set_cons_zero, List.set_cons_succ])
    refine anyH_skip 23 rfl (by kernel_rfl) (by kernel_rfl) (by kernel_rfl) (fun _ _ _ h => h) (by rfl) hHeld ?_
    (try simp only [Act.put, List.setIfInBounds_toArray, List.set_cons_zero, List.set_cons_succ])
    refine anyH_skip 24 rfl (by kernel_rfl) (by kernel_rfl) (by kernel_rfl) (fun _ _ _ h => h) (by rfl) hHeld ?_
    (try simp only [Act.put, List.setIfInBounds_toArray, List.set_cons_zero, List.set_cons_succ])
    refine anyH_take 25 (v := ?_) rfl (by kernel_rfl) (by kernel_rfl) (by kernel_rfl) (fun _ _ _ h => h) (by rfl) hHeld ?_ ?_
    rotate_left
    · (intro w hSw; (try dsimp only at hSw); go_split_ands; go_simp; try with_reducible rfl)
    (try simp only [Act.put, List.setIfInBounds_toArray, List.set_cons_zero, List.set_cons_succ])
    refine anyH_take 26 (v := ?_) rfl (by kernel_rfl) (by kernel_rfl) (by kernel_rfl) (fun _ _ _ h => h) (by rfl) hHeld ?_ ?_
    rotate_left
    · (intro w hSw; (try dsimp only at hSw); go_split_ands; go_simp; try with_reducible rfl)
    (try simp only [Act.put, List.setIfInBounds_toArray, List.set_cons_zero, List.set_cons_succ])
    refine wpAnyH_done (by kernel_rfl) ?_ _
    go_wp2
    go_ret
    rw [HF.out]
    exact ⟨rfl, (Below.refl _ _).drew⟩
  go_enter Try.func102, Try.ntmps102
  go_wp2_with fail
  go_region_held3 (fun w' => w'.cell? ⟨wb, 0, none⟩ = some (.int .i64 wk) ∧ w'.cell? ⟨h, 0, none⟩ = some (.slice Ah had.length ch) ∧ w'.cell? ⟨b, 4, none⟩ = some (.slice (some a) n1 eb) ∧ w'.cell? ⟨b, 5, none⟩ = some (.slice (some a2) n2 ed) ∧ w'.cell? (a.add k) = some (.int .i64 x) ∧ w'.cell? (a2.add k) = some (.bool false)) (first | exact c0 | fail) (first
    | ((with_reducible refine (HN.out w.drew (Below.refl _ _).drew).mono ?_); rintro e w1 ⟨rfl, hw1⟩; subst hw1)
    | fail)
  go_wp2
  go_ret
  rw [HF.out]
  exact ⟨rfl, (Below.refl _ _).drew⟩
set_option maxHeartbeats 4000000 in
set_option maxRecDepth 100000 in
theorem pending_calls (E : EntryS) (EA EB ED : Option Addr) (ea eb ed : Nat) (wk : Int) (had : List Bool) (hv : Value) (w : World) (hE : EAt w E EA EB ED ea eb ed) (hh : Kd.bool.slice.K w Any had [hv]) (hbl : E.bound.length ≤ 1000) (hbd : BoundOk E) :
    Calls Try.prog 46 #[.agg #[.int .i64 E.id, .int .i64 E.sched, .int .i64 E.epoch, .slice EA E.needs.length ea, .slice EB E.bound.length eb, .slice ED E.done.length ed], .int .i64 wk, hv] w fun e w' => ∃ v, e = .returned v ∧ Own I64 3 w' w.heap.size NoT v (pendL E wk had) ∧ Below w.heap.size w w' := by
  obtain ⟨V, hV⟩ : ∃ V, V = ((w.alloc (.cells #[.int .i64 E.id, .int .i64 E.sched, .int .i64 E.epoch, .slice EA E.needs.length ea, .slice EB E.bound.length eb, .slice ED E.done.length ed] 74)).alloc (.cells #[.int .i64 wk] 3)).alloc (.cells #[hv] 72) := ⟨_, rfl⟩
  have hb0 : Below w.heap.size w V := by rw [hV]; exact bAlloc (bAlloc (bAlloc (Below.refl _ _) _) _) _
  have hvs : V.heap.size = w.heap.size + 3 := by rw [hV]; simp
  have HBE := hid (boxE_of (b := w.heap.size) (by rw [hV, Below.heap_alloc _ _ _ (by simp; omega), Below.heap_alloc _ _ _ (by simp)]; exact heap_at rfl) (hE.below hb0))
  have hz1 : V.heap[w.heap.size + 1]? = some (.cells #[.int .i64 wk] 3 (0, 0)) := by rw [hV, Below.heap_alloc _ _ _ (by simp)]; exact heap_at (by simp)
  have hz2 : V.heap[w.heap.size + 1 + 1]? = some (.cells #[hv] 72 (0, 0)) := by rw [hV]; exact heap_at (by simp)
  have HZ1 := hid (box1 hz1)
  have HZ2 := hid (box1 hz2)
  have HHD := hid (Kd.below hh hb0)
  have HBV := hid hb0
  have HV := hid hV
  have HVS := hid hvs
  have HBD := hid hbd
  have htl := tasks_le E hbl
  obtain ⟨Ah, ch, he, _, _, _⟩ := hh
  injection he with he _
  subst he
  obtain ⟨n, hn⟩ : ∃ n, n = tasksN E := ⟨_, rfl⟩
  rw [← hn] at htl
  have HNN := hid hn
  have hmf := makeFunc_run Try.prog
  obtain ⟨⟨c0, c1, c2, c3, c4, c5⟩, _, _⟩ := HBE.out
  have HPL := hid (show pendL E wk had = whereN (pendB E wk had) n by unfold pendL; rw [← hn])
  clear hV hE hbd hn hvs hz1 hz2 hb0
  go_enter Try.func46, Try.ntmps46
  go_wp2_with fail
  rw [← HV.out]
  refine (handTasks_calls E EA EB ED ea eb ed V).mono ?_
  rintro e w1 ⟨rfl, hb1⟩
  rw [← HNN.out]
  have HB1 := hid hb1
  clear hb1
  go_wp2_with fail
  refine (where_calls 102 _ _ _ pend1_enter (pendB E wk had) n (by omega) w1 (fun k u hk hb => pend1_calls E EA EB ED ea eb ed wk had _ w.heap.size (w.heap.size + 1) (w.heap.size + 1 + 1) k u (HBE.out.below (bThen HB1.out hb)) (HZ1.out u (bThen HB1.out hb)) (by have := (bThen HB1.out hb).size; have := HVS.out; omega) (HZ2.out u (bThen HB1.out hb)) (by have := (bThen HB1.out hb).size; have := HVS.out; omega) (Kd.below HHD.out (bThen HB1.out hb)) (by rw [← HNN.out]; exact hk) HBD.out)).mono ?_
  rintro e w2 ⟨v2, rfl, hO, hb2⟩
  have HO := hid hO
  have HB2 := hid (bThen HB1.out hb2)
  clear hO hb2
  go_wp2
  go_ret
  exact ⟨_, rfl, by rw [HPL.out]; exact HO.out.lower (bThen HBV.out HB1.out).size, bThen HBV.out HB2.out⟩
set_option maxHeartbeats 4000000 in
set_option maxRecDepth 100000 in
theorem pick1_calls (C : ConfS) (CA CB : Option Addr) (ca cb : Nat) (E : EntryS) (EA EB ED : Option Addr) (ea eb ed : Nat) (wk : Int) (bc be bw k : Nat) (w : World) (hC : BoxC w C CA CB ca cb bc) (hE : BoxE w E EA EB ED ea eb ed be) (hw : w.cell? ⟨bw, 0, none⟩ = some (.int .i64 wk)) (hbl : E.bound.length ≤ 1000) (hns : ∀ s ∈ E.needs, s.size ≤ 140737488351232) :
    Calls Try.prog 99 #[.int .i64 k, .pointer (some ⟨bc, 0, none⟩), .pointer (some ⟨be, 0, none⟩), .pointer (some ⟨bw, 0, none⟩)] w fun e w' => e = .returned (.bool (mayB C E wk k)) ∧ Below w.heap.size w w' := by
  obtain ⟨⟨c0, c1, c2, c3, c4, c5, c6⟩, hc, _⟩ := hC
  obtain ⟨⟨e0, e1, e2, e3, e4, e5⟩, he, _⟩ := hE
  have HC := hid hc
  have HE := hid he
  have HNS := hid hns
  clear hc he hns
  go_enter Try.func99, Try.ntmps99
  go_wp2_with fail
  refine (handMay_calls C CA CB ca cb E EA EB ED ea eb ed wk k w HC.out HE.out hbl HNS.out).mono ?_
  rintro e w1 ⟨rfl, hb1⟩
  go_wp2
  go_ret
  exact ⟨rfl, hb1⟩
set_option maxHeartbeats 4000000 in
set_option maxRecDepth 100000 in
theorem pick_calls (C : ConfS) (CA CB : Option Addr) (ca cb : Nat) (E : EntryS) (EA EB ED : Option Addr) (ea eb ed : Nat) (wk : Int) (had : List Bool) (hv : Value) (w : World) (hC : CAt w C CA CB ca cb) (hE : EAt w E EA EB ED ea eb ed) (hh : Kd.bool.slice.K w Any had [hv]) (hbl : E.bound.length ≤ 1000) (hnl : E.needs.length ≤ 1000) (hbd : BoundOk E) (hns : ∀ s ∈ E.needs, s.size ≤ 140737488351232) :
    Calls Try.prog 44 #[.agg #[.int .i64 C.scheds, .int .i64 C.lease, .int .i64 C.again, .int .i64 C.room, .int .i64 C.out, .slice CA C.names.length ca, .slice CB C.workers.length cb], .agg #[.int .i64 E.id, .int .i64 E.sched, .int .i64 E.epoch, .slice EA E.needs.length ea, .slice EB E.bound.length eb, .slice ED E.done.length ed], .int .i64 wk, hv] w fun e w' => e = .returned (.tuple #[.int .i64 (pickS C E wk had).1, .bool (pickS C E wk had).2.1, .bool (pickS C E wk had).2.2]) ∧ Below w.heap.size w w' := by
  obtain ⟨V, hV⟩ : ∃ V, V = ((w.alloc (.cells #[.int .i64 C.scheds, .int .i64 C.lease, .int .i64 C.again, .int .i64 C.room, .int .i64 C.out, .slice CA C.names.length ca, .slice CB C.workers.length cb] 56)).alloc (.cells #[.int .i64 E.id, .int .i64 E.sched, .int .i64 E.epoch, .slice EA E.needs.length ea, .slice EB E.bound.length eb, .slice ED E.done.length ed] 74)).alloc (.cells #[.int .i64 wk] 3) := ⟨_, rfl⟩
  have hb0 : Below w.heap.size w V := by rw [hV]; exact bAlloc (bAlloc (bAlloc (Below.refl _ _) _) _) _
  have hvs : V.heap.size = w.heap.size + 3 := by rw [hV]; simp
  have HBC := hid (boxC_of (b := w.heap.size) (by rw [hV, Below.heap_alloc _ _ _ (by simp; omega), Below.heap_alloc _ _ _ (by simp)]; exact heap_at rfl) (hC.below hb0))
  have HBE := hid (boxE_of (b := w.heap.size + 1) (by rw [hV, Below.heap_alloc _ _ _ (by simp)]; exact heap_at (by simp)) (hE.below hb0))
  have hz2 : V.heap[w.heap.size + 1 + 1]? = some (.cells #[.int .i64 wk] 3 (0, 0)) := by rw [hV]; exact heap_at (by simp)
  have HZ2 := hid (box1 hz2)
  have HHD := hid (Kd.below hh hb0)
  have HBV := hid hb0
  have HV := hid hV
  have HBD := hid hbd
  have HNS := hid hns
  obtain ⟨Ah, ch, he, _, _, _⟩ := hh
  injection he with he _
  subst he
  have hmf := makeFunc_run Try.prog
  obtain ⟨⟨c0, c1, c2, c3, c4, c5⟩, _, _⟩ := HBE.out
  have cw := HZ2.out V (Below.refl _ _)
  have HPD := hid (show pickS C E wk had = match pendL E wk had with | x :: _ => (x, false, true) | [] => (match mayL C E wk with | x :: _ => (x, true, true) | [] => (-1, false, false)) from rfl)
  obtain ⟨pl, hpl⟩ : ∃ pl, pl = pendL E wk had := ⟨_, rfl⟩
  have HPL := hid hpl
  rw [← hpl] at HPD
  obtain ⟨ml, hml⟩ : ∃ ml, ml = mayL C E wk := ⟨_, rfl⟩
  have HML := hid hml
  rw [← hml] at HPD
  obtain ⟨n, hn⟩ : ∃ n, n = E.needs.length := ⟨_, rfl⟩
  have HNN := hid hn
  have hnl2 : n ≤ 1000 := by omega
  clear hV hE hC hbd hvs hz2 hb0 hns hpl hml hn
  go_enter Try.func44, Try.ntmps44
  go_wp2_with fail
  rw [← HV.out]
  refine (pending_calls E EA EB ED ea eb ed wk had _ V HBE.out.2.1 HHD.out hbl HBD.out).mono ?_
  rintro e w1 ⟨v1, rfl, hO, hb1⟩
  rw [← HPL.out] at hO
  have HB1 := hid hb1
  obtain ⟨A1, d1, he, _, _, hr1⟩ := Kd.any hO.K
  cases he
  have HR1 := hid hr1
  obtain ⟨⟨_, _, _, d3, _, _⟩, _, _⟩ := HBE.out.below hb1
  clear hO hb1 hr1
  cases pl with
  | cons x r =>
    obtain ⟨a, x', rfl, hx, r0⟩ := HR1.out.at_int 0 (by simp)
    obtain rfl : x' = x := (Option.some.inj hx).symm
    have r0' : w1.cell? a = some (.int .i64 x') := by have := r0; rwa [show a.add 0 = a from by unfold Addr.add; rw [if_pos rfl]] at this
    have HF := hid (show pickS C E wk had = (x', false, true) from HPD.out)
    obtain ⟨m, hm⟩ : ∃ m, (x' :: r).length = m + 1 := ⟨r.length, rfl⟩
    rw [hm]
    have hmI : (0 : Int) < ((m + 1 : Nat) : Int) := by omega
    clear hx r0 hm
    go_wp2
    go_ret3
    rw [HF.out]
    exact ⟨rfl, bThen HBV.out HB1.out⟩
  | nil =>
    go_wp2_with fail
    rw [← HNN.out]
    refine (where_calls 99 _ _ _ pick1_enter (fun k => mayB C E wk k) n (by omega) w1 (fun k u hk hb => pick1_calls C CA CB ca cb E EA EB ED ea eb ed wk _ _ _ k u (HBC.out.below (bThen HB1.out hb)) (HBE.out.below (bThen HB1.out hb)) (HZ2.out u (bThen HB1.out hb)) hbl HNS.out)).mono ?_
    rintro e w2 ⟨v2, rfl, hO, hb2⟩
    have hO2 : Own I64 3 w2 w1.heap.size NoT v2 ml := by rw [HML.out]; unfold mayL; rw [← HNN.out]; exact hO
    have HB2 := hid (bThen HB1.out hb2)
    obtain ⟨A2, d2, he, _, _, hr2⟩ := Kd.any hO2.K
    cases he
    have HR2 := hid hr2
    clear hO hO2 hb2 hr2
    cases ml with
    | cons x r =>
      obtain ⟨a, x', rfl, hx, r0⟩ := HR2.out.at_int 0 (by simp)
      obtain rfl : x' = x := (Option.some.inj hx).symm
      have r0' : w2.cell? a = some (.int .i64 x') := by have := r0; rwa [show a.add 0 = a from by unfold Addr.add; rw [if_pos rfl]] at this
      have HF := hid (show pickS C E wk had = (x', true, true) from HPD.out)
      obtain ⟨m, hm⟩ : ∃ m, (x' :: r).length = m + 1 := ⟨r.length, rfl⟩
      rw [hm]
      have hmI : (0 : Int) < ((m + 1 : Nat) : Int) := by omega
      clear hx r0 hm
      go_wp2
      go_ret3
      rw [HF.out]
      exact ⟨rfl, bThen HBV.out HB2.out⟩
    | nil =>
      have HF := hid (show pickS C E wk had = (-1, false, false) from HPD.out)
      go_wp2
      go_ret3
      rw [HF.out]
      exact ⟨rfl, bThen HBV.out HB2.out⟩
end Go.Proofs.Yteijgeofimcijaa
