/- siskinlaw39.works: the page's example; how a cluster with jobs comes in. -/
import Derived.Test.YtgedkcglkhleoaaGreatDoorEvText
import Derived.Test.YtgedkcglkhleoaaGreatDoorEvent7
import Derived.Test.YtgedkcglkhleoaaGreatDoorBase
namespace Go.Proofs.YtgedkcglkhleoaaGreatDoor
open Go.RowKit

theorem cells_event {w : World} {S : Nat → Prop} : ∀ l : List EvS, Cells Kd.event w S l (l.flatMap (fun x => [.int .i64 x.kind, .int .i64 x.job, .int .i64 x.task, .int .i64 x.worker]))
  | [] => rfl
  | _ :: l => ⟨_, _, rfl, rfl, cells_event l⟩
def q39C : ConfS := ⟨0, 0, 0, 0, 0, [], [⟨1, 0, 0⟩]⟩
def q39J : List JobS := [⟨5, [⟨#[42]⟩, ⟨#[42]⟩]⟩]
def q39L : List EvS := [⟨1, 5, 0, 0⟩, ⟨2, 5, 0, 0⟩, ⟨2, 5, 1, 0⟩]
def q39M : List EvS := [⟨1, 5, 0, 0⟩, ⟨2, 5, 0, 0⟩, ⟨3, 5, 0, 0⟩, ⟨2, 5, 1, 0⟩]
theorem q39T : textE ⟨2, 5, 1, 0⟩ = ⟨#[108, 97, 117, 110, 99, 104, 32, 53, 32, 49, 32, 48]⟩ := by
  have h : ∀ n : Int, 0 ≤ n → n < 10 → numS n = ⟨#[UInt8.ofNat (48 + n.toNat)]⟩ := fun n h0 h1 => by
    unfold numS Lib.itoa
    rw [if_neg (by omega), Lib.decDigits_one (by omega)]
  unfold textE
  rw [h 5 (by decide) (by decide), h 1 (by decide) (by decide), h 0 (by decide) (by decide)]
  rfl
set_option maxHeartbeats 4000000 in
set_option maxRecDepth 100000 in
theorem works39_calls (w : World) (hT : Tab w) : Calls Tryz.prog 8 #[] w fun e w' => e = .returned (.bool true) ∧ Below w.heap.size w w' := by
  have T1 := hid (show (evRun q39C q39J [] q39L).2 = 2 by decide +kernel)
  have T2 := hid (show (evRun q39C q39J [] q39M).2 = 4 by decide +kernel)
  have HJS := hid (show JsOk q39J from fun J hJ => by rw [List.mem_singleton.1 hJ]; exact ⟨fun s hs => by simp at hs; subst hs; decide, by decide⟩)
  obtain ⟨V, hV⟩ : ∃ V, V = ((((w.alloc (.cells #[.int .i64 1, .int .i64 0, .int .u64 0] 57)).alloc (.cells #[.int .i64 0, .int .i64 0, .int .i64 0, .int .i64 0, .int .i64 0, .slice none 0 0, .slice (some ⟨w.heap.size, 0, none⟩) 1 1] 25)).alloc (.cells #[.string ⟨#[42]⟩, .string ⟨#[42]⟩] 9)).alloc (.cells #[.int .i64 5, .slice (some ⟨w.heap.size + 1 + 1, 0, none⟩) 2 2] 54)).alloc (.cells #[.int .i64 1, .int .i64 5, .int .i64 0, .int .i64 0, .int .i64 2, .int .i64 5, .int .i64 0, .int .i64 0, .int .i64 2, .int .i64 5, .int .i64 1, .int .i64 0] 31) := ⟨_, rfl⟩
  have hbv : Below w.heap.size w V := by rw [hV]; exact bAlloc (bAlloc (bAlloc (bAlloc (bAlloc (Below.refl _ _) _) _) _) _) _
  have hz0 : V.heap[w.heap.size]? = some (.cells #[.int .i64 1, .int .i64 0, .int .u64 0] 57 (0, 0)) := by
    rw [hV, Below.heap_alloc _ _ _ (by simp; try omega), Below.heap_alloc _ _ _ (by simp; try omega), Below.heap_alloc _ _ _ (by simp; try omega), Below.heap_alloc _ _ _ (by simp; try omega)]
    exact heap_at rfl
  have hz1 : V.heap[w.heap.size + 1]? = some (.cells #[.int .i64 0, .int .i64 0, .int .i64 0, .int .i64 0, .int .i64 0, .slice none 0 0, .slice (some ⟨w.heap.size, 0, none⟩) 1 1] 25 (0, 0)) := by
    rw [hV, Below.heap_alloc _ _ _ (by simp; try omega), Below.heap_alloc _ _ _ (by simp; try omega), Below.heap_alloc _ _ _ (by simp; try omega)]
    exact heap_at (by simp)
  have hz2 : V.heap[w.heap.size + 1 + 1]? = some (.cells #[.string ⟨#[42]⟩, .string ⟨#[42]⟩] 9 (0, 0)) := by
    rw [hV, Below.heap_alloc _ _ _ (by simp; try omega), Below.heap_alloc _ _ _ (by simp; try omega)]
    exact heap_at (by simp)
  have hz3 : V.heap[w.heap.size + 1 + 1 + 1]? = some (.cells #[.int .i64 5, .slice (some ⟨w.heap.size + 1 + 1, 0, none⟩) 2 2] 54 (0, 0)) := by
    rw [hV, Below.heap_alloc _ _ _ (by simp; try omega)]
    exact heap_at (by simp)
  have hz4 : V.heap[w.heap.size + 1 + 1 + 1 + 1]? = some (.cells #[.int .i64 1, .int .i64 5, .int .i64 0, .int .i64 0, .int .i64 2, .int .i64 5, .int .i64 0, .int .i64 0, .int .i64 2, .int .i64 5, .int .i64 1, .int .i64 0] 31 (0, 0)) := by
    rw [hV]
    exact heap_at (by simp)
  have hC : CAt V q39C none (some ⟨w.heap.size, 0, none⟩) 0 1 := ⟨⟨none, 0, rfl, Nat.le_refl _, by decide, Kd.Row.nil⟩, K_of_block (d := Kd.worker) 1 1 rfl hz0 trivial ⟨_, [], rfl, rfl, rfl⟩ (Nat.le_refl _) (by decide), fun x hx => by rw [List.mem_singleton.1 hx]; decide⟩
  have hJ : Kd.job.slice.K V Any q39J [.slice (some ⟨w.heap.size + 1 + 1 + 1, 0, none⟩) 1 1] := K_of_block (d := Kd.job) 1 1 rfl hz3 trivial ⟨_, [], rfl, job_of ⟨5, [⟨#[42]⟩, ⟨#[42]⟩]⟩ (K_of_block (d := Kd.str) 2 2 rfl hz2 trivial ⟨[_], [_], rfl, rfl, [_], [], rfl, rfl, rfl⟩ (Nat.le_refl _) (by decide)), rfl⟩ (Nat.le_refl _) (by decide)
  have hL : Kd.event.slice.K V Any q39L [.slice (some ⟨w.heap.size + 1 + 1 + 1 + 1, 0, none⟩) 3 3] := K_of_block (d := Kd.event) 3 3 rfl hz4 trivial (cells_event q39L) (Nat.le_refl _) (by decide)
  have HZ1 := hid hz1
  have HZ4 := hid hz4
  have HBV := hid hbv
  have HTV := hid (hT.below hbv)
  have HC := hid hC
  have HJ := hid hJ
  have HL := hid hL
  have HCB := hid (fun (u : World) (hb : Below V.heap.size V u) => conf_box HZ1.out u hb)
  have HEB := hid (fun (u : World) (h : Below V.heap.size V u) => (show u.cell? ⟨w.heap.size + 1 + 1 + 1 + 1, 0, none⟩ = some (.int .i64 1) ∧ u.cell? ⟨w.heap.size + 1 + 1 + 1 + 1, 1, none⟩ = some (.int .i64 5) ∧ u.cell? ⟨w.heap.size + 1 + 1 + 1 + 1, 2, none⟩ = some (.int .i64 0) ∧ u.cell? ⟨w.heap.size + 1 + 1 + 1 + 1, 3, none⟩ = some (.int .i64 0) ∧ u.cell? ⟨w.heap.size + 1 + 1 + 1 + 1, 4, none⟩ = some (.int .i64 2) ∧ u.cell? ⟨w.heap.size + 1 + 1 + 1 + 1, 5, none⟩ = some (.int .i64 5) ∧ u.cell? ⟨w.heap.size + 1 + 1 + 1 + 1, 6, none⟩ = some (.int .i64 0) ∧ u.cell? ⟨w.heap.size + 1 + 1 + 1 + 1, 7, none⟩ = some (.int .i64 0) ∧ u.cell? ⟨w.heap.size + 1 + 1 + 1 + 1, 8, none⟩ = some (.int .i64 2) ∧ u.cell? ⟨w.heap.size + 1 + 1 + 1 + 1, 9, none⟩ = some (.int .i64 5) ∧ u.cell? ⟨w.heap.size + 1 + 1 + 1 + 1, 10, none⟩ = some (.int .i64 1) ∧ u.cell? ⟨w.heap.size + 1 + 1 + 1 + 1, 11, none⟩ = some (.int .i64 0) from by
    obtain ⟨y0, _, _⟩ := cells_of_block ((h.block (w.heap.size + 1 + 1 + 1 + 1) (Array.getElem?_eq_some_iff.1 HZ4.out).1).trans HZ4.out)
    exact ⟨y0 0 _ rfl, y0 1 _ rfl, y0 2 _ rfl, y0 3 _ rfl, y0 4 _ rfl, y0 5 _ rfl, y0 6 _ rfl, y0 7 _ rfl, y0 8 _ rfl, y0 9 _ rfl, y0 10 _ rfl, y0 11 _ rfl⟩))
  have hEq := hV.symm
  clear hV hbv hC hJ hL hz0 hz1 hz2 hz3 hz4 hT
  obtain ⟨x0, x1, x2, x3, x4, x5, x6⟩ := HCB.out V (Below.refl _ _)
  go_enter Tryz.func8, Tryz.ntmps8
  go_wp2_with fail
  refine (erun_calls q39C none (some ⟨w.heap.size, 0, none⟩) 0 1 q39J _ 1 1 q39L _ V HC.out HJ.out HL.out HJS.out (by decide)).mono ?_
  rintro e w1 ⟨o, rfl, _, hb1⟩
  rw [T1.out]
  have HB1 := hid hb1
  clear hb1 x0 x1 x2 x3 x4 x5 x6 hEq
  have U0 := hid (bThen HB1.out (Below.refl _ _).drew)
  have q0 := HCB.out _ U0.out
  have q1 := HEB.out _ U0.out
  go_wp2_with fail
  refine wp_region_held_drew (S := fun w' => (w'.cell? ⟨w.heap.size + 1, 0, none⟩ = some (.int .i64 0) ∧ w'.cell? ⟨w.heap.size + 1, 1, none⟩ = some (.int .i64 0) ∧ w'.cell? ⟨w.heap.size + 1, 2, none⟩ = some (.int .i64 0) ∧ w'.cell? ⟨w.heap.size + 1, 3, none⟩ = some (.int .i64 0) ∧ w'.cell? ⟨w.heap.size + 1, 4, none⟩ = some (.int .i64 0) ∧ w'.cell? ⟨w.heap.size + 1, 5, none⟩ = some (.slice none 0 0) ∧ w'.cell? ⟨w.heap.size + 1, 6, none⟩ = some (.slice (some ⟨w.heap.size, 0, none⟩) 1 1)) ∧ (w'.cell? ⟨w.heap.size + 1 + 1 + 1 + 1, 0, none⟩ = some (.int .i64 1) ∧ w'.cell? ⟨w.heap.size + 1 + 1 + 1 + 1, 1, none⟩ = some (.int .i64 5) ∧ w'.cell? ⟨w.heap.size + 1 + 1 + 1 + 1, 2, none⟩ = some (.int .i64 0) ∧ w'.cell? ⟨w.heap.size + 1 + 1 + 1 + 1, 3, none⟩ = some (.int .i64 0) ∧ w'.cell? ⟨w.heap.size + 1 + 1 + 1 + 1, 4, none⟩ = some (.int .i64 2) ∧ w'.cell? ⟨w.heap.size + 1 + 1 + 1 + 1, 5, none⟩ = some (.int .i64 5) ∧ w'.cell? ⟨w.heap.size + 1 + 1 + 1 + 1, 6, none⟩ = some (.int .i64 0) ∧ w'.cell? ⟨w.heap.size + 1 + 1 + 1 + 1, 7, none⟩ = some (.int .i64 0) ∧ w'.cell? ⟨w.heap.size + 1 + 1 + 1 + 1, 8, none⟩ = some (.int .i64 2) ∧ w'.cell? ⟨w.heap.size + 1 + 1 + 1 + 1, 9, none⟩ = some (.int .i64 5) ∧ w'.cell? ⟨w.heap.size + 1 + 1 + 1 + 1, 10, none⟩ = some (.int .i64 1) ∧ w'.cell? ⟨w.heap.size + 1 + 1 + 1 + 1, 11, none⟩ = some (.int .i64 0))) (by kernel_rfl) ⟨q0, q1⟩ (fun hHeld => ?_)
  obtain ⟨y0, hy0⟩ : ∃ y, y = w1.drew := ⟨_, rfl⟩
  rw [← hy0] at U0 q0 q1 hHeld ⊢
  clear hy0
  refine anyH_take 0 (v := ?_) rfl (by kernel_rfl) (by kernel_rfl) (by kernel_rfl) (fun _ _ _ h => h) (by rfl) hHeld ?_ ?_
  rotate_left
  · (intro w hSw; (try dsimp only at hSw); go_split_ands; go_simp; try with_reducible rfl)
  (try simp only [Act.put, List.setIfInBounds_toArray, List.set_cons_zero, List.set_cons_succ])
  refine anyH_take 1 (v := ?_) rfl (by kernel_rfl) (by kernel_rfl) (by kernel_rfl) (fun _ _ _ h => h) (by rfl) hHeld ?_ ?_
  rotate_left
  · (intro w hSw; (try dsimp only at hSw); go_split_ands; go_simp; try with_reducible rfl)
  (try simp only [Act.put, List.setIfInBounds_toArray, List.set_cons_zero, List.set_cons_succ])
  refine anyH_take 2 (v := ?_) rfl (by kernel_rfl) (by kernel_rfl) (by kernel_rfl) (fun _ _ _ h => h) (by rfl) hHeld ?_ ?_
  rotate_left
  · (intro w hSw; (try dsimp only at hSw); go_split_ands; go_simp; try with_reducible rfl)
  (try simp only [Act.put, List.setIfInBounds_toArray, List.set_cons_zero, List.set_cons_succ])
  refine anyH_take 3 (v := ?_) rfl (by kernel_rfl) (by kernel_rfl) (by kernel_rfl) (fun _ _ _ h => h) (by rfl) hHeld ?_ ?_
  rotate_left
  · (intro w hSw; (try dsimp only at hSw); go_split_ands; go_simp; try with_reducible rfl)
  (try simp only [Act.put, List.setIfInBounds_toArray, List.set_cons_zero, List.set_cons_succ])
  refine anyH_take 4 (v := ?_) rfl (by kernel_rfl) (by kernel_rfl) (by kernel_rfl) (fun _ _ _ h => h) (by rfl) hHeld ?_ ?_
  rotate_left
  · (intro w hSw; (try dsimp only at hSw); go_split_ands; go_simp; try with_reducible rfl)
  (try simp only [Act.put, List.setIfInBounds_toArray, List.set_cons_zero, List.set_cons_succ])
  refine anyH_take 5 (v := ?_) rfl (by kernel_rfl) (by kernel_rfl) (by kernel_rfl) (fun _ _ _ h => h) (by rfl) hHeld ?_ ?_
  rotate_left
  · (intro w hSw; (try dsimp only at hSw); go_split_ands; go_simp; try with_reducible rfl)
  (try simp only [Act.put, List.setIfInBounds_toArray, List.set_cons_zero, List.set_cons_succ])
  refine anyH_take 6 (v := ?_) rfl (by kernel_rfl) (by kernel_rfl) (by kernel_rfl) (fun _ _ _ h => h) (by rfl) hHeld ?_ ?_
  rotate_left
  · (intro w hSw; (try dsimp only at hSw); go_split_ands; go_simp; try with_reducible rfl)
  (try simp only [Act.put, List.setIfInBounds_toArray, List.set_cons_zero, List.set_cons_succ])
  refine anyH_take 7 (v := ?_) rfl (by kernel_rfl) (by kernel_rfl) (by kernel_rfl) (fun _ _ _ h => h) (by rfl) hHeld ?_ ?_
  rotate_left
  · (intro w hSw; (try dsimp only at hSw); go_split_ands; go_simp; try with_reducible rfl)
  (try simp only [Act.put, List.setIfInBounds_toArray, List.set_cons_zero, List.set_cons_succ])
  refine anyH_take 8 (v := ?_) rfl (by kernel_rfl) (by kernel_rfl) (by kernel_rfl) (fun _ _ _ h => h) (by rfl) hHeld ?_ ?_
  rotate_left
  · (intro w hSw; (try dsimp only at hSw); go_split_ands; go_simp; try with_reducible rfl)
  (try simp only [Act.put, List.setIfInBounds_toArray, List.set_cons_zero, List.set_cons_succ])
  refine anyH_take 9 (v := ?_) rfl (by kernel_rfl) (by kernel_rfl) (by kernel_rfl) (fun _ _ _ h => h) (by rfl) hHeld ?_ ?_
  rotate_left
  · (intro w hSw; (try dsimp only at hSw); go_split_ands; go_simp; try with_reducible rfl)
  (try simp only [Act.put, List.setIfInBounds_toArray, List.set_cons_zero, List.set_cons_succ])
  refine anyH_take 10 (v := ?_) rfl (by kernel_rfl) (by kernel_rfl) (by kernel_rfl) (fun _ _ _ h => h) (by rfl) hHeld ?_ ?_
  rotate_left
  · (intro w hSw; (try dsimp only at hSw); go_split_ands; go_simp; try with_reducible rfl)
  (try simp only [Act.put, List.setIfInBounds_toArray, List.set_cons_zero, List.set_cons_succ])
  refine anyH_take 11 (v := ?_) rfl (by kernel_rfl) (by kernel_rfl) (by kernel_rfl) (fun _ _ _ h => h) (by rfl) hHeld ?_ ?_
  rotate_left
  · (intro w hSw; (try dsimp only at hSw); go_split_ands; go_simp; try with_reducible rfl)
  (try simp only [Act.put, List.setIfInBounds_toArray, List.set_cons_zero, List.set_cons_succ])
  refine anyH_one 12 rfl (by kernel_rfl) (fun K hK => ?_)
  go_simp
  obtain ⟨y, hy⟩ : ∃ y, y = y0.alloc (.cells #[.int .i64 1, .int .i64 5, .int .i64 0, .int .i64 0, .int .i64 2, .int .i64 5, .int .i64 0, .int .i64 0, .int .i64 3, .int .i64 5, .int .i64 0, .int .i64 0, .int .i64 2, .int .i64 5, .int .i64 1, .int .i64 0] 31) := ⟨_, rfl⟩
  rw [← hy]
  have U1 := hid (bThen U0.out (show Below y0.heap.size y0 y by rw [hy]; exact bAlloc (Below.refl _ _) _))
  have HY := hid (show Kd.event.slice.K y Any q39M [.slice (some ⟨y0.heap.size, 0, none⟩) 4 4] from K_of_block (d := Kd.event) 4 4 rfl (show y.heap[y0.heap.size]? = some (.cells #[.int .i64 1, .int .i64 5, .int .i64 0, .int .i64 0, .int .i64 2, .int .i64 5, .int .i64 0, .int .i64 0, .int .i64 3, .int .i64 5, .int .i64 0, .int .i64 0, .int .i64 2, .int .i64 5, .int .i64 1, .int .i64 0] 31 (0, 0)) by rw [hy]; exact heap_at rfl) trivial (cells_event q39M) (Nat.le_refl _) (by decide))
  clear hy
  refine hK.out _ _ ⟨HCB.out _ U1.out, HEB.out _ U1.out⟩ (fun hHeld => ?_)
  clear hK K
  (try simp only [Act.put, List.setIfInBounds_toArray, List.set_cons_zero, List.set_cons_succ])
  refine anyH_one 13 rfl (by kernel_rfl) (fun K hK => ?_)
  go_simp
  refine (erun_calls q39C none (some ⟨w.heap.size, 0, none⟩) 0 1 q39J _ 1 1 q39M _ y (HC.out.below U1.out) (Kd.below HJ.out U1.out) HY.out HJS.out (by decide)).mono ?_
  rintro e w2 ⟨o2, rfl, _, hb2⟩
  rw [T2.out]
  have U2 := hid (bThen U1.out hb2)
  clear hb2
  go_simp
  refine hK.out _ _ ⟨HCB.out _ U2.out, HEB.out _ U2.out⟩ (fun hHeld => ?_)
  clear hK K
  (try simp only [Act.put, List.setIfInBounds_toArray, List.set_cons_zero, List.set_cons_succ])
  refine anyH_take 14 (v := ?_) rfl (by kernel_rfl) (by kernel_rfl) (by kernel_rfl) (fun _ _ _ h => h) (by rfl) hHeld ?_ ?_
  rotate_left
  · (intro w hSw; (try dsimp only at hSw); go_split_ands; go_simp; try with_reducible rfl)
  (try simp only [Act.put, List.setIfInBounds_toArray, List.set_cons_zero, List.set_cons_succ])
  refine anyH_take 15 (v := ?_) rfl (by kernel_rfl) (by kernel_rfl) (by kernel_rfl) (fun _ _ _ h => h) (by rfl) hHeld ?_ ?_
  rotate_left
  · (intro w hSw; (try dsimp only at hSw); go_split_ands; go_simp; try with_reducible rfl)
  (try simp only [Act.put, List.setIfInBounds_toArray, List.set_cons_zero, List.set_cons_succ])
  refine anyH_take 16 (v := ?_) rfl (by kernel_rfl) (by kernel_rfl) (by kernel_rfl) (fun _ _ _ h => h) (by rfl) hHeld ?_ ?_
  rotate_left
  · (intro w hSw; (try dsimp only at hSw); go_split_ands; go_simp; try with_reducible rfl)
  (try simp only [Act.put, List.setIfInBounds_toArray, List.set_cons_zero, List.set_cons_succ])
  refine anyH_take 17 (v := ?_) rfl (by kernel_rfl) (by kernel_rfl) (by kernel_rfl) (fun _ _ _ h => h) (by rfl) hHeld ?_ ?_
  rotate_left
  · (intro w hSw; (try dsimp only at hSw); go_split_ands; go_simp; try with_reducible rfl)
  (try simp only [Act.put, List.setIfInBounds_toArray, List.set_cons_zero, List.set_cons_succ])
  refine anyH_take 18 (v := ?_) rfl (by kernel_rfl) (by kernel_rfl) (by kernel_rfl) (fun _ _ _ h => h) (by rfl) hHeld ?_ ?_
  rotate_left
  · (intro w hSw; (try dsimp only at hSw); go_split_ands; go_simp; try with_reducible rfl)
  (try simp only [Act.put, List.setIfInBounds_toArray, List.set_cons_zero, List.set_cons_succ])
  refine wpAnyH_done (by kernel_rfl) ?_ _
  clear hHeld q0 q1
  obtain ⟨x0, x1, x2, x3, x4, x5, x6, x7, x8, x9, x10, x11⟩ := HEB.out w2 U2.out
  go_wp2_with fail
  refine (etext_calls ⟨2, 5, 1, 0⟩ w2 ⟨by decide, by decide, by decide, by decide, by decide, by decide⟩ (HTV.out.below U2.out)).mono ?_
  rintro e w3 ⟨rfl, hb3⟩
  rw [q39T]
  have U3 := hid (bThen HBV.out (bThen U2.out hb3))
  clear hb3
  go_wp2
  go_ret
  exact ⟨rfl, U3.out⟩

/-! ### a cluster with jobs, as it comes in -/
structure WorldS where
  conf : ConfS
  jobs : List JobS
def Kd.world : Kd WorldS := Kd.iso (Kd.pair Kd.conf Kd.job.slice) (fun W => (W.conf, W.jobs))
theorem Tryz.opensJobs : Opens Tryz.prog 26 Kd.job.slice (fun l => (∀ y ∈ l, okStrs y.needs) ∧ l.length * 32 ≤ 140737488351232) := opens_slice Tryz.underlying26 (by kernel_rfl) (by kernel_rfl) (by decide) (by decide) Tryz.opensJob
theorem Tryz.opensWorld : Opens Tryz.prog 28 Kd.world (fun W => okConf W.conf ∧ ∀ J ∈ W.jobs, okStrs J.needs) :=
  opens_mapO (fun p : ConfS × List JobS => (⟨p.1, p.2⟩ : WorldS))
    (opens_struct (l := [(25, 0), (26, 7)]) (by kernel_rfl) (by simp) (by kernel_rfl)
      (opensF_cons (by kernel_rfl) Tryz.opensConf (by decide) (opensF_one (by kernel_rfl) Tryz.opensJobs)))
    (fun w S x cs _ h => h) (fun x ho => ⟨ho.1, ho.2.1⟩)
theorem i64_range {n : Int} (h : (Lit.int .i64 n).wf = true) : -9223372036854775808 ≤ n ∧ n ≤ 9223372036854775807 := by
  simp [Lit.wf, IntKind.min, IntKind.max, IntKind.bits, IntKind.signed] at h
  omega
theorem Tryz.opensEvent : Opens Tryz.prog 31 Kd.event EvInt :=
  opens_mapO (fun p : Int × Int × Int × Int => (⟨p.1, p.2.1, p.2.2.1, p.2.2.2⟩ : EvS))
    (opens_struct (l := [(3, 0), (3, 1), (3, 2), (3, 3)]) (by kernel_rfl) (by simp) (by kernel_rfl) (opensF_cons (by kernel_rfl) (opens_int Tryz.underlying3) (by decide) (opensF_cons (by kernel_rfl) (opens_int Tryz.underlying3) (by decide) (opensF_cons (by kernel_rfl) (opens_int Tryz.underlying3) (by decide) (opensF_one (by kernel_rfl) (opens_int Tryz.underlying3))))))
    (fun w S x cs ho h => by
      obtain ⟨c0, r0, rfl, h0, k0⟩ := h
      obtain ⟨c1, r1, rfl, h1, k1⟩ := k0
      obtain ⟨c2, c3, rfl, h2, h3⟩ := k1
      cases h0; cases h1; cases h2; cases h3
      rfl)
    (fun x ho => ⟨(i64_range ho.2.1).1, (i64_range ho.2.1).2, (i64_range ho.2.2.1).1, (i64_range ho.2.2.1).2, (i64_range ho.2.2.2).1, (i64_range ho.2.2.2).2⟩)
theorem Tryz.opensEvents : Opens Tryz.prog 47 Kd.event.slice (fun l => (∀ y ∈ l, EvInt y) ∧ l.length * 32 ≤ 140737488351232) := opens_slice Tryz.underlying47 (by kernel_rfl) (by kernel_rfl) (by decide) (by decide) Tryz.opensEvent
theorem world_cells {w : World} {S : Nat → Prop} {y : WorldS} {cs : List Value} (h : Kd.world.K w S y cs) : ∃ CA ca CB cb JA jc, cs = [.int .i64 y.conf.scheds, .int .i64 y.conf.lease, .int .i64 y.conf.again, .int .i64 y.conf.room, .int .i64 y.conf.out, .slice CA y.conf.names.length ca, .slice CB y.conf.workers.length cb, .slice JA y.jobs.length jc] ∧ Kd.str.slice.K w S y.conf.names [.slice CA y.conf.names.length ca] ∧ Kd.worker.slice.K w S y.conf.workers [.slice CB y.conf.workers.length cb] ∧ Kd.job.slice.K w S y.jobs [.slice JA y.jobs.length jc] := by
  obtain ⟨c0, c1, rfl, h0, h1⟩ := h
  obtain ⟨CA, ca, CB, cb, rfl, k1, k2⟩ := conf_cells h0
  have h2 := h1
  obtain ⟨JA, jc, rfl, _⟩ := h2
  exact ⟨CA, ca, CB, cb, JA, jc, rfl, k1, k2, h1⟩
end Go.Proofs.YtgedkcglkhleoaaGreatDoor
