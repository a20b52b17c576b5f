/- event.Text. -/
import Derived.Test.YtgedkcglkhleoaaGreatDoorNumT
import Derived.Test.YtgedkcglkhleoaaGreatDoorEvt0
import Derived.Test.YtgedkcglkhleoaaGreatDoorBase
namespace Go.Proofs.YtgedkcglkhleoaaGreatDoor
open Go.RowKit

theorem str_cells {w : World} {b : Nat} {t : TypeId} {fr : Nat × Nat} {xs : List ByteArray} (h : w.heap[b]? = some (.cells (xs.map Value.string).toArray t fr)) : ∀ (j : Nat) x, xs[j]? = some x → w.cell? ⟨b, 0 + j, none⟩ = some (.string x) := by
  intro j x hx
  obtain ⟨lo, hi⟩ := fr
  rw [Nat.zero_add, cell_of_row w b j _ t (lo, hi) h]
  simp [hx]
def wordE (k : Int) : ByteArray := if k = 1 then ⟨#[97, 99, 99, 101, 112, 116]⟩ else if k = 2 then ⟨#[108, 97, 117, 110, 99, 104]⟩ else if k = 3 then ⟨#[102, 105, 110, 105, 115, 104]⟩ else ⟨#[101, 118, 101, 110, 116]⟩
theorem wordE_size (k : Int) : (wordE k).size ≤ 6 := by
  unfold wordE
  repeat (first | split | decide)
def textE (e : EvS) : ByteArray := ⟨(Lib.join ([wordE e.kind, numS e.job, numS e.task, numS e.worker].map (·.data.toList)) (⟨#[32]⟩ : ByteArray).data.toList).toArray⟩
structure EvInt (e : EvS) : Prop where
  j0 : -9223372036854775808 ≤ e.job
  j1 : e.job ≤ 9223372036854775807
  t0 : -9223372036854775808 ≤ e.task
  t1 : e.task ≤ 9223372036854775807
  w0 : -9223372036854775808 ≤ e.worker
  w1 : e.worker ≤ 9223372036854775807
set_option maxHeartbeats 4000000 in
set_option maxRecDepth 100000 in
theorem etext_calls (x : EvS) (w : World) (hx : EvInt x) (hT : Tab w) :
    Calls Tryz.prog 15 #[.agg #[.int .i64 x.kind, .int .i64 x.job, .int .i64 x.task, .int .i64 x.worker]] w fun e w' => e = .returned (.string (textE x)) ∧ Below w.heap.size w w' := by
  obtain ⟨kd, id, t, k⟩ := x
  obtain ⟨V, hV⟩ : ∃ V, V = w.alloc (.cells #[.int .i64 kd, .int .i64 id, .int .i64 t, .int .i64 k] 31) := ⟨_, rfl⟩
  have hb0 : Below w.heap.size w V := by rw [hV]; exact bAlloc (Below.refl _ _) _
  have HBV := hid hb0
  have HTV := hid (hT.below hb0)
  have HZ := hid (show V.heap[w.heap.size]? = some (.cells #[.int .i64 kd, .int .i64 id, .int .i64 t, .int .i64 k] 31 (0, 0)) by rw [hV]; exact heap_at rfl)
  have HS := hid (fun (u : World) (h : Below V.heap.size V u) => (show u.cell? ⟨w.heap.size, 0, none⟩ = some (.int .i64 kd) ∧ u.cell? ⟨w.heap.size, 1, none⟩ = some (.int .i64 id) ∧ u.cell? ⟨w.heap.size, 2, none⟩ = some (.int .i64 t) ∧ u.cell? ⟨w.heap.size, 3, none⟩ = some (.int .i64 k) from by
    obtain ⟨y0, _, _⟩ := cells_of_block ((h.block (w.heap.size) (Array.getElem?_eq_some_iff.1 HZ.out).1).trans HZ.out)
    exact ⟨y0 0 _ rfl, y0 1 _ rfl, y0 2 _ rfl, y0 3 _ rfl⟩))
  obtain ⟨x0, x1, x2, x3⟩ := HS.out V (Below.refl _ _)
  have HX := hid hx
  have T0 := hid (Below.refl V.heap.size V).drew
  have q0 := HS.out V.drew T0.out
  have hEq := hV.symm
  have HE := hid (fun (wd : ByteArray) (hw : wordE kd = wd) => show textE ⟨kd, id, t, k⟩ = ⟨(Lib.join ([wd, numS id, numS t, numS k].map (·.data.toList)) (⟨#[32]⟩ : ByteArray).data.toList).toArray⟩ by unfold textE; rw [hw])
  have HL := hid (show (Lib.join ([wordE kd, numS id, numS t, numS k].map (·.data.toList)) (⟨#[32]⟩ : ByteArray).data.toList).length ≤ 140737488355328 from by
    have a0 := wordE_size kd
    have a1 := numS_size id hx.j0 hx.j1
    have a2 := numS_size t hx.t0 hx.t1
    have a3 := numS_size k hx.w0 hx.w1
    have e0 : (wordE kd).data.toList.length = (wordE kd).size := by simp
    have e1 : (numS id).data.toList.length = (numS id).size := by simp
    have e2 : (numS t).data.toList.length = (numS t).size := by simp
    have e3 : (numS k).data.toList.length = (numS k).size := by simp
    simp only [Lib.join, List.map_cons, List.map_nil, List.intercalate, List.intersperse, List.flatten_cons, List.flatten_nil, List.length_append, List.length_nil]
    rw [e0, e1, e2, e3]
    have e4 : (⟨#[32]⟩ : ByteArray).data.toList.length = 1 := rfl
    rw [e4]
    omega)
  clear hV hx hb0 hT
  by_cases hk1 : kd = 1
  · have HW := hid (show wordE kd = ⟨#[97, 99, 99, 101, 112, 116]⟩ by rw [hk1]; rfl)
    have b1 : (kd == 1) = true := by rw [hk1]; decide
    have HKD := hid hk1
    clear hk1
    go_enter Tryz.func15, Tryz.ntmps15
    go_wp2_with fail
    refine wp_region_held_drew (S := fun w' => w'.cell? ⟨w.heap.size, 0, none⟩ = some (.int .i64 kd) ∧ w'.cell? ⟨w.heap.size, 1, none⟩ = some (.int .i64 id) ∧ w'.cell? ⟨w.heap.size, 2, none⟩ = some (.int .i64 t) ∧ w'.cell? ⟨w.heap.size, 3, none⟩ = some (.int .i64 k)) (by kernel_rfl) q0 (fun hHeld => ?_)
    refine anyH_take 0 (v := ?_) rfl (by kernel_rfl) (by kernel_rfl) (by kernel_rfl) (fun _ _ _ h => h) (by rfl) hHeld ?_ ?_
    rotate_left
    · (intro w hSw; (try dsimp only at hSw); go_split_ands; go_simp; try with_reducible rfl)
    (try simp only [Act.put, List.setIfInBounds_toArray, List.set_cons_zero, List.set_cons_succ])
    refine anyH_take 1 (v := ?_) rfl (by kernel_rfl) (by kernel_rfl) (by kernel_rfl) (fun _ _ _ h => h) (by rfl) hHeld ?_ ?_
    rotate_left
    · (intro w hSw; (try dsimp only at hSw); go_split_ands; go_simp; try with_reducible rfl)
    (try simp only [Act.put, List.setIfInBounds_toArray, List.set_cons_zero, List.set_cons_succ])
    refine anyH_take 2 (v := ?_) rfl (by kernel_rfl) (by kernel_rfl) (by kernel_rfl) (fun _ _ _ h => h) (by rfl) hHeld ?_ ?_
    rotate_left
    · (intro w hSw; (try dsimp only at hSw); go_split_ands; go_simp; try with_reducible rfl)
    (try simp only [Act.put, List.setIfInBounds_toArray, List.set_cons_zero, List.set_cons_succ])
    refine anyH_take 4 (v := ?_) rfl (by kernel_rfl) (by kernel_rfl) (by kernel_rfl) (fun _ _ _ h => h) (by rfl) hHeld ?_ ?_
    rotate_left
    · (intro w hSw; (try dsimp only at hSw); go_split_ands; go_simp; try with_reducible rfl)
    (try simp only [Act.put, List.setIfInBounds_toArray, List.set_cons_zero, List.set_cons_succ])
    refine anyH_take 5 (v := ?_) rfl (by kernel_rfl) (by kernel_rfl) (by kernel_rfl) (fun _ _ _ h => h) (by rfl) hHeld ?_ ?_
    rotate_left
    · (intro w hSw; (try dsimp only at hSw); go_split_ands; go_simp; try with_reducible rfl)
    (try simp only [Act.put, List.setIfInBounds_toArray, List.set_cons_zero, List.set_cons_succ])
    refine anyH_take 7 (v := ?_) rfl (by kernel_rfl) (by kernel_rfl) (by kernel_rfl) (fun _ _ _ h => h) (by rfl) hHeld ?_ ?_
    rotate_left
    · (intro w hSw; (try dsimp only at hSw); go_split_ands; go_simp; try with_reducible rfl)
    (try simp only [Act.put, List.setIfInBounds_toArray, List.set_cons_zero, List.set_cons_succ])
    refine anyH_take 8 (v := ?_) rfl (by kernel_rfl) (by kernel_rfl) (by kernel_rfl) (fun _ _ _ h => h) (by rfl) hHeld ?_ ?_
    rotate_left
    · (intro w hSw; (try dsimp only at hSw); go_split_ands; go_simp; try with_reducible rfl)
    (try simp only [Act.put, List.setIfInBounds_toArray, List.set_cons_zero, List.set_cons_succ])
    refine anyH_one 3 rfl (by kernel_rfl) (fun K hK => ?_)
    go_simp
    refine (cnumber_calls id V.drew HX.out.j0 HX.out.j1 (HTV.out.below T0.out)).mono ?_
    rintro e w1 ⟨rfl, hb⟩
    have T1 := hid (bThen T0.out hb)
    clear hb
    go_simp
    refine hK.out _ _ (HS.out _ T1.out) (fun hHeld => ?_)
    clear hK K
    (try simp only [Act.put, List.setIfInBounds_toArray, List.set_cons_zero, List.set_cons_succ])
    refine anyH_one 6 rfl (by kernel_rfl) (fun K hK => ?_)
    go_simp
    refine (cnumber_calls t w1 HX.out.t0 HX.out.t1 (HTV.out.below T1.out)).mono ?_
    rintro e w2 ⟨rfl, hb⟩
    have T2 := hid (bThen T1.out hb)
    clear hb
    go_simp
    refine hK.out _ _ (HS.out _ T2.out) (fun hHeld => ?_)
    clear hK K
    (try simp only [Act.put, List.setIfInBounds_toArray, List.set_cons_zero, List.set_cons_succ])
    refine anyH_one 9 rfl (by kernel_rfl) (fun K hK => ?_)
    go_simp
    refine (cnumber_calls k w2 HX.out.w0 HX.out.w1 (HTV.out.below T2.out)).mono ?_
    rintro e w3 ⟨rfl, hb⟩
    have T3 := hid (bThen T2.out hb)
    clear hb
    go_simp
    refine hK.out _ _ (HS.out _ T3.out) (fun hHeld => ?_)
    clear hK K
    (try simp only [Act.put, List.setIfInBounds_toArray, List.set_cons_zero, List.set_cons_succ])
    refine anyH_one 10 rfl (by kernel_rfl) (fun K hK => ?_)
    go_simp
    obtain ⟨y, hy⟩ : ∃ y, y = w3.alloc (.cells #[.string ⟨#[97, 99, 99, 101, 112, 116]⟩, .string (numS id), .string (numS t), .string (numS k)] 9) := ⟨_, rfl⟩
    rw [← hy]
    have T4 := hid (bThen T3.out (show Below w3.heap.size w3 y by rw [hy]; exact bAlloc (Below.refl _ _) _))
    have HY := hid (show y.heap[w3.heap.size]? = some (.cells ([⟨#[97, 99, 99, 101, 112, 116]⟩, numS id, numS t, numS k].map Value.string).toArray 9 (0, 0)) by rw [hy]; exact heap_at rfl)
    clear hy
    refine hK.out _ _ (HS.out _ T4.out) (fun hHeld => ?_)
    clear hK K
    (try simp only [Act.put, List.setIfInBounds_toArray, List.set_cons_zero, List.set_cons_succ])
    refine anyH_one 11 rfl (by kernel_rfl) (fun K hK => ?_)
    go_simp
    refine (Tryz.strings_Join w3.heap.size 0 4 [⟨#[97, 99, 99, 101, 112, 116]⟩, numS id, numS t, numS k] ⟨#[32]⟩ y (str_cells HY.out) (Array.getElem?_eq_some_iff.1 HY.out).1 (by simp) (Nat.le_refl _) (by rw [← HW.out]; exact HL.out)).mono ?_
    rintro e w5 ⟨rfl, hb⟩
    have T5 := hid (bThen T4.out hb)
    clear hb
    go_simp
    refine hK.out _ _ (HS.out _ T5.out) (fun hHeld => ?_)
    clear hK K
    (try simp only [Act.put, List.setIfInBounds_toArray, List.set_cons_zero, List.set_cons_succ])
    refine anyH_take 12 (v := ?_) rfl (by kernel_rfl) (by kernel_rfl) (by kernel_rfl) (fun _ _ _ h => h) (by rfl) hHeld ?_ ?_
    rotate_left
    · (intro w hSw; (try dsimp only at hSw); go_split_ands; go_simp; try with_reducible rfl)
    (try simp only [Act.put, List.setIfInBounds_toArray, List.set_cons_zero, List.set_cons_succ])
    refine wpAnyH_done (by kernel_rfl) ?_ _
    go_wp2
    go_ret
    rw [HE.out _ HW.out]
    exact ⟨rfl, bThen HBV.out T5.out⟩
  have b1 : (kd == 1) = false := beq_false_of_ne hk1
  by_cases hk2 : kd = 2
  · have HW := hid (show wordE kd = ⟨#[108, 97, 117, 110, 99, 104]⟩ by rw [hk2]; rfl)
    have b2 : (kd == 2) = true := by rw [hk2]; decide
    have HKD := hid hk2
    clear hk2
    go_enter Tryz.func15, Tryz.ntmps15
    go_wp2_with fail
    refine wp_region_held_drew (S := fun w' => w'.cell? ⟨w.heap.size, 0, none⟩ = some (.int .i64 kd) ∧ w'.cell? ⟨w.heap.size, 1, none⟩ = some (.int .i64 id) ∧ w'.cell? ⟨w.heap.size, 2, none⟩ = some (.int .i64 t) ∧ w'.cell? ⟨w.heap.size, 3, none⟩ = some (.int .i64 k)) (by kernel_rfl) q0 (fun hHeld => ?_)
    refine anyH_take 0 (v := ?_) rfl (by kernel_rfl) (by kernel_rfl) (by kernel_rfl) (fun _ _ _ h => h) (by rfl) hHeld ?_ ?_
    rotate_left
    · (intro w hSw; (try dsimp only at hSw); go_split_ands; go_simp; try with_reducible rfl)
    (try simp only [Act.put, List.setIfInBounds_toArray, List.set_cons_zero, List.set_cons_succ])
    refine anyH_take 1 (v := ?_) rfl (by kernel_rfl) (by kernel_rfl) (by kernel_rfl) (fun _ _ _ h => h) (by rfl) hHeld ?_ ?_
    rotate_left
    · (intro w hSw; (try dsimp only at hSw); go_split_ands; go_simp; try with_reducible rfl)
    (try simp only [Act.put, List.setIfInBounds_toArray, List.set_cons_zero, List.set_cons_succ])
    refine anyH_take 2 (v := ?_) rfl (by kernel_rfl) (by kernel_rfl) (by kernel_rfl) (fun _ _ _ h => h) (by rfl) hHeld ?_ ?_
    rotate_left
    · (intro w hSw; (try dsimp only at hSw); go_split_ands; go_simp; try with_reducible rfl)
    (try simp only [Act.put, List.setIfInBounds_toArray, List.set_cons_zero, List.set_cons_succ])
    refine anyH_take 4 (v := ?_) rfl (by kernel_rfl) (by kernel_rfl) (by kernel_rfl) (fun _ _ _ h => h) (by rfl) hHeld ?_ ?_
    rotate_left
    · (intro w hSw; (try dsimp only at hSw); go_split_ands; go_simp; try with_reducible rfl)
    (try simp only [Act.put, List.setIfInBounds_toArray, List.set_cons_zero, List.set_cons_succ])
    refine anyH_take 5 (v := ?_) rfl (by kernel_rfl) (by kernel_rfl) (by kernel_rfl) (fun _ _ _ h => h) (by rfl) hHeld ?_ ?_
    rotate_left
    · (intro w hSw; (try dsimp only at hSw); go_split_ands; go_simp; try with_reducible rfl)
    (try simp only [Act.put, List.setIfInBounds_toArray, List.set_cons_zero, List.set_cons_succ])
    refine anyH_take 7 (v := ?_) rfl (by kernel_rfl) (by kernel_rfl) (by kernel_rfl) (fun _ _ _ h => h) (by rfl) hHeld ?_ ?_
    rotate_left
    · (intro w hSw; (try dsimp only at hSw); go_split_ands; go_simp; try with_reducible rfl)
    (try simp only [Act.put, List.setIfInBounds_toArray, List.set_cons_zero, List.set_cons_succ])
    refine anyH_take 8 (v := ?_) rfl (by kernel_rfl) (by kernel_rfl) (by kernel_rfl) (fun _ _ _ h => h) (by rfl) hHeld ?_ ?_
    rotate_left
    · (intro w hSw; (try dsimp only at hSw); go_split_ands; go_simp; try with_reducible rfl)
    (try simp only [Act.put, List.setIfInBounds_toArray, List.set_cons_zero, List.set_cons_succ])
    refine anyH_one 3 rfl (by kernel_rfl) (fun K hK => ?_)
    go_simp
    refine (cnumber_calls id V.drew HX.out.j0 HX.out.j1 (HTV.out.below T0.out)).mono ?_
    rintro e w1 ⟨rfl, hb⟩
    have T1 := hid (bThen T0.out hb)
    clear hb
    go_simp
    refine hK.out _ _ (HS.out _ T1.out) (fun hHeld => ?_)
    clear hK K
    (try simp only [Act.put, List.setIfInBounds_toArray, List.set_cons_zero, List.set_cons_succ])
    refine anyH_one 6 rfl (by kernel_rfl) (fun K hK => ?_)
    go_simp
    refine (cnumber_calls t w1 HX.out.t0 HX.out.t1 (HTV.out.below T1.out)).mono ?_
    rintro e w2 ⟨rfl, hb⟩
    have T2 := hid (bThen T1.out hb)
    clear hb
    go_simp
    refine hK.out _ _ (HS.out _ T2.out) (fun hHeld => ?_)
    clear hK K
    (try simp only [Act.put, List.setIfInBounds_toArray, List.set_cons_zero, List.set_cons_succ])
    refine anyH_one 9 rfl (by kernel_rfl) (fun K hK => ?_)
    go_simp
    refine (cnumber_calls k w2 HX.out.w0 HX.out.w1 (HTV.out.below T2.out)).mono ?_
    rintro e w3 ⟨rfl, hb⟩
    have T3 := hid (bThen T2.out hb)
    clear hb
    go_simp
    refine hK.out _ _ (HS.out _ T3.out) (fun hHeld => ?_)
    clear hK K
    (try simp only [Act.put, List.setIfInBounds_toArray, List.set_cons_zero, List.set_cons_succ])
    refine anyH_one 10 rfl (by kernel_rfl) (fun K hK => ?_)
    go_simp
    obtain ⟨y, hy⟩ : ∃ y, y = w3.alloc (.cells #[.string ⟨#[108, 97, 117, 110, 99, 104]⟩, .string (numS id), .string (numS t), .string (numS k)] 9) := ⟨_, rfl⟩
    rw [← hy]
    have T4 := hid (bThen T3.out (show Below w3.heap.size w3 y by rw [hy]; exact bAlloc (Below.refl _ _) _))
    have HY := hid (show y.heap[w3.heap.size]? = some (.cells ([⟨#[108, 97, 117, 110, 99, 104]⟩, numS id, numS t, numS k].map Value.string).toArray 9 (0, 0)) by rw [hy]; exact heap_at rfl)
    clear hy
    refine hK.out _ _ (HS.out _ T4.out) (fun hHeld => ?_)
    clear hK K
    (try simp only [Act.put, List.setIfInBounds_toArray, List.set_cons_zero, List.set_cons_succ])
    refine anyH_one 11 rfl (by kernel_rfl) (fun K hK => ?_)
    go_simp
    refine (Tryz.strings_Join w3.heap.size 0 4 [⟨#[108, 97, 117, 110, 99, 104]⟩, numS id, numS t, numS k] ⟨#[32]⟩ y (str_cells HY.out) (Array.getElem?_eq_some_iff.1 HY.out).1 (by simp) (Nat.le_refl _) (by rw [← HW.out]; exact HL.out)).mono ?_
    rintro e w5 ⟨rfl, hb⟩
    have T5 := hid (bThen T4.out hb)
    clear hb
    go_simp
    refine hK.out _ _ (HS.out _ T5.out) (fun hHeld => ?_)
    clear hK K
    (try simp only [Act.put, List.setIfInBounds_toArray, List.set_cons_zero, List.set_cons_succ])
    refine anyH_take 12 (v := ?_) rfl (by kernel_rfl) (by kernel_rfl) (by kernel_rfl) (fun _ _ _ h => h) (by rfl) hHeld ?_ ?_
    rotate_left
    · (intro w hSw; (try dsimp only at hSw); go_split_ands; go_simp; try with_reducible rfl)
    (try simp only [Act.put, List.setIfInBounds_toArray, List.set_cons_zero, List.set_cons_succ])
    refine wpAnyH_done (by kernel_rfl) ?_ _
    go_wp2
    go_ret
    rw [HE.out _ HW.out]
    exact ⟨rfl, bThen HBV.out T5.out⟩
  have b2 : (kd == 2) = false := beq_false_of_ne hk2
  by_cases hk3 : kd = 3
  · have HW := hid (show wordE kd = ⟨#[102, 105, 110, 105, 115, 104]⟩ by rw [hk3]; rfl)
    have b3 : (kd == 3) = true := by rw [hk3]; decide
    have HKD := hid hk3
    clear hk3
    go_enter Tryz.func15, Tryz.ntmps15
    go_wp2_with fail
    refine wp_region_held_drew (S := fun w' => w'.cell? ⟨w.heap.size, 0, none⟩ = some (.int .i64 kd) ∧ w'.cell? ⟨w.heap.size, 1, none⟩ = some (.int .i64 id) ∧ w'.cell? ⟨w.heap.size, 2, none⟩ = some (.int .i64 t) ∧ w'.cell? ⟨w.heap.size, 3, none⟩ = some (.int .i64 k)) (by kernel_rfl) q0 (fun hHeld => ?_)
    refine anyH_take 0 (v := ?_) rfl (by kernel_rfl) (by kernel_rfl) (by kernel_rfl) (fun _ _ _ h => h) (by rfl) hHeld ?_ ?_
    rotate_left
    · (intro w hSw; (try dsimp only at hSw); go_split_ands; go_simp; try with_reducible rfl)
    (try simp only [Act.put, List.setIfInBounds_toArray, List.set_cons_zero, List.set_cons_succ])
    refine anyH_take 1 (v := ?_) rfl (by kernel_rfl) (by kernel_rfl) (by kernel_rfl) (fun _ _ _ h => h) (by rfl) hHeld ?_ ?_
    rotate_left
    · (intro w hSw; (try dsimp only at hSw); go_split_ands; go_simp; try with_reducible rfl)
    (try simp only [Act.put, List.setIfInBounds_toArray, List.set_cons_zero, List.set_cons_succ])
    refine anyH_take 2 (v := ?_) rfl (by kernel_rfl) (by kernel_rfl) (by kernel_rfl) (fun _ _ _ h => h) (by rfl) hHeld ?_ ?_
    rotate_left
    · (intro w hSw; (try dsimp only at hSw); go_split_ands; go_simp; try with_reducible rfl)
    (try simp only [Act.put, List.setIfInBounds_toArray, List.set_cons_zero, List.set_cons_succ])
    refine anyH_take 4 (v := ?_) rfl (by kernel_rfl) (by kernel_rfl) (by kernel_rfl) (fun _ _ _ h => h) (by rfl) hHeld ?_ ?_
    rotate_left
    · (intro w hSw; (try dsimp only at hSw); go_split_ands; go_simp; try with_reducible rfl)
    (try simp only [Act.put, List.setIfInBounds_toArray, List.set_cons_zero, List.set_cons_succ])
    refine anyH_take 5 (v := ?_) rfl (by kernel_rfl) (by kernel_rfl) (by kernel_rfl) (fun _ _ _ h => h) (by rfl) hHeld ?_ ?_
    rotate_left
    · (intro w hSw; (try dsimp only at hSw); go_split_ands; go_simp; try with_reducible rfl)
    (try simp only [Act.put, List.setIfInBounds_toArray, List.set_cons_zero, List.set_cons_succ])
    refine anyH_take 7 (v := ?_) rfl (by kernel_rfl) (by kernel_rfl) (by kernel_rfl) (fun _ _ _ h => h) (by rfl) hHeld ?_ ?_
    rotate_left
    · (intro w hSw; (try dsimp only at hSw); go_split_ands; go_simp; try with_reducible rfl)
    (try simp only [Act.put, List.setIfInBounds_toArray, List.set_cons_zero, List.set_cons_succ])
    refine anyH_take 8 (v := ?_) rfl (by kernel_rfl) (by kernel_rfl) (by kernel_rfl) (fun _ _ _ h => h) (by rfl) hHeld ?_ ?_
    rotate_left
    · (intro w hSw; (try dsimp only at hSw); go_split_ands; go_simp; try with_reducible rfl)
    (try simp only [Act.put, List.setIfInBounds_toArray, List.set_cons_zero, List.set_cons_succ])
    refine anyH_one 3 rfl (by kernel_rfl) (fun K hK => ?_)
    go_simp
    refine (cnumber_calls id V.drew HX.out.j0 HX.out.j1 (HTV.out.below T0.out)).mono ?_
    rintro e w1 ⟨rfl, hb⟩
    have T1 := hid (bThen T0.out hb)
    clear hb
    go_simp
    refine hK.out _ _ (HS.out _ T1.out) (fun hHeld => ?_)
    clear hK K
    (try simp only [Act.put, List.setIfInBounds_toArray, List.set_cons_zero, List.set_cons_succ])
    refine anyH_one 6 rfl (by kernel_rfl) (fun K hK => ?_)
    go_simp
    refine (cnumber_calls t w1 HX.out.t0 HX.out.t1 (HTV.out.below T1.out)).mono ?_
    rintro e w2 ⟨rfl, hb⟩
    have T2 := hid (bThen T1.out hb)
    clear hb
    go_simp
    refine hK.out _ _ (HS.out _ T2.out) (fun hHeld => ?_)
    clear hK K
    (try simp only [Act.put, List.setIfInBounds_toArray, List.set_cons_zero, List.set_cons_succ])
    refine anyH_one 9 rfl (by kernel_rfl) (fun K hK => ?_)
    go_simp
    refine (cnumber_calls k w2 HX.out.w0 HX.out.w1 (HTV.out.below T2.out)).mono ?_
    rintro e w3 ⟨rfl, hb⟩
    have T3 := hid (bThen T2.out hb)
    clear hb
    go_simp
    refine hK.out _ _ (HS.out _ T3.out) (fun hHeld => ?_)
    clear hK K
    (try simp only [Act.put, List.setIfInBounds_toArray, List.set_cons_zero, List.set_cons_succ])
    refine anyH_one 10 rfl (by kernel_rfl) (fun K hK => ?_)
    go_simp
    obtain ⟨y, hy⟩ : ∃ y, y = w3.alloc (.cells #[.string ⟨#[102, 105, 110, 105, 115, 104]⟩, .string (numS id), .string (numS t), .string (numS k)] 9) := ⟨_, rfl⟩
    rw [← hy]
    have T4 := hid (bThen T3.out (show Below w3.heap.size w3 y by rw [hy]; exact bAlloc (Below.refl _ _) _))
    have HY := hid (show y.heap[w3.heap.size]? = some (.cells ([⟨#[102, 105, 110, 105, 115, 104]⟩, numS id, numS t, numS k].map Value.string).toArray 9 (0, 0)) by rw [hy]; exact heap_at rfl)
    clear hy
    refine hK.out _ _ (HS.out _ T4.out) (fun hHeld => ?_)
    clear hK K
    (try simp only [Act.put, List.setIfInBounds_toArray, List.set_cons_zero, List.set_cons_succ])
    refine anyH_one 11 rfl (by kernel_rfl) (fun K hK => ?_)
    go_simp
    refine (Tryz.strings_Join w3.heap.size 0 4 [⟨#[102, 105, 110, 105, 115, 104]⟩, numS id, numS t, numS k] ⟨#[32]⟩ y (str_cells HY.out) (Array.getElem?_eq_some_iff.1 HY.out).1 (by simp) (Nat.le_refl _) (by rw [← HW.out]; exact HL.out)).mono ?_
    rintro e w5 ⟨rfl, hb⟩
    have T5 := hid (bThen T4.out hb)
    clear hb
    go_simp
    refine hK.out _ _ (HS.out _ T5.out) (fun hHeld => ?_)
    clear hK K
    (try simp only [Act.put, List.setIfInBounds_toArray, List.set_cons_zero, List.set_cons_succ])
    refine anyH_take 12 (v := ?_) rfl (by kernel_rfl) (by kernel_rfl) (by kernel_rfl) (fun _ _ _ h => h) (by rfl) hHeld ?_ ?_
    rotate_left
    · (intro w hSw; (try dsimp only at hSw); go_split_ands; go_simp; try with_reducible rfl)
    (try simp only [Act.put, List.setIfInBounds_toArray, List.set_cons_zero, List.set_cons_succ])
    refine wpAnyH_done (by kernel_rfl) ?_ _
    go_wp2
    go_ret
    rw [HE.out _ HW.out]
    exact ⟨rfl, bThen HBV.out T5.out⟩
  have b3 : (kd == 3) = false := beq_false_of_ne hk3
  have HW := hid (show wordE kd = ⟨#[101, 118, 101, 110, 116]⟩ by unfold wordE; rw [if_neg hk1, if_neg hk2, if_neg hk3])
  clear hk1 hk2 hk3
  go_enter Tryz.func15, Tryz.ntmps15
  go_wp2_with fail
  refine wp_region_held_drew (S := fun w' => w'.cell? ⟨w.heap.size, 0, none⟩ = some (.int .i64 kd) ∧ w'.cell? ⟨w.heap.size, 1, none⟩ = some (.int .i64 id) ∧ w'.cell? ⟨w.heap.size, 2, none⟩ = some (.int .i64 t) ∧ w'.cell? ⟨w.heap.size, 3, none⟩ = some (.int .i64 k)) (by kernel_rfl) q0 (fun hHeld => ?_)
  refine anyH_take 0 (v := ?_) rfl (by kernel_rfl) (by kernel_rfl) (by kernel_rfl) (fun _ _ _ h => h) (by rfl) hHeld ?_ ?_
  rotate_left
  · (intro w hSw; (try dsimp only at hSw); go_split_ands; go_simp; try with_reducible rfl)
  (try simp only [Act.put, List.setIfInBounds_toArray, List.set_cons_zero, List.set_cons_succ])
  refine anyH_take 1 (v := ?_) rfl (by kernel_rfl) (by kernel_rfl) (by kernel_rfl) (fun _ _ _ h => h) (by rfl) hHeld ?_ ?_
  rotate_left
  · (intro w hSw; (try dsimp only at hSw); go_split_ands; go_simp; try with_reducible rfl)
  (try simp only [Act.put, List.setIfInBounds_toArray, List.set_cons_zero, List.set_cons_succ])
  refine anyH_take 2 (v := ?_) rfl (by kernel_rfl) (by kernel_rfl) (by kernel_rfl) (fun _ _ _ h => h) (by rfl) hHeld ?_ ?_
  rotate_left
  · (intro w hSw; (try dsimp only at hSw); go_split_ands; go_simp; try with_reducible rfl)
  (try simp only [Act.put, List.setIfInBounds_toArray, List.set_cons_zero, List.set_cons_succ])
  refine anyH_take 4 (v := ?_) rfl (by kernel_rfl) (by kernel_rfl) (by kernel_rfl) (fun _ _ _ h => h) (by rfl) hHeld ?_ ?_
  rotate_left
  · (intro w hSw; (try dsimp only at hSw); go_split_ands; go_simp; try with_reducible rfl)
  (try simp only [Act.put, List.setIfInBounds_toArray, List.set_cons_zero, List.set_cons_succ])
  refine anyH_take 5 (v := ?_) rfl (by kernel_rfl) (by kernel_rfl) (by kernel_rfl) (fun _ _ _ h => h) (by rfl) hHeld ?_ ?_
  rotate_left
  · (intro w hSw; (try dsimp only at hSw); go_split_ands; go_simp; try with_reducible rfl)
  (try simp only [Act.put, List.setIfInBounds_toArray, List.set_cons_zero, List.set_cons_succ])
  refine anyH_take 7 (v := ?_) rfl (by kernel_rfl) (by kernel_rfl) (by kernel_rfl) (fun _ _ _ h => h) (by rfl) hHeld ?_ ?_
  rotate_left
  · (intro w hSw; (try dsimp only at hSw); go_split_ands; go_simp; try with_reducible rfl)
  (try simp only [Act.put, List.setIfInBounds_toArray, List.set_cons_zero, List.set_cons_succ])
  refine anyH_take 8 (v := ?_) rfl (by kernel_rfl) (by kernel_rfl) (by kernel_rfl) (fun _ _ _ h => h) (by rfl) hHeld ?_ ?_
  rotate_left
  · (intro w hSw; (try dsimp only at hSw); go_split_ands; go_simp; try with_reducible rfl)
  (try simp only [Act.put, List.setIfInBounds_toArray, List.set_cons_zero, List.set_cons_succ])
  refine anyH_one 3 rfl (by kernel_rfl) (fun K hK => ?_)
  go_simp
  refine (cnumber_calls id V.drew HX.out.j0 HX.out.j1 (HTV.out.below T0.out)).mono ?_
  rintro e w1 ⟨rfl, hb⟩
  have T1 := hid (bThen T0.out hb)
  clear hb
  go_simp
  refine hK.out _ _ (HS.out _ T1.out) (fun hHeld => ?_)
  clear hK K
  (try simp only [Act.put, List.setIfInBounds_toArray, List.set_cons_zero, List.set_cons_succ])
  refine anyH_one 6 rfl (by kernel_rfl) (fun K hK => ?_)
  go_simp
  refine (cnumber_calls t w1 HX.out.t0 HX.out.t1 (HTV.out.below T1.out)).mono ?_
  rintro e w2 ⟨rfl, hb⟩
  have T2 := hid (bThen T1.out hb)
  clear hb
  go_simp
  refine hK.out _ _ (HS.out _ T2.out) (fun hHeld => ?_)
  clear hK K
  (try simp only [Act.put, List.setIfInBounds_toArray, List.set_cons_zero, List.set_cons_succ])
  refine anyH_one 9 rfl (by kernel_rfl) (fun K hK => ?_)
  go_simp
  refine (cnumber_calls k w2 HX.out.w0 HX.out.w1 (HTV.out.below T2.out)).mono ?_
  rintro e w3 ⟨rfl, hb⟩
  have T3 := hid (bThen T2.out hb)
  clear hb
  go_simp
  refine hK.out _ _ (HS.out _ T3.out) (fun hHeld => ?_)
  clear hK K
  (try simp only [Act.put, List.setIfInBounds_toArray, List.set_cons_zero, List.set_cons_succ])
  refine anyH_one 10 rfl (by kernel_rfl) (fun K hK => ?_)
  go_simp
  obtain ⟨y, hy⟩ : ∃ y, y = w3.alloc (.cells #[.string ⟨#[101, 118, 101, 110, 116]⟩, .string (numS id), .string (numS t), .string (numS k)] 9) := ⟨_, rfl⟩
  rw [← hy]
  have T4 := hid (bThen T3.out (show Below w3.heap.size w3 y by rw [hy]; exact bAlloc (Below.refl _ _) _))
  have HY := hid (show y.heap[w3.heap.size]? = some (.cells ([⟨#[101, 118, 101, 110, 116]⟩, numS id, numS t, numS k].map Value.string).toArray 9 (0, 0)) by rw [hy]; exact heap_at rfl)
  clear hy
  refine hK.out _ _ (HS.out _ T4.out) (fun hHeld => ?_)
  clear hK K
  (try simp only [Act.put, List.setIfInBounds_toArray, List.set_cons_zero, List.set_cons_succ])
  refine anyH_one 11 rfl (by kernel_rfl) (fun K hK => ?_)
  go_simp
  refine (Tryz.strings_Join w3.heap.size 0 4 [⟨#[101, 118, 101, 110, 116]⟩, numS id, numS t, numS k] ⟨#[32]⟩ y (str_cells HY.out) (Array.getElem?_eq_some_iff.1 HY.out).1 (by simp) (Nat.le_refl _) (by rw [← HW.out]; exact HL.out)).mono ?_
  rintro e w5 ⟨rfl, hb⟩
  have T5 := hid (bThen T4.out hb)
  clear hb
  go_simp
  refine hK.out _ _ (HS.out _ T5.out) (fun hHeld => ?_)
  clear hK K
  (try simp only [Act.put, List.setIfInBounds_toArray, List.set_cons_zero, List.set_cons_succ])
  refine anyH_take 12 (v := ?_) rfl (by kernel_rfl) (by kernel_rfl) (by kernel_rfl) (fun _ _ _ h => h) (by rfl) hHeld ?_ ?_
  rotate_left
  · (intro w hSw; (try dsimp only at hSw); go_split_ands; go_simp; try with_reducible rfl)
  (try simp only [Act.put, List.setIfInBounds_toArray, List.set_cons_zero, List.set_cons_succ])
  refine wpAnyH_done (by kernel_rfl) ?_ _
  go_wp2
  go_ret
  rw [HE.out _ HW.out]
  exact ⟨rfl, bThen HBV.out T5.out⟩
end Go.Proofs.YtgedkcglkhleoaaGreatDoor
