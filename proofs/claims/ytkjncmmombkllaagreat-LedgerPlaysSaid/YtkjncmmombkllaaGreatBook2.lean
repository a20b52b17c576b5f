/- book.tasks, accepted; siskinref20.Tasks; what a record does to a book (plain). -/
import Derived.Test.YtkjncmmombkllaaGreatBookC
import Derived.Test.YtkjncmmombkllaaGreatRec
import Derived.Test.YtkjncmmombkllaaGreatBase
namespace Go.Proofs.YtkjncmmombkllaaGreat
open Go.RowKit

/-! ### plain -/
def tasksE (E : EntryS) : Nat := min (min E.needs.length E.bound.length) E.done.length
def acceptR (x : RecS) : EntryS := ⟨x.job, x.sched, 1, x.needs, List.replicate x.needs.length 0, List.replicate x.needs.length false⟩
/-- Why a record of a job with an entry is refused (0: it is not). -/
def whyE (E : EntryS) (x : RecS) : Int :=
  if x.kind = 4 then (if x.epoch = E.epoch + 1 then 0 else 12)
  else if (tasksE E : Int) ≤ x.task then 8
  else if x.kind = 2 then (if x.epoch ≠ E.epoch then 12 else if E.bound.getD x.task.toNat 0 ≠ 0 then 13 else 0)
  else if E.bound.getD x.task.toNat 0 = 0 then 1
  else if E.done.getD x.task.toNat false then 9
  else 0
/-- What an entry becomes. -/
def doneE (E : EntryS) (x : RecS) : EntryS :=
  if x.kind = 4 then { E with epoch := x.epoch, sched := x.sched }
  else if x.kind = 2 then { E with bound := E.bound.set x.task.toNat (x.worker + 1) }
  else { E with done := E.done.set x.task.toNat true }
def whyB (b : List EntryS) (x : RecS) : Int :=
  if recOk x = false then 1
  else if x.kind = 1 then (if 0 ≤ placeE b x.job then 9 else if 40 ≤ b.length then 7 else 0)
  else match findE b x.job with
    | none => 8
    | some E => whyE E x
def nextB (b : List EntryS) (x : RecS) : List EntryS :=
  if whyB b x ≠ 0 then []
  else if x.kind = 1 then b ++ [acceptR x]
  else match findE b x.job with
    | none => []
    | some E => b.set (placeE b x.job).toNat (doneE E x)
/-- An entry that records have made. -/
structure EOk (E : EntryS) : Prop where
  ep : 1 ≤ E.epoch ∧ E.epoch ≤ 9
  nl : E.needs.length ≤ 16
  bl : E.bound.length = E.needs.length
  dl : E.done.length = E.needs.length
theorem EOk.tasks {E : EntryS} (h : EOk E) : tasksE E = E.needs.length := by
  unfold tasksE
  have := h.bl
  have := h.dl
  omega
theorem EOk.fits {E : EntryS} (h : EOk E) : Fits E := ⟨by have := h.nl; omega, by have := h.bl; have := h.nl; omega, by have := h.dl; have := h.nl; omega⟩
set_option maxHeartbeats 4000000 in
set_option maxRecDepth 100000 in
theorem btasks_calls (E : EntryS) (EA EB ED : Option Addr) (ea eb ed : Nat) (w : World) :
    Calls Tryz.prog 75 #[.agg #[.int .i64 E.id, .int .i64 E.sched, .int .i64 E.epoch, .slice EA E.needs.length ea, .slice EB E.bound.length eb, .slice ED E.done.length ed]] w fun e w' => e = .returned (.int .i64 (tasksE E : Nat)) ∧ Below w.heap.size w w' := by
  obtain ⟨n1, hn1⟩ : ∃ n, n = E.needs.length := ⟨_, rfl⟩
  obtain ⟨n2, hn2⟩ : ∃ n, n = E.bound.length := ⟨_, rfl⟩
  obtain ⟨n3, hn3⟩ : ∃ n, n = E.done.length := ⟨_, rfl⟩
  have HV := hid (show ((tasksE E : Nat) : Int) = min (n1 : Int) (min (n2 : Int) (n3 : Int)) by unfold tasksE; rw [← hn1, ← hn2, ← hn3]; omega)
  rw [← hn1, ← hn2, ← hn3]
  clear hn1 hn2 hn3
  go_enter Tryz.func75, Tryz.ntmps75
  go_wp2
  go_ret
  rw [HV.out]
  exact ⟨rfl, bAlloc (Below.refl _ _) _⟩
set_option maxHeartbeats 4000000 in
set_option maxRecDepth 100000 in
theorem rtasks20_calls (E : EntryS) (EA EB ED : Option Addr) (ea eb ed : Nat) (w : World) :
    Calls Tryz.prog 78 #[.agg #[.int .i64 E.id, .int .i64 E.sched, .int .i64 E.epoch, .slice EA E.needs.length ea, .slice EB E.bound.length eb, .slice ED E.done.length ed]] w fun e w' => e = .returned (.int .i64 (tasksE E : Nat)) ∧ Below w.heap.size w w' := by
  obtain ⟨n1, hn1⟩ : ∃ n, n = E.needs.length := ⟨_, rfl⟩
  obtain ⟨n2, hn2⟩ : ∃ n, n = E.bound.length := ⟨_, rfl⟩
  obtain ⟨n3, hn3⟩ : ∃ n, n = E.done.length := ⟨_, rfl⟩
  have HV := hid (show tasksE E = min (min n1 n2) n3 by unfold tasksE; rw [hn1, hn2, hn3])
  rw [← hn1, ← hn2, ← hn3]
  clear hn1 hn2 hn3
  by_cases h1 : n2 < n1
  · have h1I : (n2 : Int) < (n1 : Int) := by omega
    by_cases h2 : n3 < n2
    · have h2I : (n3 : Int) < (n2 : Int) := by omega
      have HF := hid (show tasksE E = n3 by rw [HV.out]; omega)
      go_enter Tryz.func78, Tryz.ntmps78
      go_wp2
      go_ret
      rw [HF.out]
      exact ⟨rfl, bAlloc (Below.refl _ _) _⟩
    · have h2I : ¬ (n3 : Int) < (n2 : Int) := by omega
      have HF := hid (show tasksE E = n2 by rw [HV.out]; omega)
      go_enter Tryz.func78, Tryz.ntmps78
      go_wp2
      go_ret
      rw [HF.out]
      exact ⟨rfl, bAlloc (Below.refl _ _) _⟩
  · have h1I : ¬ (n2 : Int) < (n1 : Int) := by omega
    by_cases h2 : n3 < n1
    · have h2I : (n3 : Int) < (n1 : Int) := by omega
      have HF := hid (show tasksE E = n3 by rw [HV.out]; omega)
      go_enter Tryz.func78, Tryz.ntmps78
      go_wp2
      go_ret
      rw [HF.out]
      exact ⟨rfl, bAlloc (Below.refl _ _) _⟩
    · have h2I : ¬ (n3 : Int) < (n1 : Int) := by omega
      have HF := hid (show tasksE E = n1 by rw [HV.out]; omega)
      go_enter Tryz.func78, Tryz.ntmps78
      go_wp2
      go_ret
      rw [HF.out]
      exact ⟨rfl, bAlloc (Below.refl _ _) _⟩
set_option maxHeartbeats 4000000 in
set_option maxRecDepth 100000 in
theorem baccepted_calls (x : RecS) (XA : Option Addr) (xc : Nat) (w : World) (hx : Kd.str.slice.K w Any x.needs [.slice XA x.needs.length xc]) (hl : x.needs.length ≤ 1000) :
    Calls Tryz.prog 54 #[.agg #[.int .i64 x.kind, .int .i64 x.job, .int .i64 x.task, .int .i64 x.worker, .int .i64 x.sched, .int .i64 x.epoch, .slice XA x.needs.length xc]] w fun e w' => ∃ FA FB FD fa fb fd, e = .returned (.agg #[.int .i64 x.job, .int .i64 x.sched, .int .i64 1, .slice FA x.needs.length fa, .slice FB x.needs.length fb, .slice FD x.needs.length fd]) ∧ Kd.entry.K w' (fun k => w.heap.size ≤ k) (acceptR x) [.int .i64 x.job, .int .i64 x.sched, .int .i64 1, .slice FA x.needs.length fa, .slice FB x.needs.length fb, .slice FD x.needs.length fd] ∧ Below w.heap.size w w' := by
  obtain ⟨n, hn⟩ : ∃ n, n = x.needs.length := ⟨_, rfl⟩
  have HN := hid hn
  obtain ⟨V, hV⟩ : ∃ V, V = (w.alloc (.cells #[.int .i64 x.kind, .int .i64 x.job, .int .i64 x.task, .int .i64 x.worker, .int .i64 x.sched, .int .i64 x.epoch, .slice XA n xc] 46)).alloc (.cells #[.int .i64 0, .int .i64 0, .int .i64 0, .slice none 0 0, .slice none 0 0, .slice none 0 0] 55) := ⟨_, rfl⟩
  have hb0 : Below w.heap.size w V := by rw [hV]; exact bAlloc (bAlloc (Below.refl _ _) _) _
  have hz1 : V.heap[w.heap.size]? = some (.cells #[.int .i64 x.kind, .int .i64 x.job, .int .i64 x.task, .int .i64 x.worker, .int .i64 x.sched, .int .i64 x.epoch, .slice XA n xc] 46 (0, 0)) := by rw [hV, Below.heap_alloc _ _ _ (by simp)]; exact heap_at rfl
  have hz3 : V.heap[w.heap.size + 1]? = some (.cells #[.int .i64 0, .int .i64 0, .int .i64 0, .slice none 0 0, .slice none 0 0, .slice none 0 0] 55 (0, 0)) := by rw [hV]; exact heap_at (by simp)
  have HZ1 := hid hz1
  have HZ3 := hid hz3
  have HVS := hid (show V.heap.size = w.heap.size + 2 by rw [hV]; simp)
  have HBV := hid hb0
  have HX := hid (Kd.below hx hb0)
  have hEq := hV.symm
  rw [← hn] at hl HX ⊢
  clear hV hx hb0 hz1 hz3 hn
  have HXB := hid (fun (u : World) (h : Below V.heap.size V u) => (show u.cell? ⟨w.heap.size, 1, none⟩ = some (.int .i64 x.job) ∧ u.cell? ⟨w.heap.size, 4, none⟩ = some (.int .i64 x.sched) ∧ u.cell? ⟨w.heap.size, 6, none⟩ = some (.slice XA n xc) from by
    obtain ⟨y0, _, _⟩ := cells_of_block ((h.block w.heap.size (Array.getElem?_eq_some_iff.1 HZ1.out).1).trans HZ1.out)
    exact ⟨y0 1 _ rfl, y0 4 _ rfl, y0 6 _ rfl⟩))
  obtain ⟨x0, x1, x2⟩ := HXB.out V (Below.refl _ _)
  have hm1 : ∀ W, (Instr.makeSlice 52 (.int .i64 (n : Int)) (.int .i64 (n : Int))).run Tryz.prog W = .ok (.slice (some ⟨W.heap.size, 0, none⟩) n n) (W.alloc (.cells (madeCells #[.int .i64 0] n) 3)) := run_make_i n (by omega)
  have hm2 : ∀ W, (Instr.makeSlice 53 (.int .i64 (n : Int)) (.int .i64 (n : Int))).run Tryz.prog W = .ok (.slice (some ⟨W.heap.size, 0, none⟩) n n) (W.alloc (.cells (madeCells #[.bool false] n) 4)) := run_make_b n (by omega)
  have U0 := hid (Below.refl V.heap.size V).drew
  have q0 := HXB.out V.drew U0.out
  have HL := hid hl
  clear hl
  go_enter Tryz.func54, Tryz.ntmps54
  go_wp2_with fail
  refine wp_region_held_drew (S := fun w' => w'.cell? ⟨w.heap.size, 1, none⟩ = some (.int .i64 x.job) ∧ w'.cell? ⟨w.heap.size, 4, none⟩ = some (.int .i64 x.sched) ∧ w'.cell? ⟨w.heap.size, 6, none⟩ = some (.slice XA n xc)) (by kernel_rfl) q0 (fun hHeld => ?_)
  obtain ⟨y0, hy0⟩ : ∃ y, y = V.drew := ⟨_, rfl⟩
  rw [← hy0] at U0 q0 hHeld ⊢
  clear hy0
  refine anyH_take 0 (v := ?_) rfl (by kernel_rfl) (by kernel_rfl) (by kernel_rfl) (fun _ _ _ h => h) (by rfl) hHeld ?_ ?_
  rotate_left
  · (intro w hSw; (try dsimp only at hSw); go_split_ands; go_simp; try with_reducible rfl)
  (try simp only [Act.put, List.setIfInBounds_toArray, List.set_cons_zero, List.set_cons_succ])
  refine anyH_take 1 (v := ?_) rfl (by kernel_rfl) (by kernel_rfl) (by kernel_rfl) (fun _ _ _ h => h) (by rfl) hHeld ?_ ?_
  rotate_left
  · (intro w hSw; (try dsimp only at hSw); go_split_ands; go_simp; try with_reducible rfl)
  (try simp only [Act.put, List.setIfInBounds_toArray, List.set_cons_zero, List.set_cons_succ])
  refine anyH_take 2 (v := ?_) rfl (by kernel_rfl) (by kernel_rfl) (by kernel_rfl) (fun _ _ _ h => h) (by rfl) hHeld ?_ ?_
  rotate_left
  · (intro w hSw; (try dsimp only at hSw); go_split_ands; go_simp; try with_reducible rfl)
  (try simp only [Act.put, List.setIfInBounds_toArray, List.set_cons_zero, List.set_cons_succ])
  refine anyH_take 3 (v := ?_) rfl (by kernel_rfl) (by kernel_rfl) (by kernel_rfl) (fun _ _ _ h => h) (by rfl) hHeld ?_ ?_
  rotate_left
  · (intro w hSw; (try dsimp only at hSw); go_split_ands; go_simp; try with_reducible rfl)
  (try simp only [Act.put, List.setIfInBounds_toArray, List.set_cons_zero, List.set_cons_succ])
  refine anyH_take 4 (v := ?_) rfl (by kernel_rfl) (by kernel_rfl) (by kernel_rfl) (fun _ _ _ h => h) (by rfl) hHeld ?_ ?_
  rotate_left
  · (intro w hSw; (try dsimp only at hSw); go_split_ands; go_simp; try with_reducible rfl)
  (try simp only [Act.put, List.setIfInBounds_toArray, List.set_cons_zero, List.set_cons_succ])
  refine anyH_take 5 (v := ?_) rfl (by kernel_rfl) (by kernel_rfl) (by kernel_rfl) (fun _ _ _ h => h) (by rfl) hHeld ?_ ?_
  rotate_left
  · (intro w hSw; (try dsimp only at hSw); go_split_ands; go_simp; try with_reducible rfl)
  (try simp only [Act.put, List.setIfInBounds_toArray, List.set_cons_zero, List.set_cons_succ])
  refine anyH_take 7 (v := ?_) rfl (by kernel_rfl) (by kernel_rfl) (by kernel_rfl) (fun _ _ _ h => h) (by rfl) hHeld ?_ ?_
  rotate_left
  · (intro w hSw; (try dsimp only at hSw); go_split_ands; go_simp; try with_reducible rfl)
  (try simp only [Act.put, List.setIfInBounds_toArray, List.set_cons_zero, List.set_cons_succ])
  refine anyH_take 9 (v := ?_) rfl (by kernel_rfl) (by kernel_rfl) (by kernel_rfl) (fun _ _ _ h => h) (by rfl) hHeld ?_ ?_
  rotate_left
  · (intro w hSw; (try dsimp only at hSw); go_split_ands; go_simp; try with_reducible rfl)
  (try simp only [Act.put, List.setIfInBounds_toArray, List.set_cons_zero, List.set_cons_succ])
  refine anyH_three 6 8 10 rfl rfl rfl (by kernel_rfl) (fun K hK => ?_) (fun K hK => ?_) (fun K hK => ?_)
  · go_simp
    have hsc := sclone_calls x.needs XA xc y0 (by rw [← HN.out]; exact Kd.below HX.out U0.out) (by rw [← HN.out]; have := HL.out; omega)
    rw [← HN.out] at hsc
    refine hsc.mono ?_
    clear hsc
    rintro e y1 ⟨F, f, rfl, hK, hb⟩
    have U1 := hid (bThen U0.out hb)
    have z1 : y0.heap.size ≤ y1.heap.size := hb.size
    have F1 := hid (Kd.str.slice.mono (S' := fun j => y0.heap.size ≤ j) (fun j h hl => (show y0.heap.size ≤ j by have : y0.heap.size ≤ j := h; omega)) hK)
    clear hK hb
    go_simp
    refine hK.out _ _ (HXB.out _ U1.out) (fun hHeld => ?_)
    clear hK K
    (try simp only [Act.put, List.setIfInBounds_toArray, List.set_cons_zero, List.set_cons_succ])
    refine anyH_two 8 10 rfl rfl (by kernel_rfl) (fun K hK => ?_) (fun K hK => ?_)
    · go_simp
      obtain ⟨y2, hy⟩ : ∃ y, y = y1.alloc (.cells (madeCells #[.int .i64 0] n) 3) := ⟨_, rfl⟩
      rw [← hy]
      have hb : Below y1.heap.size y1 y2 := by rw [hy]; exact bAlloc (Below.refl _ _) _
      have U2 := hid (bThen U1.out hb)
      have z2 : y1.heap.size ≤ y2.heap.size := hb.size
      have F2 := hid (Kd.below F1.out hb)
      have hz : y2.heap[y1.heap.size]? = some (.cells (madeCells #[.int .i64 0] n) 3 (0, 0)) := by rw [hy]; exact heap_at rfl
      have M2 := hid (show I64.slice.K y2 (fun j => y0.heap.size ≤ j) (List.replicate n 0) [.slice (some ⟨y1.heap.size, 0, none⟩) n n] from K_of_block n n (by simp) hz (show y0.heap.size ≤ y1.heap.size by omega) (cells_rep rfl n) (Nat.le_refl _) (by have := HL.out; simp; omega))
      clear hz hb hy
      refine hK.out _ _ (HXB.out _ U2.out) (fun hHeld => ?_)
      clear hK K
      (try simp only [Act.put, List.setIfInBounds_toArray, List.set_cons_zero, List.set_cons_succ])
      refine anyH_one 10 rfl (by kernel_rfl) (fun K hK => ?_)
      go_simp
      obtain ⟨y3, hy⟩ : ∃ y, y = y2.alloc (.cells (madeCells #[.bool false] n) 4) := ⟨_, rfl⟩
      rw [← hy]
      have hb : Below y2.heap.size y2 y3 := by rw [hy]; exact bAlloc (Below.refl _ _) _
      have U3 := hid (bThen U2.out hb)
      have z3 : y2.heap.size ≤ y3.heap.size := hb.size
      have F3 := hid (Kd.below F2.out hb)
      have M3 := hid (Kd.below M2.out hb)
      have hz : y3.heap[y2.heap.size]? = some (.cells (madeCells #[.bool false] n) 4 (0, 0)) := by rw [hy]; exact heap_at rfl
      have B3 := hid (show Kd.bool.slice.K y3 (fun j => y0.heap.size ≤ j) (List.replicate n false) [.slice (some ⟨y2.heap.size, 0, none⟩) n n] from K_of_block n n (by simp) hz (show y0.heap.size ≤ y2.heap.size by omega) (cells_rep rfl n) (Nat.le_refl _) (by have := HL.out; simp; omega))
      clear hz hb hy
      refine hK.out _ _ (HXB.out _ U3.out) (fun hHeld => ?_)
      clear hK K
      (try simp only [Act.put, List.setIfInBounds_toArray, List.set_cons_zero, List.set_cons_succ])
      refine anyH_take 11 (v := ?_) rfl (by kernel_rfl) (by kernel_rfl) (by kernel_rfl) (fun _ _ _ h => h) (by rfl) hHeld ?_ ?_
      rotate_left
      · (intro w hSw; (try dsimp only at hSw); go_split_ands; go_simp; try with_reducible rfl)
      (try simp only [Act.put, List.setIfInBounds_toArray, List.set_cons_zero, List.set_cons_succ])
      refine anyH_one 12 rfl (by kernel_rfl) (fun K hK => ?_)
      go_simp
      have HT := hid ((U3.out.block (w.heap.size + 1) (by have := HVS.out; omega)).trans HZ3.out)
      obtain ⟨y4, hy, _, T0, T1, T2, T3, T4, T5, TB, TN, _⟩ := set6 HT.out (.int .i64 x.job) (.int .i64 x.sched) (.int .i64 1) (.slice F n f) (.slice (some ⟨y1.heap.size, 0, none⟩) n n) (.slice (some ⟨y2.heap.size, 0, none⟩) n n)
      obtain ⟨p5, g5, l5⟩ := cells_of_block HT.out
      have r0 := p5 0 _ rfl
      have r1 := p5 1 _ rfl
      have r2 := p5 2 _ rfl
      have r3 := p5 3 _ rfl
      have r4 := p5 4 _ rfl
      have r5 := p5 5 _ rfl
      have u0 := g5 0
      have u1 := g5 1
      have u2 := g5 2
      have u3 := g5 3
      have u4 := g5 4
      have u5 := g5 5
      clear p5 g5
      go_simp
      rw [← hy]
      have U4 := hid (show Below w.heap.size w y4 from (bThen HBV.out U3.out).trans (TB.mono (by omega)))
      have F4 := hid (Kd.str.slice.mono (S' := fun k => w.heap.size ≤ k) (fun j h _ => by have := HVS.out; have := U0.out.size; omega) (Kd.str.slice.move (w1 := y4) (fun j h _ => TN j (by have := HVS.out; have := U0.out.size; omega)) F3.out))
      have M4 := hid (I64.slice.mono (S' := fun k => w.heap.size ≤ k) (fun j h _ => by have := HVS.out; have := U0.out.size; omega) (I64.slice.move (w1 := y4) (fun j h _ => TN j (by have := HVS.out; have := U0.out.size; omega)) M3.out))
      have B4 := hid (Kd.bool.slice.mono (S' := fun k => w.heap.size ≤ k) (fun j h _ => by have := HVS.out; have := U0.out.size; omega) (Kd.bool.slice.move (w1 := y4) (fun j h _ => TN j (by have := HVS.out; have := U0.out.size; omega)) B3.out))
      have HE := hid (show Kd.entry.K y4 (fun k => w.heap.size ≤ k) (acceptR x) [.int .i64 x.job, .int .i64 x.sched, .int .i64 1, .slice F n f, .slice (some ⟨y1.heap.size, 0, none⟩) n n, .slice (some ⟨y2.heap.size, 0, none⟩) n n] from by
        have he := entry_of (w := y4) (S := fun k => w.heap.size ≤ k) (acceptR x) (A := F) (a := f) (B := some ⟨y1.heap.size, 0, none⟩) (b := n) (D := some ⟨y2.heap.size, 0, none⟩) (d := n) (by show Kd.str.slice.K _ _ x.needs [.slice F x.needs.length f]; rw [← HN.out]; exact F4.out) (by show I64.slice.K _ _ (List.replicate x.needs.length 0) [.slice _ (List.replicate x.needs.length (0 : Int)).length n]; rw [List.length_replicate, ← HN.out]; exact M4.out) (by show Kd.bool.slice.K _ _ (List.replicate x.needs.length false) [.slice _ (List.replicate x.needs.length false).length n]; rw [List.length_replicate, ← HN.out]; exact B4.out)
        rw [show (acceptR x).needs.length = n from HN.out.symm, show (acceptR x).bound.length = n from (List.length_replicate).trans HN.out.symm, show (acceptR x).done.length = n from (List.length_replicate).trans HN.out.symm] at he
        exact he)
      refine hK.out _ _ (by obtain ⟨g0, _, _⟩ := cells_of_block (show y4.heap[w.heap.size]? = _ from (TN _ (by omega)).trans ((U3.out.block _ (by have := HVS.out; omega)).trans HZ1.out)); exact ⟨g0 1 _ rfl, g0 4 _ rfl, g0 6 _ rfl⟩) (fun hHeld => ?_)
      clear hK K
      (try simp only [Act.put, List.setIfInBounds_toArray, List.set_cons_zero, List.set_cons_succ])
      refine wpAnyH_done (by kernel_rfl) ?_ _
      go_wp2
      refine bodyPost_ret (by simp [results, Tryz.results54, go_sem, T0, T1, T2, T3, T4, T5]; try rfl) rfl ?_
      exact ⟨_, _, _, _, _, _, rfl, HE.out, U4.out⟩
    · go_simp
      obtain ⟨y2, hy⟩ : ∃ y, y = y1.alloc (.cells (madeCells #[.bool false] n) 4) := ⟨_, rfl⟩
      rw [← hy]
      have hb : Below y1.heap.size y1 y2 := by rw [hy]; exact bAlloc (Below.refl _ _) _
      have U2 := hid (bThen U1.out hb)
      have z2 : y1.heap.size ≤ y2.heap.size := hb.size
      have F2 := hid (Kd.below F1.out hb)
      have hz : y2.heap[y1.heap.size]? = some (.cells (madeCells #[.bool false] n) 4 (0, 0)) := by rw [hy]; exact heap_at rfl
      have B2 := hid (show Kd.bool.slice.K y2 (fun j => y0.heap.size ≤ j) (List.replicate n false) [.slice (some ⟨y1.heap.size, 0, none⟩) n n] from K_of_block n n (by simp) hz (show y0.heap.size ≤ y1.heap.size by omega) (cells_rep rfl n) (Nat.le_refl _) (by have := HL.out; simp; omega))
      clear hz hb hy
      refine hK.out _ _ (HXB.out _ U2.out) (fun hHeld => ?_)
      clear hK K
      (try simp only [Act.put, List.setIfInBounds_toArray, List.set_cons_zero, List.set_cons_succ])
      refine anyH_one 8 rfl (by kernel_rfl) (fun K hK => ?_)
      go_simp
      obtain ⟨y3, hy⟩ : ∃ y, y = y2.alloc (.cells (madeCells #[.int .i64 0] n) 3) := ⟨_, rfl⟩
      rw [← hy]
      have hb : Below y2.heap.size y2 y3 := by rw [hy]; exact bAlloc (Below.refl _ _) _
      have U3 := hid (bThen U2.out hb)
      have z3 : y2.heap.size ≤ y3.heap.size := hb.size
      have F3 := hid (Kd.below F2.out hb)
      have B3 := hid (Kd.below B2.out hb)
      have hz : y3.heap[y2.heap.size]? = some (.cells (madeCells #[.int .i64 0] n) 3 (0, 0)) := by rw [hy]; exact heap_at rfl
      have M3 := hid (show I64.slice.K y3 (fun j => y0.heap.size ≤ j) (List.replicate n 0) [.slice (some ⟨y2.heap.size, 0, none⟩) n n] from K_of_block n n (by simp) hz (show y0.heap.size ≤ y2.heap.size by omega) (cells_rep rfl n) (Nat.le_refl _) (by have := HL.out; simp; omega))
      clear hz hb hy
      refine hK.out _ _ (HXB.out _ U3.out) (fun hHeld => ?_)
      clear hK K
      (try simp only [Act.put, List.setIfInBounds_toArray, List.set_cons_zero, List.set_cons_succ])
      refine anyH_take 11 (v := ?_) rfl (by kernel_rfl) (by kernel_rfl) (by kernel_rfl) (fun _ _ _ h => h) (by rfl) hHeld ?_ ?_
      rotate_left
      · (intro w hSw; (try dsimp only at hSw); go_split_ands; go_simp; try with_reducible rfl)
      (try simp only [Act.put, List.setIfInBounds_toArray, List.set_cons_zero, List.set_cons_succ])
      refine anyH_one 12 rfl (by kernel_rfl) (fun K hK => ?_)
      go_simp
      have HT := hid ((U3.out.block (w.heap.size + 1) (by have := HVS.out; omega)).trans HZ3.out)
      obtain ⟨y4, hy, _, T0, T1, T2, T3, T4, T5, TB, TN, _⟩ := set6 HT.out (.int .i64 x.job) (.int .i64 x.sched) (.int .i64 1) (.slice F n f) (.slice (some ⟨y2.heap.size, 0, none⟩) n n) (.slice (some ⟨y1.heap.size, 0, none⟩) n n)
      obtain ⟨p5, g5, l5⟩ := cells_of_block HT.out
      have r0 := p5 0 _ rfl
      have r1 := p5 1 _ rfl
      have r2 := p5 2 _ rfl
      have r3 := p5 3 _ rfl
      have r4 := p5 4 _ rfl
      have r5 := p5 5 _ rfl
      have u0 := g5 0
      have u1 := g5 1
      have u2 := g5 2
      have u3 := g5 3
      have u4 := g5 4
      have u5 := g5 5
      clear p5 g5
      go_simp
      rw [← hy]
      have U4 := hid (show Below w.heap.size w y4 from (bThen HBV.out U3.out).trans (TB.mono (by omega)))
      have F4 := hid (Kd.str.slice.mono (S' := fun k => w.heap.size ≤ k) (fun j h _ => by have := HVS.out; have := U0.out.size; omega) (Kd.str.slice.move (w1 := y4) (fun j h _ => TN j (by have := HVS.out; have := U0.out.size; omega)) F3.out))
      have M4 := hid (I64.slice.mono (S' := fun k => w.heap.size ≤ k) (fun j h _ => by have := HVS.out; have := U0.out.size; omega) (I64.slice.move (w1 := y4) (fun j h _ => TN j (by have := HVS.out; have := U0.out.size; omega)) M3.out))
      have B4 := hid (Kd.bool.slice.mono (S' := fun k => w.heap.size ≤ k) (fun j h _ => by have := HVS.out; have := U0.out.size; omega) (Kd.bool.slice.move (w1 := y4) (fun j h _ => TN j (by have := HVS.out; have := U0.out.size; omega)) B3.out))
      have HE := hid (show Kd.entry.K y4 (fun k => w.heap.size ≤ k) (acceptR x) [.int .i64 x.job, .int .i64 x.sched, .int .i64 1, .slice F n f, .slice (some ⟨y2.heap.size, 0, none⟩) n n, .slice (some ⟨y1.heap.size, 0, none⟩) n n] from by
        have he := entry_of (w := y4) (S := fun k => w.heap.size ≤ k) (acceptR x) (A := F) (a := f) (B := some ⟨y2.heap.size, 0, none⟩) (b := n) (D := some ⟨y1.heap.size, 0, none⟩) (d := n) (by show Kd.str.slice.K _ _ x.needs [.slice F x.needs.length f]; rw [← HN.out]; exact F4.out) (by show I64.slice.K _ _ (List.replicate x.needs.length 0) [.slice _ (List.replicate x.needs.length (0 : Int)).length n]; rw [List.length_replicate, ← HN.out]; exact M4.out) (by show Kd.bool.slice.K _ _ (List.replicate x.needs.length false) [.slice _ (List.replicate x.needs.length false).length n]; rw [List.length_replicate, ← HN.out]; exact B4.out)
        rw [show (acceptR x).needs.length = n from HN.out.symm, show (acceptR x).bound.length = n from (List.length_replicate).trans HN.out.symm, show (acceptR x).done.length = n from (List.length_replicate).trans HN.out.symm] at he
        exact he)
      refine hK.out _ _ (by obtain ⟨g0, _, _⟩ := cells_of_block (show y4.heap[w.heap.size]? = _ from (TN _ (by omega)).trans ((U3.out.block _ (by have := HVS.out; omega)).trans HZ1.out)); exact ⟨g0 1 _ rfl, g0 4 _ rfl, g0 6 _ rfl⟩) (fun hHeld => ?_)
      clear hK K
      (try simp only [Act.put, List.setIfInBounds_toArray, List.set_cons_zero, List.set_cons_succ])
      refine wpAnyH_done (by kernel_rfl) ?_ _
      go_wp2
      refine bodyPost_ret (by simp [results, Tryz.results54, go_sem, T0, T1, T2, T3, T4, T5]; try rfl) rfl ?_
      exact ⟨_, _, _, _, _, _, rfl, HE.out, U4.out⟩
  · go_simp
    obtain ⟨y1, hy⟩ : ∃ y, y = y0.alloc (.cells (madeCells #[.int .i64 0] n) 3) := ⟨_, rfl⟩
    rw [← hy]
    have hb : Below y0.heap.size y0 y1 := by rw [hy]; exact bAlloc (Below.refl _ _) _
    have U1 := hid (bThen U0.out hb)
    have z1 : y0.heap.size ≤ y1.heap.size := hb.size
    have hz : y1.heap[y0.heap.size]? = some (.cells (madeCells #[.int .i64 0] n) 3 (0, 0)) := by rw [hy]; exact heap_at rfl
    have M1 := hid (show I64.slice.K y1 (fun j => y0.heap.size ≤ j) (List.replicate n 0) [.slice (some ⟨y0.heap.size, 0, none⟩) n n] from K_of_block n n (by simp) hz (show y0.heap.size ≤ y0.heap.size by omega) (cells_rep rfl n) (Nat.le_refl _) (by have := HL.out; simp; omega))
    clear hz hb hy
    refine hK.out _ _ (HXB.out _ U1.out) (fun hHeld => ?_)
    clear hK K
    (try simp only [Act.put, List.setIfInBounds_toArray, List.set_cons_zero, List.set_cons_succ])
    refine anyH_two 6 10 rfl rfl (by kernel_rfl) (fun K hK => ?_) (fun K hK => ?_)
    · go_simp
      have hsc := sclone_calls x.needs XA xc y1 (by rw [← HN.out]; exact Kd.below HX.out U1.out) (by rw [← HN.out]; have := HL.out; omega)
      rw [← HN.out] at hsc
      refine hsc.mono ?_
      clear hsc
      rintro e y2 ⟨F, f, rfl, hK, hb⟩
      have U2 := hid (bThen U1.out hb)
      have z2 : y1.heap.size ≤ y2.heap.size := hb.size
      have M2 := hid (Kd.below M1.out hb)
      have F2 := hid (Kd.str.slice.mono (S' := fun j => y0.heap.size ≤ j) (fun j h hl => (show y0.heap.size ≤ j by have : y1.heap.size ≤ j := h; omega)) hK)
      clear hK hb
      go_simp
      refine hK.out _ _ (HXB.out _ U2.out) (fun hHeld => ?_)
      clear hK K
      (try simp only [Act.put, List.setIfInBounds_toArray, List.set_cons_zero, List.set_cons_succ])
      refine anyH_one 10 rfl (by kernel_rfl) (fun K hK => ?_)
      go_simp
      obtain ⟨y3, hy⟩ : ∃ y, y = y2.alloc (.cells (madeCells #[.bool false] n) 4) := ⟨_, rfl⟩
      rw [← hy]
      have hb : Below y2.heap.size y2 y3 := by rw [hy]; exact bAlloc (Below.refl _ _) _
      have U3 := hid (bThen U2.out hb)
      have z3 : y2.heap.size ≤ y3.heap.size := hb.size
      have M3 := hid (Kd.below M2.out hb)
      have F3 := hid (Kd.below F2.out hb)
      have hz : y3.heap[y2.heap.size]? = some (.cells (madeCells #[.bool false] n) 4 (0, 0)) := by rw [hy]; exact heap_at rfl
      have B3 := hid (show Kd.bool.slice.K y3 (fun j => y0.heap.size ≤ j) (List.replicate n false) [.slice (some ⟨y2.heap.size, 0, none⟩) n n] from K_of_block n n (by simp) hz (show y0.heap.size ≤ y2.heap.size by omega) (cells_rep rfl n) (Nat.le_refl _) (by have := HL.out; simp; omega))
      clear hz hb hy
      refine hK.out _ _ (HXB.out _ U3.out) (fun hHeld => ?_)
      clear hK K
      (try simp only [Act.put, List.setIfInBounds_toArray, List.set_cons_zero, List.set_cons_succ])
      refine anyH_take 11 (v := ?_) rfl (by kernel_rfl) (by kernel_rfl) (by kernel_rfl) (fun _ _ _ h => h) (by rfl) hHeld ?_ ?_
      rotate_left
      · (intro w hSw; (try dsimp only at hSw); go_split_ands; go_simp; try with_reducible rfl)
      (try simp only [Act.put, List.setIfInBounds_toArray, List.set_cons_zero, List.set_cons_succ])
      refine anyH_one 12 rfl (by kernel_rfl) (fun K hK => ?_)
      go_simp
      have HT := hid ((U3.out.block (w.heap.size + 1) (by have := HVS.out; omega)).trans HZ3.out)
      obtain ⟨y4, hy, _, T0, T1, T2, T3, T4, T5, TB, TN, _⟩ := set6 HT.out (.int .i64 x.job) (.int .i64 x.sched) (.int .i64 1) (.slice F n f) (.slice (some ⟨y0.heap.size, 0, none⟩) n n) (.slice (some ⟨y2.heap.size, 0, none⟩) n n)
      obtain ⟨p5, g5, l5⟩ := cells_of_block HT.out
      have r0 := p5 0 _ rfl
      have r1 := p5 1 _ rfl
      have r2 := p5 2 _ rfl
      have r3 := p5 3 _ rfl
      have r4 := p5 4 _ rfl
      have r5 := p5 5 _ rfl
      have u0 := g5 0
      have u1 := g5 1
      have u2 := g5 2
      have u3 := g5 3
      have u4 := g5 4
      have u5 := g5 5
      clear p5 g5
      go_simp
      rw [← hy]
      have U4 := hid (show Below w.heap.size w y4 from (bThen HBV.out U3.out).trans (TB.mono (by omega)))
      have F4 := hid (Kd.str.slice.mono (S' := fun k => w.heap.size ≤ k) (fun j h _ => by have := HVS.out; have := U0.out.size; omega) (Kd.str.slice.move (w1 := y4) (fun j h _ => TN j (by have := HVS.out; have := U0.out.size; omega)) F3.out))
      have M4 := hid (I64.slice.mono (S' := fun k => w.heap.size ≤ k) (fun j h _ => by have := HVS.out; have := U0.out.size; omega) (I64.slice.move (w1 := y4) (fun j h _ => TN j (by have := HVS.out; have := U0.out.size; omega)) M3.out))
      have B4 := hid (Kd.bool.slice.mono (S' := fun k => w.heap.size ≤ k) (fun j h _ => by have := HVS.out; have := U0.out.size; omega) (Kd.bool.slice.move (w1 := y4) (fun j h _ => TN j (by have := HVS.out; have := U0.out.size; omega)) B3.out))
      have HE := hid (show Kd.entry.K y4 (fun k => w.heap.size ≤ k) (acceptR x) [.int .i64 x.job, .int .i64 x.sched, .int .i64 1, .slice F n f, .slice (some ⟨y0.heap.size, 0, none⟩) n n, .slice (some ⟨y2.heap.size, 0, none⟩) n n] from by
        have he := entry_of (w := y4) (S := fun k => w.heap.size ≤ k) (acceptR x) (A := F) (a := f) (B := some ⟨y0.heap.size, 0, none⟩) (b := n) (D := some ⟨y2.heap.size, 0, none⟩) (d := n) (by show Kd.str.slice.K _ _ x.needs [.slice F x.needs.length f]; rw [← HN.out]; exact F4.out) (by show I64.slice.K _ _ (List.replicate x.needs.length 0) [.slice _ (List.replicate x.needs.length (0 : Int)).length n]; rw [List.length_replicate, ← HN.out]; exact M4.out) (by show Kd.bool.slice.K _ _ (List.replicate x.needs.length false) [.slice _ (List.replicate x.needs.length false).length n]; rw [List.length_replicate, ← HN.out]; exact B4.out)
        rw [show (acceptR x).needs.length = n from HN.out.symm, show (acceptR x).bound.length = n from (List.length_replicate).trans HN.out.symm, show (acceptR x).done.length = n from (List.length_replicate).trans HN.out.symm] at he
        exact he)
      refine hK.out _ _ (by obtain ⟨g0, _, _⟩ := cells_of_block (show y4.heap[w.heap.size]? = _ from (TN _ (by omega)).trans ((U3.out.block _ (by have := HVS.out; omega)).trans HZ1.out)); exact ⟨g0 1 _ rfl, g0 4 _ rfl, g0 6 _ rfl⟩) (fun hHeld => ?_)
      clear hK K
      (try simp only [Act.put, List.setIfInBounds_toArray, List.set_cons_zero, List.set_cons_succ])
      refine wpAnyH_done (by kernel_rfl) ?_ _
      go_wp2
      refine bodyPost_ret (by simp [results, Tryz.results54, go_sem, T0, T1, T2, T3, T4, T5]; try rfl) rfl ?_
      exact ⟨_, _, _, _, _, _, rfl, HE.out, U4.out⟩
    · go_simp
      obtain ⟨y2, hy⟩ : ∃ y, y = y1.alloc (.cells (madeCells #[.bool false] n) 4) := ⟨_, rfl⟩
      rw [← hy]
      have hb : Below y1.heap.size y1 y2 := by rw [hy]; exact bAlloc (Below.refl _ _) _
      have U2 := hid (bThen U1.out hb)
      have z2 : y1.heap.size ≤ y2.heap.size := hb.size
      have M2 := hid (Kd.below M1.out hb)
      have hz : y2.heap[y1.heap.size]? = some (.cells (madeCells #[.bool false] n) 4 (0, 0)) := by rw [hy]; exact heap_at rfl
      have B2 := hid (show Kd.bool.slice.K y2 (fun j => y0.heap.size ≤ j) (List.replicate n false) [.slice (some ⟨y1.heap.size, 0, none⟩) n n] from K_of_block n n (by simp) hz (show y0.heap.size ≤ y1.heap.size by omega) (cells_rep rfl n) (Nat.le_refl _) (by have := HL.out; simp; omega))
      clear hz hb hy
      refine hK.out _ _ (HXB.out _ U2.out) (fun hHeld => ?_)
      clear hK K
      (try simp only [Act.put, List.setIfInBounds_toArray, List.set_cons_zero, List.set_cons_succ])
      refine anyH_one 6 rfl (by kernel_rfl) (fun K hK => ?_)
      go_simp
      have hsc := sclone_calls x.needs XA xc y2 (by rw [← HN.out]; exact Kd.below HX.out U2.out) (by rw [← HN.out]; have := HL.out; omega)
      rw [← HN.out] at hsc
      refine hsc.mono ?_
      clear hsc
      rintro e y3 ⟨F, f, rfl, hK, hb⟩
      have U3 := hid (bThen U2.out hb)
      have z3 : y2.heap.size ≤ y3.heap.size := hb.size
      have M3 := hid (Kd.below M2.out hb)
      have B3 := hid (Kd.below B2.out hb)
      have F3 := hid (Kd.str.slice.mono (S' := fun j => y0.heap.size ≤ j) (fun j h hl => (show y0.heap.size ≤ j by have : y2.heap.size ≤ j := h; omega)) hK)
      clear hK hb
      go_simp
      refine hK.out _ _ (HXB.out _ U3.out) (fun hHeld => ?_)
      clear hK K
      (try simp only [Act.put, List.setIfInBounds_toArray, List.set_cons_zero, List.set_cons_succ])
      refine anyH_take 11 (v := ?_) rfl (by kernel_rfl) (by kernel_rfl) (by kernel_rfl) (fun _ _ _ h => h) (by rfl) hHeld ?_ ?_
      rotate_left
      · (intro w hSw; (try dsimp only at hSw); go_split_ands; go_simp; try with_reducible rfl)
      (try simp only [Act.put, List.setIfInBounds_toArray, List.set_cons_zero, List.set_cons_succ])
      refine anyH_one 12 rfl (by kernel_rfl) (fun K hK => ?_)
      go_simp
      have HT := hid ((U3.out.block (w.heap.size + 1) (by have := HVS.out; omega)).trans HZ3.out)
      obtain ⟨y4, hy, _, T0, T1, T2, T3, T4, T5, TB, TN, _⟩ := set6 HT.out (.int .i64 x.job) (.int .i64 x.sched) (.int .i64 1) (.slice F n f) (.slice (some ⟨y0.heap.size, 0, none⟩) n n) (.slice (some ⟨y1.heap.size, 0, none⟩) n n)
      obtain ⟨p5, g5, l5⟩ := cells_of_block HT.out
      have r0 := p5 0 _ rfl
      have r1 := p5 1 _ rfl
      have r2 := p5 2 _ rfl
      have r3 := p5 3 _ rfl
      have r4 := p5 4 _ rfl
      have r5 := p5 5 _ rfl
      have u0 := g5 0
      have u1 := g5 1
      have u2 := g5 2
      have u3 := g5 3
      have u4 := g5 4
      have u5 := g5 5
      clear p5 g5
      go_simp
      rw [← hy]
      have U4 := hid (show Below w.heap.size w y4 from (bThen HBV.out U3.out).trans (TB.mono (by omega)))
      have F4 := hid (Kd.str.slice.mono (S' := fun k => w.heap.size ≤ k) (fun j h _ => by have := HVS.out; have := U0.out.size; omega) (Kd.str.slice.move (w1 := y4) (fun j h _ => TN j (by have := HVS.out; have := U0.out.size; omega)) F3.out))
      have M4 := hid (I64.slice.mono (S' := fun k => w.heap.size ≤ k) (fun j h _ => by have := HVS.out; have := U0.out.size; omega) (I64.slice.move (w1 := y4) (fun j h _ => TN j (by have := HVS.out; have := U0.out.size; omega)) M3.out))
      have B4 := hid (Kd.bool.slice.mono (S' := fun k => w.heap.size ≤ k) (fun j h _ => by have := HVS.out; have := U0.out.size; omega) (Kd.bool.slice.move (w1 := y4) (fun j h _ => TN j (by have := HVS.out; have := U0.out.size; omega)) B3.out))
      have HE := hid (show Kd.entry.K y4 (fun k => w.heap.size ≤ k) (acceptR x) [.int .i64 x.job, .int .i64 x.sched, .int .i64 1, .slice F n f, .slice (some ⟨y0.heap.size, 0, none⟩) n n, .slice (some ⟨y1.heap.size, 0, none⟩) n n] from by
        have he := entry_of (w := y4) (S := fun k => w.heap.size ≤ k) (acceptR x) (A := F) (a := f) (B := some ⟨y0.heap.size, 0, none⟩) (b := n) (D := some ⟨y1.heap.size, 0, none⟩) (d := n) (by show Kd.str.slice.K _ _ x.needs [.slice F x.needs.length f]; rw [← HN.out]; exact F4.out) (by show I64.slice.K _ _ (List.replicate x.needs.length 0) [.slice _ (List.replicate x.needs.length (0 : Int)).length n]; rw [List.length_replicate, ← HN.out]; exact M4.out) (by show Kd.bool.slice.K _ _ (List.replicate x.needs.length false) [.slice _ (List.replicate x.needs.length false).length n]; rw [List.length_replicate, ← HN.out]; exact B4.out)
        rw [show (acceptR x).needs.length = n from HN.out.symm, show (acceptR x).bound.length = n from (List.length_replicate).trans HN.out.symm, show (acceptR x).done.length = n from (List.length_replicate).trans HN.out.symm] at he
        exact he)
      refine hK.out _ _ (by obtain ⟨g0, _, _⟩ := cells_of_block (show y4.heap[w.heap.size]? = _ from (TN _ (by omega)).trans ((U3.out.block _ (by have := HVS.out; omega)).trans HZ1.out)); exact ⟨g0 1 _ rfl, g0 4 _ rfl, g0 6 _ rfl⟩) (fun hHeld => ?_)
      clear hK K
      (try simp only [Act.put, List.setIfInBounds_toArray, List.set_cons_zero, List.set_cons_succ])
      refine wpAnyH_done (by kernel_rfl) ?_ _
      go_wp2
      refine bodyPost_ret (by simp [results, Tryz.results54, go_sem, T0, T1, T2, T3, T4, T5]; try rfl) rfl ?_
      exact ⟨_, _, _, _, _, _, rfl, HE.out, U4.out⟩
  · go_simp
    obtain ⟨y1, hy⟩ : ∃ y, y = y0.alloc (.cells (madeCells #[.bool false] n) 4) := ⟨_, rfl⟩
    rw [← hy]
    have hb : Below y0.heap.size y0 y1 := by rw [hy]; exact bAlloc (Below.refl _ _) _
    have U1 := hid (bThen U0.out hb)
    have z1 : y0.heap.size ≤ y1.heap.size := hb.size
    have hz : y1.heap[y0.heap.size]? = some (.cells (madeCells #[.bool false] n) 4 (0, 0)) := by rw [hy]; exact heap_at rfl
    have B1 := hid (show Kd.bool.slice.K y1 (fun j => y0.heap.size ≤ j) (List.replicate n false) [.slice (some ⟨y0.heap.size, 0, none⟩) n n] from K_of_block n n (by simp) hz (show y0.heap.size ≤ y0.heap.size by omega) (cells_rep rfl n) (Nat.le_refl _) (by have := HL.out; simp; omega))
    clear hz hb hy
    refine hK.out _ _ (HXB.out _ U1.out) (fun hHeld => ?_)
    clear hK K
    (try simp only [Act.put, List.setIfInBounds_toArray, List.set_cons_zero, List.set_cons_succ])
    refine anyH_two 6 8 rfl rfl (by kernel_rfl) (fun K hK => ?_) (fun K hK => ?_)
    · go_simp
      have hsc := sclone_calls x.needs XA xc y1 (by rw [← HN.out]; exact Kd.below HX.out U1.out) (by rw [← HN.out]; have := HL.out; omega)
      rw [← HN.out] at hsc
      refine hsc.mono ?_
      clear hsc
      rintro e y2 ⟨F, f, rfl, hK, hb⟩
      have U2 := hid (bThen U1.out hb)
      have z2 : y1.heap.size ≤ y2.heap.size := hb.size
      have B2 := hid (Kd.below B1.out hb)
      have F2 := hid (Kd.str.slice.mono (S' := fun j => y0.heap.size ≤ j) (fun j h hl => (show y0.heap.size ≤ j by have : y1.heap.size ≤ j := h; omega)) hK)
      clear hK hb
      go_simp
      refine hK.out _ _ (HXB.out _ U2.out) (fun hHeld => ?_)
      clear hK K
      (try simp only [Act.put, List.setIfInBounds_toArray, List.set_cons_zero, List.set_cons_succ])
      refine anyH_one 8 rfl (by kernel_rfl) (fun K hK => ?_)
      go_simp
      obtain ⟨y3, hy⟩ : ∃ y, y = y2.alloc (.cells (madeCells #[.int .i64 0] n) 3) := ⟨_, rfl⟩
      rw [← hy]
      have hb : Below y2.heap.size y2 y3 := by rw [hy]; exact bAlloc (Below.refl _ _) _
      have U3 := hid (bThen U2.out hb)
      have z3 : y2.heap.size ≤ y3.heap.size := hb.size
      have B3 := hid (Kd.below B2.out hb)
      have F3 := hid (Kd.below F2.out hb)
      have hz : y3.heap[y2.heap.size]? = some (.cells (madeCells #[.int .i64 0] n) 3 (0, 0)) := by rw [hy]; exact heap_at rfl
      have M3 := hid (show I64.slice.K y3 (fun j => y0.heap.size ≤ j) (List.replicate n 0) [.slice (some ⟨y2.heap.size, 0, none⟩) n n] from K_of_block n n (by simp) hz (show y0.heap.size ≤ y2.heap.size by omega) (cells_rep rfl n) (Nat.le_refl _) (by have := HL.out; simp; omega))
      clear hz hb hy
      refine hK.out _ _ (HXB.out _ U3.out) (fun hHeld => ?_)
      clear hK K
      (try simp only [Act.put, List.setIfInBounds_toArray, List.set_cons_zero, List.set_cons_succ])
      refine anyH_take 11 (v := ?_) rfl (by kernel_rfl) (by kernel_rfl) (by kernel_rfl) (fun _ _ _ h => h) (by rfl) hHeld ?_ ?_
      rotate_left
      · (intro w hSw; (try dsimp only at hSw); go_split_ands; go_simp; try with_reducible rfl)
      (try simp only [Act.put, List.setIfInBounds_toArray, List.set_cons_zero, List.set_cons_succ])
      refine anyH_one 12 rfl (by kernel_rfl) (fun K hK => ?_)
      go_simp
      have HT := hid ((U3.out.block (w.heap.size + 1) (by have := HVS.out; omega)).trans HZ3.out)
      obtain ⟨y4, hy, _, T0, T1, T2, T3, T4, T5, TB, TN, _⟩ := set6 HT.out (.int .i64 x.job) (.int .i64 x.sched) (.int .i64 1) (.slice F n f) (.slice (some ⟨y2.heap.size, 0, none⟩) n n) (.slice (some ⟨y0.heap.size, 0, none⟩) n n)
      obtain ⟨p5, g5, l5⟩ := cells_of_block HT.out
      have r0 := p5 0 _ rfl
      have r1 := p5 1 _ rfl
      have r2 := p5 2 _ rfl
      have r3 := p5 3 _ rfl
      have r4 := p5 4 _ rfl
      have r5 := p5 5 _ rfl
      have u0 := g5 0
      have u1 := g5 1
      have u2 := g5 2
      have u3 := g5 3
      have u4 := g5 4
      have u5 := g5 5
      clear p5 g5
      go_simp
      rw [← hy]
      have U4 := hid (show Below w.heap.size w y4 from (bThen HBV.out U3.out).trans (TB.mono (by omega)))
      have F4 := hid (Kd.str.slice.mono (S' := fun k => w.heap.size ≤ k) (fun j h _ => by have := HVS.out; have := U0.out.size; omega) (Kd.str.slice.move (w1 := y4) (fun j h _ => TN j (by have := HVS.out; have := U0.out.size; omega)) F3.out))
      have M4 := hid (I64.slice.mono (S' := fun k => w.heap.size ≤ k) (fun j h _ => by have := HVS.out; have := U0.out.size; omega) (I64.slice.move (w1 := y4) (fun j h _ => TN j (by have := HVS.out; have := U0.out.size; omega)) M3.out))
      have B4 := hid (Kd.bool.slice.mono (S' := fun k => w.heap.size ≤ k) (fun j h _ => by have := HVS.out; have := U0.out.size; omega) (Kd.bool.slice.move (w1 := y4) (fun j h _ => TN j (by have := HVS.out; have := U0.out.size; omega)) B3.out))
      have HE := hid (show Kd.entry.K y4 (fun k => w.heap.size ≤ k) (acceptR x) [.int .i64 x.job, .int .i64 x.sched, .int .i64 1, .slice F n f, .slice (some ⟨y2.heap.size, 0, none⟩) n n, .slice (some ⟨y0.heap.size, 0, none⟩) n n] from by
        have he := entry_of (w := y4) (S := fun k => w.heap.size ≤ k) (acceptR x) (A := F) (a := f) (B := some ⟨y2.heap.size, 0, none⟩) (b := n) (D := some ⟨y0.heap.size, 0, none⟩) (d := n) (by show Kd.str.slice.K _ _ x.needs [.slice F x.needs.length f]; rw [← HN.out]; exact F4.out) (by show I64.slice.K _ _ (List.replicate x.needs.length 0) [.slice _ (List.replicate x.needs.length (0 : Int)).length n]; rw [List.length_replicate, ← HN.out]; exact M4.out) (by show Kd.bool.slice.K _ _ (List.replicate x.needs.length false) [.slice _ (List.replicate x.needs.length false).length n]; rw [List.length_replicate, ← HN.out]; exact B4.out)
        rw [show (acceptR x).needs.length = n from HN.out.symm, show (acceptR x).bound.length = n from (List.length_replicate).trans HN.out.symm, show (acceptR x).done.length = n from (List.length_replicate).trans HN.out.symm] at he
        exact he)
      refine hK.out _ _ (by obtain ⟨g0, _, _⟩ := cells_of_block (show y4.heap[w.heap.size]? = _ from (TN _ (by omega)).trans ((U3.out.block _ (by have := HVS.out; omega)).trans HZ1.out)); exact ⟨g0 1 _ rfl, g0 4 _ rfl, g0 6 _ rfl⟩) (fun hHeld => ?_)
      clear hK K
      (try simp only [Act.put, List.setIfInBounds_toArray, List.set_cons_zero, List.set_cons_succ])
      refine wpAnyH_done (by kernel_rfl) ?_ _
      go_wp2
      refine bodyPost_ret (by simp [results, Tryz.results54, go_sem, T0, T1, T2, T3, T4, T5]; try rfl) rfl ?_
      exact ⟨_, _, _, _, _, _, rfl, HE.out, U4.out⟩
    · go_simp
      obtain ⟨y2, hy⟩ : ∃ y, y = y1.alloc (.cells (madeCells #[.int .i64 0] n) 3) := ⟨_, rfl⟩
      rw [← hy]
      have hb : Below y1.heap.size y1 y2 := by rw [hy]; exact bAlloc (Below.refl _ _) _
      have U2 := hid (bThen U1.out hb)
      have z2 : y1.heap.size ≤ y2.heap.size := hb.size
      have B2 := hid (Kd.below B1.out hb)
      have hz : y2.heap[y1.heap.size]? = some (.cells (madeCells #[.int .i64 0] n) 3 (0, 0)) := by rw [hy]; exact heap_at rfl
      have M2 := hid (show I64.slice.K y2 (fun j => y0.heap.size ≤ j) (List.replicate n 0) [.slice (some ⟨y1.heap.size, 0, none⟩) n n] from K_of_block n n (by simp) hz (show y0.heap.size ≤ y1.heap.size by omega) (cells_rep rfl n) (Nat.le_refl _) (by have := HL.out; simp; omega))
      clear hz hb hy
      refine hK.out _ _ (HXB.out _ U2.out) (fun hHeld => ?_)
      clear hK K
      (try simp only [Act.put, List.setIfInBounds_toArray, List.set_cons_zero, List.set_cons_succ])
      refine anyH_one 6 rfl (by kernel_rfl) (fun K hK => ?_)
      go_simp
      have hsc := sclone_calls x.needs XA xc y2 (by rw [← HN.out]; exact Kd.below HX.out U2.out) (by rw [← HN.out]; have := HL.out; omega)
      rw [← HN.out] at hsc
      refine hsc.mono ?_
      clear hsc
      rintro e y3 ⟨F, f, rfl, hK, hb⟩
      have U3 := hid (bThen U2.out hb)
      have z3 : y2.heap.size ≤ y3.heap.size := hb.size
      have B3 := hid (Kd.below B2.out hb)
      have M3 := hid (Kd.below M2.out hb)
      have F3 := hid (Kd.str.slice.mono (S' := fun j => y0.heap.size ≤ j) (fun j h hl => (show y0.heap.size ≤ j by have : y2.heap.size ≤ j := h; omega)) hK)
      clear hK hb
      go_simp
      refine hK.out _ _ (HXB.out _ U3.out) (fun hHeld => ?_)
      clear hK K
      (try simp only [Act.put, List.setIfInBounds_toArray, List.set_cons_zero, List.set_cons_succ])
      refine anyH_take 11 (v := ?_) rfl (by kernel_rfl) (by kernel_rfl) (by kernel_rfl) (fun _ _ _ h => h) (by rfl) hHeld ?_ ?_
      rotate_left
      · (intro w hSw; (try dsimp only at hSw); go_split_ands; go_simp; try with_reducible rfl)
      (try simp only [Act.put, List.setIfInBounds_toArray, List.set_cons_zero, List.set_cons_succ])
      refine anyH_one 12 rfl (by kernel_rfl) (fun K hK => ?_)
      go_simp
      have HT := hid ((U3.out.block (w.heap.size + 1) (by have := HVS.out; omega)).trans HZ3.out)
      obtain ⟨y4, hy, _, T0, T1, T2, T3, T4, T5, TB, TN, _⟩ := set6 HT.out (.int .i64 x.job) (.int .i64 x.sched) (.int .i64 1) (.slice F n f) (.slice (some ⟨y1.heap.size, 0, none⟩) n n) (.slice (some ⟨y0.heap.size, 0, none⟩) n n)
      obtain ⟨p5, g5, l5⟩ := cells_of_block HT.out
      have r0 := p5 0 _ rfl
      have r1 := p5 1 _ rfl
      have r2 := p5 2 _ rfl
      have r3 := p5 3 _ rfl
      have r4 := p5 4 _ rfl
      have r5 := p5 5 _ rfl
      have u0 := g5 0
      have u1 := g5 1
      have u2 := g5 2
      have u3 := g5 3
      have u4 := g5 4
      have u5 := g5 5
      clear p5 g5
      go_simp
      rw [← hy]
      have U4 := hid (show Below w.heap.size w y4 from (bThen HBV.out U3.out).trans (TB.mono (by omega)))
      have F4 := hid (Kd.str.slice.mono (S' := fun k => w.heap.size ≤ k) (fun j h _ => by have := HVS.out; have := U0.out.size; omega) (Kd.str.slice.move (w1 := y4) (fun j h _ => TN j (by have := HVS.out; have := U0.out.size; omega)) F3.out))
      have M4 := hid (I64.slice.mono (S' := fun k => w.heap.size ≤ k) (fun j h _ => by have := HVS.out; have := U0.out.size; omega) (I64.slice.move (w1 := y4) (fun j h _ => TN j (by have := HVS.out; have := U0.out.size; omega)) M3.out))
      have B4 := hid (Kd.bool.slice.mono (S' := fun k => w.heap.size ≤ k) (fun j h _ => by have := HVS.out; have := U0.out.size; omega) (Kd.bool.slice.move (w1 := y4) (fun j h _ => TN j (by have := HVS.out; have := U0.out.size; omega)) B3.out))
      have HE := hid (show Kd.entry.K y4 (fun k => w.heap.size ≤ k) (acceptR x) [.int .i64 x.job, .int .i64 x.sched, .int .i64 1, .slice F n f, .slice (some ⟨y1.heap.size, 0, none⟩) n n, .slice (some ⟨y0.heap.size, 0, none⟩) n n] from by
        have he := entry_of (w := y4) (S := fun k => w.heap.size ≤ k) (acceptR x) (A := F) (a := f) (B := some ⟨y1.heap.size, 0, none⟩) (b := n) (D := some ⟨y0.heap.size, 0, none⟩) (d := n) (by show Kd.str.slice.K _ _ x.needs [.slice F x.needs.length f]; rw [← HN.out]; exact F4.out) (by show I64.slice.K _ _ (List.replicate x.needs.length 0) [.slice _ (List.replicate x.needs.length (0 : Int)).length n]; rw [List.length_replicate, ← HN.out]; exact M4.out) (by show Kd.bool.slice.K _ _ (List.replicate x.needs.length false) [.slice _ (List.replicate x.needs.length false).length n]; rw [List.length_replicate, ← HN.out]; exact B4.out)
        rw [show (acceptR x).needs.length = n from HN.out.symm, show (acceptR x).bound.length = n from (List.length_replicate).trans HN.out.symm, show (acceptR x).done.length = n from (List.length_replicate).trans HN.out.symm] at he
        exact he)
      refine hK.out _ _ (by obtain ⟨g0, _, _⟩ := cells_of_block (show y4.heap[w.heap.size]? = _ from (TN _ (by omega)).trans ((U3.out.block _ (by have := HVS.out; omega)).trans HZ1.out)); exact ⟨g0 1 _ rfl, g0 4 _ rfl, g0 6 _ rfl⟩) (fun hHeld => ?_)
      clear hK K
      (try simp only [Act.put, List.setIfInBounds_toArray, List.set_cons_zero, List.set_cons_succ])
      refine wpAnyH_done (by kernel_rfl) ?_ _
      go_wp2
      refine bodyPost_ret (by simp [results, Tryz.results54, go_sem, T0, T1, T2, T3, T4, T5]; try rfl) rfl ?_
      exact ⟨_, _, _, _, _, _, rfl, HE.out, U4.out⟩
end Go.Proofs.YtkjncmmombkllaaGreat
