/- book.stepped. -/
import Derived.Test.YtkjncmmombkllaaBook5
import Derived.Test.YtkjncmmombkllaaBase
namespace Go.Proofs.Ytkjncmmombkllaa
open Go.RowKit

/-! ### plain -/
/-- What becomes of an entry: as it was, where the record is refused. -/
def stepE (E : EntryS) (x : RecS) : EntryS := if whyE E x = 0 then doneE E x else E
theorem stepE_no {E : EntryS} {x : RecS} (h : whyE E x ≠ 0) : stepE E x = E := if_neg h
theorem stepE_yes {E : EntryS} {x : RecS} (h : whyE E x = 0) : stepE E x = doneE E x := if_pos h
theorem whyE_own {E : EntryS} {x : RecS} (hk : x.kind = 4) : whyE E x = if x.epoch = E.epoch + 1 then 0 else 12 := if_pos hk
theorem whyE_task {E : EntryS} {x : RecS} (hk : ¬ x.kind = 4) (h : (tasksE E : Int) ≤ x.task) : whyE E x = 8 := by unfold whyE; rw [if_neg hk, if_pos h]
theorem whyE_bind {E : EntryS} {x : RecS} (hk : x.kind = 2) (h : ¬ (tasksE E : Int) ≤ x.task) : whyE E x = if x.epoch ≠ E.epoch then 12 else if E.bound.getD x.task.toNat 0 ≠ 0 then 13 else 0 := by unfold whyE; rw [if_neg (by rw [hk]; decide), if_neg h, if_pos hk]
theorem whyE_end {E : EntryS} {x : RecS} (hk : x.kind = 3) (h : ¬ (tasksE E : Int) ≤ x.task) : whyE E x = if E.bound.getD x.task.toNat 0 = 0 then 1 else if E.done.getD x.task.toNat false then 9 else 0 := by unfold whyE; rw [if_neg (by rw [hk]; decide), if_neg h, if_neg (by rw [hk]; decide)]
theorem doneE_own {E : EntryS} {x : RecS} (hk : x.kind = 4) : doneE E x = ⟨E.id, x.sched, x.epoch, E.needs, E.bound, E.done⟩ := if_pos hk
theorem doneE_bind {E : EntryS} {x : RecS} (hk : x.kind = 2) : doneE E x = ⟨E.id, E.sched, E.epoch, E.needs, E.bound.set x.task.toNat (x.worker + 1), E.done⟩ := by unfold doneE; rw [if_neg (by rw [hk]; decide), if_pos hk]
theorem doneE_end {E : EntryS} {x : RecS} (hk : x.kind = 3) : doneE E x = ⟨E.id, E.sched, E.epoch, E.needs, E.bound, E.done.set x.task.toNat true⟩ := by unfold doneE; rw [if_neg (by rw [hk]; decide), if_neg (by rw [hk]; decide)]
theorem recOk_worker {x : RecS} (h : recOk x = true) (hk : x.kind = 2) : 0 ≤ x.worker ∧ x.worker ≤ 63 := by
  obtain ⟨_, _, h3, _⟩ := recOk_parts h
  have e2 : hasF 2 2 = true := by decide +kernel
  rw [hk, e2] at h3
  exact inB_true h3
theorem EOwn.below {w w1 : World} {B : Nat} {E : EntryS} {EA EB ED : Option Addr} {ea eb ed : Nat} (h : EOwn w B E EA EB ED ea eb ed) (hb : Below w.heap.size w w1) : EOwn w1 B E EA EB ED ea eb ed := ⟨h.needs.below hb, h.bound.below hb, h.done.below hb⟩
theorem EOwn.any {w : World} {B : Nat} {E : EntryS} {EA EB ED : Option Addr} {ea eb ed : Nat} (h : EOwn w B E EA EB ED ea eb ed) : EAt w E EA EB ED ea eb ed := ⟨Kd.any h.needs.K, Kd.any h.bound.K, Kd.any h.done.K⟩
theorem EOwn.lower {w : World} {B B' : Nat} {E : EntryS} {EA EB ED : Option Addr} {ea eb ed : Nat} (h : EOwn w B E EA EB ED ea eb ed) (hb : B' ≤ B) : EOwn w B' E EA EB ED ea eb ed := ⟨h.needs.lower hb, h.bound.lower hb, h.done.lower hb⟩
theorem Mod.of_box {F : Nat → Prop} {w w1 w2 : World} {rb : Nat} (h : Mod F w w1) (hb : Below rb w1 w2) (hr : w.heap.size ≤ rb) : Mod F w w2 :=
  h.trans (F' := fun k => rb ≤ k) ⟨hb.os, hb.tape, hb.output, hb.size, fun k _ hn => hb.block k (by omega)⟩ (fun k hk h => by omega)
theorem setCell_comm (W : World) (b i j : Nat) (u v : Value) (h : i ≠ j) : (W.setCell ⟨b, i, none⟩ u).setCell ⟨b, j, none⟩ v = (W.setCell ⟨b, j, none⟩ v).setCell ⟨b, i, none⟩ u := by
  unfold World.setCell
  congr 1
  apply Array.ext_getElem?
  intro k
  simp only [Array.getElem?_modify]
  by_cases hk : b = k
  · subst hk
    cases hw : W.heap[b]? with
    | none => simp
    | some o => cases o <;> simp [Array.setIfInBounds_comm _ _ h]
  · simp [hk]
/-- Where block k (not its own) alone is written. -/
theorem EOwn.away {w w1 : World} {B k : Nat} {E : EntryS} {EA EB ED : Option Addr} {ea eb ed : Nat} (h : EOwn w B E EA EB ED ea eb ed) (hN : ∀ j, j ≠ k → w1.heap[j]? = w.heap[j]?) (hk : ∀ v : Value, v = .slice EA E.needs.length ea ∨ v = .slice EB E.bound.length eb ∨ v = .slice ED E.done.length ed → v.ownBlock ≠ some k) : EOwn w1 B E EA EB ED ea eb ed :=
  ⟨h.needs.move (fun j hj _ => hN j (fun e => hj.elim id (fun hj => hk _ (.inl rfl) (by rw [← e]; exact hj)))) (fun _ h _ => h),
   h.bound.move (fun j hj _ => hN j (fun e => hj.elim id (fun hj => hk _ (.inr (.inl rfl)) (by rw [← e]; exact hj)))) (fun _ h _ => h),
   h.done.move (fun j hj _ => hN j (fun e => hj.elim id (fun hj => hk _ (.inr (.inr rfl)) (by rw [← e]; exact hj)))) (fun _ h _ => h)⟩
theorem EOwn.lt {w : World} {B : Nat} {E : EntryS} {EA EB ED : Option Addr} {ea eb ed : Nat} (h : EOwn w B E EA EB ED ea eb ed) (v : Value) (hv : v = .slice EA E.needs.length ea ∨ v = .slice EB E.bound.length eb ∨ v = .slice ED E.done.length ed) : ∀ k, v.ownBlock = some k → B ≤ k ∧ k < w.heap.size := by
  rcases hv with rfl | rfl | rfl
  · exact h.needs.lt
  · exact h.bound.lt
  · exact h.done.lt
set_option maxHeartbeats 4000000 in
set_option maxRecDepth 100000 in
theorem bstepped_own (E : EntryS) (EA EB ED : Option Addr) (ea eb ed : Nat) (x : RecS) (XA : Option Addr) (xc : Nat) (B : Nat) (w : World) (hE : EOwn w B E EA EB ED ea eb ed) (hB : B ≤ w.heap.size) (hep : EOk E) (hk : x.kind = 4) :
    Calls Try.prog 40 #[.agg #[.int .i64 E.id, .int .i64 E.sched, .int .i64 E.epoch, .slice EA E.needs.length ea, .slice EB E.bound.length eb, .slice ED E.done.length ed], .agg #[.int .i64 x.kind, .int .i64 x.job, .int .i64 x.task, .int .i64 x.worker, .int .i64 x.sched, .int .i64 x.epoch, .slice XA x.needs.length xc]] w fun e w' => e = .returned (.tuple #[.agg #[.int .i64 (stepE E x).id, .int .i64 (stepE E x).sched, .int .i64 (stepE E x).epoch, .slice EA (stepE E x).needs.length ea, .slice EB (stepE E x).bound.length eb, .slice ED (stepE E x).done.length ed], .int .i64 (whyE E x)]) ∧ EOwn w' B (stepE E x) EA EB ED ea eb ed ∧ Mod (fun j => (Value.slice EB E.bound.length eb).ownBlock = some j ∨ (Value.slice ED E.done.length ed).ownBlock = some j) w w' := by
  obtain ⟨V, hV⟩ : ∃ V, V = ((w.alloc (.cells #[.int .i64 E.id, .int .i64 E.sched, .int .i64 E.epoch, .slice EA E.needs.length ea, .slice EB E.bound.length eb, .slice ED E.done.length ed] 64)).alloc (.cells #[.int .i64 x.kind, .int .i64 x.job, .int .i64 x.task, .int .i64 x.worker, .int .i64 x.sched, .int .i64 x.epoch, .slice XA x.needs.length xc] 35)).alloc (.cells #[.int .i64 0, .int .i64 0, .int .i64 0, .slice none 0 0, .slice none 0 0, .slice none 0 0] 64) := ⟨_, rfl⟩
  have hb0 : Below w.heap.size w V := by rw [hV]; exact bAlloc (bAlloc (bAlloc (Below.refl _ _) _) _) _
  have HZ1 := hid (show V.heap[w.heap.size]? = some (.cells #[.int .i64 E.id, .int .i64 E.sched, .int .i64 E.epoch, .slice EA E.needs.length ea, .slice EB E.bound.length eb, .slice ED E.done.length ed] 64 (0, 0)) by rw [hV, Below.heap_alloc _ _ _ (by simp; omega), Below.heap_alloc _ _ _ (by simp)]; exact heap_at rfl)
  have HZ2 := hid (show V.heap[w.heap.size + 1]? = some (.cells #[.int .i64 x.kind, .int .i64 x.job, .int .i64 x.task, .int .i64 x.worker, .int .i64 x.sched, .int .i64 x.epoch, .slice XA x.needs.length xc] 35 (0, 0)) by rw [hV, Below.heap_alloc _ _ _ (by simp)]; exact heap_at (by simp))
  have HZ3 := hid (show V.heap[w.heap.size + 2]? = some (.cells #[.int .i64 0, .int .i64 0, .int .i64 0, .slice none 0 0, .slice none 0 0, .slice none 0 0] 64 (0, 0)) by rw [hV]; exact heap_at (by simp))
  have HVS := hid (show V.heap.size = w.heap.size + 3 by rw [hV]; simp)
  have HBV := hid hb0
  have HE := hid (hE.below hb0)
  have HLT := hid hE.lt
  have HEP := hid hep
  have HBW := hid hB
  have hw1 : IntKind.i64.wrap (E.epoch + 1) = E.epoch + 1 := IntWalk.i64_in _ (by have := hep.ep; omega)
  have HWH := hid (whyE_own (E := E) hk)
  have HDN := hid (doneE_own (E := E) hk)
  have hEq := hV.symm
  obtain ⟨id, sched, epoch, needs, bound, done⟩ := E
  dsimp only at *
  obtain ⟨n1, hn1⟩ : ∃ n, n = needs.length := ⟨_, rfl⟩
  obtain ⟨n2, hn2⟩ : ∃ n, n = bound.length := ⟨_, rfl⟩
  obtain ⟨n3, hn3⟩ : ∃ n, n = done.length := ⟨_, rfl⟩
  have HN := hid (And.intro hn1 (And.intro hn2 hn3))
  rw [← hn1, ← hn2, ← hn3] at HZ1 hEq HLT ⊢
  clear hV hb0 hE hep hB hn1 hn2 hn3
  obtain ⟨p1, g1, l1⟩ := cells_of_block HZ1.out
  obtain ⟨p2, g2, l2⟩ := cells_of_block HZ2.out
  have x0 := p2 0 _ rfl
  have x4 := p2 4 _ rfl
  have x5 := p2 5 _ rfl
  have y0 := p1 0 _ rfl
  have y1 := p1 1 _ rfl
  have y2 := p1 2 _ rfl
  have y3 := p1 3 _ rfl
  have y4 := p1 4 _ rfl
  have y5 := p1 5 _ rfl
  have yf1 := g1 1
  have yf2 := g1 2
  clear p1 g1 p2 g2
  rw [hk]
  rw [hk] at hEq x0
  by_cases hq : x.epoch = epoch + 1
  case neg =>
    have hne : (x.epoch != epoch + 1) = true := by rw [bne_iff_ne]; exact hq
    have hWY := HWH.out
    rw [if_neg hq] at hWY
    have HW := hid hWY
    have HS := hid (stepE_no (E := ⟨id, sched, epoch, needs, bound, done⟩) (x := x) (by rw [hWY]; decide))
    obtain ⟨W', hW', _, T0, T1, T2, T3, T4, T5, TB, TN, _⟩ := set6 HZ3.out (.int .i64 id) (.int .i64 sched) (.int .i64 epoch) (.slice EA n1 ea) (.slice EB n2 eb) (.slice ED n3 ed)
    obtain ⟨p5, g5, l5⟩ := cells_of_block HZ3.out
    have q0 := p5 0 _ rfl
    have q1 := p5 1 _ rfl
    have q2 := p5 2 _ rfl
    have q3 := p5 3 _ rfl
    have q4 := p5 4 _ rfl
    have q5 := p5 5 _ rfl
    have u0 := g5 0
    have u1 := g5 1
    have u2 := g5 2
    have u3 := g5 3
    have u4 := g5 4
    have u5 := g5 5
    have B4 := hid (show Below w.heap.size w W' from HBV.out.trans (TB.mono (by omega)))
    have K := hid (HE.out.away (k := w.heap.size + 2) TN (fun v hv hj => by have := (HE.out.lt v hv _ hj).1; rw [← HN.out.1, ← HN.out.2.1, ← HN.out.2.2] at hv; have := (HLT.out v hv _ hj).2; omega))
    clear p5 g5 TB TN hWY HWH hq
    go_enter Try.func40, Try.ntmps40
    go_wp2
    rw [← hW']
    refine bodyPost_ret (by simp [results, Try.results40, go_sem, T0, T1, T2, T3, T4, T5]; try rfl) rfl ?_
    rw [HS.out, HW.out]
    exact ⟨by rw [HN.out.1, HN.out.2.1, HN.out.2.2], K.out, Mod.of_below B4.out⟩
  have hne : (x.epoch != epoch + 1) = false := by rw [hq]; simp
  have hWY := HWH.out
  rw [if_pos hq] at hWY
  have HW := hid hWY
  have HS := hid ((stepE_yes (E := ⟨id, sched, epoch, needs, bound, done⟩) (x := x) hWY).trans HDN.out)
  obtain ⟨W1, hW1⟩ : ∃ W, W = ((V.setCell ⟨w.heap.size, 2, none⟩ (.int .i64 x.epoch)).setCell ⟨w.heap.size, 1, none⟩ (.int .i64 x.sched)).drew := ⟨_, rfl⟩
  have hW1b : ((V.setCell ⟨w.heap.size, 1, none⟩ (.int .i64 x.sched)).setCell ⟨w.heap.size, 2, none⟩ (.int .i64 x.epoch)).drew = W1 := by rw [hW1, setCell_comm _ _ _ _ _ _ (by decide)]
  have HZ1b := hid (show W1.heap[w.heap.size]? = some (.cells #[.int .i64 id, .int .i64 x.sched, .int .i64 x.epoch, .slice EA n1 ea, .slice EB n2 eb, .slice ED n3 ed] 64 (0, 0)) by
    rw [hW1]
    have h := heap_set (heap_set HZ1.out 2 (.int .i64 x.epoch)) 1 (.int .i64 x.sched)
    exact (show ((V.setCell ⟨w.heap.size, 2, none⟩ (.int .i64 x.epoch)).setCell ⟨w.heap.size, 1, none⟩ (.int .i64 x.sched)).heap[w.heap.size]? = _ by simpa using h))
  have HN1 := hid (show ∀ k, k ≠ w.heap.size → W1.heap[k]? = V.heap[k]? from fun k hk => by
    rw [hW1]
    exact (Below.heap_setCell _ _ _ _ hk).trans (Below.heap_setCell _ _ _ _ hk))
  have HB1 := hid (show Below w.heap.size V W1 by rw [hW1]; exact (((Below.refl _ _).setCell (p := ⟨w.heap.size, 2, none⟩) (Nat.le_refl _) _).setCell (p := ⟨w.heap.size, 1, none⟩) (Nat.le_refl _) _).drew)
  have HZ3b := hid ((HN1.out (w.heap.size + 2) (by omega)).trans HZ3.out)
  obtain ⟨p7, _, _⟩ := cells_of_block ((HN1.out (w.heap.size + 1) (by omega)).trans HZ2.out)
  have x4b := p7 4 _ rfl
  have x5b := p7 5 _ rfl
  have HE1 := hid (HE.out.away (k := w.heap.size) HN1.out (fun v hv hj => by have := (HE.out.lt v hv _ hj).1; rw [← HN.out.1, ← HN.out.2.1, ← HN.out.2.2] at hv; have := (HLT.out v hv _ hj).2; omega))
  obtain ⟨W', hW', _, T0, T1, T2, T3, T4, T5, TB, TN, _⟩ := set6 HZ3b.out (.int .i64 id) (.int .i64 x.sched) (.int .i64 x.epoch) (.slice EA n1 ea) (.slice EB n2 eb) (.slice ED n3 ed)
  obtain ⟨p5, g5, l5⟩ := cells_of_block HZ3b.out
  have q0 := p5 0 _ rfl
  have q1 := p5 1 _ rfl
  have q2 := p5 2 _ rfl
  have q3 := p5 3 _ rfl
  have q4 := p5 4 _ rfl
  have q5 := p5 5 _ rfl
  have u0 := g5 0
  have u1 := g5 1
  have u2 := g5 2
  have u3 := g5 3
  have u4 := g5 4
  have u5 := g5 5
  obtain ⟨p6, _, _⟩ := cells_of_block HZ1b.out
  have z0 := p6 0 _ rfl
  have z1 := p6 1 _ rfl
  have z2 := p6 2 _ rfl
  have z3 := p6 3 _ rfl
  have z4 := p6 4 _ rfl
  have z5 := p6 5 _ rfl
  have B4 := hid (show Below w.heap.size w W' from (HBV.out.trans HB1.out).trans (TB.mono (by omega)))
  have K := hid (HE1.out.away (k := w.heap.size + 2) TN (fun v hv hj => by rw [← HN.out.1, ← HN.out.2.1, ← HN.out.2.2] at hv; have := (HLT.out v hv _ hj).2; omega))
  have KE := hid (show EOwn W' B ⟨id, x.sched, x.epoch, needs, bound, done⟩ EA EB ED ea eb ed from ⟨K.out.needs, K.out.bound, K.out.done⟩)
  have hW1a := hW1.symm
  clear p5 g5 TB TN hWY HWH hq p6 K hW1 p7
  go_enter Try.func40, Try.ntmps40
  go_wp2_with fail
  go_region_held3 (fun w' => w'.cell? ⟨w.heap.size + 1, 4, none⟩ = some (.int .i64 x.sched) ∧ w'.cell? ⟨w.heap.size + 1, 5, none⟩ = some (.int .i64 x.epoch)) (first | exact ⟨x4, x5⟩ | exact ⟨x4b, x5b⟩ | go_keep) (fail)
  all_goals
    go_wp2
    rw [← hW']
    refine bodyPost_ret (by simp [results, Try.results40, go_sem, T0, T1, T2, T3, T4, T5]; try rfl) rfl ?_
    rw [HS.out, HW.out]
    exact ⟨by rw [HN.out.1, HN.out.2.1, HN.out.2.2], KE.out, Mod.of_below B4.out⟩
end Go.Proofs.Ytkjncmmombkllaa
