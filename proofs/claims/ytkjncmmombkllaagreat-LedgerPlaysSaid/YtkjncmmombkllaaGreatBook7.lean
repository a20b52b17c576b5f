/- book.stepped of a task's record. -/
import Derived.Test.YtkjncmmombkllaaGreatBookD
import Derived.Test.YtkjncmmombkllaaGreatBase
namespace Go.Proofs.YtkjncmmombkllaaGreat
open Go.RowKit

theorem Own.typed {α : Type} {d : Kd α} {e : TypeId} {w : World} {base : Nat} {T : Nat → Prop} {v : Value} {xs : List α} (h : Own d e w base T v xs) (k : Nat) (hk : v.ownBlock = some k) : ∃ cur, w.heap[k]? = some (.cells cur e (0, 0)) := by
  obtain ⟨_, cells, h1, _⟩ := h
  rcases h1.2 with ⟨h3, _⟩ | ⟨g, cap, cur, h3, hb, h5, _⟩
  · rw [h3] at hk; cases hk
  · rw [h3] at hk
    cases hk
    exact ⟨cur, h5⟩
theorem Own.other {α β : Type} {d : Kd α} {d2 : Kd β} {e e2 : TypeId} {w : World} {base base2 : Nat} {T T2 : Nat → Prop} {v v2 : Value} {xs : List α} {ys : List β} (h : Own d e w base T v xs) (h2 : Own d2 e2 w base2 T2 v2 ys) (he : e ≠ e2) (k : Nat) (hk : v.ownBlock = some k) : v2.ownBlock ≠ some k := fun h3 => by
  obtain ⟨c1, q1⟩ := h.typed k hk
  obtain ⟨c2, q2⟩ := h2.typed k h3
  rw [q1] at q2
  injection q2 with q2
  injection q2 with _ q2 _
  exact he q2
theorem add_lit0 (g k : Nat) : (⟨g, 0, none⟩ : Addr).add k = ⟨g, k, none⟩ := by
  unfold Addr.add
  split
  · rename_i h; rw [h]
  · simp
set_option maxHeartbeats 4000000 in
set_option maxRecDepth 100000 in
theorem bstepped_task (E : EntryS) (EA EB ED : Option Addr) (ea eb ed : Nat) (x : RecS) (XA : Option Addr) (xc : Nat) (B : Nat) (w : World) (hE : EOwn w B E EA EB ED ea eb ed) (hB : B ≤ w.heap.size) (hep : EOk E) (hx : recOk x = true) (hkk : x.kind = 2 ∨ x.kind = 3) :
    Calls Tryz.prog 55 #[.agg #[.int .i64 E.id, .int .i64 E.sched, .int .i64 E.epoch, .slice EA E.needs.length ea, .slice EB E.bound.length eb, .slice ED E.done.length ed], .agg #[.int .i64 x.kind, .int .i64 x.job, .int .i64 x.task, .int .i64 x.worker, .int .i64 x.sched, .int .i64 x.epoch, .slice XA x.needs.length xc]] w fun e w' => e = .returned (.tuple #[.agg #[.int .i64 (stepE E x).id, .int .i64 (stepE E x).sched, .int .i64 (stepE E x).epoch, .slice EA (stepE E x).needs.length ea, .slice EB (stepE E x).bound.length eb, .slice ED (stepE E x).done.length ed], .int .i64 (whyE E x)]) ∧ EOwn w' B (stepE E x) EA EB ED ea eb ed ∧ Mod (fun j => (Value.slice EB E.bound.length eb).ownBlock = some j ∨ (Value.slice ED E.done.length ed).ownBlock = some j) w w' := by
  obtain ⟨V, hV⟩ : ∃ V, V = ((w.alloc (.cells #[.int .i64 E.id, .int .i64 E.sched, .int .i64 E.epoch, .slice EA E.needs.length ea, .slice EB E.bound.length eb, .slice ED E.done.length ed] 55)).alloc (.cells #[.int .i64 x.kind, .int .i64 x.job, .int .i64 x.task, .int .i64 x.worker, .int .i64 x.sched, .int .i64 x.epoch, .slice XA x.needs.length xc] 46)).alloc (.cells #[.int .i64 0, .int .i64 0, .int .i64 0, .slice none 0 0, .slice none 0 0, .slice none 0 0] 55) := ⟨_, rfl⟩
  have hb0 : Below w.heap.size w V := by rw [hV]; exact bAlloc (bAlloc (bAlloc (Below.refl _ _) _) _) _
  have HZ1 := hid (show V.heap[w.heap.size]? = some (.cells #[.int .i64 E.id, .int .i64 E.sched, .int .i64 E.epoch, .slice EA E.needs.length ea, .slice EB E.bound.length eb, .slice ED E.done.length ed] 55 (0, 0)) by rw [hV, Below.heap_alloc _ _ _ (by simp; omega), Below.heap_alloc _ _ _ (by simp)]; exact heap_at rfl)
  have HZ2 := hid (show V.heap[w.heap.size + 1]? = some (.cells #[.int .i64 x.kind, .int .i64 x.job, .int .i64 x.task, .int .i64 x.worker, .int .i64 x.sched, .int .i64 x.epoch, .slice XA x.needs.length xc] 46 (0, 0)) by rw [hV, Below.heap_alloc _ _ _ (by simp)]; exact heap_at (by simp))
  have HZ3 := hid (show V.heap[w.heap.size + 2]? = some (.cells #[.int .i64 0, .int .i64 0, .int .i64 0, .slice none 0 0, .slice none 0 0, .slice none 0 0] 55 (0, 0)) by rw [hV]; exact heap_at (by simp))
  have HVS := hid (show V.heap.size = w.heap.size + 3 by rw [hV]; simp)
  have HBV := hid hb0
  have HE := hid (hE.below hb0)
  have HLT := hid hE.lt
  have HBW := hid hB
  have HT := hid hep.tasks
  have hk4 : ¬ x.kind = 4 := by omega
  have HW8 := hid (whyE_task (E := E) hk4)
  have HW2 := hid (fun hk => whyE_bind (E := E) (x := x) hk)
  have HW3 := hid (fun hk => whyE_end (E := E) (x := x) hk)
  have HD2 := hid (fun hk => doneE_bind (E := E) (x := x) hk)
  have HD3 := hid (fun hk => doneE_end (E := E) (x := x) hk)
  have HK2 := hid (fun hk => recOk_worker hx hk)
  have HTC := hid (fun (u : World) => btasks_calls E EA EB ED ea eb ed u)
  obtain ⟨k, hk⟩ : ∃ k : Nat, x.task = k := ⟨x.task.toNat, by have := recOk_task hx hkk; omega⟩
  have hkt : x.task.toNat = k := by rw [hk]; rfl
  have hEq := hV.symm
  have HBL := hid hep.bl
  have HDL := hid hep.dl
  obtain ⟨id, sched, epoch, needs, bound, done⟩ := E
  dsimp only at *
  rw [hkt] at HW2 HW3 HD2 HD3
  rw [hk] at HZ2 hEq HW8 HW2 HW3 ⊢
  obtain ⟨kd, hkd⟩ : ∃ kd, kd = x.kind := ⟨_, rfl⟩
  rw [← hkd] at HZ2 hEq hkk hk4 HW2 HW3 HD2 HD3 HK2 ⊢
  obtain ⟨n1, hn1⟩ : ∃ n, n = needs.length := ⟨_, rfl⟩
  obtain ⟨n2, hn2⟩ : ∃ n, n = bound.length := ⟨_, rfl⟩
  obtain ⟨n3, hn3⟩ : ∃ n, n = done.length := ⟨_, rfl⟩
  have HN := hid (And.intro hn1 (And.intro hn2 hn3))
  obtain ⟨tn, htn⟩ : ∃ tn, tn = tasksE ⟨id, sched, epoch, needs, bound, done⟩ := ⟨_, rfl⟩
  rw [← htn] at HT HW8 HW2 HW3 HTC
  rw [← hn1, ← hn2, ← hn3] at HZ1 hEq HLT HTC ⊢
  rw [← hn1] at HT HBL HDL
  rw [← hn2] at HBL
  rw [← hn3] at HDL
  clear hV hb0 hE hep hB hn1 hn2 hn3 hx hk hkd htn hkt
  have HS := hid (fun (u : World) (h : Below V.heap.size V u) => (show u.cell? ⟨w.heap.size + 1, 2, none⟩ = some (.int .i64 k) ∧ u.cell? ⟨w.heap.size, 0, none⟩ = some (.int .i64 id) ∧ u.cell? ⟨w.heap.size, 1, none⟩ = some (.int .i64 sched) ∧ u.cell? ⟨w.heap.size, 2, none⟩ = some (.int .i64 epoch) ∧ u.cell? ⟨w.heap.size, 3, none⟩ = some (.slice EA n1 ea) ∧ u.cell? ⟨w.heap.size, 4, none⟩ = some (.slice EB n2 eb) ∧ u.cell? ⟨w.heap.size, 5, none⟩ = some (.slice ED n3 ed) from by
    obtain ⟨p1, _, _⟩ := cells_of_block ((h.block (w.heap.size + 1) (Array.getElem?_eq_some_iff.1 HZ2.out).1).trans HZ2.out)
    obtain ⟨p2, _, _⟩ := cells_of_block ((h.block w.heap.size (Array.getElem?_eq_some_iff.1 HZ1.out).1).trans HZ1.out)
    exact ⟨p1 2 _ rfl, p2 0 _ rfl, p2 1 _ rfl, p2 2 _ rfl, p2 3 _ rfl, p2 4 _ rfl, p2 5 _ rfl⟩))
  obtain ⟨p2, g2, l2⟩ := cells_of_block HZ2.out
  have x0 := p2 0 _ rfl
  clear p2 g2
  have hne4 : (kd == (4 : Int)) = false := by rw [beq_eq_false_iff_ne]; exact hk4
  have U0 := hid (Below.refl V.heap.size V).drew
  have q0 := HS.out V.drew U0.out
  go_enter Tryz.func55, Tryz.ntmps55
  go_wp2_with fail
  refine wp_region_held_drew (S := fun w' => w'.cell? ⟨w.heap.size + 1, 2, none⟩ = some (.int .i64 k) ∧ w'.cell? ⟨w.heap.size, 0, none⟩ = some (.int .i64 id) ∧ w'.cell? ⟨w.heap.size, 1, none⟩ = some (.int .i64 sched) ∧ w'.cell? ⟨w.heap.size, 2, none⟩ = some (.int .i64 epoch) ∧ w'.cell? ⟨w.heap.size, 3, none⟩ = some (.slice EA n1 ea) ∧ w'.cell? ⟨w.heap.size, 4, none⟩ = some (.slice EB n2 eb) ∧ w'.cell? ⟨w.heap.size, 5, none⟩ = some (.slice ED n3 ed)) (by kernel_rfl) q0 (fun hHeld => ?_)
  refine anyH_take 0 (v := ?_) rfl (by kernel_rfl) (by kernel_rfl) (by kernel_rfl) (fun _ _ _ h => h) (by rfl) hHeld ?_ ?_
  rotate_left
  · (intro w hSw; (try dsimp only at hSw); go_split_ands; go_simp; try with_reducible rfl)
  (try simp only [Act.put, List.setIfInBounds_toArray, List.set_cons_zero, List.set_cons_succ])
  refine anyH_take 1 (v := ?_) rfl (by kernel_rfl) (by kernel_rfl) (by kernel_rfl) (fun _ _ _ h => h) (by rfl) hHeld ?_ ?_
  rotate_left
  · (intro w hSw; (try dsimp only at hSw); go_split_ands; go_simp; try with_reducible rfl)
  (try simp only [Act.put, List.setIfInBounds_toArray, List.set_cons_zero, List.set_cons_succ])
  refine anyH_take 2 (v := ?_) rfl (by kernel_rfl) (by kernel_rfl) (by kernel_rfl) (fun _ _ _ h => h) (by rfl) hHeld ?_ ?_
  rotate_left
  · (intro w hSw; (try dsimp only at hSw); go_split_ands; go_simp; try with_reducible rfl)
  (try simp only [Act.put, List.setIfInBounds_toArray, List.set_cons_zero, List.set_cons_succ])
  refine anyH_one 3 rfl (by kernel_rfl) (fun K hK => ?_)
  go_simp
  refine (HTC.out V.drew).mono ?_
  rintro e w1 ⟨rfl, hb1⟩
  have U1 := hid (bThen U0.out hb1)
  clear hb1
  go_simp
  refine hK.out _ _ (HS.out _ U1.out) (fun hHeld => ?_)
  clear hK K
  (try simp only [Act.put, List.setIfInBounds_toArray, List.set_cons_zero, List.set_cons_succ])
  refine anyH_take 4 (v := ?_) rfl (by kernel_rfl) (by kernel_rfl) (by kernel_rfl) (fun _ _ _ h => h) (by rfl) hHeld ?_ ?_
  rotate_left
  · (intro w hSw; (try dsimp only at hSw); go_split_ands; go_simp; try with_reducible rfl)
  (try simp only [Act.put, List.setIfInBounds_toArray, List.set_cons_zero, List.set_cons_succ])
  refine anyH_take 5 (v := ?_) rfl (by kernel_rfl) (by kernel_rfl) (by kernel_rfl) (fun _ _ _ h => h) (by rfl) hHeld ?_ ?_
  rotate_left
  · (intro w hSw; (try dsimp only at hSw); go_split_ands; go_simp; try with_reducible rfl)
  (try simp only [Act.put, List.setIfInBounds_toArray, List.set_cons_zero, List.set_cons_succ])
  refine wpAnyH_done (by kernel_rfl) ?_ _
  have HZ1w := hid ((U1.out.block w.heap.size (Array.getElem?_eq_some_iff.1 HZ1.out).1).trans HZ1.out)
  have HZ2w := hid ((U1.out.block (w.heap.size + 1) (Array.getElem?_eq_some_iff.1 HZ2.out).1).trans HZ2.out)
  have HZ3w := hid ((U1.out.block (w.heap.size + 2) (Array.getElem?_eq_some_iff.1 HZ3.out).1).trans HZ3.out)
  have HEw := hid (HE.out.below U1.out)
  have HBw := hid (bThen HBV.out U1.out)
  have hgx : True := trivial
  clear hEq x0 q0 HS HZ1 HZ2 HZ3 HE hHeld
  obtain ⟨p2, g2, l2⟩ := cells_of_block HZ2w.out
  have x0 := p2 0 _ rfl
  have x2 := p2 2 _ rfl
  have x3 := p2 3 _ rfl
  have x5 := p2 5 _ rfl
  clear p2 g2
  obtain ⟨p2, g2, l2⟩ := cells_of_block HZ1w.out
  have y0 := p2 0 _ rfl
  have y1 := p2 1 _ rfl
  have y2 := p2 2 _ rfl
  have y3 := p2 3 _ rfl
  have y4 := p2 4 _ rfl
  have y5 := p2 5 _ rfl
  clear p2 g2
  by_cases hge : (tn : Int) ≤ (k : Int)
  case pos =>
    have HW := hid (HW8.out hge)
    have HSE := hid (stepE_no (E := ⟨id, sched, epoch, needs, bound, done⟩) (x := x) (by rw [HW.out]; decide))
    obtain ⟨W', hW', _, T0, T1, T2, T3, T4, T5, TB, TN, _⟩ := set6 HZ3w.out (.int .i64 id) (.int .i64 sched) (.int .i64 epoch) (.slice EA n1 ea) (.slice EB n2 eb) (.slice ED n3 ed)
    obtain ⟨p5, g5, l5⟩ := cells_of_block HZ3w.out
    have q0 := p5 0 _ rfl
    have q1 := p5 1 _ rfl
    have q2 := p5 2 _ rfl
    have q3 := p5 3 _ rfl
    have q4 := p5 4 _ rfl
    have q5 := p5 5 _ rfl
    have u0 := g5 0
    have u1 := g5 1
    have u2 := g5 2
    have u3 := g5 3
    have u4 := g5 4
    have u5 := g5 5
    have B4 := hid (show Mod (fun j => (Value.slice EB n2 eb).ownBlock = some j ∨ (Value.slice ED n3 ed).ownBlock = some j) w W' from (Mod.of_below HBw.out).of_box TB (by omega))
    have K := hid (HEw.out.away (k := w.heap.size + 2) TN (fun v hv hj => by rw [← HN.out.1, ← HN.out.2.1, ← HN.out.2.2] at hv; have := (HLT.out v hv _ hj).2; omega))
    clear p5 g5 TB TN
    go_wp2
    rw [← hW']
    refine bodyPost_ret (by simp [results, Tryz.results55, go_sem, T0, T1, T2, T3, T4, T5]; try rfl) rfl ?_
    rw [HSE.out, HW.out]
    exact ⟨by simp [HN.out.1, HN.out.2.1, HN.out.2.2], K.out, B4.out⟩
  have hltN : k < n1 := by have := HT.out; omega
  have hgeF := hid hge
  obtain ⟨gb, rfl, _⟩ := HEw.out.bound.first (by show 0 < bound.length; rw [← HN.out.2.1]; have := HBL.out; omega)
  obtain ⟨gd, rfl, _⟩ := HEw.out.done.first (by show 0 < done.length; rw [← HN.out.2.2]; have := HDL.out; omega)
  obtain ⟨ab, vb, hab, hxb, r0⟩ := (K_row HEw.out.bound.K).1.at_int k (by show k < bound.length; rw [← HN.out.2.1]; have := HBL.out; omega)
  injection hab with hab
  subst hab
  obtain ⟨ad, vd, had, hxd, r1⟩ := (K_row HEw.out.done.K).1.at_bool k (by show k < done.length; rw [← HN.out.2.2]; have := HDL.out; omega)
  injection had with had
  subst had
  have HXB := hid (show bound[k]? = some vb from hxb)
  have HXD := hid (show done[k]? = some vd from hxd)
  have HGB := hid (show bound.getD k 0 = vb by rw [List.getD_eq_getElem?_getD, HXB.out]; rfl)
  have HGD := hid (show done.getD k false = vd by rw [List.getD_eq_getElem?_getD, HXD.out]; rfl)
  rw [HGB.out] at HW2 HW3
  rw [HGD.out] at HW3
  have hltI2 : (k : Int) < (n2 : Int) := by have := HBL.out; omega
  have hltI3 : (k : Int) < (n3 : Int) := by have := HDL.out; omega
  have hk0 : (0 : Int) ≤ (k : Int) := by omega
  have rf0 : w1.frozen? ⟨gb, k, none⟩ = false := by exact HEw.out.bound.free.2.2 _
  have rf1 : w1.frozen? ⟨gd, k, none⟩ = false := by exact HEw.out.done.free.2.2 _
  rw [add_lit0] at r0 r1
  clear hxb hxd
  by_cases h2 : kd = 2
  · subst h2
    clear hkk hk4 hne4
    have hne4 : ((2 : Int) == (4 : Int)) = false := by decide
    by_cases hq : x.epoch = epoch
    case neg =>
      have hne : (x.epoch != epoch) = true := by rw [bne_iff_ne]; exact hq
      have HW := hid ((HW2.out rfl (by omega)).trans (if_pos hq))
      have HSE := hid (stepE_no (E := ⟨id, sched, epoch, needs, bound, done⟩) (x := x) (by rw [HW.out]; decide))
      clear hq
      obtain ⟨W', hW', _, T0, T1, T2, T3, T4, T5, TB, TN, _⟩ := set6 HZ3w.out (.int .i64 id) (.int .i64 sched) (.int .i64 epoch) (.slice EA n1 ea) (.slice (some ⟨gb, 0, none⟩) n2 eb) (.slice (some ⟨gd, 0, none⟩) n3 ed)
      obtain ⟨p5, g5, l5⟩ := cells_of_block HZ3w.out
      have q0 := p5 0 _ rfl
      have q1 := p5 1 _ rfl
      have q2 := p5 2 _ rfl
      have q3 := p5 3 _ rfl
      have q4 := p5 4 _ rfl
      have q5 := p5 5 _ rfl
      have u0 := g5 0
      have u1 := g5 1
      have u2 := g5 2
      have u3 := g5 3
      have u4 := g5 4
      have u5 := g5 5
      have B4 := hid (show Mod (fun j => (Value.slice (some ⟨gb, 0, none⟩) n2 eb).ownBlock = some j ∨ (Value.slice (some ⟨gd, 0, none⟩) n3 ed).ownBlock = some j) w W' from (Mod.of_below HBw.out).of_box TB (by omega))
      have K := hid (HEw.out.away (k := w.heap.size + 2) TN (fun v hv hj => by rw [← HN.out.1, ← HN.out.2.1, ← HN.out.2.2] at hv; have := (HLT.out v hv _ hj).2; omega))
      clear p5 g5 TB TN
      go_wp2
      rw [← hW']
      refine bodyPost_ret (by simp [results, Tryz.results55, go_sem, T0, T1, T2, T3, T4, T5]; try rfl) rfl ?_
      rw [HSE.out, HW.out]
      exact ⟨by simp [HN.out.1, HN.out.2.1, HN.out.2.2], K.out, B4.out⟩
    have hne : (x.epoch != epoch) = false := by rw [hq]; simp
    have HW2b := hid ((HW2.out rfl (by omega)).trans (if_neg (fun h => h hq)))
    clear hq
    by_cases hv : vb = 0
    case neg =>
      have hnv : (vb != 0) = true := by rw [bne_iff_ne]; exact hv
      have HW := hid (HW2b.out.trans (if_pos hv))
      have HSE := hid (stepE_no (E := ⟨id, sched, epoch, needs, bound, done⟩) (x := x) (by rw [HW.out]; decide))
      clear hv
      obtain ⟨W', hW', _, T0, T1, T2, T3, T4, T5, TB, TN, _⟩ := set6 HZ3w.out (.int .i64 id) (.int .i64 sched) (.int .i64 epoch) (.slice EA n1 ea) (.slice (some ⟨gb, 0, none⟩) n2 eb) (.slice (some ⟨gd, 0, none⟩) n3 ed)
      obtain ⟨p5, g5, l5⟩ := cells_of_block HZ3w.out
      have q0 := p5 0 _ rfl
      have q1 := p5 1 _ rfl
      have q2 := p5 2 _ rfl
      have q3 := p5 3 _ rfl
      have q4 := p5 4 _ rfl
      have q5 := p5 5 _ rfl
      have u0 := g5 0
      have u1 := g5 1
      have u2 := g5 2
      have u3 := g5 3
      have u4 := g5 4
      have u5 := g5 5
      have B4 := hid (show Mod (fun j => (Value.slice (some ⟨gb, 0, none⟩) n2 eb).ownBlock = some j ∨ (Value.slice (some ⟨gd, 0, none⟩) n3 ed).ownBlock = some j) w W' from (Mod.of_below HBw.out).of_box TB (by omega))
      have K := hid (HEw.out.away (k := w.heap.size + 2) TN (fun v hv hj => by rw [← HN.out.1, ← HN.out.2.1, ← HN.out.2.2] at hv; have := (HLT.out v hv _ hj).2; omega))
      clear p5 g5 TB TN
      go_wp2
      rw [← hW']
      refine bodyPost_ret (by simp [results, Tryz.results55, go_sem, T0, T1, T2, T3, T4, T5]; try rfl) rfl ?_
      rw [HSE.out, HW.out]
      exact ⟨by simp [HN.out.1, HN.out.2.1, HN.out.2.2], K.out, B4.out⟩
    subst hv
    have HW := hid (HW2b.out.trans (if_neg (fun h => h rfl)))
    have HSE := hid ((stepE_yes (E := ⟨id, sched, epoch, needs, bound, done⟩) (x := x) HW.out).trans (HD2.out rfl))
    have hwk := HK2.out rfl
    have hww : IntKind.i64.wrap (x.worker + 1) = x.worker + 1 := IntWalk.i64_in _ (by omega)
    obtain ⟨W1, hW1⟩ : ∃ W, W = w1.setCell ⟨gb, k, none⟩ (.int .i64 (x.worker + 1)) := ⟨_, rfl⟩
    have HN1 := hid (show ∀ j, j ≠ gb → W1.heap[j]? = w1.heap[j]? from fun j hj => by rw [hW1]; exact Below.heap_setCell _ _ _ _ hj)
    have HS1 := hid (show W1.heap.size = w1.heap.size by rw [hW1]; simp)
    have HGl := hid (show B ≤ gb ∧ gb < w.heap.size from HLT.out _ (.inr (.inl rfl)) gb rfl)
    have HB1 := hid (show Below B w1 W1 by rw [hW1]; exact (Below.refl _ _).setCell (p := ⟨gb, k, none⟩) HGl.out.1 _)
    have HE1 := hid (show EOwn W1 B ⟨id, sched, epoch, needs, bound.set k (x.worker + 1), done⟩ EA (some ⟨gb, 0, none⟩) (some ⟨gd, 0, none⟩) ea eb ed from
      ⟨HEw.out.needs.move (fun j hj _ => HN1.out j (fun e => hj.elim (fun h => h) (fun hj => HEw.out.bound.other HEw.out.needs (by decide) gb rfl (by rw [← e]; exact hj)))) (fun _ h _ => h),
       by
        have h := HEw.out.bound.set k 0 (x.worker + 1) HXB.out 0 (by decide) (.int .i64 (x.worker + 1)) (fun w S cs hc => by
          have hc : cs = [.int .i64 0] := hc
          rw [hc]; rfl) ⟨gb, k, none⟩ (by simp [I64, Kd.int, Kd.flat])
        rw [← hW1] at h
        show Own I64 _ _ _ _ (.slice _ (bound.set k (x.worker + 1)).length _) _
        rw [List.length_set]
        exact h,
       HEw.out.done.move (fun j hj _ => HN1.out j (fun e => hj.elim (fun h => h) (fun hj => HEw.out.bound.other HEw.out.done (by decide) gb rfl (by rw [← e]; exact hj)))) (fun _ h _ => h)⟩)
    have HZ1b := hid ((HN1.out w.heap.size (by have := HGl.out; omega)).trans HZ1w.out)
    have HZ3b := hid ((HN1.out (w.heap.size + 2) (by have := HGl.out; omega)).trans HZ3w.out)
    have HBw1 := hid (show Mod (fun j => (Value.slice (some ⟨gb, 0, none⟩) n2 eb).ownBlock = some j ∨ (Value.slice (some ⟨gd, 0, none⟩) n3 ed).ownBlock = some j) w W1 by rw [hW1]; exact (Mod.of_below HBw.out).setCell (p := ⟨gb, k, none⟩) (fun _ => .inl rfl) _)
    have hEq1 := hW1.symm
    obtain ⟨p2, g2, l2⟩ := cells_of_block HZ1b.out
    have z0 := p2 0 _ rfl
    have z1 := p2 1 _ rfl
    have z2 := p2 2 _ rfl
    have z3 := p2 3 _ rfl
    have z4 := p2 4 _ rfl
    have z5 := p2 5 _ rfl
    clear p2 g2 hW1 HW2 HW3 HW2b
    obtain ⟨W', hW', _, T0, T1, T2, T3, T4, T5, TB, TN, _⟩ := set6 HZ3b.out (.int .i64 id) (.int .i64 sched) (.int .i64 epoch) (.slice EA n1 ea) (.slice (some ⟨gb, 0, none⟩) n2 eb) (.slice (some ⟨gd, 0, none⟩) n3 ed)
    obtain ⟨p5, g5, l5⟩ := cells_of_block HZ3b.out
    have q0 := p5 0 _ rfl
    have q1 := p5 1 _ rfl
    have q2 := p5 2 _ rfl
    have q3 := p5 3 _ rfl
    have q4 := p5 4 _ rfl
    have q5 := p5 5 _ rfl
    have u0 := g5 0
    have u1 := g5 1
    have u2 := g5 2
    have u3 := g5 3
    have u4 := g5 4
    have u5 := g5 5
    have B4 := hid (show Mod (fun j => (Value.slice (some ⟨gb, 0, none⟩) n2 eb).ownBlock = some j ∨ (Value.slice (some ⟨gd, 0, none⟩) n3 ed).ownBlock = some j) w W' from HBw1.out.of_box TB (by omega))
    have K := hid (HE1.out.away (k := w.heap.size + 2) TN (fun v hv hj => by (have e1 : (bound.set k (x.worker + 1)).length = bound.length := List.length_set); dsimp only at hv; rw [e1] at hv; rw [← HN.out.1, ← HN.out.2.1, ← HN.out.2.2] at hv; have := (HLT.out v hv _ hj).2; omega))
    clear p5 g5 TB TN
    go_wp2
    rw [← hW']
    refine bodyPost_ret (by simp [results, Tryz.results55, go_sem, T0, T1, T2, T3, T4, T5]; try rfl) rfl ?_
    rw [HSE.out, HW.out]
    exact ⟨by simp [HN.out.1, HN.out.2.1, HN.out.2.2], K.out, B4.out⟩
  · obtain rfl : kd = 3 := by omega
    clear hkk hk4 h2
    by_cases hv : vb = 0
    · subst hv
      have HW := hid ((HW3.out rfl (by omega)).trans (if_pos rfl))
      have HSE := hid (stepE_no (E := ⟨id, sched, epoch, needs, bound, done⟩) (x := x) (by rw [HW.out]; decide))
      obtain ⟨W', hW', _, T0, T1, T2, T3, T4, T5, TB, TN, _⟩ := set6 HZ3w.out (.int .i64 id) (.int .i64 sched) (.int .i64 epoch) (.slice EA n1 ea) (.slice (some ⟨gb, 0, none⟩) n2 eb) (.slice (some ⟨gd, 0, none⟩) n3 ed)
      obtain ⟨p5, g5, l5⟩ := cells_of_block HZ3w.out
      have q0 := p5 0 _ rfl
      have q1 := p5 1 _ rfl
      have q2 := p5 2 _ rfl
      have q3 := p5 3 _ rfl
      have q4 := p5 4 _ rfl
      have q5 := p5 5 _ rfl
      have u0 := g5 0
      have u1 := g5 1
      have u2 := g5 2
      have u3 := g5 3
      have u4 := g5 4
      have u5 := g5 5
      have B4 := hid (show Mod (fun j => (Value.slice (some ⟨gb, 0, none⟩) n2 eb).ownBlock = some j ∨ (Value.slice (some ⟨gd, 0, none⟩) n3 ed).ownBlock = some j) w W' from (Mod.of_below HBw.out).of_box TB (by omega))
      have K := hid (HEw.out.away (k := w.heap.size + 2) TN (fun v hv hj => by rw [← HN.out.1, ← HN.out.2.1, ← HN.out.2.2] at hv; have := (HLT.out v hv _ hj).2; omega))
      clear p5 g5 TB TN
      go_wp2
      rw [← hW']
      refine bodyPost_ret (by simp [results, Tryz.results55, go_sem, T0, T1, T2, T3, T4, T5]; try rfl) rfl ?_
      rw [HSE.out, HW.out]
      exact ⟨by simp [HN.out.1, HN.out.2.1, HN.out.2.2], K.out, B4.out⟩
    have hnv : (vb == 0) = false := by rw [beq_eq_false_iff_ne]; exact hv
    have HW3b := hid ((HW3.out rfl (by omega)).trans (if_neg hv))
    clear hv
    cases vd with
    | true =>
      have HW := hid (HW3b.out.trans (if_pos rfl))
      have HSE := hid (stepE_no (E := ⟨id, sched, epoch, needs, bound, done⟩) (x := x) (by rw [HW.out]; decide))
      obtain ⟨W', hW', _, T0, T1, T2, T3, T4, T5, TB, TN, _⟩ := set6 HZ3w.out (.int .i64 id) (.int .i64 sched) (.int .i64 epoch) (.slice EA n1 ea) (.slice (some ⟨gb, 0, none⟩) n2 eb) (.slice (some ⟨gd, 0, none⟩) n3 ed)
      obtain ⟨p5, g5, l5⟩ := cells_of_block HZ3w.out
      have q0 := p5 0 _ rfl
      have q1 := p5 1 _ rfl
      have q2 := p5 2 _ rfl
      have q3 := p5 3 _ rfl
      have q4 := p5 4 _ rfl
      have q5 := p5 5 _ rfl
      have u0 := g5 0
      have u1 := g5 1
      have u2 := g5 2
      have u3 := g5 3
      have u4 := g5 4
      have u5 := g5 5
      have B4 := hid (show Mod (fun j => (Value.slice (some ⟨gb, 0, none⟩) n2 eb).ownBlock = some j ∨ (Value.slice (some ⟨gd, 0, none⟩) n3 ed).ownBlock = some j) w W' from (Mod.of_below HBw.out).of_box TB (by omega))
      have K := hid (HEw.out.away (k := w.heap.size + 2) TN (fun v hv hj => by rw [← HN.out.1, ← HN.out.2.1, ← HN.out.2.2] at hv; have := (HLT.out v hv _ hj).2; omega))
      clear p5 g5 TB TN
      go_wp2
      rw [← hW']
      refine bodyPost_ret (by simp [results, Tryz.results55, go_sem, T0, T1, T2, T3, T4, T5]; try rfl) rfl ?_
      rw [HSE.out, HW.out]
      exact ⟨by simp [HN.out.1, HN.out.2.1, HN.out.2.2], K.out, B4.out⟩
    | false =>
      have HW := hid (HW3b.out.trans (if_neg (by decide)))
      have HSE := hid ((stepE_yes (E := ⟨id, sched, epoch, needs, bound, done⟩) (x := x) HW.out).trans (HD3.out rfl))
      obtain ⟨W1, hW1⟩ : ∃ W, W = w1.setCell ⟨gd, k, none⟩ (.bool true) := ⟨_, rfl⟩
      have HN1 := hid (show ∀ j, j ≠ gd → W1.heap[j]? = w1.heap[j]? from fun j hj => by rw [hW1]; exact Below.heap_setCell _ _ _ _ hj)
      have HS1 := hid (show W1.heap.size = w1.heap.size by rw [hW1]; simp)
      have HGl := hid (show B ≤ gd ∧ gd < w.heap.size from HLT.out _ (.inr (.inr rfl)) gd rfl)
      have HB1 := hid (show Below B w1 W1 by rw [hW1]; exact (Below.refl _ _).setCell (p := ⟨gd, k, none⟩) HGl.out.1 _)
      have HE1 := hid (show EOwn W1 B ⟨id, sched, epoch, needs, bound, done.set k true⟩ EA (some ⟨gb, 0, none⟩) (some ⟨gd, 0, none⟩) ea eb ed from
        ⟨HEw.out.needs.move (fun j hj _ => HN1.out j (fun e => hj.elim (fun h => h) (fun hj => HEw.out.done.other HEw.out.needs (by decide) gd rfl (by rw [← e]; exact hj)))) (fun _ h _ => h),
         HEw.out.bound.move (fun j hj _ => HN1.out j (fun e => hj.elim (fun h => h) (fun hj => HEw.out.done.other HEw.out.bound (by decide) gd rfl (by rw [← e]; exact hj)))) (fun _ h _ => h),
         by
          have h := HEw.out.done.set k false true HXD.out 0 (by decide) (.bool true) (fun w S cs hc => by
            have hc : cs = [.bool false] := hc
            rw [hc]; rfl) ⟨gd, k, none⟩ (by simp [Kd.bool, Kd.flat])
          rw [← hW1] at h
          show Own Kd.bool _ _ _ _ (.slice _ (done.set k true).length _) _
          rw [List.length_set]
          exact h⟩)
      have HZ1b := hid ((HN1.out w.heap.size (by have := HGl.out; omega)).trans HZ1w.out)
      have HZ3b := hid ((HN1.out (w.heap.size + 2) (by have := HGl.out; omega)).trans HZ3w.out)
      have HBw1 := hid (show Mod (fun j => (Value.slice (some ⟨gb, 0, none⟩) n2 eb).ownBlock = some j ∨ (Value.slice (some ⟨gd, 0, none⟩) n3 ed).ownBlock = some j) w W1 by rw [hW1]; exact (Mod.of_below HBw.out).setCell (p := ⟨gd, k, none⟩) (fun _ => .inr rfl) _)
      have hEq1 := hW1.symm
      obtain ⟨p2, g2, l2⟩ := cells_of_block HZ1b.out
      have z0 := p2 0 _ rfl
      have z1 := p2 1 _ rfl
      have z2 := p2 2 _ rfl
      have z3 := p2 3 _ rfl
      have z4 := p2 4 _ rfl
      have z5 := p2 5 _ rfl
      clear p2 g2 hW1 HW2 HW3 HW3b
      obtain ⟨W', hW', _, T0, T1, T2, T3, T4, T5, TB, TN, _⟩ := set6 HZ3b.out (.int .i64 id) (.int .i64 sched) (.int .i64 epoch) (.slice EA n1 ea) (.slice (some ⟨gb, 0, none⟩) n2 eb) (.slice (some ⟨gd, 0, none⟩) n3 ed)
      obtain ⟨p5, g5, l5⟩ := cells_of_block HZ3b.out
      have q0 := p5 0 _ rfl
      have q1 := p5 1 _ rfl
      have q2 := p5 2 _ rfl
      have q3 := p5 3 _ rfl
      have q4 := p5 4 _ rfl
      have q5 := p5 5 _ rfl
      have u0 := g5 0
      have u1 := g5 1
      have u2 := g5 2
      have u3 := g5 3
      have u4 := g5 4
      have u5 := g5 5
      have B4 := hid (show Mod (fun j => (Value.slice (some ⟨gb, 0, none⟩) n2 eb).ownBlock = some j ∨ (Value.slice (some ⟨gd, 0, none⟩) n3 ed).ownBlock = some j) w W' from HBw1.out.of_box TB (by omega))
      have K := hid (HE1.out.away (k := w.heap.size + 2) TN (fun v hv hj => by (have e1 : (done.set k true).length = done.length := List.length_set); dsimp only at hv; rw [e1] at hv; rw [← HN.out.1, ← HN.out.2.1, ← HN.out.2.2] at hv; have := (HLT.out v hv _ hj).2; omega))
      clear p5 g5 TB TN
      go_wp2
      rw [← hW']
      refine bodyPost_ret (by simp [results, Tryz.results55, go_sem, T0, T1, T2, T3, T4, T5]; try rfl) rfl ?_
      rw [HSE.out, HW.out]
      exact ⟨by simp [HN.out.1, HN.out.2.1, HN.out.2.2], K.out, B4.out⟩
end Go.Proofs.YtkjncmmombkllaaGreat
