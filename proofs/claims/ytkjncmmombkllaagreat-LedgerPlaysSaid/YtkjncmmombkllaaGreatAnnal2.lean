import Derived.Test.YtkjncmmombkllaaGreatAnnal1
import Derived.Test.YtkjncmmombkllaaGreatBase
import Derived.Deep.RegionLaw
namespace Go.Proofs.YtkjncmmombkllaaGreat
open Go.RowKit Go.Lib

/-- An annal and its disk, in blocks of F that do not meet. -/
def Pair (w : World) (F : Nat → Prop) (ga gd : Nat) (D : DiskS) (l : List RecS) (down : Bool) : Prop :=
  ∃ T TD, (∀ k, T k → F k) ∧ (∀ k, TD k → F k) ∧ (∀ k, T k → TD k → False) ∧ AnAt w T ga gd l down ∧ DiskAt w TD gd D
theorem Pair.mono {w : World} {F F' : Nat → Prop} {ga gd : Nat} {D : DiskS} {l : List RecS} {down : Bool} (h : Pair w F ga gd D l down) (hF : ∀ k, k < w.heap.size → F k → F' k) : Pair w F' ga gd D l down := by
  obtain ⟨T, TD, h1, h2, h3, h4, h5⟩ := h
  exact ⟨fun k => T k ∧ k < w.heap.size, fun k => TD k ∧ k < w.heap.size, fun k hk => hF k hk.2 (h1 k hk.1), fun k hk => hF k hk.2 (h2 k hk.1), fun k hk hk2 => h3 k hk.1 hk2.1, h4.mono (fun k a b => ⟨b, a⟩), h5.mono (fun k a b => ⟨b, a⟩)⟩
theorem Pair.below {w w1 : World} {F : Nat → Prop} {ga gd : Nat} {D : DiskS} {l : List RecS} {down : Bool} (h : Pair w F ga gd D l down) (hb : Below w.heap.size w w1) : Pair w1 F ga gd D l down := by
  obtain ⟨T, TD, h1, h2, h3, h4, h5⟩ := h
  exact ⟨T, TD, h1, h2, h3, h4.below hb, h5.below hb⟩
theorem row_rec1 {W : World} {b : Nat} {x : RecS} {A : Option Addr} {n c : Nat} {fr : Nat × Nat} (hb : W.heap[b]? = some (.cells #[.int .i64 x.kind, .int .i64 x.job, .int .i64 x.task, .int .i64 x.worker, .int .i64 x.sched, .int .i64 x.epoch, .slice A n c] 46 fr)) (hn : Kd.str.slice.K W Any x.needs [.slice A n c]) : Kd.recK.slice.K W Any [x] [.slice (some ⟨b, 0, none⟩) 1 1] := by
  refine ⟨some ⟨b, 0, none⟩, 1, rfl, by simp, by simp, fun i y hy => ?_⟩
  cases i with
  | zero =>
    obtain rfl : x = y := by simpa using hy
    exact ⟨⟨b, 0, none⟩, _, rfl, trivial, (Array.getElem?_eq_some_iff.1 hb).1, rec_K hn, fun j u hu => by
      rw [Nat.zero_mul, Nat.zero_add]
      exact World.news_of_block hb _ _ (by simpa using hu)⟩
  | succ i => simp at hy
theorem row_rec1' {W : World} {b B : Nat} {x : RecS} {A : Option Addr} {n c : Nat} {fr : Nat × Nat} (hb : W.heap[b]? = some (.cells #[.int .i64 x.kind, .int .i64 x.job, .int .i64 x.task, .int .i64 x.worker, .int .i64 x.sched, .int .i64 x.epoch, .slice A n c] 46 fr)) (hB : B ≤ b) (hn : Kd.str.slice.K W (fun k => B ≤ k) x.needs [.slice A n c]) : Kd.recK.Row W (fun k => B ≤ k) (some ⟨b, 0, none⟩) [x] := by
  intro i y hy
  cases i with
  | zero =>
    obtain rfl : x = y := by simpa using hy
    exact ⟨⟨b, 0, none⟩, _, rfl, hB, (Array.getElem?_eq_some_iff.1 hb).1, rec_K hn, fun j u hu => by
      rw [Nat.zero_mul, Nat.zero_add]
      exact World.news_of_block hb _ _ (by simpa using hu)⟩
  | succ i => simp at hy
/-- What an append to an annal answers, and leaves: the disk, the records, down, the answer. -/
def anApp (D : DiskS) (l : List RecS) (down : Bool) (x : RecS) : DiskS × List RecS × Bool × Int :=
  if recOk x then (if down then (D, l, down, 15) else ((D.append (putL (recL x))).1, if (D.append (putL (recL x))).2 = 0 then l ++ [x] else l, (D.append (putL (recL x))).2 == 14, (D.append (putL (recL x))).2)) else (D, l, down, 1)

set_option maxHeartbeats 12800000 in
set_option maxRecDepth 100000 in
theorem anAppend_calls (F : Nat → Prop) (ga gd : Nat) (D : DiskS) (l : List RecS) (down : Bool) (w : World) (hp : Pair w F ga gd D l down) (x : RecS) (A : Option Addr) (n c : Nat) (hn : Kd.str.slice.K w (fun k => ¬ F k) x.needs [.slice A n c]) (hll : l.length < 100000) :
    Calls Tryz.prog 35 #[.pointer (some ⟨ga, 0, none⟩), .agg #[.int .i64 x.kind, .int .i64 x.job, .int .i64 x.task, .int .i64 x.worker, .int .i64 x.sched, .int .i64 x.epoch, .slice A n c]] w fun e w' => e = .returned (.int .i64 (anApp D l down x).2.2.2) ∧ Pair w' (fun k => F k ∨ w.heap.size ≤ k) ga gd (anApp D l down x).1 (anApp D l down x).2.1 (anApp D l down x).2.2.1 ∧ Mod F w w' := by
  have HP := hid hp
  have HN := hid hn
  clear hn
  obtain ⟨T0, TD0, f1, f2, f3, hA0, hD0⟩ := hp
  obtain ⟨W0, hW0⟩ : ∃ W0, W0 = w.alloc (.cells #[.int .i64 x.kind, .int .i64 x.job, .int .i64 x.task, .int .i64 x.worker, .int .i64 x.sched, .int .i64 x.epoch, .slice A n c] 46) := ⟨_, rfl⟩
  have b0 := hid (show Below w.heap.size w W0 by rw [hW0]; exact bAlloc (Below.refl _ _) _)
  have HX : Hid (W0.heap[w.heap.size]? = some (.cells #[.int .i64 x.kind, .int .i64 x.job, .int .i64 x.task, .int .i64 x.worker, .int .i64 x.sched, .int .i64 x.epoch, .slice A n c] 46 (0, 0))) := by rw [hW0]; exact heap_at rfl
  have hxx : w.heap.size < W0.heap.size := by rw [hW0]; simp
  obtain ⟨x0, x1, x2, x3, x4, x5, x6⟩ := rec_cells HX.out
  have CK := hid (fun w1 (h : Below w.heap.size w w1) => recCheck_calls x A n c w1 (Kd.any (Kd.below HN.out h)))
  cases hok : recOk x
  case false =>
    have HV := hid (show anApp D l down x = (D, l, down, 1) by unfold anApp; rw [hok]; rfl)
    clear hA0 hD0 f1 f2 f3
    go_enter Tryz.func35, Tryz.ntmps35
    go_wp2_with fail
    rw [← hW0]
    clear hW0
    go_wp2_with fail
    refine (CK.out _ b0.out).mono ?_
    rintro e w1 ⟨rfl, hb1⟩
    rw [hok]
    have B1 := hid (bThen b0.out hb1)
    clear hb1
    go_wp2
    go_ret
    rw [HV.out]
    exact ⟨rfl, (HP.out.below B1.out).mono (fun k _ h => .inl h), Mod.of_below B1.out⟩
  cases down
  case true =>
    have HV := hid (show anApp D l true x = (D, l, true, 15) by unfold anApp; rw [hok]; rfl)
    have HA := hid hA0
    clear hA0 hD0 f1 f2 f3
    go_enter Tryz.func35, Tryz.ntmps35
    go_wp2_with fail
    rw [← hW0]
    clear hW0
    go_wp2_with fail
    refine (CK.out _ b0.out).mono ?_
    rintro e w1 ⟨rfl, hb1⟩
    rw [hok]
    have B1 := hid (bThen b0.out hb1)
    obtain ⟨_, hga, _, _, _, _, _, _, d2, _, _, _, _⟩ := (HA.out.below B1.out).cells
    clear hb1
    go_wp2
    go_ret
    rw [HV.out]
    exact ⟨rfl, (HP.out.below B1.out).mono (fun k _ h => .inl h), Mod.of_below B1.out⟩
  have HA0 := hid hA0
  have HD0 := hid hD0
  obtain ⟨T, hT⟩ : ∃ T : Nat → Prop, T = fun k => T0 k ∧ k < w.heap.size := ⟨_, rfl⟩
  obtain ⟨TD, hTD⟩ : ∃ TD : Nat → Prop, TD = fun k => TD0 k ∧ k < w.heap.size := ⟨_, rfl⟩
  have hTl : ∀ k, T k → k < w.heap.size := by rw [hT]; exact fun k h => h.2
  have hTDl : ∀ k, TD k → k < w.heap.size := by rw [hTD]; exact fun k h => h.2
  have hTF : ∀ k, T k → F k := by rw [hT]; exact fun k h => f1 k h.1
  have hTDF : ∀ k, TD k → F k := by rw [hTD]; exact fun k h => f2 k h.1
  have hdj : ∀ k, T k → TD k → False := by rw [hT, hTD]; exact fun k h h2 => f3 k h.1 h2.1
  have HA1 := hid (show AnAt w T ga gd l false by rw [hT]; exact HA0.out.mono (fun k a b => ⟨b, a⟩))
  have HD1 := hid (show DiskAt w TD gd D by rw [hTD]; exact HD0.out.mono (fun k a b => ⟨b, a⟩))
  obtain ⟨pb, hpb⟩ : ∃ pb, pb = putL (recL x) := ⟨_, rfl⟩
  have HPB := hid (show bytesS [x] = pb by unfold bytesS; rw [List.flatMap_cons, hok, hpb]; simp)
  obtain ⟨r, hr⟩ : ∃ r, r = D.append pb := ⟨_, rfl⟩
  have HR := hid hr
  have HV := hid (show anApp D l false x = (r.1, if r.2 = 0 then l ++ [x] else l, r.2 == 14, r.2) by unfold anApp; rw [hok, ← hpb, ← hr]; rfl)
  have hga : ga < w.heap.size := HA1.out.cells.2.1
  have hTga : T ga := HA1.out.1
  have HTl := hid hTl
  have HTDl := hid hTDl
  have HTF := hid hTF
  have HTDF := hid hTDF
  have Hdj := hid hdj
  clear hA0 hD0 f1 f2 f3 hT hTD hpb hr hTl hTDl hTF hTDF hdj
  go_enter Tryz.func35, Tryz.ntmps35
  go_wp2_with fail
  rw [← hW0]
  clear hW0
  go_wp2_with fail
  refine (CK.out _ b0.out).mono ?_
  rintro e V ⟨rfl, hb1⟩
  rw [hok]
  have BV := hid (bThen b0.out hb1)
  have HXV := hid ((hb1.block _ hxx).trans HX.out)
  have hxV := Nat.lt_of_lt_of_le hxx hb1.size
  have hgV : ga < V.heap.size := by omega
  have HAV := hid (HA1.out.below BV.out)
  have HDV := hid (HD1.out.below BV.out)
  have HKV := hid (show Kd.str.slice.K V (fun k => ¬ F k) x.needs [.slice A n c] from Kd.below HN.out BV.out)
  obtain ⟨_, _, A3, c3, hc3, _, qp, q1', q2', _, hGV, _, _⟩ := HAV.out.cells
  have HGV := hGV
  have hTDl := HTDl.out
  have hdj := Hdj.out
  clear hb1 x0 x1 x2 x3 x4 x5 x6 q1'
  go_wp2_with fail
  obtain ⟨q0, q1, q2, q3, q4, q5, q6⟩ := rec_cells (W := V.drew) HXV.out
  refine wp_region_held_drew (S := fun w' => w'.cell? ⟨ga, 0, none⟩ = some (.pointer (some ⟨gd, 0, none⟩)) ∧ w'.cell? ⟨w.heap.size, 0, none⟩ = some (.int .i64 x.kind) ∧ w'.cell? ⟨w.heap.size, 1, none⟩ = some (.int .i64 x.job) ∧ w'.cell? ⟨w.heap.size, 2, none⟩ = some (.int .i64 x.task) ∧ w'.cell? ⟨w.heap.size, 3, none⟩ = some (.int .i64 x.worker) ∧ w'.cell? ⟨w.heap.size, 4, none⟩ = some (.int .i64 x.sched) ∧ w'.cell? ⟨w.heap.size, 5, none⟩ = some (.int .i64 x.epoch) ∧ w'.cell? ⟨w.heap.size, 6, none⟩ = some (.slice A n c)) (by kernel_rfl) ⟨qp, q0, q1, q2, q3, q4, q5, q6⟩ (fun hHeld => ?_)
  refine anyH_take 0 (v := ?_) rfl (by kernel_rfl) (by kernel_rfl) (by kernel_rfl) (fun _ _ _ h => h) (by rfl) hHeld ?_ ?_
  rotate_left
  · (intro w hSw; (try dsimp only at hSw); go_split_ands; go_simp; try with_reducible rfl)
  (try simp only [Act.put, List.setIfInBounds_toArray, List.set_cons_zero, List.set_cons_succ])
  refine anyH_take 1 (v := ?_) rfl (by kernel_rfl) (by kernel_rfl) (by kernel_rfl) (fun _ _ _ h => h) (by rfl) hHeld ?_ ?_
  rotate_left
  · (intro w hSw; (try dsimp only at hSw); go_split_ands; go_simp; try with_reducible rfl)
  (try simp only [Act.put, List.setIfInBounds_toArray, List.set_cons_zero, List.set_cons_succ])
  refine anyH_take 2 (v := ?_) rfl (by kernel_rfl) (by kernel_rfl) (by kernel_rfl) (fun _ _ _ h => h) (by rfl) hHeld ?_ ?_
  rotate_left
  · (intro w hSw; (try dsimp only at hSw); go_split_ands; go_simp; try with_reducible rfl)
  (try simp only [Act.put, List.setIfInBounds_toArray, List.set_cons_zero, List.set_cons_succ])
  refine anyH_take 3 (v := ?_) rfl (by kernel_rfl) (by kernel_rfl) (by kernel_rfl) (fun _ _ _ h => h) (by rfl) hHeld ?_ ?_
  rotate_left
  · (intro w hSw; (try dsimp only at hSw); go_split_ands; go_simp; try with_reducible rfl)
  (try simp only [Act.put, List.setIfInBounds_toArray, List.set_cons_zero, List.set_cons_succ])
  refine anyH_take 4 (v := ?_) rfl (by kernel_rfl) (by kernel_rfl) (by kernel_rfl) (fun _ _ _ h => h) (by rfl) hHeld ?_ ?_
  rotate_left
  · (intro w hSw; (try dsimp only at hSw); go_split_ands; go_simp; try with_reducible rfl)
  (try simp only [Act.put, List.setIfInBounds_toArray, List.set_cons_zero, List.set_cons_succ])
  refine anyH_take 5 (v := ?_) rfl (by kernel_rfl) (by kernel_rfl) (by kernel_rfl) (fun _ _ _ h => h) (by rfl) hHeld ?_ ?_
  rotate_left
  · (intro w hSw; (try dsimp only at hSw); go_split_ands; go_simp; try with_reducible rfl)
  (try simp only [Act.put, List.setIfInBounds_toArray, List.set_cons_zero, List.set_cons_succ])
  refine anyH_one 6 rfl (by kernel_rfl) (fun K hK => ?_)
  go_simp
  have U1 := hid (show Below V.heap.size V (V.drew.alloc (.cells #[.int .i64 x.kind, .int .i64 x.job, .int .i64 x.task, .int .i64 x.worker, .int .i64 x.sched, .int .i64 x.epoch, .slice A n c] 46)) from bAlloc (Below.refl V.heap.size V).drew _)
  obtain ⟨p0, p1, p2, p3, p4, p5, p6⟩ := rec_cells ((U1.out.block _ hxV).trans HXV.out)
  have pp := (cells_of_block ((U1.out.block _ hgV).trans HGV.out)).1 0 (.pointer (some ⟨gd, 0, none⟩)) rfl
  refine hK.out _ _ ⟨pp, p0, p1, p2, p3, p4, p5, p6⟩ (fun hHeld => ?_)
  clear hK K pp p0 p1 p2 p3 p4 p5 p6
  (try simp only [Act.put, List.setIfInBounds_toArray, List.set_cons_zero, List.set_cons_succ])
  refine anyH_one 7 rfl (by kernel_rfl) (fun K hK => ?_)
  go_simp
  refine (scBytes_calls [x] _ _ (row_rec1 (heap_alloc_new V.drew (.cells #[.int .i64 x.kind, .int .i64 x.job, .int .i64 x.task, .int .i64 x.worker, .int .i64 x.sched, .int .i64 x.epoch, .slice A n c] 46)) (Kd.any (Kd.below HKV.out U1.out))) (by simp)).mono ?_
  rintro e u2 ⟨A2, m2, c2, rfl, hO2, hb2⟩
  rw [HPB.out] at hO2
  have HO2 := hid hO2
  have U2 := hid (show Below V.heap.size V u2 from bThen U1.out hb2)
  have HK2 := hid (show Kd.u8.slice.K u2 (fun k => ¬ TD k) pb [.slice A2 m2 c2] from Kd.mono _ (fun k hk _ hT => by have := (hTDl k hT); rcases hk with hk | hk; exact hk.elim; have := U1.out.size; omega) (Own.K hO2))
  obtain ⟨p0, p1, p2, p3, p4, p5, p6⟩ := rec_cells ((U2.out.block _ hxV).trans HXV.out)
  have pp := (cells_of_block ((U2.out.block _ hgV).trans HGV.out)).1 0 (.pointer (some ⟨gd, 0, none⟩)) rfl
  clear hO2 hb2
  go_simp
  refine hK.out _ _ ⟨pp, p0, p1, p2, p3, p4, p5, p6⟩ (fun hHeld => ?_)
  clear hK K
  (try simp only [Act.put, List.setIfInBounds_toArray, List.set_cons_zero, List.set_cons_succ])
  clear pp p0 p1 p2 p3 p4 p5 p6
  refine anyH_one 8 rfl (by kernel_rfl) (fun K hK => ?_)
  go_simp
  refine (diskAppend_calls TD gd D pb _ _ (HDV.out.below U2.out) HK2.out).mono ?_
  rintro e u3 ⟨rfl, hd3, hM3⟩
  rw [← HR.out] at hd3
  rw [← HR.out]
  have HD3 := hid hd3
  have HM3 := hid hM3
  have HX3 := hid (show u3.heap[w.heap.size]? = some (.cells #[.int .i64 x.kind, .int .i64 x.job, .int .i64 x.task, .int .i64 x.worker, .int .i64 x.sched, .int .i64 x.epoch, .slice A n c] 46 (0, 0)) from (hM3.block _ (Nat.lt_of_lt_of_le hxV U2.out.size) (fun hT => by have := hTDl _ hT; omega)).trans ((U2.out.block _ hxV).trans HXV.out))
  have HA3 := hid (show AnAt u3 T ga gd l false from (HAV.out.below U2.out).move (fun k hk hT => hM3.block k hk (fun hT2 => hdj k hT hT2)))
  obtain ⟨p0, p1, p2, p3, p4, p5, p6⟩ := rec_cells HX3.out
  obtain ⟨_, _, _, _, _, _, pp, _⟩ := HA3.out.cells
  clear hd3 hM3
  go_simp
  refine hK.out _ _ ⟨pp, p0, p1, p2, p3, p4, p5, p6⟩ (fun hHeld => ?_)
  clear hK K
  (try simp only [Act.put, List.setIfInBounds_toArray, List.set_cons_zero, List.set_cons_succ])
  clear pp p0 p1 p2 p3 p4 p5 p6
  refine anyH_take 9 (v := ?_) rfl (by kernel_rfl) (by kernel_rfl) (by kernel_rfl) (fun _ _ _ h => h) (by rfl) hHeld ?_ ?_
  rotate_left
  · (intro w hSw; (try dsimp only at hSw); go_split_ands; go_simp; try with_reducible rfl)
  (try simp only [Act.put, List.setIfInBounds_toArray, List.set_cons_zero, List.set_cons_succ])
  refine wpAnyH_done (by kernel_rfl) ?_ _
  clear hHeld
  clear qp q0 q1 q2 q3 q4 q5 q6 q2' hTDl hdj hGV HGV
  have B2 := hid (show Below w.heap.size w u2 from bThen BV.out U2.out)
  have HM2 := hid (show Mod F w u3 from (Mod.of_below B2.out).trans HM3.out (fun k _ h => HTDF.out k h))
  have s2 := B2.out.size
  have s3 := HM3.out.size
  have HTD2 := hid (show DiskAt u3 (fun k => TD k ∨ u2.heap.size ≤ k ∧ k < u3.heap.size) gd r.1 from HD3.out.mono (fun k h1 h2 => h2.elim .inl (fun h => .inr ⟨h, h1⟩)))
  have HK3 := hid (show Kd.str.slice.K u3 Any x.needs [.slice A n c] from Kd.any (Kd.mod (Kd.below HKV.out U2.out) HM3.out (fun k _ h1 h2 => h1 (HTDF.out k h2))))
  have hxu : w.heap.size < u3.heap.size := (Array.getElem?_eq_some_iff.1 HX3.out).1
  obtain ⟨_, hgu, A4, c4, hc4, _, d0, d1, d2, df, _, _, _⟩ := HA3.out.cells
  have df2 := df 2
  have HA4 := hid (HA3.out.setDown (r.2 == 14))
  have HD4 := hid (show DiskAt (u3.setCell ⟨ga, 2, none⟩ (.bool (r.2 == 14))) (fun k => TD k ∨ u2.heap.size ≤ k ∧ k < u3.heap.size) gd r.1 from HTD2.out.move (fun k hk h => Below.heap_setCell _ ⟨ga, 2, none⟩ _ k (fun e => by subst e; rcases h with h | h; exact Hdj.out _ hTga h; have h1 := h.1; have := hga; omega)))
  have HM4 := hid (HM2.out.setCell (p := ⟨ga, 2, none⟩) (fun _ => HTF.out _ hTga) (.bool (r.2 == 14)))
  obtain ⟨u4, hu4⟩ : ∃ u4, u4 = u3.setCell ⟨ga, 2, none⟩ (.bool (r.2 == 14)) := ⟨_, rfl⟩
  have hs4 : u4.heap.size = u3.heap.size := by rw [hu4]; simp [World.setCell]
  have HX4 : Hid (u4.heap[w.heap.size]? = some (.cells #[.int .i64 x.kind, .int .i64 x.job, .int .i64 x.task, .int .i64 x.worker, .int .i64 x.sched, .int .i64 x.epoch, .slice A n c] 46 (0, 0))) := by rw [hu4]; exact (Below.heap_setCell _ ⟨ga, 2, none⟩ _ _ (show w.heap.size ≠ ga by omega)).trans HX3.out
  have HK4 : Hid (Kd.str.slice.K u4 Any x.needs [.slice A n c]) := by
    rw [hu4]
    exact Kd.any (Kd.str.slice.move (w1 := u3.setCell ⟨ga, 2, none⟩ (.bool (r.2 == 14))) (fun k h1 h2 => Below.heap_setCell _ ⟨ga, 2, none⟩ _ k (fun e => h1 (by subst e; exact HTF.out _ hTga))) (Kd.mod (Kd.below HKV.out U2.out) HM3.out (fun k _ h1 h2 => h1 (HTDF.out k h2))))
  rw [← hu4] at HA4 HD4 HM4
  clear df d0 d1
  by_cases he : r.2 = 0
  case neg =>
    have e0 : (r.2 == (0 : Int)) = false := by rw [beq_eq_false_iff_ne]; exact he
    have HV2 := hid (show anApp D l false x = (r.1, l, r.2 == 14, r.2) by rw [HV.out, if_neg he])
    clear he
    go_wp2
    rw [← hu4]
    go_ret
    rw [HV2.out]
    refine ⟨rfl, ⟨T, fun k => TD k ∨ u2.heap.size ≤ k ∧ k < u3.heap.size, fun k h => .inl (HTF.out k h), fun k h => h.elim (fun h => .inl (HTDF.out k h)) (fun h => .inr (by omega)), fun k h1 h2 => h2.elim (Hdj.out k h1) (fun h => by have := HTl.out k h1; omega), HA4.out, HD4.out⟩, HM4.out⟩
  case pos =>
    have e0 : (r.2 == (0 : Int)) = true := by rw [beq_iff_eq]; exact he
    have HV2 := hid (show anApp D l false x = (r.1, l ++ [x], r.2 == 14, r.2) by rw [HV.out, if_pos he])
    clear he
    go_wp2_with fail
    rw [← hu4]
    clear hu4 d2 df2
    obtain ⟨_, hgu4, A4', c4', hc4', hl4, d0, d1, d2, df, hh4, HO4, HNE4⟩ := HA4.out.cells
    obtain ⟨x0, x1, x2, x3, x4, x5, x6⟩ := rec_cells HX4.out
    have hnl : n ≤ 100000000 := by
      obtain ⟨A', n', he, _, hm, _⟩ := HK4.out
      injection he with he
      injection he with _ he _
      have h1 := recOk_needs hok
      rw [he]; omega
    have HOT := hid (HO4.out.widen (T' := fun k => (T k ∨ u4.heap.size ≤ k) ∧ k ≠ ga) (fun k h => ⟨.inl h.1, h.2⟩))
    have HTPa := hid (show ∀ k, u4.heap.size ≤ k → ((T k ∨ u4.heap.size ≤ k) ∧ k ≠ ga) ∧ some k ≠ (Value.slice A4' l.length c4').ownBlock from fun k h1 => ⟨⟨.inr h1, by omega⟩, fun e => by have := HTl.out k (HNE4.out k e.symm).1; omega⟩)
    clear d0 d2 df hc3
    go_wp2_with fail
    go_region_law (first
      | (refine appends_step Kd.recK 0 rfl _ _ 67 46 (.agg zRec) 72 rfl Tryz.underlying67 Tryz.infoRec rfl (by decide) (by decide) (.slice A4' l.length c4') l [x] (some ⟨u5.heap.size, 0, none⟩) 1 1 (fun k => (T k ∨ u4.heap.size ≤ k) ∧ k ≠ ga) (fun k => u4.heap.size ≤ k) (fun k => u4.heap.size ≤ k) rfl rfl rfl (row_rec1' (heap_alloc_new u5 _) (show u4.heap.size ≤ u5.heap.size from s5) (Kd.below HK5.out (bAlloc (Below.refl _ _) _))) (fun _ _ h => h) (fun k h1 _ => HTPa.out k h1) (HOT.out.below (bAlloc B5.out _)) (Nat.zero_le _) (by omega) ?_; intro v1 w7 hO7 hg7 hat; obtain ⟨A7, m7, c7, rfl, hq1, hq2⟩ := hO7.shape'; have B45 := hid (show Below u4.heap.size u4 (u5.alloc (.cells #[.int .i64 x.kind, .int .i64 x.job, .int .i64 x.task, .int .i64 x.worker, .int .i64 x.sched, .int .i64 x.epoch, .slice A5 n5 c5] 46)) from bAlloc B5.out _); have HG7 := hid hg7; have HO7 := hid hO7; have HAT := hid hat; have HH7 := hid ((hg7.block ga (Nat.lt_of_lt_of_le hgu4 B45.out.size) (fun e => (HNE4.out ga e.symm).2 rfl)).trans ((B45.out.block ga hgu4).trans hh4.out)); have y1 := (cells_of_block HH7.out).1 1 (.slice A4' l.length c4') rfl; have yf := (cells_of_block HH7.out).2.1 1; have yl := (cells_of_block HH7.out).2.2; clear hO7 hg7 hat hq1 hq2)
      | (go_simp; refine (anCopied_calls x A n c _ (Kd.below HK4.out (Below.refl _ _).drew) hnl).mono ?_; rintro e u5 ⟨A5, n5, c5, rfl, hk5, hb5⟩; have B5 := hid (show Below u4.heap.size u4 u5 from bThen (Below.refl _ _).drew hb5); have s5 := B5.out.size; have HK5 := hid (show Kd.str.slice.K u5 (fun k => u4.heap.size ≤ k) x.needs [.slice A5 n5 c5] from hk5); have z1 := (cells_of_block ((B5.out.block ga hgu4).trans hh4.out)).1 1 (.slice A4' l.length c4') rfl; have z1a := fun o => (cells_of_block (((bAlloc B5.out o).block ga hgu4).trans hh4.out)).1 1 (.slice A4' l.length c4') rfl; clear hk5 hb5)
      | fail)
    all_goals
      go_wp2
      go_ret
      rw [HV2.out]
      have hne7 : ∀ k, (Value.slice A7 m7 c7).ownBlock = some k → (T k ∨ u4.heap.size ≤ k) ∧ k ≠ ga := fun k hk => by
        rcases HAT.out with h | ⟨b, h, hb⟩
        · rw [h] at hk
          exact ⟨.inl (HNE4.out k hk).1, (HNE4.out k hk).2⟩
        · rw [h] at hk
          injection hk with hk
          subst hk
          have := B45.out.size
          exact ⟨.inr (by omega), by omega⟩
      refine ⟨rfl, ⟨fun k => T k ∨ u4.heap.size ≤ k, fun k => TD k ∨ u2.heap.size ≤ k ∧ k < u3.heap.size, fun k h => h.elim (fun h => .inl (HTF.out k h)) (fun h => .inr (by omega)), fun k h => h.elim (fun h => .inl (HTDF.out k h)) (fun h => .inr (by omega)), fun k h1 h2 => ?_, ⟨.inl hTga, by simp; omega, .slice A7 m7 c7, by have := heap_set HH7.out 1 (.slice A7 m7 c7); simpa using this, HO7.out.setCell (p := ⟨ga, 1, none⟩) (fun h => h.2 rfl) (fun e => (hne7 _ e).2 rfl) _, hne7⟩, ?_⟩, ?_⟩
      · rcases h1 with h1 | h1 <;> rcases h2 with h2 | h2
        · exact Hdj.out k h1 h2
        · have := HTl.out k h1; omega
        · have := HTDl.out k h2; omega
        · omega
      · refine (HD4.out.below B45.out).move (fun k hk h => (Below.heap_setCell _ ⟨ga, 1, none⟩ _ k (fun e => ?_)).trans (HG7.out.block k hk (fun e => ?_)))
        · subst e
          rcases h with h | h
          · exact Hdj.out _ hTga h
          · have := hga; omega
        · have h9 := (HNE4.out k e.symm).1
          rcases h with h | h
          · exact Hdj.out _ h9 h
          · have := HTl.out k h9; omega
      · exact ((HM4.out.then_below B45.out).grown HG7.out (fun k hk _ => HTF.out k (HNE4.out k hk).1)).setCell (p := ⟨ga, 1, none⟩) (fun _ => HTF.out _ hTga) _
end Go.Proofs.YtkjncmmombkllaaGreat
