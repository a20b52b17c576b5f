/- The document's net: Twice, Take. -/
import Derived.Test.YtlckkcefkiffjaaR28a
namespace Go.Proofs.Ytlckkcefkiffjaa
open Go.RowKit

theorem at_thing2 {w : World} {S : Nat → Prop} {A : Option Addr} {xs : List ThingS} (h : Kd.thing.Row w S A xs) (i : Nat) (hi : i < xs.length) :
    ∃ a x, A = some a ∧ xs[i]? = some x ∧ w.cell? (a.add (i * 4)) = some (.int .i64 x.f) ∧ w.cell? ⟨(a.add (i * 4)).block, (a.add (i * 4)).off + 1, none⟩ = some (.int .i64 x.t) ∧ w.cell? ⟨(a.add (i * 4)).block, (a.add (i * 4)).off + 2, none⟩ = some (.string x.s) ∧ w.cell? ⟨(a.add (i * 4)).block, (a.add (i * 4)).off + 3, none⟩ = some (.bool x.turned) := by
  obtain ⟨a, cs, h1, _, _, h4, h5⟩ := h i xs[i] (List.getElem?_eq_getElem hi)
  cases h4
  have key : ∀ (j : Nat) u, 0 < j → _ → w.cell? ⟨(a.add (i * 4)).block, (a.add (i * 4)).off + j, none⟩ = some u := fun j u hj hu => by
    have := h5 j u hu
    rwa [show i * Kd.thing.sz + j = i * 4 + j from rfl, ← Kd.add_add, Kd.add_lit (a.add (i * 4)) j hj] at this
  exact ⟨a, xs[i], h1, List.getElem?_eq_getElem hi, h5 0 _ rfl, key 1 _ (by decide) rfl, key 2 _ (by decide) rfl, key 3 _ (by decide) rfl⟩

set_option maxHeartbeats 1600000 in
set_option maxRecDepth 100000 in
theorem rTwice_no (S : Nat → Prop) (g : Nat) (N : NetS) (k : Int) (w : World) (hd : RNet w S g N) (h : k < 0 ∨ (N.l.length : Int) ≤ k) :
    Calls Try.prog 61 #[.pointer (some ⟨g, 0, none⟩), .int .i64 k] w fun e w' => e = .returned (.int .i64 6) ∧ w = w' := by
  obtain ⟨hT, hg, A, c, hc2, hc3, c0, c1, hf, hh, hro⟩ := hd.cells
  by_cases h1 : k < 0
  · clear h
    go_enter Try.func61, Try.ntmps61
    go_wp2
    go_ret
    exact ⟨rfl, rfl⟩
  · have h2 : (N.l.length : Int) ≤ k := by omega
    clear h
    go_enter Try.func61, Try.ntmps61
    go_wp2
    go_ret
    exact ⟨rfl, rfl⟩
set_option maxHeartbeats 1600000 in
set_option maxRecDepth 100000 in
theorem rTwice_full (S : Nat → Prop) (g : Nat) (N : NetS) (k : Nat) (w : World) (hd : RNet w S g N) (h : k < N.l.length) (hf : N.most ≤ N.l.length) :
    Calls Try.prog 61 #[.pointer (some ⟨g, 0, none⟩), .int .i64 k] w fun e w' => e = .returned (.int .i64 0) ∧ ∃ n, w' = w.drewN n := by
  obtain ⟨hT, hg, A, c, hc2, hc3, c0, c1, _, hh, hro⟩ := hd.cells
  have h1 : ¬ (k : Int) < 0 := by omega
  have h2 : ¬ (N.l.length : Int) ≤ (k : Int) := by omega
  have h3 : ¬ (N.l.length : Int) < N.most := by omega
  clear hd
  go_enter Try.func61, Try.ntmps61
  go_wp2_with fail
  go_quiet (fail)
  go_wp2
  go_ret
  exact ⟨rfl, _, rfl⟩
set_option maxHeartbeats 4000000 in
set_option maxRecDepth 100000 in
theorem rTwice_yes (S : Nat → Prop) (g : Nat) (N' : NetS) (k : Nat) (wr : World) (hd : RNet wr S g N') (hok : N'.ok) (h : k < N'.l.length) (hf : (N'.l.length : Int) < N'.most) :
    Calls Try.prog 61 #[.pointer (some ⟨g, 0, none⟩), .int .i64 k] wr fun e w' => e = .returned (.int .i64 0) ∧ ∃ x, N'.l[k]? = some x ∧ RNet w' (fun k => S k ∨ wr.heap.size ≤ k) g ⟨N'.l ++ [x], N'.most⟩ ∧ Mod S wr w' := by
  obtain ⟨hT, hg, A, c, hc2, hc3, c0, c1, _, hh, hro⟩ := hd.cells
  obtain ⟨a, x, rfl, hx, e0, e1, e2, e3⟩ := at_thing2 hro.out k h
  have HX := hid hx
  have hlen : (N'.l.length : Int) ≤ 1024 := by obtain ⟨h1, h2, h3⟩ := hok; omega
  have h1 : ¬ (k : Int) < 0 := by omega
  have h2 : ¬ (N'.l.length : Int) ≤ (k : Int) := by omega
  have hkI : (k : Int) < (N'.l.length : Int) := by omega
  have hk0 : (0 : Int) ≤ (k : Int) := by omega
  clear hd hx hok
  go_enter Try.func61, Try.ntmps61
  go_wp2_with fail
  go_quiet (fail)
  go_wp2_with fail
  obtain ⟨V, hV⟩ : ∃ V, V = wr.drewN nq := ⟨_, rfl⟩
  rw [← hV]
  have hvI : wr.heap.size ≤ V.heap.size := by rw [hV]; exact Nat.le_refl _
  have HBV := hid (show Below wr.heap.size wr V by rw [hV]; exact below_drewN (Below.refl _ _) _)
  have HCB := hid (fun u (h : Below wr.heap.size wr u) => (show u.cell? ⟨g, 0, none⟩ = some (.slice (some a) N'.l.length c) ∧ u.cell? (a.add (k * 4)) = some (.int .i64 x.f) ∧ u.cell? ⟨(a.add (k * 4)).block, (a.add (k * 4)).off + 1, none⟩ = some (.int .i64 x.t) ∧ u.cell? ⟨(a.add (k * 4)).block, (a.add (k * 4)).off + 2, none⟩ = some (.string x.s) ∧ u.cell? ⟨(a.add (k * 4)).block, (a.add (k * 4)).off + 3, none⟩ = some (.bool x.turned) from ⟨cell_keep h c0, cell_keep h e0, cell_keep h e1, cell_keep h e2, cell_keep h e3⟩))
  have HROW := hid (fun u (h : Below wr.heap.size wr u) => (show Kd.thing.Row u Any (some a) N'.l from (hro.out.below h).any))
  clear hV
  refine wp_region_K (S := fun w' => w'.cell? ⟨g, 0, none⟩ = some (.slice (some a) N'.l.length c) ∧ w'.cell? (a.add (k * 4)) = some (.int .i64 x.f) ∧ w'.cell? ⟨(a.add (k * 4)).block, (a.add (k * 4)).off + 1, none⟩ = some (.int .i64 x.t) ∧ w'.cell? ⟨(a.add (k * 4)).block, (a.add (k * 4)).off + 2, none⟩ = some (.string x.s) ∧ w'.cell? ⟨(a.add (k * 4)).block, (a.add (k * 4)).off + 3, none⟩ = some (.bool x.turned)) 18 (by kernel_rfl) (HCB.out _ HBV.out.drew) (fun hHeld => ?_)
  refine anyK_take 0 (v := ?_) rfl rfl (by kernel_rfl) (by kernel_rfl) (by kernel_rfl) (by kernel_rfl) (fun _ _ _ h => h) (by rfl) hHeld ?_ ?_
  rotate_left
  · (intro w hSw; (try dsimp only at hSw); go_split_ands; go_simp; try with_reducible rfl)
  (try simp only [Act.put, List.setIfInBounds_toArray, List.set_cons_zero, List.set_cons_succ])
  refine anyK_take 2 (v := ?_) rfl rfl (by kernel_rfl) (by kernel_rfl) (by kernel_rfl) (by kernel_rfl) (fun _ _ _ h => h) (by rfl) hHeld ?_ ?_
  rotate_left
  · (intro w hSw; (try dsimp only at hSw); go_split_ands; go_simp; try with_reducible rfl)
  (try simp only [Act.put, List.setIfInBounds_toArray, List.set_cons_zero, List.set_cons_succ])
  refine anyK_take 3 (v := ?_) rfl rfl (by kernel_rfl) (by kernel_rfl) (by kernel_rfl) (by kernel_rfl) (fun _ _ _ h => h) (by rfl) hHeld ?_ ?_
  rotate_left
  · (intro w hSw; (try dsimp only at hSw); go_split_ands; go_simp; try with_reducible rfl)
  (try simp only [Act.put, List.setIfInBounds_toArray, List.set_cons_zero, List.set_cons_succ])
  refine anyK_take 4 (v := ?_) rfl rfl (by kernel_rfl) (by kernel_rfl) (by kernel_rfl) (by kernel_rfl) (fun _ _ _ h => h) (by rfl) hHeld ?_ ?_
  rotate_left
  · (intro w hSw; (try dsimp only at hSw); go_split_ands; go_simp; try with_reducible rfl)
  (try simp only [Act.put, List.setIfInBounds_toArray, List.set_cons_zero, List.set_cons_succ])
  refine anyK_take 5 (v := ?_) rfl rfl (by kernel_rfl) (by kernel_rfl) (by kernel_rfl) (by kernel_rfl) (fun _ _ _ h => h) (by rfl) hHeld ?_ ?_
  rotate_left
  · (intro w hSw; (try dsimp only at hSw); go_split_ands; go_simp; try with_reducible rfl)
  (try simp only [Act.put, List.setIfInBounds_toArray, List.set_cons_zero, List.set_cons_succ])
  refine anyK_take 7 (v := ?_) rfl rfl (by kernel_rfl) (by kernel_rfl) (by kernel_rfl) (by kernel_rfl) (fun _ _ _ h => h) (by rfl) hHeld ?_ ?_
  rotate_left
  · (intro w hSw; (try dsimp only at hSw); go_split_ands; go_simp; try with_reducible rfl)
  (try simp only [Act.put, List.setIfInBounds_toArray, List.set_cons_zero, List.set_cons_succ])
  refine anyK_take 8 (v := ?_) rfl rfl (by kernel_rfl) (by kernel_rfl) (by kernel_rfl) (by kernel_rfl) (fun _ _ _ h => h) (by rfl) hHeld ?_ ?_
  rotate_left
  · (intro w hSw; (try dsimp only at hSw); go_split_ands; go_simp; try with_reducible rfl)
  (try simp only [Act.put, List.setIfInBounds_toArray, List.set_cons_zero, List.set_cons_succ])
  refine anyK_take 9 (v := ?_) rfl rfl (by kernel_rfl) (by kernel_rfl) (by kernel_rfl) (by kernel_rfl) (fun _ _ _ h => h) (by rfl) hHeld ?_ ?_
  rotate_left
  · (intro w hSw; (try dsimp only at hSw); go_split_ands; go_simp; try with_reducible rfl)
  (try simp only [Act.put, List.setIfInBounds_toArray, List.set_cons_zero, List.set_cons_succ])
  refine anyK_take 10 (v := ?_) rfl rfl (by kernel_rfl) (by kernel_rfl) (by kernel_rfl) (by kernel_rfl) (fun _ _ _ h => h) (by rfl) hHeld ?_ ?_
  rotate_left
  · (intro w hSw; (try dsimp only at hSw); go_split_ands; go_simp; try with_reducible rfl)
  (try simp only [Act.put, List.setIfInBounds_toArray, List.set_cons_zero, List.set_cons_succ])
  refine anyK_take 11 (v := ?_) rfl rfl (by kernel_rfl) (by kernel_rfl) (by kernel_rfl) (by kernel_rfl) (fun _ _ _ h => h) (by rfl) hHeld ?_ ?_
  rotate_left
  · (intro w hSw; (try dsimp only at hSw); go_split_ands; go_simp; try with_reducible rfl)
  (try simp only [Act.put, List.setIfInBounds_toArray, List.set_cons_zero, List.set_cons_succ])
  refine anyK_take 12 (v := ?_) rfl rfl (by kernel_rfl) (by kernel_rfl) (by kernel_rfl) (by kernel_rfl) (fun _ _ _ h => h) (by rfl) hHeld ?_ ?_
  rotate_left
  · (intro w hSw; (try dsimp only at hSw); go_split_ands; go_simp; try with_reducible rfl)
  (try simp only [Act.put, List.setIfInBounds_toArray, List.set_cons_zero, List.set_cons_succ])
  refine anyK_take 13 (v := ?_) rfl rfl (by kernel_rfl) (by kernel_rfl) (by kernel_rfl) (by kernel_rfl) (fun _ _ _ h => h) (by rfl) hHeld ?_ ?_
  rotate_left
  · (intro w hSw; (try dsimp only at hSw); go_split_ands; go_simp; try with_reducible rfl)
  (try simp only [Act.put, List.setIfInBounds_toArray, List.set_cons_zero, List.set_cons_succ])
  have PV := hid (show Below wr.heap.size wr V.drew from HBV.out.drew)
  refine anyK_two 1 14 rfl rfl (by kernel_rfl) (fun K hK => ?_) (fun K hK => ?_)
  · go_simp
    have P0 := hid (bAlloc' PV.out (.cells #[] 92))
    refine hK.out _ _ (fun _ => HCB.out _ P0.out) (fun _ => ?_)
    clear hK K
    (try simp only [Act.put, List.setIfInBounds_toArray, List.set_cons_zero, List.set_cons_succ])
    refine anyK_two 6 14 rfl rfl (by kernel_rfl) (fun K hK => ?_) (fun K hK => ?_)
    · refine appends_step Kd.thing wr.heap.size rfl _ _ 84 92 _ 40 rfl Try.underlying84 Try.infoRThing rfl (by decide) (by decide) (.slice (some ⟨V.heap.size, 0, none⟩) 0 0) [] N'.l (some a) N'.l.length c NoT Any NoT rfl rfl rfl (HROW.out _ P0.out) (fun _ _ h => h) (fun _ h => h.elim) (own_empty (show (V.alloc (.cells #[] 92)).heap[V.heap.size]? = _ from heap_at rfl) (by omega)) (P0.out.size) (by first | omega | (simp; omega)) ?_
      intro v1 w1 hO1 hg1 hat1
      have P1 := hid (P0.out.grown hg1 P0.out.size (fun k hk => by cases hk; simp; try omega))
      try rw [List.nil_append] at hO1
      have HO1 := hid hO1
      refine hK.out _ _ (fun _ => HCB.out _ P1.out) (fun _ => ?_)
      clear hK K hO1 hat1
      (try simp only [Act.put, List.setIfInBounds_toArray, List.set_cons_zero, List.set_cons_succ])
      refine anyK_one 14 rfl (by kernel_rfl) (fun K hK => ?_)
      go_simp
      have P3 := hid (bAlloc' P1.out (.cells #[.int .i64 x.f, .int .i64 x.t, .string x.s, .bool x.turned] 92))
      refine hK.out _ _ (fun _ => HCB.out _ P3.out) (fun _ => ?_)
      clear hK K
      (try simp only [Act.put, List.setIfInBounds_toArray, List.set_cons_zero, List.set_cons_succ])
      refine anyK_one 15 rfl (by kernel_rfl) (fun K hK => ?_)
      refine appends_step Kd.thing wr.heap.size rfl _ _ 84 92 _ 40 rfl Try.underlying84 Try.infoRThing rfl (by decide) (by decide) v1 N'.l [x] (some ⟨w1.heap.size, 0, none⟩) 1 1 NoT Any NoT rfl rfl rfl ((row_one (d := Kd.thing) (te := 92) (fr := (0, 0)) (cs := [.int .i64 x.f, .int .i64 x.t, .string x.s, .bool x.turned]) (p := x) (heap_at rfl) (fun _ => rfl)).any) (fun _ _ h => h) (fun _ h => h.elim) (HO1.out.alloc _) (P3.out.size) (by first | omega | (simp; omega)) ?_
      intro v2 w2 hO2 hg2 hat2
      have P2 := hid (P3.out.grown hg2 P3.out.size (fun k hk => (HO1.out.lt k hk).1))
      have HO2 := hid hO2
      refine hK.out _ _ (fun _ => HCB.out _ P2.out) (fun _ => ?_)
      clear hK K hO2 hg2 hat2
      (try simp only [Act.put, List.setIfInBounds_toArray, List.set_cons_zero, List.set_cons_succ])
      refine anyK_one 16 rfl (by kernel_rfl) (fun K hK => ?_)
      go_simp
      refine hK.out _ _ (fun _ => HCB.out _ P2.out) (fun _ => ?_)
      clear hK K
      (try simp only [Act.put, List.setIfInBounds_toArray, List.set_cons_zero, List.set_cons_succ])
      refine anyK_one 17 rfl (by kernel_rfl) (fun K hK => ?_)
      go_simp
      refine hK.out _ _ (fun _ => HCB.out _ P2.out) (fun _ => ?_)
      clear hK K
      (try simp only [Act.put, List.setIfInBounds_toArray, List.set_cons_zero, List.set_cons_succ])
      obtain ⟨A2, m2, c2, rfl, hq1, hq2⟩ := HO2.out.shape'
      obtain ⟨z0, z1, z2⟩ := cells_of_block ((P2.out.block g hg).trans hh.out)
      have y0 := z0 0 _ rfl
      have y1 := z1 0
      clear hq1 hq2 z0 z1
      refine anyK_one 18 rfl (by kernel_rfl) (fun K hK => ?_)
      go_simp
      refine hK.out _ _ (fun h => absurd rfl h) (fun _ => ?_)
      clear hK K
      (try simp only [Act.put, List.setIfInBounds_toArray, List.set_cons_zero, List.set_cons_succ])
      refine wpAnyK_done (by kernel_rfl) ?_ _
      go_wp2
      go_ret
      exact ⟨rfl, x, HX.out, RNet.put (.inl hT) ((P2.out.block g hg).trans hh.out) HO2.out (fun k h1 h2 => ⟨.inr (by omega), by omega⟩), ((Mod.of_below P2.out).setCell (p := ⟨g, 0, none⟩) (fun _ => hT) _)⟩
    · go_simp
      have P3 := hid (bAlloc' P0.out (.cells #[.int .i64 x.f, .int .i64 x.t, .string x.s, .bool x.turned] 92))
      refine hK.out _ _ (fun _ => HCB.out _ P3.out) (fun _ => ?_)
      clear hK K
      (try simp only [Act.put, List.setIfInBounds_toArray, List.set_cons_zero, List.set_cons_succ])
      refine anyK_one 6 rfl (by kernel_rfl) (fun K hK => ?_)
      refine appends_step Kd.thing wr.heap.size rfl _ _ 84 92 _ 40 rfl Try.underlying84 Try.infoRThing rfl (by decide) (by decide) (.slice (some ⟨V.heap.size, 0, none⟩) 0 0) [] N'.l (some a) N'.l.length c NoT Any NoT rfl rfl rfl (HROW.out _ P3.out) (fun _ _ h => h) (fun _ h => h.elim) (own_empty (show ((V.alloc (.cells #[] 92)).alloc (.cells #[.int .i64 x.f, .int .i64 x.t, .string x.s, .bool x.turned] 92)).heap[V.heap.size]? = _ from heap_old (by simp) (heap_at rfl)) (by omega)) (P3.out.size) (by first | omega | (simp; omega)) ?_
      intro v1 w1 hO1 hg1 hat1
      have P1 := hid (P3.out.grown hg1 P3.out.size (fun k hk => by cases hk; simp; try omega))
      try rw [List.nil_append] at hO1
      have HO1 := hid hO1
      refine hK.out _ _ (fun _ => HCB.out _ P1.out) (fun _ => ?_)
      clear hK K hO1 hat1
      (try simp only [Act.put, List.setIfInBounds_toArray, List.set_cons_zero, List.set_cons_succ])
      refine anyK_one 15 rfl (by kernel_rfl) (fun K hK => ?_)
      have hb3 := (hg1.block (V.heap.size + 1) (by first | simp | (simp; omega)) (fun e => by simp [Value.ownBlock] at e <;> omega)).trans (show ((V.alloc (.cells #[] 92)).alloc (.cells #[.int .i64 x.f, .int .i64 x.t, .string x.s, .bool x.turned] 92)).heap[V.heap.size + 1]? = _ from heap_at (by simp))
      refine appends_step Kd.thing wr.heap.size rfl _ _ 84 92 _ 40 rfl Try.underlying84 Try.infoRThing rfl (by decide) (by decide) v1 N'.l [x] (some ⟨V.heap.size + 1, 0, none⟩) 1 1 NoT Any NoT rfl rfl rfl ((row_one (d := Kd.thing) (te := 92) (fr := (0, 0)) (cs := [.int .i64 x.f, .int .i64 x.t, .string x.s, .bool x.turned]) (p := x) hb3 (fun _ => rfl)).any) (fun _ _ h => h) (fun _ h => h.elim) HO1.out (P1.out.size) (by first | omega | (simp; omega)) ?_
      intro v2 w2 hO2 hg2 hat2
      have P2 := hid (P1.out.grown hg2 P1.out.size (fun k hk => (HO1.out.lt k hk).1))
      have HO2 := hid hO2
      refine hK.out _ _ (fun _ => HCB.out _ P2.out) (fun _ => ?_)
      clear hK K hO2 hg2 hat2
      (try simp only [Act.put, List.setIfInBounds_toArray, List.set_cons_zero, List.set_cons_succ])
      refine anyK_one 16 rfl (by kernel_rfl) (fun K hK => ?_)
      go_simp
      refine hK.out _ _ (fun _ => HCB.out _ P2.out) (fun _ => ?_)
      clear hK K
      (try simp only [Act.put, List.setIfInBounds_toArray, List.set_cons_zero, List.set_cons_succ])
      refine anyK_one 17 rfl (by kernel_rfl) (fun K hK => ?_)
      go_simp
      refine hK.out _ _ (fun _ => HCB.out _ P2.out) (fun _ => ?_)
      clear hK K
      (try simp only [Act.put, List.setIfInBounds_toArray, List.set_cons_zero, List.set_cons_succ])
      obtain ⟨A2, m2, c2, rfl, hq1, hq2⟩ := HO2.out.shape'
      obtain ⟨z0, z1, z2⟩ := cells_of_block ((P2.out.block g hg).trans hh.out)
      have y0 := z0 0 _ rfl
      have y1 := z1 0
      clear hq1 hq2 z0 z1
      refine anyK_one 18 rfl (by kernel_rfl) (fun K hK => ?_)
      go_simp
      refine hK.out _ _ (fun h => absurd rfl h) (fun _ => ?_)
      clear hK K
      (try simp only [Act.put, List.setIfInBounds_toArray, List.set_cons_zero, List.set_cons_succ])
      refine wpAnyK_done (by kernel_rfl) ?_ _
      go_wp2
      go_ret
      exact ⟨rfl, x, HX.out, RNet.put (.inl hT) ((P2.out.block g hg).trans hh.out) HO2.out (fun k h1 h2 => ⟨.inr (by omega), by omega⟩), ((Mod.of_below P2.out).setCell (p := ⟨g, 0, none⟩) (fun _ => hT) _)⟩
  · go_simp
    have P0 := hid (bAlloc' PV.out (.cells #[.int .i64 x.f, .int .i64 x.t, .string x.s, .bool x.turned] 92))
    refine hK.out _ _ (fun _ => HCB.out _ P0.out) (fun _ => ?_)
    clear hK K
    (try simp only [Act.put, List.setIfInBounds_toArray, List.set_cons_zero, List.set_cons_succ])
    refine anyK_one 1 rfl (by kernel_rfl) (fun K hK => ?_)
    go_simp
    have P3 := hid (bAlloc' P0.out (.cells #[] 92))
    refine hK.out _ _ (fun _ => HCB.out _ P3.out) (fun _ => ?_)
    clear hK K
    (try simp only [Act.put, List.setIfInBounds_toArray, List.set_cons_zero, List.set_cons_succ])
    refine anyK_one 6 rfl (by kernel_rfl) (fun K hK => ?_)
    refine appends_step Kd.thing wr.heap.size rfl _ _ 84 92 _ 40 rfl Try.underlying84 Try.infoRThing rfl (by decide) (by decide) (.slice (some ⟨V.heap.size + 1, 0, none⟩) 0 0) [] N'.l (some a) N'.l.length c NoT Any NoT rfl rfl rfl (HROW.out _ P3.out) (fun _ _ h => h) (fun _ h => h.elim) (own_empty (show ((V.alloc (.cells #[.int .i64 x.f, .int .i64 x.t, .string x.s, .bool x.turned] 92)).alloc (.cells #[] 92)).heap[V.heap.size + 1]? = _ from heap_at (by simp)) (by omega)) (P3.out.size) (by first | omega | (simp; omega)) ?_
    intro v1 w1 hO1 hg1 hat1
    have P1 := hid (P3.out.grown hg1 P3.out.size (fun k hk => by cases hk; simp; try omega))
    try rw [List.nil_append] at hO1
    have HO1 := hid hO1
    refine hK.out _ _ (fun _ => HCB.out _ P1.out) (fun _ => ?_)
    clear hK K hO1 hat1
    (try simp only [Act.put, List.setIfInBounds_toArray, List.set_cons_zero, List.set_cons_succ])
    refine anyK_one 15 rfl (by kernel_rfl) (fun K hK => ?_)
    have hb3 := (hg1.block V.heap.size (by simp; omega) (fun e => by simp [Value.ownBlock] at e <;> omega)).trans (show ((V.alloc (.cells #[.int .i64 x.f, .int .i64 x.t, .string x.s, .bool x.turned] 92)).alloc (.cells #[] 92)).heap[V.heap.size]? = _ from heap_old (by simp) (heap_at rfl))
    refine appends_step Kd.thing wr.heap.size rfl _ _ 84 92 _ 40 rfl Try.underlying84 Try.infoRThing rfl (by decide) (by decide) v1 N'.l [x] (some ⟨V.heap.size, 0, none⟩) 1 1 NoT Any NoT rfl rfl rfl ((row_one (d := Kd.thing) (te := 92) (fr := (0, 0)) (cs := [.int .i64 x.f, .int .i64 x.t, .string x.s, .bool x.turned]) (p := x) hb3 (fun _ => rfl)).any) (fun _ _ h => h) (fun _ h => h.elim) HO1.out (P1.out.size) (by first | omega | (simp; omega)) ?_
    intro v2 w2 hO2 hg2 hat2
    have P2 := hid (P1.out.grown hg2 P1.out.size (fun k hk => (HO1.out.lt k hk).1))
    have HO2 := hid hO2
    refine hK.out _ _ (fun _ => HCB.out _ P2.out) (fun _ => ?_)
    clear hK K hO2 hg2 hat2
    (try simp only [Act.put, List.setIfInBounds_toArray, List.set_cons_zero, List.set_cons_succ])
    refine anyK_one 16 rfl (by kernel_rfl) (fun K hK => ?_)
    go_simp
    refine hK.out _ _ (fun _ => HCB.out _ P2.out) (fun _ => ?_)
    clear hK K
    (try simp only [Act.put, List.setIfInBounds_toArray, List.set_cons_zero, List.set_cons_succ])
    refine anyK_one 17 rfl (by kernel_rfl) (fun K hK => ?_)
    go_simp
    refine hK.out _ _ (fun _ => HCB.out _ P2.out) (fun _ => ?_)
    clear hK K
    (try simp only [Act.put, List.setIfInBounds_toArray, List.set_cons_zero, List.set_cons_succ])
    obtain ⟨A2, m2, c2, rfl, hq1, hq2⟩ := HO2.out.shape'
    obtain ⟨z0, z1, z2⟩ := cells_of_block ((P2.out.block g hg).trans hh.out)
    have y0 := z0 0 _ rfl
    have y1 := z1 0
    clear hq1 hq2 z0 z1
    refine anyK_one 18 rfl (by kernel_rfl) (fun K hK => ?_)
    go_simp
    refine hK.out _ _ (fun h => absurd rfl h) (fun _ => ?_)
    clear hK K
    (try simp only [Act.put, List.setIfInBounds_toArray, List.set_cons_zero, List.set_cons_succ])
    refine wpAnyK_done (by kernel_rfl) ?_ _
    go_wp2
    go_ret
    exact ⟨rfl, x, HX.out, RNet.put (.inl hT) ((P2.out.block g hg).trans hh.out) HO2.out (fun k h1 h2 => ⟨.inr (by omega), by omega⟩), ((Mod.of_below P2.out).setCell (p := ⟨g, 0, none⟩) (fun _ => hT) _)⟩
set_option maxHeartbeats 1600000 in
set_option maxRecDepth 100000 in
theorem rTake_no (S : Nat → Prop) (g : Nat) (N : NetS) (k : Int) (w : World) (hd : RNet w S g N) (h : k < 0 ∨ (N.l.length : Int) ≤ k) :
    Calls Try.prog 58 #[.pointer (some ⟨g, 0, none⟩), .int .i64 k] w fun e w' => e = .returned (.tuple #[.agg #[.int .i64 0, .int .i64 0, .string ⟨#[]⟩, .bool false], .int .i64 6]) ∧ Below w.heap.size w w' := by
  obtain ⟨hT, hg, A, c, hc2, hc3, c0, c1, hf, hh, hro⟩ := hd.cells
  by_cases h1 : k < 0
  · clear h
    go_enter Try.func58, Try.ntmps58
    go_wp2
    refine bodyPost_ret (v := .tuple #[.agg #[.int .i64 0, .int .i64 0, .string ⟨#[]⟩, .bool false], .int .i64 6]) (by simp [results, Try.results58, go_sem]) rfl ⟨rfl, ?_⟩
    exact bAlloc (Below.refl _ _) _
  · have h2 : (N.l.length : Int) ≤ k := by omega
    clear h
    go_enter Try.func58, Try.ntmps58
    go_wp2
    refine bodyPost_ret (v := .tuple #[.agg #[.int .i64 0, .int .i64 0, .string ⟨#[]⟩, .bool false], .int .i64 6]) (by simp [results, Try.results58, go_sem]) rfl ⟨rfl, ?_⟩
    exact bAlloc (Below.refl _ _) _
set_option maxHeartbeats 4000000 in
set_option maxRecDepth 100000 in
theorem rTake_yes (S : Nat → Prop) (g : Nat) (N' : NetS) (k : Nat) (wr : World) (hd : RNet wr S g N') (hok : N'.ok) (h : k < N'.l.length) :
    Calls Try.prog 58 #[.pointer (some ⟨g, 0, none⟩), .int .i64 k] wr fun e w' => ∃ x, N'.l[k]? = some x ∧ e = .returned (.tuple #[.agg #[.int .i64 x.f, .int .i64 x.t, .string x.s, .bool x.turned], .int .i64 0]) ∧ RNet w' (fun k => S k ∨ wr.heap.size ≤ k) g ⟨N'.l.eraseIdx k, N'.most⟩ ∧ Mod S wr w' := by
  obtain ⟨hT, hg, A, c, hc2, hc3, c0, c1, _, hh, hro⟩ := hd.cells
  obtain ⟨a, x, rfl, hx, e0, e1, e2, e3⟩ := at_thing2 hro.out k h
  have HX := hid hx
  have hlen : (N'.l.length : Int) ≤ 1024 := by obtain ⟨h1, h2, h3⟩ := hok; omega
  have h1 : ¬ (k : Int) < 0 := by omega
  have h2 : ¬ (N'.l.length : Int) ≤ (k : Int) := by omega
  have hkI : (k : Int) < (N'.l.length : Int) := by omega
  have hk0 : (0 : Int) ≤ (k : Int) := by omega
  obtain ⟨q, hq⟩ : ∃ q, N'.l.length = q := ⟨_, rfl⟩
  have HQ := hid hq
  rw [hq] at h hc2 hc3 c0 hh hkI hlen h2
  clear hd hx hok hq
  by_cases hcap : c = k + 1
  · subst hcap
    have m0 : ∀ o, (wr.alloc o).cell? (a.add (k * 4)) = some (.int .i64 x.f) := fun o => cell_keep (bAlloc (Below.refl _ _) o) e0
    have m1 : ∀ o, (wr.alloc o).cell? ⟨(a.add (k * 4)).block, (a.add (k * 4)).off + 1, none⟩ = some (.int .i64 x.t) := fun o => cell_keep (bAlloc (Below.refl _ _) o) e1
    have m2 : ∀ o, (wr.alloc o).cell? ⟨(a.add (k * 4)).block, (a.add (k * 4)).off + 2, none⟩ = some (.string x.s) := fun o => cell_keep (bAlloc (Below.refl _ _) o) e2
    have m3 : ∀ o, (wr.alloc o).cell? ⟨(a.add (k * 4)).block, (a.add (k * 4)).off + 3, none⟩ = some (.bool x.turned) := fun o => cell_keep (bAlloc (Below.refl _ _) o) e3
    go_enter Try.func58, Try.ntmps58
    go_wp2_with fail
    obtain ⟨V, hV⟩ : ∃ V, V = (wr.alloc (.cells #[.int .i64 0, .int .i64 0, .string ⟨#[]⟩, .bool false] 92)).alloc (.cells #[.int .i64 x.f, .int .i64 x.t, .string x.s, .bool x.turned] 92) := ⟨_, rfl⟩
    rw [← hV]
    have hVs : V.heap.size = wr.heap.size + 2 := by rw [hV]; simp
    have HBV := hid (show Below wr.heap.size wr V by rw [hV]; exact bAlloc (bAlloc (Below.refl _ _) _) _)
    have HZ1 := hid (show V.heap[wr.heap.size]? = some (.cells #[.int .i64 0, .int .i64 0, .string ⟨#[]⟩, .bool false] 92 (0, 0)) by rw [hV]; exact heap_old (by simp) (heap_at rfl))
    have HZ2 := hid (show V.heap[wr.heap.size + 1]? = some (.cells #[.int .i64 x.f, .int .i64 x.t, .string x.s, .bool x.turned] 92 (0, 0)) by rw [hV]; exact heap_at (by simp))
    have HCB := hid (fun u (h : Below wr.heap.size wr u) => (show u.cell? ⟨g, 0, none⟩ = some (.slice (some a) q (k + 1)) from cell_keep h c0))
    have HROW := hid (fun u (h : Below wr.heap.size wr u) => (show Kd.thing.Row u Any (some a) N'.l from (hro.out.below h).any))
    have hvI : wr.heap.size + 2 ≤ V.heap.size := by omega
    have HVS := hid hVs
    clear hV hVs e0 e1 e2 e3 m0 m1 m2 m3
    have hk1 : (k : Int) + 1 ≤ (q : Int) := by omega
    have hk2 : (0 : Int) ≤ (k : Int) + 1 := by omega
    have hk3 : ((k : Int) + 1).toNat = k + 1 := by omega
    have hk4 : k ≤ q := by omega
    have hk5 : k + 1 ≤ q := by omega
    have hk6 : (k : Int) ≤ (k : Int) + 1 := by omega
    have hk7 : (k : Int) ≤ (q : Int) := by omega
    have hw1 : IntKind.i64.wrap ((k : Int) + 1) = k + 1 := IntWalk.i64_in _ (by omega)
    refine wp_region_K (S := fun w' => w'.cell? ⟨g, 0, none⟩ = some (.slice (some a) q (k + 1))) 19 (by kernel_rfl) (HCB.out _ HBV.out.drew) (fun hHeld => ?_)
    refine anyK_take 0 (v := ?_) rfl rfl (by kernel_rfl) (by kernel_rfl) (by kernel_rfl) (by kernel_rfl) (fun _ _ _ h => h) (by rfl) hHeld ?_ ?_
    rotate_left
    · (intro w hSw; (try dsimp only at hSw); go_split_ands; go_simp; try with_reducible rfl)
    (try simp only [Act.put, List.setIfInBounds_toArray, List.set_cons_zero, List.set_cons_succ])
    refine anyK_take 2 (v := ?_) rfl rfl (by kernel_rfl) (by kernel_rfl) (by kernel_rfl) (by kernel_rfl) (fun _ _ _ h => h) (by rfl) hHeld ?_ ?_
    rotate_left
    · (intro w hSw; (try dsimp only at hSw); go_split_ands; go_simp; try with_reducible rfl)
    (try simp only [Act.put, List.setIfInBounds_toArray, List.set_cons_zero, List.set_cons_succ])
    refine anyK_take 3 (v := ?_) rfl rfl (by kernel_rfl) (by kernel_rfl) (by kernel_rfl) (by kernel_rfl) (fun _ _ _ h => h) (by rfl) hHeld ?_ ?_
    rotate_left
    · (intro w hSw; (try dsimp only at hSw); go_split_ands; go_simp; try with_reducible rfl)
    (try simp only [Act.put, List.setIfInBounds_toArray, List.set_cons_zero, List.set_cons_succ])
    refine anyK_take 4 (v := ?_) rfl rfl (by kernel_rfl) (by kernel_rfl) (by kernel_rfl) (by kernel_rfl) (fun _ _ _ h => h) (by rfl) hHeld ?_ ?_
    rotate_left
    · (intro w hSw; (try dsimp only at hSw); go_split_ands; go_simp; try with_reducible rfl)
    (try simp only [Act.put, List.setIfInBounds_toArray, List.set_cons_zero, List.set_cons_succ])
    refine anyK_take 5 (v := ?_) rfl rfl (by kernel_rfl) (by kernel_rfl) (by kernel_rfl) (by kernel_rfl) (fun _ _ _ h => h) (by rfl) hHeld ?_ ?_
    rotate_left
    · (intro w hSw; (try dsimp only at hSw); go_split_ands; go_simp; try with_reducible rfl)
    (try simp only [Act.put, List.setIfInBounds_toArray, List.set_cons_zero, List.set_cons_succ])
    refine anyK_take 6 (v := ?_) rfl rfl (by kernel_rfl) (by kernel_rfl) (by kernel_rfl) (by kernel_rfl) (fun _ _ _ h => h) (by rfl) hHeld ?_ ?_
    rotate_left
    · (intro w hSw; (try dsimp only at hSw); go_split_ands; go_simp; try with_reducible rfl)
    (try simp only [Act.put, List.setIfInBounds_toArray, List.set_cons_zero, List.set_cons_succ])
    refine anyK_take 7 (v := ?_) rfl rfl (by kernel_rfl) (by kernel_rfl) (by kernel_rfl) (by kernel_rfl) (fun _ _ _ h => h) (by rfl) hHeld ?_ ?_
    rotate_left
    · (intro w hSw; (try dsimp only at hSw); go_split_ands; go_simp; try with_reducible rfl)
    (try simp only [Act.put, List.setIfInBounds_toArray, List.set_cons_zero, List.set_cons_succ])
    refine anyK_take 9 (v := ?_) rfl rfl (by kernel_rfl) (by kernel_rfl) (by kernel_rfl) (by kernel_rfl) (fun _ _ _ h => h) (by rfl) hHeld ?_ ?_
    rotate_left
    · (intro w hSw; (try dsimp only at hSw); go_split_ands; go_simp; try with_reducible rfl)
    (try simp only [Act.put, List.setIfInBounds_toArray, List.set_cons_zero, List.set_cons_succ])
    refine anyK_take 10 (v := ?_) rfl rfl (by kernel_rfl) (by kernel_rfl) (by kernel_rfl) (by kernel_rfl) (fun _ _ _ h => h) (by rfl) hHeld ?_ ?_
    rotate_left
    · (intro w hSw; (try dsimp only at hSw); go_split_ands; go_simp; try with_reducible rfl)
    (try simp only [Act.put, List.setIfInBounds_toArray, List.set_cons_zero, List.set_cons_succ])
    refine anyK_take 11 (v := ?_) rfl rfl (by kernel_rfl) (by kernel_rfl) (by kernel_rfl) (by kernel_rfl) (fun _ _ _ h => h) (by rfl) hHeld ?_ ?_
    rotate_left
    · (intro w hSw; (try dsimp only at hSw); go_split_ands; go_simp; try with_reducible rfl)
    (try simp only [Act.put, List.setIfInBounds_toArray, List.set_cons_zero, List.set_cons_succ])
    refine anyK_take 12 (v := ?_) rfl rfl (by kernel_rfl) (by kernel_rfl) (by kernel_rfl) (by kernel_rfl) (fun _ _ _ h => h) (by rfl) hHeld ?_ ?_
    rotate_left
    · (intro w hSw; (try dsimp only at hSw); go_split_ands; go_simp; try with_reducible rfl)
    (try simp only [Act.put, List.setIfInBounds_toArray, List.set_cons_zero, List.set_cons_succ])
    refine anyK_take 13 (v := ?_) rfl rfl (by kernel_rfl) (by kernel_rfl) (by kernel_rfl) (by kernel_rfl) (fun _ _ _ h => h) (by rfl) hHeld ?_ ?_
    rotate_left
    · (intro w hSw; (try dsimp only at hSw); go_split_ands; go_simp; try with_reducible rfl)
    (try simp only [Act.put, List.setIfInBounds_toArray, List.set_cons_zero, List.set_cons_succ])
    refine anyK_take 14 (v := ?_) rfl rfl (by kernel_rfl) (by kernel_rfl) (by kernel_rfl) (by kernel_rfl) (fun _ _ _ h => h) (by rfl) hHeld ?_ ?_
    rotate_left
    · (intro w hSw; (try dsimp only at hSw); go_split_ands; go_simp; try with_reducible rfl)
    (try simp only [Act.put, List.setIfInBounds_toArray, List.set_cons_zero, List.set_cons_succ])
    refine anyK_take 15 (v := ?_) rfl rfl (by kernel_rfl) (by kernel_rfl) (by kernel_rfl) (by kernel_rfl) (fun _ _ _ h => h) (by rfl) hHeld ?_ ?_
    rotate_left
    · (intro w hSw; (try dsimp only at hSw); go_split_ands; go_simp; try with_reducible rfl)
    (try simp only [Act.put, List.setIfInBounds_toArray, List.set_cons_zero, List.set_cons_succ])
    refine anyK_one 1 rfl (by kernel_rfl) (fun K hK => ?_)
    go_simp
    have P0 := hid (bAlloc' HBV.out.drew (.cells #[] 92))
    refine hK.out _ _ (fun _ => HCB.out _ P0.out) (fun _ => ?_)
    clear hK K
    (try simp only [Act.put, List.setIfInBounds_toArray, List.set_cons_zero, List.set_cons_succ])
    refine anyK_one 8 rfl (by kernel_rfl) (fun K hK => ?_)
    refine appends_step Kd.thing V.heap.size rfl _ _ 84 92 _ 40 rfl Try.underlying84 Try.infoRThing rfl (by decide) (by decide) (.slice (some ⟨V.heap.size, 0, none⟩) 0 0) [] (N'.l.take k) (some a) k (k + 1) NoT Any NoT rfl rfl (by rw [List.length_take, HQ.out]; omega) ((HROW.out _ P0.out).take k) (fun _ _ h => h) (fun _ h => h.elim) (own_empty (show (V.alloc (.cells #[] 92)).heap[V.heap.size]? = _ from heap_at rfl) (Nat.le_refl _)) (by simp) (by first | omega | (simp; omega)) ?_
    intro v1 w1 hO1 hg1 hat1
    have P1 := hid (P0.out.grown hg1 P0.out.size (fun k hk => by simp [Value.ownBlock] at hk; omega))
    have Q1 := hid (show Below V.heap.size V w1 from (bAlloc (Below.refl V.heap.size V).drew (.cells #[] 92)).grown hg1 (by simp) (fun k hk => by simp [Value.ownBlock] at hk; omega))
    try rw [List.nil_append] at hO1
    have HO1 := hid hO1
    refine hK.out _ _ (fun _ => HCB.out _ P1.out) (fun _ => ?_)
    clear hK K hO1 hat1 hg1
    (try simp only [Act.put, List.setIfInBounds_toArray, List.set_cons_zero, List.set_cons_succ])
    refine anyK_one 16 rfl (by kernel_rfl) (fun K hK => ?_)
    refine appends_step Kd.thing V.heap.size rfl _ _ 84 92 _ 40 rfl Try.underlying84 Try.infoRThing rfl (by decide) (by decide) v1 (N'.l.take k) (N'.l.drop (k + 1)) (some a) 0 0 NoT Any NoT rfl rfl (by rw [List.length_drop, HQ.out]; try omega) (by have := (HROW.out _ P1.out).drop (k + 1) (k + 1) (by rw [HQ.out]; omega) (by rw [HQ.out]; omega); rwa [if_pos rfl] at this) (fun _ _ h => h) (fun _ h => h.elim) HO1.out (Nat.le_trans (by simp) Q1.out.size) (by rw [List.length_take, HQ.out]; omega) ?_
    intro v2 w2 hO2 hg2 hat2
    have P2 := hid (P1.out.grown hg2 P1.out.size (fun k hk => Nat.le_trans (by omega) (HO1.out.lt k hk).1))
    have Q2 := hid (Q1.out.grown hg2 Q1.out.size (fun k hk => (HO1.out.lt k hk).1))
    rw [← List.eraseIdx_eq_take_drop_succ] at hO2
    have HO2 := hid hO2
    refine hK.out _ _ (fun _ => HCB.out _ P2.out) (fun _ => ?_)
    clear hK K hO2 hg2 hat2
    (try simp only [Act.put, List.setIfInBounds_toArray, List.set_cons_zero, List.set_cons_succ])
    refine anyK_one 17 rfl (by kernel_rfl) (fun K hK => ?_)
    go_simp
    refine hK.out _ _ (fun _ => HCB.out _ P2.out) (fun _ => ?_)
    clear hK K
    (try simp only [Act.put, List.setIfInBounds_toArray, List.set_cons_zero, List.set_cons_succ])
    refine anyK_one 18 rfl (by kernel_rfl) (fun K hK => ?_)
    go_simp
    refine hK.out _ _ (fun _ => HCB.out _ P2.out) (fun _ => ?_)
    clear hK K
    (try simp only [Act.put, List.setIfInBounds_toArray, List.set_cons_zero, List.set_cons_succ])
    obtain ⟨A2, m2, c2, rfl, hq1, hq2⟩ := HO2.out.shape'
    obtain ⟨z0, z1, z2⟩ := cells_of_block ((P2.out.block g hg).trans hh.out)
    have y0 := z0 0 _ rfl
    have y1 := z1 0
    clear hq1 hq2 z0 z1
    obtain ⟨z0, z1, _⟩ := cells_of_block ((Q2.out.block wr.heap.size (by omega)).trans HZ1.out)
    have y10 := z0 0 _ rfl
    have y20 := z1 0
    have y11 := z0 1 _ rfl
    have y21 := z1 1
    have y12 := z0 2 _ rfl
    have y22 := z1 2
    have y13 := z0 3 _ rfl
    have y23 := z1 3
    clear z0 z1
    obtain ⟨z0, _, _⟩ := cells_of_block ((Q2.out.block (wr.heap.size + 1) (by omega)).trans HZ2.out)
    have z10 := z0 0 _ rfl
    have z11 := z0 1 _ rfl
    have z12 := z0 2 _ rfl
    have z13 := z0 3 _ rfl
    clear z0
    refine anyK_one 19 rfl (by kernel_rfl) (fun K hK => ?_)
    go_simp
    refine hK.out _ _ (fun h => absurd rfl h) (fun _ => ?_)
    clear hK K
    (try simp only [Act.put, List.setIfInBounds_toArray, List.set_cons_zero, List.set_cons_succ])
    refine wpAnyK_done (by kernel_rfl) ?_ _
    go_wp2_with fail
    refine bodyPost_ret (v := .tuple #[.agg #[.int .i64 x.f, .int .i64 x.t, .string x.s, .bool x.turned], .int .i64 0]) (by simp [results, Try.results58, go_sem, y10, y11, y12, y13]) rfl ⟨x, HX.out, rfl, ?_, ?_⟩
    · have hP := RNet.put (S := fun k => (S k ∧ k < wr.heap.size) ∨ wr.heap.size < k) (.inl ⟨hT, hg⟩) ((P2.out.block g hg).trans hh.out) HO2.out (fun k h1 h2 => ⟨.inr (by omega), by omega⟩)
      refine (RNet.move (w1 := _) hP (fun k hk hS => ?_)).mono (fun k _ h => h.elim (fun h => .inl h.1) (fun h => .inr (by omega)))
      have hne : k ≠ wr.heap.size := by rcases hS with h | h <;> omega
      exact (Below.heap_setCell _ _ _ k hne).trans ((Below.heap_setCell _ _ _ k hne).trans ((Below.heap_setCell _ _ _ k hne).trans (Below.heap_setCell _ _ _ k hne)))
    · exact (((((Mod.of_below P2.out).setCell (p := ⟨g, 0, none⟩) (fun _ => hT) _).setCell (p := ⟨wr.heap.size, 0, none⟩) (fun h => absurd h (Nat.lt_irrefl _)) _).setCell (p := ⟨wr.heap.size, 1, none⟩) (fun h => absurd h (Nat.lt_irrefl _)) _).setCell (p := ⟨wr.heap.size, 2, none⟩) (fun h => absurd h (Nat.lt_irrefl _)) _).setCell (p := ⟨wr.heap.size, 3, none⟩) (fun h => absurd h (Nat.lt_irrefl _)) _
  · have hcap2 : ¬ k + 1 = c := fun e => hcap e.symm
    have m0 : ∀ o, (wr.alloc o).cell? (a.add (k * 4)) = some (.int .i64 x.f) := fun o => cell_keep (bAlloc (Below.refl _ _) o) e0
    have m1 : ∀ o, (wr.alloc o).cell? ⟨(a.add (k * 4)).block, (a.add (k * 4)).off + 1, none⟩ = some (.int .i64 x.t) := fun o => cell_keep (bAlloc (Below.refl _ _) o) e1
    have m2 : ∀ o, (wr.alloc o).cell? ⟨(a.add (k * 4)).block, (a.add (k * 4)).off + 2, none⟩ = some (.string x.s) := fun o => cell_keep (bAlloc (Below.refl _ _) o) e2
    have m3 : ∀ o, (wr.alloc o).cell? ⟨(a.add (k * 4)).block, (a.add (k * 4)).off + 3, none⟩ = some (.bool x.turned) := fun o => cell_keep (bAlloc (Below.refl _ _) o) e3
    go_enter Try.func58, Try.ntmps58
    go_wp2_with fail
    obtain ⟨V, hV⟩ : ∃ V, V = (wr.alloc (.cells #[.int .i64 0, .int .i64 0, .string ⟨#[]⟩, .bool false] 92)).alloc (.cells #[.int .i64 x.f, .int .i64 x.t, .string x.s, .bool x.turned] 92) := ⟨_, rfl⟩
    rw [← hV]
    have hVs : V.heap.size = wr.heap.size + 2 := by rw [hV]; simp
    have HBV := hid (show Below wr.heap.size wr V by rw [hV]; exact bAlloc (bAlloc (Below.refl _ _) _) _)
    have HZ1 := hid (show V.heap[wr.heap.size]? = some (.cells #[.int .i64 0, .int .i64 0, .string ⟨#[]⟩, .bool false] 92 (0, 0)) by rw [hV]; exact heap_old (by simp) (heap_at rfl))
    have HZ2 := hid (show V.heap[wr.heap.size + 1]? = some (.cells #[.int .i64 x.f, .int .i64 x.t, .string x.s, .bool x.turned] 92 (0, 0)) by rw [hV]; exact heap_at (by simp))
    have HCB := hid (fun u (h : Below wr.heap.size wr u) => (show u.cell? ⟨g, 0, none⟩ = some (.slice (some a) q c) from cell_keep h c0))
    have HROW := hid (fun u (h : Below wr.heap.size wr u) => (show Kd.thing.Row u Any (some a) N'.l from (hro.out.below h).any))
    have hvI : wr.heap.size + 2 ≤ V.heap.size := by omega
    have HVS := hid hVs
    clear hV hVs e0 e1 e2 e3 m0 m1 m2 m3
    have hk1 : (k : Int) + 1 ≤ (q : Int) := by omega
    have hk2 : (0 : Int) ≤ (k : Int) + 1 := by omega
    have hk3 : ((k : Int) + 1).toNat = k + 1 := by omega
    have hk4 : k ≤ q := by omega
    have hk5 : k + 1 ≤ q := by omega
    have hk6 : (k : Int) ≤ c := by omega
    have hk7 : (k : Int) ≤ (q : Int) := by omega
    have hw1 : IntKind.i64.wrap ((k : Int) + 1) = k + 1 := IntWalk.i64_in _ (by omega)
    refine wp_region_K (S := fun w' => w'.cell? ⟨g, 0, none⟩ = some (.slice (some a) q c)) 19 (by kernel_rfl) (HCB.out _ HBV.out.drew) (fun hHeld => ?_)
    refine anyK_take 0 (v := ?_) rfl rfl (by kernel_rfl) (by kernel_rfl) (by kernel_rfl) (by kernel_rfl) (fun _ _ _ h => h) (by rfl) hHeld ?_ ?_
    rotate_left
    · (intro w hSw; (try dsimp only at hSw); go_split_ands; go_simp; try with_reducible rfl)
    (try simp only [Act.put, List.setIfInBounds_toArray, List.set_cons_zero, List.set_cons_succ])
    refine anyK_take 2 (v := ?_) rfl rfl (by kernel_rfl) (by kernel_rfl) (by kernel_rfl) (by kernel_rfl) (fun _ _ _ h => h) (by rfl) hHeld ?_ ?_
    rotate_left
    · (intro w hSw; (try dsimp only at hSw); go_split_ands; go_simp; try with_reducible rfl)
    (try simp only [Act.put, List.setIfInBounds_toArray, List.set_cons_zero, List.set_cons_succ])
    refine anyK_take 3 (v := ?_) rfl rfl (by kernel_rfl) (by kernel_rfl) (by kernel_rfl) (by kernel_rfl) (fun _ _ _ h => h) (by rfl) hHeld ?_ ?_
    rotate_left
    · (intro w hSw; (try dsimp only at hSw); go_split_ands; go_simp; try with_reducible rfl)
    (try simp only [Act.put, List.setIfInBounds_toArray, List.set_cons_zero, List.set_cons_succ])
    refine anyK_take 4 (v := ?_) rfl rfl (by kernel_rfl) (by kernel_rfl) (by kernel_rfl) (by kernel_rfl) (fun _ _ _ h => h) (by rfl) hHeld ?_ ?_
    rotate_left
    · (intro w hSw; (try dsimp only at hSw); go_split_ands; go_simp; try with_reducible rfl)
    (try simp only [Act.put, List.setIfInBounds_toArray, List.set_cons_zero, List.set_cons_succ])
    refine anyK_take 5 (v := ?_) rfl rfl (by kernel_rfl) (by kernel_rfl) (by kernel_rfl) (by kernel_rfl) (fun _ _ _ h => h) (by rfl) hHeld ?_ ?_
    rotate_left
    · (intro w hSw; (try dsimp only at hSw); go_split_ands; go_simp; try with_reducible rfl)
    (try simp only [Act.put, List.setIfInBounds_toArray, List.set_cons_zero, List.set_cons_succ])
    refine anyK_take 6 (v := ?_) rfl rfl (by kernel_rfl) (by kernel_rfl) (by kernel_rfl) (by kernel_rfl) (fun _ _ _ h => h) (by rfl) hHeld ?_ ?_
    rotate_left
    · (intro w hSw; (try dsimp only at hSw); go_split_ands; go_simp; try with_reducible rfl)
    (try simp only [Act.put, List.setIfInBounds_toArray, List.set_cons_zero, List.set_cons_succ])
    refine anyK_take 7 (v := ?_) rfl rfl (by kernel_rfl) (by kernel_rfl) (by kernel_rfl) (by kernel_rfl) (fun _ _ _ h => h) (by rfl) hHeld ?_ ?_
    rotate_left
    · (intro w hSw; (try dsimp only at hSw); go_split_ands; go_simp; try with_reducible rfl)
    (try simp only [Act.put, List.setIfInBounds_toArray, List.set_cons_zero, List.set_cons_succ])
    refine anyK_take 9 (v := ?_) rfl rfl (by kernel_rfl) (by kernel_rfl) (by kernel_rfl) (by kernel_rfl) (fun _ _ _ h => h) (by rfl) hHeld ?_ ?_
    rotate_left
    · (intro w hSw; (try dsimp only at hSw); go_split_ands; go_simp; try with_reducible rfl)
    (try simp only [Act.put, List.setIfInBounds_toArray, List.set_cons_zero, List.set_cons_succ])
    refine anyK_take 10 (v := ?_) rfl rfl (by kernel_rfl) (by kernel_rfl) (by kernel_rfl) (by kernel_rfl) (fun _ _ _ h => h) (by rfl) hHeld ?_ ?_
    rotate_left
    · (intro w hSw; (try dsimp only at hSw); go_split_ands; go_simp; try with_reducible rfl)
    (try simp only [Act.put, List.setIfInBounds_toArray, List.set_cons_zero, List.set_cons_succ])
    refine anyK_take 11 (v := ?_) rfl rfl (by kernel_rfl) (by kernel_rfl) (by kernel_rfl) (by kernel_rfl) (fun _ _ _ h => h) (by rfl) hHeld ?_ ?_
    rotate_left
    · (intro w hSw; (try dsimp only at hSw); go_split_ands; go_simp; try with_reducible rfl)
    (try simp only [Act.put, List.setIfInBounds_toArray, List.set_cons_zero, List.set_cons_succ])
    refine anyK_take 12 (v := ?_) rfl rfl (by kernel_rfl) (by kernel_rfl) (by kernel_rfl) (by kernel_rfl) (fun _ _ _ h => h) (by rfl) hHeld ?_ ?_
    rotate_left
    · (intro w hSw; (try dsimp only at hSw); go_split_ands; go_simp; try with_reducible rfl)
    (try simp only [Act.put, List.setIfInBounds_toArray, List.set_cons_zero, List.set_cons_succ])
    refine anyK_take 13 (v := ?_) rfl rfl (by kernel_rfl) (by kernel_rfl) (by kernel_rfl) (by kernel_rfl) (fun _ _ _ h => h) (by rfl) hHeld ?_ ?_
    rotate_left
    · (intro w hSw; (try dsimp only at hSw); go_split_ands; go_simp; try with_reducible rfl)
    (try simp only [Act.put, List.setIfInBounds_toArray, List.set_cons_zero, List.set_cons_succ])
    refine anyK_take 14 (v := ?_) rfl rfl (by kernel_rfl) (by kernel_rfl) (by kernel_rfl) (by kernel_rfl) (fun _ _ _ h => h) (by rfl) hHeld ?_ ?_
    rotate_left
    · (intro w hSw; (try dsimp only at hSw); go_split_ands; go_simp; try with_reducible rfl)
    (try simp only [Act.put, List.setIfInBounds_toArray, List.set_cons_zero, List.set_cons_succ])
    refine anyK_take 15 (v := ?_) rfl rfl (by kernel_rfl) (by kernel_rfl) (by kernel_rfl) (by kernel_rfl) (fun _ _ _ h => h) (by rfl) hHeld ?_ ?_
    rotate_left
    · (intro w hSw; (try dsimp only at hSw); go_split_ands; go_simp; try with_reducible rfl)
    (try simp only [Act.put, List.setIfInBounds_toArray, List.set_cons_zero, List.set_cons_succ])
    refine anyK_one 1 rfl (by kernel_rfl) (fun K hK => ?_)
    go_simp
    have P0 := hid (bAlloc' HBV.out.drew (.cells #[] 92))
    refine hK.out _ _ (fun _ => HCB.out _ P0.out) (fun _ => ?_)
    clear hK K
    (try simp only [Act.put, List.setIfInBounds_toArray, List.set_cons_zero, List.set_cons_succ])
    refine anyK_one 8 rfl (by kernel_rfl) (fun K hK => ?_)
    refine appends_step Kd.thing V.heap.size rfl _ _ 84 92 _ 40 rfl Try.underlying84 Try.infoRThing rfl (by decide) (by decide) (.slice (some ⟨V.heap.size, 0, none⟩) 0 0) [] (N'.l.take k) (some a) k c NoT Any NoT rfl rfl (by rw [List.length_take, HQ.out]; omega) ((HROW.out _ P0.out).take k) (fun _ _ h => h) (fun _ h => h.elim) (own_empty (show (V.alloc (.cells #[] 92)).heap[V.heap.size]? = _ from heap_at rfl) (Nat.le_refl _)) (by simp) (by first | omega | (simp; omega)) ?_
    intro v1 w1 hO1 hg1 hat1
    have P1 := hid (P0.out.grown hg1 P0.out.size (fun k hk => by simp [Value.ownBlock] at hk; omega))
    have Q1 := hid (show Below V.heap.size V w1 from (bAlloc (Below.refl V.heap.size V).drew (.cells #[] 92)).grown hg1 (by simp) (fun k hk => by simp [Value.ownBlock] at hk; omega))
    try rw [List.nil_append] at hO1
    have HO1 := hid hO1
    refine hK.out _ _ (fun _ => HCB.out _ P1.out) (fun _ => ?_)
    clear hK K hO1 hat1 hg1
    (try simp only [Act.put, List.setIfInBounds_toArray, List.set_cons_zero, List.set_cons_succ])
    refine anyK_one 16 rfl (by kernel_rfl) (fun K hK => ?_)
    refine appends_step Kd.thing V.heap.size rfl _ _ 84 92 _ 40 rfl Try.underlying84 Try.infoRThing rfl (by decide) (by decide) v1 (N'.l.take k) (N'.l.drop (k + 1)) (some (a.add ((k + 1) * 4))) (q - (k + 1)) (c - (k + 1)) NoT Any NoT rfl rfl (by rw [List.length_drop, HQ.out]; try omega) (by have := (HROW.out _ P1.out).drop (k + 1) c (by rw [HQ.out]; omega) (by rw [HQ.out]; omega); rwa [if_neg hcap] at this) (fun _ _ h => h) (fun _ h => h.elim) HO1.out (Nat.le_trans (by simp) Q1.out.size) (by rw [List.length_take, HQ.out]; omega) ?_
    intro v2 w2 hO2 hg2 hat2
    have P2 := hid (P1.out.grown hg2 P1.out.size (fun k hk => Nat.le_trans (by omega) (HO1.out.lt k hk).1))
    have Q2 := hid (Q1.out.grown hg2 Q1.out.size (fun k hk => (HO1.out.lt k hk).1))
    rw [← List.eraseIdx_eq_take_drop_succ] at hO2
    have HO2 := hid hO2
    refine hK.out _ _ (fun _ => HCB.out _ P2.out) (fun _ => ?_)
    clear hK K hO2 hg2 hat2
    (try simp only [Act.put, List.setIfInBounds_toArray, List.set_cons_zero, List.set_cons_succ])
    refine anyK_one 17 rfl (by kernel_rfl) (fun K hK => ?_)
    go_simp
    refine hK.out _ _ (fun _ => HCB.out _ P2.out) (fun _ => ?_)
    clear hK K
    (try simp only [Act.put, List.setIfInBounds_toArray, List.set_cons_zero, List.set_cons_succ])
    refine anyK_one 18 rfl (by kernel_rfl) (fun K hK => ?_)
    go_simp
    refine hK.out _ _ (fun _ => HCB.out _ P2.out) (fun _ => ?_)
    clear hK K
    (try simp only [Act.put, List.setIfInBounds_toArray, List.set_cons_zero, List.set_cons_succ])
    obtain ⟨A2, m2, c2, rfl, hq1, hq2⟩ := HO2.out.shape'
    obtain ⟨z0, z1, z2⟩ := cells_of_block ((P2.out.block g hg).trans hh.out)
    have y0 := z0 0 _ rfl
    have y1 := z1 0
    clear hq1 hq2 z0 z1
    obtain ⟨z0, z1, _⟩ := cells_of_block ((Q2.out.block wr.heap.size (by omega)).trans HZ1.out)
    have y10 := z0 0 _ rfl
    have y20 := z1 0
    have y11 := z0 1 _ rfl
    have y21 := z1 1
    have y12 := z0 2 _ rfl
    have y22 := z1 2
    have y13 := z0 3 _ rfl
    have y23 := z1 3
    clear z0 z1
    obtain ⟨z0, _, _⟩ := cells_of_block ((Q2.out.block (wr.heap.size + 1) (by omega)).trans HZ2.out)
    have z10 := z0 0 _ rfl
    have z11 := z0 1 _ rfl
    have z12 := z0 2 _ rfl
    have z13 := z0 3 _ rfl
    clear z0
    refine anyK_one 19 rfl (by kernel_rfl) (fun K hK => ?_)
    go_simp
    refine hK.out _ _ (fun h => absurd rfl h) (fun _ => ?_)
    clear hK K
    (try simp only [Act.put, List.setIfInBounds_toArray, List.set_cons_zero, List.set_cons_succ])
    refine wpAnyK_done (by kernel_rfl) ?_ _
    go_wp2_with fail
    refine bodyPost_ret (v := .tuple #[.agg #[.int .i64 x.f, .int .i64 x.t, .string x.s, .bool x.turned], .int .i64 0]) (by simp [results, Try.results58, go_sem, y10, y11, y12, y13]) rfl ⟨x, HX.out, rfl, ?_, ?_⟩
    · have hP := RNet.put (S := fun k => (S k ∧ k < wr.heap.size) ∨ wr.heap.size < k) (.inl ⟨hT, hg⟩) ((P2.out.block g hg).trans hh.out) HO2.out (fun k h1 h2 => ⟨.inr (by omega), by omega⟩)
      refine (RNet.move (w1 := _) hP (fun k hk hS => ?_)).mono (fun k _ h => h.elim (fun h => .inl h.1) (fun h => .inr (by omega)))
      have hne : k ≠ wr.heap.size := by rcases hS with h | h <;> omega
      exact (Below.heap_setCell _ _ _ k hne).trans ((Below.heap_setCell _ _ _ k hne).trans ((Below.heap_setCell _ _ _ k hne).trans (Below.heap_setCell _ _ _ k hne)))
    · exact (((((Mod.of_below P2.out).setCell (p := ⟨g, 0, none⟩) (fun _ => hT) _).setCell (p := ⟨wr.heap.size, 0, none⟩) (fun h => absurd h (Nat.lt_irrefl _)) _).setCell (p := ⟨wr.heap.size, 1, none⟩) (fun h => absurd h (Nat.lt_irrefl _)) _).setCell (p := ⟨wr.heap.size, 2, none⟩) (fun h => absurd h (Nat.lt_irrefl _)) _).setCell (p := ⟨wr.heap.size, 3, none⟩) (fun h => absurd h (Nat.lt_irrefl _)) _
end Go.Proofs.Ytlckkcefkiffjaa
