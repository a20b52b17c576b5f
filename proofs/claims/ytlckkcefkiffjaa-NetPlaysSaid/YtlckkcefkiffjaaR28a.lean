/- The document's net: Send. -/
import Derived.Test.YtlckkcefkiffjaaNet3
import Derived.Test.YtlckkcefkiffjaaKeep
import Derived.Deep.RegionHeld3
import Derived.Test.YtlckkcefkiffjaaReg3
namespace Go.Proofs.Ytlckkcefkiffjaa
open Go.RowKit

theorem Try.infoRThing : (Try.prog.info? 92).map (fun i => (i.zero, i.size, i.bytes)) = some (some (.agg #[.int .i64 0, .int .i64 0, .string ByteArray.empty, .bool false]), 4, 40) := by kernel_rfl
/-- The document's net in block g, its things' row in S. -/
def RNet (w : World) (S : Nat → Prop) (g : Nat) (N : NetS) : Prop :=
  S g ∧ ∃ A c, w.heap[g]? = some (.cells #[.slice A N.l.length c, .int .i64 N.most] 86 (0, 0)) ∧ N.l.length ≤ c ∧ N.l.length ≤ 140737488355328 ∧ Kd.thing.Row w (fun k => S k ∧ k ≠ g) A N.l
section
variable {w w1 : World} {S S' : Nat → Prop} {g : Nat} {N : NetS}
theorem RNet.lt (h : RNet w S g N) : S g ∧ g < w.heap.size := by
  obtain ⟨h0, A, c, h1, _⟩ := h
  exact ⟨h0, (Array.getElem?_eq_some_iff.1 h1).1⟩
theorem RNet.mono (h : RNet w S g N) (hS : ∀ k, k < w.heap.size → S k → S' k) : RNet w S' g N := by
  have hl := h.lt
  obtain ⟨h0, A, c, h1, h2, h3, h4⟩ := h
  exact ⟨hS g hl.2 h0, A, c, h1, h2, h3, h4.mono (fun b hb hl => ⟨hS b hl hb.1, hb.2⟩)⟩
theorem RNet.move (h : RNet w S g N) (hm : ∀ k, k < w.heap.size → S k → w1.heap[k]? = w.heap[k]?) : RNet w1 S g N := by
  have hl := h.lt
  obtain ⟨h0, A, c, h1, h2, h3, h4⟩ := h
  exact ⟨h0, A, c, (hm g hl.2 h0).trans h1, h2, h3, h4.move (fun b hb hl => hm b hl hb.1)⟩
theorem RNet.below (h : RNet w S g N) (hb : Below w.heap.size w w1) : RNet w1 S g N := h.move (fun k hk _ => hb.block k hk)
theorem RNet.narrow (h : RNet w S g N) : RNet w (fun k => S k ∧ k < w.heap.size) g N := h.mono (fun _ h1 h2 => ⟨h2, h1⟩)
theorem RNet.put {w3 : World} {most : Int} {old v2 : Value} {l : List ThingS} {B : Nat} (hS : S g) (hg : w3.heap[g]? = some (.cells #[old, .int .i64 most] 86 (0, 0))) (hO : Own Kd.thing 92 w3 B NoT v2 l) (hB : ∀ k, B ≤ k → k < w3.heap.size → S k ∧ k ≠ g) :
    RNet (w3.setCell ⟨g, 0, none⟩ v2) S g ⟨l, most⟩ := by
  obtain ⟨A, c, rfl, hc⟩ := hO.shape
  obtain ⟨A', c', he, _, hm, hr⟩ := hO.K
  cases he
  refine ⟨hS, A, c, by have := heap_set hg 0 (.slice A l.length c); simpa using this, hc, hm, ?_⟩
  have hr2 := hr.mono (S' := fun k => B ≤ k ∧ k < w3.heap.size) (fun b hb hl => ⟨hb.elim (fun h => h.elim) id, hl⟩)
  exact (hr2.move (w1 := w3.setCell ⟨g, 0, none⟩ (.slice A l.length c)) (fun b hb _ => Below.heap_setCell _ _ _ _ (fun e => (hB b hb.1 hb.2).2 e))).mono (fun b hb _ => hB b hb.1 hb.2)
theorem RNet.cells (h : RNet w S g N) : S g ∧ g < w.heap.size ∧ ∃ A c, N.l.length ≤ c ∧ N.l.length ≤ 140737488355328 ∧ w.cell? ⟨g, 0, none⟩ = some (.slice A N.l.length c) ∧ w.cell? ⟨g, 1, none⟩ = some (.int .i64 N.most) ∧
    Hid (∀ j, w.frozen? ⟨g, j, none⟩ = false) ∧ Hid (w.heap[g]? = some (.cells #[.slice A N.l.length c, .int .i64 N.most] 86 (0, 0))) ∧ Hid (Kd.thing.Row w (fun k => S k ∧ k ≠ g) A N.l) := by
  obtain ⟨h0, A, c, h1, h2, h3, h4⟩ := h
  obtain ⟨z0, z1, z2⟩ := cells_of_block h1
  exact ⟨h0, z2, A, c, h2, h3, z0 0 _ rfl, z0 1 _ rfl, z1, h1, h4⟩
end
theorem bAlloc' {w W : World} (h : Below w.heap.size w W) (o : Obj) : Below w.heap.size w (W.alloc o) := h.alloc h.size o
/-- 'T{}' with no element. -/
theorem own_empty {α : Type} {d : Kd α} {e : TypeId} {W : World} {base b : Nat} {T : Nat → Prop} (h : W.heap[b]? = some (.cells #[] e (0, 0))) (hb : base ≤ b) : Own d e W base T (.slice (some ⟨b, 0, none⟩) 0 0) [] :=
  ⟨by simp, [], ⟨by simp, .inr ⟨b, 0, #[], rfl, hb, h, Nat.le_refl _, by simp only [maxLen]; omega, by simp, by simp⟩⟩, rfl⟩

set_option maxHeartbeats 4000000 in
set_option maxRecDepth 100000 in
theorem rSend_calls (S : Nat → Prop) (g : Nat) (N : NetS) (f t : Int) (l : List ByteArray) (v : Value) (w : World) (hd : RNet w S g N) (hok : N.ok) (hl : Kd.str.slice.K w (fun k => ¬ S k) l [v]) :
    Calls Try.prog 57 #[.pointer (some ⟨g, 0, none⟩), .int .i64 f, .int .i64 t, v] w fun e w' => e = .returned (.int .i64 (N.sent l)) ∧ RNet w' (fun k => S k ∨ w.heap.size ≤ k) g (N.send f t l) ∧ Mod S w w' := by
  obtain ⟨B, d, he, hd1, hd2, hr⟩ := hl
  cases he
  have HOK := hid hok
  have hSg := hd.lt
  have HD := hid hd
  have HR := hid hr
  obtain ⟨q, hq⟩ : ∃ q, l.length = q := ⟨_, rfl⟩
  have HQ := hid hq
  rw [hq] at hd1 hd2 ⊢
  clear hd hr hok hq
  go_enter Try.func57, Try.ntmps57
  go_wp2
  go_loopw [9, 10] (fun s i wr => ∃ (k : Nat) (z : Int), k ≤ q ∧ 0 ≤ z ∧ z ≤ k ∧ i = .int .i64 k ∧ s = .int .i64 z ∧ Hid (z = N.sent (l.take k)) ∧ Hid (RNet wr (fun k => S k ∨ w.heap.size ≤ k) g (N.send f t (l.take k))) ∧ Hid (Mod S w wr)) (fun _ i _ => q - (intOf i).toNat)
  case atStart => exact ⟨0, 0, by omega, by omega, by omega, rfl, rfl, by simp [NetS.sent, Hid]; have := HOK.out.1; omega, by simpa [NetS.send, Hid] using HD.out.mono (fun _ _ h => .inl h), hid (Mod.refl _ _)⟩
  case round =>
    obtain ⟨k, z, hk, hz0, hz1, rfl, rfl, HZ, HN, HM⟩ := hrel
    by_cases hlt : k < q
    · obtain ⟨a, x, rfl, hx, hc⟩ := Kd.Row.at_str (Kd.Row.move (fun b hb hl => HM.out.block b hl hb) HR.out) k (by rw [HQ.out]; exact hlt)
      have HX := hid hx
      obtain ⟨hT, hg, A, c, hc2, hc3, c0, c1, hf, hh, hro⟩ := HN.out.cells
      obtain ⟨N', hN'⟩ : ∃ N', N' = N.send f t (l.take k) := ⟨_, rfl⟩
      have hmost : (N.send f t (l.take k)).most = N.most := rfl
      have hok' := NetS.send_ok HOK.out f t (l.take k)
      rw [hmost] at c1 hh
      have HN' := hid hN'
      rw [← hN'] at hc2 hc3 c0 hh hro hok'
      have hlen : (N'.l.length : Int) ≤ 1024 := by obtain ⟨h1, h2, h3⟩ := hok'; omega
      have hff := hf.out 0
      have hmw := HM.out.size
      clear hx hN' hok'
      by_cases hfull : (N'.l.length : Int) < N.most
      · obtain ⟨e1, e2⟩ := NetS.send_more HOK.out f t l x k HX.out (by rw [← HN'.out]; exact hfull)
        rw [← HN'.out] at e1
        have E1 := hid e1
        have E2 := hid e2
        clear e1 e2
        go_wp2_with fail
        go_quiet (fail)
        go_wp2_with fail
        obtain ⟨V, hV⟩ : ∃ V, V = wr.drewN nq := ⟨_, rfl⟩
        rw [← hV]
        have hvI : wr.heap.size ≤ V.heap.size := by rw [hV]; exact Nat.le_refl _
        have HBV := hid (show Below wr.heap.size wr V by rw [hV]; exact below_drewN (Below.refl _ _) _)
        have HCB := hid (fun u (h : Below wr.heap.size wr u) => (show u.cell? ⟨g, 0, none⟩ = some (.slice A N'.l.length c) ∧ u.cell? (a.add k) = some (.string x) from ⟨cell_keep h c0, cell_keep h hc⟩))
        have HROW := hid (fun u (h : Below wr.heap.size wr u) => (show Kd.thing.Row u Any A N'.l from (hro.out.below h).any))
        clear hV
        refine wp_region_K (S := fun w' => w'.cell? ⟨g, 0, none⟩ = some (.slice A N'.l.length c) ∧ w'.cell? (a.add k) = some (.string x)) 18 (by kernel_rfl) (HCB.out _ HBV.out.drew) (fun hHeld => ?_)
        refine anyK_take 0 (v := ?_) rfl rfl (by kernel_rfl) (by kernel_rfl) (by kernel_rfl) (by kernel_rfl) (fun _ _ _ h => h) (by rfl) hHeld ?_ ?_
        rotate_left
        · (intro w hSw; (try dsimp only at hSw); go_split_ands; go_simp; try with_reducible rfl)
        (try simp only [Act.put, List.setIfInBounds_toArray, List.set_cons_zero, List.set_cons_succ])
        refine anyK_take 2 (v := ?_) rfl rfl (by kernel_rfl) (by kernel_rfl) (by kernel_rfl) (by kernel_rfl) (fun _ _ _ h => h) (by rfl) hHeld ?_ ?_
        rotate_left
        · (intro w hSw; (try dsimp only at hSw); go_split_ands; go_simp; try with_reducible rfl)
        (try simp only [Act.put, List.setIfInBounds_toArray, List.set_cons_zero, List.set_cons_succ])
        refine anyK_take 3 (v := ?_) rfl rfl (by kernel_rfl) (by kernel_rfl) (by kernel_rfl) (by kernel_rfl) (fun _ _ _ h => h) (by rfl) hHeld ?_ ?_
        rotate_left
        · (intro w hSw; (try dsimp only at hSw); go_split_ands; go_simp; try with_reducible rfl)
        (try simp only [Act.put, List.setIfInBounds_toArray, List.set_cons_zero, List.set_cons_succ])
        refine anyK_take 4 (v := ?_) rfl rfl (by kernel_rfl) (by kernel_rfl) (by kernel_rfl) (by kernel_rfl) (fun _ _ _ h => h) (by rfl) hHeld ?_ ?_
        rotate_left
        · (intro w hSw; (try dsimp only at hSw); go_split_ands; go_simp; try with_reducible rfl)
        (try simp only [Act.put, List.setIfInBounds_toArray, List.set_cons_zero, List.set_cons_succ])
        refine anyK_take 5 (v := ?_) rfl rfl (by kernel_rfl) (by kernel_rfl) (by kernel_rfl) (by kernel_rfl) (fun _ _ _ h => h) (by rfl) hHeld ?_ ?_
        rotate_left
        · (intro w hSw; (try dsimp only at hSw); go_split_ands; go_simp; try with_reducible rfl)
        (try simp only [Act.put, List.setIfInBounds_toArray, List.set_cons_zero, List.set_cons_succ])
        refine anyK_take 7 (v := ?_) rfl rfl (by kernel_rfl) (by kernel_rfl) (by kernel_rfl) (by kernel_rfl) (fun _ _ _ h => h) (by rfl) hHeld ?_ ?_
        rotate_left
        · (intro w hSw; (try dsimp only at hSw); go_split_ands; go_simp; try with_reducible rfl)
        (try simp only [Act.put, List.setIfInBounds_toArray, List.set_cons_zero, List.set_cons_succ])
        refine anyK_take 8 (v := ?_) rfl rfl (by kernel_rfl) (by kernel_rfl) (by kernel_rfl) (by kernel_rfl) (fun _ _ _ h => h) (by rfl) hHeld ?_ ?_
        rotate_left
        · (intro w hSw; (try dsimp only at hSw); go_split_ands; go_simp; try with_reducible rfl)
        (try simp only [Act.put, List.setIfInBounds_toArray, List.set_cons_zero, List.set_cons_succ])
        refine anyK_take 9 (v := ?_) rfl rfl (by kernel_rfl) (by kernel_rfl) (by kernel_rfl) (by kernel_rfl) (fun _ _ _ h => h) (by rfl) hHeld ?_ ?_
        rotate_left
        · (intro w hSw; (try dsimp only at hSw); go_split_ands; go_simp; try with_reducible rfl)
        (try simp only [Act.put, List.setIfInBounds_toArray, List.set_cons_zero, List.set_cons_succ])
        refine anyK_take 10 (v := ?_) rfl rfl (by kernel_rfl) (by kernel_rfl) (by kernel_rfl) (by kernel_rfl) (fun _ _ _ h => h) (by rfl) hHeld ?_ ?_
        rotate_left
        · (intro w hSw; (try dsimp only at hSw); go_split_ands; go_simp; try with_reducible rfl)
        (try simp only [Act.put, List.setIfInBounds_toArray, List.set_cons_zero, List.set_cons_succ])
        refine anyK_take 11 (v := ?_) rfl rfl (by kernel_rfl) (by kernel_rfl) (by kernel_rfl) (by kernel_rfl) (fun _ _ _ h => h) (by rfl) hHeld ?_ ?_
        rotate_left
        · (intro w hSw; (try dsimp only at hSw); go_split_ands; go_simp; try with_reducible rfl)
        (try simp only [Act.put, List.setIfInBounds_toArray, List.set_cons_zero, List.set_cons_succ])
        refine anyK_take 12 (v := ?_) rfl rfl (by kernel_rfl) (by kernel_rfl) (by kernel_rfl) (by kernel_rfl) (fun _ _ _ h => h) (by rfl) hHeld ?_ ?_
        rotate_left
        · (intro w hSw; (try dsimp only at hSw); go_split_ands; go_simp; try with_reducible rfl)
        (try simp only [Act.put, List.setIfInBounds_toArray, List.set_cons_zero, List.set_cons_succ])
        refine anyK_take 13 (v := ?_) rfl rfl (by kernel_rfl) (by kernel_rfl) (by kernel_rfl) (by kernel_rfl) (fun _ _ _ h => h) (by rfl) hHeld ?_ ?_
        rotate_left
        · (intro w hSw; (try dsimp only at hSw); go_split_ands; go_simp; try with_reducible rfl)
        (try simp only [Act.put, List.setIfInBounds_toArray, List.set_cons_zero, List.set_cons_succ])
        have PV := hid (show Below wr.heap.size wr V.drew from HBV.out.drew)
        refine anyK_two 1 14 rfl rfl (by kernel_rfl) (fun K hK => ?_) (fun K hK => ?_)
        · go_simp
          have P0 := hid (bAlloc' PV.out (.cells #[] 92))
          refine hK.out _ _ (fun _ => HCB.out _ P0.out) (fun _ => ?_)
          clear hK K
          (try simp only [Act.put, List.setIfInBounds_toArray, List.set_cons_zero, List.set_cons_succ])
          refine anyK_two 6 14 rfl rfl (by kernel_rfl) (fun K hK => ?_) (fun K hK => ?_)
          · refine appends_step Kd.thing wr.heap.size rfl _ _ 84 92 _ 40 rfl Try.underlying84 Try.infoRThing rfl (by decide) (by decide) (.slice (some ⟨V.heap.size, 0, none⟩) 0 0) [] N'.l A N'.l.length c NoT Any NoT rfl rfl rfl (HROW.out _ P0.out) (fun _ _ h => h) (fun _ h => h.elim) (own_empty (show (V.alloc (.cells #[] 92)).heap[V.heap.size]? = _ from heap_at rfl) (by omega)) (P0.out.size) (by first | omega | (simp; omega)) ?_
            intro v1 w1 hO1 hg1 hat1
            have P1 := hid (P0.out.grown hg1 P0.out.size (fun k hk => by cases hk; simp; try omega))
            try rw [List.nil_append] at hO1
            have HO1 := hid hO1
            refine hK.out _ _ (fun _ => HCB.out _ P1.out) (fun _ => ?_)
            clear hK K hO1 hat1
            (try simp only [Act.put, List.setIfInBounds_toArray, List.set_cons_zero, List.set_cons_succ])
            refine anyK_one 14 rfl (by kernel_rfl) (fun K hK => ?_)
            go_simp
            have P3 := hid (bAlloc' P1.out (.cells #[.int .i64 f, .int .i64 t, .string x, .bool false] 92))
            refine hK.out _ _ (fun _ => HCB.out _ P3.out) (fun _ => ?_)
            clear hK K
            (try simp only [Act.put, List.setIfInBounds_toArray, List.set_cons_zero, List.set_cons_succ])
            refine anyK_one 15 rfl (by kernel_rfl) (fun K hK => ?_)
            refine appends_step Kd.thing wr.heap.size rfl _ _ 84 92 _ 40 rfl Try.underlying84 Try.infoRThing rfl (by decide) (by decide) v1 N'.l [⟨f, t, x, false⟩] (some ⟨w1.heap.size, 0, none⟩) 1 1 NoT Any NoT rfl rfl rfl ((row_one (d := Kd.thing) (te := 92) (fr := (0, 0)) (cs := [.int .i64 f, .int .i64 t, .string x, .bool false]) (p := ⟨f, t, x, false⟩) (heap_at rfl) (fun _ => rfl)).any) (fun _ _ h => h) (fun _ h => h.elim) (HO1.out.alloc _) (P3.out.size) (by first | omega | (simp; omega)) ?_
            intro v2 w2 hO2 hg2 hat2
            have P2 := hid (P3.out.grown hg2 P3.out.size (fun k hk => (HO1.out.lt k hk).1))
            have HO2 := hid hO2
            refine hK.out _ _ (fun _ => HCB.out _ P2.out) (fun _ => ?_)
            clear hK K hO2 hg2 hat2
            (try simp only [Act.put, List.setIfInBounds_toArray, List.set_cons_zero, List.set_cons_succ])
            refine anyK_one 16 rfl (by kernel_rfl) (fun K hK => ?_)
            go_simp
            refine hK.out _ _ (fun _ => HCB.out _ P2.out) (fun _ => ?_)
            clear hK K
            (try simp only [Act.put, List.setIfInBounds_toArray, List.set_cons_zero, List.set_cons_succ])
            refine anyK_one 17 rfl (by kernel_rfl) (fun K hK => ?_)
            go_simp
            refine hK.out _ _ (fun _ => HCB.out _ P2.out) (fun _ => ?_)
            clear hK K
            (try simp only [Act.put, List.setIfInBounds_toArray, List.set_cons_zero, List.set_cons_succ])
            rw [E1.out] at HO2
            obtain ⟨A2, m2, c2, rfl, hq1, hq2⟩ := HO2.out.shape'
            obtain ⟨z0, z1, z2⟩ := cells_of_block ((P2.out.block g hg).trans hh.out)
            have y0 := z0 0 _ rfl
            have y1 := z1 0
            clear hq1 hq2 z0 z1
            refine anyK_one 18 rfl (by kernel_rfl) (fun K hK => ?_)
            go_simp
            refine hK.out _ _ (fun h => absurd rfl h) (fun _ => ?_)
            clear hK K
            (try simp only [Act.put, List.setIfInBounds_toArray, List.set_cons_zero, List.set_cons_succ])
            refine wpAnyK_done (by kernel_rfl) ?_ _
            go_wp2
            go_roundw
            case rel => exact ⟨k + 1, z + 1, by omega, by omega, by omega, by go_num, rfl, by rw [E2.out]; exact congrArg (· + 1) HZ.out, RNet.put hT ((P2.out.block g hg).trans hh.out) HO2.out (fun k h1 h2 => ⟨.inr (by omega), by omega⟩), (HM.out.trans (F' := NoT) (Mod.of_below P2.out) (fun _ _ h => h.elim)).setCell (p := ⟨g, 0, none⟩) (fun h => hT.elim id (fun h2 => absurd h (by show ¬ g < _; omega))) _⟩
            case measure => simp [intOf]; omega
          · go_simp
            have P3 := hid (bAlloc' P0.out (.cells #[.int .i64 f, .int .i64 t, .string x, .bool false] 92))
            refine hK.out _ _ (fun _ => HCB.out _ P3.out) (fun _ => ?_)
            clear hK K
            (try simp only [Act.put, List.setIfInBounds_toArray, List.set_cons_zero, List.set_cons_succ])
            refine anyK_one 6 rfl (by kernel_rfl) (fun K hK => ?_)
            refine appends_step Kd.thing wr.heap.size rfl _ _ 84 92 _ 40 rfl Try.underlying84 Try.infoRThing rfl (by decide) (by decide) (.slice (some ⟨V.heap.size, 0, none⟩) 0 0) [] N'.l A N'.l.length c NoT Any NoT rfl rfl rfl (HROW.out _ P3.out) (fun _ _ h => h) (fun _ h => h.elim) (own_empty (show ((V.alloc (.cells #[] 92)).alloc (.cells #[.int .i64 f, .int .i64 t, .string x, .bool false] 92)).heap[V.heap.size]? = _ from heap_old (by simp) (heap_at rfl)) (by omega)) (P3.out.size) (by first | omega | (simp; omega)) ?_
            intro v1 w1 hO1 hg1 hat1
            have P1 := hid (P3.out.grown hg1 P3.out.size (fun k hk => by cases hk; simp; try omega))
            try rw [List.nil_append] at hO1
            have HO1 := hid hO1
            refine hK.out _ _ (fun _ => HCB.out _ P1.out) (fun _ => ?_)
            clear hK K hO1 hat1
            (try simp only [Act.put, List.setIfInBounds_toArray, List.set_cons_zero, List.set_cons_succ])
            refine anyK_one 15 rfl (by kernel_rfl) (fun K hK => ?_)
            have hb3 := (hg1.block (V.heap.size + 1) (by first | simp | (simp; omega)) (fun e => by simp [Value.ownBlock] at e <;> omega)).trans (show ((V.alloc (.cells #[] 92)).alloc (.cells #[.int .i64 f, .int .i64 t, .string x, .bool false] 92)).heap[V.heap.size + 1]? = _ from heap_at (by simp))
            refine appends_step Kd.thing wr.heap.size rfl _ _ 84 92 _ 40 rfl Try.underlying84 Try.infoRThing rfl (by decide) (by decide) v1 N'.l [⟨f, t, x, false⟩] (some ⟨V.heap.size + 1, 0, none⟩) 1 1 NoT Any NoT rfl rfl rfl ((row_one (d := Kd.thing) (te := 92) (fr := (0, 0)) (cs := [.int .i64 f, .int .i64 t, .string x, .bool false]) (p := ⟨f, t, x, false⟩) hb3 (fun _ => rfl)).any) (fun _ _ h => h) (fun _ h => h.elim) HO1.out (P1.out.size) (by first | omega | (simp; omega)) ?_
            intro v2 w2 hO2 hg2 hat2
            have P2 := hid (P1.out.grown hg2 P1.out.size (fun k hk => (HO1.out.lt k hk).1))
            have HO2 := hid hO2
            refine hK.out _ _ (fun _ => HCB.out _ P2.out) (fun _ => ?_)
            clear hK K hO2 hg2 hat2
            (try simp only [Act.put, List.setIfInBounds_toArray, List.set_cons_zero, List.set_cons_succ])
            refine anyK_one 16 rfl (by kernel_rfl) (fun K hK => ?_)
            go_simp
            refine hK.out _ _ (fun _ => HCB.out _ P2.out) (fun _ => ?_)
            clear hK K
            (try simp only [Act.put, List.setIfInBounds_toArray, List.set_cons_zero, List.set_cons_succ])
            refine anyK_one 17 rfl (by kernel_rfl) (fun K hK => ?_)
            go_simp
            refine hK.out _ _ (fun _ => HCB.out _ P2.out) (fun _ => ?_)
            clear hK K
            (try simp only [Act.put, List.setIfInBounds_toArray, List.set_cons_zero, List.set_cons_succ])
            rw [E1.out] at HO2
            obtain ⟨A2, m2, c2, rfl, hq1, hq2⟩ := HO2.out.shape'
            obtain ⟨z0, z1, z2⟩ := cells_of_block ((P2.out.block g hg).trans hh.out)
            have y0 := z0 0 _ rfl
            have y1 := z1 0
            clear hq1 hq2 z0 z1
            refine anyK_one 18 rfl (by kernel_rfl) (fun K hK => ?_)
            go_simp
            refine hK.out _ _ (fun h => absurd rfl h) (fun _ => ?_)
            clear hK K
            (try simp only [Act.put, List.setIfInBounds_toArray, List.set_cons_zero, List.set_cons_succ])
            refine wpAnyK_done (by kernel_rfl) ?_ _
            go_wp2
            go_roundw
            case rel => exact ⟨k + 1, z + 1, by omega, by omega, by omega, by go_num, rfl, by rw [E2.out]; exact congrArg (· + 1) HZ.out, RNet.put hT ((P2.out.block g hg).trans hh.out) HO2.out (fun k h1 h2 => ⟨.inr (by omega), by omega⟩), (HM.out.trans (F' := NoT) (Mod.of_below P2.out) (fun _ _ h => h.elim)).setCell (p := ⟨g, 0, none⟩) (fun h => hT.elim id (fun h2 => absurd h (by show ¬ g < _; omega))) _⟩
            case measure => simp [intOf]; omega
        · go_simp
          have P0 := hid (bAlloc' PV.out (.cells #[.int .i64 f, .int .i64 t, .string x, .bool false] 92))
          refine hK.out _ _ (fun _ => HCB.out _ P0.out) (fun _ => ?_)
          clear hK K
          (try simp only [Act.put, List.setIfInBounds_toArray, List.set_cons_zero, List.set_cons_succ])
          refine anyK_one 1 rfl (by kernel_rfl) (fun K hK => ?_)
          go_simp
          have P3 := hid (bAlloc' P0.out (.cells #[] 92))
          refine hK.out _ _ (fun _ => HCB.out _ P3.out) (fun _ => ?_)
          clear hK K
          (try simp only [Act.put, List.setIfInBounds_toArray, List.set_cons_zero, List.set_cons_succ])
          refine anyK_one 6 rfl (by kernel_rfl) (fun K hK => ?_)
          refine appends_step Kd.thing wr.heap.size rfl _ _ 84 92 _ 40 rfl Try.underlying84 Try.infoRThing rfl (by decide) (by decide) (.slice (some ⟨V.heap.size + 1, 0, none⟩) 0 0) [] N'.l A N'.l.length c NoT Any NoT rfl rfl rfl (HROW.out _ P3.out) (fun _ _ h => h) (fun _ h => h.elim) (own_empty (show ((V.alloc (.cells #[.int .i64 f, .int .i64 t, .string x, .bool false] 92)).alloc (.cells #[] 92)).heap[V.heap.size + 1]? = _ from heap_at (by simp)) (by omega)) (P3.out.size) (by first | omega | (simp; omega)) ?_
          intro v1 w1 hO1 hg1 hat1
          have P1 := hid (P3.out.grown hg1 P3.out.size (fun k hk => by cases hk; simp; try omega))
          try rw [List.nil_append] at hO1
          have HO1 := hid hO1
          refine hK.out _ _ (fun _ => HCB.out _ P1.out) (fun _ => ?_)
          clear hK K hO1 hat1
          (try simp only [Act.put, List.setIfInBounds_toArray, List.set_cons_zero, List.set_cons_succ])
          refine anyK_one 15 rfl (by kernel_rfl) (fun K hK => ?_)
          have hb3 := (hg1.block V.heap.size (by simp; omega) (fun e => by simp [Value.ownBlock] at e <;> omega)).trans (show ((V.alloc (.cells #[.int .i64 f, .int .i64 t, .string x, .bool false] 92)).alloc (.cells #[] 92)).heap[V.heap.size]? = _ from heap_old (by simp) (heap_at rfl))
          refine appends_step Kd.thing wr.heap.size rfl _ _ 84 92 _ 40 rfl Try.underlying84 Try.infoRThing rfl (by decide) (by decide) v1 N'.l [⟨f, t, x, false⟩] (some ⟨V.heap.size, 0, none⟩) 1 1 NoT Any NoT rfl rfl rfl ((row_one (d := Kd.thing) (te := 92) (fr := (0, 0)) (cs := [.int .i64 f, .int .i64 t, .string x, .bool false]) (p := ⟨f, t, x, false⟩) hb3 (fun _ => rfl)).any) (fun _ _ h => h) (fun _ h => h.elim) HO1.out (P1.out.size) (by first | omega | (simp; omega)) ?_
          intro v2 w2 hO2 hg2 hat2
          have P2 := hid (P1.out.grown hg2 P1.out.size (fun k hk => (HO1.out.lt k hk).1))
          have HO2 := hid hO2
          refine hK.out _ _ (fun _ => HCB.out _ P2.out) (fun _ => ?_)
          clear hK K hO2 hg2 hat2
          (try simp only [Act.put, List.setIfInBounds_toArray, List.set_cons_zero, List.set_cons_succ])
          refine anyK_one 16 rfl (by kernel_rfl) (fun K hK => ?_)
          go_simp
          refine hK.out _ _ (fun _ => HCB.out _ P2.out) (fun _ => ?_)
          clear hK K
          (try simp only [Act.put, List.setIfInBounds_toArray, List.set_cons_zero, List.set_cons_succ])
          refine anyK_one 17 rfl (by kernel_rfl) (fun K hK => ?_)
          go_simp
          refine hK.out _ _ (fun _ => HCB.out _ P2.out) (fun _ => ?_)
          clear hK K
          (try simp only [Act.put, List.setIfInBounds_toArray, List.set_cons_zero, List.set_cons_succ])
          rw [E1.out] at HO2
          obtain ⟨A2, m2, c2, rfl, hq1, hq2⟩ := HO2.out.shape'
          obtain ⟨z0, z1, z2⟩ := cells_of_block ((P2.out.block g hg).trans hh.out)
          have y0 := z0 0 _ rfl
          have y1 := z1 0
          clear hq1 hq2 z0 z1
          refine anyK_one 18 rfl (by kernel_rfl) (fun K hK => ?_)
          go_simp
          refine hK.out _ _ (fun h => absurd rfl h) (fun _ => ?_)
          clear hK K
          (try simp only [Act.put, List.setIfInBounds_toArray, List.set_cons_zero, List.set_cons_succ])
          refine wpAnyK_done (by kernel_rfl) ?_ _
          go_wp2
          go_roundw
          case rel => exact ⟨k + 1, z + 1, by omega, by omega, by omega, by go_num, rfl, by rw [E2.out]; exact congrArg (· + 1) HZ.out, RNet.put hT ((P2.out.block g hg).trans hh.out) HO2.out (fun k h1 h2 => ⟨.inr (by omega), by omega⟩), (HM.out.trans (F' := NoT) (Mod.of_below P2.out) (fun _ _ h => h.elim)).setCell (p := ⟨g, 0, none⟩) (fun h => hT.elim id (fun h2 => absurd h (by show ¬ g < _; omega))) _⟩
          case measure => simp [intOf]; omega
      · obtain ⟨e1, e2⟩ := NetS.send_full HOK.out f t l k (by rw [HQ.out]; exact hlt) (by rw [← HN'.out]; exact hfull)
        have E1 := hid e1
        have E2 := hid e2
        clear e1 e2
        go_wp2_with fail
        go_quiet (fail)
        go_wp2
        go_roundw
        case rel => exact ⟨k + 1, z, by omega, by omega, by omega, by go_num, rfl, by rw [E2.out]; exact HZ.out, by rw [← E1.out]; exact RNet.below HN.out (below_drewN (Below.refl _ _) _), HM.out.drewN _⟩
        case measure => simp [intOf]; omega
    · obtain rfl : k = q := by omega
      have e : l.take k = l := by rw [← HQ.out]; exact List.take_length
      have HE := hid e
      clear e
      go_wp2
      go_ret
      rw [HE.out] at HZ HN
      exact ⟨ret_int HZ.out, HN.out, HM.out⟩
end Go.Proofs.Ytlckkcefkiffjaa
