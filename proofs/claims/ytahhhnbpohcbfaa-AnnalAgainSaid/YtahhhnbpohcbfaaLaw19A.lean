import Derived.Test.YtahhhnbpohcbfaaAnnal3
namespace Go.Proofs.Ytahhhnbpohcbfaa
open Go.RowKit Go.Lib

set_option maxHeartbeats 12800000 in
set_option maxRecDepth 100000 in
theorem annalAgainLaw_calls (w : World) (b : List UInt8) (B : Option Addr) (d : Nat) (hb : Kd.u8.slice.K w Any b [.slice B b.length d]) (x : RecS) (A : Option Addr) (n c : Nat) (hn : Kd.str.slice.K w Any x.needs [.slice A n c]) :
    Calls Try.prog 10 #[.slice B b.length d, .agg #[.int .i64 x.kind, .int .i64 x.job, .int .i64 x.task, .int .i64 x.worker, .int .i64 x.sched, .int .i64 x.epoch, .slice A n c]] w fun e w' => e = .returned (.bool true) ∧ Below w.heap.size w w' := by
  have HB := hid hb
  have HN := hid (Kd.mono _ (S' := fun k => k < w.heap.size) (fun k _ hl => hl) hn)
  obtain ⟨B', d', he, hd1, hd2, hr⟩ := hb
  cases he
  obtain ⟨W0, hW0⟩ : ∃ W0, W0 = w.alloc (.cells #[.int .i64 x.kind, .int .i64 x.job, .int .i64 x.task, .int .i64 x.worker, .int .i64 x.sched, .int .i64 x.epoch, .slice A n c] 24) := ⟨_, rfl⟩
  have b0 := hid (show Below w.heap.size w W0 by rw [hW0]; exact bAlloc (Below.refl _ _) _)
  have HX : Hid (W0.heap[w.heap.size]? = some (.cells #[.int .i64 x.kind, .int .i64 x.job, .int .i64 x.task, .int .i64 x.worker, .int .i64 x.sched, .int .i64 x.epoch, .slice A n c] 24 (0, 0))) := by rw [hW0]; exact heap_at rfl
  have hxx : w.heap.size < W0.heap.size := by rw [hW0]; simp
  clear hn
  by_cases hl : (2000 : Int) < b.length
  case pos =>
    clear hr
    go_enter Try.func10, Try.ntmps10
    go_wp2_with fail
    rw [← hW0]
    clear hW0
    go_wp2_with fail
    refine (works19_calls _).mono ?_
    rintro e w1 ⟨rfl, hb1⟩
    go_wp2
    go_ret
    exact ⟨rfl, bThen b0.out hb1⟩
  obtain ⟨x0, x1, x2, x3, x4, x5, x6⟩ := rec_cells HX.out
  cases hlg : longB x.needs 20 300
  case true =>
    clear hr
    go_enter Try.func10, Try.ntmps10
    go_wp2_with fail
    rw [← hW0]
    clear hW0
    go_wp2_with fail
    refine (rlong17_calls x A n c _ (Kd.any (Kd.below HN.out b0.out))).mono ?_
    rintro e w1 ⟨rfl, hb1⟩
    rw [hlg]
    have B1 := hid (bThen b0.out hb1)
    clear hb1 x0 x1 x2 x3 x4 x5 x6
    go_wp2_with fail
    refine (works19_calls _).mono ?_
    rintro e w2 ⟨rfl, hb2⟩
    go_wp2
    go_ret
    exact ⟨rfl, bThen B1.out hb2⟩
  have hbl : b.length ≤ 2000 := by omega
  obtain ⟨r1, r2, r3, r4⟩ := recsS_bytes b
  have ra := recsS_again b
  have HM := hid (fun h => recsS_more b (x := x) h)
  obtain ⟨g, hg⟩ : ∃ g, g = (recsS b).2 := ⟨_, rfl⟩
  obtain ⟨rs, hrs⟩ : ∃ rs, rs = (recsS b).1 := ⟨_, rfl⟩
  have HRB := hid (show recsS b = (rs, g) by rw [hg, hrs])
  rw [← hg, ← hrs] at r1 r4 ra HM
  rw [← hrs] at r3
  rw [← hg] at r2
  have HRA := hid ra
  have HOKS := hid r3
  have hrl : rs.length ≤ 2000 := by omega
  have HRL := hid hrl
  have hgl : g ≤ b.length := r2
  have HGL := hid (show (b.take g).length = g by rw [List.length_take]; omega)
  have HAP := hid (show (⟨[], 65536, -1⟩ : DiskS).append b = (⟨b, 65536, -1⟩, 0) by
    unfold DiskS.append
    rw [if_neg (by simp; omega), if_neg (by decide)]
    simp)
  obtain ⟨s, hs⟩ : ∃ s : ByteArray, s = ⟨(b.take g).toArray⟩ := ⟨_, rfl⟩
  have HSD := hid hs.symm
  have HT := hid (show Kd.u8.slice.K w Any (b.take g) [.slice B g d] from ⟨B, d, by rw [HGL.out], by rw [HGL.out]; omega, by rw [HGL.out]; omega, hr.take g⟩)
  have k3 : (g : Int) ≤ d := by omega
  have k5 : g ≤ d := by omega
  have k6 : ¬ (b.length : Int) < g := by omega
  have k7 : (0 : Int) ≤ g := by omega
  have k6d : decide ((b.length : Int) < (g : Int)) = false := decide_eq_false k6
  have k6n : decide (b.length < g) = false := decide_eq_false (by omega)
  have egg : ((g : Int) != (g : Int)) = false := by simp
  clear hr r1 r2 r3 r4 ra hg hrs hs
  go_enter Try.func10, Try.ntmps10
  go_wp2_with fail
  rw [← hW0]
  clear hW0
  go_wp2_with fail
  refine (rlong17_calls x A n c _ (Kd.any (Kd.below HN.out b0.out))).mono ?_
  rintro e w1 ⟨rfl, hb1⟩
  rw [hlg]
  have B1 := hid (bThen b0.out hb1)
  have HX1 := hid ((hb1.block _ hxx).trans HX.out)
  have hx1 : w.heap.size < w1.heap.size := (Array.getElem?_eq_some_iff.1 HX1.out).1
  clear hb1 x0 x1 x2 x3 x4 x5 x6 hlg
  go_wp2_with fail
  refine (diskNew_yes 65536 _ (by decide) (by decide)).mono ?_
  rintro e w2 ⟨rfl, hd2, hb2⟩
  have HD2 := hid hd2
  have B2 := hid (bThen B1.out hb2)
  have N2 := hid hb2
  clear hd2 hb2
  go_wp2_with fail
  refine (diskAppend_calls _ w1.heap.size _ b _ _ HD2.out (Kd.mono _ (fun k hk _ => by have := B1.out.size; omega) (Kd.below (Kd.mono _ (S' := fun k => k < w.heap.size) (fun k _ hl => hl) HB.out) B2.out))).mono ?_
  rintro e w3 ⟨rfl, hd3, hm3⟩
  rw [HAP.out] at hd3 ⊢
  have HD3 := hid hd3
  have M3 := hid ((Mod.of_below (F := fun k => w1.heap.size ≤ k) N2.out).trans hm3 (fun _ _ h => h))
  have s13 := M3.out.size
  clear hd3 hm3
  go_wp2_with fail
  refine (firstOpen_calls HD3.out).mono ?_
  rintro e w4 ⟨ga, rfl, hp4, hm4⟩
  rw [HRB.out] at hp4
  have s2 := N2.out.size
  have HP4 := hid (hp4.mono (F' := fun k => w1.heap.size ≤ k ∧ k < w4.heap.size) (fun k hk h => by have := M3.out.size; omega))
  have M4 := hid (M3.out.trans hm4 (fun k _ h => by omega))
  clear hp4 hm4
  go_wp2_with fail
  refine (pairRecords_calls HP4.out HOKS.out).mono ?_
  rintro e w5 ⟨A5, n5, c5, rfl, hO5, hb5⟩
  have HP5 := hid (HP4.out.below hb5)
  have M5 := hid (M4.out.then_below hb5)
  have HO5 := hid (hO5.move (w1 := w5) (T' := fun k => w4.heap.size ≤ k ∧ k < w5.heap.size) (fun _ _ _ => rfl) (fun k h hl => ⟨h, hl⟩))
  have HL5 := hid (fun k hk => (hO5.lt k hk).2)
  have s45 := hb5.size
  have s14 := M4.out.size
  clear hO5 hb5
  go_wp2_with fail
  refine (pairSize_calls HP5.out).mono ?_
  rintro e w' ⟨rfl, rfl⟩
  rw [HGL.out]
  go_wp2_with fail
  refine (pairOpen_calls HP5.out).mono ?_
  rintro e V ⟨gb, rfl, _, hp6, hm6⟩
  rw [HRA.out] at hp6
  have s5V := hm6.size
  have HPV := hid (show Pair V (fun k => w1.heap.size ≤ k ∧ k < w4.heap.size ∨ w5.heap.size ≤ k ∧ k < V.heap.size) gb w1.heap.size ⟨b.take g, 65536, -1⟩ rs false from by
    have := hp6.mono (F' := fun k => w1.heap.size ≤ k ∧ k < w4.heap.size ∨ w5.heap.size ≤ k ∧ k < V.heap.size) (fun k hk h => by omega)
    rwa [List.take_take, Nat.min_self] at this)
  have M6 := hid (M5.out.trans hm6 (fun _ _ h => h.1))
  have HOV := hid (HO5.out.move (w1 := V) (T' := fun k => w4.heap.size ≤ k ∧ k < w5.heap.size) (fun k hk hl => hm6.block k hl (fun h => by
    have h' : w1.heap.size ≤ k ∧ k < w4.heap.size := h
    rcases hk with hk | hk
    · have hk' : w4.heap.size ≤ k ∧ k < w5.heap.size := hk
      omega
    · have := (HO5.out.lt k hk).1
      omega)) (fun _ h _ => h))
  have HKW := hid (show Kd.recK.slice.K V Any rs [.slice A5 n5 c5] from Kd.any (Own.K HOV.out))
  have HCB := hid (show ∀ w', Below V.heap.size V w' → (convert 27 9 (.slice B g d)).run Try.prog w' = .ok (.string s) w' from fun w' h => by
    have h2 := Kd.mono _ (S' := fun k => k < w.heap.size) (fun k _ hl => hl) HT.out
    have h3 := Kd.mod (Kd.below h2 B1.out) M6.out (fun k _ h1 h2 => by have := B1.out.size; omega)
    rw [← HSD.out]
    exact conv_u8 (Kd.any (Kd.below h3 h)))
  clear hm6 hp6
  go_wp2_with fail
  refine wp_region_held_drew (S := fun w' => (convert 27 9 (.slice B g d)).run Try.prog w' = .ok (.string s) w') (by kernel_rfl) (HCB.out _ (Below.refl V.heap.size V).drew) (fun hHeld => ?_)
  refine anyH_take 0 (v := ?_) rfl (by kernel_rfl) (by kernel_rfl) (by kernel_rfl) (fun _ _ _ h => h) (by rfl) hHeld ?_ ?_
  rotate_left
  · (intro w hSw; (try dsimp only at hSw); go_split_ands; go_simp; try with_reducible rfl)
  (try simp only [Act.put, List.setIfInBounds_toArray, List.set_cons_zero, List.set_cons_succ])
  refine anyH_take 2 (v := ?_) rfl (by kernel_rfl) (by kernel_rfl) (by kernel_rfl) (fun _ _ _ h => h) (by rfl) hHeld ?_ ?_
  rotate_left
  · (intro w hSw; (try dsimp only at hSw); go_split_ands; go_simp; try with_reducible rfl)
  (try simp only [Act.put, List.setIfInBounds_toArray, List.set_cons_zero, List.set_cons_succ])
  refine anyH_one 1 rfl (by kernel_rfl) (fun K hK => ?_)
  go_simp
  refine (pairRecords_calls (HPV.out.below (Below.refl V.heap.size V).drew) HOKS.out).mono ?_
  rintro e u1 ⟨A7, n7, c7, rfl, hO7, hb1⟩
  have HK7 := hid (show Kd.recK.slice.K u1 Any rs [.slice A7 n7 c7] from Kd.any (Own.K hO7))
  clear hO7
  have U1 := hid (show Below V.heap.size V u1 from bThen (Below.refl V.heap.size V).drew hb1)
  clear hb1
  go_simp
  refine hK.out _ _ (HCB.out _ U1.out) (fun hHeld => ?_)
  clear hK K
  (try simp only [Act.put, List.setIfInBounds_toArray, List.set_cons_zero, List.set_cons_succ])
  refine anyH_one 3 rfl (by kernel_rfl) (fun K hK => ?_)
  go_simp
  refine (rfSame18_calls rs rs _ _ _ HK7.out (Kd.below HKW.out U1.out)).mono ?_
  rintro e u2 ⟨rfl, hb2⟩
  rw [show decide (rs = rs) = true from decide_eq_true rfl]
  have U2 := hid (show Below V.heap.size V u2 from bThen U1.out hb2)
  clear hb2
  go_simp
  refine hK.out _ _ (HCB.out _ U2.out) (fun hHeld => ?_)
  clear hK K
  (try simp only [Act.put, List.setIfInBounds_toArray, List.set_cons_zero, List.set_cons_succ])
  refine anyH_take 4 (v := ?_) rfl (by kernel_rfl) (by kernel_rfl) (by kernel_rfl) (fun _ _ _ h => h) (by rfl) hHeld ?_ ?_
  rotate_left
  · (intro w hSw; (try dsimp only at hSw); go_split_ands; go_simp; try with_reducible rfl)
  (try simp only [Act.put, List.setIfInBounds_toArray, List.set_cons_zero, List.set_cons_succ])
  refine anyH_take 5 (v := ?_) rfl (by kernel_rfl) (by kernel_rfl) (by kernel_rfl) (fun _ _ _ h => h) (by rfl) hHeld ?_ ?_
  rotate_left
  · (intro w hSw; (try dsimp only at hSw); go_split_ands; go_simp; try with_reducible rfl)
  (try simp only [Act.put, List.setIfInBounds_toArray, List.set_cons_zero, List.set_cons_succ])
  refine anyH_take 6 (v := ?_) rfl (by kernel_rfl) (by kernel_rfl) (by kernel_rfl) (fun _ _ _ h => h) (by rfl) hHeld ?_ ?_
  rotate_left
  · (intro w hSw; (try dsimp only at hSw); go_split_ands; go_simp; try with_reducible rfl)
  (try simp only [Act.put, List.setIfInBounds_toArray, List.set_cons_zero, List.set_cons_succ])
  refine anyH_take 8 (v := ?_) rfl (by kernel_rfl) (by kernel_rfl) (by kernel_rfl) (fun _ _ _ h => h) (by rfl) hHeld ?_ ?_
  rotate_left
  · (intro w hSw; (try dsimp only at hSw); go_split_ands; go_simp; try with_reducible rfl)
  (try simp only [Act.put, List.setIfInBounds_toArray, List.set_cons_zero, List.set_cons_succ])
  refine anyH_one 7 rfl (by kernel_rfl) (fun K hK => ?_)
  go_simp
  refine (pairSize_calls (HPV.out.below U2.out)).mono ?_
  rintro e u3 ⟨rfl, rfl⟩
  rw [HGL.out]
  have U3 := hid U2.out
  go_simp
  refine hK.out _ _ (HCB.out _ U3.out) (fun hHeld => ?_)
  clear hK K
  (try simp only [Act.put, List.setIfInBounds_toArray, List.set_cons_zero, List.set_cons_succ])
  refine anyH_take 9 (v := ?_) rfl (by kernel_rfl) (by kernel_rfl) (by kernel_rfl) (fun _ _ _ h => h) (by rfl) hHeld ?_ ?_
  rotate_left
  · (intro w hSw; (try dsimp only at hSw); go_split_ands; go_simp; try with_reducible rfl)
  (try simp only [Act.put, List.setIfInBounds_toArray, List.set_cons_zero, List.set_cons_succ])
  refine anyH_take 10 (v := ?_) rfl (by kernel_rfl) (by kernel_rfl) (by kernel_rfl) (fun _ _ _ h => h) (by rfl) hHeld ?_ ?_
  rotate_left
  · (intro w hSw; (try dsimp only at hSw); go_split_ands; go_simp; try with_reducible rfl)
  (try simp only [Act.put, List.setIfInBounds_toArray, List.set_cons_zero, List.set_cons_succ])
  refine anyH_take 11 (v := ?_) rfl (by kernel_rfl) (by kernel_rfl) (by kernel_rfl) (fun _ _ _ h => h) (by rfl) hHeld ?_ ?_
  rotate_left
  · (intro w hSw; (try dsimp only at hSw); go_split_ands; go_simp; try with_reducible rfl)
  (try simp only [Act.put, List.setIfInBounds_toArray, List.set_cons_zero, List.set_cons_succ])
  refine anyH_take 12 (v := ?_) rfl (by kernel_rfl) (by kernel_rfl) (by kernel_rfl) (fun _ _ _ h => h) (by rfl) hHeld ?_ ?_
  rotate_left
  · (intro w hSw; (try dsimp only at hSw); go_split_ands; go_simp; try with_reducible rfl)
  (try simp only [Act.put, List.setIfInBounds_toArray, List.set_cons_zero, List.set_cons_succ])
  refine anyH_take 13 (v := ?_) rfl (by kernel_rfl) (by kernel_rfl) (by kernel_rfl) (fun _ _ _ h => h) (by rfl) hHeld ?_ ?_
  rotate_left
  · (intro w hSw; (try dsimp only at hSw); go_split_ands; go_simp; try with_reducible rfl)
  (try simp only [Act.put, List.setIfInBounds_toArray, List.set_cons_zero, List.set_cons_succ])
  refine anyH_take 14 (v := ?_) rfl (by kernel_rfl) (by kernel_rfl) (by kernel_rfl) (fun _ _ _ h => h) (by rfl) hHeld ?_ ?_
  rotate_left
  · (intro w hSw; (try dsimp only at hSw); go_split_ands; go_simp; try with_reducible rfl)
  (try simp only [Act.put, List.setIfInBounds_toArray, List.set_cons_zero, List.set_cons_succ])
  refine anyH_take 15 (v := ?_) rfl (by kernel_rfl) (by kernel_rfl) (by kernel_rfl) (fun _ _ _ h => h) (by rfl) hHeld ?_ ?_
  rotate_left
  · (intro w hSw; (try dsimp only at hSw); go_split_ands; go_simp; try with_reducible rfl)
  (try simp only [Act.put, List.setIfInBounds_toArray, List.set_cons_zero, List.set_cons_succ])
  (try simp only [k6d, k6n])
  refine anyH_take 16 (v := ?_) rfl (by kernel_rfl) (by kernel_rfl) (by kernel_rfl) (fun _ _ _ h => h) (by rfl) hHeld ?_ ?_
  rotate_left
  · (intro w hSw; (try dsimp only at hSw); go_split_ands; go_simp; try with_reducible rfl)
  (try simp only [Act.put, List.setIfInBounds_toArray, List.set_cons_zero, List.set_cons_succ])
  refine anyH_take 17 (v := ?_) rfl (by kernel_rfl) (by kernel_rfl) (by kernel_rfl) (fun _ _ _ h => h) (by rfl) hHeld ?_ ?_
  rotate_left
  · (intro w hSw; (try dsimp only at hSw); go_split_ands; go_simp; try with_reducible rfl)
  (try simp only [Act.put, List.setIfInBounds_toArray, List.set_cons_zero, List.set_cons_succ])
  refine anyH_take 18 (v := ?_) rfl (by kernel_rfl) (by kernel_rfl) (by kernel_rfl) (fun _ _ _ h => h) (by rfl) hHeld ?_ ?_
  rotate_left
  · (intro w hSw; (try dsimp only at hSw); go_split_ands; go_simp; try with_reducible rfl)
  (try simp only [Act.put, List.setIfInBounds_toArray, List.set_cons_zero, List.set_cons_succ])
  refine anyH_take 21 (v := ?_) rfl (by kernel_rfl) (by kernel_rfl) (by kernel_rfl) (fun _ _ _ h => h) (by rfl) hHeld ?_ ?_
  rotate_left
  · (intro w hSw; (try dsimp only at hSw); go_split_ands; go_simp; try with_reducible rfl)
  (try simp only [Act.put, List.setIfInBounds_toArray, List.set_cons_zero, List.set_cons_succ])
  refine anyH_take 22 (v := ?_) rfl (by kernel_rfl) (by kernel_rfl) (by kernel_rfl) (fun _ _ _ h => h) (by rfl) hHeld ?_ ?_
  rotate_left
  · (intro w hSw; (try dsimp only at hSw); go_split_ands; go_simp; try with_reducible rfl)
  (try simp only [Act.put, List.setIfInBounds_toArray, List.set_cons_zero, List.set_cons_succ])
  refine anyH_take 23 (v := ?_) rfl (by kernel_rfl) (by kernel_rfl) (by kernel_rfl) (fun _ _ _ h => h) (by rfl) hHeld ?_ ?_
  rotate_left
  · (intro w hSw; (try dsimp only at hSw); go_split_ands; go_simp; try with_reducible rfl)
  (try simp only [Act.put, List.setIfInBounds_toArray, List.set_cons_zero, List.set_cons_succ])
  refine anyH_take 24 (v := ?_) rfl (by kernel_rfl) (by kernel_rfl) (by kernel_rfl) (fun _ _ _ h => h) (by rfl) hHeld ?_ ?_
  rotate_left
  · (intro w hSw; (try dsimp only at hSw); go_split_ands; go_simp; try with_reducible rfl)
  (try simp only [Act.put, List.setIfInBounds_toArray, List.set_cons_zero, List.set_cons_succ])
  refine anyH_one 19 rfl (by kernel_rfl) (fun K hK => ?_)
  go_simp
  refine (pairBytes_calls (HPV.out.below U3.out)).mono ?_
  rintro e u4 ⟨A8, c8, rfl, _, hO8, hb4⟩
  rw [HGL.out] at hO8 ⊢
  have hcv := conv_u8 (Kd.any (Own.K hO8))
  rw [HSD.out] at hcv
  have U4 := hid (show Below V.heap.size V u4 from bThen U3.out hb4)
  clear hb4
  go_simp
  refine hK.out _ _ (HCB.out _ U4.out) (fun hHeld => ?_)
  clear hK K
  (try simp only [Act.put, List.setIfInBounds_toArray, List.set_cons_zero, List.set_cons_succ])
  refine wpAnyH_more (S1 := fun w' => ((convert 27 9 (.slice B g d)).run Try.prog w' = .ok (.string s) w') ∧ (convert 27 9 (.slice (some ⟨A8, 0, none⟩) g c8)).run Try.prog w' = .ok (.string s) w') (fun _ h => h.1) _ _ _ _ ?_
  refine anyH_take 20 (v := ?_) rfl (by kernel_rfl) (by kernel_rfl) (by kernel_rfl) (fun _ _ _ h => h) (by rfl) ⟨hHeld, hcv⟩ ?_ ?_
  rotate_left
  · (intro w hSw; (try dsimp only at hSw); go_split_ands; go_simp; try with_reducible rfl)
  (try simp only [Act.put, List.setIfInBounds_toArray, List.set_cons_zero, List.set_cons_succ])
  refine anyH_take 25 (v := ?_) rfl (by kernel_rfl) (by kernel_rfl) (by kernel_rfl) (fun _ _ _ h => h) (by rfl) ⟨hHeld, hcv⟩ ?_ ?_
  rotate_left
  · (intro w hSw; (try dsimp only at hSw); go_split_ands; go_simp; try with_reducible rfl)
  (try simp only [Act.put, List.setIfInBounds_toArray, List.set_cons_zero, List.set_cons_succ])
  refine anyH_take 26 (v := ?_) rfl (by kernel_rfl) (by kernel_rfl) (by kernel_rfl) (fun _ _ _ h => h) (by rfl) ⟨hHeld, hcv⟩ ?_ ?_
  rotate_left
  · (intro w hSw; (try dsimp only at hSw); go_split_ands; go_simp; try with_reducible rfl)
  (try simp only [Act.put, List.setIfInBounds_toArray, List.set_cons_zero, List.set_cons_succ])
  refine wpAnyH_done (by kernel_rfl) ?_ _
  clear hHeld
  have hxV : w.heap.size < V.heap.size := Nat.lt_of_lt_of_le hx1 M6.out.size
  have HXV := hid ((M6.out.block _ hx1 (by omega)).trans HX1.out)
  have HNV := hid (show Kd.str.slice.K V (fun k => k < w.heap.size) x.needs [.slice A n c] from Kd.mod (Kd.below HN.out B1.out) M6.out (fun k _ h1 h2 => by omega))
  have hrl2 := HRL.out
  cases hok : recOk x
  case false =>
    have HAA := hid (show anApp ⟨b.take g, 65536, -1⟩ rs false x = (⟨b.take g, 65536, -1⟩, rs, false, 1) by unfold anApp; rw [hok]; rfl)
    have HOK2 := hid HOKS.out
    have HXZ := hid ((U4.out.block _ hxV).trans HXV.out)
    obtain ⟨x0, x1, x2, x3, x4, x5, x6⟩ := rec_cells HXZ.out
    have HNZ := hid (show Kd.str.slice.K u4 (fun k => k < w.heap.size) x.needs [.slice A n c] from Kd.below HNV.out U4.out)
    go_wp2_with fail
    refine (anAppend_calls _ gb w1.heap.size _ rs false _ (HPV.out.below U4.out) x A n c (Kd.mono _ (fun k hk _ h => by have := B1.out.size; omega) HNZ.out) (by omega)).mono ?_
    rintro e u5 ⟨rfl, hp5, hm5⟩
    rw [HAA.out] at hp5 ⊢
    have s45' := U4.out.size
    have HP5' := hid (hp5.mono (F' := fun k => w1.heap.size ≤ k ∧ k < w4.heap.size ∨ w5.heap.size ≤ k ∧ k < u5.heap.size) (fun k hk h => by omega))
    have s5u := hm5.size
    have HX5 := hid ((hm5.block _ (Nat.lt_of_lt_of_le hxV U4.out.size) (fun h => by have := B1.out.size; omega)).trans HXZ.out)
    have HN5 := hid (show Kd.str.slice.K u5 (fun k => k < w.heap.size) x.needs [.slice A n c] from Kd.mod HNZ.out hm5 (fun k _ h1 h2 => by have := B1.out.size; omega))
    have HO5' := hid ((HOV.out.below U4.out).move (w1 := u5) (T' := fun k => w4.heap.size ≤ k ∧ k < w5.heap.size) (fun k hk hl => hm5.block k hl (fun h => by
      have h' : w1.heap.size ≤ k ∧ k < w4.heap.size ∨ w5.heap.size ≤ k ∧ k < V.heap.size := h
      rcases hk with hk | hk
      · have hk' : w4.heap.size ≤ k ∧ k < w5.heap.size := hk
        omega
      · have h1 := (HOV.out.lt k hk).1
        have h2 := HL5.out k hk
        omega)) (fun _ h _ => h))
    have M7 := hid ((M6.out.then_below U4.out).trans hm5 (fun k _ h => by omega))
    clear hp5 hm5 x0 x1 x2 x3 x4 x5 x6
    go_wp2_with fail
    refine (pairOpen_calls HP5'.out).mono ?_
    rintro e u6 ⟨gc, rfl, _, hp6, hm6⟩
    rw [HRA.out] at hp6
    have s6u := hm6.size
    have HX6 := hid ((hm6.block _ (Nat.lt_of_lt_of_le hxV (Nat.le_trans U4.out.size s5u)) (fun h => by have := B1.out.size; omega)).trans HX5.out)
    have HN6 := hid (show Kd.str.slice.K u6 (fun k => k < w.heap.size) x.needs [.slice A n c] from Kd.mod HN5.out hm6 (fun k _ h1 h2 => by have := B1.out.size; omega))
    have HO6 := hid (HO5'.out.move (w1 := u6) (T' := fun k => w4.heap.size ≤ k ∧ k < w5.heap.size) (fun k hk hl => hm6.block k hl (fun h => by
      have h' : w1.heap.size ≤ k ∧ k < w4.heap.size ∨ w5.heap.size ≤ k ∧ k < u5.heap.size := h
      rcases hk with hk | hk
      · have hk' : w4.heap.size ≤ k ∧ k < w5.heap.size := hk
        omega
      · have h1 := (HOV.out.lt k hk).1
        have h2 := HL5.out k hk
        omega)) (fun _ h _ => h))
    have HP6 := hid hp6
    have M8 := hid (M7.out.trans hm6 (fun k _ h => by omega))
    clear hp6 hm6
    go_wp2_with fail
    refine (pairRecords_calls HP6.out HOK2.out).mono ?_
    rintro e u7 ⟨A9, n9, c9, rfl, hO9, hb9⟩
    have HK9 := hid (show Kd.recK.slice.K u7 Any (rs) [.slice A9 n9 c9] from Kd.any (Own.K hO9))
    have HX7 := hid ((hb9.block _ (Array.getElem?_eq_some_iff.1 HX6.out).1).trans HX6.out)
    have HN7 := hid (show Kd.str.slice.K u7 (fun k => k < w.heap.size) x.needs [.slice A n c] from Kd.below HN6.out hb9)
    have HO7 := hid (HO6.out.below hb9)
    have M9 := hid (M8.out.then_below hb9)
    have s67 := hb9.size
    clear hO9 hb9
    obtain ⟨x0, x1, x2, x3, x4, x5, x6⟩ := rec_cells HX7.out
    go_wp2_with fail
    refine (recCheck_calls x A n c _ (Kd.any HN7.out)).mono ?_
    rintro e u8 ⟨rfl, hb8⟩
    rw [hok]
    have N8 := hid hb8
    have HO8 := hid (HO7.out.below hb8)
    have M10 := hid (M9.out.then_below hb8)
    have HN8 := hid (show Kd.str.slice.K u8 (fun k => k < w.heap.size) x.needs [.slice A n c] from Kd.below HN7.out hb8)
    clear hb8 x0 x1 x2 x3 x4 x5 x6
    go_wp2_with fail
    refine (rfSame18_calls rs rs _ _ _ (Kd.below HK9.out N8.out) (Kd.any (Own.K HO8.out))).mono ?_
    rintro e u10 ⟨rfl, hb10⟩
    rw [show decide (rs = rs) = true from decide_eq_true rfl]
    have M12 := hid (M10.out.then_below hb10)
    clear hb10
    go_wp2_with fail
    refine (works19_calls _).mono ?_
    rintro e u11 ⟨rfl, hb11⟩
    go_wp2
    go_ret
    exact ⟨rfl, below_mod B1.out (M12.out.then_below hb11) (fun k hk => Nat.le_trans B1.out.size hk) B1.out.size⟩
  case true =>
    have hpl := putL_len (l := recL x) (by have := recL_len (x := x); omega)
    have hrl3 := recL_len (x := x)
    have HAA := hid (show anApp ⟨b.take g, 65536, -1⟩ rs false x = (⟨b.take g ++ putL (recL x), 65536, -1⟩, rs ++ [x], false, 0) by
      have h1 : (⟨b.take g, 65536, -1⟩ : DiskS).append (putL (recL x)) = (⟨b.take g ++ putL (recL x), 65536, -1⟩, 0) := by
        unfold DiskS.append
        rw [if_neg (by have := HGL.out; simp only; omega), if_neg (by simp)]
      unfold anApp
      rw [hok, h1]
      rfl)
    have HRM := hid (HM.out hok)
    have HOK2 := hid (show ∀ y ∈ rs ++ [x], recOk y = true from fun y hy => by
      rcases List.mem_append.1 hy with hy | hy
      · exact HOKS.out y hy
      · rw [List.mem_singleton.1 hy]; exact hok)
    clear hpl hrl3
    have HXZ := hid ((U4.out.block _ hxV).trans HXV.out)
    obtain ⟨x0, x1, x2, x3, x4, x5, x6⟩ := rec_cells HXZ.out
    have HNZ := hid (show Kd.str.slice.K u4 (fun k => k < w.heap.size) x.needs [.slice A n c] from Kd.below HNV.out U4.out)
    go_wp2_with fail
    refine (anAppend_calls _ gb w1.heap.size _ rs false _ (HPV.out.below U4.out) x A n c (Kd.mono _ (fun k hk _ h => by have := B1.out.size; omega) HNZ.out) (by omega)).mono ?_
    rintro e u5 ⟨rfl, hp5, hm5⟩
    rw [HAA.out] at hp5 ⊢
    have s45' := U4.out.size
    have HP5' := hid (hp5.mono (F' := fun k => w1.heap.size ≤ k ∧ k < w4.heap.size ∨ w5.heap.size ≤ k ∧ k < u5.heap.size) (fun k hk h => by omega))
    have s5u := hm5.size
    have HX5 := hid ((hm5.block _ (Nat.lt_of_lt_of_le hxV U4.out.size) (fun h => by have := B1.out.size; omega)).trans HXZ.out)
    have HN5 := hid (show Kd.str.slice.K u5 (fun k => k < w.heap.size) x.needs [.slice A n c] from Kd.mod HNZ.out hm5 (fun k _ h1 h2 => by have := B1.out.size; omega))
    have HO5' := hid ((HOV.out.below U4.out).move (w1 := u5) (T' := fun k => w4.heap.size ≤ k ∧ k < w5.heap.size) (fun k hk hl => hm5.block k hl (fun h => by
      have h' : w1.heap.size ≤ k ∧ k < w4.heap.size ∨ w5.heap.size ≤ k ∧ k < V.heap.size := h
      rcases hk with hk | hk
      · have hk' : w4.heap.size ≤ k ∧ k < w5.heap.size := hk
        omega
      · have h1 := (HOV.out.lt k hk).1
        have h2 := HL5.out k hk
        omega)) (fun _ h _ => h))
    have M7 := hid ((M6.out.then_below U4.out).trans hm5 (fun k _ h => by omega))
    clear hp5 hm5 x0 x1 x2 x3 x4 x5 x6
    go_wp2_with fail
    refine (pairOpen_calls HP5'.out).mono ?_
    rintro e u6 ⟨gc, rfl, _, hp6, hm6⟩
    rw [HRM.out] at hp6
    have s6u := hm6.size
    have HX6 := hid ((hm6.block _ (Nat.lt_of_lt_of_le hxV (Nat.le_trans U4.out.size s5u)) (fun h => by have := B1.out.size; omega)).trans HX5.out)
    have HN6 := hid (show Kd.str.slice.K u6 (fun k => k < w.heap.size) x.needs [.slice A n c] from Kd.mod HN5.out hm6 (fun k _ h1 h2 => by have := B1.out.size; omega))
    have HO6 := hid (HO5'.out.move (w1 := u6) (T' := fun k => w4.heap.size ≤ k ∧ k < w5.heap.size) (fun k hk hl => hm6.block k hl (fun h => by
      have h' : w1.heap.size ≤ k ∧ k < w4.heap.size ∨ w5.heap.size ≤ k ∧ k < u5.heap.size := h
      rcases hk with hk | hk
      · have hk' : w4.heap.size ≤ k ∧ k < w5.heap.size := hk
        omega
      · have h1 := (HOV.out.lt k hk).1
        have h2 := HL5.out k hk
        omega)) (fun _ h _ => h))
    have HP6 := hid hp6
    have M8 := hid (M7.out.trans hm6 (fun k _ h => by omega))
    clear hp6 hm6
    go_wp2_with fail
    refine (pairRecords_calls HP6.out HOK2.out).mono ?_
    rintro e u7 ⟨A9, n9, c9, rfl, hO9, hb9⟩
    have HKS := hid (show Kd.recK.slice.K u7 (fun k => w5.heap.size ≤ k) (rs ++ [x]) [.slice A9 n9 c9] from Kd.mono _ (fun k hk _ => by rcases hk with hk | hk <;> (have h1 : u6.heap.size ≤ k := hk; omega)) (Own.K hO9))
    have HX7 := hid ((hb9.block _ (Array.getElem?_eq_some_iff.1 HX6.out).1).trans HX6.out)
    have HN7 := hid (show Kd.str.slice.K u7 (fun k => k < w.heap.size) x.needs [.slice A n c] from Kd.below HN6.out hb9)
    have HO7 := hid (HO6.out.below hb9)
    have M9 := hid (M8.out.then_below hb9)
    have s67 := hb9.size
    clear hO9 hb9
    obtain ⟨x0, x1, x2, x3, x4, x5, x6⟩ := rec_cells HX7.out
    go_wp2_with fail
    refine (recCheck_calls x A n c _ (Kd.any HN7.out)).mono ?_
    rintro e u8 ⟨rfl, hb8⟩
    rw [hok]
    have N8 := hid hb8
    have HO8 := hid (HO7.out.below hb8)
    have M10 := hid (M9.out.then_below hb8)
    have HN8 := hid (show Kd.str.slice.K u8 (fun k => k < w.heap.size) x.needs [.slice A n c] from Kd.below HN7.out hb8)
    clear hb8 x0 x1 x2 x3 x4 x5 x6
    obtain ⟨x0, x1, x2, x3, x4, x5, x6⟩ := rec_cells ((N8.out.block _ (Array.getElem?_eq_some_iff.1 HX7.out).1).trans HX7.out)
    have HW8 := hid (HO8.out.widen (T' := fun k => k < w.heap.size ∨ w4.heap.size ≤ k ∧ k < w5.heap.size) (fun k h => .inr h))
    have s8 := M10.out.size
    have s78 := N8.out.size
    go_wp2_with (at_builtin; go_must (refine append_arm Kd.recK (w0 := u8) (W := u8) w4.heap.size rfl _ _ 40 24 (.agg zRec) 72 rfl Try.underlying40 Try.infoRec rfl (by decide) (by decide) (.slice A5 n5 c5) rs x [.int .i64 x.kind, .int .i64 x.job, .int .i64 x.task, .int .i64 x.worker, .int .i64 x.sched, .int .i64 x.epoch, .slice A n c] (fun k => k < w.heap.size ∨ w4.heap.size ≤ k ∧ k < w5.heap.size) (fun k => k < w.heap.size) rfl rfl (rec_K HN8.out) (fun k h1 h2 => ⟨.inl h1, fun h3 => by have h4 : k < w.heap.size := h1; have := (HO8.out.lt k h3.symm).1; have := B1.out.size; omega⟩) HW8.out (Below.refl _ _) (by omega) (by omega) ?_))
    intro v9 u9 hO9 hb9 hg9 _
    obtain ⟨A10, n10, c10, rfl, hq1, hq2⟩ := hO9.shape'
    have HK10 := hid (show Kd.recK.slice.K u9 Any (rs ++ [x]) [.slice A10 n10 c10] from Kd.any (Own.K hO9))
    have M11 := hid (M10.out.grown hg9 (fun k hk _ => by have := (HO8.out.lt k hk).1; omega))
    have HKN := hid (Kd.recK.slice.move (w1 := u9) (fun k h1 h2 => hg9.block k h2 (fun e => by have h3 : w5.heap.size ≤ k := h1; have := HL5.out k e.symm; omega)) (Kd.below HKS.out N8.out))
    clear hq1 hq2 hO9 hb9 hg9 x0 x1 x2 x3 x4 x5 x6
    go_wp2_with fail
    refine (rfSame18_calls (rs ++ [x]) (rs ++ [x]) _ _ _ (Kd.any HKN.out) HK10.out).mono ?_
    rintro e u10 ⟨rfl, hb10⟩
    rw [show decide (rs ++ [x] = rs ++ [x]) = true from decide_eq_true rfl]
    have M12 := hid (M11.out.then_below hb10)
    clear hb10
    go_wp2_with fail
    refine (works19_calls _).mono ?_
    rintro e u11 ⟨rfl, hb11⟩
    go_wp2
    go_ret
    exact ⟨rfl, below_mod B1.out (M12.out.then_below hb11) (fun k hk => Nat.le_trans B1.out.size hk) B1.out.size⟩

theorem annalAgain_walk (W : World) (b : List UInt8) (u : Value) (hb : Kd.u8.slice.K W Any b [u]) (_ob : (∀ y ∈ b, True) ∧ b.length * 1 ≤ 140737488351232) (x : RecS) (cs : Array Value) (hx : Kd.recK.K W Any x cs.toList) (_ox : okRec x) :
    Calls Try.prog 10 #[u, .agg cs] W fun e w' => e = .returned (.bool true) ∧ Below W.heap.size W w' := by
  obtain ⟨A, n, c, rfl, h1⟩ := rec_open hx
  have h2 := hb
  obtain ⟨B, d, he, _, _, _⟩ := h2
  obtain rfl : u = .slice B b.length d := by simpa using he
  exact annalAgainLaw_calls W b B d hb x A n c h1
end Go.Proofs.Ytahhhnbpohcbfaa
