/- hand.All; book.Open; slices.Contains. -/
import Derived.Test.YteijgeofimcijaaHand1
import Derived.Test.YteijgeofimcijaaBoxW
namespace Go.Proofs.Yteijgeofimcijaa
open Go.RowKit

theorem boxes_new (w : World) (E : EntryS) (EA EB ED : Option Addr) (ea eb ed : Nat) (had : List Bool) (hv : Value) (V : World) (hV : V = (w.alloc (.cells #[.int .i64 E.id, .int .i64 E.sched, .int .i64 E.epoch, .slice EA E.needs.length ea, .slice EB E.bound.length eb, .slice ED E.done.length ed] 74)).alloc (.cells #[hv] 72)) (hE : EAt w E EA EB ED ea eb ed) (hh : Kd.bool.slice.K w Any had [hv]) : Below w.heap.size w V ∧ Boxes V E EA EB ED ea eb ed had hv w.heap.size (w.heap.size + 1) ∧ V.heap.size = w.heap.size + 2 := by
  have hb : Below w.heap.size w V := by rw [hV]; exact bAlloc (bAlloc (Below.refl _ _) _) _
  have hz : V.heap[w.heap.size]? = some (.cells #[.int .i64 E.id, .int .i64 E.sched, .int .i64 E.epoch, .slice EA E.needs.length ea, .slice EB E.bound.length eb, .slice ED E.done.length ed] 74 (0, 0)) := by rw [hV, Below.heap_alloc _ _ _ (by simp)]; exact heap_at rfl
  have hz1 : V.heap[w.heap.size + 1]? = some (.cells #[hv] 72 (0, 0)) := by rw [hV]; exact heap_at (by simp)
  have hs : V.heap.size = w.heap.size + 2 := by rw [hV]; simp
  exact ⟨hb, ⟨box6 hz V (Below.refl _ _), box1 hz1 V (Below.refl _ _), hE.below hb, Kd.below hh hb, by omega, by omega⟩, hs⟩
theorem tasks_le (E : EntryS) (h : E.bound.length ≤ 1000) : tasksN E ≤ 1000 := by unfold tasksN; omega
theorem left_at {E : EntryS} {had : List Bool} {j : Nat} (h : leftB E had j = true) (hb : BoundOk E) : ∃ b, E.bound[j]? = some b ∧ 0 < b ∧ b ≤ 64 := by
  unfold leftB at h
  rw [Bool.and_eq_true, Bool.and_eq_true, decide_eq_true_iff] at h
  cases hx : E.bound[j]? with
  | none => rw [hx] at h; exact absurd h.1.1 (by decide)
  | some b => rw [hx] at h; exact ⟨b, rfl, h.1.1, (hb b (List.mem_of_getElem? hx)).2⟩
set_option maxHeartbeats 4000000 in
set_option maxRecDepth 100000 in
theorem all_calls (E : EntryS) (EA EB ED : Option Addr) (ea eb ed : Nat) (had : List Bool) (hv : Value) (w : World) (hE : EAt w E EA EB ED ea eb ed) (hh : Kd.bool.slice.K w Any had [hv]) (hbl : E.bound.length ≤ 1000) (hbd : BoundOk E) :
    Calls Try.prog 53 #[.agg #[.int .i64 E.id, .int .i64 E.sched, .int .i64 E.epoch, .slice EA E.needs.length ea, .slice EB E.bound.length eb, .slice ED E.done.length ed], hv] w fun e w' => ∃ v, e = .returned v ∧ Own Kd.out 93 w' w.heap.size NoT v (allS E had) ∧ Below w.heap.size w w' := by
  obtain ⟨V, hV⟩ : ∃ V, V = (w.alloc (.cells #[.int .i64 E.id, .int .i64 E.sched, .int .i64 E.epoch, .slice EA E.needs.length ea, .slice EB E.bound.length eb, .slice ED E.done.length ed] 74)).alloc (.cells #[hv] 72) := ⟨_, rfl⟩
  obtain ⟨hbv, hbx, hvs⟩ := boxes_new w E EA EB ED ea eb ed had hv V hV hE hh
  have HBV := hid hbv
  have HBX := hid hbx
  have HV := hid hV
  have HBD := hid hbd
  have htl := tasks_le E hbl
  obtain ⟨Ah, ch, he, _, _, _⟩ := hh
  injection he with he _
  subst he
  obtain ⟨n, hn⟩ : ∃ n, n = tasksN E := ⟨_, rfl⟩
  rw [← hn] at htl
  have HNN := hid hn
  have hmf := makeFunc_run Try.prog
  obtain ⟨⟨c0, c1, c2, c3, c4, c5⟩, c6, _⟩ := hbx
  have HVS := hid hvs
  clear hV hE hbv hbd hn hvs
  go_enter Try.func53, Try.ntmps53
  go_wp2_with fail
  rw [← HV.out]
  refine (handTasks_calls E EA EB ED ea eb ed V).mono ?_
  rintro e w1 ⟨rfl, hb1⟩
  rw [← HNN.out]
  have HB1 := hid hb1
  clear hb1
  go_wp2_with fail
  refine (where2_calls 109 _ _ all1_enter (leftB E had) n (by omega) w1 (fun k u hk hb => all1_calls E EA EB ED ea eb ed had _ _ _ k u (HBX.out.below (bThen HB1.out hb)) (by rw [← HNN.out]; exact hk))).mono ?_
  rintro e w2 ⟨v2, rfl, hO, hb2⟩
  have HB2 := hid (bThen HB1.out hb2)
  obtain ⟨A, c, he, hcc, hmm, hrr⟩ := Kd.any hO.K
  cases he
  have HRL := hid hrr
  obtain ⟨q, hq⟩ : ∃ q, (whereN (leftB E had) n).length = q := ⟨_, rfl⟩
  have HQ := hid hq
  have hqn : q ≤ n := by rw [← hq]; exact whereN_len _ _
  rw [hq] at hcc hmm ⊢
  clear hO hb2 hrr hq
  go_wp2
  go_loopw [5, 13] (fun o i wr => ∃ k : Nat, k ≤ q ∧ i = .int .i64 k ∧ Hid (Own Kd.out 93 wr w2.heap.size NoT o (((whereN (leftB E had) n).take k).map (outOf E))) ∧ Hid (Below w2.heap.size w2 wr)) (fun _ i _ => q - (intOf i).toNat)
  case atStart => exact ⟨0, by omega, rfl, Own.nil _ _ _ _ _, Below.refl _ _⟩
  case round =>
    obtain ⟨k, hk, rfl, HO, HB⟩ := hrel
    obtain ⟨A3, n3, c3', rfl, hq1, hq2⟩ := HO.out.shape'
    clear hq1 hq2
    by_cases hlt : k < q
    · obtain ⟨a, x, rfl, hx, r0⟩ := (HRL.out.below HB.out).at_int k (by rw [HQ.out]; exact hlt)
      obtain ⟨j, rfl, hj, hlj⟩ := (whereN_mem (leftB E had) x n).1 (List.mem_of_getElem? hx)
      obtain ⟨bv, hbj, hb0, hb64⟩ := left_at hlj HBD.out
      have hjb := (List.getElem?_eq_some_iff.1 hbj).1
      have HX := hid hx
      have HBJ := hid hbj
      have HBQ := hid (fun (u : World) (hb : Below w2.heap.size w2 u) => HBX.out.below (bThen HB2.out hb))
      obtain ⟨ab, hab⟩ : ∃ ab, EB = some ab := by
        obtain ⟨rb, _⟩ := K_row HBX.out.2.2.1.bound
        obtain ⟨ab, _, h, _⟩ := rb.at_int j hjb
        exact ⟨ab, h⟩
      subst hab
      have HS := hid (fun (u : World) (hb : Below w2.heap.size w2 u) => show (u.cell? ⟨w.heap.size, 0, none⟩ = some (.int .i64 E.id) ∧ u.cell? ⟨w.heap.size, 2, none⟩ = some (.int .i64 E.epoch) ∧ u.cell? ⟨w.heap.size, 4, none⟩ = some (.slice (some ab) E.bound.length eb) ∧ u.cell? (ab.add j) = some (.int .i64 bv)) from by
        obtain ⟨⟨d0, d1, d2, d3, d4, d5⟩, _, dE, _⟩ := HBQ.out u hb
        obtain ⟨rb, _⟩ := K_row dE.bound
        obtain ⟨a', x', ha', hx', r0'⟩ := rb.at_int j hjb
        cases ha'
        rw [HBJ.out] at hx'
        obtain rfl := Option.some.inj hx'
        exact ⟨d0, d2, d4, r0'⟩)
      have hltI : (k : Int) < (q : Int) := by omega
      have hk0 : (0 : Int) ≤ (k : Int) := by omega
      have hjI : (j : Int) < (E.bound.length : Int) := by omega
      have hj0 : (0 : Int) ≤ (j : Int) := by omega
      have e1 : IntKind.i64.wrap (8 + bv) = 8 + bv := IntWalk.i64_in _ (by omega)
      have e2 : IntKind.i64.wrap (8 + bv - 1) = 8 + bv - 1 := IntWalk.i64_in _ (by omega)
      have HOUT := hid (show outOf E (j : Int) = ⟨8 + bv - 1, 4, E.id, j, E.epoch⟩ by unfold outOf; rw [Int.toNat_natCast, HBJ.out]; simp only [Option.getD_some]; rw [show 7 + bv = 8 + bv - 1 by omega])
      have HN := hid (show ((whereN (leftB E had) n).take k).map (outOf E) ++ [outOf E (j : Int)] = ((whereN (leftB E had) n).take (k + 1)).map (outOf E) by rw [take_snoc HX.out, List.map_append]; rfl)
      have HLN := hid (show (((whereN (leftB E had) n).take k).map (outOf E)).length ≤ k by rw [List.length_map, List.length_take]; omega)
      generalize E.bound.length = nb at *
      clear hx hbj hlj
      go_wp2_with fail
      refine wp_region_held_drew (S := fun w' => w'.cell? ⟨w.heap.size, 0, none⟩ = some (.int .i64 E.id) ∧ w'.cell? ⟨w.heap.size, 2, none⟩ = some (.int .i64 E.epoch) ∧ w'.cell? ⟨w.heap.size, 4, none⟩ = some (.slice (some ab) nb eb) ∧ w'.cell? (ab.add j) = some (.int .i64 bv)) (by kernel_rfl) (HS.out _ HB.out.drew) (fun hHeld => ?_)
      refine anyH_take 0 (v := ?_) rfl (by kernel_rfl) (by kernel_rfl) (by kernel_rfl) (fun _ _ _ h => h) (by rfl) hHeld ?_ ?_
      rotate_left
      · (intro w hSw; (try dsimp only at hSw); go_split_ands; go_simp; try with_reducible rfl)
      (try simp only [Act.put, List.setIfInBounds_toArray, List.set_cons_zero, List.set_cons_succ])
      refine anyH_take 1 (v := ?_) rfl (by kernel_rfl) (by kernel_rfl) (by kernel_rfl) (fun _ _ _ h => h) (by rfl) hHeld ?_ ?_
      rotate_left
      · (intro w hSw; (try dsimp only at hSw); go_split_ands; go_simp; try with_reducible rfl)
      (try simp only [Act.put, List.setIfInBounds_toArray, List.set_cons_zero, List.set_cons_succ])
      refine anyH_take 2 (v := ?_) rfl (by kernel_rfl) (by kernel_rfl) (by kernel_rfl) (fun _ _ _ h => h) (by rfl) hHeld ?_ ?_
      rotate_left
      · (intro w hSw; (try dsimp only at hSw); go_split_ands; go_simp; try with_reducible rfl)
      (try simp only [Act.put, List.setIfInBounds_toArray, List.set_cons_zero, List.set_cons_succ])
      refine anyH_take 3 (v := ?_) rfl (by kernel_rfl) (by kernel_rfl) (by kernel_rfl) (fun _ _ _ h => h) (by rfl) hHeld ?_ ?_
      rotate_left
      · (intro w hSw; (try dsimp only at hSw); go_split_ands; go_simp; try with_reducible rfl)
      (try simp only [Act.put, List.setIfInBounds_toArray, List.set_cons_zero, List.set_cons_succ])
      refine anyH_take 4 (v := ?_) rfl (by kernel_rfl) (by kernel_rfl) (by kernel_rfl) (fun _ _ _ h => h) (by rfl) hHeld ?_ ?_
      rotate_left
      · (intro w hSw; (try dsimp only at hSw); go_split_ands; go_simp; try with_reducible rfl)
      (try simp only [Act.put, List.setIfInBounds_toArray, List.set_cons_zero, List.set_cons_succ])
      refine anyH_take 5 (v := ?_) rfl (by kernel_rfl) (by kernel_rfl) (by kernel_rfl) (fun _ _ _ h => h) (by rfl) hHeld ?_ ?_
      rotate_left
      · (intro w hSw; (try dsimp only at hSw); go_split_ands; go_simp; try with_reducible rfl)
      (try simp only [Act.put, List.setIfInBounds_toArray, List.set_cons_zero, List.set_cons_succ])
      refine anyH_take 6 (v := ?_) rfl (by kernel_rfl) (by kernel_rfl) (by kernel_rfl) (fun _ _ _ h => h) (by rfl) hHeld ?_ ?_
      rotate_left
      · (intro w hSw; (try dsimp only at hSw); go_split_ands; go_simp; try with_reducible rfl)
      (try simp only [Act.put, List.setIfInBounds_toArray, List.set_cons_zero, List.set_cons_succ])
      refine anyH_take 7 (v := ?_) rfl (by kernel_rfl) (by kernel_rfl) (by kernel_rfl) (fun _ _ _ h => h) (by rfl) hHeld ?_ ?_
      rotate_left
      · (intro w hSw; (try dsimp only at hSw); go_split_ands; go_simp; try with_reducible rfl)
      (try simp only [Act.put, List.setIfInBounds_toArray, List.set_cons_zero, List.set_cons_succ])
      refine anyH_take 8 (v := ?_) rfl (by kernel_rfl) (by kernel_rfl) (by kernel_rfl) (fun _ _ _ h => h) (by rfl) hHeld ?_ ?_
      rotate_left
      · (intro w hSw; (try dsimp only at hSw); go_split_ands; go_simp; try with_reducible rfl)
      (try simp only [Act.put, List.setIfInBounds_toArray, List.set_cons_zero, List.set_cons_succ])
      refine anyH_take 9 (v := ?_) rfl (by kernel_rfl) (by kernel_rfl) (by kernel_rfl) (fun _ _ _ h => h) (by rfl) hHeld ?_ ?_
      rotate_left
      · (intro w hSw; (try dsimp only at hSw); go_split_ands; go_simp; try with_reducible rfl)
      (try simp only [Act.put, List.setIfInBounds_toArray, List.set_cons_zero, List.set_cons_succ])
      refine anyH_take 10 (v := ?_) rfl (by kernel_rfl) (by kernel_rfl) (by kernel_rfl) (fun _ _ _ h => h) (by rfl) hHeld ?_ ?_
      rotate_left
      · (intro w hSw; (try dsimp only at hSw); go_split_ands; go_simp; try with_reducible rfl)
      (try simp only [Act.put, List.setIfInBounds_toArray, List.set_cons_zero, List.set_cons_succ])
      refine anyH_take 11 (v := ?_) rfl (by kernel_rfl) (by kernel_rfl) (by kernel_rfl) (fun _ _ _ h => h) (by rfl) hHeld ?_ ?_
      rotate_left
      · (intro w hSw; (try dsimp only at hSw); go_split_ands; go_simp; try with_reducible rfl)
      (try simp only [Act.put, List.setIfInBounds_toArray, List.set_cons_zero, List.set_cons_succ])
      refine anyH_take 12 (v := ?_) rfl (by kernel_rfl) (by kernel_rfl) (by kernel_rfl) (fun _ _ _ h => h) (by rfl) hHeld ?_ ?_
      rotate_left
      · (intro w hSw; (try dsimp only at hSw); go_split_ands; go_simp; try with_reducible rfl)
      (try simp only [Act.put, List.setIfInBounds_toArray, List.set_cons_zero, List.set_cons_succ])
      refine anyH_take 13 (v := ?_) rfl (by kernel_rfl) (by kernel_rfl) (by kernel_rfl) (fun _ _ _ h => h) (by rfl) hHeld ?_ ?_
      rotate_left
      · (intro w hSw; (try dsimp only at hSw); go_split_ands; go_simp; try with_reducible rfl)
      (try simp only [Act.put, List.setIfInBounds_toArray, List.set_cons_zero, List.set_cons_succ])
      refine anyH_take 14 (v := ?_) rfl (by kernel_rfl) (by kernel_rfl) (by kernel_rfl) (fun _ _ _ h => h) (by rfl) hHeld ?_ ?_
      rotate_left
      · (intro w hSw; (try dsimp only at hSw); go_split_ands; go_simp; try with_reducible rfl)
      (try simp only [Act.put, List.setIfInBounds_toArray, List.set_cons_zero, List.set_cons_succ])
      refine anyH_one 15 rfl (by kernel_rfl) (fun K hK => ?_)
      go_simp
      have HAL := hid (show Below wr.heap.size wr (wr.drew.alloc (.cells #[.int .i64 (8 + bv - 1), .int .i64 4, .int .i64 E.id, .int .i64 j, .int .i64 E.epoch] 93)) from (Below.refl wr.heap.size wr).drew.alloc (Nat.le_refl _) _)
      refine hK.out _ _ (HS.out _ (bThen HB.out HAL.out)) (fun hHeld => ?_)
      clear hK K
      (try simp only [Act.put, List.setIfInBounds_toArray, List.set_cons_zero, List.set_cons_succ])
      refine anyH_one 16 rfl (by kernel_rfl) (fun K hK => ?_)
      refine appends_step Kd.out w2.heap.size rfl _ _ 88 93 _ 40 rfl Try.underlying88 Try.infoOut rfl (by decide) (by decide) (.slice A3 n3 c3') (((whereN (leftB E had) n).take k).map (outOf E)) [⟨8 + bv - 1, 4, E.id, j, E.epoch⟩] (some ⟨wr.heap.size, 0, none⟩) 1 1 NoT Any NoT rfl rfl rfl (K_row (Kd.any (K_new (enc := fun (x : OutS) => [.int .i64 x.to, .int .i64 x.kind, .int .i64 x.job, .int .i64 x.task, .int .i64 x.epoch]) (hl := fun _ => rfl) (h1 := fun x u hu => by simp at hu; rcases hu with rfl | rfl | rfl | rfl | rfl <;> rfl) wr.drew wr.heap.size rfl 93 [⟨8 + bv - 1, 4, E.id, j, E.epoch⟩] (by simp)))).1 (fun _ _ h => h) (fun _ h => h.elim) (HO.out.below HAL.out) (bThen HB.out HAL.out).size (by have := HLN.out; omega) ?_
      intro v1 w4 hO4 hg4 _
      have HB4 := hid ((bThen HB.out HAL.out).grown hg4 (bThen HB.out HAL.out).size (fun k hk => ((HO.out.below HAL.out).lt k hk).1))
      refine hK.out _ _ (HS.out _ HB4.out) (fun hHeld => ?_)
      clear hK K
      (try simp only [Act.put, List.setIfInBounds_toArray, List.set_cons_zero, List.set_cons_succ])
      refine anyH_take 17 (v := ?_) rfl (by kernel_rfl) (by kernel_rfl) (by kernel_rfl) (fun _ _ _ h => h) (by rfl) hHeld ?_ ?_
      rotate_left
      · (intro w hSw; (try dsimp only at hSw); go_split_ands; go_simp; try with_reducible rfl)
      (try simp only [Act.put, List.setIfInBounds_toArray, List.set_cons_zero, List.set_cons_succ])
      refine wpAnyH_done (by kernel_rfl) ?_ _
      go_wp2
      go_roundw
      case rel => exact ⟨k + 1, by omega, by go_num, by rw [← HN.out, HOUT.out]; exact hO4, HB4⟩
      case measure => simp [intOf]; omega
    · obtain rfl : k = q := by omega
      have HE := hid (show ((whereN (leftB E had) n).take k).map (outOf E) = allS E had by rw [List.take_of_length_le (by rw [HQ.out]; exact Nat.le_refl _)]; unfold allS; rw [← HNN.out])
      go_wp2
      go_ret
      exact ⟨_, rfl, by rw [← HE.out]; exact HO.out.lower (bThen HBV.out HB2.out).size, bThen (bThen HBV.out HB2.out) HB.out⟩
end Go.Proofs.Yteijgeofimcijaa
