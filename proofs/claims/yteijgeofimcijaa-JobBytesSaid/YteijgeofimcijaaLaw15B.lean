/- The law JobBytes. Printed by gen_law15b.py. -/
import Derived.Test.YteijgeofimcijaaJobP
import Derived.Test.YteijgeofimcijaaJobB
import Derived.Test.YteijgeofimcijaaWorks15
namespace Go.Proofs.Yteijgeofimcijaa
open Go.RowKit Go.Lib

theorem sameJ_self (J : JobS) : sameJ J J = true := by unfold sameJ; rw [beq_self_eq_true, decide_eq_true rfl]; rfl
set_option maxHeartbeats 12800000 in
set_option maxRecDepth 100000 in
theorem jobBytesLaw (J Kj : JobS) (A B D : Option Addr) (n c m d q f : Nat) (bs : List UInt8) (w : World) (hj : Kd.str.slice.K w Any J.needs [.slice A n c]) (hn : n = J.needs.length) (hk : Kd.str.slice.K w Any Kj.needs [.slice B m d]) (hb : Kd.u8.slice.K w Any bs [.slice D q f]) (hq : q = bs.length) :
    Calls Try.prog 14 #[.agg #[.int .i64 J.id, .slice A n c], .agg #[.int .i64 Kj.id, .slice B m d], .slice D q f] w fun e w' => e = .returned (.bool true) ∧ Below w.heap.size w w' := by
  obtain ⟨V, hV⟩ : ∃ V, V = (w.alloc (.cells #[.int .i64 J.id, .slice A n c] 58)).alloc (.cells #[.int .i64 Kj.id, .slice B m d] 58) := ⟨_, rfl⟩
  have hb0 : Below w.heap.size w V := by rw [hV]; exact bAlloc (bAlloc (Below.refl _ _) _) _
  have HZ1 := hid (show V.heap[w.heap.size]? = some (.cells #[.int .i64 J.id, .slice A n c] 58 (0, 0)) by rw [hV]; exact heap_old (by simp) (heap_at rfl))
  have HZ2 := hid (show V.heap[w.heap.size + 1]? = some (.cells #[.int .i64 Kj.id, .slice B m d] 58 (0, 0)) by rw [hV]; exact heap_at (by simp))
  have hzs : V.heap.size = w.heap.size + 1 + 1 := by rw [hV]; simp
  have HBV := hid hb0
  have HV := hid hV
  have HJ := hid (Kd.below hj hb0)
  have HK := hid (Kd.below hk hb0)
  have HB := hid (Kd.below hb hb0)
  have CB := hid (fun (u : World) (h : Below V.heap.size V u) => show Calls Try.prog 71 #[.agg #[.int .i64 J.id, .slice A n c]] u (fun e w' => ∃ A m c, e = .returned (.slice A m c) ∧ (∀ W, Below w'.heap.size w' W → (convert 29 9 (.slice A m c)).run Try.prog W = .ok (.string (mkB (jobL J))) W) ∧ Below u.heap.size u w') from by
    subst hn; exact (jobBytes_calls J A c u (Kd.below (Kd.below hj hb0) h)).mono (fun e w' ⟨A, m, c, h1, h2, h3⟩ => ⟨A, m, c, h1, fun W hW => conv_u8 (Kd.below (Kd.any (Own.K h2)) hW), h3⟩))
  have CR := hid (fun (u : World) (h : Below V.heap.size V u) => show Calls Try.prog 72 #[.agg #[.int .i64 J.id, .slice A n c]] u (fun e w' => e = .returned (.string (mkB (jobL J))) ∧ Below u.heap.size u w') from by
    subst hn; exact rjobBytes_calls J A c u (Kd.below (Kd.below hj hb0) h))
  obtain ⟨x0, hx0⟩ : ∃ x, (w.alloc (.cells #[.int .i64 J.id, .slice A n c] 58)) = x := ⟨_, rfl⟩
  have HQ := hid hq
  clear hj hk hb hV hn hb0 hq
  obtain ⟨y1, _, _⟩ := cells_of_block HZ1.out
  obtain ⟨y2, _, _⟩ := cells_of_block HZ2.out
  have a0 := y1 0 _ rfl
  have a1 := y1 1 _ rfl
  have b0 := y2 0 _ rfl
  have b1 := y2 1 _ rfl
  clear y1 y2 hx0
  go_enter Try.func14, Try.ntmps14
  go_wp2_with fail
  rw [← HV.out]
  refine (long_calls J.needs 20 300 _ _ HJ.out).mono ?_
  rintro e w' ⟨rfl, rfl⟩
  obtain ⟨L1, hL1⟩ : ∃ L, L = longB J.needs 20 300 := ⟨_, rfl⟩
  rw [← hL1]
  clear hL1
  cases L1
  case true =>
    go_wp2_with fail
    refine (works15_calls _).mono ?_
    rintro e w2 ⟨rfl, hb2⟩
    go_wp2
    go_ret
    exact ⟨rfl, bThen HBV.out hb2⟩
  go_wp2_with fail
  refine (long_calls Kj.needs 20 300 _ _ HK.out).mono ?_
  rintro e w' ⟨rfl, rfl⟩
  obtain ⟨L2, hL2⟩ : ∃ L, L = longB Kj.needs 20 300 := ⟨_, rfl⟩
  rw [← hL2]
  clear hL2
  cases L2
  case true =>
    go_wp2_with fail
    refine (works15_calls _).mono ?_
    rintro e w2 ⟨rfl, hb2⟩
    go_wp2
    go_ret
    exact ⟨rfl, bThen HBV.out hb2⟩
  by_cases hlb : (q : Int) > 2000
  · go_wp2_with fail
    refine (works15_calls _).mono ?_
    rintro e w2 ⟨rfl, hb2⟩
    go_wp2
    go_ret
    exact ⟨rfl, bThen HBV.out hb2⟩
  have hlq : ¬ ((q : Int) > 2000) := hlb
  have HL := hid (show bs.length ≤ 1000000 by have := HQ.out; omega)
  clear a0 a1 b0 b1
  go_wp2_with fail
  refine (jobParse_calls bs _ _ HB.out HL.out).mono ?_
  rintro e w1 ⟨A1, n1, c1, rfl, hP1, hb1⟩
  obtain ⟨X, hX⟩ : ∃ X, X = jparseJ bs := ⟨_, rfl⟩
  obtain ⟨E, hE⟩ : ∃ E, E = jparseE bs := ⟨_, rfl⟩
  rw [← hX] at hP1 ⊢
  rw [← hE]
  have HX := hid hX
  have HE := hid hE
  have HP1 := hid (Kd.any hP1)
  have HB1 := hid hb1
  clear hX hE hP1 hb1
  have hcv : (convert 29 9 (.slice D q f)).run Try.prog (w1.alloc (.cells #[.int .i64 X.id, .slice A1 n1 c1] 58)) = .ok (.string (mkB bs)) (w1.alloc (.cells #[.int .i64 X.id, .slice A1 n1 c1] 58)) := conv_u8 (Kd.below HB.out (bAlloc HB1.out _))
  go_wp2_with fail
  refine (rjobParse_calls bs _ HL.out).mono ?_
  rintro e w2 ⟨A2, n2, c2, rfl, hP2, hb2⟩
  rw [← HX.out] at hP2 ⊢
  rw [← HE.out]
  have hE0 : (E == E) = true := beq_self_eq_true _
  obtain ⟨W0, hW0⟩ : ∃ W0, W0 = w2.alloc (.cells #[.int .i64 X.id, .slice A2 n2 c2] 58) := ⟨_, rfl⟩
  have hs1 := HB1.out.size
  have hs2 := hb2.size
  simp at hs2
  have B0 : Below V.heap.size V W0 := by rw [hW0]; exact bAlloc (bThen (bAlloc HB1.out _) hb2) _
  have Y1 := hid ((B0.block _ (by omega)).trans HZ1.out)
  have Y2 := hid ((B0.block _ (by omega)).trans HZ2.out)
  have Y3 := hid (show W0.heap[w1.heap.size]? = some (.cells #[.int .i64 X.id, .slice A1 n1 c1] 58 (0, 0)) by rw [hW0]; exact heap_old (by omega) ((hb2.block _ (by simp)).trans (heap_at rfl)))
  have Y4 := hid (show W0.heap[w2.heap.size]? = some (.cells #[.int .i64 X.id, .slice A2 n2 c2] 58 (0, 0)) by rw [hW0]; exact heap_at rfl)
  have hz0 : W0.heap.size = w2.heap.size + 1 := by rw [hW0]; simp
  have HX1 := hid (show Kd.str.slice.K W0 Any X.needs [.slice A1 n1 c1] from Kd.below (Kd.below HP1.out (bAlloc (Below.refl _ _) _)) (by rw [hW0]; exact bAlloc hb2 _))
  have HX2 := hid (show Kd.str.slice.K W0 Any X.needs [.slice A2 n2 c2] from Kd.below (Kd.any hP2) (by rw [hW0]; exact bAlloc (Below.refl _ _) _))
  have HS := hid (show ∀ w', Below W0.heap.size W0 w' → (w'.cell? ⟨w.heap.size, 0, none⟩ = some (.int .i64 J.id) ∧ w'.cell? ⟨w.heap.size, 1, none⟩ = some (.slice A n c) ∧ w'.cell? ⟨w.heap.size + 1, 0, none⟩ = some (.int .i64 Kj.id) ∧ w'.cell? ⟨w.heap.size + 1, 1, none⟩ = some (.slice B m d) ∧ w'.cell? ⟨w1.heap.size, 0, none⟩ = some (.int .i64 X.id) ∧ w'.cell? ⟨w1.heap.size, 1, none⟩ = some (.slice A1 n1 c1) ∧ w'.cell? ⟨w2.heap.size, 0, none⟩ = some (.int .i64 X.id) ∧ w'.cell? ⟨w2.heap.size, 1, none⟩ = some (.slice A2 n2 c2)) from fun w' h => by
    obtain ⟨y1, _, _⟩ := cells_of_block ((h.block _ (by omega)).trans Y1.out)
    obtain ⟨y2, _, _⟩ := cells_of_block ((h.block _ (by omega)).trans Y2.out)
    obtain ⟨y3, _, _⟩ := cells_of_block ((h.block _ (by omega)).trans Y3.out)
    obtain ⟨y4, _, _⟩ := cells_of_block ((h.block _ (by omega)).trans Y4.out)
    exact ⟨y1 0 _ rfl, y1 1 _ rfl, y2 0 _ rfl, y2 1 _ rfl, y3 0 _ rfl, y3 1 _ rfl, y4 0 _ rfl, y4 1 _ rfl⟩)
  have HB0 := hid B0
  clear hcv hP2 hb2 B0 hz0 hs1 hs2
  go_wp2_with fail
  rw [← hW0]
  clear hW0
  have k0 : Hid (Below W0.heap.size W0 W0.drew) := (Below.refl _ _).drew
  refine wp_region_held_drew (S := fun w' => w'.cell? ⟨w.heap.size, 0, none⟩ = some (.int .i64 J.id) ∧ w'.cell? ⟨w.heap.size, 1, none⟩ = some (.slice A n c) ∧ w'.cell? ⟨w.heap.size + 1, 0, none⟩ = some (.int .i64 Kj.id) ∧ w'.cell? ⟨w.heap.size + 1, 1, none⟩ = some (.slice B m d) ∧ w'.cell? ⟨w1.heap.size, 0, none⟩ = some (.int .i64 X.id) ∧ w'.cell? ⟨w1.heap.size, 1, none⟩ = some (.slice A1 n1 c1) ∧ w'.cell? ⟨w2.heap.size, 0, none⟩ = some (.int .i64 X.id) ∧ w'.cell? ⟨w2.heap.size, 1, none⟩ = some (.slice A2 n2 c2)) (by kernel_rfl) (HS.out _ k0.out) (fun hHeld => ?_)
  refine anyH_take 0 (v := ?_) rfl (by kernel_rfl) (by kernel_rfl) (by kernel_rfl) (fun _ _ _ h => h) (by rfl) hHeld ?_ ?_
  rotate_left
  · (intro w hSw; (try dsimp only at hSw); go_split_ands; go_simp; try with_reducible rfl)
  (try simp only [Act.put, List.setIfInBounds_toArray, List.set_cons_zero, List.set_cons_succ])
  refine anyH_take 3 (v := ?_) rfl (by kernel_rfl) (by kernel_rfl) (by kernel_rfl) (fun _ _ _ h => h) (by rfl) hHeld ?_ ?_
  rotate_left
  · (intro w hSw; (try dsimp only at hSw); go_split_ands; go_simp; try with_reducible rfl)
  (try simp only [Act.put, List.setIfInBounds_toArray, List.set_cons_zero, List.set_cons_succ])
  refine anyH_one 1 rfl (by kernel_rfl) (fun K hK => ?_)
  go_simp
  refine (CB.out _ (bThen HB0.out k0.out)).mono ?_
  rintro e v1 ⟨A3, m3, c3, rfl, hcv, hb1⟩
  have k1 := hid (bThen k0.out hb1)
  go_simp
  refine hK.out _ _ (HS.out _ k1.out) (fun hHeld => ?_)
  clear hK K
  (try simp only [Act.put, List.setIfInBounds_toArray, List.set_cons_zero, List.set_cons_succ])
  refine wpAnyH_more (S1 := fun w' => (w'.cell? ⟨w.heap.size, 0, none⟩ = some (.int .i64 J.id) ∧ w'.cell? ⟨w.heap.size, 1, none⟩ = some (.slice A n c) ∧ w'.cell? ⟨w.heap.size + 1, 0, none⟩ = some (.int .i64 Kj.id) ∧ w'.cell? ⟨w.heap.size + 1, 1, none⟩ = some (.slice B m d) ∧ w'.cell? ⟨w1.heap.size, 0, none⟩ = some (.int .i64 X.id) ∧ w'.cell? ⟨w1.heap.size, 1, none⟩ = some (.slice A1 n1 c1) ∧ w'.cell? ⟨w2.heap.size, 0, none⟩ = some (.int .i64 X.id) ∧ w'.cell? ⟨w2.heap.size, 1, none⟩ = some (.slice A2 n2 c2)) ∧ (convert 29 9 (.slice A3 m3 c3)).run Try.prog w' = .ok (.string (mkB (jobL J))) w') (fun _ h => h.1) _ _ _ _ ?_
  refine anyH_take 2 (v := ?_) rfl (by kernel_rfl) (by kernel_rfl) (by kernel_rfl) (fun _ _ _ h => h) (by rfl) ⟨hHeld, hcv _ (Below.refl _ _)⟩ ?_ ?_
  rotate_left
  · (intro w hSw; (try dsimp only at hSw); go_split_ands; go_simp; try with_reducible rfl)
  (try simp only [Act.put, List.setIfInBounds_toArray, List.set_cons_zero, List.set_cons_succ])
  refine anyH_one 4 rfl (by kernel_rfl) (fun K hK => ?_)
  go_simp
  refine (CR.out _ (bThen HB0.out k1.out)).mono ?_
  rintro e v2 ⟨rfl, hb2⟩
  have k2 := hid (bThen k1.out hb2)
  have kk2 := hb2
  go_simp
  refine hK.out _ _ ⟨HS.out _ k2.out, hcv _ kk2⟩ (fun hHeld => ?_)
  clear hK K
  (try simp only [Act.put, List.setIfInBounds_toArray, List.set_cons_zero, List.set_cons_succ])
  refine anyH_take 5 (v := ?_) rfl (by kernel_rfl) (by kernel_rfl) (by kernel_rfl) (fun _ _ _ h => h) (by rfl) hHeld ?_ ?_
  rotate_left
  · (intro w hSw; (try dsimp only at hSw); go_split_ands; go_simp; try with_reducible rfl)
  (try simp only [Act.put, List.setIfInBounds_toArray, List.set_cons_zero, List.set_cons_succ])
  refine anyH_take 6 (v := ?_) rfl (by kernel_rfl) (by kernel_rfl) (by kernel_rfl) (fun _ _ _ h => h) (by rfl) hHeld ?_ ?_
  rotate_left
  · (intro w hSw; (try dsimp only at hSw); go_split_ands; go_simp; try with_reducible rfl)
  (try simp only [Act.put, List.setIfInBounds_toArray, List.set_cons_zero, List.set_cons_succ])
  refine anyH_take 7 (v := ?_) rfl (by kernel_rfl) (by kernel_rfl) (by kernel_rfl) (fun _ _ _ h => h) (by rfl) hHeld ?_ ?_
  rotate_left
  · (intro w hSw; (try dsimp only at hSw); go_split_ands; go_simp; try with_reducible rfl)
  (try simp only [Act.put, List.setIfInBounds_toArray, List.set_cons_zero, List.set_cons_succ])
  refine anyH_take 8 (v := ?_) rfl (by kernel_rfl) (by kernel_rfl) (by kernel_rfl) (fun _ _ _ h => h) (by rfl) hHeld ?_ ?_
  rotate_left
  · (intro w hSw; (try dsimp only at hSw); go_split_ands; go_simp; try with_reducible rfl)
  (try simp only [Act.put, List.setIfInBounds_toArray, List.set_cons_zero, List.set_cons_succ])
  refine anyH_one 9 rfl (by kernel_rfl) (fun K hK => ?_)
  go_simp
  refine (rjobSame_calls X X A1 A2 n1 c1 n2 c2 _ (Kd.below HX1.out k2.out) (Kd.below HX2.out k2.out)).mono ?_
  rintro e v3 ⟨rfl, hb3⟩
  rw [sameJ_self X]
  have k3 := hid (bThen k2.out hb3)
  have kk3 := bThen kk2 hb3
  go_simp
  refine hK.out _ _ ⟨HS.out _ k3.out, hcv _ kk3⟩ (fun hHeld => ?_)
  clear hK K
  (try simp only [Act.put, List.setIfInBounds_toArray, List.set_cons_zero, List.set_cons_succ])
  refine anyH_take 10 (v := ?_) rfl (by kernel_rfl) (by kernel_rfl) (by kernel_rfl) (fun _ _ _ h => h) (by rfl) hHeld ?_ ?_
  rotate_left
  · (intro w hSw; (try dsimp only at hSw); go_split_ands; go_simp; try with_reducible rfl)
  (try simp only [Act.put, List.setIfInBounds_toArray, List.set_cons_zero, List.set_cons_succ])
  refine anyH_take 11 (v := ?_) rfl (by kernel_rfl) (by kernel_rfl) (by kernel_rfl) (fun _ _ _ h => h) (by rfl) hHeld ?_ ?_
  rotate_left
  · (intro w hSw; (try dsimp only at hSw); go_split_ands; go_simp; try with_reducible rfl)
  (try simp only [Act.put, List.setIfInBounds_toArray, List.set_cons_zero, List.set_cons_succ])
  refine anyH_take 12 (v := ?_) rfl (by kernel_rfl) (by kernel_rfl) (by kernel_rfl) (fun _ _ _ h => h) (by rfl) hHeld ?_ ?_
  rotate_left
  · (intro w hSw; (try dsimp only at hSw); go_split_ands; go_simp; try with_reducible rfl)
  (try simp only [Act.put, List.setIfInBounds_toArray, List.set_cons_zero, List.set_cons_succ])
  refine anyH_take 13 (v := ?_) rfl (by kernel_rfl) (by kernel_rfl) (by kernel_rfl) (fun _ _ _ h => h) (by rfl) hHeld ?_ ?_
  rotate_left
  · (intro w hSw; (try dsimp only at hSw); go_split_ands; go_simp; try with_reducible rfl)
  (try simp only [Act.put, List.setIfInBounds_toArray, List.set_cons_zero, List.set_cons_succ])
  refine anyH_take 14 (v := ?_) rfl (by kernel_rfl) (by kernel_rfl) (by kernel_rfl) (fun _ _ _ h => h) (by rfl) hHeld ?_ ?_
  rotate_left
  · (intro w hSw; (try dsimp only at hSw); go_split_ands; go_simp; try with_reducible rfl)
  (try simp only [Act.put, List.setIfInBounds_toArray, List.set_cons_zero, List.set_cons_succ])
  refine anyH_take 15 (v := ?_) rfl (by kernel_rfl) (by kernel_rfl) (by kernel_rfl) (fun _ _ _ h => h) (by rfl) hHeld ?_ ?_
  rotate_left
  · (intro w hSw; (try dsimp only at hSw); go_split_ands; go_simp; try with_reducible rfl)
  (try simp only [Act.put, List.setIfInBounds_toArray, List.set_cons_zero, List.set_cons_succ])
  refine anyH_take 16 (v := ?_) rfl (by kernel_rfl) (by kernel_rfl) (by kernel_rfl) (fun _ _ _ h => h) (by rfl) hHeld ?_ ?_
  rotate_left
  · (intro w hSw; (try dsimp only at hSw); go_split_ands; go_simp; try with_reducible rfl)
  (try simp only [Act.put, List.setIfInBounds_toArray, List.set_cons_zero, List.set_cons_succ])
  refine anyH_take 17 (v := ?_) rfl (by kernel_rfl) (by kernel_rfl) (by kernel_rfl) (fun _ _ _ h => h) (by rfl) hHeld ?_ ?_
  rotate_left
  · (intro w hSw; (try dsimp only at hSw); go_split_ands; go_simp; try with_reducible rfl)
  (try simp only [Act.put, List.setIfInBounds_toArray, List.set_cons_zero, List.set_cons_succ])
  refine anyH_take 18 (v := ?_) rfl (by kernel_rfl) (by kernel_rfl) (by kernel_rfl) (fun _ _ _ h => h) (by rfl) hHeld ?_ ?_
  rotate_left
  · (intro w hSw; (try dsimp only at hSw); go_split_ands; go_simp; try with_reducible rfl)
  (try simp only [Act.put, List.setIfInBounds_toArray, List.set_cons_zero, List.set_cons_succ])
  refine anyH_take 20 (v := ?_) rfl (by kernel_rfl) (by kernel_rfl) (by kernel_rfl) (fun _ _ _ h => h) (by rfl) hHeld ?_ ?_
  rotate_left
  · (intro w hSw; (try dsimp only at hSw); go_split_ands; go_simp; try with_reducible rfl)
  (try simp only [Act.put, List.setIfInBounds_toArray, List.set_cons_zero, List.set_cons_succ])
  refine anyH_take 21 (v := ?_) rfl (by kernel_rfl) (by kernel_rfl) (by kernel_rfl) (fun _ _ _ h => h) (by rfl) hHeld ?_ ?_
  rotate_left
  · (intro w hSw; (try dsimp only at hSw); go_split_ands; go_simp; try with_reducible rfl)
  (try simp only [Act.put, List.setIfInBounds_toArray, List.set_cons_zero, List.set_cons_succ])
  refine anyH_one 19 rfl (by kernel_rfl) (fun K hK => ?_)
  go_simp
  refine (jobSame_calls J Kj A B n c m d _ (Kd.below HJ.out (bThen HB0.out k3.out)) (Kd.below HK.out (bThen HB0.out k3.out))).mono ?_
  rintro e v4 ⟨rfl, hb4⟩
  obtain ⟨SJ, hSJ⟩ : ∃ S, S = sameJ J Kj := ⟨_, rfl⟩
  rw [← hSJ]
  have hSS : (SJ == SJ) = true := beq_self_eq_true _
  have k4 := hid (bThen k3.out hb4)
  have kk4 := bThen kk3 hb4
  go_simp
  refine hK.out _ _ ⟨HS.out _ k4.out, hcv _ kk4⟩ (fun hHeld => ?_)
  clear hK K
  (try simp only [Act.put, List.setIfInBounds_toArray, List.set_cons_zero, List.set_cons_succ])
  refine anyH_one 22 rfl (by kernel_rfl) (fun K hK => ?_)
  go_simp
  refine (rjobSame_calls J Kj A B n c m d _ (Kd.below HJ.out (bThen HB0.out k4.out)) (Kd.below HK.out (bThen HB0.out k4.out))).mono ?_
  rintro e v5 ⟨rfl, hb5⟩
  rw [← hSJ]
  have k5 := hid (bThen k4.out hb5)
  have kk5 := bThen kk4 hb5
  go_simp
  refine hK.out _ _ ⟨HS.out _ k5.out, hcv _ kk5⟩ (fun hHeld => ?_)
  clear hK K
  (try simp only [Act.put, List.setIfInBounds_toArray, List.set_cons_zero, List.set_cons_succ])
  refine anyH_take 23 (v := ?_) rfl (by kernel_rfl) (by kernel_rfl) (by kernel_rfl) (fun _ _ _ h => h) (by rfl) hHeld ?_ ?_
  rotate_left
  · (intro w hSw; (try dsimp only at hSw); go_split_ands; go_simp; try with_reducible rfl)
  (try simp only [Act.put, List.setIfInBounds_toArray, List.set_cons_zero, List.set_cons_succ])
  refine anyH_take 24 (v := ?_) rfl (by kernel_rfl) (by kernel_rfl) (by kernel_rfl) (fun _ _ _ h => h) (by rfl) hHeld ?_ ?_
  rotate_left
  · (intro w hSw; (try dsimp only at hSw); go_split_ands; go_simp; try with_reducible rfl)
  (try simp only [Act.put, List.setIfInBounds_toArray, List.set_cons_zero, List.set_cons_succ])
  refine anyH_take 25 (v := ?_) rfl (by kernel_rfl) (by kernel_rfl) (by kernel_rfl) (fun _ _ _ h => h) (by rfl) hHeld ?_ ?_
  rotate_left
  · (intro w hSw; (try dsimp only at hSw); go_split_ands; go_simp; try with_reducible rfl)
  (try simp only [Act.put, List.setIfInBounds_toArray, List.set_cons_zero, List.set_cons_succ])
  refine anyH_take 26 (v := ?_) rfl (by kernel_rfl) (by kernel_rfl) (by kernel_rfl) (fun _ _ _ h => h) (by rfl) hHeld ?_ ?_
  rotate_left
  · (intro w hSw; (try dsimp only at hSw); go_split_ands; go_simp; try with_reducible rfl)
  (try simp only [Act.put, List.setIfInBounds_toArray, List.set_cons_zero, List.set_cons_succ])
  refine anyH_take 27 (v := ?_) rfl (by kernel_rfl) (by kernel_rfl) (by kernel_rfl) (fun _ _ _ h => h) (by rfl) hHeld ?_ ?_
  rotate_left
  · (intro w hSw; (try dsimp only at hSw); go_split_ands; go_simp; try with_reducible rfl)
  (try simp only [Act.put, List.setIfInBounds_toArray, List.set_cons_zero, List.set_cons_succ])
  refine anyH_one 28 rfl (by kernel_rfl) (fun K hK => ?_)
  go_simp
  refine (jobSame_calls J J A A n c n c _ (Kd.below HJ.out (bThen HB0.out k5.out)) (Kd.below HJ.out (bThen HB0.out k5.out))).mono ?_
  rintro e v6 ⟨rfl, hb6⟩
  rw [sameJ_self J]
  have k6 := hid (bThen k5.out hb6)
  have kk6 := bThen kk5 hb6
  go_simp
  refine hK.out _ _ ⟨HS.out _ k6.out, hcv _ kk6⟩ (fun hHeld => ?_)
  clear hK K
  (try simp only [Act.put, List.setIfInBounds_toArray, List.set_cons_zero, List.set_cons_succ])
  refine anyH_take 29 (v := ?_) rfl (by kernel_rfl) (by kernel_rfl) (by kernel_rfl) (fun _ _ _ h => h) (by rfl) hHeld ?_ ?_
  rotate_left
  · (intro w hSw; (try dsimp only at hSw); go_split_ands; go_simp; try with_reducible rfl)
  (try simp only [Act.put, List.setIfInBounds_toArray, List.set_cons_zero, List.set_cons_succ])
  refine anyH_take 30 (v := ?_) rfl (by kernel_rfl) (by kernel_rfl) (by kernel_rfl) (fun _ _ _ h => h) (by rfl) hHeld ?_ ?_
  rotate_left
  · (intro w hSw; (try dsimp only at hSw); go_split_ands; go_simp; try with_reducible rfl)
  (try simp only [Act.put, List.setIfInBounds_toArray, List.set_cons_zero, List.set_cons_succ])
  refine anyH_one 31 rfl (by kernel_rfl) (fun K hK => ?_)
  go_simp
  refine (works15_calls _).mono ?_
  rintro e v7 ⟨rfl, hb7⟩
  have k7 := hid (bThen k6.out hb7)
  have kk7 := bThen kk6 hb7
  go_simp
  refine hK.out _ _ ⟨HS.out _ k7.out, hcv _ kk7⟩ (fun hHeld => ?_)
  clear hK K
  (try simp only [Act.put, List.setIfInBounds_toArray, List.set_cons_zero, List.set_cons_succ])
  refine anyH_take 32 (v := ?_) rfl (by kernel_rfl) (by kernel_rfl) (by kernel_rfl) (fun _ _ _ h => h) (by rfl) hHeld ?_ ?_
  rotate_left
  · (intro w hSw; (try dsimp only at hSw); go_split_ands; go_simp; try with_reducible rfl)
  (try simp only [Act.put, List.setIfInBounds_toArray, List.set_cons_zero, List.set_cons_succ])
  refine anyH_take 33 (v := ?_) rfl (by kernel_rfl) (by kernel_rfl) (by kernel_rfl) (fun _ _ _ h => h) (by rfl) hHeld ?_ ?_
  rotate_left
  · (intro w hSw; (try dsimp only at hSw); go_split_ands; go_simp; try with_reducible rfl)
  (try simp only [Act.put, List.setIfInBounds_toArray, List.set_cons_zero, List.set_cons_succ])
  refine wpAnyH_done (by kernel_rfl) ?_ _
  go_wp2
  go_ret
  exact ⟨rfl, bThen HBV.out (bThen HB0.out k7.out)⟩
theorem jobBytes_walk (W : World) (J : JobS) (js : Array Value) (hJ : Kd.job.K W Any J js.toList) (_oJ : okStrs J.needs) (K : JobS) (ks : Array Value) (hK : Kd.job.K W Any K ks.toList) (_oK : okStrs K.needs) (bs : List UInt8) (v : Value) (hb : Kd.u8.slice.K W Any bs [v]) (_ob : (∀ y ∈ bs, True) ∧ bs.length * 1 ≤ 140737488351232) :
    Calls Try.prog 14 #[.agg js, .agg ks, v] W fun e w' => e = .returned (.bool true) ∧ Below W.heap.size W w' := by
  obtain ⟨A, c, h1, h2⟩ := job_cells hJ
  obtain ⟨B, d, h3, h4⟩ := job_cells hK
  obtain rfl : js = #[.int .i64 J.id, .slice A J.needs.length c] := by cases js; simp_all
  obtain rfl : ks = #[.int .i64 K.id, .slice B K.needs.length d] := by cases ks; simp_all
  have hb' := hb
  obtain ⟨D, f, he, _⟩ := hb'
  injection he with he _
  subst he
  exact jobBytesLaw J K A B D J.needs.length c K.needs.length d bs.length f bs W h2 rfl h4 hb rfl
end Go.Proofs.Yteijgeofimcijaa
