/- The law JobBack. -/
import Derived.Test.YtolckkckheiceaaJobCW
import Derived.Test.YtolckkckheiceaaJobPB
import Derived.Test.YtolckkckheiceaaAhead
import Derived.Test.YtolckkckheiceaaLong14
import Derived.Test.YtolckkckheiceaaBookA
namespace Go.Proofs.Ytolckkckheiceaa
open Go.RowKit

theorem job_ahead {J : JobS} (h : plainJ J = true) (r : List UInt8) : jparseX (jobL J ++ r) = J ∧ (jA3 (jobL J ++ r)).2 = ⟨r, 0⟩ := by
  obtain ⟨⟨i1, i2⟩, hs, hl⟩ := plainJ_yes h
  have e0 : jobL J ++ r = numL (clampN J.id) ++ (numL (clampN (J.needs.length : Int)) ++ (J.needs.flatMap (fun s => textL s.data.toList) ++ r)) := by
    unfold jobL jobHead
    rw [if_pos h]
    simp only [List.append_assoc]
  have a1 : jA1 (jobL J ++ r) = (J.id, ⟨numL (clampN (J.needs.length : Int)) ++ (J.needs.flatMap (fun s => textL s.data.toList) ++ r), 0⟩) := by
    unfold jA1
    rw [e0]
    exact num_ahead (by omega) i2 (by decide) _
  have a2 : jA1' (jobL J ++ r) = ⟨numL (clampN (J.needs.length : Int)) ++ (J.needs.flatMap (fun s => textL s.data.toList) ++ r), 0⟩ := by
    unfold jA1'
    rw [a1, if_neg (by simp only; omega)]
  have a3 : jA2 (jobL J ++ r) = ((J.needs.length : Int), ⟨J.needs.flatMap (fun s => textL s.data.toList) ++ r, 0⟩) := by
    unfold jA2
    rw [a2]
    exact num_ahead (by omega) (by omega) (by decide) _
  have a4 : jA3 (jobL J ++ r) = (J.needs, ⟨r, 0⟩) := by
    unfold jA3
    rw [a3]
    simp only [Int.toNat_natCast]
    exact texts_ahead J.needs r hs
  refine ⟨?_, by rw [a4]⟩
  unfold jparseX
  rw [a1, a4]
theorem job_back {J : JobS} (h : plainJ J = true) : jparseJ (jobL J) = J ∧ jparseE (jobL J) = 0 := by
  obtain ⟨h1, h2⟩ := job_ahead h []
  rw [List.append_nil] at h1 h2
  have h3 : jparseE (jobL J) = 0 := by
    unfold jparseE
    rw [h2]
    unfold RdS.fin
    simp
  exact ⟨by unfold jparseJ; rw [if_pos h3, h1], h3⟩
theorem job_longer {J : JobS} (h : plainJ J = true) (y : UInt8) : jparseE (jobL J ++ [y]) = 3 := by
  obtain ⟨_, h2⟩ := job_ahead h [y]
  unfold jparseE
  rw [h2]
  unfold RdS.fin
  simp
theorem checkFrom_sets {tab : List ByteArray} {ws : List WorkerS} : ∀ {ss : List ByteArray} {i : Int}, (checkFrom tab ws ss i).2.2 = 0 → ∀ s ∈ ss, setS tab ws s ≠ 0
  | [], _, _, _, hs => by cases hs
  | s :: r, i, h, x, hx => by
    unfold checkFrom at h
    split at h
    · rename_i h1; exact absurd h h1
    · rename_i h1
      split at h
      · exact absurd h (by simp)
      · rename_i h2
        rcases List.mem_cons.1 hx with rfl | hx
        · unfold setS
          rw [if_neg h1]
          exact h2
        · exact checkFrom_sets h x hx
theorem check_sets {tab : List ByteArray} {ws : List WorkerS} {id : Int} {ss : List ByteArray} (h : (checkJ tab ws id ss).2.2 = 0) : ∀ s ∈ ss, setS tab ws s ≠ 0 := by
  unfold checkJ at h
  split at h
  · cases h
  · split at h
    · cases h
    · split at h
      · cases h
      · exact checkFrom_sets h
theorem jobL_len (J : JobS) : (jobL J).length ≤ 20000 := by
  unfold jobL
  split
  · rename_i h
    obtain ⟨_, hs, hl⟩ := plainJ_yes h
    have h1 := jobHead_len J
    have h2 := needs_len hs
    rw [List.length_append]
    omega
  · simp
theorem own_new0J (W : World) (e : TypeId) : Own Kd.u8 e (W.alloc (.cells #[] e)) W.heap.size NoT (.slice (some ⟨W.heap.size, 0, none⟩) 0 0) [] :=
  ⟨by simp, [], ⟨by simp, .inr ⟨W.heap.size, 0, #[], rfl, Nat.le_refl _, heap_alloc_new W _, Nat.le_refl _, by decide, by simp, by simp⟩⟩, rfl⟩
set_option maxHeartbeats 4000000 in
set_option maxRecDepth 100000 in
theorem jobBackLaw (C : ConfS) (CA CB : Option Addr) (ca cb : Nat) (J : JobS) (JA : Option Addr) (jc : Nat) (m8 : UInt8) (w : World) (hC : CAt w C CA CB ca cb) (hj : Kd.str.slice.K w Any J.needs [.slice JA J.needs.length jc]) :
    Calls Try.prog 6 #[.agg #[.int .i64 C.scheds, .int .i64 C.lease, .int .i64 C.again, .int .i64 C.room, .int .i64 C.out, .slice CA C.names.length ca, .slice CB C.workers.length cb], .agg #[.int .i64 J.id, .slice JA J.needs.length jc], .int .u8 (m8.toNat : Int)] w fun e w' => e = .returned (.bool true) ∧ Below w.heap.size w w' := by
  obtain ⟨V, hV⟩ : ∃ V, V = (w.alloc (.cells #[.int .i64 C.scheds, .int .i64 C.lease, .int .i64 C.again, .int .i64 C.room, .int .i64 C.out, .slice CA C.names.length ca, .slice CB C.workers.length cb] 25)).alloc (.cells #[.int .i64 J.id, .slice JA J.needs.length jc] 67) := ⟨_, rfl⟩
  have hb0 : Below w.heap.size w V := by rw [hV]; exact bAlloc (bAlloc (Below.refl _ _) _) _
  have HBC := hid (boxC_of (b := w.heap.size) (by rw [hV, Below.heap_alloc _ _ _ (by simp)]; exact heap_at rfl) (hC.below hb0))
  have hz := hid (show V.heap[w.heap.size + 1]? = some (.cells #[.int .i64 J.id, .slice JA J.needs.length jc] 67 (0, 0)) by rw [hV]; exact heap_at (by simp))
  have HJB := hid (fun (u : World) (h : Below V.heap.size V u) => (show u.cell? ⟨w.heap.size + 1, 0, none⟩ = some (.int .i64 J.id) ∧ u.cell? ⟨w.heap.size + 1, 1, none⟩ = some (.slice JA J.needs.length jc) from by
    obtain ⟨y0, _, _⟩ := cells_of_block ((h.block (w.heap.size + 1) (Array.getElem?_eq_some_iff.1 hz.out).1).trans hz.out)
    exact ⟨y0 0 _ rfl, y0 1 _ rfl⟩))
  have HBV := hid hb0
  have HV := hid hV
  have HJ := hid (Kd.below hj hb0)
  have HCA := hid (fun (u : World) (hb : Below V.heap.size V u) => show CAt u C CA CB ca cb from (HBC.out.below hb).2.1)
  have HCB := hid (fun (u : World) (hb : Below V.heap.size V u) => show (u.cell? ⟨w.heap.size, 0, none⟩ = some (.int .i64 C.scheds) ∧ u.cell? ⟨w.heap.size, 1, none⟩ = some (.int .i64 C.lease) ∧ u.cell? ⟨w.heap.size, 2, none⟩ = some (.int .i64 C.again) ∧ u.cell? ⟨w.heap.size, 3, none⟩ = some (.int .i64 C.room) ∧ u.cell? ⟨w.heap.size, 4, none⟩ = some (.int .i64 C.out) ∧ u.cell? ⟨w.heap.size, 5, none⟩ = some (.slice CA C.names.length ca) ∧ u.cell? ⟨w.heap.size, 6, none⟩ = some (.slice CB C.workers.length cb)) from (HBC.out.below hb).1)
  obtain ⟨c0, c1, c2, c3, c4, c5, c6⟩ := HCB.out V (Below.refl _ _)
  obtain ⟨j0, j1⟩ := HJB.out V (Below.refl _ _)
  clear hV hC hb0 hj
  go_enter Try.func6, Try.ntmps6
  go_wp2_with fail
  rw [← HV.out]
  refine (rlong14_calls C CA CB ca cb _ HBC.out.2.1.names).mono ?_
  rintro e w1 ⟨rfl, hb1⟩
  have HB1 := hid hb1
  clear hb1 c0 c1 c2 c3 c4 c5 c6 j0 j1
  obtain ⟨j0, j1⟩ := HJB.out w1 HB1.out
  have HLG := hid (show longC C = (longB C.names 40 100 || decide (80 < C.workers.length)) from rfl)
  obtain ⟨lg, hlg⟩ : ∃ lg, lg = longC C := ⟨_, rfl⟩
  rw [← hlg] at HLG ⊢
  clear hlg
  cases lg
  case true =>
    go_wp2_with fail
    refine (works15_calls _).mono ?_
    rintro e w2 ⟨rfl, hb2⟩
    go_wp2
    go_ret
    exact ⟨rfl, bThen (bThen HBV.out HB1.out) hb2⟩
  go_wp2_with fail
  refine (long_calls J.needs 20 300 _ _ (Kd.below HJ.out HB1.out)).mono ?_
  rintro e w2 ⟨rfl, rfl⟩
  obtain ⟨L1, hL1⟩ : ∃ L, L = longB J.needs 20 300 := ⟨_, rfl⟩
  have HL1 := hid hL1
  rw [← hL1]
  clear hL1
  cases L1
  case true =>
    go_wp2_with fail
    refine (works15_calls _).mono ?_
    rintro e w2 ⟨rfl, hb2⟩
    go_wp2
    go_ret
    exact ⟨rfl, bThen (bThen HBV.out HB1.out) hb2⟩
  obtain ⟨hsz, hnl⟩ := long_no HL1.out.symm
  have HSZ := hid (show ∀ s ∈ J.needs, s.size ≤ 140737488351232 from fun s hs => by have := hsz s hs; omega)
  have HSN := hid (fun s => needS_len C.names s)
  clear hsz
  have hnl' : J.needs.length ≤ 20 := by omega
  obtain ⟨c0, c1, c2, c3, c4, c5, c6⟩ := HCB.out w1 HB1.out
  go_wp2_with fail
  refine (jobCheck_calls C.names C.workers J.id J.needs C.scheds C.lease C.again C.room C.out _ _ _ w1 (HCA.out w1 HB1.out).names (HCA.out w1 HB1.out).workers (HCA.out w1 HB1.out).attrs (Kd.below HJ.out HB1.out) HSZ.out).mono ?_
  rintro e w2 ⟨rfl, hb2⟩
  have HB2 := hid (bThen HB1.out hb2)
  have HSET := hid (fun h => check_sets (tab := C.names) (ws := C.workers) (id := J.id) (ss := J.needs) h)
  obtain ⟨r1, r2, er, hck⟩ : ∃ a b c, checkJ C.names C.workers J.id J.needs = (a, b, c) := ⟨_, _, _, rfl⟩
  rw [hck] at HSET ⊢
  dsimp only at HSET ⊢
  clear hck hb2 c0 c1 c2 c3 c4 c5 c6 j0 j1
  obtain ⟨q, hq⟩ : ∃ q, q = J.needs.length := ⟨_, rfl⟩
  have HQ := hid hq
  rw [← hq] at HJB HJ hnl' ⊢
  clear hq
  go_wp2
  go_loopw [10] (fun i wr => ∃ k : Nat, k ≤ q ∧ i = .int .i64 k ∧ Hid (Below V.heap.size V wr)) (fun i _ => q - (intOf i).toNat)
  case atStart => exact ⟨0, by omega, rfl, HB2⟩
  case round =>
    obtain ⟨k, hk, rfl, HB⟩ := hrel
    obtain ⟨j0, j1⟩ := HJB.out wr HB.out
    by_cases hlt : k < q
    · have hltI : (k : Int) < (q : Int) := by omega
      have hk0 : (0 : Int) ≤ (k : Int) := by omega
      by_cases he : er = 0
      · have e0 : (er == 0) = true := by rw [beq_iff_eq]; exact he
        obtain ⟨a, s, rfl, hs, r0⟩ := (K_row HJ.out).1.at_str k (by rw [← HQ.out]; exact hlt)
        have HSS := hid hs
        have hne := HSET.out he s (List.mem_of_getElem? hs)
        have HSZS := hid (HSZ.out s (List.mem_of_getElem? hs))
        have HNL := hid (HSN.out s)
        obtain ⟨z, hzz⟩ : ∃ z, z = setS C.names C.workers s := ⟨_, rfl⟩
        have HZ := hid hzz
        rw [← hzz] at hne
        have hz0 : ((z : Int) == 0) = false := by rw [beq_eq_false_iff_ne]; omega
        have HS := hid (fun (u : World) (hb : Below V.heap.size V u) => show ((u.cell? ⟨w.heap.size, 0, none⟩ = some (.int .i64 C.scheds) ∧ u.cell? ⟨w.heap.size, 1, none⟩ = some (.int .i64 C.lease) ∧ u.cell? ⟨w.heap.size, 2, none⟩ = some (.int .i64 C.again) ∧ u.cell? ⟨w.heap.size, 3, none⟩ = some (.int .i64 C.room) ∧ u.cell? ⟨w.heap.size, 4, none⟩ = some (.int .i64 C.out) ∧ u.cell? ⟨w.heap.size, 5, none⟩ = some (.slice CA C.names.length ca) ∧ u.cell? ⟨w.heap.size, 6, none⟩ = some (.slice CB C.workers.length cb)) ∧ u.cell? ⟨w.heap.size + 1, 1, none⟩ = some (.slice (some a) q jc) ∧ u.cell? (a.add k) = some (.string s)) from by
          obtain ⟨a', s', ha', hs', r0'⟩ := (K_row (Kd.below HJ.out hb)).1.at_str k (by rw [← HQ.out]; exact hlt)
          cases ha'
          rw [HSS.out] at hs'
          obtain rfl := Option.some.inj hs'
          exact ⟨HCB.out u hb, (HJB.out u hb).2, r0'⟩)
        have q0 := HS.out wr.drew HB.out.drew
        have U0 := hid HB.out.drew
        clear hs hzz hne he
        go_wp2_with fail
        refine wp_region_held_drew (S := fun w' => (w'.cell? ⟨w.heap.size, 0, none⟩ = some (.int .i64 C.scheds) ∧ w'.cell? ⟨w.heap.size, 1, none⟩ = some (.int .i64 C.lease) ∧ w'.cell? ⟨w.heap.size, 2, none⟩ = some (.int .i64 C.again) ∧ w'.cell? ⟨w.heap.size, 3, none⟩ = some (.int .i64 C.room) ∧ w'.cell? ⟨w.heap.size, 4, none⟩ = some (.int .i64 C.out) ∧ w'.cell? ⟨w.heap.size, 5, none⟩ = some (.slice CA C.names.length ca) ∧ w'.cell? ⟨w.heap.size, 6, none⟩ = some (.slice CB C.workers.length cb)) ∧ w'.cell? ⟨w.heap.size + 1, 1, none⟩ = some (.slice (some a) q jc) ∧ w'.cell? (a.add k) = some (.string s)) (by kernel_rfl) q0 (fun hHeld => ?_)
        refine anyH_take 0 (v := ?_) rfl (by kernel_rfl) (by kernel_rfl) (by kernel_rfl) (fun _ _ _ h => h) (by rfl) hHeld ?_ ?_
        rotate_left
        · (intro w hSw; (try dsimp only at hSw); go_split_ands; go_simp; try with_reducible rfl)
        (try simp only [Act.put, List.setIfInBounds_toArray, List.set_cons_zero, List.set_cons_succ])
        refine anyH_take 1 (v := ?_) rfl (by kernel_rfl) (by kernel_rfl) (by kernel_rfl) (fun _ _ _ h => h) (by rfl) hHeld ?_ ?_
        rotate_left
        · (intro w hSw; (try dsimp only at hSw); go_split_ands; go_simp; try with_reducible rfl)
        (try simp only [Act.put, List.setIfInBounds_toArray, List.set_cons_zero, List.set_cons_succ])
        refine anyH_take 2 (v := ?_) rfl (by kernel_rfl) (by kernel_rfl) (by kernel_rfl) (fun _ _ _ h => h) (by rfl) hHeld ?_ ?_
        rotate_left
        · (intro w hSw; (try dsimp only at hSw); go_split_ands; go_simp; try with_reducible rfl)
        (try simp only [Act.put, List.setIfInBounds_toArray, List.set_cons_zero, List.set_cons_succ])
        refine anyH_take 3 (v := ?_) rfl (by kernel_rfl) (by kernel_rfl) (by kernel_rfl) (fun _ _ _ h => h) (by rfl) hHeld ?_ ?_
        rotate_left
        · (intro w hSw; (try dsimp only at hSw); go_split_ands; go_simp; try with_reducible rfl)
        (try simp only [Act.put, List.setIfInBounds_toArray, List.set_cons_zero, List.set_cons_succ])
        refine anyH_take 4 (v := ?_) rfl (by kernel_rfl) (by kernel_rfl) (by kernel_rfl) (fun _ _ _ h => h) (by rfl) hHeld ?_ ?_
        rotate_left
        · (intro w hSw; (try dsimp only at hSw); go_split_ands; go_simp; try with_reducible rfl)
        (try simp only [Act.put, List.setIfInBounds_toArray, List.set_cons_zero, List.set_cons_succ])
        refine anyH_take 5 (v := ?_) rfl (by kernel_rfl) (by kernel_rfl) (by kernel_rfl) (fun _ _ _ h => h) (by rfl) hHeld ?_ ?_
        rotate_left
        · (intro w hSw; (try dsimp only at hSw); go_split_ands; go_simp; try with_reducible rfl)
        (try simp only [Act.put, List.setIfInBounds_toArray, List.set_cons_zero, List.set_cons_succ])
        refine anyH_take 6 (v := ?_) rfl (by kernel_rfl) (by kernel_rfl) (by kernel_rfl) (fun _ _ _ h => h) (by rfl) hHeld ?_ ?_
        rotate_left
        · (intro w hSw; (try dsimp only at hSw); go_split_ands; go_simp; try with_reducible rfl)
        (try simp only [Act.put, List.setIfInBounds_toArray, List.set_cons_zero, List.set_cons_succ])
        refine anyH_take 7 (v := ?_) rfl (by kernel_rfl) (by kernel_rfl) (by kernel_rfl) (fun _ _ _ h => h) (by rfl) hHeld ?_ ?_
        rotate_left
        · (intro w hSw; (try dsimp only at hSw); go_split_ands; go_simp; try with_reducible rfl)
        (try simp only [Act.put, List.setIfInBounds_toArray, List.set_cons_zero, List.set_cons_succ])
        refine anyH_take 8 (v := ?_) rfl (by kernel_rfl) (by kernel_rfl) (by kernel_rfl) (fun _ _ _ h => h) (by rfl) hHeld ?_ ?_
        rotate_left
        · (intro w hSw; (try dsimp only at hSw); go_split_ands; go_simp; try with_reducible rfl)
        (try simp only [Act.put, List.setIfInBounds_toArray, List.set_cons_zero, List.set_cons_succ])
        refine anyH_one 9 rfl (by kernel_rfl) (fun K hK => ?_)
        go_simp
        refine (jobSet_calls C.names C.workers s C.scheds C.lease C.again C.room C.out _ _ wr.drew (HCA.out _ U0.out).names (HCA.out _ U0.out).workers (HCA.out _ U0.out).attrs HSZS.out (by have := HNL.out; omega)).mono ?_
        rintro e w6 ⟨rfl, hb6⟩
        rw [← HZ.out]
        have U1 := hid (bThen U0.out hb6)
        have q1 := HS.out w6 U1.out
        clear hb6
        go_simp
        refine hK.out _ _ q1 (fun hHeld => ?_)
        clear hK K
        (try simp only [Act.put, List.setIfInBounds_toArray, List.set_cons_zero, List.set_cons_succ])
        refine anyH_take 10 (v := ?_) rfl (by kernel_rfl) (by kernel_rfl) (by kernel_rfl) (fun _ _ _ h => h) (by rfl) hHeld ?_ ?_
        rotate_left
        · (intro w hSw; (try dsimp only at hSw); go_split_ands; go_simp; try with_reducible rfl)
        (try simp only [Act.put, List.setIfInBounds_toArray, List.set_cons_zero, List.set_cons_succ])
        refine anyH_take 11 (v := ?_) rfl (by kernel_rfl) (by kernel_rfl) (by kernel_rfl) (fun _ _ _ h => h) (by rfl) hHeld ?_ ?_
        rotate_left
        · (intro w hSw; (try dsimp only at hSw); go_split_ands; go_simp; try with_reducible rfl)
        (try simp only [Act.put, List.setIfInBounds_toArray, List.set_cons_zero, List.set_cons_succ])
        refine wpAnyH_done (by kernel_rfl) ?_ _
        go_wp2
        go_roundw
        case rel => first | exact ⟨k + 1, by omega, by go_num, U1⟩ | ((repeat apply Exists.intro); exact ⟨⟨k + 1, by omega, by go_num, U1⟩, rfl⟩)
        case measure => simp [intOf]; omega
      · have e0 : (er == 0) = false := by rw [beq_eq_false_iff_ne]; exact he
        clear he
        go_wp2_with fail
        go_quiet (fail)
        go_wp2
        go_roundw
        case rel => exact ⟨k + 1, by omega, by go_num, hid (below_drewN HB.out _)⟩
        case measure => simp [intOf]; omega
    · obtain rfl : k = q := by omega
      have HJF := hid (show ∀ (u : World), Below V.heap.size V u → Kd.str.slice.K u Any J.needs [.slice JA J.needs.length jc] from fun u hb => by rw [← HQ.out]; exact Kd.below HJ.out hb)
      have HCB5 := hid (fun (u : World) (h : Below V.heap.size V u) => show Calls Try.prog 40 #[.agg #[.int .i64 J.id, .slice JA k jc]] u _ from by rw [HQ.out]; exact jobBytes_calls J JA jc u (HJF.out u h))
      have HCP5 := hid (fun (u : World) (h : Below V.heap.size V u) => show Calls Try.prog 41 #[.agg #[.int .i64 J.id, .slice JA k jc]] u _ from by rw [HQ.out]; exact rplain_calls J JA jc u (HJF.out u h))
      go_wp2_with fail
      refine (HCB5.out wr HB.out).mono ?_
      rintro e w3 ⟨A3, n3, c3', rfl, hO3, hb3⟩
      have HB3 := hid (bThen HB.out hb3)
      have HO3 := hid (Kd.any hO3.K)
      have hl3 : n3 = (jobL J).length := by
        obtain ⟨_, _, _, he, h, _⟩ := hO3.shape'
        injection he with _ he _
        rw [he]; exact h
      have HN3 := hid hl3
      have hl3' : n3 ≤ 20000 := by have := jobL_len J; omega
      clear hO3 hb3 j0 j1 hl3
      obtain ⟨j0, j1⟩ := HJB.out w3 HB3.out
      go_wp2_with fail
      refine (HCP5.out w3 HB3.out).mono ?_
      rintro e w4 ⟨rfl, hb4⟩
      have HB4 := hid (bThen HB3.out hb4)
      have HO4 := hid (Kd.below HO3.out hb4)
      clear hb4 j0 j1
      by_cases hp : plainJ J = true
      case neg =>
        have hpf : plainJ J = false := by simpa using hp
        have hn0 : n3 = 0 := by rw [HN3.out]; unfold jobL; rw [if_neg hp]; rfl
        rw [hpf]
        subst hn0
        clear hp hpf
        go_wp2_with fail
        refine (works15_calls _).mono ?_
        rintro e w5 ⟨rfl, hb5⟩
        go_wp2
        go_ret
        exact ⟨rfl, bThen (bThen HBV.out HB4.out) hb5⟩
      rw [hp]
      obtain ⟨hp1, hp2⟩ := job_back hp
      have HP1 := hid hp1
      have HP2 := hid hp2
      have HLO := hid (fun y => job_longer hp y)
      clear hp hp1 hp2
      go_wp2_with fail
      refine (jobParse_calls (jobL J) _ w4 HO4.out (by rw [← HN3.out]; omega)).mono ?_
      rintro e w5 ⟨A5, n5, c5', rfl, hK5, hb5⟩
      rw [HP1.out] at hK5 ⊢
      rw [HP2.out]
      have HB5 := hid (bThen HB4.out hb5)
      have HO5 := hid (Kd.below HO4.out hb5)
      have HK5 := hid (Kd.any hK5)
      clear hK5 hb5
      have hO6 : Own Kd.u8 5 ((w5.alloc (.cells #[.int .i64 J.id, .slice A5 n5 c5'] 67)).alloc (.cells #[] 5)) (w5.heap.size + 1) NoT (.slice (some ⟨w5.heap.size + 1, 0, none⟩) 0 0) [] := by
        have := own_new0J (w5.alloc (.cells #[.int .i64 J.id, .slice A5 n5 c5'] 67)) 5
        simpa using this
      have HO6 := hid hO6
      have HBL6 := hid (show Below (w5.heap.size + 1) (w5.alloc (.cells #[.int .i64 J.id, .slice A5 n5 c5'] 67)) ((w5.alloc (.cells #[.int .i64 J.id, .slice A5 n5 c5'] 67)).alloc (.cells #[] 5)) by have := bAlloc (Below.refl (w5.alloc (.cells #[.int .i64 J.id, .slice A5 n5 c5'] 67)).heap.size (w5.alloc (.cells #[.int .i64 J.id, .slice A5 n5 c5'] 67))) (.cells #[] 5); simpa using this)
      have HS6 := hid (show (w5.alloc (.cells #[.int .i64 J.id, .slice A5 n5 c5'] 67)).heap.size = (w5.heap.size + 1) by simp)
      have HB6 := hid (bAlloc HB5.out (.cells #[.int .i64 J.id, .slice A5 n5 c5'] 67))
      have HR6 := hid (K_row (Kd.below HO5.out (bAlloc (bAlloc (Below.refl _ w5) (.cells #[.int .i64 J.id, .slice A5 n5 c5'] 67)) (.cells #[] 5)))).1
      have HZ6 := hid (show (w5.alloc (.cells #[.int .i64 J.id, .slice A5 n5 c5'] 67)).heap[w5.heap.size]? = some (.cells #[.int .i64 J.id, .slice A5 n5 c5'] 67 (0, 0)) from heap_at rfl)
      have HK6 := hid (Kd.below HK5.out (bAlloc (Below.refl _ w5) (.cells #[.int .i64 J.id, .slice A5 n5 c5'] 67)))
      clear hO6
      go_wp2_with (at_builtin; go_must (refine appends_arm Kd.u8 (w0 := (w5.alloc (.cells #[.int .i64 J.id, .slice A5 n5 c5'] 67))) (w5.heap.size + 1) rfl _ _ 71 5 _ 1 rfl Try.underlying71 Try.infoU8 rfl (by decide) (by decide) (.slice (some ⟨w5.heap.size + 1, 0, none⟩) 0 0) [] (jobL J) A3 n3 c3' NoT Any NoT rfl rfl HN3.out.symm HR6.out (fun _ _ h => h) (fun _ h => h.elim) HO6.out HBL6.out (by simp) (by simp; omega) ?_))
      intro v7 w7 hO7 hb7 _ _
      obtain ⟨A7, n7, c7', rfl, hn7, hq7⟩ := hO7.shape'
      have HB7 := hid (HB6.out.trans (hb7.mono (by have := HB6.out.size; have := HS6.out; omega)))
      have HB67 := hid hb7
      have hn7' : (jobL J).length ≤ 20000 := by rw [← HN3.out]; exact hl3'
      have hs7 : (w5.heap.size + 1) ≤ w7.heap.size := by have := hb7.size; have := HS6.out; omega
      clear hn7 hq7
      go_wp2_with (at_builtin; go_must (refine append_arm Kd.u8 (w0 := w7) (w5.heap.size + 1) rfl _ _ 71 5 _ 1 rfl Try.underlying71 Try.infoU8 rfl (by decide) (by decide) (.slice A7 n7 c7') (jobL J) m8 [.int .u8 (m8.toNat : Int)] NoT NoT rfl rfl rfl (fun _ h => h.elim) hO7 (Below.refl _ _) hs7 (by omega) ?_))
      intro v8 w8 hO8 hb8 _ _
      have HB68 := hid (HB67.out.trans hb8)
      have HO8 := hid (Kd.any hO8.K)
      obtain ⟨A8, n8, c8', rfl, hn8, hq8⟩ := hO8.shape'
      clear hO7 hO8 hb7 hb8 hn8 hq8
      go_wp2_with fail
      refine (jobParse_calls (jobL J ++ [m8]) _ w8 HO8.out (by simp; omega)).mono ?_
      rintro e w9 ⟨A9, n9, c9', rfl, _, hb9⟩
      rw [HLO.out m8]
      obtain ⟨Y, hY⟩ : ∃ Y, Y = w9.alloc (.cells #[.int .i64 (jparseJ (jobL J ++ [m8])).id, .slice A9 n9 c9'] 67) := ⟨_, rfl⟩
      have hs8 : (w5.heap.size + 1) ≤ w8.heap.size := by have := HB68.out.size; have := HS6.out; omega
      have HB69 := hid (show Below (w5.alloc (.cells #[.int .i64 J.id, .slice A5 n5 c5'] 67)).heap.size (w5.alloc (.cells #[.int .i64 J.id, .slice A5 n5 c5'] 67)) Y by rw [HS6.out, hY]; exact (HB68.out.trans (hb9.mono hs8)).alloc (Nat.le_trans hs8 hb9.size) _)
      have HBY := hid (HB6.out.trans (HB69.out.mono HB6.out.size))
      have HZY := hid ((HB69.out.block w5.heap.size (by simp)).trans HZ6.out)
      obtain ⟨zz, _, _⟩ := cells_of_block HZY.out
      have z0 : Y.cell? ⟨w5.heap.size, 0, none⟩ = some (.int .i64 J.id) := zz 0 _ rfl
      have z1 : Y.cell? ⟨w5.heap.size, 1, none⟩ = some (.slice A5 n5 c5') := zz 1 _ rfl
      obtain ⟨y0, y1⟩ := HJB.out Y HBY.out
      have HKY := hid (Kd.below HK6.out HB69.out)
      have HSM := hid (show sameJ J J = true by unfold sameJ; rw [beq_self_eq_true, decide_eq_true rfl]; rfl)
      have hEq := hY.symm
      clear hb9 hY zz
      go_wp2_with fail
      refine (rjobSame_calls J J A5 JA n5 c5' k jc Y HKY.out (by rw [HQ.out]; exact HJF.out Y HBY.out)).mono ?_
      rintro e w10 ⟨rfl, hb10⟩
      rw [HSM.out]
      go_wp2_with fail
      refine (works15_calls _).mono ?_
      rintro e w11 ⟨rfl, hb11⟩
      go_wp2
      go_ret
      exact ⟨rfl, bThen (bThen (bThen HBV.out HBY.out) hb10) hb11⟩
theorem jobBack_walk (W : World) (C : ConfS) (cs : Array Value) (hC : Kd.conf.K W Any C cs.toList) (oC : okConf C) (J : JobS) (js : Array Value) (hJ : Kd.job.K W Any J js.toList) (_oJ : okStrs J.needs) (a : Int) (ha : (Lit.int .u8 a).wf = true) :
    Calls Try.prog 6 #[.agg cs, .agg js, .int .u8 a] W fun e w' => e = .returned (.bool true) ∧ Below W.heap.size W w' := by
  obtain ⟨CA, ca, CB, cb, g0, g1, g2⟩ := conf_cells hC
  obtain ⟨JA, jc, h0, h1⟩ := job_cells hJ
  obtain rfl : cs = #[.int .i64 C.scheds, .int .i64 C.lease, .int .i64 C.again, .int .i64 C.room, .int .i64 C.out, .slice CA C.names.length ca, .slice CB C.workers.length cb] := by cases cs; simp_all
  obtain rfl : js = #[.int .i64 J.id, .slice JA J.needs.length jc] := by cases js; simp_all
  have hr : 0 ≤ a ∧ a < 256 := by
    simp [Lit.wf, IntKind.min, IntKind.max, IntKind.bits, IntKind.signed] at ha
    omega
  obtain ⟨m8, rfl⟩ : ∃ m8 : UInt8, a = (m8.toNat : Int) := ⟨UInt8.ofNat a.toNat, by simp; omega⟩
  exact jobBackLaw C CA CB ca cb J JA jc m8 W ⟨g1, g2, oC.2.1⟩ h1
end Go.Proofs.Ytolckkckheiceaa
