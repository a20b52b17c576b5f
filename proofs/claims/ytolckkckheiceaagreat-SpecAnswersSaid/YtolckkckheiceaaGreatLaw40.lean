/- The page's example of layer 40; the law SpecAnswers. -/
import Derived.Test.YtolckkckheiceaaGreatSpec2
import Derived.Test.YtolckkckheiceaaGreatLong14
namespace Go.Proofs.YtolckkckheiceaaGreat
open Go.RowKit

def qC : ConfS := ⟨0, 0, 0, 200, 0, [], [⟨1, 0, 0⟩]⟩
def qJ : JobS := ⟨1, [⟨#[42]⟩]⟩
def qE : EntryS := ⟨2, 0, 0, [⟨#[42]⟩], [], []⟩
theorem ansOk_small {b : List EntryS} {J : JobS} (h1 : longEs b = false) (h2 : longB J.needs 20 300 = false) : AnsOk b J := by
  obtain ⟨g1, g2⟩ := long_no h2
  unfold longEs at h1
  rw [Bool.or_eq_false_iff] at h1
  obtain ⟨h3, h4⟩ := h1
  have h4 := of_decide_eq_false h4
  have hE : ∀ E ∈ b, E.needs.length ≤ 30 ∧ E.bound.length ≤ 30 ∧ E.done.length ≤ 30 := fun E hE => by
    have h5 : longE E = false := by
      cases hl : longE E with
      | false => rfl
      | true => rw [List.any_eq_true.2 ⟨E, hE, hl⟩] at h3; cases h3
    unfold longE at h5
    rw [Bool.or_eq_false_iff, Bool.or_eq_false_iff] at h5
    obtain ⟨⟨h6, h7⟩, h8⟩ := h5
    obtain ⟨_, h9⟩ := long_no h6
    have h10 := of_decide_eq_false h7
    have h11 := of_decide_eq_false h8
    omega
  exact ⟨fun s hs => by have := g1 s hs; omega, by omega, fun E h => ⟨by have := hE E h; omega, by have := hE E h; omega, by have := hE E h; omega⟩, fun E h => by have := hE E h; omega, by omega⟩
set_option maxHeartbeats 4000000 in
set_option maxRecDepth 100000 in
theorem works40_calls (w : World) : Calls Tryz.prog 8 #[] w fun e w' => e = .returned (.bool true) ∧ Below w.heap.size w w' := by
  have T1 := hid (show answerS qC [] qJ = 0 by decide +kernel)
  have T2 := hid (show answerS qC [qE] qJ = 7 by decide +kernel)
  obtain ⟨V, hV⟩ : ∃ V, V = ((((w.alloc (.cells #[.int .i64 1, .int .i64 0, .int .u64 0] 86)).alloc (.cells #[.int .i64 0, .int .i64 0, .int .i64 0, .int .i64 200, .int .i64 0, .slice none 0 0, .slice (some ⟨w.heap.size, 0, none⟩) 1 1] 25)).alloc (.cells #[.string ⟨#[42]⟩] 9)).alloc (.cells #[.int .i64 1, .slice (some ⟨w.heap.size + 1 + 1, 0, none⟩) 1 1] 28)) := ⟨_, rfl⟩
  have hbv : Below w.heap.size w V := by rw [hV]; exact (bAlloc (bAlloc (bAlloc (bAlloc (Below.refl _ _) _) _) _) _)
  have hC : CAt V qC none (some ⟨w.heap.size, 0, none⟩) 0 1 := by
    rw [hV]
    exact ⟨⟨none, 0, rfl, Nat.le_refl _, by decide, Kd.Row.nil⟩, Kd.below (Kd.any (K_new (enc := fun (x : WorkerS) => [.int .i64 x.slots, .int .i64 x.limit, .int .u64 x.attrs]) (hl := fun _ => rfl) (h1 := fun x u hu => by simp at hu; rcases hu with rfl | rfl | rfl <;> rfl) w w.heap.size rfl 86 [⟨1, 0, 0⟩] (by decide))) (bAlloc (bAlloc (bAlloc (Below.refl _ _) _) _) _), by intro x hx; simp [qC] at hx; subst hx; decide⟩
  have hJ : Kd.str.slice.K V Any qJ.needs [.slice (some ⟨w.heap.size + 1 + 1, 0, none⟩) qJ.needs.length 1] := by
    rw [hV]
    exact Kd.below (K_newS ((w.alloc (.cells #[.int .i64 1, .int .i64 0, .int .u64 0] 86)).alloc (.cells #[.int .i64 0, .int .i64 0, .int .i64 0, .int .i64 200, .int .i64 0, .slice none 0 0, .slice (some ⟨w.heap.size, 0, none⟩) 1 1] 25)) (w.heap.size + 1 + 1) (by simp) 9 [⟨#[42]⟩] (by decide)) (bAlloc (Below.refl _ _) _)
  have hz1 : V.heap[w.heap.size + 1]? = some (.cells #[.int .i64 0, .int .i64 0, .int .i64 0, .int .i64 200, .int .i64 0, .slice none 0 0, .slice (some ⟨w.heap.size, 0, none⟩) 1 1] 25 (0, 0)) := by
    rw [hV, Below.heap_alloc _ _ _ (by simp; try omega), Below.heap_alloc _ _ _ (by simp; try omega)]
    exact heap_at (by simp)
  have hz2 : V.heap[w.heap.size + 1 + 1 + 1]? = some (.cells #[.int .i64 1, .slice (some ⟨w.heap.size + 1 + 1, 0, none⟩) 1 1] 28 (0, 0)) := by
    rw [hV]
    exact heap_at (by simp)
  have HZ1 := hid hz1
  have HZ2 := hid hz2
  have HBV := hid hbv
  have HC := hid hC
  have HJ := hid hJ
  have HO1 := hid (show AnsOk [] qJ from ⟨fun s hs => by simp [qJ] at hs; subst hs; decide, by decide, fun E h => (by cases h), fun E h => (by cases h), by decide⟩)
  have HO2 := hid (show AnsOk [qE] qJ from ⟨fun s hs => by simp [qJ] at hs; subst hs; decide, by decide, fun E h => by rw [List.mem_singleton.1 h]; exact ⟨by decide, by decide, by decide⟩, fun E h => by rw [List.mem_singleton.1 h]; decide, by decide⟩)
  have HCB := hid (fun (u : World) (hb : Below V.heap.size V u) => conf_box HZ1.out u hb)
  have HJB := hid (fun (u : World) (h : Below V.heap.size V u) => (show u.cell? ⟨w.heap.size + 1 + 1 + 1, 0, none⟩ = some (.int .i64 1) ∧ u.cell? ⟨w.heap.size + 1 + 1 + 1, 1, none⟩ = some (.slice (some ⟨w.heap.size + 1 + 1, 0, none⟩) 1 1) from by
    obtain ⟨y0, _, _⟩ := cells_of_block ((h.block (w.heap.size + 1 + 1 + 1) (Array.getElem?_eq_some_iff.1 HZ2.out).1).trans HZ2.out)
    exact ⟨y0 0 _ rfl, y0 1 _ rfl⟩))
  have hEq := hV.symm
  clear hV hbv hC hJ hz1 hz2
  obtain ⟨x0, x1, x2, x3, x4, x5, x6⟩ := HCB.out V (Below.refl _ _)
  obtain ⟨j0, j1⟩ := HJB.out V (Below.refl _ _)
  go_enter Tryz.func8, Tryz.ntmps8
  go_wp2_with fail
  refine (answer_calls qC none (some ⟨w.heap.size, 0, none⟩) 0 1 [] (.slice none 0 0) qJ (some ⟨w.heap.size + 1 + 1, 0, none⟩) 1 V HC.out ⟨none, 0, rfl, Nat.le_refl _, by decide, Kd.Row.nil⟩ HJ.out HO1.out).mono ?_
  rintro e w1 ⟨rfl, hb1⟩
  rw [T1.out]
  have HB1 := hid hb1
  clear hb1 x0 x1 x2 x3 x4 x5 x6 j0 j1 hEq
  obtain ⟨x0, x1, x2, x3, x4, x5, x6⟩ := HCB.out w1 HB1.out
  obtain ⟨j0, j1⟩ := HJB.out w1 HB1.out
  have HE := hid (show Kd.entry.slice.K (w1.alloc (.cells #[.int .i64 2, .int .i64 0, .int .i64 0, .slice (some ⟨w.heap.size + 1 + 1, 0, none⟩) 1 1, .slice none 0 0, .slice none 0 0] 69)) Any [qE] [.slice (some ⟨w1.heap.size, 0, none⟩) 1 1] from
    K_of_block (d := Kd.entry) 1 1 rfl (heap_alloc_new w1 _) trivial ⟨_, [], by simp [qE], entry_of qE (Kd.below HJ.out (bAlloc HB1.out _)) ⟨none, 0, rfl, Nat.le_refl _, by decide, Kd.Row.nil⟩ ⟨none, 0, rfl, Nat.le_refl _, by decide, Kd.Row.nil⟩, rfl⟩ (Nat.le_refl _) (show 1 ≤ 140737488355328 by decide))
  obtain ⟨j2, j3⟩ := HJB.out _ (bAlloc HB1.out (.cells #[.int .i64 2, .int .i64 0, .int .i64 0, .slice (some ⟨w.heap.size + 1 + 1, 0, none⟩) 1 1, .slice none 0 0, .slice none 0 0] 69))
  go_wp2_with fail
  refine (answer_calls qC none (some ⟨w.heap.size, 0, none⟩) 0 1 [qE] _ qJ (some ⟨w.heap.size + 1 + 1, 0, none⟩) 1 _ (HC.out.below (bAlloc HB1.out _)) HE.out (Kd.below HJ.out (bAlloc HB1.out _)) HO2.out).mono ?_
  rintro e w2 ⟨rfl, hb2⟩
  rw [T2.out]
  go_wp2
  go_ret
  exact ⟨rfl, bThen (bThen HBV.out (bAlloc HB1.out _)) hb2⟩
set_option maxHeartbeats 4000000 in
set_option maxRecDepth 100000 in
theorem specAnswersLaw (C : ConfS) (CA CB : Option Addr) (ca cb : Nat) (b : List EntryS) (v : Value) (J : JobS) (JA : Option Addr) (jc : Nat) (w : World) (hC : CAt w C CA CB ca cb) (hb : Kd.entry.slice.K w Any b [v]) (hj : Kd.str.slice.K w Any J.needs [.slice JA J.needs.length jc]) :
    Calls Tryz.prog 3 #[.agg #[.int .i64 C.scheds, .int .i64 C.lease, .int .i64 C.again, .int .i64 C.room, .int .i64 C.out, .slice CA C.names.length ca, .slice CB C.workers.length cb], v, .agg #[.int .i64 J.id, .slice JA J.needs.length jc]] w fun e w' => e = .returned (.bool true) ∧ Below w.heap.size w w' := by
  obtain ⟨V, hV⟩ : ∃ V, V = (w.alloc (.cells #[.int .i64 C.scheds, .int .i64 C.lease, .int .i64 C.again, .int .i64 C.room, .int .i64 C.out, .slice CA C.names.length ca, .slice CB C.workers.length cb] 25)).alloc (.cells #[.int .i64 J.id, .slice JA J.needs.length jc] 28) := ⟨_, rfl⟩
  have hb0 : Below w.heap.size w V := by rw [hV]; exact bAlloc (bAlloc (Below.refl _ _) _) _
  have hz1 : V.heap[w.heap.size]? = some (.cells #[.int .i64 C.scheds, .int .i64 C.lease, .int .i64 C.again, .int .i64 C.room, .int .i64 C.out, .slice CA C.names.length ca, .slice CB C.workers.length cb] 25 (0, 0)) := by rw [hV, Below.heap_alloc _ _ _ (by simp)]; exact heap_at rfl
  have hz3 : V.heap[w.heap.size + 1]? = some (.cells #[.int .i64 J.id, .slice JA J.needs.length jc] 28 (0, 0)) := by rw [hV]; exact heap_at (by simp)
  have HZ1 := hid hz1
  have HZ3 := hid hz3
  have HBV := hid hb0
  have HC := hid (hC.below hb0)
  have HBK := hid (Kd.below hb hb0)
  have HJN := hid (Kd.below hj hb0)
  have hEq := hV.symm
  obtain ⟨A, c, he, _, _, _⟩ := hb
  injection he with he _
  subst he
  obtain ⟨q, hq⟩ : ∃ q, q = b.length := ⟨_, rfl⟩
  rw [← hq] at HBK ⊢
  clear hV hC hj hb0 hz1 hz3 hq
  have HCB := hid (fun (u : World) (hb : Below V.heap.size V u) => conf_box HZ1.out u hb)
  have HJB := hid (fun (u : World) (h : Below V.heap.size V u) => (show u.cell? ⟨w.heap.size + 1, 0, none⟩ = some (.int .i64 J.id) ∧ u.cell? ⟨w.heap.size + 1, 1, none⟩ = some (.slice JA J.needs.length jc) from by
    obtain ⟨y0, _, _⟩ := cells_of_block ((h.block (w.heap.size + 1) (Array.getElem?_eq_some_iff.1 HZ3.out).1).trans HZ3.out)
    exact ⟨y0 0 _ rfl, y0 1 _ rfl⟩))
  obtain ⟨x0, x1, x2, x3, x4, x5, x6⟩ := HCB.out V (Below.refl _ _)
  go_enter Tryz.func3, Tryz.ntmps3
  go_wp2_with fail
  refine (rlong14_calls C CA CB ca cb _ HC.out.names).mono ?_
  rintro e w1 ⟨rfl, hb1⟩
  have HB1 := hid hb1
  have HLG := hid (show longC C = (longB C.names 40 100 || decide (80 < C.workers.length)) from rfl)
  obtain ⟨lg, hlg⟩ : ∃ lg, lg = longC C := ⟨_, rfl⟩
  rw [← hlg] at HLG ⊢
  clear hlg hb1 hEq x0 x1 x2 x3 x4 x5 x6
  cases lg
  case true =>
    go_wp2_with fail
    refine (works40_calls _).mono ?_
    rintro e w2 ⟨rfl, hb2⟩
    go_wp2
    go_ret
    exact ⟨rfl, bThen (bThen HBV.out HB1.out) hb2⟩
  have HWL := hid (show C.workers.length ≤ 1000 by
    have := HLG.out.symm
    rw [Bool.or_eq_false_iff] at this
    have := of_decide_eq_false this.2
    omega)
  go_wp2_with fail
  refine (rlong20_calls b _ w1 (Kd.below HBK.out HB1.out)).mono ?_
  rintro e w1' ⟨rfl, rfl⟩
  obtain ⟨le, hle⟩ : ∃ le, le = longEs b := ⟨_, rfl⟩
  have HLE := hid hle
  rw [← hle]
  clear hle
  cases le
  case true =>
    go_wp2_with fail
    refine (works40_calls _).mono ?_
    rintro e w2 ⟨rfl, hb2⟩
    go_wp2
    go_ret
    exact ⟨rfl, bThen (bThen HBV.out HB1.out) hb2⟩
  obtain ⟨j0, j1⟩ := HJB.out w1 HB1.out
  go_wp2_with fail
  refine (long_calls J.needs 20 300 _ w1 (Kd.below HJN.out HB1.out)).mono ?_
  rintro e w1' ⟨rfl, rfl⟩
  obtain ⟨lj, hlj⟩ : ∃ L, L = longB J.needs 20 300 := ⟨_, rfl⟩
  have HLJ := hid hlj
  rw [← hlj]
  clear hlj j0 j1
  cases lj
  case true =>
    go_wp2_with fail
    refine (works40_calls _).mono ?_
    rintro e w2 ⟨rfl, hb2⟩
    go_wp2
    go_ret
    exact ⟨rfl, bThen (bThen HBV.out HB1.out) hb2⟩
  have HO := hid (ansOk_small HLE.out.symm HLJ.out.symm)
  obtain ⟨x0, x1, x2, x3, x4, x5, x6⟩ := HCB.out w1 HB1.out
  by_cases hr : C.room < 0
  · go_wp2_with fail
    refine (works40_calls _).mono ?_
    rintro e w2 ⟨rfl, hb2⟩
    go_wp2
    go_ret
    exact ⟨rfl, bThen (bThen HBV.out HB1.out) hb2⟩
  obtain ⟨z, hz⟩ : ∃ z, z = answerS C b J := ⟨_, rfl⟩
  obtain ⟨kz, hkz⟩ : ∃ kz, kz = keptS b := ⟨_, rfl⟩
  have HZ := hid hz
  have HKZ := hid hkz
  have HFZ := hid (show freeS C b = max (IntKind.i64.wrap (C.room - kz)) 0 by unfold freeS; rw [hkz])
  have e1 : (z == z) = true := beq_self_eq_true _
  have e2 : (kz == kz) = true := beq_self_eq_true _
  obtain ⟨fz, hfz⟩ : ∃ fz, fz = max (IntKind.i64.wrap (C.room - kz)) 0 := ⟨_, rfl⟩
  have HF2 := hid hfz
  have e3 : (fz == fz) = true := beq_self_eq_true _
  have e4 : (max (IntKind.i64.wrap (C.room - kz)) 0 == max (IntKind.i64.wrap (C.room - kz)) 0) = true := beq_self_eq_true _
  have HS := hid (fun (u : World) (hb : Below V.heap.size V u) => show ((u.cell? ⟨w.heap.size, 0, none⟩ = some (.int .i64 C.scheds) ∧ u.cell? ⟨w.heap.size, 1, none⟩ = some (.int .i64 C.lease) ∧ u.cell? ⟨w.heap.size, 2, none⟩ = some (.int .i64 C.again) ∧ u.cell? ⟨w.heap.size, 3, none⟩ = some (.int .i64 C.room) ∧ u.cell? ⟨w.heap.size, 4, none⟩ = some (.int .i64 C.out) ∧ u.cell? ⟨w.heap.size, 5, none⟩ = some (.slice CA C.names.length ca) ∧ u.cell? ⟨w.heap.size, 6, none⟩ = some (.slice CB C.workers.length cb)) ∧ u.cell? ⟨w.heap.size + 1, 0, none⟩ = some (.int .i64 J.id) ∧ u.cell? ⟨w.heap.size + 1, 1, none⟩ = some (.slice JA J.needs.length jc)) from ⟨HCB.out u hb, HJB.out u hb⟩)
  have U0 := hid HB1.out.drew
  have q0 := HS.out w1.drew U0.out
  clear hz hkz hfz
  go_wp2_with fail
  refine wp_region_held_drew (S := fun w' => (w'.cell? ⟨w.heap.size, 0, none⟩ = some (.int .i64 C.scheds) ∧ w'.cell? ⟨w.heap.size, 1, none⟩ = some (.int .i64 C.lease) ∧ w'.cell? ⟨w.heap.size, 2, none⟩ = some (.int .i64 C.again) ∧ w'.cell? ⟨w.heap.size, 3, none⟩ = some (.int .i64 C.room) ∧ w'.cell? ⟨w.heap.size, 4, none⟩ = some (.int .i64 C.out) ∧ w'.cell? ⟨w.heap.size, 5, none⟩ = some (.slice CA C.names.length ca) ∧ w'.cell? ⟨w.heap.size, 6, none⟩ = some (.slice CB C.workers.length cb)) ∧ w'.cell? ⟨w.heap.size + 1, 0, none⟩ = some (.int .i64 J.id) ∧ w'.cell? ⟨w.heap.size + 1, 1, none⟩ = some (.slice JA J.needs.length jc)) (by kernel_rfl) q0 (fun hHeld => ?_)
  refine anyH_take 0 (v := ?_) rfl (by kernel_rfl) (by kernel_rfl) (by kernel_rfl) (fun _ _ _ h => h) (by rfl) hHeld ?_ ?_
  rotate_left
  · (intro w hSw; (try dsimp only at hSw); go_split_ands; go_simp; try with_reducible rfl)
  (try simp only [Act.put, List.setIfInBounds_toArray, List.set_cons_zero, List.set_cons_succ])
  refine anyH_take 1 (v := ?_) rfl (by kernel_rfl) (by kernel_rfl) (by kernel_rfl) (fun _ _ _ h => h) (by rfl) hHeld ?_ ?_
  rotate_left
  · (intro w hSw; (try dsimp only at hSw); go_split_ands; go_simp; try with_reducible rfl)
  (try simp only [Act.put, List.setIfInBounds_toArray, List.set_cons_zero, List.set_cons_succ])
  refine anyH_take 2 (v := ?_) rfl (by kernel_rfl) (by kernel_rfl) (by kernel_rfl) (fun _ _ _ h => h) (by rfl) hHeld ?_ ?_
  rotate_left
  · (intro w hSw; (try dsimp only at hSw); go_split_ands; go_simp; try with_reducible rfl)
  (try simp only [Act.put, List.setIfInBounds_toArray, List.set_cons_zero, List.set_cons_succ])
  refine anyH_take 4 (v := ?_) rfl (by kernel_rfl) (by kernel_rfl) (by kernel_rfl) (fun _ _ _ h => h) (by rfl) hHeld ?_ ?_
  rotate_left
  · (intro w hSw; (try dsimp only at hSw); go_split_ands; go_simp; try with_reducible rfl)
  (try simp only [Act.put, List.setIfInBounds_toArray, List.set_cons_zero, List.set_cons_succ])
  refine anyH_take 5 (v := ?_) rfl (by kernel_rfl) (by kernel_rfl) (by kernel_rfl) (fun _ _ _ h => h) (by rfl) hHeld ?_ ?_
  rotate_left
  · (intro w hSw; (try dsimp only at hSw); go_split_ands; go_simp; try with_reducible rfl)
  (try simp only [Act.put, List.setIfInBounds_toArray, List.set_cons_zero, List.set_cons_succ])
  refine anyH_take 6 (v := ?_) rfl (by kernel_rfl) (by kernel_rfl) (by kernel_rfl) (fun _ _ _ h => h) (by rfl) hHeld ?_ ?_
  rotate_left
  · (intro w hSw; (try dsimp only at hSw); go_split_ands; go_simp; try with_reducible rfl)
  (try simp only [Act.put, List.setIfInBounds_toArray, List.set_cons_zero, List.set_cons_succ])
  refine anyH_one 3 rfl (by kernel_rfl) (fun K hK => ?_)
  go_simp
  refine (answer_calls C CA CB ca cb b _ J JA jc w1.drew (HC.out.below U0.out) (Kd.below HBK.out U0.out) (Kd.below HJN.out U0.out) HO.out).mono ?_
  rintro e y1 ⟨rfl, hb0⟩
  rw [← HZ.out]
  have U1 := hid (bThen U0.out hb0)
  have q1 := HS.out y1 U1.out
  clear hb0
  go_simp
  refine hK.out _ _ q1 (fun hHeld => ?_)
  clear hK K
  (try simp only [Act.put, List.setIfInBounds_toArray, List.set_cons_zero, List.set_cons_succ])
  refine anyH_one 7 rfl (by kernel_rfl) (fun K hK => ?_)
  go_simp
  refine (ranswer_calls C CA CB ca cb b _ J JA jc y1 (HC.out.below U1.out) (Kd.below HBK.out U1.out) (Kd.below HJN.out U1.out) HO.out HWL.out).mono ?_
  rintro e y2 ⟨rfl, hb1⟩
  rw [← HZ.out]
  have U2 := hid (bThen U1.out hb1)
  have q2 := HS.out y2 U2.out
  clear hb1
  go_simp
  refine hK.out _ _ q2 (fun hHeld => ?_)
  clear hK K
  (try simp only [Act.put, List.setIfInBounds_toArray, List.set_cons_zero, List.set_cons_succ])
  refine anyH_take 8 (v := ?_) rfl (by kernel_rfl) (by kernel_rfl) (by kernel_rfl) (fun _ _ _ h => h) (by rfl) hHeld ?_ ?_
  rotate_left
  · (intro w hSw; (try dsimp only at hSw); go_split_ands; go_simp; try with_reducible rfl)
  (try simp only [Act.put, List.setIfInBounds_toArray, List.set_cons_zero, List.set_cons_succ])
  refine anyH_take 9 (v := ?_) rfl (by kernel_rfl) (by kernel_rfl) (by kernel_rfl) (fun _ _ _ h => h) (by rfl) hHeld ?_ ?_
  rotate_left
  · (intro w hSw; (try dsimp only at hSw); go_split_ands; go_simp; try with_reducible rfl)
  (try simp only [Act.put, List.setIfInBounds_toArray, List.set_cons_zero, List.set_cons_succ])
  refine anyH_take 10 (v := ?_) rfl (by kernel_rfl) (by kernel_rfl) (by kernel_rfl) (fun _ _ _ h => h) (by rfl) hHeld ?_ ?_
  rotate_left
  · (intro w hSw; (try dsimp only at hSw); go_split_ands; go_simp; try with_reducible rfl)
  (try simp only [Act.put, List.setIfInBounds_toArray, List.set_cons_zero, List.set_cons_succ])
  refine anyH_take 12 (v := ?_) rfl (by kernel_rfl) (by kernel_rfl) (by kernel_rfl) (fun _ _ _ h => h) (by rfl) hHeld ?_ ?_
  rotate_left
  · (intro w hSw; (try dsimp only at hSw); go_split_ands; go_simp; try with_reducible rfl)
  (try simp only [Act.put, List.setIfInBounds_toArray, List.set_cons_zero, List.set_cons_succ])
  refine anyH_one 11 rfl (by kernel_rfl) (fun K hK => ?_)
  go_simp
  refine (kept_calls b _ y2 (Kd.below HBK.out U2.out) HO.out.en HO.out.bl).mono ?_
  rintro e y3 ⟨rfl, hb2⟩
  rw [← HKZ.out]
  have U3 := hid (bThen U2.out hb2)
  have q3 := HS.out y3 U3.out
  clear hb2
  go_simp
  refine hK.out _ _ q3 (fun hHeld => ?_)
  clear hK K
  (try simp only [Act.put, List.setIfInBounds_toArray, List.set_cons_zero, List.set_cons_succ])
  refine anyH_one 13 rfl (by kernel_rfl) (fun K hK => ?_)
  go_simp
  refine (rkept_calls b _ y3 (Kd.below HBK.out U3.out) HO.out.en HO.out.bl).mono ?_
  rintro e y4 ⟨rfl, hb3⟩
  rw [← HKZ.out]
  have U4 := hid (bThen U3.out hb3)
  have q4 := HS.out y4 U4.out
  clear hb3
  go_simp
  refine hK.out _ _ q4 (fun hHeld => ?_)
  clear hK K
  (try simp only [Act.put, List.setIfInBounds_toArray, List.set_cons_zero, List.set_cons_succ])
  refine anyH_take 14 (v := ?_) rfl (by kernel_rfl) (by kernel_rfl) (by kernel_rfl) (fun _ _ _ h => h) (by rfl) hHeld ?_ ?_
  rotate_left
  · (intro w hSw; (try dsimp only at hSw); go_split_ands; go_simp; try with_reducible rfl)
  (try simp only [Act.put, List.setIfInBounds_toArray, List.set_cons_zero, List.set_cons_succ])
  refine anyH_take 15 (v := ?_) rfl (by kernel_rfl) (by kernel_rfl) (by kernel_rfl) (fun _ _ _ h => h) (by rfl) hHeld ?_ ?_
  rotate_left
  · (intro w hSw; (try dsimp only at hSw); go_split_ands; go_simp; try with_reducible rfl)
  (try simp only [Act.put, List.setIfInBounds_toArray, List.set_cons_zero, List.set_cons_succ])
  refine anyH_take 16 (v := ?_) rfl (by kernel_rfl) (by kernel_rfl) (by kernel_rfl) (fun _ _ _ h => h) (by rfl) hHeld ?_ ?_
  rotate_left
  · (intro w hSw; (try dsimp only at hSw); go_split_ands; go_simp; try with_reducible rfl)
  (try simp only [Act.put, List.setIfInBounds_toArray, List.set_cons_zero, List.set_cons_succ])
  refine anyH_take 17 (v := ?_) rfl (by kernel_rfl) (by kernel_rfl) (by kernel_rfl) (fun _ _ _ h => h) (by rfl) hHeld ?_ ?_
  rotate_left
  · (intro w hSw; (try dsimp only at hSw); go_split_ands; go_simp; try with_reducible rfl)
  (try simp only [Act.put, List.setIfInBounds_toArray, List.set_cons_zero, List.set_cons_succ])
  refine anyH_take 18 (v := ?_) rfl (by kernel_rfl) (by kernel_rfl) (by kernel_rfl) (fun _ _ _ h => h) (by rfl) hHeld ?_ ?_
  rotate_left
  · (intro w hSw; (try dsimp only at hSw); go_split_ands; go_simp; try with_reducible rfl)
  (try simp only [Act.put, List.setIfInBounds_toArray, List.set_cons_zero, List.set_cons_succ])
  refine anyH_take 20 (v := ?_) rfl (by kernel_rfl) (by kernel_rfl) (by kernel_rfl) (fun _ _ _ h => h) (by rfl) hHeld ?_ ?_
  rotate_left
  · (intro w hSw; (try dsimp only at hSw); go_split_ands; go_simp; try with_reducible rfl)
  (try simp only [Act.put, List.setIfInBounds_toArray, List.set_cons_zero, List.set_cons_succ])
  refine anyH_take 21 (v := ?_) rfl (by kernel_rfl) (by kernel_rfl) (by kernel_rfl) (fun _ _ _ h => h) (by rfl) hHeld ?_ ?_
  rotate_left
  · (intro w hSw; (try dsimp only at hSw); go_split_ands; go_simp; try with_reducible rfl)
  (try simp only [Act.put, List.setIfInBounds_toArray, List.set_cons_zero, List.set_cons_succ])
  refine anyH_take 22 (v := ?_) rfl (by kernel_rfl) (by kernel_rfl) (by kernel_rfl) (fun _ _ _ h => h) (by rfl) hHeld ?_ ?_
  rotate_left
  · (intro w hSw; (try dsimp only at hSw); go_split_ands; go_simp; try with_reducible rfl)
  (try simp only [Act.put, List.setIfInBounds_toArray, List.set_cons_zero, List.set_cons_succ])
  refine anyH_one 19 rfl (by kernel_rfl) (fun K hK => ?_)
  go_simp
  refine (free_calls C CA CB ca cb b _ y4 (Kd.below HBK.out U4.out) HO.out.en HO.out.bl).mono ?_
  rintro e y5 ⟨rfl, hb4⟩
  rw [HFZ.out]
  have U5 := hid (bThen U4.out hb4)
  have q5 := HS.out y5 U5.out
  clear hb4
  go_simp
  refine hK.out _ _ q5 (fun hHeld => ?_)
  clear hK K
  (try simp only [Act.put, List.setIfInBounds_toArray, List.set_cons_zero, List.set_cons_succ])
  refine anyH_one 23 rfl (by kernel_rfl) (fun K hK => ?_)
  go_simp
  refine (rkept_calls b _ y5 (Kd.below HBK.out U5.out) HO.out.en HO.out.bl).mono ?_
  rintro e y6 ⟨rfl, hb5⟩
  rw [← HKZ.out]
  have U6 := hid (bThen U5.out hb5)
  have q6 := HS.out y6 U6.out
  clear hb5
  go_simp
  refine hK.out _ _ q6 (fun hHeld => ?_)
  clear hK K
  (try simp only [Act.put, List.setIfInBounds_toArray, List.set_cons_zero, List.set_cons_succ])
  refine anyH_take 24 (v := ?_) rfl (by kernel_rfl) (by kernel_rfl) (by kernel_rfl) (fun _ _ _ h => h) (by rfl) hHeld ?_ ?_
  rotate_left
  · (intro w hSw; (try dsimp only at hSw); go_split_ands; go_simp; try with_reducible rfl)
  (try simp only [Act.put, List.setIfInBounds_toArray, List.set_cons_zero, List.set_cons_succ])
  refine anyH_take 25 (v := ?_) rfl (by kernel_rfl) (by kernel_rfl) (by kernel_rfl) (fun _ _ _ h => h) (by rfl) hHeld ?_ ?_
  rotate_left
  · (intro w hSw; (try dsimp only at hSw); go_split_ands; go_simp; try with_reducible rfl)
  (try simp only [Act.put, List.setIfInBounds_toArray, List.set_cons_zero, List.set_cons_succ])
  refine anyH_take 26 (v := ?_) rfl (by kernel_rfl) (by kernel_rfl) (by kernel_rfl) (fun _ _ _ h => h) (by rfl) hHeld ?_ ?_
  rotate_left
  · (intro w hSw; (try dsimp only at hSw); go_split_ands; go_simp; try with_reducible rfl)
  (try simp only [Act.put, List.setIfInBounds_toArray, List.set_cons_zero, List.set_cons_succ])
  refine anyH_take 27 (v := ?_) rfl (by kernel_rfl) (by kernel_rfl) (by kernel_rfl) (fun _ _ _ h => h) (by rfl) hHeld ?_ ?_
  rotate_left
  · (intro w hSw; (try dsimp only at hSw); go_split_ands; go_simp; try with_reducible rfl)
  (try simp only [Act.put, List.setIfInBounds_toArray, List.set_cons_zero, List.set_cons_succ])
  refine anyH_take 28 (v := ?_) rfl (by kernel_rfl) (by kernel_rfl) (by kernel_rfl) (fun _ _ _ h => h) (by rfl) hHeld ?_ ?_
  rotate_left
  · (intro w hSw; (try dsimp only at hSw); go_split_ands; go_simp; try with_reducible rfl)
  (try simp only [Act.put, List.setIfInBounds_toArray, List.set_cons_zero, List.set_cons_succ])
  refine anyH_one 29 rfl (by kernel_rfl) (fun K hK => ?_)
  go_simp
  refine (works40_calls y6).mono ?_
  rintro e y7 ⟨rfl, hb6⟩
  have U7 := hid (bThen U6.out hb6)
  have q7 := HS.out y7 U7.out
  clear hb6
  go_simp
  refine hK.out _ _ q7 (fun hHeld => ?_)
  clear hK K
  (try simp only [Act.put, List.setIfInBounds_toArray, List.set_cons_zero, List.set_cons_succ])
  refine anyH_take 30 (v := ?_) rfl (by kernel_rfl) (by kernel_rfl) (by kernel_rfl) (fun _ _ _ h => h) (by rfl) hHeld ?_ ?_
  rotate_left
  · (intro w hSw; (try dsimp only at hSw); go_split_ands; go_simp; try with_reducible rfl)
  (try simp only [Act.put, List.setIfInBounds_toArray, List.set_cons_zero, List.set_cons_succ])
  refine anyH_take 31 (v := ?_) rfl (by kernel_rfl) (by kernel_rfl) (by kernel_rfl) (fun _ _ _ h => h) (by rfl) hHeld ?_ ?_
  rotate_left
  · (intro w hSw; (try dsimp only at hSw); go_split_ands; go_simp; try with_reducible rfl)
  (try simp only [Act.put, List.setIfInBounds_toArray, List.set_cons_zero, List.set_cons_succ])
  refine wpAnyH_done (by kernel_rfl) ?_ _
  go_wp2
  go_ret
  exact ⟨rfl, bThen HBV.out U7.out⟩
theorem specAnswers_walk (W : World) (C : ConfS) (cs : Array Value) (hC : Kd.conf.K W Any C cs.toList) (oC : okConf C) (b : List EntryS) (v : Value) (hb : Kd.entry.slice.K W Any b [v]) (_ob : (∀ y ∈ b, okEntry y) ∧ b.length * 96 ≤ 140737488351232) (J : JobS) (js : Array Value) (hJ : Kd.job.K W Any J js.toList) (_oJ : okStrs J.needs) :
    Calls Tryz.prog 3 #[.agg cs, v, .agg js] W fun e w' => e = .returned (.bool true) ∧ Below W.heap.size W w' := by
  obtain ⟨CA, ca, CB, cb, g0, g1, g2⟩ := conf_cells hC
  obtain ⟨JA, jc, h0, h1⟩ := job_cells hJ
  obtain rfl : cs = #[.int .i64 C.scheds, .int .i64 C.lease, .int .i64 C.again, .int .i64 C.room, .int .i64 C.out, .slice CA C.names.length ca, .slice CB C.workers.length cb] := by cases cs; simp_all
  obtain rfl : js = #[.int .i64 J.id, .slice JA J.needs.length jc] := by cases js; simp_all
  exact specAnswersLaw C CA CB ca cb b v J JA jc W ⟨g1, g2, oC.2.1⟩ hb h1
theorem Tryz.opensEntries : Opens Tryz.prog 26 Kd.entry.slice (fun l => (∀ y ∈ l, okEntry y) ∧ l.length * 96 ≤ 140737488351232) := opens_slice Tryz.underlying26 (by kernel_rfl) (by kernel_rfl) (by decide) (by decide) Tryz.opensEntry
end Go.Proofs.YtolckkckheiceaaGreat
