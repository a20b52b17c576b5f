/- event.accepted; event.Step of an accept. -/
import Derived.Test.YtgedkcglkhleoaaGreatDoorEvent1
import Derived.Test.YtgedkcglkhleoaaGreatDoorEntryF
import Derived.Test.YtgedkcglkhleoaaGreatDoorBase
namespace Go.Proofs.YtgedkcglkhleoaaGreatDoor
open Go.RowKit
def acceptE (J : JobS) : EntryS := ⟨J.id, 0, 1, J.needs, List.replicate J.needs.length 0, List.replicate J.needs.length false⟩
/-- May the job be accepted? -/
def okA (C : ConfS) (js : List JobS) (b : List EntryS) (id t k : Int) : Bool := !(findE b id).isSome && ((findJ js id).isSome && (decide (t = 0) && (decide (k = 0) && decide ((checkJ C.names C.workers ((findJ js id).getD zeroJ).id ((findJ js id).getD zeroJ).needs).2.2 = 0))))
def acceptS (C : ConfS) (js : List JobS) (b : List EntryS) (id t k : Int) : List EntryS := if okA C js b id t k then b ++ [acceptE ((findJ js id).getD zeroJ)] else b
theorem acceptS_no {C : ConfS} {js : List JobS} {b : List EntryS} {id t k : Int} (h : okA C js b id t k = false) : acceptS C js b id t k = b := by unfold acceptS; rw [h]; rfl
theorem findJ_mem {js : List JobS} {id : Int} {J : JobS} (h : findJ js id = some J) : J ∈ js := List.mem_of_find?_eq_some h
set_option maxHeartbeats 4000000 in
set_option maxRecDepth 100000 in
theorem eacceptedO_calls (C : ConfS) (CA CB : Option Addr) (ca cb : Nat) (js : List JobS) (JA0 : Option Addr) (jn jcap : Nat) (b : List EntryS) (v : Value) (kd id t k : Int) (w : World) (hC : CAt w C CA CB ca cb) (hj : Kd.job.slice.K w Any js [.slice JA0 jn jcap]) (hb : Kd.entry.slice.K w Any b [v]) (hF : ∀ E ∈ b, Fits E) (hl : b.length ≤ 1000) (hjs : ∀ J ∈ js, (∀ s ∈ J.needs, s.size ≤ 140737488351232) ∧ J.needs.length ≤ 1000) :
    Calls Tryz.prog 21 #[.agg #[.int .i64 C.scheds, .int .i64 C.lease, .int .i64 C.again, .int .i64 C.room, .int .i64 C.out, .slice CA C.names.length ca, .slice CB C.workers.length cb], .slice JA0 jn jcap, v, .agg #[.int .i64 kd, .int .i64 id, .int .i64 t, .int .i64 k]] w fun e w' => ∃ o, e = .returned (.tuple #[o, .bool (okA C js b id t k)]) ∧ Kd.entry.slice.K w' Any (acceptS C js b id t k) [o] ∧ (okA C js b id t k = true → Own Kd.entryF 45 w' w.heap.size (fun j => w.heap.size ≤ j) o (acceptS C js b id t k)) ∧ Below w.heap.size w w' := by
  obtain ⟨V, hV⟩ : ∃ V, V = (w.alloc (.cells #[.int .i64 C.scheds, .int .i64 C.lease, .int .i64 C.again, .int .i64 C.room, .int .i64 C.out, .slice CA C.names.length ca, .slice CB C.workers.length cb] 25)).alloc (.cells #[.int .i64 kd, .int .i64 id, .int .i64 t, .int .i64 k] 31) := ⟨_, rfl⟩
  have hb0 : Below w.heap.size w V := by rw [hV]; exact bAlloc (bAlloc (Below.refl _ _) _) _
  have hz1 : V.heap[w.heap.size]? = some (.cells #[.int .i64 C.scheds, .int .i64 C.lease, .int .i64 C.again, .int .i64 C.room, .int .i64 C.out, .slice CA C.names.length ca, .slice CB C.workers.length cb] 25 (0, 0)) := by rw [hV, Below.heap_alloc _ _ _ (by simp)]; exact heap_at rfl
  have hz3 : V.heap[w.heap.size + 1]? = some (.cells #[.int .i64 kd, .int .i64 id, .int .i64 t, .int .i64 k] 31 (0, 0)) := by rw [hV]; exact heap_at (by simp)
  have HZ1 := hid hz1
  have HZ3 := hid hz3
  have HVS := hid (show V.heap.size = w.heap.size + 2 by rw [hV]; simp)
  have HBV := hid hb0
  have HC := hid (hC.below hb0)
  have HJ := hid (Kd.below hj hb0)
  have HBK := hid (Kd.below hb hb0)
  have HF := hid hF
  have HL := hid hl
  have HJS := hid hjs
  have hEq := hV.symm
  obtain ⟨A, c, he, _, _, _⟩ := hb
  injection he with he _
  subst he
  have HOK := hid (show okA C js b id t k = (!(findE b id).isSome && ((findJ js id).isSome && (decide (t = 0) && (decide (k = 0) && decide ((checkJ C.names C.workers ((findJ js id).getD zeroJ).id ((findJ js id).getD zeroJ).needs).2.2 = 0))))) from rfl)
  have HNO := hid (fun h : okA C js b id t k = false => acceptS_no h)
  have HYES := hid (show okA C js b id t k = true → acceptS C js b id t k = b ++ [acceptE ((findJ js id).getD zeroJ)] from fun h => by unfold acceptS; rw [h]; rfl)
  have HJ0 := hid (show (∀ s ∈ ((findJ js id).getD zeroJ).needs, s.size ≤ 140737488351232) ∧ ((findJ js id).getD zeroJ).needs.length ≤ 1000 from by
    cases hf : findJ js id with
    | none => exact ⟨fun s hs => (by simp [zeroJ] at hs), by simp [zeroJ]⟩
    | some J => exact hjs J (findJ_mem hf))
  obtain ⟨E0, hE0⟩ : ∃ E0, E0 = (findE b id).getD zeroE := ⟨_, rfl⟩
  obtain ⟨q, hq⟩ : ∃ q, q = b.length := ⟨_, rfl⟩
  have HQ := hid hq
  rw [← hq] at HBK ⊢
  clear hV hC hj hb0 hz1 hz3 hF hl hjs hq
  have HCB := hid (fun (u : World) (hb : Below V.heap.size V u) => conf_box HZ1.out u hb)
  have HEB := hid (fun (u : World) (h : Below V.heap.size V u) => (show u.cell? ⟨w.heap.size + 1, 0, none⟩ = some (.int .i64 kd) ∧ u.cell? ⟨w.heap.size + 1, 1, none⟩ = some (.int .i64 id) ∧ u.cell? ⟨w.heap.size + 1, 2, none⟩ = some (.int .i64 t) ∧ u.cell? ⟨w.heap.size + 1, 3, none⟩ = some (.int .i64 k) from by
    obtain ⟨y0, _, _⟩ := cells_of_block ((h.block (w.heap.size + 1) (Array.getElem?_eq_some_iff.1 HZ3.out).1).trans HZ3.out)
    exact ⟨y0 0 _ rfl, y0 1 _ rfl, y0 2 _ rfl, y0 3 _ rfl⟩))
  obtain ⟨x0, x1, x2, x3⟩ := HEB.out V (Below.refl _ _)
  go_enter Tryz.func21, Tryz.ntmps21
  go_wp2_with fail
  refine (bfind_calls b id _ V HBK.out HF.out).mono ?_
  rintro e w1 ⟨FA, FB, FD, fa, fb, fd, rfl, _, hb1⟩
  rw [← hE0]
  have HFI := hid (findE_place b id)
  obtain ⟨th, hth⟩ : ∃ th, th = (findE b id).isSome := ⟨_, rfl⟩
  rw [← hth] at HOK ⊢
  obtain ⟨W1, hW1⟩ : ∃ W1, W1 = w1.alloc (.cells #[.int .i64 E0.id, .int .i64 E0.sched, .int .i64 E0.epoch, .slice FA E0.needs.length fa, .slice FB E0.bound.length fb, .slice FD E0.done.length fd] 45) := ⟨_, rfl⟩
  have HB1 := hid (show Below V.heap.size V W1 by rw [hW1]; exact bAlloc hb1 _)
  have hEq1 := hW1.symm
  clear x0 x1 x2 x3 hb1 hW1 hE0 hth
  obtain ⟨x0, x1, x2, x3⟩ := HEB.out W1 HB1.out
  go_wp2_with fail
  refine (efind_calls js id _ W1 (Kd.below HJ.out HB1.out)).mono ?_
  rintro e w2 ⟨JA, jc, rfl, hJN, hb2⟩
  obtain ⟨J0, hJ0⟩ : ∃ J0, J0 = (findJ js id).getD zeroJ := ⟨_, rfl⟩
  obtain ⟨is, his⟩ : ∃ is, is = (findJ js id).isSome := ⟨_, rfl⟩
  rw [← hJ0] at HOK HYES HJ0 hJN ⊢
  rw [← his] at HOK ⊢
  obtain ⟨n, hn⟩ : ∃ n, n = J0.needs.length := ⟨_, rfl⟩
  have HN := hid hn
  rw [← hn] at hJN HJ0 ⊢
  obtain ⟨W2, hW2⟩ : ∃ W2, W2 = w2.alloc (.cells #[.int .i64 J0.id, .slice JA n jc] 54) := ⟨_, rfl⟩
  have hb2' : Below w2.heap.size w2 W2 := by rw [hW2]; exact bAlloc (Below.refl _ _) _
  have HB2 := hid (bThen HB1.out (bThen hb2 hb2'))
  have HZJ := hid (show W2.heap[w2.heap.size]? = some (.cells #[.int .i64 J0.id, .slice JA n jc] 54 (0, 0)) by rw [hW2]; exact heap_at rfl)
  have HJN := hid (Kd.below hJN hb2')
  have hEq2 := hW2.symm
  clear x0 x1 x2 x3 hb2 hb2' hW2 hJ0 his hn hJN
  have HJB := hid (fun (u : World) (h : Below W2.heap.size W2 u) => (show u.cell? ⟨w2.heap.size, 0, none⟩ = some (.int .i64 J0.id) ∧ u.cell? ⟨w2.heap.size, 1, none⟩ = some (.slice JA n jc) from by
    obtain ⟨y0, _, _⟩ := cells_of_block ((h.block w2.heap.size (Array.getElem?_eq_some_iff.1 HZJ.out).1).trans HZJ.out)
    exact ⟨y0 0 _ rfl, y0 1 _ rfl⟩))
  obtain ⟨x0, x1, x2, x3⟩ := HEB.out W2 HB2.out
  have HEND := hid (show okA C js b id t k = false → Kd.entry.slice.K W2 Any (acceptS C js b id t k) [.slice A q c] from fun h => by rw [HNO.out h]; exact Kd.below HBK.out HB2.out)
  cases th
  case true =>
    have HFL := hid (show okA C js b id t k = false by rw [HOK.out]; rfl)
    go_wp2
    go_ret2
    rw [HFL.out]
    exact ⟨.slice A q c, rfl, HEND.out HFL.out, (fun h => nomatch h), bThen HBV.out HB2.out⟩
  cases is
  case false =>
    have HFL := hid (show okA C js b id t k = false by rw [HOK.out]; rfl)
    go_wp2
    go_ret2
    rw [HFL.out]
    exact ⟨.slice A q c, rfl, HEND.out HFL.out, (fun h => nomatch h), bThen HBV.out HB2.out⟩
  by_cases h0 : t = 0
  case neg =>
    have hne : (t != 0) = true := by rw [bne_iff_ne]; exact h0
    have HFL := hid (show okA C js b id t k = false by rw [HOK.out, decide_eq_false h0]; rfl)
    go_wp2
    go_ret2
    rw [HFL.out]
    exact ⟨.slice A q c, rfl, HEND.out HFL.out, (fun h => nomatch h), bThen HBV.out HB2.out⟩
  subst h0
  by_cases h0 : k = 0
  case neg =>
    have hne : (k != 0) = true := by rw [bne_iff_ne]; exact h0
    have HFL := hid (show okA C js b id 0 k = false by rw [HOK.out, decide_eq_false h0]; rfl)
    go_wp2
    go_ret2
    rw [HFL.out]
    exact ⟨.slice A q c, rfl, HEND.out HFL.out, (fun h => nomatch h), bThen HBV.out HB2.out⟩
  subst h0
  obtain ⟨j0, j1⟩ := HJB.out W2 (Below.refl _ _)
  obtain ⟨c0, c1, c2, c3, c4, c5, c6⟩ := HCB.out W2 HB2.out
  have HC2 := hid (HC.out.below HB2.out)
  go_wp2_with fail
  refine (jobCheck_calls C.names C.workers J0.id J0.needs C.scheds C.lease C.again C.room C.out _ _ _ W2 HC2.out.names HC2.out.workers HC2.out.attrs HJN.out HJ0.out.1).mono ?_
  rintro e w3 ⟨rfl, hb3⟩
  have HB3 := hid hb3
  obtain ⟨p1, p2, er, hck⟩ : ∃ x y z, checkJ C.names C.workers J0.id J0.needs = (x, y, z) := ⟨_, _, _, rfl⟩
  rw [hck] at HOK ⊢
  dsimp only at HOK ⊢
  clear hck hb3 x0 x1 x2 x3 j0 j1 c0 c1 c2 c3 c4 c5 c6 hEq hEq1 hEq2 HEND
  by_cases h0 : er = 0
  case neg =>
    have hne : (er != 0) = true := by rw [bne_iff_ne]; exact h0
    have HFL := hid (show okA C js b id 0 0 = false by rw [HOK.out, decide_eq_false h0]; rfl)
    go_wp2
    go_ret2
    rw [HFL.out]
    exact ⟨.slice A q c, rfl, by rw [HNO.out HFL.out]; exact Kd.below HBK.out (bThen HB2.out HB3.out), (fun h => nomatch h), bThen HBV.out (bThen HB2.out HB3.out)⟩
  subst h0
  have HTR := hid (show okA C js b id 0 0 = true by rw [HOK.out]; rfl)
  have HAC := hid (HYES.out HTR.out)
  obtain ⟨j0, j1⟩ := HJB.out w3 HB3.out
  have hm1 : ∀ W, (Instr.makeSlice 42 (.int .i64 (n : Int)) (.int .i64 (n : Int))).run Tryz.prog W = .ok (.slice (some ⟨W.heap.size, 0, none⟩) n n) (W.alloc (.cells (madeCells #[.int .i64 0] n) 3)) := run_make_i n (by have := HJ0.out.2; omega)
  have hm2 : ∀ W, (Instr.makeSlice 43 (.int .i64 (n : Int)) (.int .i64 (n : Int))).run Tryz.prog W = .ok (.slice (some ⟨W.heap.size, 0, none⟩) n n) (W.alloc (.cells (madeCells #[.bool false] n) 4)) := run_make_b n (by have := HJ0.out.2; omega)
  have HMS := hid (show n ≤ (madeCells #[.int .i64 0] n).size from by
    have h := (show Cells I64 w3 Any (List.replicate n (0 : Int)) (madeCells #[.int .i64 0] n).toList from cells_rep rfl n).len
    have h1 : I64.sz = 1 := rfl
    rw [Array.length_toList, List.length_replicate, h1] at h
    omega)
  have HS := hid (fun (u : World) (hb : Below w3.heap.size w3 u) => show (u.cell? ⟨w2.heap.size, 0, none⟩ = some (.int .i64 J0.id) ∧ u.cell? ⟨w2.heap.size, 1, none⟩ = some (.slice JA n jc)) from HJB.out u (bThen HB3.out hb))
  have U0 := hid (Below.refl w3.heap.size w3).drew
  have q0 := HS.out w3.drew U0.out
  have HBK3 := hid (Kd.below HBK.out (bThen HB2.out HB3.out))
  have HJN3 := hid (Kd.below HJN.out HB3.out)
  have HB23 := hid (bThen HBV.out (bThen HB2.out HB3.out))
  clear HOK HNO HYES HCB HEB HBK HJN
  go_wp2_with fail
  refine wp_region_held_drew (S := fun w' => w'.cell? ⟨w2.heap.size, 0, none⟩ = some (.int .i64 J0.id) ∧ w'.cell? ⟨w2.heap.size, 1, none⟩ = some (.slice JA n jc)) (by kernel_rfl) q0 (fun hHeld => ?_)
  obtain ⟨y0, hy0⟩ : ∃ y, y = w3.drew := ⟨_, rfl⟩
  rw [← hy0] at U0 q0 hHeld ⊢
  clear hy0
  refine anyH_take 0 (v := ?_) rfl (by kernel_rfl) (by kernel_rfl) (by kernel_rfl) (fun _ _ _ h => h) (by rfl) hHeld ?_ ?_
  rotate_left
  · (intro w hSw; (try dsimp only at hSw); go_split_ands; go_simp; try with_reducible rfl)
  (try simp only [Act.put, List.setIfInBounds_toArray, List.set_cons_zero, List.set_cons_succ])
  refine anyH_take 2 (v := ?_) rfl (by kernel_rfl) (by kernel_rfl) (by kernel_rfl) (fun _ _ _ h => h) (by rfl) hHeld ?_ ?_
  rotate_left
  · (intro w hSw; (try dsimp only at hSw); go_split_ands; go_simp; try with_reducible rfl)
  (try simp only [Act.put, List.setIfInBounds_toArray, List.set_cons_zero, List.set_cons_succ])
  refine anyH_take 3 (v := ?_) rfl (by kernel_rfl) (by kernel_rfl) (by kernel_rfl) (fun _ _ _ h => h) (by rfl) hHeld ?_ ?_
  rotate_left
  · (intro w hSw; (try dsimp only at hSw); go_split_ands; go_simp; try with_reducible rfl)
  (try simp only [Act.put, List.setIfInBounds_toArray, List.set_cons_zero, List.set_cons_succ])
  refine anyH_take 4 (v := ?_) rfl (by kernel_rfl) (by kernel_rfl) (by kernel_rfl) (fun _ _ _ h => h) (by rfl) hHeld ?_ ?_
  rotate_left
  · (intro w hSw; (try dsimp only at hSw); go_split_ands; go_simp; try with_reducible rfl)
  (try simp only [Act.put, List.setIfInBounds_toArray, List.set_cons_zero, List.set_cons_succ])
  refine anyH_take 5 (v := ?_) rfl (by kernel_rfl) (by kernel_rfl) (by kernel_rfl) (fun _ _ _ h => h) (by rfl) hHeld ?_ ?_
  rotate_left
  · (intro w hSw; (try dsimp only at hSw); go_split_ands; go_simp; try with_reducible rfl)
  (try simp only [Act.put, List.setIfInBounds_toArray, List.set_cons_zero, List.set_cons_succ])
  refine anyH_take 7 (v := ?_) rfl (by kernel_rfl) (by kernel_rfl) (by kernel_rfl) (fun _ _ _ h => h) (by rfl) hHeld ?_ ?_
  rotate_left
  · (intro w hSw; (try dsimp only at hSw); go_split_ands; go_simp; try with_reducible rfl)
  (try simp only [Act.put, List.setIfInBounds_toArray, List.set_cons_zero, List.set_cons_succ])
  refine anyH_take 9 (v := ?_) rfl (by kernel_rfl) (by kernel_rfl) (by kernel_rfl) (fun _ _ _ h => h) (by rfl) hHeld ?_ ?_
  rotate_left
  · (intro w hSw; (try dsimp only at hSw); go_split_ands; go_simp; try with_reducible rfl)
  (try simp only [Act.put, List.setIfInBounds_toArray, List.set_cons_zero, List.set_cons_succ])
  refine anyH_three 1 8 10 rfl rfl rfl (by kernel_rfl) (fun K hK => ?_) (fun K hK => ?_) (fun K hK => ?_)
  · go_simp
    refine (bcloneF_calls b _ y0 (Kd.below HBK3.out U0.out) HF.out (by have := HL.out; omega)).mono ?_
    rintro e y1 ⟨o, rfl, hO, hb⟩
    have U1 := hid (bThen U0.out hb)
    have z1 : y0.heap.size ≤ y1.heap.size := hb.size
    have O1 := hid ((hO.move (T' := fun k => y0.heap.size ≤ k) (fun _ _ _ => rfl) (fun k h _ => (show y0.heap.size ≤ k by have : y0.heap.size ≤ k := h; omega))).lower (show y0.heap.size ≤ y0.heap.size by omega))
    obtain ⟨Ao, no, co, rfl, hno, _⟩ := hO.shape'
    have HRO := hid (fun j (h : (Value.slice Ao no co).ownBlock = some j) => (show y0.heap.size ≤ j ∧ j < y1.heap.size from hO.lt j h))
    clear hO hb hno
    go_simp
    refine hK.out _ _ (HS.out _ U1.out) (fun hHeld => ?_)
    clear hK K
    (try simp only [Act.put, List.setIfInBounds_toArray, List.set_cons_zero, List.set_cons_succ])
    refine anyH_three 6 8 10 rfl rfl rfl (by kernel_rfl) (fun K hK => ?_) (fun K hK => ?_) (fun K hK => ?_)
    · go_simp
      have hsc := sclone_calls J0.needs JA jc y1 (by rw [← HN.out]; exact Kd.below HJN3.out U1.out) (by rw [← HN.out]; have := HJ0.out.2; omega)
      rw [← HN.out] at hsc
      refine hsc.mono ?_
      clear hsc
      rintro e y2 ⟨F, f, rfl, hK, hb⟩
      have U2 := hid (bThen U1.out hb)
      have z2 : y1.heap.size ≤ y2.heap.size := hb.size
      have O2 := hid (O1.out.below hb)
      have F2 := hid (Kd.str.slice.mono (S' := fun j => y1.heap.size ≤ j ∧ j < y2.heap.size) (fun j h hl => ⟨h, hl⟩) hK)
      clear hK hb
      go_simp
      refine hK.out _ _ (HS.out _ U2.out) (fun hHeld => ?_)
      clear hK K
      (try simp only [Act.put, List.setIfInBounds_toArray, List.set_cons_zero, List.set_cons_succ])
      refine anyH_two 8 10 rfl rfl (by kernel_rfl) (fun K hK => ?_) (fun K hK => ?_)
      · go_simp
        obtain ⟨y3, hy⟩ : ∃ y, y = y2.alloc (.cells (madeCells #[.int .i64 0] n) 3) := ⟨_, rfl⟩
        rw [← hy]
        have hb : Below y2.heap.size y2 y3 := by rw [hy]; exact bAlloc (Below.refl _ _) _
        have U3 := hid (bThen U2.out hb)
        have z3 : y2.heap.size ≤ y3.heap.size := hb.size
        have O3 := hid (O2.out.below hb)
        have F3 := hid (Kd.below F2.out hb)
        have hz : y3.heap[y2.heap.size]? = some (.cells (madeCells #[.int .i64 0] n) 3 (0, 0)) := by rw [hy]; exact heap_at rfl
        have M3 := hid (show I64.slice.K y3 (fun j => y2.heap.size ≤ j ∧ j < y3.heap.size) (List.replicate n 0) [.slice (some ⟨y2.heap.size, 0, none⟩) n n] from K_of_block n n (by simp) hz ⟨Nat.le_refl _, (Array.getElem?_eq_some_iff.1 hz).1⟩ (cells_rep rfl n) (Nat.le_refl _) (by have := HJ0.out.2; simp; omega))
        have Q3 := hid hz
        have hM9 := (Array.getElem?_eq_some_iff.1 hz).1
        clear hz hb hy
        refine hK.out _ _ (HS.out _ U3.out) (fun hHeld => ?_)
        clear hK K
        (try simp only [Act.put, List.setIfInBounds_toArray, List.set_cons_zero, List.set_cons_succ])
        refine anyH_one 10 rfl (by kernel_rfl) (fun K hK => ?_)
        go_simp
        obtain ⟨y4, hy⟩ : ∃ y, y = y3.alloc (.cells (madeCells #[.bool false] n) 4) := ⟨_, rfl⟩
        rw [← hy]
        have hb : Below y3.heap.size y3 y4 := by rw [hy]; exact bAlloc (Below.refl _ _) _
        have U4 := hid (bThen U3.out hb)
        have z4 : y3.heap.size ≤ y4.heap.size := hb.size
        have O4 := hid (O3.out.below hb)
        have F4 := hid (Kd.below F3.out hb)
        have M4 := hid (Kd.below M3.out hb)
        have Q4 := hid ((hb.block _ (Array.getElem?_eq_some_iff.1 Q3.out).1).trans Q3.out)
        have hz : y4.heap[y3.heap.size]? = some (.cells (madeCells #[.bool false] n) 4 (0, 0)) := by rw [hy]; exact heap_at rfl
        have B4 := hid (show Kd.bool.slice.K y4 (fun j => y3.heap.size ≤ j ∧ j < y4.heap.size) (List.replicate n false) [.slice (some ⟨y3.heap.size, 0, none⟩) n n] from K_of_block n n (by simp) hz ⟨Nat.le_refl _, (Array.getElem?_eq_some_iff.1 hz).1⟩ (cells_rep rfl n) (Nat.le_refl _) (by have := HJ0.out.2; simp; omega))
        skip
        skip
        clear hz hb hy
        refine hK.out _ _ (HS.out _ U4.out) (fun hHeld => ?_)
        clear hK K
        (try simp only [Act.put, List.setIfInBounds_toArray, List.set_cons_zero, List.set_cons_succ])
        refine anyH_take 11 (v := ?_) rfl (by kernel_rfl) (by kernel_rfl) (by kernel_rfl) (fun _ _ _ h => h) (by rfl) hHeld ?_ ?_
        rotate_left
        · (intro w hSw; (try dsimp only at hSw); go_split_ands; go_simp; try with_reducible rfl)
        (try simp only [Act.put, List.setIfInBounds_toArray, List.set_cons_zero, List.set_cons_succ])
        refine anyH_one 12 rfl (by kernel_rfl) (fun K hK => ?_)
        go_simp
        obtain ⟨y5, hy⟩ : ∃ y, y = y4.alloc (.cells #[.int .i64 J0.id, .int .i64 0, .int .i64 1, .slice F n f, .slice (some ⟨y2.heap.size, 0, none⟩) n n, .slice (some ⟨y3.heap.size, 0, none⟩) n n] 45) := ⟨_, rfl⟩
        rw [← hy]
        have hb : Below y4.heap.size y4 y5 := by rw [hy]; exact bAlloc (Below.refl _ _) _
        have U5 := hid (bThen U4.out hb)
        have z5 : y4.heap.size ≤ y5.heap.size := hb.size
        have O5 := hid (O4.out.below hb)
        have F5 := hid (Kd.below F4.out hb)
        have M5 := hid (Kd.below M4.out hb)
        have Q5 := hid ((hb.block _ (Array.getElem?_eq_some_iff.1 Q4.out).1).trans Q4.out)
        have B5 := hid (Kd.below B4.out hb)
        have R5 := hid (show y5.heap[y4.heap.size]? = some (.cells #[.int .i64 J0.id, .int .i64 0, .int .i64 1, .slice F n f, .slice (some ⟨y2.heap.size, 0, none⟩) n n, .slice (some ⟨y3.heap.size, 0, none⟩) n n] 45 (0, 0)) by rw [hy]; exact heap_at rfl)
        clear hb hy
        refine hK.out _ _ (HS.out _ U5.out) (fun hHeld => ?_)
        clear hK K
        (try simp only [Act.put, List.setIfInBounds_toArray, List.set_cons_zero, List.set_cons_succ])
        refine anyH_one 13 rfl (by kernel_rfl) (fun K hK => ?_)
        have he := entry_of (w := y5) (S := fun j => y0.heap.size ≤ j ∧ some j ≠ (Value.slice Ao no co).ownBlock) (acceptE J0) (A := F) (a := f) (B := some ⟨y2.heap.size, 0, none⟩) (b := n) (D := some ⟨y3.heap.size, 0, none⟩) (d := n) (by show Kd.str.slice.K _ _ J0.needs [.slice F J0.needs.length f]; rw [← HN.out]; exact (Kd.str.slice.mono (S' := fun j => y0.heap.size ≤ j ∧ some j ≠ (Value.slice Ao no co).ownBlock) (fun j h _ => ⟨by omega, fun e => by have := HRO.out j e.symm; omega⟩) F5.out)) (by show I64.slice.K _ _ (List.replicate J0.needs.length 0) [.slice _ (List.replicate J0.needs.length (0 : Int)).length n]; rw [List.length_replicate, ← HN.out]; exact (I64.slice.mono (S' := fun j => y0.heap.size ≤ j ∧ some j ≠ (Value.slice Ao no co).ownBlock) (fun j h _ => ⟨by omega, fun e => by have := HRO.out j e.symm; omega⟩) M5.out)) (by show Kd.bool.slice.K _ _ (List.replicate J0.needs.length false) [.slice _ (List.replicate J0.needs.length false).length n]; rw [List.length_replicate, ← HN.out]; exact (Kd.bool.slice.mono (S' := fun j => y0.heap.size ≤ j ∧ some j ≠ (Value.slice Ao no co).ownBlock) (fun j h _ => ⟨by omega, fun e => by have := HRO.out j e.symm; omega⟩) B5.out))
        rw [show (acceptE J0).needs.length = n from HN.out.symm, show (acceptE J0).bound.length = n from (List.length_replicate).trans HN.out.symm, show (acceptE J0).done.length = n from (List.length_replicate).trans HN.out.symm] at he
        have heB : BoundFree y5 (fun j => y0.heap.size ≤ j ∧ some j ≠ (Value.slice Ao no co).ownBlock) (acceptE J0) [.int .i64 J0.id, .int .i64 0, .int .i64 1, .slice F n f, .slice (some ⟨y2.heap.size, 0, none⟩) n n, .slice (some ⟨y3.heap.size, 0, none⟩) n n] := ⟨some ⟨y2.heap.size, 0, none⟩, n, by rw [show (acceptE J0).bound.length = n from (List.length_replicate).trans HN.out.symm]; rfl, .inr ⟨y2.heap.size, _, rfl, ⟨by omega, fun e => by have := HRO.out _ e.symm; omega⟩, Q5.out, by rw [show (acceptE J0).bound.length = n from (List.length_replicate).trans HN.out.symm]; exact HMS.out⟩⟩
        have heF := (show Kd.entryF.K _ _ (acceptE J0) [.int .i64 J0.id, .int .i64 0, .int .i64 1, .slice F n f, .slice (some ⟨y2.heap.size, 0, none⟩) n n, .slice (some ⟨y3.heap.size, 0, none⟩) n n] from And.intro he heB)
        have HR := hid (show Kd.entryF.slice.K y5 (fun j => y0.heap.size ≤ j ∧ some j ≠ (Value.slice Ao no co).ownBlock) [acceptE J0] [.slice (some ⟨y4.heap.size, 0, none⟩) 1 1] from K_of_block (d := Kd.entryF) 1 1 rfl R5.out ⟨by omega, fun e => by have := HRO.out _ e.symm; omega⟩ ⟨_, [], by simp [acceptE], heF, rfl⟩ (Nat.le_refl _) (show 1 ≤ 140737488355328 by decide))
        refine appendsG_step Kd.entryF y0.heap.size rfl _ _ 29 45 _ 96 rfl Tryz.underlying29 Tryz.infoEntry rfl (by decide) (by decide) (.slice Ao no co) b [acceptE J0] (some ⟨y4.heap.size, 0, none⟩) 1 1 (fun k => y0.heap.size ≤ k) (fun j => y0.heap.size ≤ j ∧ some j ≠ (Value.slice Ao no co).ownBlock) (fun j => y0.heap.size ≤ j ∧ some j ≠ (Value.slice Ao no co).ownBlock) rfl rfl rfl (K_row HR.out).1 (fun _ _ h => h) (fun _ h _ => h) O5.out (by omega) (by have := HL.out; omega) ?_
        intro vb y6 hOb hgb _
        have HOb := hid ((hOb.move (T' := fun k => w.heap.size ≤ k) (fun _ _ _ => rfl) (fun k h _ => Nat.le_trans (Nat.le_trans HB23.out.size U0.out.size) h)).lower (Nat.le_trans HB23.out.size U0.out.size))
        have U6 := hid (U5.out.trans ⟨hgb.os, hgb.tape, hgb.output, hgb.size, fun k hk => hgb.block k (Nat.lt_of_lt_of_le hk U5.out.size) (fun e => by have h1 := HRO.out k e.symm; have := U0.out.size; omega)⟩)
        clear he heB heF hOb hgb
        refine hK.out _ _ (HS.out _ U6.out) (fun hHeld => ?_)
        clear hK K
        (try simp only [Act.put, List.setIfInBounds_toArray, List.set_cons_zero, List.set_cons_succ])
        refine anyH_take 14 (v := ?_) rfl (by kernel_rfl) (by kernel_rfl) (by kernel_rfl) (fun _ _ _ h => h) (by rfl) hHeld ?_ ?_
        rotate_left
        · (intro w hSw; (try dsimp only at hSw); go_split_ands; go_simp; try with_reducible rfl)
        (try simp only [Act.put, List.setIfInBounds_toArray, List.set_cons_zero, List.set_cons_succ])
        refine anyH_take 15 (v := ?_) rfl (by kernel_rfl) (by kernel_rfl) (by kernel_rfl) (fun _ _ _ h => h) (by rfl) hHeld ?_ ?_
        rotate_left
        · (intro w hSw; (try dsimp only at hSw); go_split_ands; go_simp; try with_reducible rfl)
        (try simp only [Act.put, List.setIfInBounds_toArray, List.set_cons_zero, List.set_cons_succ])
        refine wpAnyH_done (by kernel_rfl) ?_ _
        go_wp2
        go_ret2
        rw [HTR.out, HAC.out]
        exact ⟨_, rfl, entryF_K (Kd.any HOb.out.K), fun _ => HOb.out, bThen HB23.out U6.out⟩
      · go_simp
        obtain ⟨y3, hy⟩ : ∃ y, y = y2.alloc (.cells (madeCells #[.bool false] n) 4) := ⟨_, rfl⟩
        rw [← hy]
        have hb : Below y2.heap.size y2 y3 := by rw [hy]; exact bAlloc (Below.refl _ _) _
        have U3 := hid (bThen U2.out hb)
        have z3 : y2.heap.size ≤ y3.heap.size := hb.size
        have O3 := hid (O2.out.below hb)
        have F3 := hid (Kd.below F2.out hb)
        have hz : y3.heap[y2.heap.size]? = some (.cells (madeCells #[.bool false] n) 4 (0, 0)) := by rw [hy]; exact heap_at rfl
        have B3 := hid (show Kd.bool.slice.K y3 (fun j => y2.heap.size ≤ j ∧ j < y3.heap.size) (List.replicate n false) [.slice (some ⟨y2.heap.size, 0, none⟩) n n] from K_of_block n n (by simp) hz ⟨Nat.le_refl _, (Array.getElem?_eq_some_iff.1 hz).1⟩ (cells_rep rfl n) (Nat.le_refl _) (by have := HJ0.out.2; simp; omega))
        skip
        skip
        clear hz hb hy
        refine hK.out _ _ (HS.out _ U3.out) (fun hHeld => ?_)
        clear hK K
        (try simp only [Act.put, List.setIfInBounds_toArray, List.set_cons_zero, List.set_cons_succ])
        refine anyH_one 8 rfl (by kernel_rfl) (fun K hK => ?_)
        go_simp
        obtain ⟨y4, hy⟩ : ∃ y, y = y3.alloc (.cells (madeCells #[.int .i64 0] n) 3) := ⟨_, rfl⟩
        rw [← hy]
        have hb : Below y3.heap.size y3 y4 := by rw [hy]; exact bAlloc (Below.refl _ _) _
        have U4 := hid (bThen U3.out hb)
        have z4 : y3.heap.size ≤ y4.heap.size := hb.size
        have O4 := hid (O3.out.below hb)
        have F4 := hid (Kd.below F3.out hb)
        have B4 := hid (Kd.below B3.out hb)
        have hz : y4.heap[y3.heap.size]? = some (.cells (madeCells #[.int .i64 0] n) 3 (0, 0)) := by rw [hy]; exact heap_at rfl
        have M4 := hid (show I64.slice.K y4 (fun j => y3.heap.size ≤ j ∧ j < y4.heap.size) (List.replicate n 0) [.slice (some ⟨y3.heap.size, 0, none⟩) n n] from K_of_block n n (by simp) hz ⟨Nat.le_refl _, (Array.getElem?_eq_some_iff.1 hz).1⟩ (cells_rep rfl n) (Nat.le_refl _) (by have := HJ0.out.2; simp; omega))
        have Q4 := hid hz
        have hM9 := (Array.getElem?_eq_some_iff.1 hz).1
        clear hz hb hy
        refine hK.out _ _ (HS.out _ U4.out) (fun hHeld => ?_)
        clear hK K
        (try simp only [Act.put, List.setIfInBounds_toArray, List.set_cons_zero, List.set_cons_succ])
        refine anyH_take 11 (v := ?_) rfl (by kernel_rfl) (by kernel_rfl) (by kernel_rfl) (fun _ _ _ h => h) (by rfl) hHeld ?_ ?_
        rotate_left
        · (intro w hSw; (try dsimp only at hSw); go_split_ands; go_simp; try with_reducible rfl)
        (try simp only [Act.put, List.setIfInBounds_toArray, List.set_cons_zero, List.set_cons_succ])
        refine anyH_one 12 rfl (by kernel_rfl) (fun K hK => ?_)
        go_simp
        obtain ⟨y5, hy⟩ : ∃ y, y = y4.alloc (.cells #[.int .i64 J0.id, .int .i64 0, .int .i64 1, .slice F n f, .slice (some ⟨y3.heap.size, 0, none⟩) n n, .slice (some ⟨y2.heap.size, 0, none⟩) n n] 45) := ⟨_, rfl⟩
        rw [← hy]
        have hb : Below y4.heap.size y4 y5 := by rw [hy]; exact bAlloc (Below.refl _ _) _
        have U5 := hid (bThen U4.out hb)
        have z5 : y4.heap.size ≤ y5.heap.size := hb.size
        have O5 := hid (O4.out.below hb)
        have F5 := hid (Kd.below F4.out hb)
        have B5 := hid (Kd.below B4.out hb)
        have M5 := hid (Kd.below M4.out hb)
        have Q5 := hid ((hb.block _ (Array.getElem?_eq_some_iff.1 Q4.out).1).trans Q4.out)
        have R5 := hid (show y5.heap[y4.heap.size]? = some (.cells #[.int .i64 J0.id, .int .i64 0, .int .i64 1, .slice F n f, .slice (some ⟨y3.heap.size, 0, none⟩) n n, .slice (some ⟨y2.heap.size, 0, none⟩) n n] 45 (0, 0)) by rw [hy]; exact heap_at rfl)
        clear hb hy
        refine hK.out _ _ (HS.out _ U5.out) (fun hHeld => ?_)
        clear hK K
        (try simp only [Act.put, List.setIfInBounds_toArray, List.set_cons_zero, List.set_cons_succ])
        refine anyH_one 13 rfl (by kernel_rfl) (fun K hK => ?_)
        have he := entry_of (w := y5) (S := fun j => y0.heap.size ≤ j ∧ some j ≠ (Value.slice Ao no co).ownBlock) (acceptE J0) (A := F) (a := f) (B := some ⟨y3.heap.size, 0, none⟩) (b := n) (D := some ⟨y2.heap.size, 0, none⟩) (d := n) (by show Kd.str.slice.K _ _ J0.needs [.slice F J0.needs.length f]; rw [← HN.out]; exact (Kd.str.slice.mono (S' := fun j => y0.heap.size ≤ j ∧ some j ≠ (Value.slice Ao no co).ownBlock) (fun j h _ => ⟨by omega, fun e => by have := HRO.out j e.symm; omega⟩) F5.out)) (by show I64.slice.K _ _ (List.replicate J0.needs.length 0) [.slice _ (List.replicate J0.needs.length (0 : Int)).length n]; rw [List.length_replicate, ← HN.out]; exact (I64.slice.mono (S' := fun j => y0.heap.size ≤ j ∧ some j ≠ (Value.slice Ao no co).ownBlock) (fun j h _ => ⟨by omega, fun e => by have := HRO.out j e.symm; omega⟩) M5.out)) (by show Kd.bool.slice.K _ _ (List.replicate J0.needs.length false) [.slice _ (List.replicate J0.needs.length false).length n]; rw [List.length_replicate, ← HN.out]; exact (Kd.bool.slice.mono (S' := fun j => y0.heap.size ≤ j ∧ some j ≠ (Value.slice Ao no co).ownBlock) (fun j h _ => ⟨by omega, fun e => by have := HRO.out j e.symm; omega⟩) B5.out))
        rw [show (acceptE J0).needs.length = n from HN.out.symm, show (acceptE J0).bound.length = n from (List.length_replicate).trans HN.out.symm, show (acceptE J0).done.length = n from (List.length_replicate).trans HN.out.symm] at he
        have heB : BoundFree y5 (fun j => y0.heap.size ≤ j ∧ some j ≠ (Value.slice Ao no co).ownBlock) (acceptE J0) [.int .i64 J0.id, .int .i64 0, .int .i64 1, .slice F n f, .slice (some ⟨y3.heap.size, 0, none⟩) n n, .slice (some ⟨y2.heap.size, 0, none⟩) n n] := ⟨some ⟨y3.heap.size, 0, none⟩, n, by rw [show (acceptE J0).bound.length = n from (List.length_replicate).trans HN.out.symm]; rfl, .inr ⟨y3.heap.size, _, rfl, ⟨by omega, fun e => by have := HRO.out _ e.symm; omega⟩, Q5.out, by rw [show (acceptE J0).bound.length = n from (List.length_replicate).trans HN.out.symm]; exact HMS.out⟩⟩
        have heF := (show Kd.entryF.K _ _ (acceptE J0) [.int .i64 J0.id, .int .i64 0, .int .i64 1, .slice F n f, .slice (some ⟨y3.heap.size, 0, none⟩) n n, .slice (some ⟨y2.heap.size, 0, none⟩) n n] from And.intro he heB)
        have HR := hid (show Kd.entryF.slice.K y5 (fun j => y0.heap.size ≤ j ∧ some j ≠ (Value.slice Ao no co).ownBlock) [acceptE J0] [.slice (some ⟨y4.heap.size, 0, none⟩) 1 1] from K_of_block (d := Kd.entryF) 1 1 rfl R5.out ⟨by omega, fun e => by have := HRO.out _ e.symm; omega⟩ ⟨_, [], by simp [acceptE], heF, rfl⟩ (Nat.le_refl _) (show 1 ≤ 140737488355328 by decide))
        refine appendsG_step Kd.entryF y0.heap.size rfl _ _ 29 45 _ 96 rfl Tryz.underlying29 Tryz.infoEntry rfl (by decide) (by decide) (.slice Ao no co) b [acceptE J0] (some ⟨y4.heap.size, 0, none⟩) 1 1 (fun k => y0.heap.size ≤ k) (fun j => y0.heap.size ≤ j ∧ some j ≠ (Value.slice Ao no co).ownBlock) (fun j => y0.heap.size ≤ j ∧ some j ≠ (Value.slice Ao no co).ownBlock) rfl rfl rfl (K_row HR.out).1 (fun _ _ h => h) (fun _ h _ => h) O5.out (by omega) (by have := HL.out; omega) ?_
        intro vb y6 hOb hgb _
        have HOb := hid ((hOb.move (T' := fun k => w.heap.size ≤ k) (fun _ _ _ => rfl) (fun k h _ => Nat.le_trans (Nat.le_trans HB23.out.size U0.out.size) h)).lower (Nat.le_trans HB23.out.size U0.out.size))
        have U6 := hid (U5.out.trans ⟨hgb.os, hgb.tape, hgb.output, hgb.size, fun k hk => hgb.block k (Nat.lt_of_lt_of_le hk U5.out.size) (fun e => by have h1 := HRO.out k e.symm; have := U0.out.size; omega)⟩)
        clear he heB heF hOb hgb
        refine hK.out _ _ (HS.out _ U6.out) (fun hHeld => ?_)
        clear hK K
        (try simp only [Act.put, List.setIfInBounds_toArray, List.set_cons_zero, List.set_cons_succ])
        refine anyH_take 14 (v := ?_) rfl (by kernel_rfl) (by kernel_rfl) (by kernel_rfl) (fun _ _ _ h => h) (by rfl) hHeld ?_ ?_
        rotate_left
        · (intro w hSw; (try dsimp only at hSw); go_split_ands; go_simp; try with_reducible rfl)
        (try simp only [Act.put, List.setIfInBounds_toArray, List.set_cons_zero, List.set_cons_succ])
        refine anyH_take 15 (v := ?_) rfl (by kernel_rfl) (by kernel_rfl) (by kernel_rfl) (fun _ _ _ h => h) (by rfl) hHeld ?_ ?_
        rotate_left
        · (intro w hSw; (try dsimp only at hSw); go_split_ands; go_simp; try with_reducible rfl)
        (try simp only [Act.put, List.setIfInBounds_toArray, List.set_cons_zero, List.set_cons_succ])
        refine wpAnyH_done (by kernel_rfl) ?_ _
        go_wp2
        go_ret2
        rw [HTR.out, HAC.out]
        exact ⟨_, rfl, entryF_K (Kd.any HOb.out.K), fun _ => HOb.out, bThen HB23.out U6.out⟩
    · go_simp
      obtain ⟨y2, hy⟩ : ∃ y, y = y1.alloc (.cells (madeCells #[.int .i64 0] n) 3) := ⟨_, rfl⟩
      rw [← hy]
      have hb : Below y1.heap.size y1 y2 := by rw [hy]; exact bAlloc (Below.refl _ _) _
      have U2 := hid (bThen U1.out hb)
      have z2 : y1.heap.size ≤ y2.heap.size := hb.size
      have O2 := hid (O1.out.below hb)
      have hz : y2.heap[y1.heap.size]? = some (.cells (madeCells #[.int .i64 0] n) 3 (0, 0)) := by rw [hy]; exact heap_at rfl
      have M2 := hid (show I64.slice.K y2 (fun j => y1.heap.size ≤ j ∧ j < y2.heap.size) (List.replicate n 0) [.slice (some ⟨y1.heap.size, 0, none⟩) n n] from K_of_block n n (by simp) hz ⟨Nat.le_refl _, (Array.getElem?_eq_some_iff.1 hz).1⟩ (cells_rep rfl n) (Nat.le_refl _) (by have := HJ0.out.2; simp; omega))
      have Q2 := hid hz
      have hM9 := (Array.getElem?_eq_some_iff.1 hz).1
      clear hz hb hy
      refine hK.out _ _ (HS.out _ U2.out) (fun hHeld => ?_)
      clear hK K
      (try simp only [Act.put, List.setIfInBounds_toArray, List.set_cons_zero, List.set_cons_succ])
      refine anyH_two 6 10 rfl rfl (by kernel_rfl) (fun K hK => ?_) (fun K hK => ?_)
      · go_simp
        have hsc := sclone_calls J0.needs JA jc y2 (by rw [← HN.out]; exact Kd.below HJN3.out U2.out) (by rw [← HN.out]; have := HJ0.out.2; omega)
        rw [← HN.out] at hsc
        refine hsc.mono ?_
        clear hsc
        rintro e y3 ⟨F, f, rfl, hK, hb⟩
        have U3 := hid (bThen U2.out hb)
        have z3 : y2.heap.size ≤ y3.heap.size := hb.size
        have O3 := hid (O2.out.below hb)
        have M3 := hid (Kd.below M2.out hb)
        have Q3 := hid ((hb.block _ (Array.getElem?_eq_some_iff.1 Q2.out).1).trans Q2.out)
        have F3 := hid (Kd.str.slice.mono (S' := fun j => y2.heap.size ≤ j ∧ j < y3.heap.size) (fun j h hl => ⟨h, hl⟩) hK)
        clear hK hb
        go_simp
        refine hK.out _ _ (HS.out _ U3.out) (fun hHeld => ?_)
        clear hK K
        (try simp only [Act.put, List.setIfInBounds_toArray, List.set_cons_zero, List.set_cons_succ])
        refine anyH_one 10 rfl (by kernel_rfl) (fun K hK => ?_)
        go_simp
        obtain ⟨y4, hy⟩ : ∃ y, y = y3.alloc (.cells (madeCells #[.bool false] n) 4) := ⟨_, rfl⟩
        rw [← hy]
        have hb : Below y3.heap.size y3 y4 := by rw [hy]; exact bAlloc (Below.refl _ _) _
        have U4 := hid (bThen U3.out hb)
        have z4 : y3.heap.size ≤ y4.heap.size := hb.size
        have O4 := hid (O3.out.below hb)
        have M4 := hid (Kd.below M3.out hb)
        have Q4 := hid ((hb.block _ (Array.getElem?_eq_some_iff.1 Q3.out).1).trans Q3.out)
        have F4 := hid (Kd.below F3.out hb)
        have hz : y4.heap[y3.heap.size]? = some (.cells (madeCells #[.bool false] n) 4 (0, 0)) := by rw [hy]; exact heap_at rfl
        have B4 := hid (show Kd.bool.slice.K y4 (fun j => y3.heap.size ≤ j ∧ j < y4.heap.size) (List.replicate n false) [.slice (some ⟨y3.heap.size, 0, none⟩) n n] from K_of_block n n (by simp) hz ⟨Nat.le_refl _, (Array.getElem?_eq_some_iff.1 hz).1⟩ (cells_rep rfl n) (Nat.le_refl _) (by have := HJ0.out.2; simp; omega))
        skip
        skip
        clear hz hb hy
        refine hK.out _ _ (HS.out _ U4.out) (fun hHeld => ?_)
        clear hK K
        (try simp only [Act.put, List.setIfInBounds_toArray, List.set_cons_zero, List.set_cons_succ])
        refine anyH_take 11 (v := ?_) rfl (by kernel_rfl) (by kernel_rfl) (by kernel_rfl) (fun _ _ _ h => h) (by rfl) hHeld ?_ ?_
        rotate_left
        · (intro w hSw; (try dsimp only at hSw); go_split_ands; go_simp; try with_reducible rfl)
        (try simp only [Act.put, List.setIfInBounds_toArray, List.set_cons_zero, List.set_cons_succ])
        refine anyH_one 12 rfl (by kernel_rfl) (fun K hK => ?_)
        go_simp
        obtain ⟨y5, hy⟩ : ∃ y, y = y4.alloc (.cells #[.int .i64 J0.id, .int .i64 0, .int .i64 1, .slice F n f, .slice (some ⟨y1.heap.size, 0, none⟩) n n, .slice (some ⟨y3.heap.size, 0, none⟩) n n] 45) := ⟨_, rfl⟩
        rw [← hy]
        have hb : Below y4.heap.size y4 y5 := by rw [hy]; exact bAlloc (Below.refl _ _) _
        have U5 := hid (bThen U4.out hb)
        have z5 : y4.heap.size ≤ y5.heap.size := hb.size
        have O5 := hid (O4.out.below hb)
        have M5 := hid (Kd.below M4.out hb)
        have Q5 := hid ((hb.block _ (Array.getElem?_eq_some_iff.1 Q4.out).1).trans Q4.out)
        have F5 := hid (Kd.below F4.out hb)
        have B5 := hid (Kd.below B4.out hb)
        have R5 := hid (show y5.heap[y4.heap.size]? = some (.cells #[.int .i64 J0.id, .int .i64 0, .int .i64 1, .slice F n f, .slice (some ⟨y1.heap.size, 0, none⟩) n n, .slice (some ⟨y3.heap.size, 0, none⟩) n n] 45 (0, 0)) by rw [hy]; exact heap_at rfl)
        clear hb hy
        refine hK.out _ _ (HS.out _ U5.out) (fun hHeld => ?_)
        clear hK K
        (try simp only [Act.put, List.setIfInBounds_toArray, List.set_cons_zero, List.set_cons_succ])
        refine anyH_one 13 rfl (by kernel_rfl) (fun K hK => ?_)
        have he := entry_of (w := y5) (S := fun j => y0.heap.size ≤ j ∧ some j ≠ (Value.slice Ao no co).ownBlock) (acceptE J0) (A := F) (a := f) (B := some ⟨y1.heap.size, 0, none⟩) (b := n) (D := some ⟨y3.heap.size, 0, none⟩) (d := n) (by show Kd.str.slice.K _ _ J0.needs [.slice F J0.needs.length f]; rw [← HN.out]; exact (Kd.str.slice.mono (S' := fun j => y0.heap.size ≤ j ∧ some j ≠ (Value.slice Ao no co).ownBlock) (fun j h _ => ⟨by omega, fun e => by have := HRO.out j e.symm; omega⟩) F5.out)) (by show I64.slice.K _ _ (List.replicate J0.needs.length 0) [.slice _ (List.replicate J0.needs.length (0 : Int)).length n]; rw [List.length_replicate, ← HN.out]; exact (I64.slice.mono (S' := fun j => y0.heap.size ≤ j ∧ some j ≠ (Value.slice Ao no co).ownBlock) (fun j h _ => ⟨by omega, fun e => by have := HRO.out j e.symm; omega⟩) M5.out)) (by show Kd.bool.slice.K _ _ (List.replicate J0.needs.length false) [.slice _ (List.replicate J0.needs.length false).length n]; rw [List.length_replicate, ← HN.out]; exact (Kd.bool.slice.mono (S' := fun j => y0.heap.size ≤ j ∧ some j ≠ (Value.slice Ao no co).ownBlock) (fun j h _ => ⟨by omega, fun e => by have := HRO.out j e.symm; omega⟩) B5.out))
        rw [show (acceptE J0).needs.length = n from HN.out.symm, show (acceptE J0).bound.length = n from (List.length_replicate).trans HN.out.symm, show (acceptE J0).done.length = n from (List.length_replicate).trans HN.out.symm] at he
        have heB : BoundFree y5 (fun j => y0.heap.size ≤ j ∧ some j ≠ (Value.slice Ao no co).ownBlock) (acceptE J0) [.int .i64 J0.id, .int .i64 0, .int .i64 1, .slice F n f, .slice (some ⟨y1.heap.size, 0, none⟩) n n, .slice (some ⟨y3.heap.size, 0, none⟩) n n] := ⟨some ⟨y1.heap.size, 0, none⟩, n, by rw [show (acceptE J0).bound.length = n from (List.length_replicate).trans HN.out.symm]; rfl, .inr ⟨y1.heap.size, _, rfl, ⟨by omega, fun e => by have := HRO.out _ e.symm; omega⟩, Q5.out, by rw [show (acceptE J0).bound.length = n from (List.length_replicate).trans HN.out.symm]; exact HMS.out⟩⟩
        have heF := (show Kd.entryF.K _ _ (acceptE J0) [.int .i64 J0.id, .int .i64 0, .int .i64 1, .slice F n f, .slice (some ⟨y1.heap.size, 0, none⟩) n n, .slice (some ⟨y3.heap.size, 0, none⟩) n n] from And.intro he heB)
        have HR := hid (show Kd.entryF.slice.K y5 (fun j => y0.heap.size ≤ j ∧ some j ≠ (Value.slice Ao no co).ownBlock) [acceptE J0] [.slice (some ⟨y4.heap.size, 0, none⟩) 1 1] from K_of_block (d := Kd.entryF) 1 1 rfl R5.out ⟨by omega, fun e => by have := HRO.out _ e.symm; omega⟩ ⟨_, [], by simp [acceptE], heF, rfl⟩ (Nat.le_refl _) (show 1 ≤ 140737488355328 by decide))
        refine appendsG_step Kd.entryF y0.heap.size rfl _ _ 29 45 _ 96 rfl Tryz.underlying29 Tryz.infoEntry rfl (by decide) (by decide) (.slice Ao no co) b [acceptE J0] (some ⟨y4.heap.size, 0, none⟩) 1 1 (fun k => y0.heap.size ≤ k) (fun j => y0.heap.size ≤ j ∧ some j ≠ (Value.slice Ao no co).ownBlock) (fun j => y0.heap.size ≤ j ∧ some j ≠ (Value.slice Ao no co).ownBlock) rfl rfl rfl (K_row HR.out).1 (fun _ _ h => h) (fun _ h _ => h) O5.out (by omega) (by have := HL.out; omega) ?_
        intro vb y6 hOb hgb _
        have HOb := hid ((hOb.move (T' := fun k => w.heap.size ≤ k) (fun _ _ _ => rfl) (fun k h _ => Nat.le_trans (Nat.le_trans HB23.out.size U0.out.size) h)).lower (Nat.le_trans HB23.out.size U0.out.size))
        have U6 := hid (U5.out.trans ⟨hgb.os, hgb.tape, hgb.output, hgb.size, fun k hk => hgb.block k (Nat.lt_of_lt_of_le hk U5.out.size) (fun e => by have h1 := HRO.out k e.symm; have := U0.out.size; omega)⟩)
        clear he heB heF hOb hgb
        refine hK.out _ _ (HS.out _ U6.out) (fun hHeld => ?_)
        clear hK K
        (try simp only [Act.put, List.setIfInBounds_toArray, List.set_cons_zero, List.set_cons_succ])
        refine anyH_take 14 (v := ?_) rfl (by kernel_rfl) (by kernel_rfl) (by kernel_rfl) (fun _ _ _ h => h) (by rfl) hHeld ?_ ?_
        rotate_left
        · (intro w hSw; (try dsimp only at hSw); go_split_ands; go_simp; try with_reducible rfl)
        (try simp only [Act.put, List.setIfInBounds_toArray, List.set_cons_zero, List.set_cons_succ])
        refine anyH_take 15 (v := ?_) rfl (by kernel_rfl) (by kernel_rfl) (by kernel_rfl) (fun _ _ _ h => h) (by rfl) hHeld ?_ ?_
        rotate_left
        · (intro w hSw; (try dsimp only at hSw); go_split_ands; go_simp; try with_reducible rfl)
        (try simp only [Act.put, List.setIfInBounds_toArray, List.set_cons_zero, List.set_cons_succ])
        refine wpAnyH_done (by kernel_rfl) ?_ _
        go_wp2
        go_ret2
        rw [HTR.out, HAC.out]
        exact ⟨_, rfl, entryF_K (Kd.any HOb.out.K), fun _ => HOb.out, bThen HB23.out U6.out⟩
      · go_simp
        obtain ⟨y3, hy⟩ : ∃ y, y = y2.alloc (.cells (madeCells #[.bool false] n) 4) := ⟨_, rfl⟩
        rw [← hy]
        have hb : Below y2.heap.size y2 y3 := by rw [hy]; exact bAlloc (Below.refl _ _) _
        have U3 := hid (bThen U2.out hb)
        have z3 : y2.heap.size ≤ y3.heap.size := hb.size
        have O3 := hid (O2.out.below hb)
        have M3 := hid (Kd.below M2.out hb)
        have Q3 := hid ((hb.block _ (Array.getElem?_eq_some_iff.1 Q2.out).1).trans Q2.out)
        have hz : y3.heap[y2.heap.size]? = some (.cells (madeCells #[.bool false] n) 4 (0, 0)) := by rw [hy]; exact heap_at rfl
        have B3 := hid (show Kd.bool.slice.K y3 (fun j => y2.heap.size ≤ j ∧ j < y3.heap.size) (List.replicate n false) [.slice (some ⟨y2.heap.size, 0, none⟩) n n] from K_of_block n n (by simp) hz ⟨Nat.le_refl _, (Array.getElem?_eq_some_iff.1 hz).1⟩ (cells_rep rfl n) (Nat.le_refl _) (by have := HJ0.out.2; simp; omega))
        skip
        skip
        clear hz hb hy
        refine hK.out _ _ (HS.out _ U3.out) (fun hHeld => ?_)
        clear hK K
        (try simp only [Act.put, List.setIfInBounds_toArray, List.set_cons_zero, List.set_cons_succ])
        refine anyH_one 6 rfl (by kernel_rfl) (fun K hK => ?_)
        go_simp
        have hsc := sclone_calls J0.needs JA jc y3 (by rw [← HN.out]; exact Kd.below HJN3.out U3.out) (by rw [← HN.out]; have := HJ0.out.2; omega)
        rw [← HN.out] at hsc
        refine hsc.mono ?_
        clear hsc
        rintro e y4 ⟨F, f, rfl, hK, hb⟩
        have U4 := hid (bThen U3.out hb)
        have z4 : y3.heap.size ≤ y4.heap.size := hb.size
        have O4 := hid (O3.out.below hb)
        have M4 := hid (Kd.below M3.out hb)
        have Q4 := hid ((hb.block _ (Array.getElem?_eq_some_iff.1 Q3.out).1).trans Q3.out)
        have B4 := hid (Kd.below B3.out hb)
        have F4 := hid (Kd.str.slice.mono (S' := fun j => y3.heap.size ≤ j ∧ j < y4.heap.size) (fun j h hl => ⟨h, hl⟩) hK)
        clear hK hb
        go_simp
        refine hK.out _ _ (HS.out _ U4.out) (fun hHeld => ?_)
        clear hK K
        (try simp only [Act.put, List.setIfInBounds_toArray, List.set_cons_zero, List.set_cons_succ])
        refine anyH_take 11 (v := ?_) rfl (by kernel_rfl) (by kernel_rfl) (by kernel_rfl) (fun _ _ _ h => h) (by rfl) hHeld ?_ ?_
        rotate_left
        · (intro w hSw; (try dsimp only at hSw); go_split_ands; go_simp; try with_reducible rfl)
        (try simp only [Act.put, List.setIfInBounds_toArray, List.set_cons_zero, List.set_cons_succ])
        refine anyH_one 12 rfl (by kernel_rfl) (fun K hK => ?_)
        go_simp
        obtain ⟨y5, hy⟩ : ∃ y, y = y4.alloc (.cells #[.int .i64 J0.id, .int .i64 0, .int .i64 1, .slice F n f, .slice (some ⟨y1.heap.size, 0, none⟩) n n, .slice (some ⟨y2.heap.size, 0, none⟩) n n] 45) := ⟨_, rfl⟩
        rw [← hy]
        have hb : Below y4.heap.size y4 y5 := by rw [hy]; exact bAlloc (Below.refl _ _) _
        have U5 := hid (bThen U4.out hb)
        have z5 : y4.heap.size ≤ y5.heap.size := hb.size
        have O5 := hid (O4.out.below hb)
        have M5 := hid (Kd.below M4.out hb)
        have Q5 := hid ((hb.block _ (Array.getElem?_eq_some_iff.1 Q4.out).1).trans Q4.out)
        have B5 := hid (Kd.below B4.out hb)
        have F5 := hid (Kd.below F4.out hb)
        have R5 := hid (show y5.heap[y4.heap.size]? = some (.cells #[.int .i64 J0.id, .int .i64 0, .int .i64 1, .slice F n f, .slice (some ⟨y1.heap.size, 0, none⟩) n n, .slice (some ⟨y2.heap.size, 0, none⟩) n n] 45 (0, 0)) by rw [hy]; exact heap_at rfl)
        clear hb hy
        refine hK.out _ _ (HS.out _ U5.out) (fun hHeld => ?_)
        clear hK K
        (try simp only [Act.put, List.setIfInBounds_toArray, List.set_cons_zero, List.set_cons_succ])
        refine anyH_one 13 rfl (by kernel_rfl) (fun K hK => ?_)
        have he := entry_of (w := y5) (S := fun j => y0.heap.size ≤ j ∧ some j ≠ (Value.slice Ao no co).ownBlock) (acceptE J0) (A := F) (a := f) (B := some ⟨y1.heap.size, 0, none⟩) (b := n) (D := some ⟨y2.heap.size, 0, none⟩) (d := n) (by show Kd.str.slice.K _ _ J0.needs [.slice F J0.needs.length f]; rw [← HN.out]; exact (Kd.str.slice.mono (S' := fun j => y0.heap.size ≤ j ∧ some j ≠ (Value.slice Ao no co).ownBlock) (fun j h _ => ⟨by omega, fun e => by have := HRO.out j e.symm; omega⟩) F5.out)) (by show I64.slice.K _ _ (List.replicate J0.needs.length 0) [.slice _ (List.replicate J0.needs.length (0 : Int)).length n]; rw [List.length_replicate, ← HN.out]; exact (I64.slice.mono (S' := fun j => y0.heap.size ≤ j ∧ some j ≠ (Value.slice Ao no co).ownBlock) (fun j h _ => ⟨by omega, fun e => by have := HRO.out j e.symm; omega⟩) M5.out)) (by show Kd.bool.slice.K _ _ (List.replicate J0.needs.length false) [.slice _ (List.replicate J0.needs.length false).length n]; rw [List.length_replicate, ← HN.out]; exact (Kd.bool.slice.mono (S' := fun j => y0.heap.size ≤ j ∧ some j ≠ (Value.slice Ao no co).ownBlock) (fun j h _ => ⟨by omega, fun e => by have := HRO.out j e.symm; omega⟩) B5.out))
        rw [show (acceptE J0).needs.length = n from HN.out.symm, show (acceptE J0).bound.length = n from (List.length_replicate).trans HN.out.symm, show (acceptE J0).done.length = n from (List.length_replicate).trans HN.out.symm] at he
        have heB : BoundFree y5 (fun j => y0.heap.size ≤ j ∧ some j ≠ (Value.slice Ao no co).ownBlock) (acceptE J0) [.int .i64 J0.id, .int .i64 0, .int .i64 1, .slice F n f, .slice (some ⟨y1.heap.size, 0, none⟩) n n, .slice (some ⟨y2.heap.size, 0, none⟩) n n] := ⟨some ⟨y1.heap.size, 0, none⟩, n, by rw [show (acceptE J0).bound.length = n from (List.length_replicate).trans HN.out.symm]; rfl, .inr ⟨y1.heap.size, _, rfl, ⟨by omega, fun e => by have := HRO.out _ e.symm; omega⟩, Q5.out, by rw [show (acceptE J0).bound.length = n from (List.length_replicate).trans HN.out.symm]; exact HMS.out⟩⟩
        have heF := (show Kd.entryF.K _ _ (acceptE J0) [.int .i64 J0.id, .int .i64 0, .int .i64 1, .slice F n f, .slice (some ⟨y1.heap.size, 0, none⟩) n n, .slice (some ⟨y2.heap.size, 0, none⟩) n n] from And.intro he heB)
        have HR := hid (show Kd.entryF.slice.K y5 (fun j => y0.heap.size ≤ j ∧ some j ≠ (Value.slice Ao no co).ownBlock) [acceptE J0] [.slice (some ⟨y4.heap.size, 0, none⟩) 1 1] from K_of_block (d := Kd.entryF) 1 1 rfl R5.out ⟨by omega, fun e => by have := HRO.out _ e.symm; omega⟩ ⟨_, [], by simp [acceptE], heF, rfl⟩ (Nat.le_refl _) (show 1 ≤ 140737488355328 by decide))
        refine appendsG_step Kd.entryF y0.heap.size rfl _ _ 29 45 _ 96 rfl Tryz.underlying29 Tryz.infoEntry rfl (by decide) (by decide) (.slice Ao no co) b [acceptE J0] (some ⟨y4.heap.size, 0, none⟩) 1 1 (fun k => y0.heap.size ≤ k) (fun j => y0.heap.size ≤ j ∧ some j ≠ (Value.slice Ao no co).ownBlock) (fun j => y0.heap.size ≤ j ∧ some j ≠ (Value.slice Ao no co).ownBlock) rfl rfl rfl (K_row HR.out).1 (fun _ _ h => h) (fun _ h _ => h) O5.out (by omega) (by have := HL.out; omega) ?_
        intro vb y6 hOb hgb _
        have HOb := hid ((hOb.move (T' := fun k => w.heap.size ≤ k) (fun _ _ _ => rfl) (fun k h _ => Nat.le_trans (Nat.le_trans HB23.out.size U0.out.size) h)).lower (Nat.le_trans HB23.out.size U0.out.size))
        have U6 := hid (U5.out.trans ⟨hgb.os, hgb.tape, hgb.output, hgb.size, fun k hk => hgb.block k (Nat.lt_of_lt_of_le hk U5.out.size) (fun e => by have h1 := HRO.out k e.symm; have := U0.out.size; omega)⟩)
        clear he heB heF hOb hgb
        refine hK.out _ _ (HS.out _ U6.out) (fun hHeld => ?_)
        clear hK K
        (try simp only [Act.put, List.setIfInBounds_toArray, List.set_cons_zero, List.set_cons_succ])
        refine anyH_take 14 (v := ?_) rfl (by kernel_rfl) (by kernel_rfl) (by kernel_rfl) (fun _ _ _ h => h) (by rfl) hHeld ?_ ?_
        rotate_left
        · (intro w hSw; (try dsimp only at hSw); go_split_ands; go_simp; try with_reducible rfl)
        (try simp only [Act.put, List.setIfInBounds_toArray, List.set_cons_zero, List.set_cons_succ])
        refine anyH_take 15 (v := ?_) rfl (by kernel_rfl) (by kernel_rfl) (by kernel_rfl) (fun _ _ _ h => h) (by rfl) hHeld ?_ ?_
        rotate_left
        · (intro w hSw; (try dsimp only at hSw); go_split_ands; go_simp; try with_reducible rfl)
        (try simp only [Act.put, List.setIfInBounds_toArray, List.set_cons_zero, List.set_cons_succ])
        refine wpAnyH_done (by kernel_rfl) ?_ _
        go_wp2
        go_ret2
        rw [HTR.out, HAC.out]
        exact ⟨_, rfl, entryF_K (Kd.any HOb.out.K), fun _ => HOb.out, bThen HB23.out U6.out⟩
    · go_simp
      obtain ⟨y2, hy⟩ : ∃ y, y = y1.alloc (.cells (madeCells #[.bool false] n) 4) := ⟨_, rfl⟩
      rw [← hy]
      have hb : Below y1.heap.size y1 y2 := by rw [hy]; exact bAlloc (Below.refl _ _) _
      have U2 := hid (bThen U1.out hb)
      have z2 : y1.heap.size ≤ y2.heap.size := hb.size
      have O2 := hid (O1.out.below hb)
      have hz : y2.heap[y1.heap.size]? = some (.cells (madeCells #[.bool false] n) 4 (0, 0)) := by rw [hy]; exact heap_at rfl
      have B2 := hid (show Kd.bool.slice.K y2 (fun j => y1.heap.size ≤ j ∧ j < y2.heap.size) (List.replicate n false) [.slice (some ⟨y1.heap.size, 0, none⟩) n n] from K_of_block n n (by simp) hz ⟨Nat.le_refl _, (Array.getElem?_eq_some_iff.1 hz).1⟩ (cells_rep rfl n) (Nat.le_refl _) (by have := HJ0.out.2; simp; omega))
      skip
      skip
      clear hz hb hy
      refine hK.out _ _ (HS.out _ U2.out) (fun hHeld => ?_)
      clear hK K
      (try simp only [Act.put, List.setIfInBounds_toArray, List.set_cons_zero, List.set_cons_succ])
      refine anyH_two 6 8 rfl rfl (by kernel_rfl) (fun K hK => ?_) (fun K hK => ?_)
      · go_simp
        have hsc := sclone_calls J0.needs JA jc y2 (by rw [← HN.out]; exact Kd.below HJN3.out U2.out) (by rw [← HN.out]; have := HJ0.out.2; omega)
        rw [← HN.out] at hsc
        refine hsc.mono ?_
        clear hsc
        rintro e y3 ⟨F, f, rfl, hK, hb⟩
        have U3 := hid (bThen U2.out hb)
        have z3 : y2.heap.size ≤ y3.heap.size := hb.size
        have O3 := hid (O2.out.below hb)
        have B3 := hid (Kd.below B2.out hb)
        have F3 := hid (Kd.str.slice.mono (S' := fun j => y2.heap.size ≤ j ∧ j < y3.heap.size) (fun j h hl => ⟨h, hl⟩) hK)
        clear hK hb
        go_simp
        refine hK.out _ _ (HS.out _ U3.out) (fun hHeld => ?_)
        clear hK K
        (try simp only [Act.put, List.setIfInBounds_toArray, List.set_cons_zero, List.set_cons_succ])
        refine anyH_one 8 rfl (by kernel_rfl) (fun K hK => ?_)
        go_simp
        obtain ⟨y4, hy⟩ : ∃ y, y = y3.alloc (.cells (madeCells #[.int .i64 0] n) 3) := ⟨_, rfl⟩
        rw [← hy]
        have hb : Below y3.heap.size y3 y4 := by rw [hy]; exact bAlloc (Below.refl _ _) _
        have U4 := hid (bThen U3.out hb)
        have z4 : y3.heap.size ≤ y4.heap.size := hb.size
        have O4 := hid (O3.out.below hb)
        have B4 := hid (Kd.below B3.out hb)
        have F4 := hid (Kd.below F3.out hb)
        have hz : y4.heap[y3.heap.size]? = some (.cells (madeCells #[.int .i64 0] n) 3 (0, 0)) := by rw [hy]; exact heap_at rfl
        have M4 := hid (show I64.slice.K y4 (fun j => y3.heap.size ≤ j ∧ j < y4.heap.size) (List.replicate n 0) [.slice (some ⟨y3.heap.size, 0, none⟩) n n] from K_of_block n n (by simp) hz ⟨Nat.le_refl _, (Array.getElem?_eq_some_iff.1 hz).1⟩ (cells_rep rfl n) (Nat.le_refl _) (by have := HJ0.out.2; simp; omega))
        have Q4 := hid hz
        have hM9 := (Array.getElem?_eq_some_iff.1 hz).1
        clear hz hb hy
        refine hK.out _ _ (HS.out _ U4.out) (fun hHeld => ?_)
        clear hK K
        (try simp only [Act.put, List.setIfInBounds_toArray, List.set_cons_zero, List.set_cons_succ])
        refine anyH_take 11 (v := ?_) rfl (by kernel_rfl) (by kernel_rfl) (by kernel_rfl) (fun _ _ _ h => h) (by rfl) hHeld ?_ ?_
        rotate_left
        · (intro w hSw; (try dsimp only at hSw); go_split_ands; go_simp; try with_reducible rfl)
        (try simp only [Act.put, List.setIfInBounds_toArray, List.set_cons_zero, List.set_cons_succ])
        refine anyH_one 12 rfl (by kernel_rfl) (fun K hK => ?_)
        go_simp
        obtain ⟨y5, hy⟩ : ∃ y, y = y4.alloc (.cells #[.int .i64 J0.id, .int .i64 0, .int .i64 1, .slice F n f, .slice (some ⟨y3.heap.size, 0, none⟩) n n, .slice (some ⟨y1.heap.size, 0, none⟩) n n] 45) := ⟨_, rfl⟩
        rw [← hy]
        have hb : Below y4.heap.size y4 y5 := by rw [hy]; exact bAlloc (Below.refl _ _) _
        have U5 := hid (bThen U4.out hb)
        have z5 : y4.heap.size ≤ y5.heap.size := hb.size
        have O5 := hid (O4.out.below hb)
        have B5 := hid (Kd.below B4.out hb)
        have F5 := hid (Kd.below F4.out hb)
        have M5 := hid (Kd.below M4.out hb)
        have Q5 := hid ((hb.block _ (Array.getElem?_eq_some_iff.1 Q4.out).1).trans Q4.out)
        have R5 := hid (show y5.heap[y4.heap.size]? = some (.cells #[.int .i64 J0.id, .int .i64 0, .int .i64 1, .slice F n f, .slice (some ⟨y3.heap.size, 0, none⟩) n n, .slice (some ⟨y1.heap.size, 0, none⟩) n n] 45 (0, 0)) by rw [hy]; exact heap_at rfl)
        clear hb hy
        refine hK.out _ _ (HS.out _ U5.out) (fun hHeld => ?_)
        clear hK K
        (try simp only [Act.put, List.setIfInBounds_toArray, List.set_cons_zero, List.set_cons_succ])
        refine anyH_one 13 rfl (by kernel_rfl) (fun K hK => ?_)
        have he := entry_of (w := y5) (S := fun j => y0.heap.size ≤ j ∧ some j ≠ (Value.slice Ao no co).ownBlock) (acceptE J0) (A := F) (a := f) (B := some ⟨y3.heap.size, 0, none⟩) (b := n) (D := some ⟨y1.heap.size, 0, none⟩) (d := n) (by show Kd.str.slice.K _ _ J0.needs [.slice F J0.needs.length f]; rw [← HN.out]; exact (Kd.str.slice.mono (S' := fun j => y0.heap.size ≤ j ∧ some j ≠ (Value.slice Ao no co).ownBlock) (fun j h _ => ⟨by omega, fun e => by have := HRO.out j e.symm; omega⟩) F5.out)) (by show I64.slice.K _ _ (List.replicate J0.needs.length 0) [.slice _ (List.replicate J0.needs.length (0 : Int)).length n]; rw [List.length_replicate, ← HN.out]; exact (I64.slice.mono (S' := fun j => y0.heap.size ≤ j ∧ some j ≠ (Value.slice Ao no co).ownBlock) (fun j h _ => ⟨by omega, fun e => by have := HRO.out j e.symm; omega⟩) M5.out)) (by show Kd.bool.slice.K _ _ (List.replicate J0.needs.length false) [.slice _ (List.replicate J0.needs.length false).length n]; rw [List.length_replicate, ← HN.out]; exact (Kd.bool.slice.mono (S' := fun j => y0.heap.size ≤ j ∧ some j ≠ (Value.slice Ao no co).ownBlock) (fun j h _ => ⟨by omega, fun e => by have := HRO.out j e.symm; omega⟩) B5.out))
        rw [show (acceptE J0).needs.length = n from HN.out.symm, show (acceptE J0).bound.length = n from (List.length_replicate).trans HN.out.symm, show (acceptE J0).done.length = n from (List.length_replicate).trans HN.out.symm] at he
        have heB : BoundFree y5 (fun j => y0.heap.size ≤ j ∧ some j ≠ (Value.slice Ao no co).ownBlock) (acceptE J0) [.int .i64 J0.id, .int .i64 0, .int .i64 1, .slice F n f, .slice (some ⟨y3.heap.size, 0, none⟩) n n, .slice (some ⟨y1.heap.size, 0, none⟩) n n] := ⟨some ⟨y3.heap.size, 0, none⟩, n, by rw [show (acceptE J0).bound.length = n from (List.length_replicate).trans HN.out.symm]; rfl, .inr ⟨y3.heap.size, _, rfl, ⟨by omega, fun e => by have := HRO.out _ e.symm; omega⟩, Q5.out, by rw [show (acceptE J0).bound.length = n from (List.length_replicate).trans HN.out.symm]; exact HMS.out⟩⟩
        have heF := (show Kd.entryF.K _ _ (acceptE J0) [.int .i64 J0.id, .int .i64 0, .int .i64 1, .slice F n f, .slice (some ⟨y3.heap.size, 0, none⟩) n n, .slice (some ⟨y1.heap.size, 0, none⟩) n n] from And.intro he heB)
        have HR := hid (show Kd.entryF.slice.K y5 (fun j => y0.heap.size ≤ j ∧ some j ≠ (Value.slice Ao no co).ownBlock) [acceptE J0] [.slice (some ⟨y4.heap.size, 0, none⟩) 1 1] from K_of_block (d := Kd.entryF) 1 1 rfl R5.out ⟨by omega, fun e => by have := HRO.out _ e.symm; omega⟩ ⟨_, [], by simp [acceptE], heF, rfl⟩ (Nat.le_refl _) (show 1 ≤ 140737488355328 by decide))
        refine appendsG_step Kd.entryF y0.heap.size rfl _ _ 29 45 _ 96 rfl Tryz.underlying29 Tryz.infoEntry rfl (by decide) (by decide) (.slice Ao no co) b [acceptE J0] (some ⟨y4.heap.size, 0, none⟩) 1 1 (fun k => y0.heap.size ≤ k) (fun j => y0.heap.size ≤ j ∧ some j ≠ (Value.slice Ao no co).ownBlock) (fun j => y0.heap.size ≤ j ∧ some j ≠ (Value.slice Ao no co).ownBlock) rfl rfl rfl (K_row HR.out).1 (fun _ _ h => h) (fun _ h _ => h) O5.out (by omega) (by have := HL.out; omega) ?_
        intro vb y6 hOb hgb _
        have HOb := hid ((hOb.move (T' := fun k => w.heap.size ≤ k) (fun _ _ _ => rfl) (fun k h _ => Nat.le_trans (Nat.le_trans HB23.out.size U0.out.size) h)).lower (Nat.le_trans HB23.out.size U0.out.size))
        have U6 := hid (U5.out.trans ⟨hgb.os, hgb.tape, hgb.output, hgb.size, fun k hk => hgb.block k (Nat.lt_of_lt_of_le hk U5.out.size) (fun e => by have h1 := HRO.out k e.symm; have := U0.out.size; omega)⟩)
        clear he heB heF hOb hgb
        refine hK.out _ _ (HS.out _ U6.out) (fun hHeld => ?_)
        clear hK K
        (try simp only [Act.put, List.setIfInBounds_toArray, List.set_cons_zero, List.set_cons_succ])
        refine anyH_take 14 (v := ?_) rfl (by kernel_rfl) (by kernel_rfl) (by kernel_rfl) (fun _ _ _ h => h) (by rfl) hHeld ?_ ?_
        rotate_left
        · (intro w hSw; (try dsimp only at hSw); go_split_ands; go_simp; try with_reducible rfl)
        (try simp only [Act.put, List.setIfInBounds_toArray, List.set_cons_zero, List.set_cons_succ])
        refine anyH_take 15 (v := ?_) rfl (by kernel_rfl) (by kernel_rfl) (by kernel_rfl) (fun _ _ _ h => h) (by rfl) hHeld ?_ ?_
        rotate_left
        · (intro w hSw; (try dsimp only at hSw); go_split_ands; go_simp; try with_reducible rfl)
        (try simp only [Act.put, List.setIfInBounds_toArray, List.set_cons_zero, List.set_cons_succ])
        refine wpAnyH_done (by kernel_rfl) ?_ _
        go_wp2
        go_ret2
        rw [HTR.out, HAC.out]
        exact ⟨_, rfl, entryF_K (Kd.any HOb.out.K), fun _ => HOb.out, bThen HB23.out U6.out⟩
      · go_simp
        obtain ⟨y3, hy⟩ : ∃ y, y = y2.alloc (.cells (madeCells #[.int .i64 0] n) 3) := ⟨_, rfl⟩
        rw [← hy]
        have hb : Below y2.heap.size y2 y3 := by rw [hy]; exact bAlloc (Below.refl _ _) _
        have U3 := hid (bThen U2.out hb)
        have z3 : y2.heap.size ≤ y3.heap.size := hb.size
        have O3 := hid (O2.out.below hb)
        have B3 := hid (Kd.below B2.out hb)
        have hz : y3.heap[y2.heap.size]? = some (.cells (madeCells #[.int .i64 0] n) 3 (0, 0)) := by rw [hy]; exact heap_at rfl
        have M3 := hid (show I64.slice.K y3 (fun j => y2.heap.size ≤ j ∧ j < y3.heap.size) (List.replicate n 0) [.slice (some ⟨y2.heap.size, 0, none⟩) n n] from K_of_block n n (by simp) hz ⟨Nat.le_refl _, (Array.getElem?_eq_some_iff.1 hz).1⟩ (cells_rep rfl n) (Nat.le_refl _) (by have := HJ0.out.2; simp; omega))
        have Q3 := hid hz
        have hM9 := (Array.getElem?_eq_some_iff.1 hz).1
        clear hz hb hy
        refine hK.out _ _ (HS.out _ U3.out) (fun hHeld => ?_)
        clear hK K
        (try simp only [Act.put, List.setIfInBounds_toArray, List.set_cons_zero, List.set_cons_succ])
        refine anyH_one 6 rfl (by kernel_rfl) (fun K hK => ?_)
        go_simp
        have hsc := sclone_calls J0.needs JA jc y3 (by rw [← HN.out]; exact Kd.below HJN3.out U3.out) (by rw [← HN.out]; have := HJ0.out.2; omega)
        rw [← HN.out] at hsc
        refine hsc.mono ?_
        clear hsc
        rintro e y4 ⟨F, f, rfl, hK, hb⟩
        have U4 := hid (bThen U3.out hb)
        have z4 : y3.heap.size ≤ y4.heap.size := hb.size
        have O4 := hid (O3.out.below hb)
        have B4 := hid (Kd.below B3.out hb)
        have M4 := hid (Kd.below M3.out hb)
        have Q4 := hid ((hb.block _ (Array.getElem?_eq_some_iff.1 Q3.out).1).trans Q3.out)
        have F4 := hid (Kd.str.slice.mono (S' := fun j => y3.heap.size ≤ j ∧ j < y4.heap.size) (fun j h hl => ⟨h, hl⟩) hK)
        clear hK hb
        go_simp
        refine hK.out _ _ (HS.out _ U4.out) (fun hHeld => ?_)
        clear hK K
        (try simp only [Act.put, List.setIfInBounds_toArray, List.set_cons_zero, List.set_cons_succ])
        refine anyH_take 11 (v := ?_) rfl (by kernel_rfl) (by kernel_rfl) (by kernel_rfl) (fun _ _ _ h => h) (by rfl) hHeld ?_ ?_
        rotate_left
        · (intro w hSw; (try dsimp only at hSw); go_split_ands; go_simp; try with_reducible rfl)
        (try simp only [Act.put, List.setIfInBounds_toArray, List.set_cons_zero, List.set_cons_succ])
        refine anyH_one 12 rfl (by kernel_rfl) (fun K hK => ?_)
        go_simp
        obtain ⟨y5, hy⟩ : ∃ y, y = y4.alloc (.cells #[.int .i64 J0.id, .int .i64 0, .int .i64 1, .slice F n f, .slice (some ⟨y2.heap.size, 0, none⟩) n n, .slice (some ⟨y1.heap.size, 0, none⟩) n n] 45) := ⟨_, rfl⟩
        rw [← hy]
        have hb : Below y4.heap.size y4 y5 := by rw [hy]; exact bAlloc (Below.refl _ _) _
        have U5 := hid (bThen U4.out hb)
        have z5 : y4.heap.size ≤ y5.heap.size := hb.size
        have O5 := hid (O4.out.below hb)
        have B5 := hid (Kd.below B4.out hb)
        have M5 := hid (Kd.below M4.out hb)
        have Q5 := hid ((hb.block _ (Array.getElem?_eq_some_iff.1 Q4.out).1).trans Q4.out)
        have F5 := hid (Kd.below F4.out hb)
        have R5 := hid (show y5.heap[y4.heap.size]? = some (.cells #[.int .i64 J0.id, .int .i64 0, .int .i64 1, .slice F n f, .slice (some ⟨y2.heap.size, 0, none⟩) n n, .slice (some ⟨y1.heap.size, 0, none⟩) n n] 45 (0, 0)) by rw [hy]; exact heap_at rfl)
        clear hb hy
        refine hK.out _ _ (HS.out _ U5.out) (fun hHeld => ?_)
        clear hK K
        (try simp only [Act.put, List.setIfInBounds_toArray, List.set_cons_zero, List.set_cons_succ])
        refine anyH_one 13 rfl (by kernel_rfl) (fun K hK => ?_)
        have he := entry_of (w := y5) (S := fun j => y0.heap.size ≤ j ∧ some j ≠ (Value.slice Ao no co).ownBlock) (acceptE J0) (A := F) (a := f) (B := some ⟨y2.heap.size, 0, none⟩) (b := n) (D := some ⟨y1.heap.size, 0, none⟩) (d := n) (by show Kd.str.slice.K _ _ J0.needs [.slice F J0.needs.length f]; rw [← HN.out]; exact (Kd.str.slice.mono (S' := fun j => y0.heap.size ≤ j ∧ some j ≠ (Value.slice Ao no co).ownBlock) (fun j h _ => ⟨by omega, fun e => by have := HRO.out j e.symm; omega⟩) F5.out)) (by show I64.slice.K _ _ (List.replicate J0.needs.length 0) [.slice _ (List.replicate J0.needs.length (0 : Int)).length n]; rw [List.length_replicate, ← HN.out]; exact (I64.slice.mono (S' := fun j => y0.heap.size ≤ j ∧ some j ≠ (Value.slice Ao no co).ownBlock) (fun j h _ => ⟨by omega, fun e => by have := HRO.out j e.symm; omega⟩) M5.out)) (by show Kd.bool.slice.K _ _ (List.replicate J0.needs.length false) [.slice _ (List.replicate J0.needs.length false).length n]; rw [List.length_replicate, ← HN.out]; exact (Kd.bool.slice.mono (S' := fun j => y0.heap.size ≤ j ∧ some j ≠ (Value.slice Ao no co).ownBlock) (fun j h _ => ⟨by omega, fun e => by have := HRO.out j e.symm; omega⟩) B5.out))
        rw [show (acceptE J0).needs.length = n from HN.out.symm, show (acceptE J0).bound.length = n from (List.length_replicate).trans HN.out.symm, show (acceptE J0).done.length = n from (List.length_replicate).trans HN.out.symm] at he
        have heB : BoundFree y5 (fun j => y0.heap.size ≤ j ∧ some j ≠ (Value.slice Ao no co).ownBlock) (acceptE J0) [.int .i64 J0.id, .int .i64 0, .int .i64 1, .slice F n f, .slice (some ⟨y2.heap.size, 0, none⟩) n n, .slice (some ⟨y1.heap.size, 0, none⟩) n n] := ⟨some ⟨y2.heap.size, 0, none⟩, n, by rw [show (acceptE J0).bound.length = n from (List.length_replicate).trans HN.out.symm]; rfl, .inr ⟨y2.heap.size, _, rfl, ⟨by omega, fun e => by have := HRO.out _ e.symm; omega⟩, Q5.out, by rw [show (acceptE J0).bound.length = n from (List.length_replicate).trans HN.out.symm]; exact HMS.out⟩⟩
        have heF := (show Kd.entryF.K _ _ (acceptE J0) [.int .i64 J0.id, .int .i64 0, .int .i64 1, .slice F n f, .slice (some ⟨y2.heap.size, 0, none⟩) n n, .slice (some ⟨y1.heap.size, 0, none⟩) n n] from And.intro he heB)
        have HR := hid (show Kd.entryF.slice.K y5 (fun j => y0.heap.size ≤ j ∧ some j ≠ (Value.slice Ao no co).ownBlock) [acceptE J0] [.slice (some ⟨y4.heap.size, 0, none⟩) 1 1] from K_of_block (d := Kd.entryF) 1 1 rfl R5.out ⟨by omega, fun e => by have := HRO.out _ e.symm; omega⟩ ⟨_, [], by simp [acceptE], heF, rfl⟩ (Nat.le_refl _) (show 1 ≤ 140737488355328 by decide))
        refine appendsG_step Kd.entryF y0.heap.size rfl _ _ 29 45 _ 96 rfl Tryz.underlying29 Tryz.infoEntry rfl (by decide) (by decide) (.slice Ao no co) b [acceptE J0] (some ⟨y4.heap.size, 0, none⟩) 1 1 (fun k => y0.heap.size ≤ k) (fun j => y0.heap.size ≤ j ∧ some j ≠ (Value.slice Ao no co).ownBlock) (fun j => y0.heap.size ≤ j ∧ some j ≠ (Value.slice Ao no co).ownBlock) rfl rfl rfl (K_row HR.out).1 (fun _ _ h => h) (fun _ h _ => h) O5.out (by omega) (by have := HL.out; omega) ?_
        intro vb y6 hOb hgb _
        have HOb := hid ((hOb.move (T' := fun k => w.heap.size ≤ k) (fun _ _ _ => rfl) (fun k h _ => Nat.le_trans (Nat.le_trans HB23.out.size U0.out.size) h)).lower (Nat.le_trans HB23.out.size U0.out.size))
        have U6 := hid (U5.out.trans ⟨hgb.os, hgb.tape, hgb.output, hgb.size, fun k hk => hgb.block k (Nat.lt_of_lt_of_le hk U5.out.size) (fun e => by have h1 := HRO.out k e.symm; have := U0.out.size; omega)⟩)
        clear he heB heF hOb hgb
        refine hK.out _ _ (HS.out _ U6.out) (fun hHeld => ?_)
        clear hK K
        (try simp only [Act.put, List.setIfInBounds_toArray, List.set_cons_zero, List.set_cons_succ])
        refine anyH_take 14 (v := ?_) rfl (by kernel_rfl) (by kernel_rfl) (by kernel_rfl) (fun _ _ _ h => h) (by rfl) hHeld ?_ ?_
        rotate_left
        · (intro w hSw; (try dsimp only at hSw); go_split_ands; go_simp; try with_reducible rfl)
        (try simp only [Act.put, List.setIfInBounds_toArray, List.set_cons_zero, List.set_cons_succ])
        refine anyH_take 15 (v := ?_) rfl (by kernel_rfl) (by kernel_rfl) (by kernel_rfl) (fun _ _ _ h => h) (by rfl) hHeld ?_ ?_
        rotate_left
        · (intro w hSw; (try dsimp only at hSw); go_split_ands; go_simp; try with_reducible rfl)
        (try simp only [Act.put, List.setIfInBounds_toArray, List.set_cons_zero, List.set_cons_succ])
        refine wpAnyH_done (by kernel_rfl) ?_ _
        go_wp2
        go_ret2
        rw [HTR.out, HAC.out]
        exact ⟨_, rfl, entryF_K (Kd.any HOb.out.K), fun _ => HOb.out, bThen HB23.out U6.out⟩
  · go_simp
    obtain ⟨y1, hy⟩ : ∃ y, y = y0.alloc (.cells (madeCells #[.int .i64 0] n) 3) := ⟨_, rfl⟩
    rw [← hy]
    have hb : Below y0.heap.size y0 y1 := by rw [hy]; exact bAlloc (Below.refl _ _) _
    have U1 := hid (bThen U0.out hb)
    have z1 : y0.heap.size ≤ y1.heap.size := hb.size
    have hz : y1.heap[y0.heap.size]? = some (.cells (madeCells #[.int .i64 0] n) 3 (0, 0)) := by rw [hy]; exact heap_at rfl
    have M1 := hid (show I64.slice.K y1 (fun j => y0.heap.size ≤ j ∧ j < y1.heap.size) (List.replicate n 0) [.slice (some ⟨y0.heap.size, 0, none⟩) n n] from K_of_block n n (by simp) hz ⟨Nat.le_refl _, (Array.getElem?_eq_some_iff.1 hz).1⟩ (cells_rep rfl n) (Nat.le_refl _) (by have := HJ0.out.2; simp; omega))
    have Q1 := hid hz
    have hM9 := (Array.getElem?_eq_some_iff.1 hz).1
    clear hz hb hy
    refine hK.out _ _ (HS.out _ U1.out) (fun hHeld => ?_)
    clear hK K
    (try simp only [Act.put, List.setIfInBounds_toArray, List.set_cons_zero, List.set_cons_succ])
    refine anyH_two 1 10 rfl rfl (by kernel_rfl) (fun K hK => ?_) (fun K hK => ?_)
    · go_simp
      refine (bcloneF_calls b _ y1 (Kd.below HBK3.out U1.out) HF.out (by have := HL.out; omega)).mono ?_
      rintro e y2 ⟨o, rfl, hO, hb⟩
      have U2 := hid (bThen U1.out hb)
      have z2 : y1.heap.size ≤ y2.heap.size := hb.size
      have M2 := hid (Kd.below M1.out hb)
      have Q2 := hid ((hb.block _ (Array.getElem?_eq_some_iff.1 Q1.out).1).trans Q1.out)
      have O2 := hid ((hO.move (T' := fun k => y0.heap.size ≤ k) (fun _ _ _ => rfl) (fun k h _ => (show y0.heap.size ≤ k by have : y1.heap.size ≤ k := h; omega))).lower (show y0.heap.size ≤ y1.heap.size by omega))
      obtain ⟨Ao, no, co, rfl, hno, _⟩ := hO.shape'
      have HRO := hid (fun j (h : (Value.slice Ao no co).ownBlock = some j) => (show y1.heap.size ≤ j ∧ j < y2.heap.size from hO.lt j h))
      clear hO hb hno
      go_simp
      refine hK.out _ _ (HS.out _ U2.out) (fun hHeld => ?_)
      clear hK K
      (try simp only [Act.put, List.setIfInBounds_toArray, List.set_cons_zero, List.set_cons_succ])
      refine anyH_two 6 10 rfl rfl (by kernel_rfl) (fun K hK => ?_) (fun K hK => ?_)
      · go_simp
        have hsc := sclone_calls J0.needs JA jc y2 (by rw [← HN.out]; exact Kd.below HJN3.out U2.out) (by rw [← HN.out]; have := HJ0.out.2; omega)
        rw [← HN.out] at hsc
        refine hsc.mono ?_
        clear hsc
        rintro e y3 ⟨F, f, rfl, hK, hb⟩
        have U3 := hid (bThen U2.out hb)
        have z3 : y2.heap.size ≤ y3.heap.size := hb.size
        have M3 := hid (Kd.below M2.out hb)
        have Q3 := hid ((hb.block _ (Array.getElem?_eq_some_iff.1 Q2.out).1).trans Q2.out)
        have O3 := hid (O2.out.below hb)
        have F3 := hid (Kd.str.slice.mono (S' := fun j => y2.heap.size ≤ j ∧ j < y3.heap.size) (fun j h hl => ⟨h, hl⟩) hK)
        clear hK hb
        go_simp
        refine hK.out _ _ (HS.out _ U3.out) (fun hHeld => ?_)
        clear hK K
        (try simp only [Act.put, List.setIfInBounds_toArray, List.set_cons_zero, List.set_cons_succ])
        refine anyH_one 10 rfl (by kernel_rfl) (fun K hK => ?_)
        go_simp
        obtain ⟨y4, hy⟩ : ∃ y, y = y3.alloc (.cells (madeCells #[.bool false] n) 4) := ⟨_, rfl⟩
        rw [← hy]
        have hb : Below y3.heap.size y3 y4 := by rw [hy]; exact bAlloc (Below.refl _ _) _
        have U4 := hid (bThen U3.out hb)
        have z4 : y3.heap.size ≤ y4.heap.size := hb.size
        have M4 := hid (Kd.below M3.out hb)
        have Q4 := hid ((hb.block _ (Array.getElem?_eq_some_iff.1 Q3.out).1).trans Q3.out)
        have O4 := hid (O3.out.below hb)
        have F4 := hid (Kd.below F3.out hb)
        have hz : y4.heap[y3.heap.size]? = some (.cells (madeCells #[.bool false] n) 4 (0, 0)) := by rw [hy]; exact heap_at rfl
        have B4 := hid (show Kd.bool.slice.K y4 (fun j => y3.heap.size ≤ j ∧ j < y4.heap.size) (List.replicate n false) [.slice (some ⟨y3.heap.size, 0, none⟩) n n] from K_of_block n n (by simp) hz ⟨Nat.le_refl _, (Array.getElem?_eq_some_iff.1 hz).1⟩ (cells_rep rfl n) (Nat.le_refl _) (by have := HJ0.out.2; simp; omega))
        skip
        skip
        clear hz hb hy
        refine hK.out _ _ (HS.out _ U4.out) (fun hHeld => ?_)
        clear hK K
        (try simp only [Act.put, List.setIfInBounds_toArray, List.set_cons_zero, List.set_cons_succ])
        refine anyH_take 11 (v := ?_) rfl (by kernel_rfl) (by kernel_rfl) (by kernel_rfl) (fun _ _ _ h => h) (by rfl) hHeld ?_ ?_
        rotate_left
        · (intro w hSw; (try dsimp only at hSw); go_split_ands; go_simp; try with_reducible rfl)
        (try simp only [Act.put, List.setIfInBounds_toArray, List.set_cons_zero, List.set_cons_succ])
        refine anyH_one 12 rfl (by kernel_rfl) (fun K hK => ?_)
        go_simp
        obtain ⟨y5, hy⟩ : ∃ y, y = y4.alloc (.cells #[.int .i64 J0.id, .int .i64 0, .int .i64 1, .slice F n f, .slice (some ⟨y0.heap.size, 0, none⟩) n n, .slice (some ⟨y3.heap.size, 0, none⟩) n n] 45) := ⟨_, rfl⟩
        rw [← hy]
        have hb : Below y4.heap.size y4 y5 := by rw [hy]; exact bAlloc (Below.refl _ _) _
        have U5 := hid (bThen U4.out hb)
        have z5 : y4.heap.size ≤ y5.heap.size := hb.size
        have M5 := hid (Kd.below M4.out hb)
        have Q5 := hid ((hb.block _ (Array.getElem?_eq_some_iff.1 Q4.out).1).trans Q4.out)
        have O5 := hid (O4.out.below hb)
        have F5 := hid (Kd.below F4.out hb)
        have B5 := hid (Kd.below B4.out hb)
        have R5 := hid (show y5.heap[y4.heap.size]? = some (.cells #[.int .i64 J0.id, .int .i64 0, .int .i64 1, .slice F n f, .slice (some ⟨y0.heap.size, 0, none⟩) n n, .slice (some ⟨y3.heap.size, 0, none⟩) n n] 45 (0, 0)) by rw [hy]; exact heap_at rfl)
        clear hb hy
        refine hK.out _ _ (HS.out _ U5.out) (fun hHeld => ?_)
        clear hK K
        (try simp only [Act.put, List.setIfInBounds_toArray, List.set_cons_zero, List.set_cons_succ])
        refine anyH_one 13 rfl (by kernel_rfl) (fun K hK => ?_)
        have he := entry_of (w := y5) (S := fun j => y0.heap.size ≤ j ∧ some j ≠ (Value.slice Ao no co).ownBlock) (acceptE J0) (A := F) (a := f) (B := some ⟨y0.heap.size, 0, none⟩) (b := n) (D := some ⟨y3.heap.size, 0, none⟩) (d := n) (by show Kd.str.slice.K _ _ J0.needs [.slice F J0.needs.length f]; rw [← HN.out]; exact (Kd.str.slice.mono (S' := fun j => y0.heap.size ≤ j ∧ some j ≠ (Value.slice Ao no co).ownBlock) (fun j h _ => ⟨by omega, fun e => by have := HRO.out j e.symm; omega⟩) F5.out)) (by show I64.slice.K _ _ (List.replicate J0.needs.length 0) [.slice _ (List.replicate J0.needs.length (0 : Int)).length n]; rw [List.length_replicate, ← HN.out]; exact (I64.slice.mono (S' := fun j => y0.heap.size ≤ j ∧ some j ≠ (Value.slice Ao no co).ownBlock) (fun j h _ => ⟨by omega, fun e => by have := HRO.out j e.symm; omega⟩) M5.out)) (by show Kd.bool.slice.K _ _ (List.replicate J0.needs.length false) [.slice _ (List.replicate J0.needs.length false).length n]; rw [List.length_replicate, ← HN.out]; exact (Kd.bool.slice.mono (S' := fun j => y0.heap.size ≤ j ∧ some j ≠ (Value.slice Ao no co).ownBlock) (fun j h _ => ⟨by omega, fun e => by have := HRO.out j e.symm; omega⟩) B5.out))
        rw [show (acceptE J0).needs.length = n from HN.out.symm, show (acceptE J0).bound.length = n from (List.length_replicate).trans HN.out.symm, show (acceptE J0).done.length = n from (List.length_replicate).trans HN.out.symm] at he
        have heB : BoundFree y5 (fun j => y0.heap.size ≤ j ∧ some j ≠ (Value.slice Ao no co).ownBlock) (acceptE J0) [.int .i64 J0.id, .int .i64 0, .int .i64 1, .slice F n f, .slice (some ⟨y0.heap.size, 0, none⟩) n n, .slice (some ⟨y3.heap.size, 0, none⟩) n n] := ⟨some ⟨y0.heap.size, 0, none⟩, n, by rw [show (acceptE J0).bound.length = n from (List.length_replicate).trans HN.out.symm]; rfl, .inr ⟨y0.heap.size, _, rfl, ⟨by omega, fun e => by have := HRO.out _ e.symm; omega⟩, Q5.out, by rw [show (acceptE J0).bound.length = n from (List.length_replicate).trans HN.out.symm]; exact HMS.out⟩⟩
        have heF := (show Kd.entryF.K _ _ (acceptE J0) [.int .i64 J0.id, .int .i64 0, .int .i64 1, .slice F n f, .slice (some ⟨y0.heap.size, 0, none⟩) n n, .slice (some ⟨y3.heap.size, 0, none⟩) n n] from And.intro he heB)
        have HR := hid (show Kd.entryF.slice.K y5 (fun j => y0.heap.size ≤ j ∧ some j ≠ (Value.slice Ao no co).ownBlock) [acceptE J0] [.slice (some ⟨y4.heap.size, 0, none⟩) 1 1] from K_of_block (d := Kd.entryF) 1 1 rfl R5.out ⟨by omega, fun e => by have := HRO.out _ e.symm; omega⟩ ⟨_, [], by simp [acceptE], heF, rfl⟩ (Nat.le_refl _) (show 1 ≤ 140737488355328 by decide))
        refine appendsG_step Kd.entryF y0.heap.size rfl _ _ 29 45 _ 96 rfl Tryz.underlying29 Tryz.infoEntry rfl (by decide) (by decide) (.slice Ao no co) b [acceptE J0] (some ⟨y4.heap.size, 0, none⟩) 1 1 (fun k => y0.heap.size ≤ k) (fun j => y0.heap.size ≤ j ∧ some j ≠ (Value.slice Ao no co).ownBlock) (fun j => y0.heap.size ≤ j ∧ some j ≠ (Value.slice Ao no co).ownBlock) rfl rfl rfl (K_row HR.out).1 (fun _ _ h => h) (fun _ h _ => h) O5.out (by omega) (by have := HL.out; omega) ?_
        intro vb y6 hOb hgb _
        have HOb := hid ((hOb.move (T' := fun k => w.heap.size ≤ k) (fun _ _ _ => rfl) (fun k h _ => Nat.le_trans (Nat.le_trans HB23.out.size U0.out.size) h)).lower (Nat.le_trans HB23.out.size U0.out.size))
        have U6 := hid (U5.out.trans ⟨hgb.os, hgb.tape, hgb.output, hgb.size, fun k hk => hgb.block k (Nat.lt_of_lt_of_le hk U5.out.size) (fun e => by have h1 := HRO.out k e.symm; have := U0.out.size; omega)⟩)
        clear he heB heF hOb hgb
        refine hK.out _ _ (HS.out _ U6.out) (fun hHeld => ?_)
        clear hK K
        (try simp only [Act.put, List.setIfInBounds_toArray, List.set_cons_zero, List.set_cons_succ])
        refine anyH_take 14 (v := ?_) rfl (by kernel_rfl) (by kernel_rfl) (by kernel_rfl) (fun _ _ _ h => h) (by rfl) hHeld ?_ ?_
        rotate_left
        · (intro w hSw; (try dsimp only at hSw); go_split_ands; go_simp; try with_reducible rfl)
        (try simp only [Act.put, List.setIfInBounds_toArray, List.set_cons_zero, List.set_cons_succ])
        refine anyH_take 15 (v := ?_) rfl (by kernel_rfl) (by kernel_rfl) (by kernel_rfl) (fun _ _ _ h => h) (by rfl) hHeld ?_ ?_
        rotate_left
        · (intro w hSw; (try dsimp only at hSw); go_split_ands; go_simp; try with_reducible rfl)
        (try simp only [Act.put, List.setIfInBounds_toArray, List.set_cons_zero, List.set_cons_succ])
        refine wpAnyH_done (by kernel_rfl) ?_ _
        go_wp2
        go_ret2
        rw [HTR.out, HAC.out]
        exact ⟨_, rfl, entryF_K (Kd.any HOb.out.K), fun _ => HOb.out, bThen HB23.out U6.out⟩
      · go_simp
        obtain ⟨y3, hy⟩ : ∃ y, y = y2.alloc (.cells (madeCells #[.bool false] n) 4) := ⟨_, rfl⟩
        rw [← hy]
        have hb : Below y2.heap.size y2 y3 := by rw [hy]; exact bAlloc (Below.refl _ _) _
        have U3 := hid (bThen U2.out hb)
        have z3 : y2.heap.size ≤ y3.heap.size := hb.size
        have M3 := hid (Kd.below M2.out hb)
        have Q3 := hid ((hb.block _ (Array.getElem?_eq_some_iff.1 Q2.out).1).trans Q2.out)
        have O3 := hid (O2.out.below hb)
        have hz : y3.heap[y2.heap.size]? = some (.cells (madeCells #[.bool false] n) 4 (0, 0)) := by rw [hy]; exact heap_at rfl
        have B3 := hid (show Kd.bool.slice.K y3 (fun j => y2.heap.size ≤ j ∧ j < y3.heap.size) (List.replicate n false) [.slice (some ⟨y2.heap.size, 0, none⟩) n n] from K_of_block n n (by simp) hz ⟨Nat.le_refl _, (Array.getElem?_eq_some_iff.1 hz).1⟩ (cells_rep rfl n) (Nat.le_refl _) (by have := HJ0.out.2; simp; omega))
        skip
        skip
        clear hz hb hy
        refine hK.out _ _ (HS.out _ U3.out) (fun hHeld => ?_)
        clear hK K
        (try simp only [Act.put, List.setIfInBounds_toArray, List.set_cons_zero, List.set_cons_succ])
        refine anyH_one 6 rfl (by kernel_rfl) (fun K hK => ?_)
        go_simp
        have hsc := sclone_calls J0.needs JA jc y3 (by rw [← HN.out]; exact Kd.below HJN3.out U3.out) (by rw [← HN.out]; have := HJ0.out.2; omega)
        rw [← HN.out] at hsc
        refine hsc.mono ?_
        clear hsc
        rintro e y4 ⟨F, f, rfl, hK, hb⟩
        have U4 := hid (bThen U3.out hb)
        have z4 : y3.heap.size ≤ y4.heap.size := hb.size
        have M4 := hid (Kd.below M3.out hb)
        have Q4 := hid ((hb.block _ (Array.getElem?_eq_some_iff.1 Q3.out).1).trans Q3.out)
        have O4 := hid (O3.out.below hb)
        have B4 := hid (Kd.below B3.out hb)
        have F4 := hid (Kd.str.slice.mono (S' := fun j => y3.heap.size ≤ j ∧ j < y4.heap.size) (fun j h hl => ⟨h, hl⟩) hK)
        clear hK hb
        go_simp
        refine hK.out _ _ (HS.out _ U4.out) (fun hHeld => ?_)
        clear hK K
        (try simp only [Act.put, List.setIfInBounds_toArray, List.set_cons_zero, List.set_cons_succ])
        refine anyH_take 11 (v := ?_) rfl (by kernel_rfl) (by kernel_rfl) (by kernel_rfl) (fun _ _ _ h => h) (by rfl) hHeld ?_ ?_
        rotate_left
        · (intro w hSw; (try dsimp only at hSw); go_split_ands; go_simp; try with_reducible rfl)
        (try simp only [Act.put, List.setIfInBounds_toArray, List.set_cons_zero, List.set_cons_succ])
        refine anyH_one 12 rfl (by kernel_rfl) (fun K hK => ?_)
        go_simp
        obtain ⟨y5, hy⟩ : ∃ y, y = y4.alloc (.cells #[.int .i64 J0.id, .int .i64 0, .int .i64 1, .slice F n f, .slice (some ⟨y0.heap.size, 0, none⟩) n n, .slice (some ⟨y2.heap.size, 0, none⟩) n n] 45) := ⟨_, rfl⟩
        rw [← hy]
        have hb : Below y4.heap.size y4 y5 := by rw [hy]; exact bAlloc (Below.refl _ _) _
        have U5 := hid (bThen U4.out hb)
        have z5 : y4.heap.size ≤ y5.heap.size := hb.size
        have M5 := hid (Kd.below M4.out hb)
        have Q5 := hid ((hb.block _ (Array.getElem?_eq_some_iff.1 Q4.out).1).trans Q4.out)
        have O5 := hid (O4.out.below hb)
        have B5 := hid (Kd.below B4.out hb)
        have F5 := hid (Kd.below F4.out hb)
        have R5 := hid (show y5.heap[y4.heap.size]? = some (.cells #[.int .i64 J0.id, .int .i64 0, .int .i64 1, .slice F n f, .slice (some ⟨y0.heap.size, 0, none⟩) n n, .slice (some ⟨y2.heap.size, 0, none⟩) n n] 45 (0, 0)) by rw [hy]; exact heap_at rfl)
        clear hb hy
        refine hK.out _ _ (HS.out _ U5.out) (fun hHeld => ?_)
        clear hK K
        (try simp only [Act.put, List.setIfInBounds_toArray, List.set_cons_zero, List.set_cons_succ])
        refine anyH_one 13 rfl (by kernel_rfl) (fun K hK => ?_)
        have he := entry_of (w := y5) (S := fun j => y0.heap.size ≤ j ∧ some j ≠ (Value.slice Ao no co).ownBlock) (acceptE J0) (A := F) (a := f) (B := some ⟨y0.heap.size, 0, none⟩) (b := n) (D := some ⟨y2.heap.size, 0, none⟩) (d := n) (by show Kd.str.slice.K _ _ J0.needs [.slice F J0.needs.length f]; rw [← HN.out]; exact (Kd.str.slice.mono (S' := fun j => y0.heap.size ≤ j ∧ some j ≠ (Value.slice Ao no co).ownBlock) (fun j h _ => ⟨by omega, fun e => by have := HRO.out j e.symm; omega⟩) F5.out)) (by show I64.slice.K _ _ (List.replicate J0.needs.length 0) [.slice _ (List.replicate J0.needs.length (0 : Int)).length n]; rw [List.length_replicate, ← HN.out]; exact (I64.slice.mono (S' := fun j => y0.heap.size ≤ j ∧ some j ≠ (Value.slice Ao no co).ownBlock) (fun j h _ => ⟨by omega, fun e => by have := HRO.out j e.symm; omega⟩) M5.out)) (by show Kd.bool.slice.K _ _ (List.replicate J0.needs.length false) [.slice _ (List.replicate J0.needs.length false).length n]; rw [List.length_replicate, ← HN.out]; exact (Kd.bool.slice.mono (S' := fun j => y0.heap.size ≤ j ∧ some j ≠ (Value.slice Ao no co).ownBlock) (fun j h _ => ⟨by omega, fun e => by have := HRO.out j e.symm; omega⟩) B5.out))
        rw [show (acceptE J0).needs.length = n from HN.out.symm, show (acceptE J0).bound.length = n from (List.length_replicate).trans HN.out.symm, show (acceptE J0).done.length = n from (List.length_replicate).trans HN.out.symm] at he
        have heB : BoundFree y5 (fun j => y0.heap.size ≤ j ∧ some j ≠ (Value.slice Ao no co).ownBlock) (acceptE J0) [.int .i64 J0.id, .int .i64 0, .int .i64 1, .slice F n f, .slice (some ⟨y0.heap.size, 0, none⟩) n n, .slice (some ⟨y2.heap.size, 0, none⟩) n n] := ⟨some ⟨y0.heap.size, 0, none⟩, n, by rw [show (acceptE J0).bound.length = n from (List.length_replicate).trans HN.out.symm]; rfl, .inr ⟨y0.heap.size, _, rfl, ⟨by omega, fun e => by have := HRO.out _ e.symm; omega⟩, Q5.out, by rw [show (acceptE J0).bound.length = n from (List.length_replicate).trans HN.out.symm]; exact HMS.out⟩⟩
        have heF := (show Kd.entryF.K _ _ (acceptE J0) [.int .i64 J0.id, .int .i64 0, .int .i64 1, .slice F n f, .slice (some ⟨y0.heap.size, 0, none⟩) n n, .slice (some ⟨y2.heap.size, 0, none⟩) n n] from And.intro he heB)
        have HR := hid (show Kd.entryF.slice.K y5 (fun j => y0.heap.size ≤ j ∧ some j ≠ (Value.slice Ao no co).ownBlock) [acceptE J0] [.slice (some ⟨y4.heap.size, 0, none⟩) 1 1] from K_of_block (d := Kd.entryF) 1 1 rfl R5.out ⟨by omega, fun e => by have := HRO.out _ e.symm; omega⟩ ⟨_, [], by simp [acceptE], heF, rfl⟩ (Nat.le_refl _) (show 1 ≤ 140737488355328 by decide))
        refine appendsG_step Kd.entryF y0.heap.size rfl _ _ 29 45 _ 96 rfl Tryz.underlying29 Tryz.infoEntry rfl (by decide) (by decide) (.slice Ao no co) b [acceptE J0] (some ⟨y4.heap.size, 0, none⟩) 1 1 (fun k => y0.heap.size ≤ k) (fun j => y0.heap.size ≤ j ∧ some j ≠ (Value.slice Ao no co).ownBlock) (fun j => y0.heap.size ≤ j ∧ some j ≠ (Value.slice Ao no co).ownBlock) rfl rfl rfl (K_row HR.out).1 (fun _ _ h => h) (fun _ h _ => h) O5.out (by omega) (by have := HL.out; omega) ?_
        intro vb y6 hOb hgb _
        have HOb := hid ((hOb.move (T' := fun k => w.heap.size ≤ k) (fun _ _ _ => rfl) (fun k h _ => Nat.le_trans (Nat.le_trans HB23.out.size U0.out.size) h)).lower (Nat.le_trans HB23.out.size U0.out.size))
        have U6 := hid (U5.out.trans ⟨hgb.os, hgb.tape, hgb.output, hgb.size, fun k hk => hgb.block k (Nat.lt_of_lt_of_le hk U5.out.size) (fun e => by have h1 := HRO.out k e.symm; have := U0.out.size; omega)⟩)
        clear he heB heF hOb hgb
        refine hK.out _ _ (HS.out _ U6.out) (fun hHeld => ?_)
        clear hK K
        (try simp only [Act.put, List.setIfInBounds_toArray, List.set_cons_zero, List.set_cons_succ])
        refine anyH_take 14 (v := ?_) rfl (by kernel_rfl) (by kernel_rfl) (by kernel_rfl) (fun _ _ _ h => h) (by rfl) hHeld ?_ ?_
        rotate_left
        · (intro w hSw; (try dsimp only at hSw); go_split_ands; go_simp; try with_reducible rfl)
        (try simp only [Act.put, List.setIfInBounds_toArray, List.set_cons_zero, List.set_cons_succ])
        refine anyH_take 15 (v := ?_) rfl (by kernel_rfl) (by kernel_rfl) (by kernel_rfl) (fun _ _ _ h => h) (by rfl) hHeld ?_ ?_
        rotate_left
        · (intro w hSw; (try dsimp only at hSw); go_split_ands; go_simp; try with_reducible rfl)
        (try simp only [Act.put, List.setIfInBounds_toArray, List.set_cons_zero, List.set_cons_succ])
        refine wpAnyH_done (by kernel_rfl) ?_ _
        go_wp2
        go_ret2
        rw [HTR.out, HAC.out]
        exact ⟨_, rfl, entryF_K (Kd.any HOb.out.K), fun _ => HOb.out, bThen HB23.out U6.out⟩
    · go_simp
      obtain ⟨y2, hy⟩ : ∃ y, y = y1.alloc (.cells (madeCells #[.bool false] n) 4) := ⟨_, rfl⟩
      rw [← hy]
      have hb : Below y1.heap.size y1 y2 := by rw [hy]; exact bAlloc (Below.refl _ _) _
      have U2 := hid (bThen U1.out hb)
      have z2 : y1.heap.size ≤ y2.heap.size := hb.size
      have M2 := hid (Kd.below M1.out hb)
      have Q2 := hid ((hb.block _ (Array.getElem?_eq_some_iff.1 Q1.out).1).trans Q1.out)
      have hz : y2.heap[y1.heap.size]? = some (.cells (madeCells #[.bool false] n) 4 (0, 0)) := by rw [hy]; exact heap_at rfl
      have B2 := hid (show Kd.bool.slice.K y2 (fun j => y1.heap.size ≤ j ∧ j < y2.heap.size) (List.replicate n false) [.slice (some ⟨y1.heap.size, 0, none⟩) n n] from K_of_block n n (by simp) hz ⟨Nat.le_refl _, (Array.getElem?_eq_some_iff.1 hz).1⟩ (cells_rep rfl n) (Nat.le_refl _) (by have := HJ0.out.2; simp; omega))
      skip
      skip
      clear hz hb hy
      refine hK.out _ _ (HS.out _ U2.out) (fun hHeld => ?_)
      clear hK K
      (try simp only [Act.put, List.setIfInBounds_toArray, List.set_cons_zero, List.set_cons_succ])
      refine anyH_one 1 rfl (by kernel_rfl) (fun K hK => ?_)
      go_simp
      refine (bcloneF_calls b _ y2 (Kd.below HBK3.out U2.out) HF.out (by have := HL.out; omega)).mono ?_
      rintro e y3 ⟨o, rfl, hO, hb⟩
      have U3 := hid (bThen U2.out hb)
      have z3 : y2.heap.size ≤ y3.heap.size := hb.size
      have M3 := hid (Kd.below M2.out hb)
      have Q3 := hid ((hb.block _ (Array.getElem?_eq_some_iff.1 Q2.out).1).trans Q2.out)
      have B3 := hid (Kd.below B2.out hb)
      have O3 := hid ((hO.move (T' := fun k => y0.heap.size ≤ k) (fun _ _ _ => rfl) (fun k h _ => (show y0.heap.size ≤ k by have : y2.heap.size ≤ k := h; omega))).lower (show y0.heap.size ≤ y2.heap.size by omega))
      obtain ⟨Ao, no, co, rfl, hno, _⟩ := hO.shape'
      have HRO := hid (fun j (h : (Value.slice Ao no co).ownBlock = some j) => (show y2.heap.size ≤ j ∧ j < y3.heap.size from hO.lt j h))
      clear hO hb hno
      go_simp
      refine hK.out _ _ (HS.out _ U3.out) (fun hHeld => ?_)
      clear hK K
      (try simp only [Act.put, List.setIfInBounds_toArray, List.set_cons_zero, List.set_cons_succ])
      refine anyH_one 6 rfl (by kernel_rfl) (fun K hK => ?_)
      go_simp
      have hsc := sclone_calls J0.needs JA jc y3 (by rw [← HN.out]; exact Kd.below HJN3.out U3.out) (by rw [← HN.out]; have := HJ0.out.2; omega)
      rw [← HN.out] at hsc
      refine hsc.mono ?_
      clear hsc
      rintro e y4 ⟨F, f, rfl, hK, hb⟩
      have U4 := hid (bThen U3.out hb)
      have z4 : y3.heap.size ≤ y4.heap.size := hb.size
      have M4 := hid (Kd.below M3.out hb)
      have Q4 := hid ((hb.block _ (Array.getElem?_eq_some_iff.1 Q3.out).1).trans Q3.out)
      have B4 := hid (Kd.below B3.out hb)
      have O4 := hid (O3.out.below hb)
      have F4 := hid (Kd.str.slice.mono (S' := fun j => y3.heap.size ≤ j ∧ j < y4.heap.size) (fun j h hl => ⟨h, hl⟩) hK)
      clear hK hb
      go_simp
      refine hK.out _ _ (HS.out _ U4.out) (fun hHeld => ?_)
      clear hK K
      (try simp only [Act.put, List.setIfInBounds_toArray, List.set_cons_zero, List.set_cons_succ])
      refine anyH_take 11 (v := ?_) rfl (by kernel_rfl) (by kernel_rfl) (by kernel_rfl) (fun _ _ _ h => h) (by rfl) hHeld ?_ ?_
      rotate_left
      · (intro w hSw; (try dsimp only at hSw); go_split_ands; go_simp; try with_reducible rfl)
      (try simp only [Act.put, List.setIfInBounds_toArray, List.set_cons_zero, List.set_cons_succ])
      refine anyH_one 12 rfl (by kernel_rfl) (fun K hK => ?_)
      go_simp
      obtain ⟨y5, hy⟩ : ∃ y, y = y4.alloc (.cells #[.int .i64 J0.id, .int .i64 0, .int .i64 1, .slice F n f, .slice (some ⟨y0.heap.size, 0, none⟩) n n, .slice (some ⟨y1.heap.size, 0, none⟩) n n] 45) := ⟨_, rfl⟩
      rw [← hy]
      have hb : Below y4.heap.size y4 y5 := by rw [hy]; exact bAlloc (Below.refl _ _) _
      have U5 := hid (bThen U4.out hb)
      have z5 : y4.heap.size ≤ y5.heap.size := hb.size
      have M5 := hid (Kd.below M4.out hb)
      have Q5 := hid ((hb.block _ (Array.getElem?_eq_some_iff.1 Q4.out).1).trans Q4.out)
      have B5 := hid (Kd.below B4.out hb)
      have O5 := hid (O4.out.below hb)
      have F5 := hid (Kd.below F4.out hb)
      have R5 := hid (show y5.heap[y4.heap.size]? = some (.cells #[.int .i64 J0.id, .int .i64 0, .int .i64 1, .slice F n f, .slice (some ⟨y0.heap.size, 0, none⟩) n n, .slice (some ⟨y1.heap.size, 0, none⟩) n n] 45 (0, 0)) by rw [hy]; exact heap_at rfl)
      clear hb hy
      refine hK.out _ _ (HS.out _ U5.out) (fun hHeld => ?_)
      clear hK K
      (try simp only [Act.put, List.setIfInBounds_toArray, List.set_cons_zero, List.set_cons_succ])
      refine anyH_one 13 rfl (by kernel_rfl) (fun K hK => ?_)
      have he := entry_of (w := y5) (S := fun j => y0.heap.size ≤ j ∧ some j ≠ (Value.slice Ao no co).ownBlock) (acceptE J0) (A := F) (a := f) (B := some ⟨y0.heap.size, 0, none⟩) (b := n) (D := some ⟨y1.heap.size, 0, none⟩) (d := n) (by show Kd.str.slice.K _ _ J0.needs [.slice F J0.needs.length f]; rw [← HN.out]; exact (Kd.str.slice.mono (S' := fun j => y0.heap.size ≤ j ∧ some j ≠ (Value.slice Ao no co).ownBlock) (fun j h _ => ⟨by omega, fun e => by have := HRO.out j e.symm; omega⟩) F5.out)) (by show I64.slice.K _ _ (List.replicate J0.needs.length 0) [.slice _ (List.replicate J0.needs.length (0 : Int)).length n]; rw [List.length_replicate, ← HN.out]; exact (I64.slice.mono (S' := fun j => y0.heap.size ≤ j ∧ some j ≠ (Value.slice Ao no co).ownBlock) (fun j h _ => ⟨by omega, fun e => by have := HRO.out j e.symm; omega⟩) M5.out)) (by show Kd.bool.slice.K _ _ (List.replicate J0.needs.length false) [.slice _ (List.replicate J0.needs.length false).length n]; rw [List.length_replicate, ← HN.out]; exact (Kd.bool.slice.mono (S' := fun j => y0.heap.size ≤ j ∧ some j ≠ (Value.slice Ao no co).ownBlock) (fun j h _ => ⟨by omega, fun e => by have := HRO.out j e.symm; omega⟩) B5.out))
      rw [show (acceptE J0).needs.length = n from HN.out.symm, show (acceptE J0).bound.length = n from (List.length_replicate).trans HN.out.symm, show (acceptE J0).done.length = n from (List.length_replicate).trans HN.out.symm] at he
      have heB : BoundFree y5 (fun j => y0.heap.size ≤ j ∧ some j ≠ (Value.slice Ao no co).ownBlock) (acceptE J0) [.int .i64 J0.id, .int .i64 0, .int .i64 1, .slice F n f, .slice (some ⟨y0.heap.size, 0, none⟩) n n, .slice (some ⟨y1.heap.size, 0, none⟩) n n] := ⟨some ⟨y0.heap.size, 0, none⟩, n, by rw [show (acceptE J0).bound.length = n from (List.length_replicate).trans HN.out.symm]; rfl, .inr ⟨y0.heap.size, _, rfl, ⟨by omega, fun e => by have := HRO.out _ e.symm; omega⟩, Q5.out, by rw [show (acceptE J0).bound.length = n from (List.length_replicate).trans HN.out.symm]; exact HMS.out⟩⟩
      have heF := (show Kd.entryF.K _ _ (acceptE J0) [.int .i64 J0.id, .int .i64 0, .int .i64 1, .slice F n f, .slice (some ⟨y0.heap.size, 0, none⟩) n n, .slice (some ⟨y1.heap.size, 0, none⟩) n n] from And.intro he heB)
      have HR := hid (show Kd.entryF.slice.K y5 (fun j => y0.heap.size ≤ j ∧ some j ≠ (Value.slice Ao no co).ownBlock) [acceptE J0] [.slice (some ⟨y4.heap.size, 0, none⟩) 1 1] from K_of_block (d := Kd.entryF) 1 1 rfl R5.out ⟨by omega, fun e => by have := HRO.out _ e.symm; omega⟩ ⟨_, [], by simp [acceptE], heF, rfl⟩ (Nat.le_refl _) (show 1 ≤ 140737488355328 by decide))
      refine appendsG_step Kd.entryF y0.heap.size rfl _ _ 29 45 _ 96 rfl Tryz.underlying29 Tryz.infoEntry rfl (by decide) (by decide) (.slice Ao no co) b [acceptE J0] (some ⟨y4.heap.size, 0, none⟩) 1 1 (fun k => y0.heap.size ≤ k) (fun j => y0.heap.size ≤ j ∧ some j ≠ (Value.slice Ao no co).ownBlock) (fun j => y0.heap.size ≤ j ∧ some j ≠ (Value.slice Ao no co).ownBlock) rfl rfl rfl (K_row HR.out).1 (fun _ _ h => h) (fun _ h _ => h) O5.out (by omega) (by have := HL.out; omega) ?_
      intro vb y6 hOb hgb _
      have HOb := hid ((hOb.move (T' := fun k => w.heap.size ≤ k) (fun _ _ _ => rfl) (fun k h _ => Nat.le_trans (Nat.le_trans HB23.out.size U0.out.size) h)).lower (Nat.le_trans HB23.out.size U0.out.size))
      have U6 := hid (U5.out.trans ⟨hgb.os, hgb.tape, hgb.output, hgb.size, fun k hk => hgb.block k (Nat.lt_of_lt_of_le hk U5.out.size) (fun e => by have h1 := HRO.out k e.symm; have := U0.out.size; omega)⟩)
      clear he heB heF hOb hgb
      refine hK.out _ _ (HS.out _ U6.out) (fun hHeld => ?_)
      clear hK K
      (try simp only [Act.put, List.setIfInBounds_toArray, List.set_cons_zero, List.set_cons_succ])
      refine anyH_take 14 (v := ?_) rfl (by kernel_rfl) (by kernel_rfl) (by kernel_rfl) (fun _ _ _ h => h) (by rfl) hHeld ?_ ?_
      rotate_left
      · (intro w hSw; (try dsimp only at hSw); go_split_ands; go_simp; try with_reducible rfl)
      (try simp only [Act.put, List.setIfInBounds_toArray, List.set_cons_zero, List.set_cons_succ])
      refine anyH_take 15 (v := ?_) rfl (by kernel_rfl) (by kernel_rfl) (by kernel_rfl) (fun _ _ _ h => h) (by rfl) hHeld ?_ ?_
      rotate_left
      · (intro w hSw; (try dsimp only at hSw); go_split_ands; go_simp; try with_reducible rfl)
      (try simp only [Act.put, List.setIfInBounds_toArray, List.set_cons_zero, List.set_cons_succ])
      refine wpAnyH_done (by kernel_rfl) ?_ _
      go_wp2
      go_ret2
      rw [HTR.out, HAC.out]
      exact ⟨_, rfl, entryF_K (Kd.any HOb.out.K), fun _ => HOb.out, bThen HB23.out U6.out⟩
  · go_simp
    obtain ⟨y1, hy⟩ : ∃ y, y = y0.alloc (.cells (madeCells #[.bool false] n) 4) := ⟨_, rfl⟩
    rw [← hy]
    have hb : Below y0.heap.size y0 y1 := by rw [hy]; exact bAlloc (Below.refl _ _) _
    have U1 := hid (bThen U0.out hb)
    have z1 : y0.heap.size ≤ y1.heap.size := hb.size
    have hz : y1.heap[y0.heap.size]? = some (.cells (madeCells #[.bool false] n) 4 (0, 0)) := by rw [hy]; exact heap_at rfl
    have B1 := hid (show Kd.bool.slice.K y1 (fun j => y0.heap.size ≤ j ∧ j < y1.heap.size) (List.replicate n false) [.slice (some ⟨y0.heap.size, 0, none⟩) n n] from K_of_block n n (by simp) hz ⟨Nat.le_refl _, (Array.getElem?_eq_some_iff.1 hz).1⟩ (cells_rep rfl n) (Nat.le_refl _) (by have := HJ0.out.2; simp; omega))
    skip
    skip
    clear hz hb hy
    refine hK.out _ _ (HS.out _ U1.out) (fun hHeld => ?_)
    clear hK K
    (try simp only [Act.put, List.setIfInBounds_toArray, List.set_cons_zero, List.set_cons_succ])
    refine anyH_two 1 8 rfl rfl (by kernel_rfl) (fun K hK => ?_) (fun K hK => ?_)
    · go_simp
      refine (bcloneF_calls b _ y1 (Kd.below HBK3.out U1.out) HF.out (by have := HL.out; omega)).mono ?_
      rintro e y2 ⟨o, rfl, hO, hb⟩
      have U2 := hid (bThen U1.out hb)
      have z2 : y1.heap.size ≤ y2.heap.size := hb.size
      have B2 := hid (Kd.below B1.out hb)
      have O2 := hid ((hO.move (T' := fun k => y0.heap.size ≤ k) (fun _ _ _ => rfl) (fun k h _ => (show y0.heap.size ≤ k by have : y1.heap.size ≤ k := h; omega))).lower (show y0.heap.size ≤ y1.heap.size by omega))
      obtain ⟨Ao, no, co, rfl, hno, _⟩ := hO.shape'
      have HRO := hid (fun j (h : (Value.slice Ao no co).ownBlock = some j) => (show y1.heap.size ≤ j ∧ j < y2.heap.size from hO.lt j h))
      clear hO hb hno
      go_simp
      refine hK.out _ _ (HS.out _ U2.out) (fun hHeld => ?_)
      clear hK K
      (try simp only [Act.put, List.setIfInBounds_toArray, List.set_cons_zero, List.set_cons_succ])
      refine anyH_two 6 8 rfl rfl (by kernel_rfl) (fun K hK => ?_) (fun K hK => ?_)
      · go_simp
        have hsc := sclone_calls J0.needs JA jc y2 (by rw [← HN.out]; exact Kd.below HJN3.out U2.out) (by rw [← HN.out]; have := HJ0.out.2; omega)
        rw [← HN.out] at hsc
        refine hsc.mono ?_
        clear hsc
        rintro e y3 ⟨F, f, rfl, hK, hb⟩
        have U3 := hid (bThen U2.out hb)
        have z3 : y2.heap.size ≤ y3.heap.size := hb.size
        have B3 := hid (Kd.below B2.out hb)
        have O3 := hid (O2.out.below hb)
        have F3 := hid (Kd.str.slice.mono (S' := fun j => y2.heap.size ≤ j ∧ j < y3.heap.size) (fun j h hl => ⟨h, hl⟩) hK)
        clear hK hb
        go_simp
        refine hK.out _ _ (HS.out _ U3.out) (fun hHeld => ?_)
        clear hK K
        (try simp only [Act.put, List.setIfInBounds_toArray, List.set_cons_zero, List.set_cons_succ])
        refine anyH_one 8 rfl (by kernel_rfl) (fun K hK => ?_)
        go_simp
        obtain ⟨y4, hy⟩ : ∃ y, y = y3.alloc (.cells (madeCells #[.int .i64 0] n) 3) := ⟨_, rfl⟩
        rw [← hy]
        have hb : Below y3.heap.size y3 y4 := by rw [hy]; exact bAlloc (Below.refl _ _) _
        have U4 := hid (bThen U3.out hb)
        have z4 : y3.heap.size ≤ y4.heap.size := hb.size
        have B4 := hid (Kd.below B3.out hb)
        have O4 := hid (O3.out.below hb)
        have F4 := hid (Kd.below F3.out hb)
        have hz : y4.heap[y3.heap.size]? = some (.cells (madeCells #[.int .i64 0] n) 3 (0, 0)) := by rw [hy]; exact heap_at rfl
        have M4 := hid (show I64.slice.K y4 (fun j => y3.heap.size ≤ j ∧ j < y4.heap.size) (List.replicate n 0) [.slice (some ⟨y3.heap.size, 0, none⟩) n n] from K_of_block n n (by simp) hz ⟨Nat.le_refl _, (Array.getElem?_eq_some_iff.1 hz).1⟩ (cells_rep rfl n) (Nat.le_refl _) (by have := HJ0.out.2; simp; omega))
        have Q4 := hid hz
        have hM9 := (Array.getElem?_eq_some_iff.1 hz).1
        clear hz hb hy
        refine hK.out _ _ (HS.out _ U4.out) (fun hHeld => ?_)
        clear hK K
        (try simp only [Act.put, List.setIfInBounds_toArray, List.set_cons_zero, List.set_cons_succ])
        refine anyH_take 11 (v := ?_) rfl (by kernel_rfl) (by kernel_rfl) (by kernel_rfl) (fun _ _ _ h => h) (by rfl) hHeld ?_ ?_
        rotate_left
        · (intro w hSw; (try dsimp only at hSw); go_split_ands; go_simp; try with_reducible rfl)
        (try simp only [Act.put, List.setIfInBounds_toArray, List.set_cons_zero, List.set_cons_succ])
        refine anyH_one 12 rfl (by kernel_rfl) (fun K hK => ?_)
        go_simp
        obtain ⟨y5, hy⟩ : ∃ y, y = y4.alloc (.cells #[.int .i64 J0.id, .int .i64 0, .int .i64 1, .slice F n f, .slice (some ⟨y3.heap.size, 0, none⟩) n n, .slice (some ⟨y0.heap.size, 0, none⟩) n n] 45) := ⟨_, rfl⟩
        rw [← hy]
        have hb : Below y4.heap.size y4 y5 := by rw [hy]; exact bAlloc (Below.refl _ _) _
        have U5 := hid (bThen U4.out hb)
        have z5 : y4.heap.size ≤ y5.heap.size := hb.size
        have B5 := hid (Kd.below B4.out hb)
        have O5 := hid (O4.out.below hb)
        have F5 := hid (Kd.below F4.out hb)
        have M5 := hid (Kd.below M4.out hb)
        have Q5 := hid ((hb.block _ (Array.getElem?_eq_some_iff.1 Q4.out).1).trans Q4.out)
        have R5 := hid (show y5.heap[y4.heap.size]? = some (.cells #[.int .i64 J0.id, .int .i64 0, .int .i64 1, .slice F n f, .slice (some ⟨y3.heap.size, 0, none⟩) n n, .slice (some ⟨y0.heap.size, 0, none⟩) n n] 45 (0, 0)) by rw [hy]; exact heap_at rfl)
        clear hb hy
        refine hK.out _ _ (HS.out _ U5.out) (fun hHeld => ?_)
        clear hK K
        (try simp only [Act.put, List.setIfInBounds_toArray, List.set_cons_zero, List.set_cons_succ])
        refine anyH_one 13 rfl (by kernel_rfl) (fun K hK => ?_)
        have he := entry_of (w := y5) (S := fun j => y0.heap.size ≤ j ∧ some j ≠ (Value.slice Ao no co).ownBlock) (acceptE J0) (A := F) (a := f) (B := some ⟨y3.heap.size, 0, none⟩) (b := n) (D := some ⟨y0.heap.size, 0, none⟩) (d := n) (by show Kd.str.slice.K _ _ J0.needs [.slice F J0.needs.length f]; rw [← HN.out]; exact (Kd.str.slice.mono (S' := fun j => y0.heap.size ≤ j ∧ some j ≠ (Value.slice Ao no co).ownBlock) (fun j h _ => ⟨by omega, fun e => by have := HRO.out j e.symm; omega⟩) F5.out)) (by show I64.slice.K _ _ (List.replicate J0.needs.length 0) [.slice _ (List.replicate J0.needs.length (0 : Int)).length n]; rw [List.length_replicate, ← HN.out]; exact (I64.slice.mono (S' := fun j => y0.heap.size ≤ j ∧ some j ≠ (Value.slice Ao no co).ownBlock) (fun j h _ => ⟨by omega, fun e => by have := HRO.out j e.symm; omega⟩) M5.out)) (by show Kd.bool.slice.K _ _ (List.replicate J0.needs.length false) [.slice _ (List.replicate J0.needs.length false).length n]; rw [List.length_replicate, ← HN.out]; exact (Kd.bool.slice.mono (S' := fun j => y0.heap.size ≤ j ∧ some j ≠ (Value.slice Ao no co).ownBlock) (fun j h _ => ⟨by omega, fun e => by have := HRO.out j e.symm; omega⟩) B5.out))
        rw [show (acceptE J0).needs.length = n from HN.out.symm, show (acceptE J0).bound.length = n from (List.length_replicate).trans HN.out.symm, show (acceptE J0).done.length = n from (List.length_replicate).trans HN.out.symm] at he
        have heB : BoundFree y5 (fun j => y0.heap.size ≤ j ∧ some j ≠ (Value.slice Ao no co).ownBlock) (acceptE J0) [.int .i64 J0.id, .int .i64 0, .int .i64 1, .slice F n f, .slice (some ⟨y3.heap.size, 0, none⟩) n n, .slice (some ⟨y0.heap.size, 0, none⟩) n n] := ⟨some ⟨y3.heap.size, 0, none⟩, n, by rw [show (acceptE J0).bound.length = n from (List.length_replicate).trans HN.out.symm]; rfl, .inr ⟨y3.heap.size, _, rfl, ⟨by omega, fun e => by have := HRO.out _ e.symm; omega⟩, Q5.out, by rw [show (acceptE J0).bound.length = n from (List.length_replicate).trans HN.out.symm]; exact HMS.out⟩⟩
        have heF := (show Kd.entryF.K _ _ (acceptE J0) [.int .i64 J0.id, .int .i64 0, .int .i64 1, .slice F n f, .slice (some ⟨y3.heap.size, 0, none⟩) n n, .slice (some ⟨y0.heap.size, 0, none⟩) n n] from And.intro he heB)
        have HR := hid (show Kd.entryF.slice.K y5 (fun j => y0.heap.size ≤ j ∧ some j ≠ (Value.slice Ao no co).ownBlock) [acceptE J0] [.slice (some ⟨y4.heap.size, 0, none⟩) 1 1] from K_of_block (d := Kd.entryF) 1 1 rfl R5.out ⟨by omega, fun e => by have := HRO.out _ e.symm; omega⟩ ⟨_, [], by simp [acceptE], heF, rfl⟩ (Nat.le_refl _) (show 1 ≤ 140737488355328 by decide))
        refine appendsG_step Kd.entryF y0.heap.size rfl _ _ 29 45 _ 96 rfl Tryz.underlying29 Tryz.infoEntry rfl (by decide) (by decide) (.slice Ao no co) b [acceptE J0] (some ⟨y4.heap.size, 0, none⟩) 1 1 (fun k => y0.heap.size ≤ k) (fun j => y0.heap.size ≤ j ∧ some j ≠ (Value.slice Ao no co).ownBlock) (fun j => y0.heap.size ≤ j ∧ some j ≠ (Value.slice Ao no co).ownBlock) rfl rfl rfl (K_row HR.out).1 (fun _ _ h => h) (fun _ h _ => h) O5.out (by omega) (by have := HL.out; omega) ?_
        intro vb y6 hOb hgb _
        have HOb := hid ((hOb.move (T' := fun k => w.heap.size ≤ k) (fun _ _ _ => rfl) (fun k h _ => Nat.le_trans (Nat.le_trans HB23.out.size U0.out.size) h)).lower (Nat.le_trans HB23.out.size U0.out.size))
        have U6 := hid (U5.out.trans ⟨hgb.os, hgb.tape, hgb.output, hgb.size, fun k hk => hgb.block k (Nat.lt_of_lt_of_le hk U5.out.size) (fun e => by have h1 := HRO.out k e.symm; have := U0.out.size; omega)⟩)
        clear he heB heF hOb hgb
        refine hK.out _ _ (HS.out _ U6.out) (fun hHeld => ?_)
        clear hK K
        (try simp only [Act.put, List.setIfInBounds_toArray, List.set_cons_zero, List.set_cons_succ])
        refine anyH_take 14 (v := ?_) rfl (by kernel_rfl) (by kernel_rfl) (by kernel_rfl) (fun _ _ _ h => h) (by rfl) hHeld ?_ ?_
        rotate_left
        · (intro w hSw; (try dsimp only at hSw); go_split_ands; go_simp; try with_reducible rfl)
        (try simp only [Act.put, List.setIfInBounds_toArray, List.set_cons_zero, List.set_cons_succ])
        refine anyH_take 15 (v := ?_) rfl (by kernel_rfl) (by kernel_rfl) (by kernel_rfl) (fun _ _ _ h => h) (by rfl) hHeld ?_ ?_
        rotate_left
        · (intro w hSw; (try dsimp only at hSw); go_split_ands; go_simp; try with_reducible rfl)
        (try simp only [Act.put, List.setIfInBounds_toArray, List.set_cons_zero, List.set_cons_succ])
        refine wpAnyH_done (by kernel_rfl) ?_ _
        go_wp2
        go_ret2
        rw [HTR.out, HAC.out]
        exact ⟨_, rfl, entryF_K (Kd.any HOb.out.K), fun _ => HOb.out, bThen HB23.out U6.out⟩
      · go_simp
        obtain ⟨y3, hy⟩ : ∃ y, y = y2.alloc (.cells (madeCells #[.int .i64 0] n) 3) := ⟨_, rfl⟩
        rw [← hy]
        have hb : Below y2.heap.size y2 y3 := by rw [hy]; exact bAlloc (Below.refl _ _) _
        have U3 := hid (bThen U2.out hb)
        have z3 : y2.heap.size ≤ y3.heap.size := hb.size
        have B3 := hid (Kd.below B2.out hb)
        have O3 := hid (O2.out.below hb)
        have hz : y3.heap[y2.heap.size]? = some (.cells (madeCells #[.int .i64 0] n) 3 (0, 0)) := by rw [hy]; exact heap_at rfl
        have M3 := hid (show I64.slice.K y3 (fun j => y2.heap.size ≤ j ∧ j < y3.heap.size) (List.replicate n 0) [.slice (some ⟨y2.heap.size, 0, none⟩) n n] from K_of_block n n (by simp) hz ⟨Nat.le_refl _, (Array.getElem?_eq_some_iff.1 hz).1⟩ (cells_rep rfl n) (Nat.le_refl _) (by have := HJ0.out.2; simp; omega))
        have Q3 := hid hz
        have hM9 := (Array.getElem?_eq_some_iff.1 hz).1
        clear hz hb hy
        refine hK.out _ _ (HS.out _ U3.out) (fun hHeld => ?_)
        clear hK K
        (try simp only [Act.put, List.setIfInBounds_toArray, List.set_cons_zero, List.set_cons_succ])
        refine anyH_one 6 rfl (by kernel_rfl) (fun K hK => ?_)
        go_simp
        have hsc := sclone_calls J0.needs JA jc y3 (by rw [← HN.out]; exact Kd.below HJN3.out U3.out) (by rw [← HN.out]; have := HJ0.out.2; omega)
        rw [← HN.out] at hsc
        refine hsc.mono ?_
        clear hsc
        rintro e y4 ⟨F, f, rfl, hK, hb⟩
        have U4 := hid (bThen U3.out hb)
        have z4 : y3.heap.size ≤ y4.heap.size := hb.size
        have B4 := hid (Kd.below B3.out hb)
        have O4 := hid (O3.out.below hb)
        have M4 := hid (Kd.below M3.out hb)
        have Q4 := hid ((hb.block _ (Array.getElem?_eq_some_iff.1 Q3.out).1).trans Q3.out)
        have F4 := hid (Kd.str.slice.mono (S' := fun j => y3.heap.size ≤ j ∧ j < y4.heap.size) (fun j h hl => ⟨h, hl⟩) hK)
        clear hK hb
        go_simp
        refine hK.out _ _ (HS.out _ U4.out) (fun hHeld => ?_)
        clear hK K
        (try simp only [Act.put, List.setIfInBounds_toArray, List.set_cons_zero, List.set_cons_succ])
        refine anyH_take 11 (v := ?_) rfl (by kernel_rfl) (by kernel_rfl) (by kernel_rfl) (fun _ _ _ h => h) (by rfl) hHeld ?_ ?_
        rotate_left
        · (intro w hSw; (try dsimp only at hSw); go_split_ands; go_simp; try with_reducible rfl)
        (try simp only [Act.put, List.setIfInBounds_toArray, List.set_cons_zero, List.set_cons_succ])
        refine anyH_one 12 rfl (by kernel_rfl) (fun K hK => ?_)
        go_simp
        obtain ⟨y5, hy⟩ : ∃ y, y = y4.alloc (.cells #[.int .i64 J0.id, .int .i64 0, .int .i64 1, .slice F n f, .slice (some ⟨y2.heap.size, 0, none⟩) n n, .slice (some ⟨y0.heap.size, 0, none⟩) n n] 45) := ⟨_, rfl⟩
        rw [← hy]
        have hb : Below y4.heap.size y4 y5 := by rw [hy]; exact bAlloc (Below.refl _ _) _
        have U5 := hid (bThen U4.out hb)
        have z5 : y4.heap.size ≤ y5.heap.size := hb.size
        have B5 := hid (Kd.below B4.out hb)
        have O5 := hid (O4.out.below hb)
        have M5 := hid (Kd.below M4.out hb)
        have Q5 := hid ((hb.block _ (Array.getElem?_eq_some_iff.1 Q4.out).1).trans Q4.out)
        have F5 := hid (Kd.below F4.out hb)
        have R5 := hid (show y5.heap[y4.heap.size]? = some (.cells #[.int .i64 J0.id, .int .i64 0, .int .i64 1, .slice F n f, .slice (some ⟨y2.heap.size, 0, none⟩) n n, .slice (some ⟨y0.heap.size, 0, none⟩) n n] 45 (0, 0)) by rw [hy]; exact heap_at rfl)
        clear hb hy
        refine hK.out _ _ (HS.out _ U5.out) (fun hHeld => ?_)
        clear hK K
        (try simp only [Act.put, List.setIfInBounds_toArray, List.set_cons_zero, List.set_cons_succ])
        refine anyH_one 13 rfl (by kernel_rfl) (fun K hK => ?_)
        have he := entry_of (w := y5) (S := fun j => y0.heap.size ≤ j ∧ some j ≠ (Value.slice Ao no co).ownBlock) (acceptE J0) (A := F) (a := f) (B := some ⟨y2.heap.size, 0, none⟩) (b := n) (D := some ⟨y0.heap.size, 0, none⟩) (d := n) (by show Kd.str.slice.K _ _ J0.needs [.slice F J0.needs.length f]; rw [← HN.out]; exact (Kd.str.slice.mono (S' := fun j => y0.heap.size ≤ j ∧ some j ≠ (Value.slice Ao no co).ownBlock) (fun j h _ => ⟨by omega, fun e => by have := HRO.out j e.symm; omega⟩) F5.out)) (by show I64.slice.K _ _ (List.replicate J0.needs.length 0) [.slice _ (List.replicate J0.needs.length (0 : Int)).length n]; rw [List.length_replicate, ← HN.out]; exact (I64.slice.mono (S' := fun j => y0.heap.size ≤ j ∧ some j ≠ (Value.slice Ao no co).ownBlock) (fun j h _ => ⟨by omega, fun e => by have := HRO.out j e.symm; omega⟩) M5.out)) (by show Kd.bool.slice.K _ _ (List.replicate J0.needs.length false) [.slice _ (List.replicate J0.needs.length false).length n]; rw [List.length_replicate, ← HN.out]; exact (Kd.bool.slice.mono (S' := fun j => y0.heap.size ≤ j ∧ some j ≠ (Value.slice Ao no co).ownBlock) (fun j h _ => ⟨by omega, fun e => by have := HRO.out j e.symm; omega⟩) B5.out))
        rw [show (acceptE J0).needs.length = n from HN.out.symm, show (acceptE J0).bound.length = n from (List.length_replicate).trans HN.out.symm, show (acceptE J0).done.length = n from (List.length_replicate).trans HN.out.symm] at he
        have heB : BoundFree y5 (fun j => y0.heap.size ≤ j ∧ some j ≠ (Value.slice Ao no co).ownBlock) (acceptE J0) [.int .i64 J0.id, .int .i64 0, .int .i64 1, .slice F n f, .slice (some ⟨y2.heap.size, 0, none⟩) n n, .slice (some ⟨y0.heap.size, 0, none⟩) n n] := ⟨some ⟨y2.heap.size, 0, none⟩, n, by rw [show (acceptE J0).bound.length = n from (List.length_replicate).trans HN.out.symm]; rfl, .inr ⟨y2.heap.size, _, rfl, ⟨by omega, fun e => by have := HRO.out _ e.symm; omega⟩, Q5.out, by rw [show (acceptE J0).bound.length = n from (List.length_replicate).trans HN.out.symm]; exact HMS.out⟩⟩
        have heF := (show Kd.entryF.K _ _ (acceptE J0) [.int .i64 J0.id, .int .i64 0, .int .i64 1, .slice F n f, .slice (some ⟨y2.heap.size, 0, none⟩) n n, .slice (some ⟨y0.heap.size, 0, none⟩) n n] from And.intro he heB)
        have HR := hid (show Kd.entryF.slice.K y5 (fun j => y0.heap.size ≤ j ∧ some j ≠ (Value.slice Ao no co).ownBlock) [acceptE J0] [.slice (some ⟨y4.heap.size, 0, none⟩) 1 1] from K_of_block (d := Kd.entryF) 1 1 rfl R5.out ⟨by omega, fun e => by have := HRO.out _ e.symm; omega⟩ ⟨_, [], by simp [acceptE], heF, rfl⟩ (Nat.le_refl _) (show 1 ≤ 140737488355328 by decide))
        refine appendsG_step Kd.entryF y0.heap.size rfl _ _ 29 45 _ 96 rfl Tryz.underlying29 Tryz.infoEntry rfl (by decide) (by decide) (.slice Ao no co) b [acceptE J0] (some ⟨y4.heap.size, 0, none⟩) 1 1 (fun k => y0.heap.size ≤ k) (fun j => y0.heap.size ≤ j ∧ some j ≠ (Value.slice Ao no co).ownBlock) (fun j => y0.heap.size ≤ j ∧ some j ≠ (Value.slice Ao no co).ownBlock) rfl rfl rfl (K_row HR.out).1 (fun _ _ h => h) (fun _ h _ => h) O5.out (by omega) (by have := HL.out; omega) ?_
        intro vb y6 hOb hgb _
        have HOb := hid ((hOb.move (T' := fun k => w.heap.size ≤ k) (fun _ _ _ => rfl) (fun k h _ => Nat.le_trans (Nat.le_trans HB23.out.size U0.out.size) h)).lower (Nat.le_trans HB23.out.size U0.out.size))
        have U6 := hid (U5.out.trans ⟨hgb.os, hgb.tape, hgb.output, hgb.size, fun k hk => hgb.block k (Nat.lt_of_lt_of_le hk U5.out.size) (fun e => by have h1 := HRO.out k e.symm; have := U0.out.size; omega)⟩)
        clear he heB heF hOb hgb
        refine hK.out _ _ (HS.out _ U6.out) (fun hHeld => ?_)
        clear hK K
        (try simp only [Act.put, List.setIfInBounds_toArray, List.set_cons_zero, List.set_cons_succ])
        refine anyH_take 14 (v := ?_) rfl (by kernel_rfl) (by kernel_rfl) (by kernel_rfl) (fun _ _ _ h => h) (by rfl) hHeld ?_ ?_
        rotate_left
        · (intro w hSw; (try dsimp only at hSw); go_split_ands; go_simp; try with_reducible rfl)
        (try simp only [Act.put, List.setIfInBounds_toArray, List.set_cons_zero, List.set_cons_succ])
        refine anyH_take 15 (v := ?_) rfl (by kernel_rfl) (by kernel_rfl) (by kernel_rfl) (fun _ _ _ h => h) (by rfl) hHeld ?_ ?_
        rotate_left
        · (intro w hSw; (try dsimp only at hSw); go_split_ands; go_simp; try with_reducible rfl)
        (try simp only [Act.put, List.setIfInBounds_toArray, List.set_cons_zero, List.set_cons_succ])
        refine wpAnyH_done (by kernel_rfl) ?_ _
        go_wp2
        go_ret2
        rw [HTR.out, HAC.out]
        exact ⟨_, rfl, entryF_K (Kd.any HOb.out.K), fun _ => HOb.out, bThen HB23.out U6.out⟩
    · go_simp
      obtain ⟨y2, hy⟩ : ∃ y, y = y1.alloc (.cells (madeCells #[.int .i64 0] n) 3) := ⟨_, rfl⟩
      rw [← hy]
      have hb : Below y1.heap.size y1 y2 := by rw [hy]; exact bAlloc (Below.refl _ _) _
      have U2 := hid (bThen U1.out hb)
      have z2 : y1.heap.size ≤ y2.heap.size := hb.size
      have B2 := hid (Kd.below B1.out hb)
      have hz : y2.heap[y1.heap.size]? = some (.cells (madeCells #[.int .i64 0] n) 3 (0, 0)) := by rw [hy]; exact heap_at rfl
      have M2 := hid (show I64.slice.K y2 (fun j => y1.heap.size ≤ j ∧ j < y2.heap.size) (List.replicate n 0) [.slice (some ⟨y1.heap.size, 0, none⟩) n n] from K_of_block n n (by simp) hz ⟨Nat.le_refl _, (Array.getElem?_eq_some_iff.1 hz).1⟩ (cells_rep rfl n) (Nat.le_refl _) (by have := HJ0.out.2; simp; omega))
      have Q2 := hid hz
      have hM9 := (Array.getElem?_eq_some_iff.1 hz).1
      clear hz hb hy
      refine hK.out _ _ (HS.out _ U2.out) (fun hHeld => ?_)
      clear hK K
      (try simp only [Act.put, List.setIfInBounds_toArray, List.set_cons_zero, List.set_cons_succ])
      refine anyH_one 1 rfl (by kernel_rfl) (fun K hK => ?_)
      go_simp
      refine (bcloneF_calls b _ y2 (Kd.below HBK3.out U2.out) HF.out (by have := HL.out; omega)).mono ?_
      rintro e y3 ⟨o, rfl, hO, hb⟩
      have U3 := hid (bThen U2.out hb)
      have z3 : y2.heap.size ≤ y3.heap.size := hb.size
      have B3 := hid (Kd.below B2.out hb)
      have M3 := hid (Kd.below M2.out hb)
      have Q3 := hid ((hb.block _ (Array.getElem?_eq_some_iff.1 Q2.out).1).trans Q2.out)
      have O3 := hid ((hO.move (T' := fun k => y0.heap.size ≤ k) (fun _ _ _ => rfl) (fun k h _ => (show y0.heap.size ≤ k by have : y2.heap.size ≤ k := h; omega))).lower (show y0.heap.size ≤ y2.heap.size by omega))
      obtain ⟨Ao, no, co, rfl, hno, _⟩ := hO.shape'
      have HRO := hid (fun j (h : (Value.slice Ao no co).ownBlock = some j) => (show y2.heap.size ≤ j ∧ j < y3.heap.size from hO.lt j h))
      clear hO hb hno
      go_simp
      refine hK.out _ _ (HS.out _ U3.out) (fun hHeld => ?_)
      clear hK K
      (try simp only [Act.put, List.setIfInBounds_toArray, List.set_cons_zero, List.set_cons_succ])
      refine anyH_one 6 rfl (by kernel_rfl) (fun K hK => ?_)
      go_simp
      have hsc := sclone_calls J0.needs JA jc y3 (by rw [← HN.out]; exact Kd.below HJN3.out U3.out) (by rw [← HN.out]; have := HJ0.out.2; omega)
      rw [← HN.out] at hsc
      refine hsc.mono ?_
      clear hsc
      rintro e y4 ⟨F, f, rfl, hK, hb⟩
      have U4 := hid (bThen U3.out hb)
      have z4 : y3.heap.size ≤ y4.heap.size := hb.size
      have B4 := hid (Kd.below B3.out hb)
      have M4 := hid (Kd.below M3.out hb)
      have Q4 := hid ((hb.block _ (Array.getElem?_eq_some_iff.1 Q3.out).1).trans Q3.out)
      have O4 := hid (O3.out.below hb)
      have F4 := hid (Kd.str.slice.mono (S' := fun j => y3.heap.size ≤ j ∧ j < y4.heap.size) (fun j h hl => ⟨h, hl⟩) hK)
      clear hK hb
      go_simp
      refine hK.out _ _ (HS.out _ U4.out) (fun hHeld => ?_)
      clear hK K
      (try simp only [Act.put, List.setIfInBounds_toArray, List.set_cons_zero, List.set_cons_succ])
      refine anyH_take 11 (v := ?_) rfl (by kernel_rfl) (by kernel_rfl) (by kernel_rfl) (fun _ _ _ h => h) (by rfl) hHeld ?_ ?_
      rotate_left
      · (intro w hSw; (try dsimp only at hSw); go_split_ands; go_simp; try with_reducible rfl)
      (try simp only [Act.put, List.setIfInBounds_toArray, List.set_cons_zero, List.set_cons_succ])
      refine anyH_one 12 rfl (by kernel_rfl) (fun K hK => ?_)
      go_simp
      obtain ⟨y5, hy⟩ : ∃ y, y = y4.alloc (.cells #[.int .i64 J0.id, .int .i64 0, .int .i64 1, .slice F n f, .slice (some ⟨y1.heap.size, 0, none⟩) n n, .slice (some ⟨y0.heap.size, 0, none⟩) n n] 45) := ⟨_, rfl⟩
      rw [← hy]
      have hb : Below y4.heap.size y4 y5 := by rw [hy]; exact bAlloc (Below.refl _ _) _
      have U5 := hid (bThen U4.out hb)
      have z5 : y4.heap.size ≤ y5.heap.size := hb.size
      have B5 := hid (Kd.below B4.out hb)
      have M5 := hid (Kd.below M4.out hb)
      have Q5 := hid ((hb.block _ (Array.getElem?_eq_some_iff.1 Q4.out).1).trans Q4.out)
      have O5 := hid (O4.out.below hb)
      have F5 := hid (Kd.below F4.out hb)
      have R5 := hid (show y5.heap[y4.heap.size]? = some (.cells #[.int .i64 J0.id, .int .i64 0, .int .i64 1, .slice F n f, .slice (some ⟨y1.heap.size, 0, none⟩) n n, .slice (some ⟨y0.heap.size, 0, none⟩) n n] 45 (0, 0)) by rw [hy]; exact heap_at rfl)
      clear hb hy
      refine hK.out _ _ (HS.out _ U5.out) (fun hHeld => ?_)
      clear hK K
      (try simp only [Act.put, List.setIfInBounds_toArray, List.set_cons_zero, List.set_cons_succ])
      refine anyH_one 13 rfl (by kernel_rfl) (fun K hK => ?_)
      have he := entry_of (w := y5) (S := fun j => y0.heap.size ≤ j ∧ some j ≠ (Value.slice Ao no co).ownBlock) (acceptE J0) (A := F) (a := f) (B := some ⟨y1.heap.size, 0, none⟩) (b := n) (D := some ⟨y0.heap.size, 0, none⟩) (d := n) (by show Kd.str.slice.K _ _ J0.needs [.slice F J0.needs.length f]; rw [← HN.out]; exact (Kd.str.slice.mono (S' := fun j => y0.heap.size ≤ j ∧ some j ≠ (Value.slice Ao no co).ownBlock) (fun j h _ => ⟨by omega, fun e => by have := HRO.out j e.symm; omega⟩) F5.out)) (by show I64.slice.K _ _ (List.replicate J0.needs.length 0) [.slice _ (List.replicate J0.needs.length (0 : Int)).length n]; rw [List.length_replicate, ← HN.out]; exact (I64.slice.mono (S' := fun j => y0.heap.size ≤ j ∧ some j ≠ (Value.slice Ao no co).ownBlock) (fun j h _ => ⟨by omega, fun e => by have := HRO.out j e.symm; omega⟩) M5.out)) (by show Kd.bool.slice.K _ _ (List.replicate J0.needs.length false) [.slice _ (List.replicate J0.needs.length false).length n]; rw [List.length_replicate, ← HN.out]; exact (Kd.bool.slice.mono (S' := fun j => y0.heap.size ≤ j ∧ some j ≠ (Value.slice Ao no co).ownBlock) (fun j h _ => ⟨by omega, fun e => by have := HRO.out j e.symm; omega⟩) B5.out))
      rw [show (acceptE J0).needs.length = n from HN.out.symm, show (acceptE J0).bound.length = n from (List.length_replicate).trans HN.out.symm, show (acceptE J0).done.length = n from (List.length_replicate).trans HN.out.symm] at he
      have heB : BoundFree y5 (fun j => y0.heap.size ≤ j ∧ some j ≠ (Value.slice Ao no co).ownBlock) (acceptE J0) [.int .i64 J0.id, .int .i64 0, .int .i64 1, .slice F n f, .slice (some ⟨y1.heap.size, 0, none⟩) n n, .slice (some ⟨y0.heap.size, 0, none⟩) n n] := ⟨some ⟨y1.heap.size, 0, none⟩, n, by rw [show (acceptE J0).bound.length = n from (List.length_replicate).trans HN.out.symm]; rfl, .inr ⟨y1.heap.size, _, rfl, ⟨by omega, fun e => by have := HRO.out _ e.symm; omega⟩, Q5.out, by rw [show (acceptE J0).bound.length = n from (List.length_replicate).trans HN.out.symm]; exact HMS.out⟩⟩
      have heF := (show Kd.entryF.K _ _ (acceptE J0) [.int .i64 J0.id, .int .i64 0, .int .i64 1, .slice F n f, .slice (some ⟨y1.heap.size, 0, none⟩) n n, .slice (some ⟨y0.heap.size, 0, none⟩) n n] from And.intro he heB)
      have HR := hid (show Kd.entryF.slice.K y5 (fun j => y0.heap.size ≤ j ∧ some j ≠ (Value.slice Ao no co).ownBlock) [acceptE J0] [.slice (some ⟨y4.heap.size, 0, none⟩) 1 1] from K_of_block (d := Kd.entryF) 1 1 rfl R5.out ⟨by omega, fun e => by have := HRO.out _ e.symm; omega⟩ ⟨_, [], by simp [acceptE], heF, rfl⟩ (Nat.le_refl _) (show 1 ≤ 140737488355328 by decide))
      refine appendsG_step Kd.entryF y0.heap.size rfl _ _ 29 45 _ 96 rfl Tryz.underlying29 Tryz.infoEntry rfl (by decide) (by decide) (.slice Ao no co) b [acceptE J0] (some ⟨y4.heap.size, 0, none⟩) 1 1 (fun k => y0.heap.size ≤ k) (fun j => y0.heap.size ≤ j ∧ some j ≠ (Value.slice Ao no co).ownBlock) (fun j => y0.heap.size ≤ j ∧ some j ≠ (Value.slice Ao no co).ownBlock) rfl rfl rfl (K_row HR.out).1 (fun _ _ h => h) (fun _ h _ => h) O5.out (by omega) (by have := HL.out; omega) ?_
      intro vb y6 hOb hgb _
      have HOb := hid ((hOb.move (T' := fun k => w.heap.size ≤ k) (fun _ _ _ => rfl) (fun k h _ => Nat.le_trans (Nat.le_trans HB23.out.size U0.out.size) h)).lower (Nat.le_trans HB23.out.size U0.out.size))
      have U6 := hid (U5.out.trans ⟨hgb.os, hgb.tape, hgb.output, hgb.size, fun k hk => hgb.block k (Nat.lt_of_lt_of_le hk U5.out.size) (fun e => by have h1 := HRO.out k e.symm; have := U0.out.size; omega)⟩)
      clear he heB heF hOb hgb
      refine hK.out _ _ (HS.out _ U6.out) (fun hHeld => ?_)
      clear hK K
      (try simp only [Act.put, List.setIfInBounds_toArray, List.set_cons_zero, List.set_cons_succ])
      refine anyH_take 14 (v := ?_) rfl (by kernel_rfl) (by kernel_rfl) (by kernel_rfl) (fun _ _ _ h => h) (by rfl) hHeld ?_ ?_
      rotate_left
      · (intro w hSw; (try dsimp only at hSw); go_split_ands; go_simp; try with_reducible rfl)
      (try simp only [Act.put, List.setIfInBounds_toArray, List.set_cons_zero, List.set_cons_succ])
      refine anyH_take 15 (v := ?_) rfl (by kernel_rfl) (by kernel_rfl) (by kernel_rfl) (fun _ _ _ h => h) (by rfl) hHeld ?_ ?_
      rotate_left
      · (intro w hSw; (try dsimp only at hSw); go_split_ands; go_simp; try with_reducible rfl)
      (try simp only [Act.put, List.setIfInBounds_toArray, List.set_cons_zero, List.set_cons_succ])
      refine wpAnyH_done (by kernel_rfl) ?_ _
      go_wp2
      go_ret2
      rw [HTR.out, HAC.out]
      exact ⟨_, rfl, entryF_K (Kd.any HOb.out.K), fun _ => HOb.out, bThen HB23.out U6.out⟩
set_option maxHeartbeats 4000000 in
set_option maxRecDepth 100000 in
theorem estepAO_calls (C : ConfS) (CA CB : Option Addr) (ca cb : Nat) (js : List JobS) (JA0 : Option Addr) (jn jcap : Nat) (b : List EntryS) (v : Value) (id t k : Int) (w : World) (hC : CAt w C CA CB ca cb) (hj : Kd.job.slice.K w Any js [.slice JA0 jn jcap]) (hb : Kd.entry.slice.K w Any b [v]) (hF : ∀ E ∈ b, Fits E) (hl : b.length ≤ 1000) (hjs : ∀ J ∈ js, (∀ s ∈ J.needs, s.size ≤ 140737488351232) ∧ J.needs.length ≤ 1000) :
    Calls Tryz.prog 10 #[.agg #[.int .i64 C.scheds, .int .i64 C.lease, .int .i64 C.again, .int .i64 C.room, .int .i64 C.out, .slice CA C.names.length ca, .slice CB C.workers.length cb], .slice JA0 jn jcap, v, .agg #[.int .i64 1, .int .i64 id, .int .i64 t, .int .i64 k]] w fun e w' => ∃ o, e = .returned (.tuple #[o, .bool (okA C js b id t k)]) ∧ Kd.entry.slice.K w' Any (acceptS C js b id t k) [o] ∧ (okA C js b id t k = true → Own Kd.entryF 45 w' w.heap.size (fun j => w.heap.size ≤ j) o (acceptS C js b id t k)) ∧ Below w.heap.size w w' := by
  obtain ⟨V, hV⟩ : ∃ V, V = (w.alloc (.cells #[.int .i64 C.scheds, .int .i64 C.lease, .int .i64 C.again, .int .i64 C.room, .int .i64 C.out, .slice CA C.names.length ca, .slice CB C.workers.length cb] 25)).alloc (.cells #[.int .i64 1, .int .i64 id, .int .i64 t, .int .i64 k] 31) := ⟨_, rfl⟩
  have hb0 : Below w.heap.size w V := by rw [hV]; exact bAlloc (bAlloc (Below.refl _ _) _) _
  have hz1 : V.heap[w.heap.size]? = some (.cells #[.int .i64 C.scheds, .int .i64 C.lease, .int .i64 C.again, .int .i64 C.room, .int .i64 C.out, .slice CA C.names.length ca, .slice CB C.workers.length cb] 25 (0, 0)) := by rw [hV, Below.heap_alloc _ _ _ (by simp)]; exact heap_at rfl
  have hz3 : V.heap[w.heap.size + 1]? = some (.cells #[.int .i64 1, .int .i64 id, .int .i64 t, .int .i64 k] 31 (0, 0)) := by rw [hV]; exact heap_at (by simp)
  have HBV := hid hb0
  have HC := hid (hC.below hb0)
  have HJ := hid (Kd.below hj hb0)
  have HBK := hid (Kd.below hb hb0)
  have HF := hid hF
  have HL := hid hl
  have HJS := hid hjs
  have hEq := hV.symm
  obtain ⟨A, c, he, _, _, _⟩ := hb
  injection he with he _
  subst he
  obtain ⟨q, hq⟩ : ∃ q, q = b.length := ⟨_, rfl⟩
  have HQ := hid hq
  rw [← hq] at HBK ⊢
  obtain ⟨c0, c1, c2, c3, c4, c5, c6⟩ := conf_box hz1 V (Below.refl _ _)
  obtain ⟨y0, _, _⟩ := cells_of_block hz3
  have x0 := y0 0 _ rfl
  have x1 := y0 1 _ rfl
  have x2 := y0 2 _ rfl
  have x3 := y0 3 _ rfl
  clear hV hC hj hb0 hz1 hz3 hF hl hjs hq y0
  go_enter Tryz.func10, Tryz.ntmps10
  go_wp2_with fail
  refine (eacceptedO_calls C CA CB ca cb js JA0 jn jcap b _ 1 id t k V HC.out HJ.out HBK.out HF.out HL.out HJS.out).mono ?_
  rintro e w1 ⟨o, rfl, hO, hw, hb1⟩
  have HW := hid (fun h => ((hw h).move (T' := fun k => w.heap.size ≤ k) (fun _ _ _ => rfl) (fun k h _ => Nat.le_trans HBV.out.size h)).lower HBV.out.size)
  clear hw
  have HO := hid hO
  have HB1 := hid hb1
  obtain ⟨Ao, co, he, _, _, _⟩ := hO
  injection he with he _
  subst he
  clear hb1
  go_wp2
  go_ret2
  exact ⟨_, rfl, HO.out, HW.out, bThen HBV.out HB1.out⟩
theorem estepA_calls (C : ConfS) (CA CB : Option Addr) (ca cb : Nat) (js : List JobS) (JA0 : Option Addr) (jn jcap : Nat) (b : List EntryS) (v : Value) (id t k : Int) (w : World) (hC : CAt w C CA CB ca cb) (hj : Kd.job.slice.K w Any js [.slice JA0 jn jcap]) (hb : Kd.entry.slice.K w Any b [v]) (hF : ∀ E ∈ b, Fits E) (hl : b.length ≤ 1000) (hjs : ∀ J ∈ js, (∀ s ∈ J.needs, s.size ≤ 140737488351232) ∧ J.needs.length ≤ 1000) :
    Calls Tryz.prog 10 #[.agg #[.int .i64 C.scheds, .int .i64 C.lease, .int .i64 C.again, .int .i64 C.room, .int .i64 C.out, .slice CA C.names.length ca, .slice CB C.workers.length cb], .slice JA0 jn jcap, v, .agg #[.int .i64 1, .int .i64 id, .int .i64 t, .int .i64 k]] w fun e w' => ∃ o, e = .returned (.tuple #[o, .bool (okA C js b id t k)]) ∧ Kd.entry.slice.K w' Any (acceptS C js b id t k) [o] ∧ Below w.heap.size w w' := by
  refine (estepAO_calls C CA CB ca cb js JA0 jn jcap b v id t k w hC hj hb hF hl hjs).mono ?_
  rintro e w' ⟨o, rfl, hO, _, hb'⟩
  exact ⟨o, rfl, hO, hb'⟩
end Go.Proofs.YtgedkcglkhleoaaGreatDoor
