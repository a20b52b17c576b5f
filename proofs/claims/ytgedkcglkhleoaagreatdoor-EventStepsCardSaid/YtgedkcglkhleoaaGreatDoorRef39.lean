/- siskinref39.Accept. -/
import Derived.Test.YtgedkcglkhleoaaGreatDoorEvent7
import Derived.Test.YtgedkcglkhleoaaGreatDoorBase
import Derived.Deep.CutBlock
namespace Go.Proofs.YtgedkcglkhleoaaGreatDoor
open Go.RowKit

/-- Needs that are short enough to be read. -/
def Short24 (js : List JobS) : Prop := ∀ J ∈ js, ∀ s ∈ J.needs, s.size * 24 ≤ 140737488351232
theorem ne_own39 {k g n c : Nat} (h : k ≠ g) : some k ≠ (Value.slice (some ⟨g, 0, none⟩) n c).ownBlock := fun e => h (Option.some.inj e)
theorem idx39 (x y z : Int) (W : World) : (Instr.index 76 (.agg #[.int .i64 x, .int .i64 y, .int .i64 z]) (.int .i64 2)).run Tryz.prog W = .ok (.int .i64 z) W := by kernel_rfl
theorem findE_some0 {b : List EntryS} {id : Int} (h : 0 ≤ placeE b id) : (findE b id).isSome = true := by
  obtain ⟨i, E, hpi, hx, _, _⟩ := idxE_some h
  have h2 : placeE b id = i := hpi
  rw [findE_some h2 hx]; rfl
set_option maxHeartbeats 4000000 in
set_option maxRecDepth 100000 in
theorem raccept39_calls (C : ConfS) (CA CB : Option Addr) (ca cb : Nat) (js : List JobS) (JA0 : Option Addr) (jn jcap : Nat) (b : List EntryS) (v : Value) (kd id t k : Int) (w : World) (hC : CAt w C CA CB ca cb) (hj : Kd.job.slice.K w Any js [.slice JA0 jn jcap]) (hb : Kd.entry.slice.K w Any b [v]) (hl : b.length ≤ 1000) (hjs : JsOk js) (h24 : Short24 js) (hwl : C.workers.length ≤ 1000000) :
    Calls Tryz.prog 26 #[.agg #[.int .i64 C.scheds, .int .i64 C.lease, .int .i64 C.again, .int .i64 C.room, .int .i64 C.out, .slice CA C.names.length ca, .slice CB C.workers.length cb], .slice JA0 jn jcap, v, .agg #[.int .i64 kd, .int .i64 id, .int .i64 t, .int .i64 k]] w fun e w' => ∃ o, e = .returned (.tuple #[o, .bool (okA C js b id t k)]) ∧ Kd.entry.slice.K w' Any (acceptS C js b id t k) [o] ∧ Below w.heap.size w w' := by
  obtain ⟨V, hV⟩ : ∃ V, V = (w.alloc (.cells #[.int .i64 C.scheds, .int .i64 C.lease, .int .i64 C.again, .int .i64 C.room, .int .i64 C.out, .slice CA C.names.length ca, .slice CB C.workers.length cb] 25)).alloc (.cells #[.int .i64 kd, .int .i64 id, .int .i64 t, .int .i64 k] 31) := ⟨_, rfl⟩
  have hb0 : Below w.heap.size w V := by rw [hV]; exact bAlloc (bAlloc (Below.refl _ _) _) _
  have HBV := hid hb0
  have HBC := hid (boxC_of (b := w.heap.size) (by rw [hV, Below.heap_alloc _ _ _ (by simp)]; exact heap_at rfl) (hC.below hb0))
  have HZ3 := hid (show V.heap[w.heap.size + 1]? = some (.cells #[.int .i64 kd, .int .i64 id, .int .i64 t, .int .i64 k] 31 (0, 0)) by rw [hV]; exact heap_at (by simp))
  have HEV := hid (fun (u : World) (h : Below V.heap.size V u) => (show u.cell? ⟨w.heap.size + 1, 0, none⟩ = some (.int .i64 kd) ∧ u.cell? ⟨w.heap.size + 1, 1, none⟩ = some (.int .i64 id) ∧ u.cell? ⟨w.heap.size + 1, 2, none⟩ = some (.int .i64 t) ∧ u.cell? ⟨w.heap.size + 1, 3, none⟩ = some (.int .i64 k) from by
    obtain ⟨y0, _, _⟩ := cells_of_block ((h.block (w.heap.size + 1) (Array.getElem?_eq_some_iff.1 HZ3.out).1).trans HZ3.out)
    exact ⟨y0 0 _ rfl, y0 1 _ rfl, y0 2 _ rfl, y0 3 _ rfl⟩))
  have HVS := hid (show V.heap.size = w.heap.size + 2 by rw [hV]; simp)
  have HBK := hid (Kd.below (Kd.entry.slice.mono (S' := fun j => j < w.heap.size) (fun _ _ h => h) hb) hb0)
  have HJ := hid (Kd.below (Kd.job.slice.mono (S' := fun j => j < w.heap.size) (fun _ _ h => h) hj) hb0)
  have HL := hid hl
  have HJS := hid hjs
  have H24 := hid h24
  have HWL := hid hwl
  have hEq := hV.symm
  obtain ⟨A, c, he, _, _, _⟩ := hb
  injection he with he _
  subst he
  obtain ⟨A0, c0, he, _, hjm, _⟩ := hj
  injection he with he _
  injection he with hA0 hjn hc0
  clear hA0 hc0
  have HJN := hid hjn
  have HJM := hid (show jn ≤ 140737488355328 by rw [hjn]; exact hjm)
  obtain ⟨q, hq⟩ : ∃ q, q = b.length := ⟨_, rfl⟩
  have HQ := hid hq
  rw [← hq] at HBK ⊢
  have HNO := hid (fun (u : World) (hu : Below V.heap.size V u) (h : okA C js b id t k = false) => (show ∃ o, (Ending.returned (.tuple #[.slice A q c, .bool false]) : Ending) = .returned (.tuple #[o, .bool (okA C js b id t k)]) ∧ Kd.entry.slice.K u Any (acceptS C js b id t k) [o] ∧ Below w.heap.size w u from by
    rw [h, acceptS_no h]
    exact ⟨_, rfl, Kd.any (Kd.below HBK.out hu), bThen HBV.out hu⟩))
  have HOK := hid (show okA C js b id t k = (!(findE b id).isSome && ((findJ js id).isSome && (decide (t = 0) && (decide (k = 0) && decide ((checkJ C.names C.workers ((findJ js id).getD zeroJ).id ((findJ js id).getD zeroJ).needs).2.2 = 0))))) from rfl)
  have HYES := hid (show okA C js b id t k = true → acceptS C js b id t k = b ++ [acceptE ((findJ js id).getD zeroJ)] from fun h => by unfold acceptS; rw [h]; rfl)
  have hidx := idx39
  obtain ⟨x0, x1, x2, x3⟩ := HEV.out V (Below.refl _ _)
  clear hV hC hb0 hl hjs h24 hwl hjn hjm hq
  by_cases h0 : t = 0
  case neg =>
    have hne : (t != 0) = true := by rw [bne_iff_ne]; exact h0
    have HFL := hid (show okA C js b id t k = false by rw [HOK.out, decide_eq_false h0]; simp)
    go_enter Tryz.func26, Tryz.ntmps26
    go_wp2
    go_ret2
    exact HNO.out _ (Below.refl _ _) HFL.out
  subst h0
  by_cases h0 : k = 0
  case neg =>
    have hne : (k != 0) = true := by rw [bne_iff_ne]; exact h0
    have HFL := hid (show okA C js b id 0 k = false by rw [HOK.out, decide_eq_false h0]; simp)
    go_enter Tryz.func26, Tryz.ntmps26
    go_wp2
    go_ret2
    exact HNO.out _ (Below.refl _ _) HFL.out
  subst h0
  go_enter Tryz.func26, Tryz.ntmps26
  go_wp2_with fail
  refine (rplace_calls20 b id _ V (Kd.any HBK.out)).mono ?_
  rintro e w1 ⟨rfl, rfl⟩
  by_cases hp : 0 ≤ placeE b id
  case pos =>
    have HFL := hid (show okA C js b id 0 0 = false by rw [HOK.out, findE_some0 hp]; rfl)
    obtain ⟨i, E, hpi, _, _, _⟩ := idxE_some hp
    have hpl : placeE b id = (i : Int) := hpi
    rw [hpl]
    have hi0 : (0 : Int) ≤ (i : Int) := by omega
    clear hp hpi hpl
    go_wp2
    go_ret2
    exact HNO.out _ (Below.refl _ _) HFL.out
  have HFN := hid (findE_none hp)
  have hpn : placeE b id = -1 := idxE_neg hp
  rw [hpn]
  clear hp hpn
  go_wp2
  go_loopw [10] (fun i wr => ∃ m : Nat, m ≤ jn ∧ i = .int .i64 m ∧ Hid (∀ (j : Nat) J', j < m → js[j]? = some J' → (J'.id == id) = false) ∧ Hid (Below V.heap.size V wr)) (fun i _ => jn - (intOf i).toNat)
  case atStart => exact ⟨0, by omega, rfl, hid (fun j E' h => by omega), hid (Below.refl _ _)⟩
  case round =>
    obtain ⟨m, hm, rfl, HN, HB⟩ := hrel
    have hjmx := HJM.out
    by_cases hlt : m < jn
    case neg =>
      obtain rfl : m = jn := by omega
      have HFE := hid (findJ_none (id := id) (js := js) (fun i E' hj hx => HN.out i E' (by rw [HJN.out]; exact hj) hx))
      have HFL := hid (show okA C js b id 0 0 = false by rw [HOK.out, HFE.out]; simp)
      go_wp2
      go_ret2
      exact HNO.out _ HB.out HFL.out
    obtain ⟨a, J, JA, jc, rfl, hx, k1, r0, r1⟩ := (K_row (Kd.below HJ.out HB.out)).1.at_job m (by rw [← HJN.out]; exact hlt)
    have HX := hid hx
    have hltI : (m : Int) < (jn : Int) := by omega
    have hm0 : (0 : Int) ≤ (m : Int) := by omega
    have HK1 := hid k1
    obtain ⟨x0, x1, x2, x3⟩ := HEV.out wr HB.out
    clear hx k1
    cases hpe : J.id == id
    case false =>
      have hne : (J.id != id) = true := by rw [bne, hpe]; rfl
      have HN2 := hid (show ∀ (i : Nat) E', i < m + 1 → js[i]? = some E' → (E'.id == id) = false from fun i E' hj hx => by
        rcases Nat.lt_or_ge i m with h | h
        · exact HN.out i E' h hx
        · rw [show i = m by omega, HX.out] at hx
          rw [← Option.some.inj hx]; exact hpe)
      have HBn := hid (fun nq => below_drewN HB.out nq)
      go_wp2_with fail
      go_quiet (fail)
      go_wp2
      go_roundw
      case rel => exact ⟨m + 1, by omega, by go_num, HN2, hid (HBn.out _)⟩
      case measure => simp [intOf]; omega
    have hne : (J.id != id) = false := by rw [bne, hpe]; rfl
    have HF := hid (findJ_at HX.out hpe HN.out)
    have hJid : J.id = id := by simpa using hpe
    have HJI := hid hJid
    rw [HF.out] at HOK HYES
    have HG := hid (HJS.out J (List.mem_of_getElem? HX.out))
    have HG24 := hid (H24.out J (List.mem_of_getElem? HX.out))
    have HBn := hid (fun nq => show Below V.heap.size V (wr.drewN nq) from below_drewN HB.out nq)
    have HWn := hid (fun nq => show Below wr.heap.size wr (wr.drewN nq) from below_drewN (Below.refl _ _) nq)
    have HJC := hid (fun (u : World) (hb : Below wr.heap.size wr u) => show (u.cell? (a.add (m * 2)) = some (.int .i64 J.id) ∧ u.cell? ⟨(a.add (m * 2)).block, (a.add (m * 2)).off + 1, none⟩ = some (.slice JA J.needs.length jc)) from ⟨(hb.cell (World.block_lt_of_cell? _ _ r0)).trans r0, (hb.cell (World.block_lt_of_cell? _ _ r1)).trans r1⟩)
    have HSC := hid (fun (u : World) (hb : Below wr.heap.size wr u) => show ((u.cell? ⟨w.heap.size, 0, none⟩ = some (.int .i64 C.scheds) ∧ u.cell? ⟨w.heap.size, 1, none⟩ = some (.int .i64 C.lease) ∧ u.cell? ⟨w.heap.size, 2, none⟩ = some (.int .i64 C.again) ∧ u.cell? ⟨w.heap.size, 3, none⟩ = some (.int .i64 C.room) ∧ u.cell? ⟨w.heap.size, 4, none⟩ = some (.int .i64 C.out) ∧ u.cell? ⟨w.heap.size, 5, none⟩ = some (.slice CA C.names.length ca) ∧ u.cell? ⟨w.heap.size, 6, none⟩ = some (.slice CB C.workers.length cb)) ∧ u.cell? (a.add (m * 2)) = some (.int .i64 J.id) ∧ u.cell? ⟨(a.add (m * 2)).block, (a.add (m * 2)).off + 1, none⟩ = some (.slice JA J.needs.length jc)) from ⟨(HBC.out.below (HB.out.trans (hb.mono HB.out.size))).1, HJC.out u hb⟩)
    obtain ⟨p1, p2, er, hck⟩ : ∃ x y z, checkJ C.names C.workers J.id J.needs = (x, y, z) := ⟨_, _, _, rfl⟩
    have HCK := hid hck
    have HER := hid (show (checkJ C.names C.workers J.id J.needs).2.2 = er by rw [hck])
    clear hJid hpe hck hEq
    go_wp2_with fail
    go_quiet (fail)
    go_wp2_with fail
    refine wp_region_held_drew (S := fun w' => (w'.cell? ⟨w.heap.size, 0, none⟩ = some (.int .i64 C.scheds) ∧ w'.cell? ⟨w.heap.size, 1, none⟩ = some (.int .i64 C.lease) ∧ w'.cell? ⟨w.heap.size, 2, none⟩ = some (.int .i64 C.again) ∧ w'.cell? ⟨w.heap.size, 3, none⟩ = some (.int .i64 C.room) ∧ w'.cell? ⟨w.heap.size, 4, none⟩ = some (.int .i64 C.out) ∧ w'.cell? ⟨w.heap.size, 5, none⟩ = some (.slice CA C.names.length ca) ∧ w'.cell? ⟨w.heap.size, 6, none⟩ = some (.slice CB C.workers.length cb)) ∧ w'.cell? (a.add (m * 2)) = some (.int .i64 J.id) ∧ w'.cell? ⟨(a.add (m * 2)).block, (a.add (m * 2)).off + 1, none⟩ = some (.slice JA J.needs.length jc)) (by kernel_rfl) (HSC.out _ (bThen (HWn.out _) (Below.refl _ _).drew)) (fun hHeld => ?_)
    refine anyH_take 0 (v := ?_) rfl (by kernel_rfl) (by kernel_rfl) (by kernel_rfl) (fun _ _ _ h => h) (by rfl) hHeld ?_ ?_
    rotate_left
    · (intro w hSw; (try dsimp only at hSw); go_split_ands; go_simp; try with_reducible rfl)
    (try simp only [Act.put, List.setIfInBounds_toArray, List.set_cons_zero, List.set_cons_succ])
    refine anyH_take 1 (v := ?_) rfl (by kernel_rfl) (by kernel_rfl) (by kernel_rfl) (fun _ _ _ h => h) (by rfl) hHeld ?_ ?_
    rotate_left
    · (intro w hSw; (try dsimp only at hSw); go_split_ands; go_simp; try with_reducible rfl)
    (try simp only [Act.put, List.setIfInBounds_toArray, List.set_cons_zero, List.set_cons_succ])
    refine anyH_take 2 (v := ?_) rfl (by kernel_rfl) (by kernel_rfl) (by kernel_rfl) (fun _ _ _ h => h) (by rfl) hHeld ?_ ?_
    rotate_left
    · (intro w hSw; (try dsimp only at hSw); go_split_ands; go_simp; try with_reducible rfl)
    (try simp only [Act.put, List.setIfInBounds_toArray, List.set_cons_zero, List.set_cons_succ])
    refine anyH_take 3 (v := ?_) rfl (by kernel_rfl) (by kernel_rfl) (by kernel_rfl) (fun _ _ _ h => h) (by rfl) hHeld ?_ ?_
    rotate_left
    · (intro w hSw; (try dsimp only at hSw); go_split_ands; go_simp; try with_reducible rfl)
    (try simp only [Act.put, List.setIfInBounds_toArray, List.set_cons_zero, List.set_cons_succ])
    refine anyH_take 4 (v := ?_) rfl (by kernel_rfl) (by kernel_rfl) (by kernel_rfl) (fun _ _ _ h => h) (by rfl) hHeld ?_ ?_
    rotate_left
    · (intro w hSw; (try dsimp only at hSw); go_split_ands; go_simp; try with_reducible rfl)
    (try simp only [Act.put, List.setIfInBounds_toArray, List.set_cons_zero, List.set_cons_succ])
    refine anyH_one 5 rfl (by kernel_rfl) (fun K hK => ?_)
    go_simp
    refine (rcheck15_calls C.names C.workers J.id J.needs C.scheds C.lease C.again C.room C.out _ _ _ _ (HBC.out.below (bThen (HBn.out _) (Below.refl _ _).drew)).2.1.names (HBC.out.below (bThen (HBn.out _) (Below.refl _ _).drew)).2.1.workers HBC.out.2.1.attrs (Kd.any (Kd.below HK1.out (bThen (HWn.out _) (Below.refl _ _).drew))) HG24.out HWL.out).mono ?_
    rintro e w2 ⟨rfl, hb2⟩
    rw [HCK.out]
    dsimp only
    have U2 := hid (bThen (bThen (HWn.out _) (Below.refl _ _).drew) hb2)
    clear hb2
    go_simp
    refine hK.out _ _ (HSC.out _ U2.out) (fun hHeld => ?_)
    clear hK K
    (try simp only [Act.put, List.setIfInBounds_toArray, List.set_cons_zero, List.set_cons_succ])
    refine anyH_take 6 (v := ?_) rfl (by kernel_rfl) (by kernel_rfl) (by kernel_rfl) (fun _ _ _ h => h) (by rfl) hHeld ?_ ?_
    rotate_left
    · (intro w hSw; (try dsimp only at hSw); go_split_ands; go_simp; try with_reducible rfl)
    (try simp only [Act.put, List.setIfInBounds_toArray, List.set_cons_zero, List.set_cons_succ])
    refine anyH_take 7 (v := ?_) rfl (by kernel_rfl) (by kernel_rfl) (by kernel_rfl) (fun _ _ _ h => h) (by rfl) hHeld ?_ ?_
    rotate_left
    · (intro w hSw; (try dsimp only at hSw); go_split_ands; go_simp; try with_reducible rfl)
    (try simp only [Act.put, List.setIfInBounds_toArray, List.set_cons_zero, List.set_cons_succ])
    refine wpAnyH_done (by kernel_rfl) ?_ _
    clear hHeld r0 r1 x0 x1 x2 x3
    have B2 := hid (HB.out.trans (U2.out.mono HB.out.size))
    obtain ⟨r0, r1⟩ := HJC.out w2 U2.out
    by_cases h0 : er = 0
    case neg =>
      have hne2 : (er != 0) = true := by rw [bne_iff_ne]; exact h0
      have HFL := hid (show okA C js b id 0 0 = false by rw [HOK.out]; simp only [Option.getD_some, HER.out]; rw [decide_eq_false h0]; simp)
      go_wp2
      go_ret2
      exact HNO.out _ B2.out HFL.out
    subst h0
    have HTR := hid (show okA C js b id 0 0 = true by rw [HOK.out, HFN.out]; simp only [Option.getD_some, HER.out]; rfl)
    have HAC := hid (show acceptS C js b id 0 0 = b ++ [acceptE J] from HYES.out HTR.out)
    obtain ⟨n, hn⟩ : ∃ n, n = J.needs.length := ⟨_, rfl⟩
    have HNN := hid hn
    rw [← hn] at HK1 HG r1 HJC
    have HK3 := hid (Kd.below HK1.out U2.out)
    have HBK3 := hid (Kd.below HBK.out B2.out)
    have HW2 := hid (show w.heap.size ≤ w2.heap.size from (bThen HBV.out B2.out).size)
    have hm1 : ∀ W, (Instr.makeSlice 42 (.int .i64 (n : Int)) (.int .i64 (n : Int))).run Tryz.prog W = .ok (.slice (some ⟨W.heap.size, 0, none⟩) n n) (W.alloc (.cells (madeCells #[.int .i64 0] n) 3)) := run_make_i n (by have := HG.out.2; omega)
    have hm2 : ∀ W, (Instr.makeSlice 43 (.int .i64 (n : Int)) (.int .i64 (n : Int))).run Tryz.prog W = .ok (.slice (some ⟨W.heap.size, 0, none⟩) n n) (W.alloc (.cells (madeCells #[.bool false] n) 4)) := run_make_b n (by have := HG.out.2; omega)
    have HSD := hid (fun (u : World) (hb : Below w2.heap.size w2 u) => show (u.cell? ⟨w.heap.size + 1, 1, none⟩ = some (.int .i64 id) ∧ u.cell? (a.add (m * 2)) = some (.int .i64 J.id) ∧ u.cell? ⟨(a.add (m * 2)).block, (a.add (m * 2)).off + 1, none⟩ = some (.slice JA n jc)) from ⟨(HEV.out u (B2.out.trans (hb.mono B2.out.size))).2.1, HJC.out u (U2.out.trans (hb.mono U2.out.size))⟩)
    clear hn HOK HYES HSC HBn HWn
    go_upto_region 10 with fail
    have T0 := hid (Below.refl w2.heap.size w2).drew
    have q0 := HSD.out w2.drew T0.out
    go_cut [12] from 29 to 75 (fun p wx => ∃ (bx mM mB : Nat), p = .pointer (some ⟨bx, 0, none⟩) ∧ Hid (w2.heap.size ≤ bx ∧ wx.heap[bx]? = some (.cells #[.int .i64 id, .int .i64 0, .int .i64 1, .slice JA n jc, .slice (some ⟨mM, 0, none⟩) n n, .slice (some ⟨mB, 0, none⟩) n n] 45 (0, 0))) ∧ Hid (I64.slice.K wx (fun j => w2.heap.size ≤ j ∧ j < wx.heap.size) (List.replicate n 0) [.slice (some ⟨mM, 0, none⟩) n n]) ∧ Hid (Kd.bool.slice.K wx (fun j => w2.heap.size ≤ j ∧ j < wx.heap.size) (List.replicate n false) [.slice (some ⟨mB, 0, none⟩) n n]) ∧ Hid (Below w2.heap.size w2 wx))
    case first =>
      go_wp2_with fail
      refine wp_region_held_drew (S := fun w' => w'.cell? ⟨w.heap.size + 1, 1, none⟩ = some (.int .i64 id) ∧ w'.cell? (a.add (m * 2)) = some (.int .i64 J.id) ∧ w'.cell? ⟨(a.add (m * 2)).block, (a.add (m * 2)).off + 1, none⟩ = some (.slice JA n jc)) (by kernel_rfl) q0 (fun hHeld => ?_)
      obtain ⟨y0, hy0⟩ : ∃ y, y = w2.drew := ⟨_, rfl⟩
      rw [← hy0] at T0 q0 hHeld ⊢
      have y00 : w2.heap.size ≤ y0.heap.size := T0.out.size
      clear hy0
      refine anyH_take 0 (v := ?_) rfl (by kernel_rfl) (by kernel_rfl) (by kernel_rfl) (fun _ _ _ h => h) (by rfl) hHeld ?_ ?_
      rotate_left
      · (intro w hSw; (try dsimp only at hSw); go_split_ands; go_simp; try with_reducible rfl)
      (try simp only [Act.put, List.setIfInBounds_toArray, List.set_cons_zero, List.set_cons_succ])
      refine anyH_take 1 (v := ?_) rfl (by kernel_rfl) (by kernel_rfl) (by kernel_rfl) (fun _ _ _ h => h) (by rfl) hHeld ?_ ?_
      rotate_left
      · (intro w hSw; (try dsimp only at hSw); go_split_ands; go_simp; try with_reducible rfl)
      (try simp only [Act.put, List.setIfInBounds_toArray, List.set_cons_zero, List.set_cons_succ])
      refine anyH_take 2 (v := ?_) rfl (by kernel_rfl) (by kernel_rfl) (by kernel_rfl) (fun _ _ _ h => h) (by rfl) hHeld ?_ ?_
      rotate_left
      · (intro w hSw; (try dsimp only at hSw); go_split_ands; go_simp; try with_reducible rfl)
      (try simp only [Act.put, List.setIfInBounds_toArray, List.set_cons_zero, List.set_cons_succ])
      refine anyH_take 3 (v := ?_) rfl (by kernel_rfl) (by kernel_rfl) (by kernel_rfl) (fun _ _ _ h => h) (by rfl) hHeld ?_ ?_
      rotate_left
      · (intro w hSw; (try dsimp only at hSw); go_split_ands; go_simp; try with_reducible rfl)
      (try simp only [Act.put, List.setIfInBounds_toArray, List.set_cons_zero, List.set_cons_succ])
      refine anyH_take 4 (v := ?_) rfl (by kernel_rfl) (by kernel_rfl) (by kernel_rfl) (fun _ _ _ h => h) (by rfl) hHeld ?_ ?_
      rotate_left
      · (intro w hSw; (try dsimp only at hSw); go_split_ands; go_simp; try with_reducible rfl)
      (try simp only [Act.put, List.setIfInBounds_toArray, List.set_cons_zero, List.set_cons_succ])
      refine anyH_take 5 (v := ?_) rfl (by kernel_rfl) (by kernel_rfl) (by kernel_rfl) (fun _ _ _ h => h) (by rfl) hHeld ?_ ?_
      rotate_left
      · (intro w hSw; (try dsimp only at hSw); go_split_ands; go_simp; try with_reducible rfl)
      (try simp only [Act.put, List.setIfInBounds_toArray, List.set_cons_zero, List.set_cons_succ])
      refine anyH_take 6 (v := ?_) rfl (by kernel_rfl) (by kernel_rfl) (by kernel_rfl) (fun _ _ _ h => h) (by rfl) hHeld ?_ ?_
      rotate_left
      · (intro w hSw; (try dsimp only at hSw); go_split_ands; go_simp; try with_reducible rfl)
      (try simp only [Act.put, List.setIfInBounds_toArray, List.set_cons_zero, List.set_cons_succ])
      refine anyH_take 7 (v := ?_) rfl (by kernel_rfl) (by kernel_rfl) (by kernel_rfl) (fun _ _ _ h => h) (by rfl) hHeld ?_ ?_
      rotate_left
      · (intro w hSw; (try dsimp only at hSw); go_split_ands; go_simp; try with_reducible rfl)
      (try simp only [Act.put, List.setIfInBounds_toArray, List.set_cons_zero, List.set_cons_succ])
      refine anyH_take 9 (v := ?_) rfl (by kernel_rfl) (by kernel_rfl) (by kernel_rfl) (fun _ _ _ h => h) (by rfl) hHeld ?_ ?_
      rotate_left
      · (intro w hSw; (try dsimp only at hSw); go_split_ands; go_simp; try with_reducible rfl)
      (try simp only [Act.put, List.setIfInBounds_toArray, List.set_cons_zero, List.set_cons_succ])
      refine anyH_three 8 10 12 rfl rfl rfl (by kernel_rfl) (fun K hK => ?_) (fun K hK => ?_) (fun K hK => ?_)
      · go_simp
        obtain ⟨y1, hy⟩ : ∃ y, y = y0.alloc (.cells (madeCells #[.int .i64 0] n) 3) := ⟨_, rfl⟩
        rw [← hy]
        have hb : Below y0.heap.size y0 y1 := by rw [hy]; exact bAlloc (Below.refl _ _) _
        have hlt9 : y0.heap.size < y1.heap.size := by rw [hy]; simp
        have T1 := hid (bThen T0.out hb)
        have z1 : y0.heap.size < y1.heap.size := hlt9
        have BM := hid (show y1.heap[y0.heap.size]? = some (.cells (madeCells #[.int .i64 0] n) 3 (0, 0)) by rw [hy]; exact heap_at rfl)
        clear hb hy hlt9
        refine hK.out _ _ (HSD.out _ T1.out) (fun hHeld => ?_)
        clear hK K
        (try simp only [Act.put, List.setIfInBounds_toArray, List.set_cons_zero, List.set_cons_succ])
        refine anyH_two 10 12 rfl rfl (by kernel_rfl) (fun K hK => ?_) (fun K hK => ?_)
        · go_simp
          obtain ⟨y2, hy⟩ : ∃ y, y = y1.alloc (.cells (madeCells #[.bool false] n) 4) := ⟨_, rfl⟩
          rw [← hy]
          have hb : Below y1.heap.size y1 y2 := by rw [hy]; exact bAlloc (Below.refl _ _) _
          have hlt9 : y1.heap.size < y2.heap.size := by rw [hy]; simp
          have T2 := hid (bThen T1.out hb)
          have z2 : y1.heap.size < y2.heap.size := hlt9
          replace BM := hid ((hb.block _ (Array.getElem?_eq_some_iff.1 BM.out).1).trans BM.out)
          have BB := hid (show y2.heap[y1.heap.size]? = some (.cells (madeCells #[.bool false] n) 4 (0, 0)) by rw [hy]; exact heap_at rfl)
          clear hb hy hlt9
          refine hK.out _ _ (HSD.out _ T2.out) (fun hHeld => ?_)
          clear hK K
          (try simp only [Act.put, List.setIfInBounds_toArray, List.set_cons_zero, List.set_cons_succ])
          refine anyH_take 11 (v := ?_) rfl (by kernel_rfl) (by kernel_rfl) (by kernel_rfl) (fun _ _ _ h => h) (by rfl) hHeld ?_ ?_
          rotate_left
          · (intro w hSw; (try dsimp only at hSw); go_split_ands; go_simp; try with_reducible rfl)
          (try simp only [Act.put, List.setIfInBounds_toArray, List.set_cons_zero, List.set_cons_succ])
          refine anyH_one 12 rfl (by kernel_rfl) (fun K hK => ?_)
          go_simp
          obtain ⟨y3, hy⟩ : ∃ y, y = y2.alloc (.cells #[.int .i64 0, .int .i64 0, .int .i64 0, .slice none 0 0, .slice none 0 0, .slice none 0 0] 45) := ⟨_, rfl⟩
          rw [← hy]
          have hb : Below y2.heap.size y2 y3 := by rw [hy]; exact bAlloc (Below.refl _ _) _
          have hlt9 : y2.heap.size < y3.heap.size := by rw [hy]; simp
          have T3 := hid (bThen T2.out hb)
          have z3 : y2.heap.size < y3.heap.size := hlt9
          replace BM := hid ((hb.block _ (Array.getElem?_eq_some_iff.1 BM.out).1).trans BM.out)
          replace BB := hid ((hb.block _ (Array.getElem?_eq_some_iff.1 BB.out).1).trans BB.out)
          have R3 := hid (show y3.heap[y2.heap.size]? = some (.cells #[.int .i64 0, .int .i64 0, .int .i64 0, .slice none 0 0, .slice none 0 0, .slice none 0 0] 45 (0, 0)) by rw [hy]; exact heap_at rfl)
          clear hb hy hlt9
          refine hK.out _ _ (HSD.out _ T3.out) (fun hHeld => ?_)
          clear hK K
          (try simp only [Act.put, List.setIfInBounds_toArray, List.set_cons_zero, List.set_cons_succ])
          refine anyH_one 13 rfl (by kernel_rfl) (fun K hK => ?_)
          go_simp
          obtain ⟨y4, hy, HR6, G0, G1, G2, G3, G4, G5, TB, TN, hs6⟩ := set6 R3.out (.int .i64 id) (.int .i64 0) (.int .i64 1) (.slice JA n jc) (.slice (some ⟨y0.heap.size, 0, none⟩) n n) (.slice (some ⟨y1.heap.size, 0, none⟩) n n)
          obtain ⟨p5, g5, l5⟩ := cells_of_block R3.out
          have v0 := p5 0 _ rfl
          have v1 := p5 1 _ rfl
          have v2 := p5 2 _ rfl
          have v3 := p5 3 _ rfl
          have v4 := p5 4 _ rfl
          have v5 := p5 5 _ rfl
          have f0 := g5 0
          have f1 := g5 1
          have f2 := g5 2
          have f3 := g5 3
          have f4 := g5 4
          have f5 := g5 5
          clear p5 g5
          go_simp
          rw [← hy]
          have hge : w2.heap.size ≤ y2.heap.size := Nat.le_trans y00 (by omega)
          have T4 := hid (show Below w2.heap.size w2 y4 from T3.out.trans (TB.mono hge))
          have HX6 := hid (And.intro hge HR6)
          have HM := hid (show I64.slice.K y4 (fun j => w2.heap.size ≤ j ∧ j < y4.heap.size) (List.replicate n 0) [.slice (some ⟨y0.heap.size, 0, none⟩) n n] from K_of_block n n (by simp) ((TN _ (by omega)).trans BM.out) ⟨by omega, by rw [hs6]; exact (Array.getElem?_eq_some_iff.1 BM.out).1⟩ (cells_rep rfl n) (Nat.le_refl _) (by have := HG.out.2; simp; omega))
          have HQB := hid (show Kd.bool.slice.K y4 (fun j => w2.heap.size ≤ j ∧ j < y4.heap.size) (List.replicate n false) [.slice (some ⟨y1.heap.size, 0, none⟩) n n] from K_of_block n n (by simp) ((TN _ (by omega)).trans BB.out) ⟨by omega, by rw [hs6]; exact (Array.getElem?_eq_some_iff.1 BB.out).1⟩ (cells_rep rfl n) (Nat.le_refl _) (by have := HG.out.2; simp; omega))
          clear hy HR6 TB TN G0 G1 G2 G3 G4 G5 v0 v1 v2 v3 v4 v5 f0 f1 f2 f3 f4 f5
          refine hK.out _ _ (HSD.out _ T4.out) (fun hHeld => ?_)
          clear hK K
          (try simp only [Act.put, List.setIfInBounds_toArray, List.set_cons_zero, List.set_cons_succ])
          refine wpAnyH_done (by kernel_rfl) ?_ _
          clear hHeld
          go_wp2_with fail
          go_meet
          exact ⟨_, _, _, rfl, HX6, HM, HQB, T4⟩
        · go_simp
          obtain ⟨y2, hy⟩ : ∃ y, y = y1.alloc (.cells #[.int .i64 0, .int .i64 0, .int .i64 0, .slice none 0 0, .slice none 0 0, .slice none 0 0] 45) := ⟨_, rfl⟩
          rw [← hy]
          have hb : Below y1.heap.size y1 y2 := by rw [hy]; exact bAlloc (Below.refl _ _) _
          have hlt9 : y1.heap.size < y2.heap.size := by rw [hy]; simp
          have T2 := hid (bThen T1.out hb)
          have z2 : y1.heap.size < y2.heap.size := hlt9
          replace BM := hid ((hb.block _ (Array.getElem?_eq_some_iff.1 BM.out).1).trans BM.out)
          have R2 := hid (show y2.heap[y1.heap.size]? = some (.cells #[.int .i64 0, .int .i64 0, .int .i64 0, .slice none 0 0, .slice none 0 0, .slice none 0 0] 45 (0, 0)) by rw [hy]; exact heap_at rfl)
          clear hb hy hlt9
          refine hK.out _ _ (HSD.out _ T2.out) (fun hHeld => ?_)
          clear hK K
          (try simp only [Act.put, List.setIfInBounds_toArray, List.set_cons_zero, List.set_cons_succ])
          refine anyH_one 10 rfl (by kernel_rfl) (fun K hK => ?_)
          go_simp
          obtain ⟨y3, hy⟩ : ∃ y, y = y2.alloc (.cells (madeCells #[.bool false] n) 4) := ⟨_, rfl⟩
          rw [← hy]
          have hb : Below y2.heap.size y2 y3 := by rw [hy]; exact bAlloc (Below.refl _ _) _
          have hlt9 : y2.heap.size < y3.heap.size := by rw [hy]; simp
          have T3 := hid (bThen T2.out hb)
          have z3 : y2.heap.size < y3.heap.size := hlt9
          replace BM := hid ((hb.block _ (Array.getElem?_eq_some_iff.1 BM.out).1).trans BM.out)
          have R3 := hid ((hb.block _ (Array.getElem?_eq_some_iff.1 R2.out).1).trans R2.out)
          have BB := hid (show y3.heap[y2.heap.size]? = some (.cells (madeCells #[.bool false] n) 4 (0, 0)) by rw [hy]; exact heap_at rfl)
          clear hb hy hlt9
          refine hK.out _ _ (HSD.out _ T3.out) (fun hHeld => ?_)
          clear hK K
          (try simp only [Act.put, List.setIfInBounds_toArray, List.set_cons_zero, List.set_cons_succ])
          refine anyH_take 11 (v := ?_) rfl (by kernel_rfl) (by kernel_rfl) (by kernel_rfl) (fun _ _ _ h => h) (by rfl) hHeld ?_ ?_
          rotate_left
          · (intro w hSw; (try dsimp only at hSw); go_split_ands; go_simp; try with_reducible rfl)
          (try simp only [Act.put, List.setIfInBounds_toArray, List.set_cons_zero, List.set_cons_succ])
          refine anyH_one 13 rfl (by kernel_rfl) (fun K hK => ?_)
          go_simp
          obtain ⟨y4, hy, HR6, G0, G1, G2, G3, G4, G5, TB, TN, hs6⟩ := set6 R3.out (.int .i64 id) (.int .i64 0) (.int .i64 1) (.slice JA n jc) (.slice (some ⟨y0.heap.size, 0, none⟩) n n) (.slice (some ⟨y2.heap.size, 0, none⟩) n n)
          obtain ⟨p5, g5, l5⟩ := cells_of_block R3.out
          have v0 := p5 0 _ rfl
          have v1 := p5 1 _ rfl
          have v2 := p5 2 _ rfl
          have v3 := p5 3 _ rfl
          have v4 := p5 4 _ rfl
          have v5 := p5 5 _ rfl
          have f0 := g5 0
          have f1 := g5 1
          have f2 := g5 2
          have f3 := g5 3
          have f4 := g5 4
          have f5 := g5 5
          clear p5 g5
          go_simp
          rw [← hy]
          have hge : w2.heap.size ≤ y1.heap.size := Nat.le_trans y00 (by omega)
          have T4 := hid (show Below w2.heap.size w2 y4 from T3.out.trans (TB.mono hge))
          have HX6 := hid (And.intro hge HR6)
          have HM := hid (show I64.slice.K y4 (fun j => w2.heap.size ≤ j ∧ j < y4.heap.size) (List.replicate n 0) [.slice (some ⟨y0.heap.size, 0, none⟩) n n] from K_of_block n n (by simp) ((TN _ (by omega)).trans BM.out) ⟨by omega, by rw [hs6]; exact (Array.getElem?_eq_some_iff.1 BM.out).1⟩ (cells_rep rfl n) (Nat.le_refl _) (by have := HG.out.2; simp; omega))
          have HQB := hid (show Kd.bool.slice.K y4 (fun j => w2.heap.size ≤ j ∧ j < y4.heap.size) (List.replicate n false) [.slice (some ⟨y2.heap.size, 0, none⟩) n n] from K_of_block n n (by simp) ((TN _ (by omega)).trans BB.out) ⟨by omega, by rw [hs6]; exact (Array.getElem?_eq_some_iff.1 BB.out).1⟩ (cells_rep rfl n) (Nat.le_refl _) (by have := HG.out.2; simp; omega))
          clear hy HR6 TB TN G0 G1 G2 G3 G4 G5 v0 v1 v2 v3 v4 v5 f0 f1 f2 f3 f4 f5
          refine hK.out _ _ (HSD.out _ T4.out) (fun hHeld => ?_)
          clear hK K
          (try simp only [Act.put, List.setIfInBounds_toArray, List.set_cons_zero, List.set_cons_succ])
          refine wpAnyH_done (by kernel_rfl) ?_ _
          clear hHeld
          go_wp2_with fail
          go_meet
          exact ⟨_, _, _, rfl, HX6, HM, HQB, T4⟩
      · go_simp
        obtain ⟨y1, hy⟩ : ∃ y, y = y0.alloc (.cells (madeCells #[.bool false] n) 4) := ⟨_, rfl⟩
        rw [← hy]
        have hb : Below y0.heap.size y0 y1 := by rw [hy]; exact bAlloc (Below.refl _ _) _
        have hlt9 : y0.heap.size < y1.heap.size := by rw [hy]; simp
        have T1 := hid (bThen T0.out hb)
        have z1 : y0.heap.size < y1.heap.size := hlt9
        have BB := hid (show y1.heap[y0.heap.size]? = some (.cells (madeCells #[.bool false] n) 4 (0, 0)) by rw [hy]; exact heap_at rfl)
        clear hb hy hlt9
        refine hK.out _ _ (HSD.out _ T1.out) (fun hHeld => ?_)
        clear hK K
        (try simp only [Act.put, List.setIfInBounds_toArray, List.set_cons_zero, List.set_cons_succ])
        refine anyH_two 8 12 rfl rfl (by kernel_rfl) (fun K hK => ?_) (fun K hK => ?_)
        · go_simp
          obtain ⟨y2, hy⟩ : ∃ y, y = y1.alloc (.cells (madeCells #[.int .i64 0] n) 3) := ⟨_, rfl⟩
          rw [← hy]
          have hb : Below y1.heap.size y1 y2 := by rw [hy]; exact bAlloc (Below.refl _ _) _
          have hlt9 : y1.heap.size < y2.heap.size := by rw [hy]; simp
          have T2 := hid (bThen T1.out hb)
          have z2 : y1.heap.size < y2.heap.size := hlt9
          replace BB := hid ((hb.block _ (Array.getElem?_eq_some_iff.1 BB.out).1).trans BB.out)
          have BM := hid (show y2.heap[y1.heap.size]? = some (.cells (madeCells #[.int .i64 0] n) 3 (0, 0)) by rw [hy]; exact heap_at rfl)
          clear hb hy hlt9
          refine hK.out _ _ (HSD.out _ T2.out) (fun hHeld => ?_)
          clear hK K
          (try simp only [Act.put, List.setIfInBounds_toArray, List.set_cons_zero, List.set_cons_succ])
          refine anyH_take 11 (v := ?_) rfl (by kernel_rfl) (by kernel_rfl) (by kernel_rfl) (fun _ _ _ h => h) (by rfl) hHeld ?_ ?_
          rotate_left
          · (intro w hSw; (try dsimp only at hSw); go_split_ands; go_simp; try with_reducible rfl)
          (try simp only [Act.put, List.setIfInBounds_toArray, List.set_cons_zero, List.set_cons_succ])
          refine anyH_one 12 rfl (by kernel_rfl) (fun K hK => ?_)
          go_simp
          obtain ⟨y3, hy⟩ : ∃ y, y = y2.alloc (.cells #[.int .i64 0, .int .i64 0, .int .i64 0, .slice none 0 0, .slice none 0 0, .slice none 0 0] 45) := ⟨_, rfl⟩
          rw [← hy]
          have hb : Below y2.heap.size y2 y3 := by rw [hy]; exact bAlloc (Below.refl _ _) _
          have hlt9 : y2.heap.size < y3.heap.size := by rw [hy]; simp
          have T3 := hid (bThen T2.out hb)
          have z3 : y2.heap.size < y3.heap.size := hlt9
          replace BB := hid ((hb.block _ (Array.getElem?_eq_some_iff.1 BB.out).1).trans BB.out)
          replace BM := hid ((hb.block _ (Array.getElem?_eq_some_iff.1 BM.out).1).trans BM.out)
          have R3 := hid (show y3.heap[y2.heap.size]? = some (.cells #[.int .i64 0, .int .i64 0, .int .i64 0, .slice none 0 0, .slice none 0 0, .slice none 0 0] 45 (0, 0)) by rw [hy]; exact heap_at rfl)
          clear hb hy hlt9
          refine hK.out _ _ (HSD.out _ T3.out) (fun hHeld => ?_)
          clear hK K
          (try simp only [Act.put, List.setIfInBounds_toArray, List.set_cons_zero, List.set_cons_succ])
          refine anyH_one 13 rfl (by kernel_rfl) (fun K hK => ?_)
          go_simp
          obtain ⟨y4, hy, HR6, G0, G1, G2, G3, G4, G5, TB, TN, hs6⟩ := set6 R3.out (.int .i64 id) (.int .i64 0) (.int .i64 1) (.slice JA n jc) (.slice (some ⟨y1.heap.size, 0, none⟩) n n) (.slice (some ⟨y0.heap.size, 0, none⟩) n n)
          obtain ⟨p5, g5, l5⟩ := cells_of_block R3.out
          have v0 := p5 0 _ rfl
          have v1 := p5 1 _ rfl
          have v2 := p5 2 _ rfl
          have v3 := p5 3 _ rfl
          have v4 := p5 4 _ rfl
          have v5 := p5 5 _ rfl
          have f0 := g5 0
          have f1 := g5 1
          have f2 := g5 2
          have f3 := g5 3
          have f4 := g5 4
          have f5 := g5 5
          clear p5 g5
          go_simp
          rw [← hy]
          have hge : w2.heap.size ≤ y2.heap.size := Nat.le_trans y00 (by omega)
          have T4 := hid (show Below w2.heap.size w2 y4 from T3.out.trans (TB.mono hge))
          have HX6 := hid (And.intro hge HR6)
          have HM := hid (show I64.slice.K y4 (fun j => w2.heap.size ≤ j ∧ j < y4.heap.size) (List.replicate n 0) [.slice (some ⟨y1.heap.size, 0, none⟩) n n] from K_of_block n n (by simp) ((TN _ (by omega)).trans BM.out) ⟨by omega, by rw [hs6]; exact (Array.getElem?_eq_some_iff.1 BM.out).1⟩ (cells_rep rfl n) (Nat.le_refl _) (by have := HG.out.2; simp; omega))
          have HQB := hid (show Kd.bool.slice.K y4 (fun j => w2.heap.size ≤ j ∧ j < y4.heap.size) (List.replicate n false) [.slice (some ⟨y0.heap.size, 0, none⟩) n n] from K_of_block n n (by simp) ((TN _ (by omega)).trans BB.out) ⟨by omega, by rw [hs6]; exact (Array.getElem?_eq_some_iff.1 BB.out).1⟩ (cells_rep rfl n) (Nat.le_refl _) (by have := HG.out.2; simp; omega))
          clear hy HR6 TB TN G0 G1 G2 G3 G4 G5 v0 v1 v2 v3 v4 v5 f0 f1 f2 f3 f4 f5
          refine hK.out _ _ (HSD.out _ T4.out) (fun hHeld => ?_)
          clear hK K
          (try simp only [Act.put, List.setIfInBounds_toArray, List.set_cons_zero, List.set_cons_succ])
          refine wpAnyH_done (by kernel_rfl) ?_ _
          clear hHeld
          go_wp2_with fail
          go_meet
          exact ⟨_, _, _, rfl, HX6, HM, HQB, T4⟩
        · go_simp
          obtain ⟨y2, hy⟩ : ∃ y, y = y1.alloc (.cells #[.int .i64 0, .int .i64 0, .int .i64 0, .slice none 0 0, .slice none 0 0, .slice none 0 0] 45) := ⟨_, rfl⟩
          rw [← hy]
          have hb : Below y1.heap.size y1 y2 := by rw [hy]; exact bAlloc (Below.refl _ _) _
          have hlt9 : y1.heap.size < y2.heap.size := by rw [hy]; simp
          have T2 := hid (bThen T1.out hb)
          have z2 : y1.heap.size < y2.heap.size := hlt9
          replace BB := hid ((hb.block _ (Array.getElem?_eq_some_iff.1 BB.out).1).trans BB.out)
          have R2 := hid (show y2.heap[y1.heap.size]? = some (.cells #[.int .i64 0, .int .i64 0, .int .i64 0, .slice none 0 0, .slice none 0 0, .slice none 0 0] 45 (0, 0)) by rw [hy]; exact heap_at rfl)
          clear hb hy hlt9
          refine hK.out _ _ (HSD.out _ T2.out) (fun hHeld => ?_)
          clear hK K
          (try simp only [Act.put, List.setIfInBounds_toArray, List.set_cons_zero, List.set_cons_succ])
          refine anyH_one 8 rfl (by kernel_rfl) (fun K hK => ?_)
          go_simp
          obtain ⟨y3, hy⟩ : ∃ y, y = y2.alloc (.cells (madeCells #[.int .i64 0] n) 3) := ⟨_, rfl⟩
          rw [← hy]
          have hb : Below y2.heap.size y2 y3 := by rw [hy]; exact bAlloc (Below.refl _ _) _
          have hlt9 : y2.heap.size < y3.heap.size := by rw [hy]; simp
          have T3 := hid (bThen T2.out hb)
          have z3 : y2.heap.size < y3.heap.size := hlt9
          replace BB := hid ((hb.block _ (Array.getElem?_eq_some_iff.1 BB.out).1).trans BB.out)
          have R3 := hid ((hb.block _ (Array.getElem?_eq_some_iff.1 R2.out).1).trans R2.out)
          have BM := hid (show y3.heap[y2.heap.size]? = some (.cells (madeCells #[.int .i64 0] n) 3 (0, 0)) by rw [hy]; exact heap_at rfl)
          clear hb hy hlt9
          refine hK.out _ _ (HSD.out _ T3.out) (fun hHeld => ?_)
          clear hK K
          (try simp only [Act.put, List.setIfInBounds_toArray, List.set_cons_zero, List.set_cons_succ])
          refine anyH_take 11 (v := ?_) rfl (by kernel_rfl) (by kernel_rfl) (by kernel_rfl) (fun _ _ _ h => h) (by rfl) hHeld ?_ ?_
          rotate_left
          · (intro w hSw; (try dsimp only at hSw); go_split_ands; go_simp; try with_reducible rfl)
          (try simp only [Act.put, List.setIfInBounds_toArray, List.set_cons_zero, List.set_cons_succ])
          refine anyH_one 13 rfl (by kernel_rfl) (fun K hK => ?_)
          go_simp
          obtain ⟨y4, hy, HR6, G0, G1, G2, G3, G4, G5, TB, TN, hs6⟩ := set6 R3.out (.int .i64 id) (.int .i64 0) (.int .i64 1) (.slice JA n jc) (.slice (some ⟨y2.heap.size, 0, none⟩) n n) (.slice (some ⟨y0.heap.size, 0, none⟩) n n)
          obtain ⟨p5, g5, l5⟩ := cells_of_block R3.out
          have v0 := p5 0 _ rfl
          have v1 := p5 1 _ rfl
          have v2 := p5 2 _ rfl
          have v3 := p5 3 _ rfl
          have v4 := p5 4 _ rfl
          have v5 := p5 5 _ rfl
          have f0 := g5 0
          have f1 := g5 1
          have f2 := g5 2
          have f3 := g5 3
          have f4 := g5 4
          have f5 := g5 5
          clear p5 g5
          go_simp
          rw [← hy]
          have hge : w2.heap.size ≤ y1.heap.size := Nat.le_trans y00 (by omega)
          have T4 := hid (show Below w2.heap.size w2 y4 from T3.out.trans (TB.mono hge))
          have HX6 := hid (And.intro hge HR6)
          have HM := hid (show I64.slice.K y4 (fun j => w2.heap.size ≤ j ∧ j < y4.heap.size) (List.replicate n 0) [.slice (some ⟨y2.heap.size, 0, none⟩) n n] from K_of_block n n (by simp) ((TN _ (by omega)).trans BM.out) ⟨by omega, by rw [hs6]; exact (Array.getElem?_eq_some_iff.1 BM.out).1⟩ (cells_rep rfl n) (Nat.le_refl _) (by have := HG.out.2; simp; omega))
          have HQB := hid (show Kd.bool.slice.K y4 (fun j => w2.heap.size ≤ j ∧ j < y4.heap.size) (List.replicate n false) [.slice (some ⟨y0.heap.size, 0, none⟩) n n] from K_of_block n n (by simp) ((TN _ (by omega)).trans BB.out) ⟨by omega, by rw [hs6]; exact (Array.getElem?_eq_some_iff.1 BB.out).1⟩ (cells_rep rfl n) (Nat.le_refl _) (by have := HG.out.2; simp; omega))
          clear hy HR6 TB TN G0 G1 G2 G3 G4 G5 v0 v1 v2 v3 v4 v5 f0 f1 f2 f3 f4 f5
          refine hK.out _ _ (HSD.out _ T4.out) (fun hHeld => ?_)
          clear hK K
          (try simp only [Act.put, List.setIfInBounds_toArray, List.set_cons_zero, List.set_cons_succ])
          refine wpAnyH_done (by kernel_rfl) ?_ _
          clear hHeld
          go_wp2_with fail
          go_meet
          exact ⟨_, _, _, rfl, HX6, HM, HQB, T4⟩
      · go_simp
        obtain ⟨y1, hy⟩ : ∃ y, y = y0.alloc (.cells #[.int .i64 0, .int .i64 0, .int .i64 0, .slice none 0 0, .slice none 0 0, .slice none 0 0] 45) := ⟨_, rfl⟩
        rw [← hy]
        have hb : Below y0.heap.size y0 y1 := by rw [hy]; exact bAlloc (Below.refl _ _) _
        have hlt9 : y0.heap.size < y1.heap.size := by rw [hy]; simp
        have T1 := hid (bThen T0.out hb)
        have z1 : y0.heap.size < y1.heap.size := hlt9
        have R1 := hid (show y1.heap[y0.heap.size]? = some (.cells #[.int .i64 0, .int .i64 0, .int .i64 0, .slice none 0 0, .slice none 0 0, .slice none 0 0] 45 (0, 0)) by rw [hy]; exact heap_at rfl)
        clear hb hy hlt9
        refine hK.out _ _ (HSD.out _ T1.out) (fun hHeld => ?_)
        clear hK K
        (try simp only [Act.put, List.setIfInBounds_toArray, List.set_cons_zero, List.set_cons_succ])
        refine anyH_two 8 10 rfl rfl (by kernel_rfl) (fun K hK => ?_) (fun K hK => ?_)
        · go_simp
          obtain ⟨y2, hy⟩ : ∃ y, y = y1.alloc (.cells (madeCells #[.int .i64 0] n) 3) := ⟨_, rfl⟩
          rw [← hy]
          have hb : Below y1.heap.size y1 y2 := by rw [hy]; exact bAlloc (Below.refl _ _) _
          have hlt9 : y1.heap.size < y2.heap.size := by rw [hy]; simp
          have T2 := hid (bThen T1.out hb)
          have z2 : y1.heap.size < y2.heap.size := hlt9
          have R2 := hid ((hb.block _ (Array.getElem?_eq_some_iff.1 R1.out).1).trans R1.out)
          have BM := hid (show y2.heap[y1.heap.size]? = some (.cells (madeCells #[.int .i64 0] n) 3 (0, 0)) by rw [hy]; exact heap_at rfl)
          clear hb hy hlt9
          refine hK.out _ _ (HSD.out _ T2.out) (fun hHeld => ?_)
          clear hK K
          (try simp only [Act.put, List.setIfInBounds_toArray, List.set_cons_zero, List.set_cons_succ])
          refine anyH_one 10 rfl (by kernel_rfl) (fun K hK => ?_)
          go_simp
          obtain ⟨y3, hy⟩ : ∃ y, y = y2.alloc (.cells (madeCells #[.bool false] n) 4) := ⟨_, rfl⟩
          rw [← hy]
          have hb : Below y2.heap.size y2 y3 := by rw [hy]; exact bAlloc (Below.refl _ _) _
          have hlt9 : y2.heap.size < y3.heap.size := by rw [hy]; simp
          have T3 := hid (bThen T2.out hb)
          have z3 : y2.heap.size < y3.heap.size := hlt9
          have R3 := hid ((hb.block _ (Array.getElem?_eq_some_iff.1 R2.out).1).trans R2.out)
          replace BM := hid ((hb.block _ (Array.getElem?_eq_some_iff.1 BM.out).1).trans BM.out)
          have BB := hid (show y3.heap[y2.heap.size]? = some (.cells (madeCells #[.bool false] n) 4 (0, 0)) by rw [hy]; exact heap_at rfl)
          clear hb hy hlt9
          refine hK.out _ _ (HSD.out _ T3.out) (fun hHeld => ?_)
          clear hK K
          (try simp only [Act.put, List.setIfInBounds_toArray, List.set_cons_zero, List.set_cons_succ])
          refine anyH_take 11 (v := ?_) rfl (by kernel_rfl) (by kernel_rfl) (by kernel_rfl) (fun _ _ _ h => h) (by rfl) hHeld ?_ ?_
          rotate_left
          · (intro w hSw; (try dsimp only at hSw); go_split_ands; go_simp; try with_reducible rfl)
          (try simp only [Act.put, List.setIfInBounds_toArray, List.set_cons_zero, List.set_cons_succ])
          refine anyH_one 13 rfl (by kernel_rfl) (fun K hK => ?_)
          go_simp
          obtain ⟨y4, hy, HR6, G0, G1, G2, G3, G4, G5, TB, TN, hs6⟩ := set6 R3.out (.int .i64 id) (.int .i64 0) (.int .i64 1) (.slice JA n jc) (.slice (some ⟨y1.heap.size, 0, none⟩) n n) (.slice (some ⟨y2.heap.size, 0, none⟩) n n)
          obtain ⟨p5, g5, l5⟩ := cells_of_block R3.out
          have v0 := p5 0 _ rfl
          have v1 := p5 1 _ rfl
          have v2 := p5 2 _ rfl
          have v3 := p5 3 _ rfl
          have v4 := p5 4 _ rfl
          have v5 := p5 5 _ rfl
          have f0 := g5 0
          have f1 := g5 1
          have f2 := g5 2
          have f3 := g5 3
          have f4 := g5 4
          have f5 := g5 5
          clear p5 g5
          go_simp
          rw [← hy]
          have hge : w2.heap.size ≤ y0.heap.size := Nat.le_trans y00 (by omega)
          have T4 := hid (show Below w2.heap.size w2 y4 from T3.out.trans (TB.mono hge))
          have HX6 := hid (And.intro hge HR6)
          have HM := hid (show I64.slice.K y4 (fun j => w2.heap.size ≤ j ∧ j < y4.heap.size) (List.replicate n 0) [.slice (some ⟨y1.heap.size, 0, none⟩) n n] from K_of_block n n (by simp) ((TN _ (by omega)).trans BM.out) ⟨by omega, by rw [hs6]; exact (Array.getElem?_eq_some_iff.1 BM.out).1⟩ (cells_rep rfl n) (Nat.le_refl _) (by have := HG.out.2; simp; omega))
          have HQB := hid (show Kd.bool.slice.K y4 (fun j => w2.heap.size ≤ j ∧ j < y4.heap.size) (List.replicate n false) [.slice (some ⟨y2.heap.size, 0, none⟩) n n] from K_of_block n n (by simp) ((TN _ (by omega)).trans BB.out) ⟨by omega, by rw [hs6]; exact (Array.getElem?_eq_some_iff.1 BB.out).1⟩ (cells_rep rfl n) (Nat.le_refl _) (by have := HG.out.2; simp; omega))
          clear hy HR6 TB TN G0 G1 G2 G3 G4 G5 v0 v1 v2 v3 v4 v5 f0 f1 f2 f3 f4 f5
          refine hK.out _ _ (HSD.out _ T4.out) (fun hHeld => ?_)
          clear hK K
          (try simp only [Act.put, List.setIfInBounds_toArray, List.set_cons_zero, List.set_cons_succ])
          refine wpAnyH_done (by kernel_rfl) ?_ _
          clear hHeld
          go_wp2_with fail
          go_meet
          exact ⟨_, _, _, rfl, HX6, HM, HQB, T4⟩
        · go_simp
          obtain ⟨y2, hy⟩ : ∃ y, y = y1.alloc (.cells (madeCells #[.bool false] n) 4) := ⟨_, rfl⟩
          rw [← hy]
          have hb : Below y1.heap.size y1 y2 := by rw [hy]; exact bAlloc (Below.refl _ _) _
          have hlt9 : y1.heap.size < y2.heap.size := by rw [hy]; simp
          have T2 := hid (bThen T1.out hb)
          have z2 : y1.heap.size < y2.heap.size := hlt9
          have R2 := hid ((hb.block _ (Array.getElem?_eq_some_iff.1 R1.out).1).trans R1.out)
          have BB := hid (show y2.heap[y1.heap.size]? = some (.cells (madeCells #[.bool false] n) 4 (0, 0)) by rw [hy]; exact heap_at rfl)
          clear hb hy hlt9
          refine hK.out _ _ (HSD.out _ T2.out) (fun hHeld => ?_)
          clear hK K
          (try simp only [Act.put, List.setIfInBounds_toArray, List.set_cons_zero, List.set_cons_succ])
          refine anyH_one 8 rfl (by kernel_rfl) (fun K hK => ?_)
          go_simp
          obtain ⟨y3, hy⟩ : ∃ y, y = y2.alloc (.cells (madeCells #[.int .i64 0] n) 3) := ⟨_, rfl⟩
          rw [← hy]
          have hb : Below y2.heap.size y2 y3 := by rw [hy]; exact bAlloc (Below.refl _ _) _
          have hlt9 : y2.heap.size < y3.heap.size := by rw [hy]; simp
          have T3 := hid (bThen T2.out hb)
          have z3 : y2.heap.size < y3.heap.size := hlt9
          have R3 := hid ((hb.block _ (Array.getElem?_eq_some_iff.1 R2.out).1).trans R2.out)
          replace BB := hid ((hb.block _ (Array.getElem?_eq_some_iff.1 BB.out).1).trans BB.out)
          have BM := hid (show y3.heap[y2.heap.size]? = some (.cells (madeCells #[.int .i64 0] n) 3 (0, 0)) by rw [hy]; exact heap_at rfl)
          clear hb hy hlt9
          refine hK.out _ _ (HSD.out _ T3.out) (fun hHeld => ?_)
          clear hK K
          (try simp only [Act.put, List.setIfInBounds_toArray, List.set_cons_zero, List.set_cons_succ])
          refine anyH_take 11 (v := ?_) rfl (by kernel_rfl) (by kernel_rfl) (by kernel_rfl) (fun _ _ _ h => h) (by rfl) hHeld ?_ ?_
          rotate_left
          · (intro w hSw; (try dsimp only at hSw); go_split_ands; go_simp; try with_reducible rfl)
          (try simp only [Act.put, List.setIfInBounds_toArray, List.set_cons_zero, List.set_cons_succ])
          refine anyH_one 13 rfl (by kernel_rfl) (fun K hK => ?_)
          go_simp
          obtain ⟨y4, hy, HR6, G0, G1, G2, G3, G4, G5, TB, TN, hs6⟩ := set6 R3.out (.int .i64 id) (.int .i64 0) (.int .i64 1) (.slice JA n jc) (.slice (some ⟨y2.heap.size, 0, none⟩) n n) (.slice (some ⟨y1.heap.size, 0, none⟩) n n)
          obtain ⟨p5, g5, l5⟩ := cells_of_block R3.out
          have v0 := p5 0 _ rfl
          have v1 := p5 1 _ rfl
          have v2 := p5 2 _ rfl
          have v3 := p5 3 _ rfl
          have v4 := p5 4 _ rfl
          have v5 := p5 5 _ rfl
          have f0 := g5 0
          have f1 := g5 1
          have f2 := g5 2
          have f3 := g5 3
          have f4 := g5 4
          have f5 := g5 5
          clear p5 g5
          go_simp
          rw [← hy]
          have hge : w2.heap.size ≤ y0.heap.size := Nat.le_trans y00 (by omega)
          have T4 := hid (show Below w2.heap.size w2 y4 from T3.out.trans (TB.mono hge))
          have HX6 := hid (And.intro hge HR6)
          have HM := hid (show I64.slice.K y4 (fun j => w2.heap.size ≤ j ∧ j < y4.heap.size) (List.replicate n 0) [.slice (some ⟨y2.heap.size, 0, none⟩) n n] from K_of_block n n (by simp) ((TN _ (by omega)).trans BM.out) ⟨by omega, by rw [hs6]; exact (Array.getElem?_eq_some_iff.1 BM.out).1⟩ (cells_rep rfl n) (Nat.le_refl _) (by have := HG.out.2; simp; omega))
          have HQB := hid (show Kd.bool.slice.K y4 (fun j => w2.heap.size ≤ j ∧ j < y4.heap.size) (List.replicate n false) [.slice (some ⟨y1.heap.size, 0, none⟩) n n] from K_of_block n n (by simp) ((TN _ (by omega)).trans BB.out) ⟨by omega, by rw [hs6]; exact (Array.getElem?_eq_some_iff.1 BB.out).1⟩ (cells_rep rfl n) (Nat.le_refl _) (by have := HG.out.2; simp; omega))
          clear hy HR6 TB TN G0 G1 G2 G3 G4 G5 v0 v1 v2 v3 v4 v5 f0 f1 f2 f3 f4 f5
          refine hK.out _ _ (HSD.out _ T4.out) (fun hHeld => ?_)
          clear hK K
          (try simp only [Act.put, List.setIfInBounds_toArray, List.set_cons_zero, List.set_cons_succ])
          refine wpAnyH_done (by kernel_rfl) ?_ _
          clear hHeld
          go_wp2_with fail
          go_meet
          exact ⟨_, _, _, rfl, HX6, HM, HQB, T4⟩
    case rest =>
      obtain ⟨bx, mM, mB, rfl, HX6, HM, HQB, T1⟩ := hcut
      have hz1 := T1.out.size
      have hbx := HX6.out.1
      have HX := hid HX6.out.2
      have HCX := hid (fun (u : World) (hb : Below wc.heap.size wc u) => box6 HX.out u hb)
      have T2 := hid (Below.refl wc.heap.size wc).drew
      have q0 := HCX.out wc.drew T2.out
      clear HX6
      go_wp2_with fail
      refine wp_region_held_drew (S := fun w' => w'.cell? ⟨bx, 0, none⟩ = some (.int .i64 id) ∧ w'.cell? ⟨bx, 1, none⟩ = some (.int .i64 0) ∧ w'.cell? ⟨bx, 2, none⟩ = some (.int .i64 1) ∧ w'.cell? ⟨bx, 3, none⟩ = some (.slice JA n jc) ∧ w'.cell? ⟨bx, 4, none⟩ = some (.slice (some ⟨mM, 0, none⟩) n n) ∧ w'.cell? ⟨bx, 5, none⟩ = some (.slice (some ⟨mB, 0, none⟩) n n)) (by kernel_rfl) q0 (fun hHeld => ?_)
      obtain ⟨y0, hy0⟩ : ∃ y, y = wc.drew := ⟨_, rfl⟩
      rw [← hy0] at T2 q0 hHeld ⊢
      clear hy0
      refine anyH_take 1 (v := ?_) rfl (by kernel_rfl) (by kernel_rfl) (by kernel_rfl) (fun _ _ _ h => h) (by rfl) hHeld ?_ ?_
      rotate_left
      · (intro w hSw; (try dsimp only at hSw); go_split_ands; go_simp; try with_reducible rfl)
      (try simp only [Act.put, List.setIfInBounds_toArray, List.set_cons_zero, List.set_cons_succ])
      refine anyH_take 3 (v := ?_) rfl (by kernel_rfl) (by kernel_rfl) (by kernel_rfl) (fun _ _ _ h => h) (by rfl) hHeld ?_ ?_
      rotate_left
      · (intro w hSw; (try dsimp only at hSw); go_split_ands; go_simp; try with_reducible rfl)
      (try simp only [Act.put, List.setIfInBounds_toArray, List.set_cons_zero, List.set_cons_succ])
      refine anyH_two 0 4 rfl rfl (by kernel_rfl) (fun K hK => ?_) (fun K hK => ?_)
      · go_simp
        obtain ⟨y1, hy⟩ : ∃ y, y = y0.alloc (.cells #[] 45) := ⟨_, rfl⟩
        rw [← hy]
        have hb : Below y0.heap.size y0 y1 := by rw [hy]; exact bAlloc (Below.refl _ _) _
        have hlt70 : y0.heap.size < y1.heap.size := by rw [hy]; simp
        have T3 := hid (bThen T2.out hb)
        have z1 : y0.heap.size ≤ y1.heap.size := hb.size
        have O1 := hid (own_emptyE (d := Kd.entry) (T := (fun j => j < wc.heap.size ∨ y0.heap.size ≤ j)) (base := y0.heap.size) (show y1.heap[y0.heap.size]? = some (.cells #[] 45 (0, 0)) by rw [hy]; exact heap_at rfl) (by omega))
        clear hb hy
        refine hK.out _ _ (HCX.out _ T3.out) (fun hHeld => ?_)
        clear hK K
        (try simp only [Act.put, List.setIfInBounds_toArray, List.set_cons_zero, List.set_cons_succ])
        refine anyH_two 2 4 rfl rfl (by kernel_rfl) (fun K hK => ?_) (fun K hK => ?_)
        · have HRB := hid (K_row (Kd.entry.slice.move (w1 := y1) (fun j hj hl => (bThen T1.out T3.out).block j (Nat.lt_of_lt_of_le hj HW2.out)) HBK3.out)).1
          refine appendsG_step Kd.entry y0.heap.size rfl _ _ 29 45 _ 96 rfl Tryz.underlying29 Tryz.infoEntry rfl (by decide) (by decide) (.slice (some ⟨y0.heap.size, 0, none⟩) 0 0) [] b A q c (fun j => j < wc.heap.size ∨ y0.heap.size ≤ j) (fun j => j < w.heap.size) (fun j => j < w.heap.size) rfl rfl HQ.out.symm HRB.out (fun _ _ h => h) (fun j h _ => ⟨.inl (Nat.lt_of_lt_of_le (Nat.lt_of_lt_of_le h HW2.out) hz1), ne_own39 (by have := HW2.out; have := T2.out.size; omega)⟩) O1.out (by omega) (by have := HQ.out; have := HL.out; simp; omega) ?_
          intro vb y2 hOb hgb hfb
          try rw [List.nil_append] at hOb
          obtain ⟨Ao, no, co, rfl, hno, _⟩ := hOb.shape'
          have hz9 := hgb.size
          have T4 := hid (show Below wc.heap.size wc y2 from T3.out.trans ⟨hgb.os, hgb.tape, hgb.output, hgb.size, fun k hk => hgb.block k (Nat.lt_of_lt_of_le hk T3.out.size) (ne_own39 (by have := T2.out.size; omega))⟩)
          have z2 : y1.heap.size ≤ y2.heap.size := hgb.size
          have O2 := hid hOb
          have HRO := hid (show ∀ j, (Value.slice Ao no co).ownBlock = some j → y0.heap.size ≤ j ∧ j < y2.heap.size from fun j h => hOb.lt j h)
          clear hOb hgb hfb hno HRB
          refine hK.out _ _ (HCX.out _ T4.out) (fun hHeld => ?_)
          clear hK K
          (try simp only [Act.put, List.setIfInBounds_toArray, List.set_cons_zero, List.set_cons_succ])
          refine anyH_one 4 rfl (by kernel_rfl) (fun K hK => ?_)
          go_simp
          obtain ⟨y3, hy⟩ : ∃ y, y = y2.alloc (.cells #[.int .i64 id, .int .i64 0, .int .i64 1, .slice JA n jc, .slice (some ⟨mM, 0, none⟩) n n, .slice (some ⟨mB, 0, none⟩) n n] 45) := ⟨_, rfl⟩
          rw [← hy]
          have hb : Below y2.heap.size y2 y3 := by rw [hy]; exact bAlloc (Below.refl _ _) _
          have hlt9 : y2.heap.size < y3.heap.size := by rw [hy]; simp
          have T5 := hid (bThen T4.out hb)
          have z3 : y2.heap.size ≤ y3.heap.size := hb.size
          have O3 := hid (O2.out.below hb)
          have R3 := hid (show y3.heap[y2.heap.size]? = some (.cells #[.int .i64 id, .int .i64 0, .int .i64 1, .slice JA n jc, .slice (some ⟨mM, 0, none⟩) n n, .slice (some ⟨mB, 0, none⟩) n n] 45 (0, 0)) by rw [hy]; exact heap_at rfl)
          have HRN := hid (show some y2.heap.size ≠ (Value.slice Ao no co).ownBlock from fun e => by have := HRO.out _ e.symm; omega)
          clear hb hy
          refine hK.out _ _ (HCX.out _ T5.out) (fun hHeld => ?_)
          clear hK K
          (try simp only [Act.put, List.setIfInBounds_toArray, List.set_cons_zero, List.set_cons_succ])
          refine anyH_one 5 rfl (by kernel_rfl) (fun K hK => ?_)
          have he := entry_of (w := y3) (S := (fun j => (j < wc.heap.size ∨ y0.heap.size ≤ j) ∧ some j ≠ (Value.slice Ao no co).ownBlock)) (acceptE J) (A := JA) (a := jc) (B := some ⟨mM, 0, none⟩) (b := n) (D := some ⟨mB, 0, none⟩) (d := n) (by show Kd.str.slice.K _ _ J.needs [.slice JA J.needs.length jc]; rw [← HNN.out]; exact (Kd.str.slice.mono (S' := (fun j => (j < wc.heap.size ∨ y0.heap.size ≤ j) ∧ some j ≠ (Value.slice Ao no co).ownBlock)) (fun j h _ => ⟨.inl (Nat.lt_of_lt_of_le (Nat.lt_of_lt_of_le h HW2.out) hz1), fun e => by have h1 := HRO.out _ e.symm; have h2 : j < wc.heap.size := (Nat.lt_of_lt_of_le (Nat.lt_of_lt_of_le h HW2.out) hz1); have := T2.out.size; omega⟩) (Kd.below (Kd.below HK3.out T1.out) T5.out))) (by show I64.slice.K _ _ (List.replicate J.needs.length 0) [.slice _ (List.replicate J.needs.length (0 : Int)).length n]; rw [List.length_replicate, ← HNN.out]; exact (I64.slice.mono (S' := (fun j => (j < wc.heap.size ∨ y0.heap.size ≤ j) ∧ some j ≠ (Value.slice Ao no co).ownBlock)) (fun j h _ => ⟨.inl h.2, fun e => by have h1 := HRO.out _ e.symm; have h2 : j < wc.heap.size := h.2; have := T2.out.size; omega⟩) (Kd.below HM.out T5.out))) (by show Kd.bool.slice.K _ _ (List.replicate J.needs.length false) [.slice _ (List.replicate J.needs.length false).length n]; rw [List.length_replicate, ← HNN.out]; exact (Kd.bool.slice.mono (S' := (fun j => (j < wc.heap.size ∨ y0.heap.size ≤ j) ∧ some j ≠ (Value.slice Ao no co).ownBlock)) (fun j h _ => ⟨.inl h.2, fun e => by have h1 := HRO.out _ e.symm; have h2 : j < wc.heap.size := h.2; have := T2.out.size; omega⟩) (Kd.below HQB.out T5.out)))
          rw [show (acceptE J).needs.length = n from HNN.out.symm, show (acceptE J).bound.length = n from (List.length_replicate).trans HNN.out.symm, show (acceptE J).done.length = n from (List.length_replicate).trans HNN.out.symm, show (acceptE J).id = id from HJI.out] at he
          have HRR := hid (show Kd.entry.slice.K y3 (fun j => (j < wc.heap.size ∨ y0.heap.size ≤ j) ∧ some j ≠ (Value.slice Ao no co).ownBlock) [acceptE J] [.slice (some ⟨y2.heap.size, 0, none⟩) 1 1] from K_of_block (d := Kd.entry) 1 1 rfl R3.out ⟨.inr (by omega), HRN.out⟩ ⟨_, [], by simp [acceptE], he, rfl⟩ (Nat.le_refl _) (show 1 ≤ 140737488355328 by decide))
          refine appendsG_step Kd.entry y0.heap.size rfl _ _ 29 45 _ 96 rfl Tryz.underlying29 Tryz.infoEntry rfl (by decide) (by decide) (.slice Ao no co) b [acceptE J] (some ⟨y2.heap.size, 0, none⟩) 1 1 (fun j => j < wc.heap.size ∨ y0.heap.size ≤ j) (fun j => (j < wc.heap.size ∨ y0.heap.size ≤ j) ∧ some j ≠ (Value.slice Ao no co).ownBlock) (fun j => (j < wc.heap.size ∨ y0.heap.size ≤ j) ∧ some j ≠ (Value.slice Ao no co).ownBlock) rfl rfl rfl (K_row HRR.out).1 (fun _ _ h => h) (fun _ h _ => h) O3.out (by omega) (by have := HQ.out; have := HL.out; simp; omega) ?_
          intro vb y4 hOb hgb _
          have HKE := hid (Kd.any hOb.K)
          have T6 := hid (show Below wc.heap.size wc y4 from T5.out.trans ⟨hgb.os, hgb.tape, hgb.output, hgb.size, fun k hk => hgb.block k (Nat.lt_of_lt_of_le hk T5.out.size) (fun e => by have h1 := HRO.out k e.symm; have := T2.out.size; omega)⟩)
          clear hOb hgb he
          refine hK.out _ _ (HCX.out _ T6.out) (fun hHeld => ?_)
          clear hK K
          (try simp only [Act.put, List.setIfInBounds_toArray, List.set_cons_zero, List.set_cons_succ])
          refine anyH_take 6 (v := ?_) rfl (by kernel_rfl) (by kernel_rfl) (by kernel_rfl) (fun _ _ _ h => h) (by rfl) hHeld ?_ ?_
          rotate_left
          · (intro w hSw; (try dsimp only at hSw); go_split_ands; go_simp; try with_reducible rfl)
          (try simp only [Act.put, List.setIfInBounds_toArray, List.set_cons_zero, List.set_cons_succ])
          refine anyH_take 7 (v := ?_) rfl (by kernel_rfl) (by kernel_rfl) (by kernel_rfl) (fun _ _ _ h => h) (by rfl) hHeld ?_ ?_
          rotate_left
          · (intro w hSw; (try dsimp only at hSw); go_split_ands; go_simp; try with_reducible rfl)
          (try simp only [Act.put, List.setIfInBounds_toArray, List.set_cons_zero, List.set_cons_succ])
          refine wpAnyH_done (by kernel_rfl) ?_ _
          go_wp2
          go_ret2
          rw [HTR.out, HAC.out]
          exact ⟨_, rfl, HKE.out, bThen HBV.out (bThen B2.out (bThen T1.out T6.out))⟩
        · go_simp
          obtain ⟨y2, hy⟩ : ∃ y, y = y1.alloc (.cells #[.int .i64 id, .int .i64 0, .int .i64 1, .slice JA n jc, .slice (some ⟨mM, 0, none⟩) n n, .slice (some ⟨mB, 0, none⟩) n n] 45) := ⟨_, rfl⟩
          rw [← hy]
          have hb : Below y1.heap.size y1 y2 := by rw [hy]; exact bAlloc (Below.refl _ _) _
          have hlt9 : y1.heap.size < y2.heap.size := by rw [hy]; simp
          have T4 := hid (bThen T3.out hb)
          have z2 : y1.heap.size ≤ y2.heap.size := hb.size
          have O2 := hid (O1.out.below hb)
          have R2 := hid (show y2.heap[y1.heap.size]? = some (.cells #[.int .i64 id, .int .i64 0, .int .i64 1, .slice JA n jc, .slice (some ⟨mM, 0, none⟩) n n, .slice (some ⟨mB, 0, none⟩) n n] 45 (0, 0)) by rw [hy]; exact heap_at rfl)
          clear hb hy
          refine hK.out _ _ (HCX.out _ T4.out) (fun hHeld => ?_)
          clear hK K
          (try simp only [Act.put, List.setIfInBounds_toArray, List.set_cons_zero, List.set_cons_succ])
          refine anyH_one 2 rfl (by kernel_rfl) (fun K hK => ?_)
          have HRB := hid (K_row (Kd.entry.slice.move (w1 := y2) (fun j hj hl => (bThen T1.out T4.out).block j (Nat.lt_of_lt_of_le hj HW2.out)) HBK3.out)).1
          refine appendsG_step Kd.entry y0.heap.size rfl _ _ 29 45 _ 96 rfl Tryz.underlying29 Tryz.infoEntry rfl (by decide) (by decide) (.slice (some ⟨y0.heap.size, 0, none⟩) 0 0) [] b A q c (fun j => j < wc.heap.size ∨ y0.heap.size ≤ j) (fun j => j < w.heap.size) (fun j => j < w.heap.size) rfl rfl HQ.out.symm HRB.out (fun _ _ h => h) (fun j h _ => ⟨.inl (Nat.lt_of_lt_of_le (Nat.lt_of_lt_of_le h HW2.out) hz1), ne_own39 (by have := HW2.out; have := T2.out.size; omega)⟩) O2.out (by omega) (by have := HQ.out; have := HL.out; simp; omega) ?_
          intro vb y3 hOb hgb hfb
          try rw [List.nil_append] at hOb
          obtain ⟨Ao, no, co, rfl, hno, _⟩ := hOb.shape'
          have hz9 := hgb.size
          have T5 := hid (show Below wc.heap.size wc y3 from T4.out.trans ⟨hgb.os, hgb.tape, hgb.output, hgb.size, fun k hk => hgb.block k (Nat.lt_of_lt_of_le hk T4.out.size) (ne_own39 (by have := T2.out.size; omega))⟩)
          have z3 : y2.heap.size ≤ y3.heap.size := hgb.size
          have R3 := hid ((hgb.block _ (Array.getElem?_eq_some_iff.1 R2.out).1 (ne_own39 (by omega))).trans R2.out)
          have O3 := hid hOb
          have HRO := hid (show ∀ j, (Value.slice Ao no co).ownBlock = some j → y0.heap.size ≤ j ∧ j < y3.heap.size from fun j h => hOb.lt j h)
          have HRN := hid (show some y1.heap.size ≠ (Value.slice Ao no co).ownBlock from fun e => by rcases hfb with h | ⟨g9, h, hg9⟩; exact ne_own39 (by omega) (e.trans h); have := Option.some.inj (e.trans h); omega)
          clear hOb hgb hfb hno HRB
          refine hK.out _ _ (HCX.out _ T5.out) (fun hHeld => ?_)
          clear hK K
          (try simp only [Act.put, List.setIfInBounds_toArray, List.set_cons_zero, List.set_cons_succ])
          refine anyH_one 5 rfl (by kernel_rfl) (fun K hK => ?_)
          have he := entry_of (w := y3) (S := (fun j => (j < wc.heap.size ∨ y0.heap.size ≤ j) ∧ some j ≠ (Value.slice Ao no co).ownBlock)) (acceptE J) (A := JA) (a := jc) (B := some ⟨mM, 0, none⟩) (b := n) (D := some ⟨mB, 0, none⟩) (d := n) (by show Kd.str.slice.K _ _ J.needs [.slice JA J.needs.length jc]; rw [← HNN.out]; exact (Kd.str.slice.mono (S' := (fun j => (j < wc.heap.size ∨ y0.heap.size ≤ j) ∧ some j ≠ (Value.slice Ao no co).ownBlock)) (fun j h _ => ⟨.inl (Nat.lt_of_lt_of_le (Nat.lt_of_lt_of_le h HW2.out) hz1), fun e => by have h1 := HRO.out _ e.symm; have h2 : j < wc.heap.size := (Nat.lt_of_lt_of_le (Nat.lt_of_lt_of_le h HW2.out) hz1); have := T2.out.size; omega⟩) (Kd.below (Kd.below HK3.out T1.out) T5.out))) (by show I64.slice.K _ _ (List.replicate J.needs.length 0) [.slice _ (List.replicate J.needs.length (0 : Int)).length n]; rw [List.length_replicate, ← HNN.out]; exact (I64.slice.mono (S' := (fun j => (j < wc.heap.size ∨ y0.heap.size ≤ j) ∧ some j ≠ (Value.slice Ao no co).ownBlock)) (fun j h _ => ⟨.inl h.2, fun e => by have h1 := HRO.out _ e.symm; have h2 : j < wc.heap.size := h.2; have := T2.out.size; omega⟩) (Kd.below HM.out T5.out))) (by show Kd.bool.slice.K _ _ (List.replicate J.needs.length false) [.slice _ (List.replicate J.needs.length false).length n]; rw [List.length_replicate, ← HNN.out]; exact (Kd.bool.slice.mono (S' := (fun j => (j < wc.heap.size ∨ y0.heap.size ≤ j) ∧ some j ≠ (Value.slice Ao no co).ownBlock)) (fun j h _ => ⟨.inl h.2, fun e => by have h1 := HRO.out _ e.symm; have h2 : j < wc.heap.size := h.2; have := T2.out.size; omega⟩) (Kd.below HQB.out T5.out)))
          rw [show (acceptE J).needs.length = n from HNN.out.symm, show (acceptE J).bound.length = n from (List.length_replicate).trans HNN.out.symm, show (acceptE J).done.length = n from (List.length_replicate).trans HNN.out.symm, show (acceptE J).id = id from HJI.out] at he
          have HRR := hid (show Kd.entry.slice.K y3 (fun j => (j < wc.heap.size ∨ y0.heap.size ≤ j) ∧ some j ≠ (Value.slice Ao no co).ownBlock) [acceptE J] [.slice (some ⟨y1.heap.size, 0, none⟩) 1 1] from K_of_block (d := Kd.entry) 1 1 rfl R3.out ⟨.inr (by omega), HRN.out⟩ ⟨_, [], by simp [acceptE], he, rfl⟩ (Nat.le_refl _) (show 1 ≤ 140737488355328 by decide))
          refine appendsG_step Kd.entry y0.heap.size rfl _ _ 29 45 _ 96 rfl Tryz.underlying29 Tryz.infoEntry rfl (by decide) (by decide) (.slice Ao no co) b [acceptE J] (some ⟨y1.heap.size, 0, none⟩) 1 1 (fun j => j < wc.heap.size ∨ y0.heap.size ≤ j) (fun j => (j < wc.heap.size ∨ y0.heap.size ≤ j) ∧ some j ≠ (Value.slice Ao no co).ownBlock) (fun j => (j < wc.heap.size ∨ y0.heap.size ≤ j) ∧ some j ≠ (Value.slice Ao no co).ownBlock) rfl rfl rfl (K_row HRR.out).1 (fun _ _ h => h) (fun _ h _ => h) O3.out (by omega) (by have := HQ.out; have := HL.out; simp; omega) ?_
          intro vb y4 hOb hgb _
          have HKE := hid (Kd.any hOb.K)
          have T6 := hid (show Below wc.heap.size wc y4 from T5.out.trans ⟨hgb.os, hgb.tape, hgb.output, hgb.size, fun k hk => hgb.block k (Nat.lt_of_lt_of_le hk T5.out.size) (fun e => by have h1 := HRO.out k e.symm; have := T2.out.size; omega)⟩)
          clear hOb hgb he
          refine hK.out _ _ (HCX.out _ T6.out) (fun hHeld => ?_)
          clear hK K
          (try simp only [Act.put, List.setIfInBounds_toArray, List.set_cons_zero, List.set_cons_succ])
          refine anyH_take 6 (v := ?_) rfl (by kernel_rfl) (by kernel_rfl) (by kernel_rfl) (fun _ _ _ h => h) (by rfl) hHeld ?_ ?_
          rotate_left
          · (intro w hSw; (try dsimp only at hSw); go_split_ands; go_simp; try with_reducible rfl)
          (try simp only [Act.put, List.setIfInBounds_toArray, List.set_cons_zero, List.set_cons_succ])
          refine anyH_take 7 (v := ?_) rfl (by kernel_rfl) (by kernel_rfl) (by kernel_rfl) (fun _ _ _ h => h) (by rfl) hHeld ?_ ?_
          rotate_left
          · (intro w hSw; (try dsimp only at hSw); go_split_ands; go_simp; try with_reducible rfl)
          (try simp only [Act.put, List.setIfInBounds_toArray, List.set_cons_zero, List.set_cons_succ])
          refine wpAnyH_done (by kernel_rfl) ?_ _
          go_wp2
          go_ret2
          rw [HTR.out, HAC.out]
          exact ⟨_, rfl, HKE.out, bThen HBV.out (bThen B2.out (bThen T1.out T6.out))⟩
      · go_simp
        obtain ⟨y1, hy⟩ : ∃ y, y = y0.alloc (.cells #[.int .i64 id, .int .i64 0, .int .i64 1, .slice JA n jc, .slice (some ⟨mM, 0, none⟩) n n, .slice (some ⟨mB, 0, none⟩) n n] 45) := ⟨_, rfl⟩
        rw [← hy]
        have hb : Below y0.heap.size y0 y1 := by rw [hy]; exact bAlloc (Below.refl _ _) _
        have hlt9 : y0.heap.size < y1.heap.size := by rw [hy]; simp
        have T3 := hid (bThen T2.out hb)
        have z1 : y0.heap.size ≤ y1.heap.size := hb.size
        have R1 := hid (show y1.heap[y0.heap.size]? = some (.cells #[.int .i64 id, .int .i64 0, .int .i64 1, .slice JA n jc, .slice (some ⟨mM, 0, none⟩) n n, .slice (some ⟨mB, 0, none⟩) n n] 45 (0, 0)) by rw [hy]; exact heap_at rfl)
        clear hb hy
        refine hK.out _ _ (HCX.out _ T3.out) (fun hHeld => ?_)
        clear hK K
        (try simp only [Act.put, List.setIfInBounds_toArray, List.set_cons_zero, List.set_cons_succ])
        refine anyH_one 0 rfl (by kernel_rfl) (fun K hK => ?_)
        go_simp
        obtain ⟨y2, hy⟩ : ∃ y, y = y1.alloc (.cells #[] 45) := ⟨_, rfl⟩
        rw [← hy]
        have hb : Below y1.heap.size y1 y2 := by rw [hy]; exact bAlloc (Below.refl _ _) _
        have hlt70 : y1.heap.size < y2.heap.size := by rw [hy]; simp
        have T4 := hid (bThen T3.out hb)
        have z2 : y1.heap.size ≤ y2.heap.size := hb.size
        have R2 := hid ((hb.block _ (Array.getElem?_eq_some_iff.1 R1.out).1).trans R1.out)
        have O2 := hid (own_emptyE (d := Kd.entry) (T := (fun j => j < wc.heap.size ∨ y0.heap.size ≤ j)) (base := y0.heap.size) (show y2.heap[y1.heap.size]? = some (.cells #[] 45 (0, 0)) by rw [hy]; exact heap_at rfl) (by omega))
        clear hb hy
        refine hK.out _ _ (HCX.out _ T4.out) (fun hHeld => ?_)
        clear hK K
        (try simp only [Act.put, List.setIfInBounds_toArray, List.set_cons_zero, List.set_cons_succ])
        refine anyH_one 2 rfl (by kernel_rfl) (fun K hK => ?_)
        have HRB := hid (K_row (Kd.entry.slice.move (w1 := y2) (fun j hj hl => (bThen T1.out T4.out).block j (Nat.lt_of_lt_of_le hj HW2.out)) HBK3.out)).1
        refine appendsG_step Kd.entry y0.heap.size rfl _ _ 29 45 _ 96 rfl Tryz.underlying29 Tryz.infoEntry rfl (by decide) (by decide) (.slice (some ⟨y1.heap.size, 0, none⟩) 0 0) [] b A q c (fun j => j < wc.heap.size ∨ y0.heap.size ≤ j) (fun j => j < w.heap.size) (fun j => j < w.heap.size) rfl rfl HQ.out.symm HRB.out (fun _ _ h => h) (fun j h _ => ⟨.inl (Nat.lt_of_lt_of_le (Nat.lt_of_lt_of_le h HW2.out) hz1), ne_own39 (by have := HW2.out; have := T2.out.size; omega)⟩) O2.out (by omega) (by have := HQ.out; have := HL.out; simp; omega) ?_
        intro vb y3 hOb hgb hfb
        try rw [List.nil_append] at hOb
        obtain ⟨Ao, no, co, rfl, hno, _⟩ := hOb.shape'
        have hz9 := hgb.size
        have T5 := hid (show Below wc.heap.size wc y3 from T4.out.trans ⟨hgb.os, hgb.tape, hgb.output, hgb.size, fun k hk => hgb.block k (Nat.lt_of_lt_of_le hk T4.out.size) (ne_own39 (by have := T2.out.size; omega))⟩)
        have z3 : y2.heap.size ≤ y3.heap.size := hgb.size
        have R3 := hid ((hgb.block _ (Array.getElem?_eq_some_iff.1 R2.out).1 (ne_own39 (by omega))).trans R2.out)
        have O3 := hid hOb
        have HRO := hid (show ∀ j, (Value.slice Ao no co).ownBlock = some j → y0.heap.size ≤ j ∧ j < y3.heap.size from fun j h => hOb.lt j h)
        have HRN := hid (show some y0.heap.size ≠ (Value.slice Ao no co).ownBlock from fun e => by rcases hfb with h | ⟨g9, h, hg9⟩; exact ne_own39 (by omega) (e.trans h); have := Option.some.inj (e.trans h); omega)
        clear hOb hgb hfb hno HRB
        refine hK.out _ _ (HCX.out _ T5.out) (fun hHeld => ?_)
        clear hK K
        (try simp only [Act.put, List.setIfInBounds_toArray, List.set_cons_zero, List.set_cons_succ])
        refine anyH_one 5 rfl (by kernel_rfl) (fun K hK => ?_)
        have he := entry_of (w := y3) (S := (fun j => (j < wc.heap.size ∨ y0.heap.size ≤ j) ∧ some j ≠ (Value.slice Ao no co).ownBlock)) (acceptE J) (A := JA) (a := jc) (B := some ⟨mM, 0, none⟩) (b := n) (D := some ⟨mB, 0, none⟩) (d := n) (by show Kd.str.slice.K _ _ J.needs [.slice JA J.needs.length jc]; rw [← HNN.out]; exact (Kd.str.slice.mono (S' := (fun j => (j < wc.heap.size ∨ y0.heap.size ≤ j) ∧ some j ≠ (Value.slice Ao no co).ownBlock)) (fun j h _ => ⟨.inl (Nat.lt_of_lt_of_le (Nat.lt_of_lt_of_le h HW2.out) hz1), fun e => by have h1 := HRO.out _ e.symm; have h2 : j < wc.heap.size := (Nat.lt_of_lt_of_le (Nat.lt_of_lt_of_le h HW2.out) hz1); have := T2.out.size; omega⟩) (Kd.below (Kd.below HK3.out T1.out) T5.out))) (by show I64.slice.K _ _ (List.replicate J.needs.length 0) [.slice _ (List.replicate J.needs.length (0 : Int)).length n]; rw [List.length_replicate, ← HNN.out]; exact (I64.slice.mono (S' := (fun j => (j < wc.heap.size ∨ y0.heap.size ≤ j) ∧ some j ≠ (Value.slice Ao no co).ownBlock)) (fun j h _ => ⟨.inl h.2, fun e => by have h1 := HRO.out _ e.symm; have h2 : j < wc.heap.size := h.2; have := T2.out.size; omega⟩) (Kd.below HM.out T5.out))) (by show Kd.bool.slice.K _ _ (List.replicate J.needs.length false) [.slice _ (List.replicate J.needs.length false).length n]; rw [List.length_replicate, ← HNN.out]; exact (Kd.bool.slice.mono (S' := (fun j => (j < wc.heap.size ∨ y0.heap.size ≤ j) ∧ some j ≠ (Value.slice Ao no co).ownBlock)) (fun j h _ => ⟨.inl h.2, fun e => by have h1 := HRO.out _ e.symm; have h2 : j < wc.heap.size := h.2; have := T2.out.size; omega⟩) (Kd.below HQB.out T5.out)))
        rw [show (acceptE J).needs.length = n from HNN.out.symm, show (acceptE J).bound.length = n from (List.length_replicate).trans HNN.out.symm, show (acceptE J).done.length = n from (List.length_replicate).trans HNN.out.symm, show (acceptE J).id = id from HJI.out] at he
        have HRR := hid (show Kd.entry.slice.K y3 (fun j => (j < wc.heap.size ∨ y0.heap.size ≤ j) ∧ some j ≠ (Value.slice Ao no co).ownBlock) [acceptE J] [.slice (some ⟨y0.heap.size, 0, none⟩) 1 1] from K_of_block (d := Kd.entry) 1 1 rfl R3.out ⟨.inr (by omega), HRN.out⟩ ⟨_, [], by simp [acceptE], he, rfl⟩ (Nat.le_refl _) (show 1 ≤ 140737488355328 by decide))
        refine appendsG_step Kd.entry y0.heap.size rfl _ _ 29 45 _ 96 rfl Tryz.underlying29 Tryz.infoEntry rfl (by decide) (by decide) (.slice Ao no co) b [acceptE J] (some ⟨y0.heap.size, 0, none⟩) 1 1 (fun j => j < wc.heap.size ∨ y0.heap.size ≤ j) (fun j => (j < wc.heap.size ∨ y0.heap.size ≤ j) ∧ some j ≠ (Value.slice Ao no co).ownBlock) (fun j => (j < wc.heap.size ∨ y0.heap.size ≤ j) ∧ some j ≠ (Value.slice Ao no co).ownBlock) rfl rfl rfl (K_row HRR.out).1 (fun _ _ h => h) (fun _ h _ => h) O3.out (by omega) (by have := HQ.out; have := HL.out; simp; omega) ?_
        intro vb y4 hOb hgb _
        have HKE := hid (Kd.any hOb.K)
        have T6 := hid (show Below wc.heap.size wc y4 from T5.out.trans ⟨hgb.os, hgb.tape, hgb.output, hgb.size, fun k hk => hgb.block k (Nat.lt_of_lt_of_le hk T5.out.size) (fun e => by have h1 := HRO.out k e.symm; have := T2.out.size; omega)⟩)
        clear hOb hgb he
        refine hK.out _ _ (HCX.out _ T6.out) (fun hHeld => ?_)
        clear hK K
        (try simp only [Act.put, List.setIfInBounds_toArray, List.set_cons_zero, List.set_cons_succ])
        refine anyH_take 6 (v := ?_) rfl (by kernel_rfl) (by kernel_rfl) (by kernel_rfl) (fun _ _ _ h => h) (by rfl) hHeld ?_ ?_
        rotate_left
        · (intro w hSw; (try dsimp only at hSw); go_split_ands; go_simp; try with_reducible rfl)
        (try simp only [Act.put, List.setIfInBounds_toArray, List.set_cons_zero, List.set_cons_succ])
        refine anyH_take 7 (v := ?_) rfl (by kernel_rfl) (by kernel_rfl) (by kernel_rfl) (fun _ _ _ h => h) (by rfl) hHeld ?_ ?_
        rotate_left
        · (intro w hSw; (try dsimp only at hSw); go_split_ands; go_simp; try with_reducible rfl)
        (try simp only [Act.put, List.setIfInBounds_toArray, List.set_cons_zero, List.set_cons_succ])
        refine wpAnyH_done (by kernel_rfl) ?_ _
        go_wp2
        go_ret2
        rw [HTR.out, HAC.out]
        exact ⟨_, rfl, HKE.out, bThen HBV.out (bThen B2.out (bThen T1.out T6.out))⟩
end Go.Proofs.YtgedkcglkhleoaaGreatDoor
