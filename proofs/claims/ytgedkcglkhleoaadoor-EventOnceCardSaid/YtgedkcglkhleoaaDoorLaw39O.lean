/- The law EventOnce. -/
import Derived.Test.YtgedkcglkhleoaaDoorHas39
import Derived.Test.YtgedkcglkhleoaaDoorWorks39
import Derived.Test.YtgedkcglkhleoaaDoorSmall39
import Derived.Test.YtgedkcglkhleoaaDoorBase
namespace Go.Proofs.YtgedkcglkhleoaaDoor
open Go.RowKit

theorem EvGood.more {n : Nat} {b : List EntryS} (h : EvGood n b) : EvGood (n + 1) b := ⟨by have := h.len; omega, h.all⟩
theorem cntK_take {D : List EvS} {m : Nat} {y : EvS} (h : D[m]? = some y) (kd k : Int) : cntK (D.take (m + 1)) kd k = cntK (D.take m) kd k + (if y.kind = kd ∧ y.worker = k then 1 else 0) := by
  rw [take_snoc h, cntK_add]
theorem cntK_le (D : List EvS) (kd k : Int) : cntK D kd k ≤ D.length := List.countP_le_length
/-- What is counted so far. -/
def ranK (D : List EvS) (k : Int) : Int := (cntK D 2 k : Int) - (cntK D 3 k : Int)
theorem ranK_take {D : List EvS} {m : Nat} {y : EvS} (h : D[m]? = some y) (k : Int) : ranK (D.take (m + 1)) k = ranK (D.take m) k + (if y.kind = 2 ∧ y.worker = k then 1 else 0) - (if y.kind = 3 ∧ y.worker = k then 1 else 0) := by
  unfold ranK
  rw [cntK_take h, cntK_take h]
  split <;> split <;> simp <;> omega
theorem ranK_bound (D : List EvS) (k : Int) : -(D.length : Int) ≤ ranK D k ∧ ranK D k ≤ D.length := by
  have h1 := cntK_le D 2 k
  have h2 := cntK_le D 3 k
  unfold ranK
  omega
theorem Tryd.infoEvent : (Tryd.prog.info? 37).map (fun i => (i.zero, i.size, i.bytes)) = some (some (.agg #[.int .i64 0, .int .i64 0, .int .i64 0, .int .i64 0]), 4, 32) := by kernel_rfl
set_option maxHeartbeats 4000000 in
set_option maxRecDepth 100000 in
theorem eventOnceLaw (C : ConfS) (CA CB : Option Addr) (ca cb : Nat) (js : List JobS) (JA0 : Option Addr) (jcap : Nat) (l : List EvS) (v : Value) (w : World) (hC : CAt w C CA CB ca cb) (hj : Kd.job.slice.K w Any js [.slice JA0 js.length jcap]) (hl : Kd.event.slice.K w Any l [v]) (hT : Tab w) :
    Calls Tryd.prog 3 #[.agg #[.int .i64 C.scheds, .int .i64 C.lease, .int .i64 C.again, .int .i64 C.room, .int .i64 C.out, .slice CA C.names.length ca, .slice CB C.workers.length cb, .slice JA0 js.length jcap], v] w fun e w' => e = .returned (.bool true) ∧ Below w.heap.size w w' := by
  obtain ⟨V, hV⟩ : ∃ V, V = (w.alloc (.cells #[.int .i64 C.scheds, .int .i64 C.lease, .int .i64 C.again, .int .i64 C.room, .int .i64 C.out, .slice CA C.names.length ca, .slice CB C.workers.length cb, .slice JA0 js.length jcap] 28)).alloc (.cells #[.int .i64 C.scheds, .int .i64 C.lease, .int .i64 C.again, .int .i64 C.room, .int .i64 C.out, .slice CA C.names.length ca, .slice CB C.workers.length cb] 25) := ⟨_, rfl⟩
  have hb0 : Below w.heap.size w V := by rw [hV]; exact bAlloc (bAlloc (Below.refl _ _) _) _
  have HBV := hid hb0
  have HZ := hid (show V.heap[w.heap.size]? = some (.cells #[.int .i64 C.scheds, .int .i64 C.lease, .int .i64 C.again, .int .i64 C.room, .int .i64 C.out, .slice CA C.names.length ca, .slice CB C.workers.length cb, .slice JA0 js.length jcap] 28 (0, 0)) by rw [hV, Below.heap_alloc _ _ _ (by simp)]; exact heap_at rfl)
  have HBC := hid (boxC_of (b := w.heap.size + 1) (by rw [hV]; exact heap_at (by simp)) (hC.below hb0))
  have HWB := hid (fun (u : World) (h : Below V.heap.size V u) => (show (u.cell? ⟨w.heap.size, 7, none⟩ = some (.slice JA0 js.length jcap)) from by
    obtain ⟨y0, _, _⟩ := cells_of_block ((h.block (w.heap.size) (Array.getElem?_eq_some_iff.1 HZ.out).1).trans HZ.out)
    exact y0 7 _ rfl))
  have HJ := hid (Kd.below hj hb0)
  have HL := hid (Kd.below hl hb0)
  have HTV := hid (hT.below hb0)
  have hEq := hV.symm
  obtain ⟨jn, hjn⟩ : ∃ n, n = js.length := ⟨_, rfl⟩
  rw [← hjn] at HJ HWB hEq ⊢
  obtain ⟨A, c, he, _, _, _⟩ := hl
  injection he with he _
  subst he
  obtain ⟨q, hq⟩ : ∃ q, q = l.length := ⟨_, rfl⟩
  have HQ := hid hq
  rw [← hq] at HL ⊢
  obtain ⟨x0, x1, x2, x3, x4, x5, x6⟩ := HBC.out.1
  have x7 := HWB.out V (Below.refl _ _)
  clear hV hC hj hb0 hT hq hjn HZ
  go_enter Tryd.func3, Tryd.ntmps3
  go_wp2_with fail
  refine (rlong14_calls C CA CB ca cb V HBC.out.2.1.names).mono ?_
  rintro e w1 ⟨rfl, hb1⟩
  have HB1 := hid hb1
  obtain ⟨lc, hlc⟩ : ∃ b, longC C = b := ⟨_, rfl⟩
  have HLC := hid hlc
  rw [hlc]
  clear hb1 hlc x0 x1 x2 x3 x4 x5 x6 x7 hEq
  have x7 := HWB.out w1 HB1.out
  cases lc
  case true =>
    go_wp2_with fail
    refine (works39_calls _ (HTV.out.below HB1.out)).mono ?_
    rintro e w2 ⟨rfl, hb2⟩
    go_wp2
    go_ret
    exact ⟨rfl, bThen HBV.out (bThen HB1.out hb2)⟩
  go_wp2_with fail
  refine (rlong39_calls js _ w1 (Kd.below HJ.out HB1.out)).mono ?_
  rintro e w2 ⟨rfl, rfl⟩
  obtain ⟨lj, hlj⟩ : ∃ b, longJs js = b := ⟨_, rfl⟩
  have HLJ := hid hlj
  rw [hlj]
  clear hlj x7
  cases lj
  case true =>
    go_wp2_with fail
    refine (works39_calls _ (HTV.out.below HB1.out)).mono ?_
    rintro e w2 ⟨rfl, hb2⟩
    go_wp2
    go_ret
    exact ⟨rfl, bThen HBV.out (bThen HB1.out hb2)⟩
  by_cases h60 : 60 < q
  case pos =>
    have hI : (60 : Int) < (q : Int) := by omega
    go_wp2_with fail
    refine (works39_calls _ (HTV.out.below HB1.out)).mono ?_
    rintro e w2 ⟨rfl, hb2⟩
    go_wp2
    go_ret
    exact ⟨rfl, bThen HBV.out (bThen HB1.out hb2)⟩
  have hI : ¬ (60 : Int) < (q : Int) := by omega
  have hq60 : q ≤ 60 := by omega
  have HQ60 := hid hq60
  have HSM := hid (jsOk_small HLJ.out)
  clear h60
  go_wp2
  go_loopw [6, 7, 8] (fun sv dv i wr => ∃ (k : Nat) (s : List EntryS) (D : List EvS), k ≤ q ∧ i = .int .i64 k ∧ Hid (Once s D) ∧ Hid (EvGood k s) ∧ Hid (D.length ≤ k) ∧ Hid (Kd.entry.slice.K wr (fun j => some j ≠ dv.ownBlock) s [sv]) ∧ Hid (Own Kd.event 37 wr V.heap.size NoT dv D) ∧ Hid (Below V.heap.size V wr)) (fun _ _ i _ => q - (intOf i).toNat)
  case atStart => exact ⟨0, [], [], by omega, rfl, hid once_nil, hid evGood_nil, hid (Nat.le_refl _), hid ⟨none, 0, rfl, Nat.le_refl _, by decide, Kd.Row.nil⟩, Own.nil _ _ _ _ _, HB1⟩
  case round =>
    obtain ⟨k, s, D, hk, rfl, HON, HG, HDL, HS, HD, HB⟩ := hrel
    by_cases hlt : k < q
    case neg =>
      obtain rfl : k = q := by omega
      go_wp2_with fail
      refine (works39_calls _ (HTV.out.below HB.out)).mono ?_
      rintro e w2 ⟨rfl, hb2⟩
      go_wp2
      go_ret
      exact ⟨rfl, bThen HBV.out (bThen HB.out hb2)⟩
    obtain ⟨a, x, rfl, hx, r0, r1, r2, r3⟩ := (K_row (Kd.below HL.out HB.out)).1.at_event k (by rw [← HQ.out]; exact hlt)
    have hltI : (k : Int) < (q : Int) := by omega
    have hk0 : (0 : Int) ≤ (k : Int) := by omega
    obtain ⟨kd, id, t, wk⟩ := x
    have HSS := hid (fun (u : World) (hb : Below wr.heap.size wr u) => show ((u.cell? ⟨w.heap.size + 1, 0, none⟩ = some (.int .i64 C.scheds) ∧ u.cell? ⟨w.heap.size + 1, 1, none⟩ = some (.int .i64 C.lease) ∧ u.cell? ⟨w.heap.size + 1, 2, none⟩ = some (.int .i64 C.again) ∧ u.cell? ⟨w.heap.size + 1, 3, none⟩ = some (.int .i64 C.room) ∧ u.cell? ⟨w.heap.size + 1, 4, none⟩ = some (.int .i64 C.out) ∧ u.cell? ⟨w.heap.size + 1, 5, none⟩ = some (.slice CA C.names.length ca) ∧ u.cell? ⟨w.heap.size + 1, 6, none⟩ = some (.slice CB C.workers.length cb)) ∧ u.cell? ⟨w.heap.size, 7, none⟩ = some (.slice JA0 jn jcap) ∧ u.cell? (a.add (k * 4)) = some (.int .i64 kd) ∧ u.cell? ⟨(a.add (k * 4)).block, (a.add (k * 4)).off + 1, none⟩ = some (.int .i64 id) ∧ u.cell? ⟨(a.add (k * 4)).block, (a.add (k * 4)).off + 2, none⟩ = some (.int .i64 t) ∧ u.cell? ⟨(a.add (k * 4)).block, (a.add (k * 4)).off + 3, none⟩ = some (.int .i64 wk)) from
      ⟨(HBC.out.below (HB.out.trans (hb.mono HB.out.size))).1, HWB.out u (HB.out.trans (hb.mono HB.out.size)), (hb.cell (World.block_lt_of_cell? _ _ r0)).trans r0, (hb.cell (World.block_lt_of_cell? _ _ r1)).trans r1, (hb.cell (World.block_lt_of_cell? _ _ r2)).trans r2, (hb.cell (World.block_lt_of_cell? _ _ r3)).trans r3⟩)
    have T0 := hid (Below.refl wr.heap.size wr).drew
    have U0 := hid (HB.out.trans (T0.out.mono HB.out.size))
    have q0 := HSS.out wr.drew T0.out
    have HS0 := hid (Kd.any (Kd.below HS.out T0.out))
    obtain ⟨B0, hB0⟩ : ∃ n, n = wr.heap.size := ⟨_, rfl⟩
    have HB0 := hid hB0
    have HDLT := hid (fun j h => (show j < B0 by rw [hB0]; exact (HD.out.lt j h).2))
    clear hB0
    obtain ⟨As, cs, he, _, _, _⟩ := HS.out
    injection he with he _
    subst he
    obtain ⟨sl, hsl⟩ : ∃ n, n = s.length := ⟨_, rfl⟩
    rw [← hsl] at HS HS0 ⊢
    clear hx hsl
    go_wp2_with fail
    refine wp_region_held_drew (S := fun w' => (w'.cell? ⟨w.heap.size + 1, 0, none⟩ = some (.int .i64 C.scheds) ∧ w'.cell? ⟨w.heap.size + 1, 1, none⟩ = some (.int .i64 C.lease) ∧ w'.cell? ⟨w.heap.size + 1, 2, none⟩ = some (.int .i64 C.again) ∧ w'.cell? ⟨w.heap.size + 1, 3, none⟩ = some (.int .i64 C.room) ∧ w'.cell? ⟨w.heap.size + 1, 4, none⟩ = some (.int .i64 C.out) ∧ w'.cell? ⟨w.heap.size + 1, 5, none⟩ = some (.slice CA C.names.length ca) ∧ w'.cell? ⟨w.heap.size + 1, 6, none⟩ = some (.slice CB C.workers.length cb)) ∧ w'.cell? ⟨w.heap.size, 7, none⟩ = some (.slice JA0 jn jcap) ∧ w'.cell? (a.add (k * 4)) = some (.int .i64 kd) ∧ w'.cell? ⟨(a.add (k * 4)).block, (a.add (k * 4)).off + 1, none⟩ = some (.int .i64 id) ∧ w'.cell? ⟨(a.add (k * 4)).block, (a.add (k * 4)).off + 2, none⟩ = some (.int .i64 t) ∧ w'.cell? ⟨(a.add (k * 4)).block, (a.add (k * 4)).off + 3, none⟩ = some (.int .i64 wk)) (by kernel_rfl) q0 (fun hHeld => ?_)
    refine anyH_take 0 (v := ?_) rfl (by kernel_rfl) (by kernel_rfl) (by kernel_rfl) (fun _ _ _ h => h) (by rfl) hHeld ?_ ?_
    rotate_left
    · (intro w hSw; (try dsimp only at hSw); go_split_ands; go_simp; try with_reducible rfl)
    (try simp only [Act.put, List.setIfInBounds_toArray, List.set_cons_zero, List.set_cons_succ])
    refine anyH_take 1 (v := ?_) rfl (by kernel_rfl) (by kernel_rfl) (by kernel_rfl) (fun _ _ _ h => h) (by rfl) hHeld ?_ ?_
    rotate_left
    · (intro w hSw; (try dsimp only at hSw); go_split_ands; go_simp; try with_reducible rfl)
    (try simp only [Act.put, List.setIfInBounds_toArray, List.set_cons_zero, List.set_cons_succ])
    refine anyH_take 2 (v := ?_) rfl (by kernel_rfl) (by kernel_rfl) (by kernel_rfl) (fun _ _ _ h => h) (by rfl) hHeld ?_ ?_
    rotate_left
    · (intro w hSw; (try dsimp only at hSw); go_split_ands; go_simp; try with_reducible rfl)
    (try simp only [Act.put, List.setIfInBounds_toArray, List.set_cons_zero, List.set_cons_succ])
    refine anyH_take 3 (v := ?_) rfl (by kernel_rfl) (by kernel_rfl) (by kernel_rfl) (fun _ _ _ h => h) (by rfl) hHeld ?_ ?_
    rotate_left
    · (intro w hSw; (try dsimp only at hSw); go_split_ands; go_simp; try with_reducible rfl)
    (try simp only [Act.put, List.setIfInBounds_toArray, List.set_cons_zero, List.set_cons_succ])
    refine anyH_take 4 (v := ?_) rfl (by kernel_rfl) (by kernel_rfl) (by kernel_rfl) (fun _ _ _ h => h) (by rfl) hHeld ?_ ?_
    rotate_left
    · (intro w hSw; (try dsimp only at hSw); go_split_ands; go_simp; try with_reducible rfl)
    (try simp only [Act.put, List.setIfInBounds_toArray, List.set_cons_zero, List.set_cons_succ])
    refine anyH_take 5 (v := ?_) rfl (by kernel_rfl) (by kernel_rfl) (by kernel_rfl) (fun _ _ _ h => h) (by rfl) hHeld ?_ ?_
    rotate_left
    · (intro w hSw; (try dsimp only at hSw); go_split_ands; go_simp; try with_reducible rfl)
    (try simp only [Act.put, List.setIfInBounds_toArray, List.set_cons_zero, List.set_cons_succ])
    refine anyH_take 6 (v := ?_) rfl (by kernel_rfl) (by kernel_rfl) (by kernel_rfl) (fun _ _ _ h => h) (by rfl) hHeld ?_ ?_
    rotate_left
    · (intro w hSw; (try dsimp only at hSw); go_split_ands; go_simp; try with_reducible rfl)
    (try simp only [Act.put, List.setIfInBounds_toArray, List.set_cons_zero, List.set_cons_succ])
    refine anyH_take 7 (v := ?_) rfl (by kernel_rfl) (by kernel_rfl) (by kernel_rfl) (fun _ _ _ h => h) (by rfl) hHeld ?_ ?_
    rotate_left
    · (intro w hSw; (try dsimp only at hSw); go_split_ands; go_simp; try with_reducible rfl)
    (try simp only [Act.put, List.setIfInBounds_toArray, List.set_cons_zero, List.set_cons_succ])
    refine anyH_one 8 rfl (by kernel_rfl) (fun K hK => ?_)
    go_simp
    refine (estep_calls C CA CB ca cb js JA0 jn jcap s _ kd id t wk wr.drew (HBC.out.below U0.out).2.1 (Kd.below HJ.out U0.out) HS0.out (HG.out.ok (by have := HQ60.out; omega)) HSM.out.1).mono ?_
    rintro e w2 ⟨o, rfl, _, hW, hb1⟩
    have HW := hid hW
    have T1 := hid (bThen T0.out hb1)
    clear hW hb1
    go_simp
    refine hK.out _ _ (HSS.out _ T1.out) (fun hHeld => ?_)
    clear hK K
    (try simp only [Act.put, List.setIfInBounds_toArray, List.set_cons_zero, List.set_cons_succ])
    refine anyH_take 9 (v := ?_) rfl (by kernel_rfl) (by kernel_rfl) (by kernel_rfl) (fun _ _ _ h => h) (by rfl) hHeld ?_ ?_
    rotate_left
    · (intro w hSw; (try dsimp only at hSw); go_split_ands; go_simp; try with_reducible rfl)
    (try simp only [Act.put, List.setIfInBounds_toArray, List.set_cons_zero, List.set_cons_succ])
    refine anyH_take 10 (v := ?_) rfl (by kernel_rfl) (by kernel_rfl) (by kernel_rfl) (fun _ _ _ h => h) (by rfl) hHeld ?_ ?_
    rotate_left
    · (intro w hSw; (try dsimp only at hSw); go_split_ands; go_simp; try with_reducible rfl)
    (try simp only [Act.put, List.setIfInBounds_toArray, List.set_cons_zero, List.set_cons_succ])
    refine anyH_take 11 (v := ?_) rfl (by kernel_rfl) (by kernel_rfl) (by kernel_rfl) (fun _ _ _ h => h) (by rfl) hHeld ?_ ?_
    rotate_left
    · (intro w hSw; (try dsimp only at hSw); go_split_ands; go_simp; try with_reducible rfl)
    (try simp only [Act.put, List.setIfInBounds_toArray, List.set_cons_zero, List.set_cons_succ])
    refine anyH_take 12 (v := ?_) rfl (by kernel_rfl) (by kernel_rfl) (by kernel_rfl) (fun _ _ _ h => h) (by rfl) hHeld ?_ ?_
    rotate_left
    · (intro w hSw; (try dsimp only at hSw); go_split_ands; go_simp; try with_reducible rfl)
    (try simp only [Act.put, List.setIfInBounds_toArray, List.set_cons_zero, List.set_cons_succ])
    refine anyH_take 13 (v := ?_) rfl (by kernel_rfl) (by kernel_rfl) (by kernel_rfl) (fun _ _ _ h => h) (by rfl) hHeld ?_ ?_
    rotate_left
    · (intro w hSw; (try dsimp only at hSw); go_split_ands; go_simp; try with_reducible rfl)
    (try simp only [Act.put, List.setIfInBounds_toArray, List.set_cons_zero, List.set_cons_succ])
    refine wpAnyH_done (by kernel_rfl) ?_ _
    have U2 := hid (HB.out.trans (T1.out.mono HB.out.size))
    have HD2 := hid (HD.out.below T1.out)
    clear hHeld q0 r0 r1 r2 r3
    cases hst : evStep C js s ⟨kd, id, t, wk⟩ with
    | none =>
      have HS2 := hid (Kd.below HS.out T1.out)
      have HG2 := hid HG.out.more
      have HDL2 := hid (show D.length ≤ k + 1 by have := HDL.out; omega)
      clear hst
      go_wp2
      go_roundw
      case rel => exact ⟨k + 1, s, D, by omega, by go_num, HON, HG2, HDL2, HS2, HD2, U2⟩
      case measure => simp [intOf]; omega
    | some s' =>
    have HG2 := hid (evGood_step HSM.out.1 HG.out hst)
    have HO2 := hid (show Kd.entry.slice.K w2 (fun j => B0 ≤ j ∧ j < w2.heap.size) s' [o] from by
      have h := HW.out
      rw [hst] at h
      refine Kd.entry.slice.mono (fun j hj hl => ⟨?_, hl⟩) (h rfl).K
      have h0 : B0 = wr.heap.size := HB0.out
      rcases hj with hj | hj
      · have hj2 : wr.heap.size ≤ j := hj
        omega
      · have hj2 : wr.heap.size ≤ j := hj
        omega)
    have HON2 := hid (once_step HON.out hst)
    have HKD := hid (HON2.out.1.kinds ⟨kd, id, t, wk⟩ (by simp))
    obtain ⟨W2, hW2⟩ : ∃ W, W = w2.alloc (.cells #[.int .i64 kd, .int .i64 id, .int .i64 t, .int .i64 wk] 37) := ⟨_, rfl⟩
    have HB2 := hid (show Below w2.heap.size w2 W2 by rw [hW2]; exact bAlloc (Below.refl _ _) _)
    have HZE := hid (show W2.heap[w2.heap.size]? = some (.cells #[.int .i64 kd, .int .i64 id, .int .i64 t, .int .i64 wk] 37 (0, 0)) by rw [hW2]; exact heap_at rfl)
    have HSE := hid (fun (u : World) (h : Below W2.heap.size W2 u) => (show u.cell? ⟨w2.heap.size, 0, none⟩ = some (.int .i64 kd) ∧ u.cell? ⟨w2.heap.size, 1, none⟩ = some (.int .i64 id) ∧ u.cell? ⟨w2.heap.size, 2, none⟩ = some (.int .i64 t) ∧ u.cell? ⟨w2.heap.size, 3, none⟩ = some (.int .i64 wk) from by
      obtain ⟨y0, _, _⟩ := cells_of_block ((h.block (w2.heap.size) (Array.getElem?_eq_some_iff.1 HZE.out).1).trans HZE.out)
      exact ⟨y0 0 _ rfl, y0 1 _ rfl, y0 2 _ rfl, y0 3 _ rfl⟩))
    have U3 := hid (bThen U2.out HB2.out)
    have HD3 := hid (HD2.out.below HB2.out)
    have HO3 := hid (Kd.below HO2.out HB2.out)
    obtain ⟨_, _, r0, r1, r2, r3⟩ := HSS.out w2 T1.out
    obtain ⟨Ad, nd, cd, rfl, hnd, hcd⟩ := HD3.out.shape'
    have HND := hid hnd
    have hnd60 : nd ≤ 60 := by have := HDL.out; omega
    have hEq2 := hW2.symm
    clear hst HW hW2 hnd
    go_wp2
    go_loopw [12, 13] (fun rv mv ws => ∃ m : Nat, m ≤ nd ∧ mv = .int .i64 m ∧ rv = .int .i64 (ranK (D.take m) wk) ∧ Hid (Below W2.heap.size W2 ws)) (fun _ mv _ => nd - (intOf mv).toNat)
    case atStart => exact ⟨0, by omega, rfl, by simp [ranK, cntK], hid (Below.refl _ _)⟩
    case round =>
      obtain ⟨m, hm, rfl, rfl, HBs⟩ := hrel
      by_cases hml : m < nd
      · obtain ⟨ad, y, had, hy, s0, s1, s2, s3⟩ := (K_row (Kd.any (HD3.out.below HBs.out).K)).1.at_event m (by rw [← HND.out]; exact hml)
        subst had
        have HY := hid hy
        have hmI : (m : Int) < (nd : Int) := by omega
        have hm0 : (0 : Int) ≤ (m : Int) := by omega
        obtain ⟨x0, x1, x2, x3⟩ := HSE.out _ HBs.out
        have HBn := hid (fun nq => below_drewN HBs.out nq)
        have hw : IntKind.i64.wrap ((m : Int) + 1) = (m : Int) + 1 := IntWalk.i64_in _ (by omega)
        have hfr : y ≠ ⟨kd, id, t, wk⟩ := fun h => HON2.out.2.fresh (by rw [← h]; exact List.mem_of_getElem? hy)
        have heq := eqlE y ⟨kd, id, t, wk⟩
        rw [evEq_no hfr] at heq
        have hlau := HON2.out.2.lau
        have HLA := hid (fun (h1 : kd = 2) (h2 : y.kind = 2) (h3 : y.job = id) (h4 : y.task = t) => hlau h1 y (List.mem_of_getElem? HY.out) h2 ⟨h3, h4⟩)
        have HRN := hid (ranK_take (k := wk) hy)
        obtain ⟨r, hr⟩ : ∃ r, ranK (D.take m) wk = r := ⟨_, rfl⟩
        have hrb := ranK_bound (D.take m) wk
        rw [hr] at HRN hrb ⊢
        have hrb2 : -60 ≤ r ∧ r ≤ 60 := by
          have : (D.take m).length ≤ m := by rw [List.length_take]; omega
          omega
        have hw1 : IntKind.i64.wrap (r + 1) = r + 1 := IntWalk.i64_in _ (by omega)
        have hw2 : IntKind.i64.wrap (r - 1) = r - 1 := IntWalk.i64_in _ (by omega)
        obtain ⟨yk, yj, yt, yw⟩ := y
        dsimp only at HRN HLA s0 s1 s2 s3 heq
        clear hy hr hrb hfr hlau
        by_cases h2 : yk = 2
        · have b2 : (yk == 2) = true := by rw [h2]; exact beq_self_eq_true _
          have b3 : (yk == 3) = false := by rw [h2]; decide
          by_cases hw3 : yw = wk
          · have HR2 := hid (show ranK (D.take (m + 1)) wk = r + 1 by rw [HRN.out, hw3]; simp [h2])
            have bw : (yw == wk) = true := by rw [hw3]; exact beq_self_eq_true _
            clear hw3
            by_cases hk2 : kd = 2
            · have e2 : (kd == 2) = true := by rw [hk2]; exact beq_self_eq_true _
              by_cases hj : yj = id
              · have ht : yt ≠ t := fun h => HLA.out hk2 h2 hj h
                have bj : (yj == id) = true := by rw [hj]; exact beq_self_eq_true _
                have bt : (yt == t) = false := beq_false_of_ne ht
                clear hk2 hj ht h2
                go_wp2_with fail
                go_quiet (fail)
                go_wp2_with fail
                go_quiet (fail)
                go_wp2_with fail
                go_quiet (fail)
                go_wp2_with fail
                go_quiet (fail)
                go_wp2
                go_roundw
                case rel => exact ⟨m + 1, by omega, by go_num, by rw [HR2.out], hid (HBn.out _)⟩
                case measure => simp [intOf]; omega
              · have bj : (yj == id) = false := beq_false_of_ne hj
                clear hk2 hj h2
                go_wp2_with fail
                go_quiet (fail)
                go_wp2_with fail
                go_quiet (fail)
                go_wp2_with fail
                go_quiet (fail)
                go_wp2_with fail
                go_quiet (fail)
                go_wp2
                go_roundw
                case rel => exact ⟨m + 1, by omega, by go_num, by rw [HR2.out], hid (HBn.out _)⟩
                case measure => simp [intOf]; omega
            · have e2 : (kd == 2) = false := beq_false_of_ne hk2
              clear hk2 h2
              go_wp2_with fail
              go_quiet (fail)
              go_wp2_with fail
              go_quiet (fail)
              go_wp2_with fail
              go_quiet (fail)
              go_wp2_with fail
              go_quiet (fail)
              go_wp2
              go_roundw
              case rel => exact ⟨m + 1, by omega, by go_num, by rw [HR2.out], hid (HBn.out _)⟩
              case measure => simp [intOf]; omega
          · have HR2 := hid (show ranK (D.take (m + 1)) wk = r by rw [HRN.out]; simp [hw3])
            have bw : (yw == wk) = false := beq_false_of_ne hw3
            clear hw3
            by_cases hk2 : kd = 2
            · have e2 : (kd == 2) = true := by rw [hk2]; exact beq_self_eq_true _
              by_cases hj : yj = id
              · have ht : yt ≠ t := fun h => HLA.out hk2 h2 hj h
                have bj : (yj == id) = true := by rw [hj]; exact beq_self_eq_true _
                have bt : (yt == t) = false := beq_false_of_ne ht
                clear hk2 hj ht h2
                go_wp2_with fail
                go_quiet (fail)
                go_wp2_with fail
                go_quiet (fail)
                go_wp2_with fail
                go_quiet (fail)
                go_wp2_with fail
                go_quiet (fail)
                go_wp2
                go_roundw
                case rel => exact ⟨m + 1, by omega, by go_num, by rw [HR2.out], hid (HBn.out _)⟩
                case measure => simp [intOf]; omega
              · have bj : (yj == id) = false := beq_false_of_ne hj
                clear hk2 hj h2
                go_wp2_with fail
                go_quiet (fail)
                go_wp2_with fail
                go_quiet (fail)
                go_wp2_with fail
                go_quiet (fail)
                go_wp2_with fail
                go_quiet (fail)
                go_wp2
                go_roundw
                case rel => exact ⟨m + 1, by omega, by go_num, by rw [HR2.out], hid (HBn.out _)⟩
                case measure => simp [intOf]; omega
            · have e2 : (kd == 2) = false := beq_false_of_ne hk2
              clear hk2 h2
              go_wp2_with fail
              go_quiet (fail)
              go_wp2_with fail
              go_quiet (fail)
              go_wp2_with fail
              go_quiet (fail)
              go_wp2_with fail
              go_quiet (fail)
              go_wp2
              go_roundw
              case rel => exact ⟨m + 1, by omega, by go_num, by rw [HR2.out], hid (HBn.out _)⟩
              case measure => simp [intOf]; omega
        have b2 : (yk == 2) = false := beq_false_of_ne h2
        by_cases h3 : yk = 3
        · have b3 : (yk == 3) = true := by rw [h3]; exact beq_self_eq_true _
          by_cases hw3 : yw = wk
          · have HR2 := hid (show ranK (D.take (m + 1)) wk = r - 1 by rw [HRN.out, hw3]; simp [h3])
            have bw : (yw == wk) = true := by rw [hw3]; exact beq_self_eq_true _
            clear hw3
            by_cases hk2 : kd = 2
            · have e2 : (kd == 2) = true := by rw [hk2]; exact beq_self_eq_true _
              clear hk2 h3
              go_wp2_with fail
              go_quiet (fail)
              go_wp2_with fail
              go_quiet (fail)
              go_wp2_with fail
              go_quiet (fail)
              go_wp2_with fail
              go_quiet (fail)
              go_wp2
              go_roundw
              case rel => exact ⟨m + 1, by omega, by go_num, by rw [HR2.out], hid (HBn.out _)⟩
              case measure => simp [intOf]; omega
            · have e2 : (kd == 2) = false := beq_false_of_ne hk2
              clear hk2 h3
              go_wp2_with fail
              go_quiet (fail)
              go_wp2_with fail
              go_quiet (fail)
              go_wp2_with fail
              go_quiet (fail)
              go_wp2_with fail
              go_quiet (fail)
              go_wp2
              go_roundw
              case rel => exact ⟨m + 1, by omega, by go_num, by rw [HR2.out], hid (HBn.out _)⟩
              case measure => simp [intOf]; omega
          · have HR2 := hid (show ranK (D.take (m + 1)) wk = r by rw [HRN.out]; simp [hw3])
            have bw : (yw == wk) = false := beq_false_of_ne hw3
            clear hw3
            by_cases hk2 : kd = 2
            · have e2 : (kd == 2) = true := by rw [hk2]; exact beq_self_eq_true _
              clear hk2 h3
              go_wp2_with fail
              go_quiet (fail)
              go_wp2_with fail
              go_quiet (fail)
              go_wp2_with fail
              go_quiet (fail)
              go_wp2_with fail
              go_quiet (fail)
              go_wp2
              go_roundw
              case rel => exact ⟨m + 1, by omega, by go_num, by rw [HR2.out], hid (HBn.out _)⟩
              case measure => simp [intOf]; omega
            · have e2 : (kd == 2) = false := beq_false_of_ne hk2
              clear hk2 h3
              go_wp2_with fail
              go_quiet (fail)
              go_wp2_with fail
              go_quiet (fail)
              go_wp2_with fail
              go_quiet (fail)
              go_wp2_with fail
              go_quiet (fail)
              go_wp2
              go_roundw
              case rel => exact ⟨m + 1, by omega, by go_num, by rw [HR2.out], hid (HBn.out _)⟩
              case measure => simp [intOf]; omega
        have b3 : (yk == 3) = false := beq_false_of_ne h3
        have HR2 := hid (show ranK (D.take (m + 1)) wk = r by rw [HRN.out]; simp [h2, h3])
        by_cases hk2 : kd = 2
        · have e2 : (kd == 2) = true := by rw [hk2]; exact beq_self_eq_true _
          clear hk2 
          go_wp2_with fail
          go_quiet (fail)
          go_wp2_with fail
          go_quiet (fail)
          go_wp2_with fail
          go_quiet (fail)
          go_wp2_with fail
          go_quiet (fail)
          go_wp2
          go_roundw
          case rel => exact ⟨m + 1, by omega, by go_num, by rw [HR2.out], hid (HBn.out _)⟩
          case measure => simp [intOf]; omega
        · have e2 : (kd == 2) = false := beq_false_of_ne hk2
          clear hk2 
          go_wp2_with fail
          go_quiet (fail)
          go_wp2_with fail
          go_quiet (fail)
          go_wp2_with fail
          go_quiet (fail)
          go_wp2_with fail
          go_quiet (fail)
          go_wp2
          go_roundw
          case rel => exact ⟨m + 1, by omega, by go_num, by rw [HR2.out], hid (HBn.out _)⟩
          case measure => simp [intOf]; omega
      · obtain rfl : m = nd := by omega
        have HTK := hid (show ranK (D.take m) wk = ranK D wk by rw [List.take_of_length_le (by rw [HND.out]; exact Nat.le_refl _)])
        obtain ⟨r, hr⟩ : ∃ r, ranK (D.take m) wk = r := ⟨_, rfl⟩
        have HR := hid (show ranK D wk = r by rw [← hr, HTK.out])
        rw [hr]
        have U4 := hid (bThen U3.out HBs.out)
        have HD4 := hid (HD3.out.below HBs.out)
        have HO4 := hid (Kd.below HO3.out HBs.out)
        have HOK := hid HON2.out.2
        have HON3 := hid HON2.out.1
        have HKE := hid (Kd.any HD4.out.K)
        have hw2s := HB2.out.size
        obtain ⟨x0, x1, x2, x3⟩ := HSE.out _ HBs.out
        clear hr hEq2 r0 r1 r2 r3 HTK

        have hkk : kd = 1 ∨ kd = 2 ∨ kd = 3 := HKD.out
        rcases hkk with h | h | h
        · subst h
          have UX := hid (bThen U3.out HBs.out)
          obtain ⟨y0, y1, y2, y3⟩ := HSE.out _ HBs.out
          obtain ⟨W5, hW5⟩ : ∃ W, W = (wr).alloc (.cells #[.int .i64 1, .int .i64 id, .int .i64 t, .int .i64 wk] 37) := ⟨_, rfl⟩
          have HB5 := hid (show Below (wr).heap.size (wr) W5 by rw [hW5]; exact bAlloc (Below.refl _ _) _)
          have hx5 : (wr).heap.size < W5.heap.size := by rw [hW5]; simp
          have HR5 := hid (show Kd.event.slice.K W5 (fun j => j = (wr).heap.size) [⟨1, id, t, wk⟩] [.slice (some ⟨(wr).heap.size, 0, none⟩) 1 1] from K_of_block (d := Kd.event) 1 1 rfl (show W5.heap[(wr).heap.size]? = some (.cells #[.int .i64 1, .int .i64 id, .int .i64 t, .int .i64 wk] 37 (0, 0)) by rw [hW5]; exact heap_at rfl) rfl (cells_event [⟨1, id, t, wk⟩]) (Nat.le_refl _) (show 1 ≤ 140737488355328 by decide))
          have HD5 := hid (HD3.out.below (bThen HBs.out HB5.out))
          have HO5 := hid (Kd.below HO3.out (bThen HBs.out HB5.out))
          have hEq5 := hW5.symm
          have hux := UX.out.size
          have hbx := (HBs.out).size
          have hvb := HB.out.size
          have hb0 := HB0.out
          clear hW5
          go_wp2_with (at_builtin; go_must (refine appends_arm Kd.event (w0 := wr) (W := W5) V.heap.size rfl _ _ 29 37 _ 32 rfl Tryd.underlying29 Tryd.infoEvent rfl (by decide) (by decide) (.slice Ad m cd) D [⟨1, id, t, wk⟩] (some ⟨(wr).heap.size, 0, none⟩) 1 1 NoT (fun j => j = (wr).heap.size) NoT rfl rfl rfl (K_row HR5.out).1 (fun _ _ h => h) (fun _ h => h.elim) HD5.out (HB5.out.mono hux) (by omega) (by rw [← HND.out]; omega) ?_))
          intro v6 w6 hO6 hb6 hg6 hf6
          have HD6 := hid hO6
          have HB6 := hid (show Below V.heap.size V w6 from UX.out.trans hb6)
          have HO6 := hid (show Kd.entry.slice.K w6 (fun j => some j ≠ v6.ownBlock) s' [o] from by
            refine Kd.entry.slice.mono (fun j hj _ => ?_) (Kd.entry.slice.move (w1 := w6) (fun j hj hl => hg6.block j hl (fun e => ?_)) HO5.out)
            · rcases hf6 with h | ⟨b9, h, h9⟩
              · rw [h]; exact fun e => by have h1 := HDLT.out j e.symm; have h2 := hj.1; omega
              · rw [h]; exact fun e => by have h1 := Option.some.inj e; have h2 := hj.2; omega
            · have h1 := HDLT.out j e.symm; have h2 := hj.1; omega)
          have HDL6 := hid (show (D ++ [(⟨1, id, t, wk⟩ : EvS)]).length ≤ k + 1 by rw [List.length_append]; have := HDL.out; simp; omega)
          clear hO6 hb6 hg6 hf6 hux hbx hvb hb0 hx5
          go_wp2
          go_roundw
          case rel => exact ⟨k + 1, s', _, by omega, by go_num, HON3, HG2, HDL6, HO6, HD6, HB6⟩
          case measure => simp [intOf]; omega
        · subst h
          have HS := hid (HOK.out.slot rfl)
          obtain ⟨j, rfl⟩ := Int.eq_ofNat_of_zero_le (show 0 ≤ wk from HS.out.1)
          have hjl : j < C.workers.length := by have := HS.out.2.1; dsimp only at this; omega
          obtain ⟨aw, y, haw, hy, z0, _⟩ := (K_row (HBC.out.below U4.out).2.1.workers).1.at_worker j hjl
          subst haw
          have hjI : (j : Int) < (C.workers.length : Int) := by omega
          have hj0 : (0 : Int) ≤ (j : Int) := by omega
          have hlt2 : r < y.slots := by
            have h := HS.out.2.2
            dsimp only at h
            rw [show C.workers.getD (j : Int).toNat ⟨0, 0, 0⟩ = y by rw [List.getD_eq_getElem?_getD, Int.toNat_natCast, hy]; rfl] at h
            have h2 := HR.out
            unfold ranK at h2
            omega
          have hn1 : ¬ y.slots ≤ r := by omega
          have hn2 : ¬ (C.workers.length : Int) ≤ (j : Int) := by omega
          have hn3 : ¬ (j : Int) < 0 := by omega
          obtain ⟨c0, c1, c2, c3, c4, c5, c6⟩ := (HBC.out.below U4.out).1
          clear hlt2 hy
          go_wp2_with fail
          refine (has39_calls D _ ⟨1, id, 0, 0⟩ true _ HKE.out ⟨fun _ => HOK.out.acc (show (1 : Int) < 2 by decide), fun _ => rfl⟩).mono ?_
          rintro e w7 ⟨rfl, hb7⟩
          have T7 := hid (bThen HBs.out hb7)
          clear hb7 x0 x1 x2 x3 c0 c1 c2 c3 c4 c5 c6 z0
          have UX := hid (bThen U3.out T7.out)
          obtain ⟨y0, y1, y2, y3⟩ := HSE.out _ T7.out
          obtain ⟨W5, hW5⟩ : ∃ W, W = (w7).alloc (.cells #[.int .i64 2, .int .i64 id, .int .i64 t, .int .i64 (j : Int)] 37) := ⟨_, rfl⟩
          have HB5 := hid (show Below (w7).heap.size (w7) W5 by rw [hW5]; exact bAlloc (Below.refl _ _) _)
          have hx5 : (w7).heap.size < W5.heap.size := by rw [hW5]; simp
          have HR5 := hid (show Kd.event.slice.K W5 (fun j => j = (w7).heap.size) [⟨2, id, t, (j : Int)⟩] [.slice (some ⟨(w7).heap.size, 0, none⟩) 1 1] from K_of_block (d := Kd.event) 1 1 rfl (show W5.heap[(w7).heap.size]? = some (.cells #[.int .i64 2, .int .i64 id, .int .i64 t, .int .i64 (j : Int)] 37 (0, 0)) by rw [hW5]; exact heap_at rfl) rfl (cells_event [⟨2, id, t, (j : Int)⟩]) (Nat.le_refl _) (show 1 ≤ 140737488355328 by decide))
          have HD5 := hid (HD3.out.below (bThen T7.out HB5.out))
          have HO5 := hid (Kd.below HO3.out (bThen T7.out HB5.out))
          have hEq5 := hW5.symm
          have hux := UX.out.size
          have hbx := (T7.out).size
          have hvb := HB.out.size
          have hb0 := HB0.out
          clear hW5
          go_wp2_with (at_builtin; go_must (refine appends_arm Kd.event (w0 := w7) (W := W5) V.heap.size rfl _ _ 29 37 _ 32 rfl Tryd.underlying29 Tryd.infoEvent rfl (by decide) (by decide) (.slice Ad m cd) D [⟨2, id, t, (j : Int)⟩] (some ⟨(w7).heap.size, 0, none⟩) 1 1 NoT (fun j => j = (w7).heap.size) NoT rfl rfl rfl (K_row HR5.out).1 (fun _ _ h => h) (fun _ h => h.elim) HD5.out (HB5.out.mono hux) (by omega) (by rw [← HND.out]; omega) ?_))
          intro v6 w6 hO6 hb6 hg6 hf6
          have HD6 := hid hO6
          have HB6 := hid (show Below V.heap.size V w6 from UX.out.trans hb6)
          have HO6 := hid (show Kd.entry.slice.K w6 (fun j => some j ≠ v6.ownBlock) s' [o] from by
            refine Kd.entry.slice.mono (fun j hj _ => ?_) (Kd.entry.slice.move (w1 := w6) (fun j hj hl => hg6.block j hl (fun e => ?_)) HO5.out)
            · rcases hf6 with h | ⟨b9, h, h9⟩
              · rw [h]; exact fun e => by have h1 := HDLT.out j e.symm; have h2 := hj.1; omega
              · rw [h]; exact fun e => by have h1 := Option.some.inj e; have h2 := hj.2; omega
            · have h1 := HDLT.out j e.symm; have h2 := hj.1; omega)
          have HDL6 := hid (show (D ++ [(⟨2, id, t, (j : Int)⟩ : EvS)]).length ≤ k + 1 by rw [List.length_append]; have := HDL.out; simp; omega)
          clear hO6 hb6 hg6 hf6 hux hbx hvb hb0 hx5
          go_wp2
          go_roundw
          case rel => exact ⟨k + 1, s', _, by omega, by go_num, HON3, HG2, HDL6, HO6, HD6, HB6⟩
          case measure => simp [intOf]; omega
        · subst h
          go_wp2_with fail
          refine (has39_calls D _ ⟨2, id, t, wk⟩ true _ HKE.out ⟨fun _ => HOK.out.ahead rfl, fun _ => rfl⟩).mono ?_
          rintro e w7 ⟨rfl, hb7⟩
          have T7 := hid (bThen HBs.out hb7)
          have HKE2 := hid (Kd.below HKE.out hb7)
          clear hb7 x0 x1 x2 x3
          obtain ⟨x0, x1, x2, x3⟩ := HSE.out _ T7.out
          go_wp2_with fail
          refine (has39_calls D _ ⟨1, id, 0, 0⟩ true _ HKE2.out ⟨fun _ => HOK.out.acc (show (1 : Int) < 3 by decide), fun _ => rfl⟩).mono ?_
          rintro e w8 ⟨rfl, hb8⟩
          have T8 := hid (bThen T7.out hb8)
          clear hb8 x0 x1 x2 x3
          have UX := hid (bThen U3.out T8.out)
          obtain ⟨y0, y1, y2, y3⟩ := HSE.out _ T8.out
          obtain ⟨W5, hW5⟩ : ∃ W, W = (w8).alloc (.cells #[.int .i64 3, .int .i64 id, .int .i64 t, .int .i64 wk] 37) := ⟨_, rfl⟩
          have HB5 := hid (show Below (w8).heap.size (w8) W5 by rw [hW5]; exact bAlloc (Below.refl _ _) _)
          have hx5 : (w8).heap.size < W5.heap.size := by rw [hW5]; simp
          have HR5 := hid (show Kd.event.slice.K W5 (fun j => j = (w8).heap.size) [⟨3, id, t, wk⟩] [.slice (some ⟨(w8).heap.size, 0, none⟩) 1 1] from K_of_block (d := Kd.event) 1 1 rfl (show W5.heap[(w8).heap.size]? = some (.cells #[.int .i64 3, .int .i64 id, .int .i64 t, .int .i64 wk] 37 (0, 0)) by rw [hW5]; exact heap_at rfl) rfl (cells_event [⟨3, id, t, wk⟩]) (Nat.le_refl _) (show 1 ≤ 140737488355328 by decide))
          have HD5 := hid (HD3.out.below (bThen T8.out HB5.out))
          have HO5 := hid (Kd.below HO3.out (bThen T8.out HB5.out))
          have hEq5 := hW5.symm
          have hux := UX.out.size
          have hbx := (T8.out).size
          have hvb := HB.out.size
          have hb0 := HB0.out
          clear hW5
          go_wp2_with (at_builtin; go_must (refine appends_arm Kd.event (w0 := w8) (W := W5) V.heap.size rfl _ _ 29 37 _ 32 rfl Tryd.underlying29 Tryd.infoEvent rfl (by decide) (by decide) (.slice Ad m cd) D [⟨3, id, t, wk⟩] (some ⟨(w8).heap.size, 0, none⟩) 1 1 NoT (fun j => j = (w8).heap.size) NoT rfl rfl rfl (K_row HR5.out).1 (fun _ _ h => h) (fun _ h => h.elim) HD5.out (HB5.out.mono hux) (by omega) (by rw [← HND.out]; omega) ?_))
          intro v6 w6 hO6 hb6 hg6 hf6
          have HD6 := hid hO6
          have HB6 := hid (show Below V.heap.size V w6 from UX.out.trans hb6)
          have HO6 := hid (show Kd.entry.slice.K w6 (fun j => some j ≠ v6.ownBlock) s' [o] from by
            refine Kd.entry.slice.mono (fun j hj _ => ?_) (Kd.entry.slice.move (w1 := w6) (fun j hj hl => hg6.block j hl (fun e => ?_)) HO5.out)
            · rcases hf6 with h | ⟨b9, h, h9⟩
              · rw [h]; exact fun e => by have h1 := HDLT.out j e.symm; have h2 := hj.1; omega
              · rw [h]; exact fun e => by have h1 := Option.some.inj e; have h2 := hj.2; omega
            · have h1 := HDLT.out j e.symm; have h2 := hj.1; omega)
          have HDL6 := hid (show (D ++ [(⟨3, id, t, wk⟩ : EvS)]).length ≤ k + 1 by rw [List.length_append]; have := HDL.out; simp; omega)
          clear hO6 hb6 hg6 hf6 hux hbx hvb hb0 hx5
          go_wp2
          go_roundw
          case rel => exact ⟨k + 1, s', _, by omega, by go_num, HON3, HG2, HDL6, HO6, HD6, HB6⟩
          case measure => simp [intOf]; omega
end Go.Proofs.YtgedkcglkhleoaaDoor
