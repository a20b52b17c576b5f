import Derived.Test.YtgedkcglkhleoaaGreatDoorRef15
import Derived.Test.YtgedkcglkhleoaaGreatDoorConfK
/- job.Check; siskinref15.Check. -/
namespace Go.Proofs.YtgedkcglkhleoaaGreatDoor
open Go.RowKit

def checkFrom (tab : List ByteArray) (ws : List WorkerS) : List ByteArray → Int → Int × Int × Int
  | [], _ => (-1, 0, 0)
  | s :: r, i => if (needS tab s).2.2 ≠ 0 then (i, (needS tab s).2.1, (needS tab s).2.2) else if admitS (needS tab s).1 ws = 0 then (i, 0, 11) else checkFrom tab ws r (i + 1)
def checkJ (tab : List ByteArray) (ws : List WorkerS) (id : Int) (ss : List ByteArray) : Int × Int × Int :=
  if id < 1 ∨ 72057594037927935 < id then (-1, 0, 1) else if ss.length = 0 then (-1, 0, 10) else if 16 < ss.length then (-1, 0, 4) else checkFrom tab ws ss 0
theorem checkFrom_at {tab : List ByteArray} {ws : List WorkerS} {ss : List ByteArray} {k : Nat} {s : ByteArray} {i : Int} (hx : ss[k]? = some s) : checkFrom tab ws (ss.drop k) i = if (needS tab s).2.2 ≠ 0 then (i, (needS tab s).2.1, (needS tab s).2.2) else if admitS (needS tab s).1 ws = 0 then (i, 0, 11) else checkFrom tab ws (ss.drop (k + 1)) (i + 1) := by
  obtain ⟨hk, he⟩ := List.getElem?_eq_some_iff.1 hx
  rw [List.drop_eq_getElem_cons hk, he]
  rfl
theorem set3 {W : World} {rb : Nat} {t : TypeId} {z0 z1 z2 : Value} (h : W.heap[rb]? = some (.cells #[z0, z1, z2] t (0, 0))) (v0 v1 v2 : Value) :
    ∃ W', W' = (((W.setCell ⟨rb, 0, none⟩ v0).setCell ⟨rb, 1, none⟩ v1).setCell ⟨rb, 2, none⟩ v2) ∧ W'.cell? ⟨rb, 0, none⟩ = some v0 ∧ W'.cell? ⟨rb, 1, none⟩ = some v1 ∧ W'.cell? ⟨rb, 2, none⟩ = some v2 ∧ Below rb W W' := by
  have g0 := heap_set h 0 v0
  have g1 := heap_set g0 1 v1
  have g2 := heap_set g1 2 v2
  have e : ((#[z0, z1, z2].setIfInBounds 0 v0).setIfInBounds 1 v1).setIfInBounds 2 v2 = #[v0, v1, v2] := by simp
  rw [e] at g2
  have b0 := (Below.refl rb W).setCell (p := ⟨rb, 0, none⟩) (Nat.le_refl _) v0
  have b1 := b0.setCell (p := ⟨rb, 1, none⟩) (Nat.le_refl _) v1
  have b2 := b1.setCell (p := ⟨rb, 2, none⟩) (Nat.le_refl _) v2
  obtain ⟨q, _, _⟩ := cells_of_block g2
  exact ⟨_, rfl, q 0 v0 rfl, q 1 v1 rfl, q 2 v2 rfl, b2⟩
set_option maxHeartbeats 4000000 in
set_option maxRecDepth 100000 in
theorem jobCheck_calls (tab : List ByteArray) (ws : List WorkerS) (id : Int) (ss : List ByteArray) (k1 k2 k3 k4 k5 : Int) (v u sv : Value) (w : World) (ht : Kd.str.slice.K w Any tab [v]) (hw : Kd.worker.slice.K w Any ws [u]) (ha : ∀ x ∈ ws, x.attrs < 2 ^ 64) (hss : Kd.str.slice.K w Any ss [sv]) (hsz : ∀ s ∈ ss, s.size ≤ 140737488351232) :
    Calls Tryz.prog 37 #[.agg #[.int .i64 k1, .int .i64 k2, .int .i64 k3, .int .i64 k4, .int .i64 k5, v, u], .agg #[.int .i64 id, sv]] w fun e w' => e = .returned (.tuple #[.int .i64 (checkJ tab ws id ss).1, .int .i64 (checkJ tab ws id ss).2.1, .int .i64 (checkJ tab ws id ss).2.2]) ∧ Below w.heap.size w w' := by
  have HT := hid ht
  have HW := hid hw
  have HA := hid ha
  have HSZ := hid hsz
  obtain ⟨A, c, he, _, _, _⟩ := ht
  injection he with he _
  subst he
  obtain ⟨B, d, he, _, _, _⟩ := hw
  injection he with he _
  subst he
  obtain ⟨D, f, he, hc, hm, hr⟩ := hss
  injection he with he _
  subst he
  have HR := hid hr
  obtain ⟨q, hq⟩ : ∃ q, ss.length = q := ⟨_, rfl⟩
  have HQ := hid hq
  rw [hq] at hc hm ⊢
  obtain ⟨V, hV⟩ : ∃ V, V = (w.alloc (.cells #[.int .i64 k1, .int .i64 k2, .int .i64 k3, .int .i64 k4, .int .i64 k5, .slice A tab.length c, .slice B ws.length d] 25)).alloc (.cells #[.int .i64 id, .slice D q f] 54) := ⟨_, rfl⟩
  have HBV := hid (show Below w.heap.size w V by rw [hV]; exact bAlloc (bAlloc (Below.refl _ _) _) _)
  have hz := hid (show V.heap[w.heap.size]? = some (.cells #[.int .i64 k1, .int .i64 k2, .int .i64 k3, .int .i64 k4, .int .i64 k5, .slice A tab.length c, .slice B ws.length d] 25 (0, 0)) by rw [hV, Below.heap_alloc _ _ _ (by simp)]; exact heap_at rfl)
  have hz1 := hid (show V.heap[w.heap.size + 1]? = some (.cells #[.int .i64 id, .slice D q f] 54 (0, 0)) by rw [hV]; exact heap_at (by simp))
  have HCB := hid (fun (u : World) (hb : Below V.heap.size V u) => conf_box hz.out u hb)
  have HJB := hid (fun (u : World) (h : Below V.heap.size V u) => (show u.cell? ⟨w.heap.size + 1, 0, none⟩ = some (.int .i64 id) ∧ u.cell? ⟨w.heap.size + 1, 1, none⟩ = some (.slice D q f) from by
    obtain ⟨y0, _, _⟩ := cells_of_block ((h.block (w.heap.size + 1) (Array.getElem?_eq_some_iff.1 hz1.out).1).trans hz1.out)
    exact ⟨y0 0 _ rfl, y0 1 _ rfl⟩))
  have HV := hid hV
  obtain ⟨j0, j1⟩ := HJB.out V (Below.refl _ _)
  clear hV hr hq ha hsz
  by_cases hid1 : id < 1
  · have HF := hid (show checkJ tab ws id ss = (-1, 0, 1) by unfold checkJ; rw [if_pos (.inl hid1)])
    go_enter Tryz.func37, Tryz.ntmps37
    go_wp2
    go_ret3
    rw [HF.out]
    exact ⟨rfl, bAlloc (bAlloc (Below.refl _ _) _) _⟩
  by_cases hid2 : 72057594037927935 < id
  · have HF := hid (show checkJ tab ws id ss = (-1, 0, 1) by unfold checkJ; rw [if_pos (.inr hid2)])
    go_enter Tryz.func37, Tryz.ntmps37
    go_wp2
    go_ret3
    rw [HF.out]
    exact ⟨rfl, bAlloc (bAlloc (Below.refl _ _) _) _⟩
  by_cases hq0 : q = 0
  · have HF := hid (show checkJ tab ws id ss = (-1, 0, 10) by unfold checkJ; rw [if_neg (by omega), if_pos (by rw [HQ.out]; exact hq0)])
    have hb : ((q : Int) == 0) = true := by rw [beq_iff_eq]; omega
    clear hq0
    go_enter Tryz.func37, Tryz.ntmps37
    go_wp2
    go_ret3
    rw [HF.out]
    exact ⟨rfl, bAlloc (bAlloc (Below.refl _ _) _) _⟩
  by_cases hq1 : 16 < q
  · have HF := hid (show checkJ tab ws id ss = (-1, 0, 4) by unfold checkJ; rw [if_neg (by omega), if_neg (by rw [HQ.out]; exact hq0), if_pos (by rw [HQ.out]; exact hq1)])
    have hb : ((q : Int) == 0) = false := by rw [beq_eq_false_iff_ne]; omega
    have hb2 : (16 : Int) < (q : Int) := by omega
    clear hq0
    go_enter Tryz.func37, Tryz.ntmps37
    go_wp2
    go_ret3
    rw [HF.out]
    exact ⟨rfl, bAlloc (bAlloc (Below.refl _ _) _) _⟩
  have HF := hid (show checkJ tab ws id ss = checkFrom tab ws ss 0 by unfold checkJ; rw [if_neg (by omega), if_neg (by rw [HQ.out]; exact hq0), if_neg (by rw [HQ.out]; exact hq1)])
  have hb : ((q : Int) == 0) = false := by rw [beq_eq_false_iff_ne]; omega
  have hb2 : ¬ (16 : Int) < (q : Int) := by omega
  clear hq0
  go_enter Tryz.func37, Tryz.ntmps37
  go_wp2
  rw [← HV.out]
  go_loopw [34] (fun i wr => ∃ k : Nat, k ≤ q ∧ i = .int .i64 k ∧ Hid (checkFrom tab ws ss 0 = checkFrom tab ws (ss.drop k) k) ∧ Hid (Below V.heap.size V wr)) (fun i _ => q - (intOf i).toNat)
  case atStart => exact ⟨0, by omega, rfl, rfl, Below.refl _ _⟩
  case round =>
    obtain ⟨k, hk, rfl, HC, HB⟩ := hrel
    by_cases hlt : k < q
    · obtain ⟨a, x, rfl, hx, r0⟩ := (HR.out.below (bThen HBV.out HB.out)).at_str k (by rw [HQ.out]; exact hlt)
      have hxz := HSZ.out x (List.mem_of_getElem? hx)
      have hltI : (k : Int) < (q : Int) := by omega
      have hk0 : (0 : Int) ≤ (k : Int) := by omega
      obtain ⟨c0, c1, c2, c3, c4, c5, c6⟩ := HCB.out wr HB.out
      have HC2 := hid (HC.out.trans (checkFrom_at hx))
      obtain ⟨l, p, f', hl⟩ : ∃ l p f, needS tab x = (l, p, f) := ⟨_, _, _, rfl⟩
      have HL := hid hl
      have hln : l.length ≤ 1000000 := by have := needS_len tab x; rw [hl] at this; simp only at this; omega
      rw [hl] at HC2
      clear hx hl
      go_wp2_with fail
      refine (readNeed_calls tab x _ wr (Kd.below HT.out (bThen HBV.out HB.out)) hxz).mono ?_
      rintro e w2 ⟨v2, rfl, hO, hb2⟩
      rw [HL.out] at hO ⊢
      dsimp only at hO ⊢
      have HB2 := hid (bThen HB.out hb2)
      have HO2 := hid hO
      obtain ⟨_, _, _, _, _, _, d6⟩ := HCB.out w2 HB2.out
      obtain ⟨A2, n2, c2', rfl, hq1', hq2'⟩ := hO.shape'
      clear hO hb2 hq1' hq2' c0 c1 c2 c3 c4 c5 c6
      by_cases h0 : f' = 0
      · subst h0
        have hbb : ((0 : Int) != 0) = false := by decide
        go_wp2_with fail
        refine (admitWorkers_calls l ws _ _ w2 (Kd.any HO2.out.K) (Kd.below HW.out (bThen HBV.out HB2.out)) hln HA.out).mono ?_
        rintro e w3 ⟨rfl, hb3⟩
        have HB3 := hid (bThen HB2.out hb3)
        clear hb3
        obtain ⟨z, hz⟩ : ∃ z, z = admitS l ws := ⟨_, rfl⟩
        have HZ := hid hz
        rw [← hz]
        clear hz
        by_cases hz0 : z = 0
        · have HE := hid (show checkFrom tab ws ss 0 = ((k : Int), 0, 11) by
            have := HC2.out
            rw [this, if_neg (by decide), if_pos (by rw [← HZ.out]; exact hz0)])
          have hzb : ((z : Int) == 0) = true := by rw [beq_iff_eq]; omega
          clear hz0
          go_wp2
          go_ret3
          rw [HF.out, HE.out]
          exact ⟨rfl, bThen HBV.out HB3.out⟩
        · have HE := hid (show checkFrom tab ws ss 0 = checkFrom tab ws (ss.drop (k + 1)) ((k + 1 : Nat) : Int) by
            have := HC2.out
            rw [this, if_neg (by decide), if_neg (by rw [← HZ.out]; exact hz0)]; rfl)
          have hzb : ((z : Int) == 0) = false := by rw [beq_eq_false_iff_ne]; omega
          clear hz0
          go_wp2
          go_roundw
          case rel => exact ⟨k + 1, by omega, by go_num, HE, HB3⟩
          case measure => simp [intOf]; omega
      · have h1 : (f' == (0 : Int)) = false := by simp [h0]
        have h2 : (f' != (0 : Int)) = true := by rw [bne_iff_ne]; exact h0
        have HE := hid (show checkFrom tab ws ss 0 = ((k : Int), p, f') by
          have := HC2.out
          rw [this, if_pos h0])
        clear h0
        go_wp2
        go_ret3
        rw [HF.out, HE.out]
        exact ⟨rfl, bThen HBV.out HB2.out⟩
    · obtain rfl : k = q := by omega
      have HE := hid (show checkFrom tab ws ss 0 = (-1, 0, 0) by rw [HC.out, List.drop_of_length_le (by rw [HQ.out]; exact Nat.le_refl _)]; rfl)
      go_wp2
      go_ret3
      rw [HF.out, HE.out]
      exact ⟨rfl, bThen HBV.out HB.out⟩
set_option maxHeartbeats 8000000 in
set_option maxRecDepth 100000 in
theorem rcheck15_calls (tab : List ByteArray) (ws : List WorkerS) (id : Int) (ss : List ByteArray) (k1 k2 k3 k4 k5 : Int) (v u sv : Value) (w : World) (ht : Kd.str.slice.K w Any tab [v]) (hw : Kd.worker.slice.K w Any ws [u]) (ha : ∀ x ∈ ws, x.attrs < 2 ^ 64) (hss : Kd.str.slice.K w Any ss [sv]) (hsz : ∀ s ∈ ss, s.size * 24 ≤ 140737488351232) (hwl : ws.length ≤ 1000000) :
    Calls Tryz.prog 41 #[.agg #[.int .i64 k1, .int .i64 k2, .int .i64 k3, .int .i64 k4, .int .i64 k5, v, u], .agg #[.int .i64 id, sv]] w fun e w' => e = .returned (.agg #[.int .i64 (checkJ tab ws id ss).1, .int .i64 (checkJ tab ws id ss).2.1, .int .i64 (checkJ tab ws id ss).2.2]) ∧ Below w.heap.size w w' := by
  have HT := hid ht
  have HW := hid hw
  have HA := hid ha
  have HSZ := hid hsz
  obtain ⟨A, c, he, _, _, _⟩ := ht
  injection he with he _
  subst he
  obtain ⟨B, d, he, _, _, _⟩ := hw
  injection he with he _
  subst he
  obtain ⟨D, f, he, hc, hm, hr⟩ := hss
  injection he with he _
  subst he
  have HR := hid hr
  obtain ⟨q, hq⟩ : ∃ q, ss.length = q := ⟨_, rfl⟩
  have HQ := hid hq
  rw [hq] at hc hm ⊢
  obtain ⟨V, hV⟩ : ∃ V, V = ((w.alloc (.cells #[.int .i64 k1, .int .i64 k2, .int .i64 k3, .int .i64 k4, .int .i64 k5, .slice A tab.length c, .slice B ws.length d] 25)).alloc (.cells #[.int .i64 id, .slice D q f] 54)).alloc (.cells #[.int .i64 0, .int .i64 0, .int .i64 0] 76) := ⟨_, rfl⟩
  have HBV := hid (show Below w.heap.size w V by rw [hV]; exact bAlloc (bAlloc (bAlloc (Below.refl _ _) _) _) _)
  have hz := hid (show V.heap[w.heap.size]? = some (.cells #[.int .i64 k1, .int .i64 k2, .int .i64 k3, .int .i64 k4, .int .i64 k5, .slice A tab.length c, .slice B ws.length d] 25 (0, 0)) by rw [hV, Below.heap_alloc _ _ _ (by simp; omega), Below.heap_alloc _ _ _ (by simp)]; exact heap_at rfl)
  have hz1 := hid (show V.heap[w.heap.size + 1]? = some (.cells #[.int .i64 id, .slice D q f] 54 (0, 0)) by rw [hV, Below.heap_alloc _ _ _ (by simp)]; exact heap_at (by simp))
  have hz2 := hid (show V.heap[w.heap.size + 1 + 1]? = some (.cells #[.int .i64 0, .int .i64 0, .int .i64 0] 76 (0, 0)) by rw [hV]; exact heap_at (by simp))
  have HCB := hid (fun (u : World) (hb : Below V.heap.size V u) => conf_box hz.out u hb)
  have HJB := hid (fun (u : World) (h : Below V.heap.size V u) => (show u.cell? ⟨w.heap.size + 1, 0, none⟩ = some (.int .i64 id) ∧ u.cell? ⟨w.heap.size + 1, 1, none⟩ = some (.slice D q f) from by
    obtain ⟨y0, _, _⟩ := cells_of_block ((h.block (w.heap.size + 1) (Array.getElem?_eq_some_iff.1 hz1.out).1).trans hz1.out)
    exact ⟨y0 0 _ rfl, y0 1 _ rfl⟩))
  have HRB := hid (fun (u : World) (h : Below V.heap.size V u) => show u.heap[w.heap.size + 1 + 1]? = some (.cells #[.int .i64 0, .int .i64 0, .int .i64 0] 76 (0, 0)) from (h.block (w.heap.size + 1 + 1) (Array.getElem?_eq_some_iff.1 hz2.out).1).trans hz2.out)
  have HRF := hid (fun (u : World) (h : Below V.heap.size V u) => show ∀ j, u.frozen? ⟨w.heap.size + 1 + 1, j, none⟩ = false from (cells_of_block (HRB.out u h)).2.1)
  have HRC := hid (fun (u : World) (h : Below V.heap.size V u) => (show u.cell? ⟨w.heap.size + 1 + 1, 0, none⟩ = some (.int .i64 0) ∧ u.cell? ⟨w.heap.size + 1 + 1, 1, none⟩ = some (.int .i64 0) ∧ u.cell? ⟨w.heap.size + 1 + 1, 2, none⟩ = some (.int .i64 0) from by
    obtain ⟨y0, _, _⟩ := cells_of_block (HRB.out u h)
    exact ⟨y0 0 _ rfl, y0 1 _ rfl, y0 2 _ rfl⟩))
  have HFIN := hid (fun (u : World) (h : Below V.heap.size V u) (v0 v1 v2 : Value) => (show ∃ W', W' = (((u.setCell ⟨w.heap.size + 1 + 1, 0, none⟩ v0).setCell ⟨w.heap.size + 1 + 1, 1, none⟩ v1).setCell ⟨w.heap.size + 1 + 1, 2, none⟩ v2) ∧ W'.cell? ⟨w.heap.size + 1 + 1, 0, none⟩ = some v0 ∧ W'.cell? ⟨w.heap.size + 1 + 1, 1, none⟩ = some v1 ∧ W'.cell? ⟨w.heap.size + 1 + 1, 2, none⟩ = some v2 ∧ Below w.heap.size w W' from by
    obtain ⟨W', h0, h1, h2, h3, h4⟩ := set3 (HRB.out u h) v0 v1 v2
    exact ⟨W', h0, h1, h2, h3, (bThen HBV.out h).trans (h4.mono (by omega))⟩))
  have HV := hid hV
  have HV0 := hid (show Below V.heap.size V V from Below.refl _ _)
  obtain ⟨j0, j1⟩ := HJB.out V HV0.out
  clear hV hr hq ha hsz
  by_cases hid1 : id < 1
  · have HF := hid (show checkJ tab ws id ss = (-1, 0, 1) by unfold checkJ; rw [if_pos (.inl hid1)])
    go_enter Tryz.func41, Tryz.ntmps41
    go_wp2
    refine bodyPost_ret (by simp [results, Tryz.results41, go_sem]; try rfl) rfl ?_
    rw [HF.out]
    exact ⟨rfl, bAlloc (bAlloc (bAlloc (Below.refl _ _) _) _) _⟩
  by_cases hid2 : 72057594037927935 < id
  · have HF := hid (show checkJ tab ws id ss = (-1, 0, 1) by unfold checkJ; rw [if_pos (.inr hid2)])
    go_enter Tryz.func41, Tryz.ntmps41
    go_wp2
    refine bodyPost_ret (by simp [results, Tryz.results41, go_sem]; try rfl) rfl ?_
    rw [HF.out]
    exact ⟨rfl, bAlloc (bAlloc (bAlloc (Below.refl _ _) _) _) _⟩
  by_cases hq0 : q = 0
  · have HF := hid (show checkJ tab ws id ss = (-1, 0, 10) by unfold checkJ; rw [if_neg (by omega), if_pos (by rw [HQ.out]; exact hq0)])
    have hb : ((q : Int) == 0) = true := by rw [beq_iff_eq]; omega
    clear hq0
    go_enter Tryz.func41, Tryz.ntmps41
    go_wp2
    refine bodyPost_ret (by simp [results, Tryz.results41, go_sem]; try rfl) rfl ?_
    rw [HF.out]
    exact ⟨rfl, bAlloc (bAlloc (bAlloc (Below.refl _ _) _) _) _⟩
  by_cases hq1 : 16 < q
  · have HF := hid (show checkJ tab ws id ss = (-1, 0, 4) by unfold checkJ; rw [if_neg (by omega), if_neg (by rw [HQ.out]; exact hq0), if_pos (by rw [HQ.out]; exact hq1)])
    have hb : ((q : Int) == 0) = false := by rw [beq_eq_false_iff_ne]; omega
    have hb2 : (16 : Int) < (q : Int) := by omega
    clear hq0
    go_enter Tryz.func41, Tryz.ntmps41
    go_wp2
    refine bodyPost_ret (by simp [results, Tryz.results41, go_sem]; try rfl) rfl ?_
    rw [HF.out]
    exact ⟨rfl, bAlloc (bAlloc (bAlloc (Below.refl _ _) _) _) _⟩
  have HF := hid (show checkJ tab ws id ss = checkFrom tab ws ss 0 by unfold checkJ; rw [if_neg (by omega), if_neg (by rw [HQ.out]; exact hq0), if_neg (by rw [HQ.out]; exact hq1)])
  have hb : ((q : Int) == 0) = false := by rw [beq_eq_false_iff_ne]; omega
  have hb2 : ¬ (16 : Int) < (q : Int) := by omega
  clear hq0
  go_enter Tryz.func41, Tryz.ntmps41
  go_wp2
  rw [← HV.out]
  go_loopw [5] (fun i wr => ∃ k : Nat, k ≤ q ∧ i = .int .i64 k ∧ Hid (checkFrom tab ws ss 0 = checkFrom tab ws (ss.drop k) k) ∧ Hid (Below V.heap.size V wr)) (fun i _ => q - (intOf i).toNat)
  case atStart => exact ⟨0, by omega, rfl, rfl, Below.refl _ _⟩
  case round =>
    obtain ⟨k, hk, rfl, HC, HB⟩ := hrel
    obtain ⟨j0, j1⟩ := HJB.out wr HB.out
    by_cases hlt : k < q
    · obtain ⟨a, x, rfl, hx, r0⟩ := (HR.out.below (bThen HBV.out HB.out)).at_str k (by rw [HQ.out]; exact hlt)
      have hxz := HSZ.out x (List.mem_of_getElem? hx)
      have hltI : (k : Int) < (q : Int) := by omega
      have hk0 : (0 : Int) ≤ (k : Int) := by omega
      have HC2 := hid (HC.out.trans (checkFrom_at hx))
      have HX := hid hx
      have HS := hid (fun (u : World) (hb : Below V.heap.size V u) => show u.cell? ⟨w.heap.size, 0, none⟩ = some (.int .i64 k1) ∧ u.cell? ⟨w.heap.size, 1, none⟩ = some (.int .i64 k2) ∧ u.cell? ⟨w.heap.size, 2, none⟩ = some (.int .i64 k3) ∧ u.cell? ⟨w.heap.size, 3, none⟩ = some (.int .i64 k4) ∧ u.cell? ⟨w.heap.size, 4, none⟩ = some (.int .i64 k5) ∧ u.cell? ⟨w.heap.size, 5, none⟩ = some (.slice A tab.length c) ∧ u.cell? ⟨w.heap.size, 6, none⟩ = some (.slice B ws.length d) ∧ u.cell? ⟨w.heap.size + 1, 1, none⟩ = some (.slice (some a) q f) ∧ u.cell? (a.add k) = some (.string x) from by
        obtain ⟨c0, c1, c2, c3', c4, c5, c6⟩ := HCB.out u hb
        obtain ⟨a', x', ha', hx', r0'⟩ := (HR.out.below (bThen HBV.out hb)).at_str k (by rw [HQ.out]; exact hlt)
        cases ha'
        rw [HX.out] at hx'
        obtain rfl := Option.some.inj hx'
        exact ⟨c0, c1, c2, c3', c4, c5, c6, (HJB.out u hb).2, r0'⟩)
      have HS1 := hid (fun (u : World) (hb : Below V.heap.size V u) => show u.cell? ⟨w.heap.size, 5, none⟩ = some (.slice A tab.length c) ∧ u.cell? ⟨w.heap.size + 1, 1, none⟩ = some (.slice (some a) q f) ∧ u.cell? (a.add k) = some (.string x) from ⟨(HS.out u hb).2.2.2.2.2.1, (HS.out u hb).2.2.2.2.2.2.2⟩)
      obtain ⟨l, p, f', hl⟩ : ∃ l p f, needS tab x = (l, p, f) := ⟨_, _, _, rfl⟩
      have HL := hid hl
      have HSE := hid (show setS tab ws x = if f' ≠ 0 then 0 else admitS l ws by unfold setS; rw [hl])
      rw [hl] at HC2
      clear hx hl
      go_wp2_with fail
      have c0 := HS1.out wr.drew HB.out.drew
      have HBD := hid (bThen HBV.out HB.out.drew)
      go_region_held3 (fun w' => w'.cell? ⟨w.heap.size, 5, none⟩ = some (.slice A tab.length c) ∧ w'.cell? ⟨w.heap.size + 1, 1, none⟩ = some (.slice (some a) q f) ∧ w'.cell? (a.add k) = some (.string x)) (first | exact c0 | exact c1 | fail) (first
        | ((with_reducible refine (rneed_calls tab x _ wr.drew (Kd.below HT.out HBD.out) hxz).mono ?_); rintro e w2 ⟨v2, rfl, hO, hb2⟩; rw [HL.out] at hO ⊢; dsimp only at hO ⊢; have U2 := hid (bThen HB.out.drew hb2); have c1 := HS1.out w2 U2.out; clear hb2 hO)
        | fail)
      by_cases h0 : f' = 0
      · subst h0
        obtain ⟨z, hz⟩ : ∃ z, z = admitS l ws := ⟨_, rfl⟩
        have HZ := hid hz
        have HSZ2 := hid (show setS tab ws x = z by rw [HSE.out, if_neg (by decide), hz])
        clear hz
        go_wp2_with fail
        have d0 := HS.out w2.drew U2.out.drew
        have HBD2 := hid (bThen HBV.out U2.out.drew)
        go_region_held3 (fun w' => w'.cell? ⟨w.heap.size, 0, none⟩ = some (.int .i64 k1) ∧ w'.cell? ⟨w.heap.size, 1, none⟩ = some (.int .i64 k2) ∧ w'.cell? ⟨w.heap.size, 2, none⟩ = some (.int .i64 k3) ∧ w'.cell? ⟨w.heap.size, 3, none⟩ = some (.int .i64 k4) ∧ w'.cell? ⟨w.heap.size, 4, none⟩ = some (.int .i64 k5) ∧ w'.cell? ⟨w.heap.size, 5, none⟩ = some (.slice A tab.length c) ∧ w'.cell? ⟨w.heap.size, 6, none⟩ = some (.slice B ws.length d) ∧ w'.cell? ⟨w.heap.size + 1, 1, none⟩ = some (.slice (some a) q f) ∧ w'.cell? (a.add k) = some (.string x)) (first | exact d0 | exact d1 | fail) (first
          | ((with_reducible refine (rset15_calls tab ws x k1 k2 k3 k4 k5 _ _ w2.drew (Kd.below HT.out HBD2.out) (Kd.below HW.out HBD2.out) HA.out hxz hwl).mono ?_); rintro e w3 ⟨rfl, hb3⟩; rw [HSZ2.out]; have U3 := hid (bThen U2.out.drew hb3); have d1 := HS.out w3 U3.out; clear hb3)
          | fail)
        have rf3 := HRF.out w3 U3.out
        obtain ⟨q03, q13, q23⟩ := HRC.out w3 U3.out
        by_cases hz0 : z = 0
        · have HE := hid (show checkFrom tab ws ss 0 = ((k : Int), 0, 11) by
            have := HC2.out
            rw [this, if_neg (by decide), if_pos (by rw [← HZ.out]; exact hz0)])
          have hzb : ((z : Int) == 0) = true := by rw [beq_iff_eq]; omega
          clear hz0
          obtain ⟨W', hW, T0, T1, T2, TB⟩ := HFIN.out w3 U3.out (.int .i64 k) (.int .i64 0) (.int .i64 11)
          go_wp2
          rw [← hW]
          refine bodyPost_ret (by simp [results, Tryz.results41, go_sem, T0, T1, T2]; try rfl) rfl ?_
          rw [HF.out, HE.out]
          exact ⟨rfl, TB⟩
        · have HE := hid (show checkFrom tab ws ss 0 = checkFrom tab ws (ss.drop (k + 1)) ((k + 1 : Nat) : Int) by
            have := HC2.out
            rw [this, if_neg (by decide), if_neg (by rw [← HZ.out]; exact hz0)]; rfl)
          have hzb : ((z : Int) == 0) = false := by rw [beq_eq_false_iff_ne]; omega
          clear hz0
          go_wp2
          go_roundw
          case rel => exact ⟨k + 1, by omega, by go_num, HE, U3⟩
          case measure => simp [intOf]; omega
      · have h2 : (f' != (0 : Int)) = true := by rw [bne_iff_ne]; exact h0
        have HE := hid (show checkFrom tab ws ss 0 = ((k : Int), p, f') by
          have := HC2.out
          rw [this, if_pos h0])
        have rf2 := HRF.out w2 U2.out
        obtain ⟨q02, q12, q22⟩ := HRC.out w2 U2.out
        clear h0
        obtain ⟨W', hW, T0, T1, T2, TB⟩ := HFIN.out w2 U2.out (.int .i64 k) (.int .i64 p) (.int .i64 f')
        go_wp2
        rw [← hW]
        refine bodyPost_ret (by simp [results, Tryz.results41, go_sem, T0, T1, T2]; try rfl) rfl ?_
        rw [HF.out, HE.out]
        exact ⟨rfl, TB⟩
    · obtain rfl : k = q := by omega
      have HE := hid (show checkFrom tab ws ss 0 = (-1, 0, 0) by rw [HC.out, List.drop_of_length_le (by rw [HQ.out]; exact Nat.le_refl _)]; rfl)
      have rf1 := HRF.out wr HB.out
      obtain ⟨q01, q11, q21⟩ := HRC.out wr HB.out
      obtain ⟨W', hW, T0, T1, T2, TB⟩ := HFIN.out wr HB.out (.int .i64 (-1)) (.int .i64 0) (.int .i64 0)
      go_wp2
      rw [← hW]
      refine bodyPost_ret (by simp [results, Tryz.results41, go_sem, T0, T1, T2]; try rfl) rfl ?_
      rw [HF.out, HE.out]
      exact ⟨rfl, TB⟩
end Go.Proofs.YtgedkcglkhleoaaGreatDoor
namespace Go.Proofs.YtgedkcglkhleoaaGreatDoor
open Go.RowKit
end Go.Proofs.YtgedkcglkhleoaaGreatDoor
