import Derived.Test.YtkjncmmombkllaaGreatScans
import Derived.Test.YtkjncmmombkllaaGreatDisk2
namespace Go.Proofs.YtkjncmmombkllaaGreat
open Go.RowKit Go.Lib

/-! ### an annal in block ga, over the disk in block gd -/
def AnAt (w : World) (T : Nat → Prop) (ga gd : Nat) (l : List RecS) (down : Bool) : Prop :=
  T ga ∧ l.length ≤ 100000 ∧ ∃ v, w.heap[ga]? = some (.cells #[.pointer (some ⟨gd, 0, none⟩), v, .bool down] 101 (0, 0)) ∧ Own Kd.recK 46 w 0 (fun k => T k ∧ k ≠ ga) v l ∧ ∀ k, v.ownBlock = some k → T k ∧ k ≠ ga
section
variable {w w1 : World} {T T' : Nat → Prop} {ga gd : Nat} {l : List RecS} {down : Bool}
theorem AnAt.mono (h : AnAt w T ga gd l down) (hT : ∀ k, k < w.heap.size → T k → T' k) : AnAt w T' ga gd l down := by
  obtain ⟨h1, h2, v, h3, h4, h5⟩ := h
  exact ⟨hT ga (Array.getElem?_eq_some_iff.1 h3).1 h1, h2, v, h3, h4.move (fun _ _ _ => rfl) (fun b hb hl => ⟨hT b hl hb.1, hb.2⟩), fun k hk => ⟨hT k (h4.lt k hk).2 (h5 k hk).1, (h5 k hk).2⟩⟩
theorem AnAt.move (h : AnAt w T ga gd l down) (hm : ∀ k, k < w.heap.size → T k → w1.heap[k]? = w.heap[k]?) : AnAt w1 T ga gd l down := by
  obtain ⟨h1, h2, v, h3, h4, h5⟩ := h
  exact ⟨h1, h2, v, (hm ga (Array.getElem?_eq_some_iff.1 h3).1 h1).trans h3, h4.move (fun b hb hl => hb.elim (fun h => hm b hl h.1) (fun h => hm b hl (h5 b h).1)) (fun _ h _ => h), h5⟩
theorem AnAt.below (h : AnAt w T ga gd l down) (hb : Below w.heap.size w w1) : AnAt w1 T ga gd l down := h.move (fun k hk _ => hb.block k hk)
theorem AnAt.cells (h : AnAt w T ga gd l down) : T ga ∧ ga < w.heap.size ∧ ∃ A c, l.length ≤ c ∧ l.length ≤ 100000 ∧ w.cell? ⟨ga, 0, none⟩ = some (.pointer (some ⟨gd, 0, none⟩)) ∧ w.cell? ⟨ga, 1, none⟩ = some (.slice A l.length c) ∧ w.cell? ⟨ga, 2, none⟩ = some (.bool down) ∧
    (∀ j, w.frozen? ⟨ga, j, none⟩ = false) ∧ Hid (w.heap[ga]? = some (.cells #[.pointer (some ⟨gd, 0, none⟩), .slice A l.length c, .bool down] 101 (0, 0))) ∧ Hid (Own Kd.recK 46 w 0 (fun k => T k ∧ k ≠ ga) (.slice A l.length c) l) ∧ Hid (∀ k, (Value.slice A l.length c).ownBlock = some k → T k ∧ k ≠ ga) := by
  obtain ⟨h1, h2, v, h3, h4, h5⟩ := h
  obtain ⟨A, c, rfl, hc⟩ := h4.shape
  obtain ⟨q1, q2, q3⟩ := cells_of_block h3
  exact ⟨h1, q3, A, c, hc, h2, q1 0 _ rfl, q1 1 _ rfl, q1 2 _ rfl, q2, h3, h4, h5⟩
theorem AnAt.setDown (h : AnAt w T ga gd l down) (t : Bool) : AnAt (w.setCell ⟨ga, 2, none⟩ (.bool t)) T ga gd l t := by
  obtain ⟨h1, h2, v, h3, h4, h5⟩ := h
  exact ⟨h1, h2, v, heap_set h3 2 _, h4.setCell (p := ⟨ga, 2, none⟩) (fun h => h.2 rfl) (fun e => (h5 _ e).2 rfl) _, h5⟩
end

set_option maxHeartbeats 3200000 in
set_option maxRecDepth 100000 in
theorem anCopied_calls (x : RecS) (A : Option Addr) (n c : Nat) (w : World) (hn : Kd.str.slice.K w Any x.needs [.slice A n c]) (hnl : n ≤ 100000000) :
    Calls Tryz.prog 48 #[.agg #[.int .i64 x.kind, .int .i64 x.job, .int .i64 x.task, .int .i64 x.worker, .int .i64 x.sched, .int .i64 x.epoch, .slice A n c]] w fun e w' => ∃ A' n' c', e = .returned (.agg #[.int .i64 x.kind, .int .i64 x.job, .int .i64 x.task, .int .i64 x.worker, .int .i64 x.sched, .int .i64 x.epoch, .slice A' n' c']) ∧ Kd.str.slice.K w' (fun k => w.heap.size ≤ k) x.needs [.slice A' n' c'] ∧ Below w.heap.size w w' := by
  have hr2 : Kd.str.Row w Any A x.needs ∧ x.needs.length = n ∧ n ≤ c := by
    obtain ⟨A', c', he, hc, hm, hr⟩ := hn
    injection he with h
    injection h with h1 h2 h3
    subst h1
    subst h3
    exact ⟨hr, h2.symm, by omega⟩
  obtain ⟨hr, hnn, hc⟩ := hr2
  have HR := hid hr
  have HNN := hid hnn
  obtain ⟨W0, hW0⟩ : ∃ W0, W0 = (w.alloc (.cells #[.int .i64 x.kind, .int .i64 x.job, .int .i64 x.task, .int .i64 x.worker, .int .i64 x.sched, .int .i64 x.epoch, .slice A n c] 46)).alloc (.cells #[.int .i64 0, .int .i64 0, .int .i64 0, .int .i64 0, .int .i64 0, .int .i64 0, .slice none 0 0] 46) := ⟨_, rfl⟩
  have b0 := hid (show Below w.heap.size w W0 by rw [hW0]; exact bAlloc (bAlloc (Below.refl _ _) _) _)
  have HX : Hid (W0.heap[w.heap.size]? = some (.cells #[.int .i64 x.kind, .int .i64 x.job, .int .i64 x.task, .int .i64 x.worker, .int .i64 x.sched, .int .i64 x.epoch, .slice A n c] 46 (0, 0))) := by rw [hW0]; exact heap_old (by simp) (heap_at rfl)
  have HZ : Hid (W0.heap[w.heap.size + 1]? = some (.cells zRec 46 (0, 0))) := by rw [hW0]; exact heap_at (by simp)
  obtain ⟨x0, x1, x2, x3, x4, x5, x6⟩ := rec_cells HX.out
  have hs0 : w.heap.size + 1 < W0.heap.size := by rw [hW0]; simp
  subst hW0
  clear hr hnn hn
  go_enter Tryz.func48, Tryz.ntmps48
  go_wp2_with (at_builtin; go_must (refine appends_arm Kd.str (w0 := ((w.alloc (.cells #[.int .i64 x.kind, .int .i64 x.job, .int .i64 x.task, .int .i64 x.worker, .int .i64 x.sched, .int .i64 x.epoch, .slice A n c] 46)).alloc (.cells #[.int .i64 0, .int .i64 0, .int .i64 0, .int .i64 0, .int .i64 0, .int .i64 0, .slice none 0 0] 46))) (W := ((w.alloc (.cells #[.int .i64 x.kind, .int .i64 x.job, .int .i64 x.task, .int .i64 x.worker, .int .i64 x.sched, .int .i64 x.epoch, .slice A n c] 46)).alloc (.cells #[.int .i64 0, .int .i64 0, .int .i64 0, .int .i64 0, .int .i64 0, .int .i64 0, .slice none 0 0] 46))) ((w.alloc (.cells #[.int .i64 x.kind, .int .i64 x.job, .int .i64 x.task, .int .i64 x.worker, .int .i64 x.sched, .int .i64 x.epoch, .slice A n c] 46)).alloc (.cells #[.int .i64 0, .int .i64 0, .int .i64 0, .int .i64 0, .int .i64 0, .int .i64 0, .slice none 0 0] 46)).heap.size rfl _ _ 44 9 _ 16 rfl Tryz.underlying44 Tryz.infoStrP rfl (by decide) (by decide) (.slice none 0 0) [] x.needs A n c NoT Any NoT rfl rfl HNN.out (HR.out.below b0.out) (fun _ _ h => h) (fun _ h => h.elim) (Own.nil _ _ _ _ _) (Below.refl _ _) (Nat.le_refl _) (by simp; omega) ?_))
  intro v2 w2 hO2 hb2 _ _
  obtain ⟨A2, n2, c2, rfl, hq1, hq2⟩ := hO2.shape'
  have hx2 := (hb2.block w.heap.size (by omega)).trans HX.out
  have hz2 := (hb2.block (w.heap.size + 1) (by omega)).trans HZ.out
  have hx3 := heap_set hx2 6 (.slice A2 n2 c2)
  have hz3 : (w2.setCell ⟨w.heap.size, 6, none⟩ (.slice A2 n2 c2)).heap[w.heap.size + 1]? = some (.cells zRec 46 (0, 0)) := (Below.heap_setCell w2 ⟨w.heap.size, 6, none⟩ _ _ (by simp)).trans hz2
  obtain ⟨y0, y1, y2, y3, y4, y5, y6⟩ := rec_cells (x := x) (A := A2) (n := n2) (c := c2) (by simpa using hx3)
  have z6 := (cells_of_block hx2).1 6 (.slice A n c) rfl
  have zf := (cells_of_block hx2).2.1 6
  have zl := (cells_of_block hx2).2.2
  have zr := fun i u h => (cells_of_block hz3).1 i u h
  have r0 := zr 0 (.int .i64 0) rfl
  have r1 := zr 1 (.int .i64 0) rfl
  have r2 := zr 2 (.int .i64 0) rfl
  have r3 := zr 3 (.int .i64 0) rfl
  have r4 := zr 4 (.int .i64 0) rfl
  have r5 := zr 5 (.int .i64 0) rfl
  have r6 := zr 6 (.slice none 0 0) rfl
  have rf := (cells_of_block hz3).2.1
  have f0 := rf 0
  have f1 := rf 1
  have f2 := rf 2
  have f3 := rf 3
  have f4 := rf 4
  have f5 := rf 5
  have f6 := rf 6
  have rl := (cells_of_block hz3).2.2
  obtain ⟨W', hW, T0, T1, T2, T3, T4, T5, T6, TB, TN⟩ := set7 hz3 (.int .i64 x.kind) (.int .i64 x.job) (.int .i64 x.task) (.int .i64 x.worker) (.int .i64 x.sched) (.int .i64 x.epoch) (.slice A2 n2 c2)
  have B2 := hid (show Below w.heap.size w W' from ((b0.out.trans (hb2.mono (by omega))).setCell (p := ⟨w.heap.size, 6, none⟩) (Nat.le_refl _) _).trans (TB.mono (by omega)))
  have HO2 : Own Kd.str 9 w2 ((w.alloc (.cells #[.int .i64 x.kind, .int .i64 x.job, .int .i64 x.task, .int .i64 x.worker, .int .i64 x.sched, .int .i64 x.epoch, .slice A n c] 46)).alloc (.cells #[.int .i64 0, .int .i64 0, .int .i64 0, .int .i64 0, .int .i64 0, .int .i64 0, .slice none 0 0] 46)).heap.size NoT (.slice A2 n2 c2) x.needs := by simpa using hO2
  have HK := hid (Own.K ((HO2.setCell (p := ⟨w.heap.size, 6, none⟩) (fun h => h) (fun e => by have := (HO2.lt _ e).1; simp at this; omega) (.slice A2 n2 c2)).move (w1 := W') (fun k hk hl => TN k (by rcases hk with hk | hk; exact hk.elim; have := (HO2.lt k hk).1; omega)) (fun _ h _ => h)))
  clear hO2 HO2 hb2 hq1 hq2 hx2 hz2 hx3 hz3 zr rf TB TN x0 x1 x2 x3 x4 x5 x6
  go_wp2
  rw [← hW]
  refine bodyPost_ret (by simp [results, Tryz.results48, go_sem, T0, T1, T2, T3, T4, T5, T6]; try rfl) rfl ?_
  exact ⟨A2, n2, c2, rfl, Kd.mono _ (fun k hk _ => by rcases hk with hk | hk; exact hk.elim; omega) HK.out, B2.out⟩

set_option maxHeartbeats 800000 in
set_option maxRecDepth 100000 in
theorem anDown_calls (w : World) (T : Nat → Prop) (ga gd : Nat) (l : List RecS) (down : Bool) (h : AnAt w T ga gd l down) : Calls Tryz.prog 51 #[.pointer (some ⟨ga, 0, none⟩)] w fun e w' => e = .returned (.bool down) ∧ w = w' := by
  obtain ⟨hT, hg, A, c, hc, hl, c0, c1, c2, hf, _, _, _⟩ := h.cells
  clear h c0 c1 hf
  go_enter Tryz.func51, Tryz.ntmps51
  go_wp2
  go_ret
  exact ⟨rfl, rfl⟩
set_option maxHeartbeats 800000 in
set_option maxRecDepth 100000 in
theorem anLen_calls (w : World) (T : Nat → Prop) (ga gd : Nat) (l : List RecS) (down : Bool) (h : AnAt w T ga gd l down) : Calls Tryz.prog 44 #[.pointer (some ⟨ga, 0, none⟩)] w fun e w' => e = .returned (.int .i64 l.length) ∧ w = w' := by
  obtain ⟨hT, hg, A, c, hc, hl, c0, c1, c2, hf, _, _, _⟩ := h.cells
  clear h c0 c2 hf
  go_enter Tryz.func44, Tryz.ntmps44
  go_wp2
  go_ret
  exact ⟨rfl, rfl⟩

set_option maxHeartbeats 6400000 in
set_option maxRecDepth 100000 in
theorem anRecords_calls (w : World) (T : Nat → Prop) (ga gd : Nat) (l : List RecS) (down : Bool) (h : AnAt w T ga gd l down) (hno : ∀ x ∈ l, x.needs.length ≤ 100000000) :
    Calls Tryz.prog 28 #[.pointer (some ⟨ga, 0, none⟩)] w fun e w' => ∃ A n c, e = .returned (.slice A n c) ∧ Own Kd.recK 46 w' w.heap.size (fun k => w.heap.size ≤ k) (.slice A n c) l ∧ Below w.heap.size w w' := by
  obtain ⟨hT, hg, A, c, hc, hl, c0, c1, c2, hf, _, hO, _⟩ := h.cells
  have HR : Hid (Kd.recK.Row w Any A l) := by
    obtain ⟨A', n', he, _, _, h⟩ := Kd.any (Own.K hO.out)
    cases he
    exact h
  have HNO := hid hno
  clear h c0 c2 hf hno
  go_enter Tryz.func28, Tryz.ntmps28
  go_wp2_with fail
  go_loopw [3, 13] (fun o i wr => ∃ (k : Nat) (A1 : Option Addr) (n1 c1 : Nat), k ≤ l.length ∧ o = .slice A1 n1 c1 ∧ i = .int .i64 k ∧ Hid (Own Kd.recK 46 wr w.heap.size (fun k => w.heap.size ≤ k) (.slice A1 n1 c1) (l.take k)) ∧ Below w.heap.size w wr) (fun _ i _ => l.length - (intOf i).toNat)
  case atStart => exact ⟨0, none, 0, 0, by omega, rfl, rfl, hid (Own.nil _ _ _ _ _), Below.refl _ _⟩
  case round =>
    obtain ⟨k, A1, n1, c1', hk, rfl, rfl, HO, hbw⟩ := hrel
    have hs2 := hbw.size
    by_cases hlt : k < l.length
    · obtain ⟨a, x, B1, m1, d1, rfl, hx, y0, y1, y2, y3, y4, y5, y6, hK⟩ := at_rec (HR.out.below hbw) k hlt
      have HT := hid (show l.take (k + 1) = l.take k ++ [x] from take_snoc hx)
      have HK := hid (show Kd.str.slice.K wr Any x.needs [.slice B1 m1 d1] from hK)
      have hml : m1 ≤ 100000000 := by
        obtain ⟨A', n', he, _, _, _⟩ := hK
        injection he with he
        injection he with _ he _
        rw [he]
        exact HNO.out x (List.mem_of_getElem? hx)
      have hltI : (k : Int) < l.length := by omega
      have HLT := hid (show (l.take k).length ≤ 100000 by rw [List.length_take]; omega)
      clear hx hK
      go_wp2_with fail
      refine (anCopied_calls x B1 m1 d1 _ (Kd.below HK.out (bAlloc (Below.refl _ _) _)) hml).mono ?_
      rintro e w2 ⟨A2, n2, c2, rfl, hk2, hb2⟩
      have B2 := hid (bThen (bAlloc (Below.refl wr.heap.size wr) (.cells #[.int .i64 x.kind, .int .i64 x.job, .int .i64 x.task, .int .i64 x.worker, .int .i64 x.sched, .int .i64 x.epoch, .slice B1 m1 d1] 46)) hb2)
      have HK2 := hid (show Kd.str.slice.K w2 (fun b => wr.heap.size ≤ b) x.needs [.slice A2 n2 c2] from Kd.mono _ (fun k hk _ => by simp at hk; omega) hk2)
      have HO2 := hid (HO.out.below B2.out)
      have s2 := B2.out.size
      have B2w := hid (bThen hbw B2.out)
      clear hk2 hb2 y0 y1 y2 y3 y4 y5 y6
      go_wp2_with (at_builtin; go_must (refine append_arm Kd.recK (w0 := w) (W := w2) w.heap.size rfl _ _ 67 46 (.agg zRec) 72 rfl Tryz.underlying67 Tryz.infoRec rfl (by decide) (by decide) (.slice A1 n1 c1') (l.take k) x [.int .i64 x.kind, .int .i64 x.job, .int .i64 x.task, .int .i64 x.worker, .int .i64 x.sched, .int .i64 x.epoch, .slice A2 n2 c2] (fun k => w.heap.size ≤ k) (fun b => wr.heap.size ≤ b) rfl rfl (rec_K HK2.out) (fun b h1 h2 => ⟨by omega, fun h3 => by have := (HO.out.lt b h3.symm).2; omega⟩) HO2.out B2w.out (by omega) (by have := HLT.out; omega) ?_))
      intro v5 w5 hO5 hb5 _ _
      obtain ⟨A5, n5, c5, rfl, hq1, hq2⟩ := hO5.shape'
      have HO5 := hid hO5
      have B5 := hid hb5
      clear hq1 hq2 hO5 hb5
      go_wp2
      go_roundw
      case rel => exact ⟨k + 1, A5, n5, c5, by omega, rfl, by go_num, hid (by rw [HT.out]; exact HO5.out), B5.out⟩
      case measure => simp [intOf]; omega
    · obtain rfl : l.length = k := by omega
      have hgeI : ¬ (l.length : Int) < l.length := by omega
      go_wp2
      go_ret
      exact ⟨A1, n1, c1', rfl, by have := HO.out; rwa [List.take_length] at this, hbw⟩

set_option maxHeartbeats 3200000 in
set_option maxRecDepth 100000 in
theorem anOpen_calls (TD : Nat → Prop) (gd : Nat) (D : DiskS) (w : World) (hd : DiskAt w TD gd D) :
    Calls Tryz.prog 27 #[.pointer (some ⟨gd, 0, none⟩)] w fun e w' => ∃ ga, e = .returned (.pointer (some ⟨ga, 0, none⟩)) ∧ AnAt w' (fun k => w.heap.size ≤ k) ga gd (recsS D.b).1 false ∧ DiskAt w' (fun k => TD k ∧ k < w.heap.size) gd ⟨D.b.take (recsS D.b).2, D.room, D.fuse⟩ ∧ Mod TD w w' := by
  have HD := hid (show DiskAt w (fun k => TD k ∧ k < w.heap.size) gd D from hd.mono (fun k h1 h2 => ⟨h2, h1⟩))
  obtain ⟨⟨k1, k2, k3, k4⟩, _⟩ := hd.cells
  have hbl : D.b.length ≤ 65536 := by omega
  obtain ⟨h1, h2, h3, h4⟩ := recsS_bytes D.b
  have CR := fun w' v h => scRecords_calls D.b v w' h (by omega)
  have hcut : D.cut ((recsS D.b).2 : Int) = (⟨D.b.take (recsS D.b).2, D.room, D.fuse⟩, 0) := by
    unfold DiskS.cut
    rw [if_neg (by omega)]
    simp
  obtain ⟨q, hq⟩ : ∃ q, q = (recsS D.b).2 := ⟨_, rfl⟩
  obtain ⟨rs, hrs⟩ : ∃ rs, rs = (recsS D.b).1 := ⟨_, rfl⟩
  rw [← hq] at CR hcut h2 h4 ⊢
  rw [← hrs] at CR h4 ⊢
  have hrl : rs.length ≤ 100000 := by omega
  have CR := hid CR
  have HC := hid hcut
  clear hd hq hrs h1 h2 h3 h4 hcut
  go_enter Tryz.func27, Tryz.ntmps27
  go_wp2_with fail
  refine (diskBytes_calls _ gd D _ HD.out).mono ?_
  rintro e w1 ⟨A1, c1, rfl, hA1, hO1, hb1⟩
  have HB1 := hid hb1
  have HK1 := hid (Kd.any (Own.K hO1))
  clear hO1 hb1 hA1
  go_wp2_with fail
  refine (CR.out _ _ HK1.out).mono ?_
  rintro e w2 ⟨A2, n2, c2, rfl, hO2, hb2⟩
  have HB2 := hid (bThen HB1.out hb2)
  have HO2 := hid (hO2.lower HB1.out.size)
  clear hO2 hb2
  go_wp2_with fail
  refine (diskCut_calls _ gd D q _ (HD.out.below HB2.out)).mono ?_
  rintro e w3 ⟨rfl, hd3, hM3⟩
  rw [HC.out] at hd3
  have HD3 := hid hd3
  have HM3 := hid hM3
  clear hd3 hM3
  go_wp2
  go_ret
  have s1 := HB1.out.size
  have s2 := HB2.out.size
  have s3 := HM3.out.size
  refine ⟨_, rfl, ⟨by omega, hrl, .slice A2 n2 c2, heap_alloc_new w3 _, ?_, fun k hk => ⟨(HO2.out.lt k hk).1, by have := (HO2.out.lt k hk).2; omega⟩⟩, HD3.out.below (bAlloc (Below.refl _ _) _), ((Mod.of_below HB2.out).trans HM3.out (fun k _ h => h.1)).alloc _⟩
  have hmv : Own Kd.recK 46 w3 w.heap.size (fun k => w.heap.size ≤ k ∧ k ≠ w3.heap.size) (.slice A2 n2 c2) rs := HO2.out.move (fun b hb hl => HM3.out.block b hl (fun h => by
    rcases hb with hb | hb
    · have hb' : w1.heap.size ≤ b := hb; omega
    · have := (HO2.out.lt b hb).1; omega)) (fun b hb hl => ⟨Nat.le_trans HB1.out.size hb, by omega⟩)
  exact (hmv.below (bAlloc (Below.refl _ _) _)).lower (Nat.zero_le _)
end Go.Proofs.YtkjncmmombkllaaGreat
