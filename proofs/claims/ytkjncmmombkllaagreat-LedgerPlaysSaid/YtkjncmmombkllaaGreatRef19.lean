import Derived.Test.YtkjncmmombkllaaGreatAnnal3
import Derived.Test.YtkjncmmombkllaaGreatR16
import Derived.Test.YtkjncmmombkllaaGreatReg3
namespace Go.Proofs.YtkjncmmombkllaaGreat
open Go.RowKit Go.Lib

/-! ### the document's annal in block gw, over the disk in block gm -/
def RwAt (w : World) (T : Nat → Prop) (gw gm : Nat) (l : List RecS) (down : Bool) : Prop :=
  T gw ∧ l.length ≤ 100000 ∧ ∃ v, w.heap[gw]? = some (.cells #[.pointer (some ⟨gm, 0, none⟩), v, .bool down] 69 (0, 0)) ∧ Kd.recK.slice.K w (fun k => T k ∧ k ≠ gw) l [v]
section
variable {w w1 : World} {T T' : Nat → Prop} {gw gm : Nat} {l : List RecS} {down : Bool}
theorem RwAt.mono (h : RwAt w T gw gm l down) (hT : ∀ k, k < w.heap.size → T k → T' k) : RwAt w T' gw gm l down := by
  obtain ⟨h1, h2, v, h3, h4⟩ := h
  exact ⟨hT gw (Array.getElem?_eq_some_iff.1 h3).1 h1, h2, v, h3, Kd.mono _ (fun b hb hl => ⟨hT b hl hb.1, hb.2⟩) h4⟩
theorem RwAt.move (h : RwAt w T gw gm l down) (hm : ∀ k, k < w.heap.size → T k → w1.heap[k]? = w.heap[k]?) : RwAt w1 T gw gm l down := by
  obtain ⟨h1, h2, v, h3, h4⟩ := h
  exact ⟨h1, h2, v, (hm gw (Array.getElem?_eq_some_iff.1 h3).1 h1).trans h3, Kd.recK.slice.move (fun b hb hl => hm b hl hb.1) h4⟩
theorem RwAt.below (h : RwAt w T gw gm l down) (hb : Below w.heap.size w w1) : RwAt w1 T gw gm l down := h.move (fun k hk _ => hb.block k hk)
end
theorem own_newR (W : World) (b base : Nat) (T : Nat → Prop) (h : W.heap[b]? = some (.cells #[] 46 (0, 0))) (hb : base ≤ b) : Own Kd.recK 46 W base T (.slice (some ⟨b, 0, none⟩) 0 0) [] :=
  ⟨by simp, [], ⟨by simp, .inr ⟨b, 0, #[], rfl, hb, h, Nat.le_refl _, by decide, by simp, by simp⟩⟩, rfl⟩
theorem row_rec2 {W : World} {b : Nat} {S : Nat → Prop} {x : RecS} {A : Option Addr} {n c : Nat} {fr : Nat × Nat} (hb : W.heap[b]? = some (.cells #[.int .i64 x.kind, .int .i64 x.job, .int .i64 x.task, .int .i64 x.worker, .int .i64 x.sched, .int .i64 x.epoch, .slice A n c] 46 fr)) (hB : S b) (hn : Kd.str.slice.K W S x.needs [.slice A n c]) : Kd.recK.Row W S (some ⟨b, 0, none⟩) [x] := by
  intro i y hy
  cases i with
  | zero =>
    obtain rfl : x = y := by simpa using hy
    exact ⟨⟨b, 0, none⟩, _, rfl, hB, (Array.getElem?_eq_some_iff.1 hb).1, rec_K hn, fun j u hu => by
      rw [Nat.zero_mul, Nat.zero_add]
      exact World.news_of_block hb _ _ (by simpa using hu)⟩
  | succ i => simp at hy

set_option maxHeartbeats 3200000 in
set_option maxRecDepth 100000 in
theorem rOpen19_calls (gm : Nat) (R : DiskS) (w : World) (h : RefAt w gm R) (hok : R16ok R) :
    Calls Tryz.prog 30 #[.pointer (some ⟨gm, 0, none⟩)] w fun e w' => ∃ gw, e = .returned (.pointer (some ⟨gw, 0, none⟩)) ∧ RwAt w' (fun k => w.heap.size ≤ k) gw gm (recsS R.b).1 false ∧ RefAt w' gm ⟨R.b.take (recsS R.b).2, R.room, R.fuse⟩ ∧ Mod (fun k => k = gm) w w' := by
  obtain ⟨c0, c1, c2, hf, hg⟩ := h.cells
  obtain ⟨k1, k2, k3⟩ := hok
  have HH := hid h
  have hbl : R.b.length ≤ 65536 := by omega
  obtain ⟨h1, h2, h3, h4⟩ := recsS_bytes R.b
  have CR := fun w' => rfRecords_calls R.b w' (by omega)
  have hcut : R.cut ((recsS R.b).2 : Int) = (⟨R.b.take (recsS R.b).2, R.room, R.fuse⟩, 0) := by
    unfold DiskS.cut
    rw [if_neg (by omega)]
    simp
  obtain ⟨q, hq⟩ : ∃ q, q = (recsS R.b).2 := ⟨_, rfl⟩
  obtain ⟨rs, hrs⟩ : ∃ rs, rs = (recsS R.b).1 := ⟨_, rfl⟩
  rw [← hq] at CR hcut h2 h4 ⊢
  rw [← hrs] at CR h4 ⊢
  have hrl : rs.length ≤ 100000 := by omega
  have CR := hid CR
  have HC := hid hcut
  have HOK := hid (show R16ok R from ⟨k1, k2, k3⟩)
  clear h hq hrs h1 h2 h3 h4 hcut c1 c2 hf
  go_enter Tryz.func30, Tryz.ntmps30
  go_wp2_with fail
  refine (CR.out _).mono ?_
  rintro e w2 ⟨A2, n2, c2, rfl, hO2, hb2⟩
  have HB2 := hid hb2
  have HO2 := hid hO2
  clear hO2 hb2
  go_wp2_with fail
  refine (r16Cut_calls gm R q _ (HH.out.below HB2.out) HOK.out).mono ?_
  rintro e w3 ⟨rfl, hr3, hM3⟩
  rw [HC.out] at hr3
  have HR3 := hid hr3
  have HM3 := hid hM3
  clear hr3 hM3
  go_wp2
  go_ret
  have s2 := HB2.out.size
  have s3 := HM3.out.size
  refine ⟨_, rfl, ⟨by omega, hrl, .slice A2 n2 c2, heap_alloc_new w3 _, ?_⟩, HR3.out.below (bAlloc (Below.refl _ _) _), ((Mod.of_below HB2.out).trans HM3.out (fun k _ h => h)).alloc _⟩
  have hk := Kd.mod (Own.K HO2.out) HM3.out (fun k _ h1 h2 => by rcases h1 with h1 | h1 <;> (have h5 : w.heap.size ≤ k := h1; omega))
  exact Kd.below (Kd.mono _ (fun k h1 hl => by rcases h1 with h1 | h1 <;> (have h5 : w.heap.size ≤ k := h1; exact ⟨h5, by omega⟩)) hk) (bAlloc (Below.refl _ _) _)

set_option maxHeartbeats 12800000 in
set_option maxRecDepth 100000 in
theorem rAppend19_calls (T : Nat → Prop) (gw gm : Nat) (R : DiskS) (l : List RecS) (down : Bool) (w : World) (hw : RwAt w T gw gm l down) (hr : RefAt w gm R) (hok : R16ok R) (hgm : ¬ T gm) (x : RecS) (A : Option Addr) (n c : Nat) (hn : Kd.str.slice.K w (fun k => T k ∧ k ≠ gw) x.needs [.slice A n c]) (hll : l.length < 100000) :
    Calls Tryz.prog 38 #[.pointer (some ⟨gw, 0, none⟩), .agg #[.int .i64 x.kind, .int .i64 x.job, .int .i64 x.task, .int .i64 x.worker, .int .i64 x.sched, .int .i64 x.epoch, .slice A n c]] w fun e w' => e = .returned (.int .i64 (anApp R l down x).2.2.2) ∧ RwAt w' (fun k => T k ∨ w.heap.size ≤ k) gw gm (anApp R l down x).2.1 (anApp R l down x).2.2.1 ∧ RefAt w' gm (anApp R l down x).1 ∧ Mod (fun k => k = gm ∨ k = gw) w w' := by
  have HW := hid hw
  have HN := hid hn
  have HRF := hid hr
  have hbl : R.b.length ≤ 65536 := by have h1 := hok.2.1; have h2 := hok.2.2; omega
  obtain ⟨W0, hW0⟩ : ∃ W0, W0 = w.alloc (.cells #[.int .i64 x.kind, .int .i64 x.job, .int .i64 x.task, .int .i64 x.worker, .int .i64 x.sched, .int .i64 x.epoch, .slice A n c] 46) := ⟨_, rfl⟩
  have b0 := hid (show Below w.heap.size w W0 by rw [hW0]; exact bAlloc (Below.refl _ _) _)
  have HX : Hid (W0.heap[w.heap.size]? = some (.cells #[.int .i64 x.kind, .int .i64 x.job, .int .i64 x.task, .int .i64 x.worker, .int .i64 x.sched, .int .i64 x.epoch, .slice A n c] 46 (0, 0))) := by rw [hW0]; exact heap_at rfl
  have hxx : w.heap.size < W0.heap.size := by rw [hW0]; simp
  obtain ⟨x0, x1, x2, x3, x4, x5, x6⟩ := rec_cells HX.out
  have CK := hid (fun w1 (h : Below w.heap.size w w1) => rcheck17_calls x A n c w1 (Kd.any (Kd.below HN.out h)))
  cases hxok : recOk x
  case false =>
    have HV := hid (show anApp R l down x = (R, l, down, 1) by unfold anApp; rw [hxok]; rfl)
    clear hw hn hr
    go_enter Tryz.func38, Tryz.ntmps38
    go_wp2_with fail
    rw [← hW0]
    clear hW0
    go_wp2_with fail
    refine (CK.out _ b0.out).mono ?_
    rintro e w1 ⟨rfl, hb1⟩
    rw [hxok]
    have B1 := hid (bThen b0.out hb1)
    clear hb1
    go_wp2
    go_ret
    rw [HV.out]
    exact ⟨rfl, (HW.out.below B1.out).mono (fun k _ h => .inl h), HRF.out.below B1.out, Mod.of_below B1.out⟩
  cases down
  case true =>
    have HV := hid (show anApp R l true x = (R, l, true, 15) by unfold anApp; rw [hxok]; rfl)
    clear hw hn hr
    go_enter Tryz.func38, Tryz.ntmps38
    go_wp2_with fail
    rw [← hW0]
    clear hW0
    go_wp2_with fail
    refine (CK.out _ b0.out).mono ?_
    rintro e w1 ⟨rfl, hb1⟩
    rw [hxok]
    have B1 := hid (bThen b0.out hb1)
    obtain ⟨_, _, v, hg1, _⟩ := HW.out.below B1.out
    have d2 := (cells_of_block hg1).1 2 (.bool true) rfl
    clear hb1 hg1
    go_wp2
    go_ret
    rw [HV.out]
    exact ⟨rfl, (HW.out.below B1.out).mono (fun k _ h => .inl h), HRF.out.below B1.out, Mod.of_below B1.out⟩
  obtain ⟨T1, hT1⟩ : ∃ T1 : Nat → Prop, T1 = fun k => T k ∧ k < w.heap.size := ⟨_, rfl⟩
  have HTl := hid (show ∀ k, T1 k → k < w.heap.size by rw [hT1]; exact fun k h => h.2)
  have HT1 := hid (show ∀ k, T1 k → T k by rw [hT1]; exact fun k h => h.1)
  have HW1 := hid (show RwAt w T1 gw gm l false by rw [hT1]; exact hw.mono (fun k a b => ⟨b, a⟩))
  have HN1 := hid (show Kd.str.slice.K w (fun k => T1 k ∧ k ≠ gw) x.needs [.slice A n c] by rw [hT1]; exact Kd.mono _ (fun k h hl => ⟨⟨h.1, hl⟩, h.2⟩) hn)
  obtain ⟨hTgw, hll2, v, hgh, hKl⟩ := HW1.out
  have hgmw : gm ≠ gw := fun e => hgm (by rw [e]; exact HT1.out _ hTgw)
  have Hgm := hid (show ∀ k, T1 k → k ≠ gm from fun k h e => hgm (by rw [← e]; exact HT1.out _ h))
  have hlw := HTl.out gw hTgw
  have hgml := (Array.getElem?_eq_some_iff.1 (show w.heap[gm]? = some _ from hr)).1
  obtain ⟨A4, c4, hv4, hc4, _, hrow⟩ := hKl
  obtain rfl : v = .slice A4 l.length c4 := by simpa using hv4
  have HGH := hid hgh
  have HRL0 := hid hrow
  obtain ⟨pb, hpb⟩ : ∃ pb, pb = putL (recL x) := ⟨_, rfl⟩
  have hpl : pb.length ≤ 4012 := by
    have h1 := recL_len (x := x)
    have h2 := putL_len (l := recL x) (by omega)
    rw [hpb]; omega
  have CP := hid (show ∀ w, Calls Tryz.prog 63 #[.string (mkB (recL x))] w fun e w' => e = .returned (.string (mkB pb)) ∧ Below w.heap.size w w' from fun w => by
    have := rput_calls (mkB (recL x)) w
    rw [mkB_data, ← hpb] at this
    exact this)
  obtain ⟨r, hrr⟩ : ∃ r, r = R.append pb := ⟨_, rfl⟩
  have HR := hid hrr
  have HV := hid (show anApp R l false x = (r.1, if r.2 = 0 then l ++ [x] else l, r.2 == 14, r.2) by unfold anApp; rw [hxok, ← hpb, ← hrr]; rfl)
  have hok16 := hok
  clear hw hn hr hT1 hgh hrow hv4 hpb hrr hok hgm
  go_enter Tryz.func38, Tryz.ntmps38
  go_wp2_with fail
  rw [← hW0]
  clear hW0
  go_wp2_with fail
  refine (CK.out _ b0.out).mono ?_
  rintro e V ⟨rfl, hb1⟩
  rw [hxok]
  have BV := hid (bThen b0.out hb1)
  have HXV := hid ((hb1.block _ hxx).trans HX.out)
  have hxV := Nat.lt_of_lt_of_le hxx hb1.size
  have hgV : gw < V.heap.size := by omega
  have HGV := hid ((BV.out.block gw hlw).trans HGH.out)
  have HRV := hid (HRF.out.below BV.out)
  have HKV := hid (show Kd.str.slice.K V (fun k => T1 k ∧ k ≠ gw) x.needs [.slice A n c] from Kd.below HN1.out BV.out)
  have d2 := (cells_of_block HGV.out).1 2 (.bool false) rfl
  clear hb1 x0 x1 x2 x3 x4 x5 x6
  go_wp2_with fail
  obtain ⟨q0, q1, q2, q3, q4, q5, q6⟩ := rec_cells (W := V.drew) HXV.out
  have qp : V.drew.cell? ⟨gw, 0, none⟩ = some (.pointer (some ⟨gm, 0, none⟩)) := (cells_of_block HGV.out).1 0 (.pointer (some ⟨gm, 0, none⟩)) rfl
  refine wp_region_held_drew (S := fun w' => w'.cell? ⟨gw, 0, none⟩ = some (.pointer (some ⟨gm, 0, none⟩)) ∧ w'.cell? ⟨w.heap.size, 0, none⟩ = some (.int .i64 x.kind) ∧ w'.cell? ⟨w.heap.size, 1, none⟩ = some (.int .i64 x.job) ∧ w'.cell? ⟨w.heap.size, 2, none⟩ = some (.int .i64 x.task) ∧ w'.cell? ⟨w.heap.size, 3, none⟩ = some (.int .i64 x.worker) ∧ w'.cell? ⟨w.heap.size, 4, none⟩ = some (.int .i64 x.sched) ∧ w'.cell? ⟨w.heap.size, 5, none⟩ = some (.int .i64 x.epoch) ∧ w'.cell? ⟨w.heap.size, 6, none⟩ = some (.slice A n c)) (by kernel_rfl) ⟨qp, q0, q1, q2, q3, q4, q5, q6⟩ (fun hHeld => ?_)
  refine anyH_take 0 (v := ?_) rfl (by kernel_rfl) (by kernel_rfl) (by kernel_rfl) (fun _ _ _ h => h) (by rfl) hHeld ?_ ?_
  rotate_left
  · (intro w hSw; (try dsimp only at hSw); go_split_ands; go_simp; try with_reducible rfl)
  (try simp only [Act.put, List.setIfInBounds_toArray, List.set_cons_zero, List.set_cons_succ])
  refine anyH_take 1 (v := ?_) rfl (by kernel_rfl) (by kernel_rfl) (by kernel_rfl) (fun _ _ _ h => h) (by rfl) hHeld ?_ ?_
  rotate_left
  · (intro w hSw; (try dsimp only at hSw); go_split_ands; go_simp; try with_reducible rfl)
  (try simp only [Act.put, List.setIfInBounds_toArray, List.set_cons_zero, List.set_cons_succ])
  refine anyH_take 2 (v := ?_) rfl (by kernel_rfl) (by kernel_rfl) (by kernel_rfl) (fun _ _ _ h => h) (by rfl) hHeld ?_ ?_
  rotate_left
  · (intro w hSw; (try dsimp only at hSw); go_split_ands; go_simp; try with_reducible rfl)
  (try simp only [Act.put, List.setIfInBounds_toArray, List.set_cons_zero, List.set_cons_succ])
  refine anyH_take 3 (v := ?_) rfl (by kernel_rfl) (by kernel_rfl) (by kernel_rfl) (fun _ _ _ h => h) (by rfl) hHeld ?_ ?_
  rotate_left
  · (intro w hSw; (try dsimp only at hSw); go_split_ands; go_simp; try with_reducible rfl)
  (try simp only [Act.put, List.setIfInBounds_toArray, List.set_cons_zero, List.set_cons_succ])
  refine anyH_take 4 (v := ?_) rfl (by kernel_rfl) (by kernel_rfl) (by kernel_rfl) (fun _ _ _ h => h) (by rfl) hHeld ?_ ?_
  rotate_left
  · (intro w hSw; (try dsimp only at hSw); go_split_ands; go_simp; try with_reducible rfl)
  (try simp only [Act.put, List.setIfInBounds_toArray, List.set_cons_zero, List.set_cons_succ])
  refine anyH_one 5 rfl (by kernel_rfl) (fun K hK => ?_)
  go_simp
  refine (rbytes17_calls x A n c _ (Kd.any (Kd.below HKV.out (Below.refl V.heap.size V).drew))).mono ?_
  rintro e u1 ⟨rfl, hb1⟩
  have U1 := hid (show Below V.heap.size V u1 from bThen (Below.refl V.heap.size V).drew hb1)
  clear hb1
  obtain ⟨p0, p1, p2, p3, p4, p5, p6⟩ := rec_cells ((U1.out.block _ hxV).trans HXV.out)
  have pp := (cells_of_block ((U1.out.block _ hgV).trans HGV.out)).1 0 (.pointer (some ⟨gm, 0, none⟩)) rfl
  go_simp
  refine hK.out _ _ ⟨pp, p0, p1, p2, p3, p4, p5, p6⟩ (fun hHeld => ?_)
  clear hK K
  (try simp only [Act.put, List.setIfInBounds_toArray, List.set_cons_zero, List.set_cons_succ])
  clear p0 p1 p2 p3 p4 p5 p6 pp
  refine anyH_one 6 rfl (by kernel_rfl) (fun K hK => ?_)
  go_simp
  refine (CP.out _).mono ?_
  rintro e u2 ⟨rfl, hb2⟩
  have U2 := hid (show Below V.heap.size V u2 from bThen U1.out hb2)
  clear hb2
  obtain ⟨p0, p1, p2, p3, p4, p5, p6⟩ := rec_cells ((U2.out.block _ hxV).trans HXV.out)
  have pp := (cells_of_block ((U2.out.block _ hgV).trans HGV.out)).1 0 (.pointer (some ⟨gm, 0, none⟩)) rfl
  go_simp
  refine hK.out _ _ ⟨pp, p0, p1, p2, p3, p4, p5, p6⟩ (fun hHeld => ?_)
  clear hK K
  (try simp only [Act.put, List.setIfInBounds_toArray, List.set_cons_zero, List.set_cons_succ])
  clear p0 p1 p2 p3 p4 p5 p6 pp
  refine anyH_one 7 rfl (by kernel_rfl) (fun K hK => ?_)
  go_simp
  refine (r16Append_calls gm R pb _ (HRV.out.below U2.out) hok16 (by omega)).mono ?_
  rintro e u3 ⟨rfl, hr3, hM3⟩
  rw [← HR.out] at hr3
  rw [← HR.out]
  have HR3 := hid hr3
  have HM3 := hid hM3
  have HX3 := hid (show u3.heap[w.heap.size]? = some (.cells #[.int .i64 x.kind, .int .i64 x.job, .int .i64 x.task, .int .i64 x.worker, .int .i64 x.sched, .int .i64 x.epoch, .slice A n c] 46 (0, 0)) from (hM3.block _ (Nat.lt_of_lt_of_le hxV U2.out.size) (fun e => by omega)).trans ((U2.out.block _ hxV).trans HXV.out))
  have HG3 := hid ((hM3.block gw (Nat.lt_of_lt_of_le hgV U2.out.size) (fun e => hgmw e.symm)).trans ((U2.out.block _ hgV).trans HGV.out))
  obtain ⟨p0, p1, p2, p3, p4, p5, p6⟩ := rec_cells HX3.out
  have pp := (cells_of_block HG3.out).1 0 (.pointer (some ⟨gm, 0, none⟩)) rfl
  clear hr3 hM3
  go_simp
  refine hK.out _ _ ⟨pp, p0, p1, p2, p3, p4, p5, p6⟩ (fun hHeld => ?_)
  clear hK K
  (try simp only [Act.put, List.setIfInBounds_toArray, List.set_cons_zero, List.set_cons_succ])
  clear p0 p1 p2 p3 p4 p5 p6 pp
  refine anyH_take 8 (v := ?_) rfl (by kernel_rfl) (by kernel_rfl) (by kernel_rfl) (fun _ _ _ h => h) (by rfl) hHeld ?_ ?_
  rotate_left
  · (intro w hSw; (try dsimp only at hSw); go_split_ands; go_simp; try with_reducible rfl)
  (try simp only [Act.put, List.setIfInBounds_toArray, List.set_cons_zero, List.set_cons_succ])
  refine wpAnyH_done (by kernel_rfl) ?_ _
  clear hHeld
  clear qp q0 q1 q2 q3 q4 q5 q6 d2
  have BU2 := hid (bThen BV.out U2.out)
  have s2 := BU2.out.size
  have s3 := HM3.out.size
  have M3 := hid (show Mod (fun k => k = gm) w u3 from (Mod.of_below BU2.out).trans HM3.out (fun _ _ h => h))
  have HRL3 := hid (show Kd.recK.Row u3 (fun k => T1 k ∧ k ≠ gw) A4 l from HRL0.out.move (fun k h hl => M3.out.block k hl (Hgm.out k h.1)))
  have HK3 := hid (show Kd.str.slice.K u3 (fun k => T1 k ∧ k ≠ gw) x.needs [.slice A n c] from Kd.mod HN1.out M3.out (fun k _ h e => Hgm.out k h.1 e))
  have hxu : w.heap.size < u3.heap.size := (Array.getElem?_eq_some_iff.1 HX3.out).1
  have hgu : gw < u3.heap.size := (Array.getElem?_eq_some_iff.1 HG3.out).1
  by_cases he14 : r.2 = 14
  · have e14 : (r.2 == (14 : Int)) = true := by rw [beq_iff_eq]; exact he14
    have e0 : (r.2 == (0 : Int)) = false := by rw [beq_eq_false_iff_ne]; omega
    have HV2 := hid (show anApp R l false x = (r.1, l, true, r.2) by rw [HV.out, if_neg (by omega), e14])
    have d2 := (cells_of_block HG3.out).1 2 (.bool false) rfl
    have df := (cells_of_block HG3.out).2.1 2
    clear he14
    go_wp2
    go_ret
    rw [HV2.out]
    refine ⟨rfl, ⟨.inl (HT1.out _ hTgw), hll2, .slice A4 l.length c4, by have := heap_set HG3.out 2 (.bool true); simpa using this, ?_⟩, (Below.heap_setCell _ ⟨gw, 2, none⟩ _ gm hgmw).trans HR3.out, (M3.out.mono (fun k _ h => .inl h)).setCell (p := ⟨gw, 2, none⟩) (fun _ => .inr rfl) _⟩
    exact ⟨A4, c4, rfl, hc4, by omega, (HRL3.out.mono (fun k h _ => (⟨.inl (HT1.out k h.1), h.2⟩ : (T k ∨ w.heap.size ≤ k) ∧ k ≠ gw))).move (fun k h hl => Below.heap_setCell _ ⟨gw, 2, none⟩ _ k h.2)⟩
  · have e14 : (r.2 == (14 : Int)) = false := by rw [beq_eq_false_iff_ne]; exact he14
    by_cases he0 : r.2 = 0
    case neg =>
      have e0 : (r.2 == (0 : Int)) = false := by rw [beq_eq_false_iff_ne]; exact he0
      have HV2 := hid (show anApp R l false x = (r.1, l, false, r.2) by rw [HV.out, if_neg he0, e14])
      clear he14 he0
      go_wp2
      go_ret
      rw [HV2.out]
      exact ⟨rfl, ⟨.inl (HT1.out _ hTgw), hll2, .slice A4 l.length c4, HG3.out, ⟨A4, c4, rfl, hc4, by omega, HRL3.out.mono (fun k h _ => (⟨.inl (HT1.out k h.1), h.2⟩ : (T k ∨ w.heap.size ≤ k) ∧ k ≠ gw))⟩⟩, HR3.out, M3.out.mono (fun k _ h => .inl h)⟩
    case pos =>
      have e0 : (r.2 == (0 : Int)) = true := by rw [beq_iff_eq]; exact he0
      have HV2 := hid (show anApp R l false x = (r.1, l ++ [x], false, r.2) by rw [HV.out, if_pos he0, e14])
      clear he14 he0
      obtain ⟨u, hu⟩ : ∃ u, u = u3 := ⟨_, rfl⟩
      rw [← hu] at HX3 HG3 HRL3 HK3 hxu hgu HR3 M3 ⊢
      have HXu := HX3
      have HGu := HG3
      have HRL := HRL3
      have HKX := HK3
      obtain ⟨TT, hTT⟩ : ∃ TT : Nat → Prop, TT = fun k => T1 k ∧ k ≠ gw ∨ u.heap.size ≤ k := ⟨_, rfl⟩
      have HTT := hid (show ∀ k, T1 k ∧ k ≠ gw → TT k by rw [hTT]; exact fun k h => .inl h)
      have HTT2 := hid (show ∀ k, u.heap.size ≤ k → TT k by rw [hTT]; exact fun k h => .inr h)
      have HTT3 := hid (show ∀ k, TT k → T1 k ∧ k ≠ gw ∨ u.heap.size ≤ k by rw [hTT]; exact fun k h => h)
      have HEND := hid (show ∀ (w8 : World) (A8 : Option Addr) (m8 c8 : Nat), Own Kd.recK 46 w8 u.heap.size TT (.slice A8 m8 c8) (l ++ [x]) → Below u.heap.size u w8 → RwAt (w8.setCell ⟨gw, 1, none⟩ (.slice A8 m8 c8)) (fun k => T k ∨ w.heap.size ≤ k) gw gm (l ++ [x]) false ∧ RefAt (w8.setCell ⟨gw, 1, none⟩ (.slice A8 m8 c8)) gm r.1 ∧ Mod (fun k => k = gm ∨ k = gw) w (w8.setCell ⟨gw, 1, none⟩ (.slice A8 m8 c8)) from fun w8 A8 m8 c8 hO hB => by
        have hgm8 : gm < u.heap.size := Nat.lt_of_lt_of_le hgml M3.out.size
        have su := M3.out.size
        refine ⟨⟨.inl (HT1.out _ hTgw), by simp; omega, .slice A8 m8 c8, by have := heap_set ((hB.block gw hgu).trans HGu.out) 1 (.slice A8 m8 c8); simpa using this, ?_⟩, (Below.heap_setCell _ ⟨gw, 1, none⟩ _ gm hgmw).trans (HR3.out.below hB), ((M3.out.then_below hB).mono (fun k _ h => .inl h)).setCell (p := ⟨gw, 1, none⟩) (fun _ => .inr rfl) _⟩
        refine Kd.recK.slice.move (w := w8) (fun k h hl => Below.heap_setCell _ ⟨gw, 1, none⟩ _ k h.2) (Kd.mono _ (fun k h _ => ?_) (Own.K hO))
        rcases h with h | h
        · rcases HTT3.out k h with h | h
          · exact ⟨.inl (HT1.out k h.1), h.2⟩
          · exact ⟨.inr (by omega), by omega⟩
        · exact ⟨.inr (by omega), by omega⟩)
      have hTgl := HTl
      clear hTT hu
      go_wp2_with fail
      obtain ⟨q0, q1, q2, q3, q4, q5, q6⟩ := rec_cells (W := u.drew) HXu.out
      have qp : u.drew.cell? ⟨gw, 1, none⟩ = some (.slice A4 l.length c4) := (cells_of_block HGu.out).1 1 (.slice A4 l.length c4) rfl
      refine wp_region_K (S := fun w' => w'.cell? ⟨gw, 1, none⟩ = some (.slice A4 l.length c4) ∧ w'.cell? ⟨w.heap.size, 0, none⟩ = some (.int .i64 x.kind) ∧ w'.cell? ⟨w.heap.size, 1, none⟩ = some (.int .i64 x.job) ∧ w'.cell? ⟨w.heap.size, 2, none⟩ = some (.int .i64 x.task) ∧ w'.cell? ⟨w.heap.size, 3, none⟩ = some (.int .i64 x.worker) ∧ w'.cell? ⟨w.heap.size, 4, none⟩ = some (.int .i64 x.sched) ∧ w'.cell? ⟨w.heap.size, 5, none⟩ = some (.int .i64 x.epoch) ∧ w'.cell? ⟨w.heap.size, 6, none⟩ = some (.slice A n c)) 12 (by kernel_rfl) ⟨qp, q0, q1, q2, q3, q4, q5, q6⟩ (fun hHeld => ?_)
      refine anyK_take 0 (v := ?_) rfl rfl (by kernel_rfl) (by kernel_rfl) (by kernel_rfl) (by kernel_rfl) (fun _ _ _ h => h) (by rfl) hHeld ?_ ?_
      rotate_left
      · (intro w hSw; (try dsimp only at hSw); go_split_ands; go_simp; try with_reducible rfl)
      (try simp only [Act.put, List.setIfInBounds_toArray, List.set_cons_zero, List.set_cons_succ])
      refine anyK_take 2 (v := ?_) rfl rfl (by kernel_rfl) (by kernel_rfl) (by kernel_rfl) (by kernel_rfl) (fun _ _ _ h => h) (by rfl) hHeld ?_ ?_
      rotate_left
      · (intro w hSw; (try dsimp only at hSw); go_split_ands; go_simp; try with_reducible rfl)
      (try simp only [Act.put, List.setIfInBounds_toArray, List.set_cons_zero, List.set_cons_succ])
      refine anyK_take 3 (v := ?_) rfl rfl (by kernel_rfl) (by kernel_rfl) (by kernel_rfl) (by kernel_rfl) (fun _ _ _ h => h) (by rfl) hHeld ?_ ?_
      rotate_left
      · (intro w hSw; (try dsimp only at hSw); go_split_ands; go_simp; try with_reducible rfl)
      (try simp only [Act.put, List.setIfInBounds_toArray, List.set_cons_zero, List.set_cons_succ])
      refine anyK_take 4 (v := ?_) rfl rfl (by kernel_rfl) (by kernel_rfl) (by kernel_rfl) (by kernel_rfl) (fun _ _ _ h => h) (by rfl) hHeld ?_ ?_
      rotate_left
      · (intro w hSw; (try dsimp only at hSw); go_split_ands; go_simp; try with_reducible rfl)
      (try simp only [Act.put, List.setIfInBounds_toArray, List.set_cons_zero, List.set_cons_succ])
      refine anyK_take 5 (v := ?_) rfl rfl (by kernel_rfl) (by kernel_rfl) (by kernel_rfl) (by kernel_rfl) (fun _ _ _ h => h) (by rfl) hHeld ?_ ?_
      rotate_left
      · (intro w hSw; (try dsimp only at hSw); go_split_ands; go_simp; try with_reducible rfl)
      (try simp only [Act.put, List.setIfInBounds_toArray, List.set_cons_zero, List.set_cons_succ])
      refine anyK_take 7 (v := ?_) rfl rfl (by kernel_rfl) (by kernel_rfl) (by kernel_rfl) (by kernel_rfl) (fun _ _ _ h => h) (by rfl) hHeld ?_ ?_
      rotate_left
      · (intro w hSw; (try dsimp only at hSw); go_split_ands; go_simp; try with_reducible rfl)
      (try simp only [Act.put, List.setIfInBounds_toArray, List.set_cons_zero, List.set_cons_succ])
      refine anyK_two 1 8 rfl rfl (by kernel_rfl) (fun K hK => ?_) (fun K hK => ?_)
      · go_simp
        have B1 := hid (show Below u.heap.size u ((u.drew).alloc (.cells #[] 46)) from bAlloc (Below.refl u.heap.size u).drew _)
        obtain ⟨p0, p1, p2, p3, p4, p5, p6⟩ := rec_cells ((B1.out.block _ hxu).trans HXu.out)
        have pp := (cells_of_block ((B1.out.block _ hgu).trans HGu.out)).1 1 (.slice A4 l.length c4) rfl
        refine hK.out _ _ (fun _ => ⟨pp, p0, p1, p2, p3, p4, p5, p6⟩) (fun hS_ => ?_)
        have hHeld := hS_ (by decide)
        clear hK K hS_
        (try simp only [Act.put, List.setIfInBounds_toArray, List.set_cons_zero, List.set_cons_succ])
        clear p0 p1 p2 p3 p4 p5 p6 pp
        refine anyK_two 6 8 rfl rfl (by kernel_rfl) (fun K hK => ?_) (fun K hK => ?_)
        · refine appends_step Kd.recK u.heap.size rfl _ _ 67 46 (.agg zRec) 72 rfl Tryz.underlying67 Tryz.infoRec rfl (by decide) (by decide) (.slice (some ⟨u.heap.size, 0, none⟩) 0 0) [] l A4 l.length c4 TT (fun k => T1 k ∧ k ≠ gw) (fun k => T1 k ∧ k ≠ gw) (by simp [Act.eval]) rfl rfl (HRL.out.below B1.out) (fun _ _ h => h) (fun k h1 _ => ⟨HTT.out k h1, fun e => by have h2 : some k = some (u.heap.size) := e; injection h2 with h2; have := HTl.out k h1.1; have := M3.out.size; omega⟩) (own_newR _ _ _ _ (heap_alloc_new u.drew (.cells #[] 46)) (by omega)) B1.out.size (by simp; omega) ?_
          intro v7 w7 hO7 hg7 hat
          obtain ⟨A7, m7, c7, rfl, hq1, hq2⟩ := hO7.shape'
          have HG7 := hid hg7
          have HAT := hid hat
          have HO7 := hid (show Own Kd.recK 46 w7 u.heap.size TT (.slice A7 m7 c7) l by simpa using hO7)
          have B7 := hid (show Below u.heap.size u w7 from B1.out.grown hg7 B1.out.size (fun k hk => by have h2 : some (u.heap.size) = some k := hk; injection h2 with h2; omega))
          clear hq1 hq2 hO7 hg7 hat
          obtain ⟨p0, p1, p2, p3, p4, p5, p6⟩ := rec_cells ((B7.out.block _ hxu).trans HXu.out)
          have pp := (cells_of_block ((B7.out.block _ hgu).trans HGu.out)).1 1 (.slice A4 l.length c4) rfl
          refine hK.out _ _ (fun _ => ⟨pp, p0, p1, p2, p3, p4, p5, p6⟩) (fun hS_ => ?_)
          have hHeld := hS_ (by decide)
          clear hK K hS_
          (try simp only [Act.put, List.setIfInBounds_toArray, List.set_cons_zero, List.set_cons_succ])
          clear p0 p1 p2 p3 p4 p5 p6 pp
          refine anyK_one 8 rfl (by kernel_rfl) (fun K hK => ?_)
          go_simp
          have B9 := hid (show Below u.heap.size u (w7.alloc (.cells #[.int .i64 x.kind, .int .i64 x.job, .int .i64 x.task, .int .i64 x.worker, .int .i64 x.sched, .int .i64 x.epoch, .slice A n c] 46)) from bAlloc B7.out _)
          obtain ⟨p0, p1, p2, p3, p4, p5, p6⟩ := rec_cells ((B9.out.block _ hxu).trans HXu.out)
          have pp := (cells_of_block ((B9.out.block _ hgu).trans HGu.out)).1 1 (.slice A4 l.length c4) rfl
          refine hK.out _ _ (fun _ => ⟨pp, p0, p1, p2, p3, p4, p5, p6⟩) (fun hS_ => ?_)
          have hHeld := hS_ (by decide)
          clear hK K hS_
          (try simp only [Act.put, List.setIfInBounds_toArray, List.set_cons_zero, List.set_cons_succ])
          clear p0 p1 p2 p3 p4 p5 p6 pp
          refine anyK_one 9 rfl (by kernel_rfl) (fun K hK => ?_)
          refine appends_step Kd.recK u.heap.size rfl _ _ 67 46 (.agg zRec) 72 rfl Tryz.underlying67 Tryz.infoRec rfl (by decide) (by decide) (.slice A7 m7 c7) l [x] (some ⟨w7.heap.size, 0, none⟩) 1 1 TT (fun k => T1 k ∧ k ≠ gw ∨ k = w7.heap.size) (fun k => T1 k ∧ k ≠ gw ∨ k = w7.heap.size) (by simp [Act.eval]) (by simp [Act.eval]) rfl (row_rec2 (heap_alloc_new w7 (.cells #[.int .i64 x.kind, .int .i64 x.job, .int .i64 x.task, .int .i64 x.worker, .int .i64 x.sched, .int .i64 x.epoch, .slice A n c] 46)) (.inr rfl) (Kd.mono _ (fun k hk _ => .inl hk) (Kd.below HKX.out B9.out))) (fun _ _ h => h) (fun k h1 _ => h1.elim (fun h1 => ⟨HTT.out k h1, fun e => by have := HTl.out k h1.1; have := (HO7.out.lt k e.symm).1; have := M3.out.size; omega⟩) (fun h1 => ⟨HTT2.out k (by have h1' : k = w7.heap.size := h1; have := B7.out.size; omega), fun e => by have := (HO7.out.lt k e.symm).2; omega⟩)) (HO7.out.below (bAlloc (Below.refl _ _) _)) B9.out.size (by omega) ?_
          intro v8 w8 hO8 hg8 _
          obtain ⟨A8, m8, c8, rfl, hq1, hq2⟩ := hO8.shape'
          have HO8 := hid hO8
          have B8 := hid (show Below u.heap.size u w8 from B9.out.grown hg8 B9.out.size (fun k hk => (HO7.out.lt k hk).1))
          clear hq1 hq2 hO8 hg8
          obtain ⟨p0, p1, p2, p3, p4, p5, p6⟩ := rec_cells ((B8.out.block _ hxu).trans HXu.out)
          have pp := (cells_of_block ((B8.out.block _ hgu).trans HGu.out)).1 1 (.slice A4 l.length c4) rfl
          refine hK.out _ _ (fun _ => ⟨pp, p0, p1, p2, p3, p4, p5, p6⟩) (fun hS_ => ?_)
          have hHeld := hS_ (by decide)
          clear hK K hS_
          (try simp only [Act.put, List.setIfInBounds_toArray, List.set_cons_zero, List.set_cons_succ])
          clear p0 p1 p2 p3 p4 p5 p6 pp
          refine anyK_one 10 rfl (by kernel_rfl) (fun K hK => ?_)
          go_simp
          refine hK.out _ _ (fun _ => hHeld) (fun _ => ?_)
          clear hK K
          (try simp only [Act.put, List.setIfInBounds_toArray, List.set_cons_zero, List.set_cons_succ])
          refine anyK_one 11 rfl (by kernel_rfl) (fun K hK => ?_)
          go_simp
          refine hK.out _ _ (fun _ => hHeld) (fun _ => ?_)
          clear hK K
          (try simp only [Act.put, List.setIfInBounds_toArray, List.set_cons_zero, List.set_cons_succ])
          have y1 := hHeld.1
          have yf := (cells_of_block ((B8.out.block _ hgu).trans HGu.out)).2.1 1
          have yl := Nat.lt_of_lt_of_le hgu B8.out.size
          refine anyK_one 12 rfl (by kernel_rfl) (fun K hK => ?_)
          go_simp
          refine hK.out _ _ (fun h => absurd rfl h) (fun _ => ?_)
          clear hK K
          refine wpAnyK_done (by kernel_rfl) ?_ _
          go_wp2
          go_ret
          rw [HV2.out]
          exact ⟨rfl, HEND.out _ _ _ _ HO8.out B8.out⟩
        · go_simp
          have B9 := hid (show Below u.heap.size u ((u.drew.alloc (.cells #[] 46)).alloc (.cells #[.int .i64 x.kind, .int .i64 x.job, .int .i64 x.task, .int .i64 x.worker, .int .i64 x.sched, .int .i64 x.epoch, .slice A n c] 46)) from bAlloc B1.out _)
          obtain ⟨p0, p1, p2, p3, p4, p5, p6⟩ := rec_cells ((B9.out.block _ hxu).trans HXu.out)
          have pp := (cells_of_block ((B9.out.block _ hgu).trans HGu.out)).1 1 (.slice A4 l.length c4) rfl
          refine hK.out _ _ (fun _ => ⟨pp, p0, p1, p2, p3, p4, p5, p6⟩) (fun hS_ => ?_)
          have hHeld := hS_ (by decide)
          clear hK K hS_
          (try simp only [Act.put, List.setIfInBounds_toArray, List.set_cons_zero, List.set_cons_succ])
          clear p0 p1 p2 p3 p4 p5 p6 pp
          refine anyK_one 6 rfl (by kernel_rfl) (fun K hK => ?_)
          refine appends_step Kd.recK u.heap.size rfl _ _ 67 46 (.agg zRec) 72 rfl Tryz.underlying67 Tryz.infoRec rfl (by decide) (by decide) (.slice (some ⟨u.heap.size, 0, none⟩) 0 0) [] l A4 l.length c4 TT (fun k => T1 k ∧ k ≠ gw) (fun k => T1 k ∧ k ≠ gw) (by simp [Act.eval]) rfl rfl (HRL.out.below B9.out) (fun _ _ h => h) (fun k h1 _ => ⟨HTT.out k h1, fun e => by have h2 : some k = some (u.heap.size) := e; injection h2 with h2; have := HTl.out k h1.1; have := M3.out.size; omega⟩) (own_newR _ _ _ _ (heap_old (by simp) (heap_alloc_new u.drew (.cells #[] 46))) (by omega)) B9.out.size (by simp; omega) ?_
          intro v7 w7 hO7 hg7 hat
          obtain ⟨A7, m7, c7, rfl, hq1, hq2⟩ := hO7.shape'
          have HG7 := hid hg7
          have HAT := hid hat
          have HO7 := hid (show Own Kd.recK 46 w7 u.heap.size TT (.slice A7 m7 c7) l by simpa using hO7)
          have B7 := hid (show Below u.heap.size u w7 from B9.out.grown hg7 B9.out.size (fun k hk => by have h2 : some (u.heap.size) = some k := hk; injection h2 with h2; omega))
          clear hq1 hq2 hO7 hg7 hat
          obtain ⟨p0, p1, p2, p3, p4, p5, p6⟩ := rec_cells ((B7.out.block _ hxu).trans HXu.out)
          have pp := (cells_of_block ((B7.out.block _ hgu).trans HGu.out)).1 1 (.slice A4 l.length c4) rfl
          refine hK.out _ _ (fun _ => ⟨pp, p0, p1, p2, p3, p4, p5, p6⟩) (fun hS_ => ?_)
          have hHeld := hS_ (by decide)
          clear hK K hS_
          (try simp only [Act.put, List.setIfInBounds_toArray, List.set_cons_zero, List.set_cons_succ])
          clear p0 p1 p2 p3 p4 p5 p6 pp
          refine anyK_one 9 rfl (by kernel_rfl) (fun K hK => ?_)
          refine appends_step Kd.recK u.heap.size rfl _ _ 67 46 (.agg zRec) 72 rfl Tryz.underlying67 Tryz.infoRec rfl (by decide) (by decide) (.slice A7 m7 c7) l [x] (some ⟨u.heap.size + 1, 0, none⟩) 1 1 TT (fun k => T1 k ∧ k ≠ gw ∨ k = u.heap.size + 1) (fun k => T1 k ∧ k ≠ gw ∨ k = u.heap.size + 1) (by simp [Act.eval]) (by simp [Act.eval]) rfl (row_rec2 ((HG7.out.block (u.heap.size + 1) (by simp) (by simp [Value.ownBlock])).trans (heap_at (by simp))) (.inr rfl) (Kd.mono _ (fun k hk _ => .inl hk) (Kd.below HKX.out B7.out))) (fun _ _ h => h) (fun k h1 _ => h1.elim (fun h1 => ⟨HTT.out k h1, fun e => by have := HTl.out k h1.1; have := (HO7.out.lt k e.symm).1; have := M3.out.size; omega⟩) (fun h1 => ⟨HTT2.out k (by have h1' : k = u.heap.size + 1 := h1; have := B7.out.size; omega), fun e => by have h1' : k = u.heap.size + 1 := h1; exact (HAT.out.elim (fun h9 => by rw [h9] at e; simp [Value.ownBlock] at e; omega) (fun ⟨b9, h9, h10⟩ => by rw [h9] at e; injection e with e; simp at h10; omega))⟩)) HO7.out B7.out.size (by omega) ?_
          intro v8 w8 hO8 hg8 _
          obtain ⟨A8, m8, c8, rfl, hq1, hq2⟩ := hO8.shape'
          have HO8 := hid hO8
          have B8 := hid (show Below u.heap.size u w8 from B7.out.grown hg8 B7.out.size (fun k hk => (HO7.out.lt k hk).1))
          clear hq1 hq2 hO8 hg8
          obtain ⟨p0, p1, p2, p3, p4, p5, p6⟩ := rec_cells ((B8.out.block _ hxu).trans HXu.out)
          have pp := (cells_of_block ((B8.out.block _ hgu).trans HGu.out)).1 1 (.slice A4 l.length c4) rfl
          refine hK.out _ _ (fun _ => ⟨pp, p0, p1, p2, p3, p4, p5, p6⟩) (fun hS_ => ?_)
          have hHeld := hS_ (by decide)
          clear hK K hS_
          (try simp only [Act.put, List.setIfInBounds_toArray, List.set_cons_zero, List.set_cons_succ])
          clear p0 p1 p2 p3 p4 p5 p6 pp
          refine anyK_one 10 rfl (by kernel_rfl) (fun K hK => ?_)
          go_simp
          refine hK.out _ _ (fun _ => hHeld) (fun _ => ?_)
          clear hK K
          (try simp only [Act.put, List.setIfInBounds_toArray, List.set_cons_zero, List.set_cons_succ])
          refine anyK_one 11 rfl (by kernel_rfl) (fun K hK => ?_)
          go_simp
          refine hK.out _ _ (fun _ => hHeld) (fun _ => ?_)
          clear hK K
          (try simp only [Act.put, List.setIfInBounds_toArray, List.set_cons_zero, List.set_cons_succ])
          have y1 := hHeld.1
          have yf := (cells_of_block ((B8.out.block _ hgu).trans HGu.out)).2.1 1
          have yl := Nat.lt_of_lt_of_le hgu B8.out.size
          refine anyK_one 12 rfl (by kernel_rfl) (fun K hK => ?_)
          go_simp
          refine hK.out _ _ (fun h => absurd rfl h) (fun _ => ?_)
          clear hK K
          refine wpAnyK_done (by kernel_rfl) ?_ _
          go_wp2
          go_ret
          rw [HV2.out]
          exact ⟨rfl, HEND.out _ _ _ _ HO8.out B8.out⟩
      · go_simp
        have B1 := hid (show Below u.heap.size u (u.drew.alloc (.cells #[.int .i64 x.kind, .int .i64 x.job, .int .i64 x.task, .int .i64 x.worker, .int .i64 x.sched, .int .i64 x.epoch, .slice A n c] 46)) from bAlloc (Below.refl u.heap.size u).drew _)
        obtain ⟨p0, p1, p2, p3, p4, p5, p6⟩ := rec_cells ((B1.out.block _ hxu).trans HXu.out)
        have pp := (cells_of_block ((B1.out.block _ hgu).trans HGu.out)).1 1 (.slice A4 l.length c4) rfl
        refine hK.out _ _ (fun _ => ⟨pp, p0, p1, p2, p3, p4, p5, p6⟩) (fun hS_ => ?_)
        have hHeld := hS_ (by decide)
        clear hK K hS_
        (try simp only [Act.put, List.setIfInBounds_toArray, List.set_cons_zero, List.set_cons_succ])
        clear p0 p1 p2 p3 p4 p5 p6 pp
        refine anyK_one 1 rfl (by kernel_rfl) (fun K hK => ?_)
        go_simp
        have B9 := hid (show Below u.heap.size u ((u.drew.alloc (.cells #[.int .i64 x.kind, .int .i64 x.job, .int .i64 x.task, .int .i64 x.worker, .int .i64 x.sched, .int .i64 x.epoch, .slice A n c] 46)).alloc (.cells #[] 46)) from bAlloc B1.out _)
        obtain ⟨p0, p1, p2, p3, p4, p5, p6⟩ := rec_cells ((B9.out.block _ hxu).trans HXu.out)
        have pp := (cells_of_block ((B9.out.block _ hgu).trans HGu.out)).1 1 (.slice A4 l.length c4) rfl
        refine hK.out _ _ (fun _ => ⟨pp, p0, p1, p2, p3, p4, p5, p6⟩) (fun hS_ => ?_)
        have hHeld := hS_ (by decide)
        clear hK K hS_
        (try simp only [Act.put, List.setIfInBounds_toArray, List.set_cons_zero, List.set_cons_succ])
        clear p0 p1 p2 p3 p4 p5 p6 pp
        refine anyK_one 6 rfl (by kernel_rfl) (fun K hK => ?_)
        refine appends_step Kd.recK u.heap.size rfl _ _ 67 46 (.agg zRec) 72 rfl Tryz.underlying67 Tryz.infoRec rfl (by decide) (by decide) (.slice (some ⟨u.heap.size + 1, 0, none⟩) 0 0) [] l A4 l.length c4 TT (fun k => T1 k ∧ k ≠ gw) (fun k => T1 k ∧ k ≠ gw) (by simp [Act.eval]) rfl rfl (HRL.out.below B9.out) (fun _ _ h => h) (fun k h1 _ => ⟨HTT.out k h1, fun e => by have h2 : some k = some (u.heap.size + 1) := e; injection h2 with h2; have := HTl.out k h1.1; have := M3.out.size; omega⟩) (own_newR _ _ _ _ (heap_at (by simp)) (by omega)) B9.out.size (by simp; omega) ?_
        intro v7 w7 hO7 hg7 hat
        obtain ⟨A7, m7, c7, rfl, hq1, hq2⟩ := hO7.shape'
        have HG7 := hid hg7
        have HAT := hid hat
        have HO7 := hid (show Own Kd.recK 46 w7 u.heap.size TT (.slice A7 m7 c7) l by simpa using hO7)
        have B7 := hid (show Below u.heap.size u w7 from B9.out.grown hg7 B9.out.size (fun k hk => by have h2 : some (u.heap.size + 1) = some k := hk; injection h2 with h2; omega))
        clear hq1 hq2 hO7 hg7 hat
        obtain ⟨p0, p1, p2, p3, p4, p5, p6⟩ := rec_cells ((B7.out.block _ hxu).trans HXu.out)
        have pp := (cells_of_block ((B7.out.block _ hgu).trans HGu.out)).1 1 (.slice A4 l.length c4) rfl
        refine hK.out _ _ (fun _ => ⟨pp, p0, p1, p2, p3, p4, p5, p6⟩) (fun hS_ => ?_)
        have hHeld := hS_ (by decide)
        clear hK K hS_
        (try simp only [Act.put, List.setIfInBounds_toArray, List.set_cons_zero, List.set_cons_succ])
        clear p0 p1 p2 p3 p4 p5 p6 pp
        refine anyK_one 9 rfl (by kernel_rfl) (fun K hK => ?_)
        refine appends_step Kd.recK u.heap.size rfl _ _ 67 46 (.agg zRec) 72 rfl Tryz.underlying67 Tryz.infoRec rfl (by decide) (by decide) (.slice A7 m7 c7) l [x] (some ⟨u.heap.size, 0, none⟩) 1 1 TT (fun k => T1 k ∧ k ≠ gw ∨ k = u.heap.size) (fun k => T1 k ∧ k ≠ gw ∨ k = u.heap.size) (by simp [Act.eval]) (by simp [Act.eval]) rfl (row_rec2 ((HG7.out.block u.heap.size (by simp <;> omega) (by simp [Value.ownBlock])).trans (heap_old (by simp) (heap_alloc_new u.drew (.cells #[.int .i64 x.kind, .int .i64 x.job, .int .i64 x.task, .int .i64 x.worker, .int .i64 x.sched, .int .i64 x.epoch, .slice A n c] 46)))) (.inr rfl) (Kd.mono _ (fun k hk _ => .inl hk) (Kd.below HKX.out B7.out))) (fun _ _ h => h) (fun k h1 _ => h1.elim (fun h1 => ⟨HTT.out k h1, fun e => by have := HTl.out k h1.1; have := (HO7.out.lt k e.symm).1; have := M3.out.size; omega⟩) (fun h1 => ⟨HTT2.out k (by have h1' : k = u.heap.size := h1; have := B7.out.size; omega), fun e => by have h1' : k = u.heap.size := h1; exact (HAT.out.elim (fun h9 => by rw [h9] at e; simp [Value.ownBlock] at e; omega) (fun ⟨b9, h9, h10⟩ => by rw [h9] at e; injection e with e; simp at h10; omega))⟩)) HO7.out B7.out.size (by omega) ?_
        intro v8 w8 hO8 hg8 _
        obtain ⟨A8, m8, c8, rfl, hq1, hq2⟩ := hO8.shape'
        have HO8 := hid hO8
        have B8 := hid (show Below u.heap.size u w8 from B7.out.grown hg8 B7.out.size (fun k hk => (HO7.out.lt k hk).1))
        clear hq1 hq2 hO8 hg8
        obtain ⟨p0, p1, p2, p3, p4, p5, p6⟩ := rec_cells ((B8.out.block _ hxu).trans HXu.out)
        have pp := (cells_of_block ((B8.out.block _ hgu).trans HGu.out)).1 1 (.slice A4 l.length c4) rfl
        refine hK.out _ _ (fun _ => ⟨pp, p0, p1, p2, p3, p4, p5, p6⟩) (fun hS_ => ?_)
        have hHeld := hS_ (by decide)
        clear hK K hS_
        (try simp only [Act.put, List.setIfInBounds_toArray, List.set_cons_zero, List.set_cons_succ])
        clear p0 p1 p2 p3 p4 p5 p6 pp
        refine anyK_one 10 rfl (by kernel_rfl) (fun K hK => ?_)
        go_simp
        refine hK.out _ _ (fun _ => hHeld) (fun _ => ?_)
        clear hK K
        (try simp only [Act.put, List.setIfInBounds_toArray, List.set_cons_zero, List.set_cons_succ])
        refine anyK_one 11 rfl (by kernel_rfl) (fun K hK => ?_)
        go_simp
        refine hK.out _ _ (fun _ => hHeld) (fun _ => ?_)
        clear hK K
        (try simp only [Act.put, List.setIfInBounds_toArray, List.set_cons_zero, List.set_cons_succ])
        have y1 := hHeld.1
        have yf := (cells_of_block ((B8.out.block _ hgu).trans HGu.out)).2.1 1
        have yl := Nat.lt_of_lt_of_le hgu B8.out.size
        refine anyK_one 12 rfl (by kernel_rfl) (fun K hK => ?_)
        go_simp
        refine hK.out _ _ (fun h => absurd rfl h) (fun _ => ?_)
        clear hK K
        refine wpAnyK_done (by kernel_rfl) ?_ _
        go_wp2
        go_ret
        rw [HV2.out]
        exact ⟨rfl, HEND.out _ _ _ _ HO8.out B8.out⟩
end Go.Proofs.YtkjncmmombkllaaGreat
