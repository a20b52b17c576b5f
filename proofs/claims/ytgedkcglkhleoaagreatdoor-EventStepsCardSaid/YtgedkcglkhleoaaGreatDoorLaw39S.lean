/- The law EventSteps. -/
import Derived.Test.YtgedkcglkhleoaaGreatDoorWorks39
import Derived.Test.YtgedkcglkhleoaaGreatDoorRef39C
import Derived.Test.YtgedkcglkhleoaaGreatDoorSmall39
import Derived.Test.YtgedkcglkhleoaaGreatDoorEvTextR
import Derived.Test.YtgedkcglkhleoaaGreatDoorSame20
import Derived.Test.YtgedkcglkhleoaaGreatDoorBase
import Derived.Deep.CutBlock
namespace Go.Proofs.YtgedkcglkhleoaaGreatDoor
open Go.RowKit

def okEntryI (E : EntryS) : Prop := okEntry E ∧ ∀ x ∈ E.bound, x ≤ 9223372036854775807
theorem Tryz.opensEntryI : Opens Tryz.prog 45 Kd.entry okEntryI :=
  opens_mapO (fun p : Int × Int × Int × List ByteArray × List Int × List Bool => (⟨p.1, p.2.1, p.2.2.1, p.2.2.2.1, p.2.2.2.2.1, p.2.2.2.2.2⟩ : EntryS))
    (opens_struct (l := [(3, 0), (3, 1), (3, 2), (22, 3), (42, 4), (43, 5)]) (by kernel_rfl) (by simp) (by kernel_rfl)
      (opensF_cons (by kernel_rfl) (opens_int Tryz.underlying3) (by decide) (opensF_cons (by kernel_rfl) (opens_int Tryz.underlying3) (by decide) (opensF_cons (by kernel_rfl) (opens_int Tryz.underlying3) (by decide)
      (opensF_cons (by kernel_rfl) (opens_slice Tryz.underlying22 (by kernel_rfl) (by kernel_rfl) (by decide) (by decide) (opens_str Tryz.underlying9)) (by decide)
      (opensF_cons (by kernel_rfl) (opens_slice Tryz.underlying42 (by kernel_rfl) (by kernel_rfl) (by decide) (by decide) (opens_int Tryz.underlying3)) (by decide)
      (opensF_one (by kernel_rfl) (opens_slice Tryz.underlying43 (by kernel_rfl) (by kernel_rfl) (by decide) (by decide) (opens_bool Tryz.underlying4))))))))
    )
    (fun w S x cs _ h => h) (fun x ho => ⟨⟨ho.2.2.2.1, ho.2.2.2.2.1.2, ho.2.2.2.2.2.2⟩, fun y hy => (i64_range (ho.2.2.2.2.1.1 y hy)).2⟩)
theorem Tryz.opensEntriesI : Opens Tryz.prog 29 Kd.entry.slice (fun l => (∀ y ∈ l, okEntryI y) ∧ l.length * 96 ≤ 140737488351232) := opens_slice Tryz.underlying29 (by kernel_rfl) (by kernel_rfl) (by decide) (by decide) Tryz.opensEntryI
theorem evOk_small {b : List EntryS} (h : longEs b = false) (hi : ∀ E ∈ b, ∀ x ∈ E.bound, x ≤ 9223372036854775807) : EvOk b ∧ Short24B b := by
  unfold longEs at h
  rw [Bool.or_eq_false_iff] at h
  have h1 := List.any_eq_false.1 h.1
  have hl := of_decide_eq_false h.2
  have key : ∀ E ∈ b, ((∀ s ∈ E.needs, (s.size : Int) ≤ 300) ∧ (E.needs.length : Int) ≤ 30) ∧ E.bound.length ≤ 30 ∧ E.done.length ≤ 30 := fun E hE => by
    have h2 := h1 E hE
    have h2 : longE E = false := by simpa using h2
    unfold longE at h2
    simp only [Bool.or_eq_false_iff, decide_eq_false_iff_not] at h2
    refine ⟨long_no h2.1.1, ?_, ?_⟩ <;> omega
  refine ⟨⟨fun E hE => ?_, by omega, hi, fun E hE s hs => ?_⟩, fun E hE s hs => ?_⟩
  · have := key E hE
    exact ⟨by omega, by omega, by omega⟩
  · have := (key E hE).1.1 s hs; omega
  · have := (key E hE).1.1 s hs; omega
theorem set7c {W : World} {rb : Nat} {t : TypeId} {z0 z1 z2 z3 z4 z5 z6 : Value} (h : W.heap[rb]? = some (.cells #[z0, z1, z2, z3, z4, z5, z6] t (0, 0))) (v0 v1 v2 v3 v4 v5 v6 : Value) :
    ∃ W', W' = (((((((W.setCell ⟨rb, 0, none⟩ v0).setCell ⟨rb, 1, none⟩ v1).setCell ⟨rb, 2, none⟩ v2).setCell ⟨rb, 3, none⟩ v3).setCell ⟨rb, 4, none⟩ v4).setCell ⟨rb, 5, none⟩ v5).setCell ⟨rb, 6, none⟩ v6) ∧
      W'.heap[rb]? = some (.cells #[v0, v1, v2, v3, v4, v5, v6] t (0, 0)) ∧ Below rb W W' ∧ W'.heap.size = W.heap.size := by
  have g0 := heap_set h 0 v0
  have g1 := heap_set g0 1 v1
  have g2 := heap_set g1 2 v2
  have g3 := heap_set g2 3 v3
  have g4 := heap_set g3 4 v4
  have g5 := heap_set g4 5 v5
  have g6 := heap_set g5 6 v6
  have e : ((((((#[z0, z1, z2, z3, z4, z5, z6].setIfInBounds 0 v0).setIfInBounds 1 v1).setIfInBounds 2 v2).setIfInBounds 3 v3).setIfInBounds 4 v4).setIfInBounds 5 v5).setIfInBounds 6 v6 = #[v0, v1, v2, v3, v4, v5, v6] := by simp
  rw [e] at g6
  have b0 := (Below.refl rb W).setCell (p := ⟨rb, 0, none⟩) (Nat.le_refl _) v0
  have b1 := b0.setCell (p := ⟨rb, 1, none⟩) (Nat.le_refl _) v1
  have b2 := b1.setCell (p := ⟨rb, 2, none⟩) (Nat.le_refl _) v2
  have b3 := b2.setCell (p := ⟨rb, 3, none⟩) (Nat.le_refl _) v3
  have b4 := b3.setCell (p := ⟨rb, 4, none⟩) (Nat.le_refl _) v4
  have b5 := b4.setCell (p := ⟨rb, 5, none⟩) (Nat.le_refl _) v5
  have b6 := b5.setCell (p := ⟨rb, 6, none⟩) (Nat.le_refl _) v6
  exact ⟨_, rfl, g6, b6, by simp⟩
theorem neqS (z : ByteArray) (w : World) : (binOp BinOp.neq 9 (.string z) (.string z)).run Tryz.prog w = .ok (.bool false) w := by
  go_simp
  try simp
set_option maxHeartbeats 4000000 in
set_option maxRecDepth 100000 in
theorem eventStepsLaw (C : ConfS) (CA CB : Option Addr) (ca cb : Nat) (js : List JobS) (JA0 : Option Addr) (jcap : Nat) (b : List EntryS) (v : Value) (x : EvS) (w : World) (hC : CAt w C CA CB ca cb) (hj : Kd.job.slice.K w Any js [.slice JA0 js.length jcap]) (hb : Kd.entry.slice.K w Any b [v]) (hi : ∀ E ∈ b, ∀ x ∈ E.bound, x ≤ 9223372036854775807) (hx : EvInt x) (hT : Tab w) :
    Calls Tryz.prog 3 #[.agg #[.int .i64 C.scheds, .int .i64 C.lease, .int .i64 C.again, .int .i64 C.room, .int .i64 C.out, .slice CA C.names.length ca, .slice CB C.workers.length cb, .slice JA0 js.length jcap], v, .agg #[.int .i64 x.kind, .int .i64 x.job, .int .i64 x.task, .int .i64 x.worker]] w fun e w' => e = .returned (.bool true) ∧ Below w.heap.size w w' := by
  obtain ⟨V, hV⟩ : ∃ V, V = (w.alloc (.cells #[.int .i64 C.scheds, .int .i64 C.lease, .int .i64 C.again, .int .i64 C.room, .int .i64 C.out, .slice CA C.names.length ca, .slice CB C.workers.length cb, .slice JA0 js.length jcap] 28)).alloc (.cells #[.int .i64 x.kind, .int .i64 x.job, .int .i64 x.task, .int .i64 x.worker] 31) := ⟨_, rfl⟩
  have hb0 : Below w.heap.size w V := by rw [hV]; exact bAlloc (bAlloc (Below.refl _ _) _) _
  have HBV := hid hb0
  have HZ := hid (show V.heap[w.heap.size]? = some (.cells #[.int .i64 C.scheds, .int .i64 C.lease, .int .i64 C.again, .int .i64 C.room, .int .i64 C.out, .slice CA C.names.length ca, .slice CB C.workers.length cb, .slice JA0 js.length jcap] 28 (0, 0)) by rw [hV, Below.heap_alloc _ _ _ (by simp)]; exact heap_at rfl)
  have HZE := hid (show V.heap[w.heap.size + 1]? = some (.cells #[.int .i64 x.kind, .int .i64 x.job, .int .i64 x.task, .int .i64 x.worker] 31 (0, 0)) by rw [hV]; exact heap_at (by simp))
  have HWB := hid (fun (u : World) (h : Below V.heap.size V u) => (show ((u.cell? ⟨w.heap.size, 0, none⟩ = some (.int .i64 C.scheds) ∧ u.cell? ⟨w.heap.size, 1, none⟩ = some (.int .i64 C.lease) ∧ u.cell? ⟨w.heap.size, 2, none⟩ = some (.int .i64 C.again) ∧ u.cell? ⟨w.heap.size, 3, none⟩ = some (.int .i64 C.room) ∧ u.cell? ⟨w.heap.size, 4, none⟩ = some (.int .i64 C.out) ∧ u.cell? ⟨w.heap.size, 5, none⟩ = some (.slice CA C.names.length ca) ∧ u.cell? ⟨w.heap.size, 6, none⟩ = some (.slice CB C.workers.length cb)) ∧ u.cell? ⟨w.heap.size, 7, none⟩ = some (.slice JA0 js.length jcap)) from by
    obtain ⟨y0, _, _⟩ := cells_of_block ((h.block (w.heap.size) (Array.getElem?_eq_some_iff.1 HZ.out).1).trans HZ.out)
    exact ⟨⟨y0 0 _ rfl, y0 1 _ rfl, y0 2 _ rfl, y0 3 _ rfl, y0 4 _ rfl, y0 5 _ rfl, y0 6 _ rfl⟩, y0 7 _ rfl⟩))
  have HSE := hid (fun (u : World) (h : Below V.heap.size V u) => (show u.cell? ⟨w.heap.size + 1, 0, none⟩ = some (.int .i64 x.kind) ∧ u.cell? ⟨w.heap.size + 1, 1, none⟩ = some (.int .i64 x.job) ∧ u.cell? ⟨w.heap.size + 1, 2, none⟩ = some (.int .i64 x.task) ∧ u.cell? ⟨w.heap.size + 1, 3, none⟩ = some (.int .i64 x.worker) from by
    obtain ⟨y0, _, _⟩ := cells_of_block ((h.block (w.heap.size + 1) (Array.getElem?_eq_some_iff.1 HZE.out).1).trans HZE.out)
    exact ⟨y0 0 _ rfl, y0 1 _ rfl, y0 2 _ rfl, y0 3 _ rfl⟩))
  have HC := hid (hC.below hb0)
  have HJ := hid (Kd.below hj hb0)
  have HBK := hid (Kd.below hb hb0)
  have HTV := hid (hT.below hb0)
  have HI := hid hi
  have HXI := hid hx
  have HV := hid hV
  obtain ⟨A, c, he, _, _, _⟩ := hb
  injection he with he _
  subst he
  obtain ⟨q, hq⟩ : ∃ q, q = b.length := ⟨_, rfl⟩
  have HQ := hid hq
  rw [← hq] at HBK ⊢
  clear hV hC hj hb0 hT hq HZ HZE hi hx
  have T0 := hid (Below.refl V.heap.size V).drew
  have q0 := HWB.out V.drew T0.out
  go_enter Tryz.func3, Tryz.ntmps3
  go_upto_region 1 with fail
  rw [← HV.out]
  go_cut [7, 8] from 16 to 107 (fun p jv wx => ∃ bx : Nat, p = .pointer (some ⟨bx, 0, none⟩) ∧ jv = .slice JA0 js.length jcap ∧ Hid (wx.heap[bx]? = some (.cells #[.int .i64 C.scheds, .int .i64 C.lease, .int .i64 C.again, .int .i64 C.room, .int .i64 C.out, .slice CA C.names.length ca, .slice CB C.workers.length cb] 25 (0, 0))) ∧ Hid (Below V.heap.size V wx))
  case first =>
    go_wp2_with fail
    refine wp_region_held_drew (S := fun w' => (w'.cell? ⟨w.heap.size, 0, none⟩ = some (.int .i64 C.scheds) ∧ w'.cell? ⟨w.heap.size, 1, none⟩ = some (.int .i64 C.lease) ∧ w'.cell? ⟨w.heap.size, 2, none⟩ = some (.int .i64 C.again) ∧ w'.cell? ⟨w.heap.size, 3, none⟩ = some (.int .i64 C.room) ∧ w'.cell? ⟨w.heap.size, 4, none⟩ = some (.int .i64 C.out) ∧ w'.cell? ⟨w.heap.size, 5, none⟩ = some (.slice CA C.names.length ca) ∧ w'.cell? ⟨w.heap.size, 6, none⟩ = some (.slice CB C.workers.length cb)) ∧ w'.cell? ⟨w.heap.size, 7, none⟩ = some (.slice JA0 js.length jcap)) (by kernel_rfl) q0 (fun hHeld => ?_)
    obtain ⟨y0, hy0⟩ : ∃ y, y = V.drew := ⟨_, rfl⟩
    rw [← hy0] at T0 q0 hHeld ⊢
    have y00 : V.heap.size ≤ y0.heap.size := T0.out.size
    clear hy0
    refine anyH_take 0 (v := ?_) rfl (by kernel_rfl) (by kernel_rfl) (by kernel_rfl) (fun _ _ _ h => h) (by rfl) hHeld ?_ ?_
    rotate_left
    · (intro w hSw; (try dsimp only at hSw); go_split_ands; go_simp; try with_reducible rfl)
    (try simp only [Act.put, List.setIfInBounds_toArray, List.set_cons_zero, List.set_cons_succ])
    refine anyH_take 1 (v := ?_) rfl (by kernel_rfl) (by kernel_rfl) (by kernel_rfl) (fun _ _ _ h => h) (by rfl) hHeld ?_ ?_
    rotate_left
    · (intro w hSw; (try dsimp only at hSw); go_split_ands; go_simp; try with_reducible rfl)
    (try simp only [Act.put, List.setIfInBounds_toArray, List.set_cons_zero, List.set_cons_succ])
    refine anyH_take 2 (v := ?_) rfl (by kernel_rfl) (by kernel_rfl) (by kernel_rfl) (fun _ _ _ h => h) (by rfl) hHeld ?_ ?_
    rotate_left
    · (intro w hSw; (try dsimp only at hSw); go_split_ands; go_simp; try with_reducible rfl)
    (try simp only [Act.put, List.setIfInBounds_toArray, List.set_cons_zero, List.set_cons_succ])
    refine anyH_take 3 (v := ?_) rfl (by kernel_rfl) (by kernel_rfl) (by kernel_rfl) (fun _ _ _ h => h) (by rfl) hHeld ?_ ?_
    rotate_left
    · (intro w hSw; (try dsimp only at hSw); go_split_ands; go_simp; try with_reducible rfl)
    (try simp only [Act.put, List.setIfInBounds_toArray, List.set_cons_zero, List.set_cons_succ])
    refine anyH_one 4 rfl (by kernel_rfl) (fun K hK => ?_)
    go_simp
    obtain ⟨y1, hy⟩ : ∃ y, y = y0.alloc (.cells #[.int .i64 0, .int .i64 0, .int .i64 0, .int .i64 0, .int .i64 0, .slice none 0 0, .slice none 0 0] 25) := ⟨_, rfl⟩
    rw [← hy]
    have hb : Below y0.heap.size y0 y1 := by rw [hy]; exact bAlloc (Below.refl _ _) _
    have T1 := hid (bThen T0.out hb)
    have R1 := hid (show y1.heap[y0.heap.size]? = some (.cells #[.int .i64 0, .int .i64 0, .int .i64 0, .int .i64 0, .int .i64 0, .slice none 0 0, .slice none 0 0] 25 (0, 0)) by rw [hy]; exact heap_at rfl)
    clear hb hy
    refine hK.out _ _ (HWB.out _ T1.out) (fun hHeld => ?_)
    clear hK K
    (try simp only [Act.put, List.setIfInBounds_toArray, List.set_cons_zero, List.set_cons_succ])
    refine anyH_one 5 rfl (by kernel_rfl) (fun K hK => ?_)
    go_simp
    obtain ⟨y2, hy, HX7, TB, hs7⟩ := set7c R1.out (.int .i64 C.scheds) (.int .i64 C.lease) (.int .i64 C.again) (.int .i64 C.room) (.int .i64 C.out) (.slice CA C.names.length ca) (.slice CB C.workers.length cb)
    obtain ⟨p5, g5, l5⟩ := cells_of_block R1.out
    have v0 := p5 0 _ rfl
    have v1 := p5 1 _ rfl
    have v2 := p5 2 _ rfl
    have v3 := p5 3 _ rfl
    have v4 := p5 4 _ rfl
    have v5 := p5 5 _ rfl
    have v6 := p5 6 _ rfl
    have f0 := g5 0
    have f1 := g5 1
    have f2 := g5 2
    have f3 := g5 3
    have f4 := g5 4
    have f5 := g5 5
    have f6 := g5 6
    clear p5 g5
    go_simp
    rw [← hy]
    have T2 := hid (show Below V.heap.size V y2 from T1.out.trans (TB.mono y00))
    have HX7 := hid HX7
    clear hy TB v0 v1 v2 v3 v4 v5 v6 f0 f1 f2 f3 f4 f5 f6
    refine hK.out _ _ (HWB.out _ T2.out) (fun hHeld => ?_)
    clear hK K
    (try simp only [Act.put, List.setIfInBounds_toArray, List.set_cons_zero, List.set_cons_succ])
    refine anyH_take 6 (v := ?_) rfl (by kernel_rfl) (by kernel_rfl) (by kernel_rfl) (fun _ _ _ h => h) (by rfl) hHeld ?_ ?_
    rotate_left
    · (intro w hSw; (try dsimp only at hSw); go_split_ands; go_simp; try with_reducible rfl)
    (try simp only [Act.put, List.setIfInBounds_toArray, List.set_cons_zero, List.set_cons_succ])
    refine wpAnyH_done (by kernel_rfl) ?_ _
    clear hHeld
    go_wp2_with fail
    go_meet
    exact ⟨_, rfl, rfl, HX7, T2⟩
  case rest =>
    obtain ⟨bx, rfl, rfl, HZC, HB0⟩ := hcut
    clear q0
    have HBC := hid (boxC_of HZC.out (HC.out.below HB0.out))
    obtain ⟨x0, x1, x2, x3, x4, x5, x6⟩ := HBC.out.1
    go_wp2_with fail
    refine (rlong14_calls C CA CB ca cb wc HBC.out.2.1.names).mono ?_
    rintro e w1 ⟨rfl, hb1⟩
    have HB1 := hid hb1
    obtain ⟨lc, hlc⟩ : ∃ b, longC C = b := ⟨_, rfl⟩
    have HLC := hid hlc
    rw [hlc]
    clear hb1 hlc x0 x1 x2 x3 x4 x5 x6
    have U1 := hid (bThen HB0.out HB1.out)
    cases lc
    case true =>
      go_wp2_with fail
      refine (works39_calls _ (HTV.out.below U1.out)).mono ?_
      rintro e w2 ⟨rfl, hb2⟩
      go_wp2
      go_ret
      exact ⟨rfl, bThen HBV.out (bThen U1.out hb2)⟩
    go_wp2_with fail
    refine (rlong39_calls js _ w1 (Kd.below HJ.out U1.out)).mono ?_
    rintro e w2 ⟨rfl, rfl⟩
    obtain ⟨lj, hlj⟩ : ∃ b, longJs js = b := ⟨_, rfl⟩
    have HLJ := hid hlj
    rw [hlj]
    clear hlj
    cases lj
    case true =>
      go_wp2_with fail
      refine (works39_calls _ (HTV.out.below U1.out)).mono ?_
      rintro e w2 ⟨rfl, hb2⟩
      go_wp2
      go_ret
      exact ⟨rfl, bThen HBV.out (bThen U1.out hb2)⟩
    go_wp2_with fail
    refine (rlong20_calls b _ w1 (Kd.below HBK.out U1.out)).mono ?_
    rintro e w2 ⟨rfl, rfl⟩
    obtain ⟨le, hle⟩ : ∃ l, longEs b = l := ⟨_, rfl⟩
    have HLE := hid hle
    rw [hle]
    clear hle
    cases le
    case true =>
      go_wp2_with fail
      refine (works39_calls _ (HTV.out.below U1.out)).mono ?_
      rintro e w2 ⟨rfl, hb2⟩
      go_wp2
      go_ret
      exact ⟨rfl, bThen HBV.out (bThen U1.out hb2)⟩
    have HSM := hid (jsOk_small HLJ.out)
    have HWS := hid (show C.workers.length ≤ 1000000 by have := workers_small HLC.out; omega)
    have HEO := hid (evOk_small HLE.out HI.out)
    go_wp2_with fail
    refine (bcloneF_calls b _ w1 (Kd.below HBK.out U1.out) HEO.out.1.fits (by have := HEO.out.1.len; omega)).mono ?_
    rintro e w2 ⟨wasv, rfl, hO, hb2⟩
    have HWA := hid (Kd.any (entryF_K hO.K))
    have U2 := hid (bThen U1.out hb2)
    have HBC2 := hid (HBC.out.below (bThen HB1.out hb2))
    clear hO hb2
    obtain ⟨x0, x1, x2, x3, x4, x5, x6⟩ := HBC2.out.1
    obtain ⟨y0, y1, y2, y3⟩ := HSE.out w2 U2.out
    go_wp2_with fail
    refine (estep_calls C CA CB ca cb js JA0 js.length jcap b _ x.kind x.job x.task x.worker w2 HBC2.out.2.1 (Kd.below HJ.out U2.out) (Kd.below HBK.out U2.out) HEO.out.1 HSM.out.1).mono ?_
    rintro e w3 ⟨o, rfl, hO, hW, hb3⟩
    have HX1 := hid hO
    have HXO := hid hW
    have HB3 := hid hb3
    clear hO hW hb3 x0 x1 x2 x3 x4 x5 x6 y0 y1 y2 y3
    obtain ⟨x0, x1, x2, x3, x4, x5, x6⟩ := (HBC2.out.below HB3.out).1
    obtain ⟨y0, y1, y2, y3⟩ := HSE.out w3 (bThen U2.out HB3.out)
    go_wp2_with fail
    refine (rstep39_calls C CA CB ca cb js JA0 js.length jcap b _ x.kind x.job x.task x.worker w3 (HBC2.out.below HB3.out).2.1 (Kd.below HJ.out (bThen U2.out HB3.out)) (Kd.below HBK.out (bThen U2.out HB3.out)) HEO.out.1 HEO.out.2 HSM.out.1 HSM.out.2 HWS.out).mono ?_
    rintro e w4 ⟨o2, rfl, hO, hb4⟩
    have HX2 := hid hO
    have HB4 := hid (bThen HB3.out hb4)
    have HB34 := hid hb4
    clear hO hb4 x0 x1 x2 x3 x4 x5 x6 y0 y1 y2 y3
    obtain ⟨xs, hxs⟩ : ∃ l, l = (evStep C js b ⟨x.kind, x.job, x.task, x.worker⟩).getD b := ⟨_, rfl⟩
    obtain ⟨ok, hok⟩ : ∃ l, l = (evStep C js b ⟨x.kind, x.job, x.task, x.worker⟩).isSome := ⟨_, rfl⟩
    rw [← hxs] at HX1 HX2 HXO
    rw [← hok] at HXO ⊢
    have hoo : (ok != ok) = false := bne_self_eq_false _
    obtain ⟨rn, hrn⟩ : ∃ r, r = runB b x.worker := ⟨_, rfl⟩
    have HRN := hid hrn
    have hrr : ((rn : Int) != (rn : Int)) = false := bne_self_eq_false _
    obtain ⟨tx, htx⟩ : ∃ r, r = textE x := ⟨_, rfl⟩
    have HTX := hid htx
    have hss := neqS tx
    clear hxs hok hrn htx
    have U3 := hid (bThen U2.out HB3.out)
    have P0 := hid (bThen HB34.out (Below.refl _ _).drew)
    have U0 := hid (bThen U3.out P0.out)
    have q0 := HSE.out _ U0.out
    obtain ⟨Ax, nx, cx, hox, hnx⟩ : ∃ A n c, o = .slice A n c ∧ n = xs.length := by
      obtain ⟨A, c, he, _⟩ := HX1.out
      injection he with he _
      exact ⟨A, _, c, he, rfl⟩
    subst hox
    have HNX := hid hnx
    clear hnx
    go_wp2_with fail
    refine wp_region_held_drew (S := fun w' => w'.cell? ⟨w.heap.size + 1, 0, none⟩ = some (.int .i64 x.kind) ∧ w'.cell? ⟨w.heap.size + 1, 1, none⟩ = some (.int .i64 x.job) ∧ w'.cell? ⟨w.heap.size + 1, 2, none⟩ = some (.int .i64 x.task) ∧ w'.cell? ⟨w.heap.size + 1, 3, none⟩ = some (.int .i64 x.worker)) (by kernel_rfl) q0 (fun hHeld => ?_)
    refine anyH_take 0 (v := ?_) rfl (by kernel_rfl) (by kernel_rfl) (by kernel_rfl) (fun _ _ _ h => h) (by rfl) hHeld ?_ ?_
    rotate_left
    · (intro w hSw; (try dsimp only at hSw); go_split_ands; go_simp; try with_reducible rfl)
    (try simp only [Act.put, List.setIfInBounds_toArray, List.set_cons_zero, List.set_cons_succ])
    refine anyH_take 1 (v := ?_) rfl (by kernel_rfl) (by kernel_rfl) (by kernel_rfl) (fun _ _ _ h => h) (by rfl) hHeld ?_ ?_
    rotate_left
    · (intro w hSw; (try dsimp only at hSw); go_split_ands; go_simp; try with_reducible rfl)
    (try simp only [Act.put, List.setIfInBounds_toArray, List.set_cons_zero, List.set_cons_succ])
    refine anyH_one 2 rfl (by kernel_rfl) (fun K hK => ?_)
    go_simp
    refine (same20_calls xs _ _ w4.drew (Kd.below HX1.out P0.out) (Kd.below HX2.out (Below.refl _ _).drew)).mono ?_
    rintro e w5 ⟨rfl, hb⟩
    have P1 := hid (bThen P0.out hb)
    clear hb
    go_simp
    refine hK.out _ _ (HSE.out _ (bThen U3.out P1.out)) (fun hHeld => ?_)
    clear hK K
    (try simp only [Act.put, List.setIfInBounds_toArray, List.set_cons_zero, List.set_cons_succ])
    refine anyH_take 3 (v := ?_) rfl (by kernel_rfl) (by kernel_rfl) (by kernel_rfl) (fun _ _ _ h => h) (by rfl) hHeld ?_ ?_
    rotate_left
    · (intro w hSw; (try dsimp only at hSw); go_split_ands; go_simp; try with_reducible rfl)
    (try simp only [Act.put, List.setIfInBounds_toArray, List.set_cons_zero, List.set_cons_succ])
    refine anyH_take 4 (v := ?_) rfl (by kernel_rfl) (by kernel_rfl) (by kernel_rfl) (fun _ _ _ h => h) (by rfl) hHeld ?_ ?_
    rotate_left
    · (intro w hSw; (try dsimp only at hSw); go_split_ands; go_simp; try with_reducible rfl)
    (try simp only [Act.put, List.setIfInBounds_toArray, List.set_cons_zero, List.set_cons_succ])
    refine anyH_take 5 (v := ?_) rfl (by kernel_rfl) (by kernel_rfl) (by kernel_rfl) (fun _ _ _ h => h) (by rfl) hHeld ?_ ?_
    rotate_left
    · (intro w hSw; (try dsimp only at hSw); go_split_ands; go_simp; try with_reducible rfl)
    (try simp only [Act.put, List.setIfInBounds_toArray, List.set_cons_zero, List.set_cons_succ])
    refine anyH_take 6 (v := ?_) rfl (by kernel_rfl) (by kernel_rfl) (by kernel_rfl) (fun _ _ _ h => h) (by rfl) hHeld ?_ ?_
    rotate_left
    · (intro w hSw; (try dsimp only at hSw); go_split_ands; go_simp; try with_reducible rfl)
    (try simp only [Act.put, List.setIfInBounds_toArray, List.set_cons_zero, List.set_cons_succ])
    refine anyH_take 7 (v := ?_) rfl (by kernel_rfl) (by kernel_rfl) (by kernel_rfl) (fun _ _ _ h => h) (by rfl) hHeld ?_ ?_
    rotate_left
    · (intro w hSw; (try dsimp only at hSw); go_split_ands; go_simp; try with_reducible rfl)
    (try simp only [Act.put, List.setIfInBounds_toArray, List.set_cons_zero, List.set_cons_succ])
    refine anyH_take 8 (v := ?_) rfl (by kernel_rfl) (by kernel_rfl) (by kernel_rfl) (fun _ _ _ h => h) (by rfl) hHeld ?_ ?_
    rotate_left
    · (intro w hSw; (try dsimp only at hSw); go_split_ands; go_simp; try with_reducible rfl)
    (try simp only [Act.put, List.setIfInBounds_toArray, List.set_cons_zero, List.set_cons_succ])
    refine anyH_take 9 (v := ?_) rfl (by kernel_rfl) (by kernel_rfl) (by kernel_rfl) (fun _ _ _ h => h) (by rfl) hHeld ?_ ?_
    rotate_left
    · (intro w hSw; (try dsimp only at hSw); go_split_ands; go_simp; try with_reducible rfl)
    (try simp only [Act.put, List.setIfInBounds_toArray, List.set_cons_zero, List.set_cons_succ])
    refine anyH_take 10 (v := ?_) rfl (by kernel_rfl) (by kernel_rfl) (by kernel_rfl) (fun _ _ _ h => h) (by rfl) hHeld ?_ ?_
    rotate_left
    · (intro w hSw; (try dsimp only at hSw); go_split_ands; go_simp; try with_reducible rfl)
    (try simp only [Act.put, List.setIfInBounds_toArray, List.set_cons_zero, List.set_cons_succ])
    refine anyH_take 11 (v := ?_) rfl (by kernel_rfl) (by kernel_rfl) (by kernel_rfl) (fun _ _ _ h => h) (by rfl) hHeld ?_ ?_
    rotate_left
    · (intro w hSw; (try dsimp only at hSw); go_split_ands; go_simp; try with_reducible rfl)
    (try simp only [Act.put, List.setIfInBounds_toArray, List.set_cons_zero, List.set_cons_succ])
    refine anyH_take 12 (v := ?_) rfl (by kernel_rfl) (by kernel_rfl) (by kernel_rfl) (fun _ _ _ h => h) (by rfl) hHeld ?_ ?_
    rotate_left
    · (intro w hSw; (try dsimp only at hSw); go_split_ands; go_simp; try with_reducible rfl)
    (try simp only [Act.put, List.setIfInBounds_toArray, List.set_cons_zero, List.set_cons_succ])
    refine anyH_take 14 (v := ?_) rfl (by kernel_rfl) (by kernel_rfl) (by kernel_rfl) (fun _ _ _ h => h) (by rfl) hHeld ?_ ?_
    rotate_left
    · (intro w hSw; (try dsimp only at hSw); go_split_ands; go_simp; try with_reducible rfl)
    (try simp only [Act.put, List.setIfInBounds_toArray, List.set_cons_zero, List.set_cons_succ])
    refine anyH_take 15 (v := ?_) rfl (by kernel_rfl) (by kernel_rfl) (by kernel_rfl) (fun _ _ _ h => h) (by rfl) hHeld ?_ ?_
    rotate_left
    · (intro w hSw; (try dsimp only at hSw); go_split_ands; go_simp; try with_reducible rfl)
    (try simp only [Act.put, List.setIfInBounds_toArray, List.set_cons_zero, List.set_cons_succ])
    refine anyH_take 16 (v := ?_) rfl (by kernel_rfl) (by kernel_rfl) (by kernel_rfl) (fun _ _ _ h => h) (by rfl) hHeld ?_ ?_
    rotate_left
    · (intro w hSw; (try dsimp only at hSw); go_split_ands; go_simp; try with_reducible rfl)
    (try simp only [Act.put, List.setIfInBounds_toArray, List.set_cons_zero, List.set_cons_succ])
    refine anyH_one 13 rfl (by kernel_rfl) (fun K hK => ?_)
    go_simp
    refine (erunning_calls b _ x.worker w5 (Kd.below HBK.out (bThen U3.out P1.out)) HEO.out.1.fits HEO.out.1.len HEO.out.1.ints).mono ?_
    rintro e w6 ⟨rfl, hb⟩
    rw [← HRN.out]
    have P2 := hid (bThen P1.out hb)
    clear hb
    go_simp
    refine hK.out _ _ (HSE.out _ (bThen U3.out P2.out)) (fun hHeld => ?_)
    clear hK K
    (try simp only [Act.put, List.setIfInBounds_toArray, List.set_cons_zero, List.set_cons_succ])
    refine anyH_one 17 rfl (by kernel_rfl) (fun K hK => ?_)
    go_simp
    refine (rrunning39_calls b _ x.worker w6 (Kd.below HBK.out (bThen U3.out P2.out)) HEO.out.1.fits HEO.out.1.len HEO.out.1.ints).mono ?_
    rintro e w7 ⟨rfl, hb⟩
    rw [← HRN.out]
    have P3 := hid (bThen P2.out hb)
    clear hb
    go_simp
    refine hK.out _ _ (HSE.out _ (bThen U3.out P3.out)) (fun hHeld => ?_)
    clear hK K
    (try simp only [Act.put, List.setIfInBounds_toArray, List.set_cons_zero, List.set_cons_succ])
    refine anyH_take 18 (v := ?_) rfl (by kernel_rfl) (by kernel_rfl) (by kernel_rfl) (fun _ _ _ h => h) (by rfl) hHeld ?_ ?_
    rotate_left
    · (intro w hSw; (try dsimp only at hSw); go_split_ands; go_simp; try with_reducible rfl)
    (try simp only [Act.put, List.setIfInBounds_toArray, List.set_cons_zero, List.set_cons_succ])
    refine anyH_take 19 (v := ?_) rfl (by kernel_rfl) (by kernel_rfl) (by kernel_rfl) (fun _ _ _ h => h) (by rfl) hHeld ?_ ?_
    rotate_left
    · (intro w hSw; (try dsimp only at hSw); go_split_ands; go_simp; try with_reducible rfl)
    (try simp only [Act.put, List.setIfInBounds_toArray, List.set_cons_zero, List.set_cons_succ])
    refine anyH_take 20 (v := ?_) rfl (by kernel_rfl) (by kernel_rfl) (by kernel_rfl) (fun _ _ _ h => h) (by rfl) hHeld ?_ ?_
    rotate_left
    · (intro w hSw; (try dsimp only at hSw); go_split_ands; go_simp; try with_reducible rfl)
    (try simp only [Act.put, List.setIfInBounds_toArray, List.set_cons_zero, List.set_cons_succ])
    refine anyH_take 21 (v := ?_) rfl (by kernel_rfl) (by kernel_rfl) (by kernel_rfl) (fun _ _ _ h => h) (by rfl) hHeld ?_ ?_
    rotate_left
    · (intro w hSw; (try dsimp only at hSw); go_split_ands; go_simp; try with_reducible rfl)
    (try simp only [Act.put, List.setIfInBounds_toArray, List.set_cons_zero, List.set_cons_succ])
    refine anyH_take 23 (v := ?_) rfl (by kernel_rfl) (by kernel_rfl) (by kernel_rfl) (fun _ _ _ h => h) (by rfl) hHeld ?_ ?_
    rotate_left
    · (intro w hSw; (try dsimp only at hSw); go_split_ands; go_simp; try with_reducible rfl)
    (try simp only [Act.put, List.setIfInBounds_toArray, List.set_cons_zero, List.set_cons_succ])
    refine anyH_one 22 rfl (by kernel_rfl) (fun K hK => ?_)
    go_simp
    refine (etext_calls x w7 HXI.out (HTV.out.below (bThen U3.out P3.out))).mono ?_
    rintro e w8 ⟨rfl, hb⟩
    rw [← HTX.out]
    have P4 := hid (bThen P3.out hb)
    clear hb
    go_simp
    refine hK.out _ _ (HSE.out _ (bThen U3.out P4.out)) (fun hHeld => ?_)
    clear hK K
    (try simp only [Act.put, List.setIfInBounds_toArray, List.set_cons_zero, List.set_cons_succ])
    refine anyH_one 24 rfl (by kernel_rfl) (fun K hK => ?_)
    go_simp
    refine (rtext39_calls x w8 HXI.out).mono ?_
    rintro e w9 ⟨rfl, hb⟩
    rw [← HTX.out]
    have P5 := hid (bThen P4.out hb)
    clear hb
    go_simp
    refine hK.out _ _ (HSE.out _ (bThen U3.out P5.out)) (fun hHeld => ?_)
    clear hK K
    (try simp only [Act.put, List.setIfInBounds_toArray, List.set_cons_zero, List.set_cons_succ])
    refine anyH_take 25 (v := ?_) rfl (by kernel_rfl) (by kernel_rfl) (by kernel_rfl) (fun _ _ _ h => h) (by rfl) hHeld ?_ ?_
    rotate_left
    · (intro w hSw; (try dsimp only at hSw); go_split_ands; go_simp; try with_reducible rfl)
    (try simp only [Act.put, List.setIfInBounds_toArray, List.set_cons_zero, List.set_cons_succ])
    refine anyH_take 26 (v := ?_) rfl (by kernel_rfl) (by kernel_rfl) (by kernel_rfl) (fun _ _ _ h => h) (by rfl) hHeld ?_ ?_
    rotate_left
    · (intro w hSw; (try dsimp only at hSw); go_split_ands; go_simp; try with_reducible rfl)
    (try simp only [Act.put, List.setIfInBounds_toArray, List.set_cons_zero, List.set_cons_succ])
    refine wpAnyH_done (by kernel_rfl) ?_ _
    clear hHeld q0
    have HP := hid (show Below w2.heap.size w2 w9 from bThen HB3.out P5.out)
    have HEND := hid (fun (u : World) (hu : Below w2.heap.size w2 u) => And.intro (Kd.below HWA.out hu) (And.intro (Kd.below HBK.out (bThen U2.out hu)) (HTV.out.below (bThen U2.out hu))))
    cases ok
    case false =>
      go_wp2
      go_loopw [14] (fun iv wr => iv = .int .i64 0 ∧ Hid (Below w2.heap.size w2 wr)) (fun _ _ => 0)
      case atStart => exact ⟨rfl, HP⟩
      case round =>
        obtain ⟨rfl, HB⟩ := hrel
        go_wp2_with fail
        refine (same20_calls b _ _ _ (HEND.out _ HB.out).1 (HEND.out _ HB.out).2.1).mono ?_
        rintro e u1 ⟨rfl, hb1⟩
        have HBE := hid (bThen HB.out hb1)
        clear hb1
        go_wp2_with fail
        refine (works39_calls _ (HEND.out _ HBE.out).2.2).mono ?_
        rintro e u2 ⟨rfl, hb2⟩
        go_wp2
        go_ret
        exact ⟨rfl, bThen HBV.out (bThen U2.out (bThen HBE.out hb2))⟩
    have HXF := hid ((HXO.out rfl).below P5.out)
    obtain ⟨g, hgA, hmr⟩ : ∃ g, (0 < nx → Ax = some ⟨g, 0, none⟩) ∧ MutRow w9 w2.heap.size g xs := by
      rcases Nat.eq_zero_or_pos nx with h | h
      · refine ⟨0, fun h2 => by omega, fun i E hE => ?_⟩
        have := (List.getElem?_eq_some_iff.1 hE).1
        have := HNX.out
        omega
      · obtain ⟨g, hg, _⟩ := HXF.out.first (by rw [← HNX.out]; exact h)
        exact ⟨g, fun _ => hg, by have h9 := HXF.out; rw [hg] at h9; exact mutRow_of h9⟩
    have HGA := hid hgA
    have HMR := hid hmr
    have hnx : nx ≤ 140737488355328 := by
      obtain ⟨_, _, _, _, hm, _⟩ := HX1.out
      rw [HNX.out]; exact hm
    clear hgA hmr
    go_wp2
    go_loopw [14] (fun iv wr => ∃ i : Nat, i ≤ nx ∧ iv = .int .i64 i ∧ Hid (MutRow wr w2.heap.size g xs) ∧ Hid (Below w2.heap.size w2 wr)) (fun iv _ => nx - (intOf iv).toNat)
    case atStart => exact ⟨0, by omega, rfl, HMR, HP⟩
    case round =>
      obtain ⟨i, hi, rfl, HM, HB⟩ := hrel
      by_cases hlt : i < nx
      case neg =>
        obtain rfl : i = nx := by omega
        go_wp2_with fail
        refine (same20_calls b _ _ _ (HEND.out _ HB.out).1 (HEND.out _ HB.out).2.1).mono ?_
        rintro e u1 ⟨rfl, hb1⟩
        have HBE := hid (bThen HB.out hb1)
        clear hb1
        go_wp2_with fail
        refine (works39_calls _ (HEND.out _ HBE.out).2.2).mono ?_
        rintro e u2 ⟨rfl, hb2⟩
        go_wp2
        go_ret
        exact ⟨rfl, bThen HBV.out (bThen U2.out (bThen HBE.out hb2))⟩
      obtain rfl := HGA.out (by omega)
      obtain ⟨E, hE⟩ : ∃ E, xs[i]? = some E := ⟨_, List.getElem?_eq_getElem (by rw [← HNX.out]; exact hlt)⟩
      have HE := hid hE
      have hltI : (i : Int) < (nx : Int) := by omega
      have hi0 : (0 : Int) ≤ (i : Int) := by omega
      have hwi : IntKind.i64.wrap ((i : Int) + 1) = (i : Int) + 1 := IntWalk.i64_in _ (by omega)
      have hbl : E.bound.length ≤ 140737488355328 := by
        obtain ⟨a9, E9, EA, EB, ED, ea, eb, ed, _, hx9, _, k9, _⟩ := (K_row HX1.out).1.at_entry i (by rw [← HNX.out]; exact hlt)
        rw [hE] at hx9
        obtain rfl := Option.some.inj hx9
        obtain ⟨_, _, _, _, hm9, _⟩ := k9
        exact hm9
      obtain ⟨nb, hnb⟩ : ∃ n, E.bound.length = n := ⟨_, rfl⟩
      rw [hnb] at hbl
      have HNB := hid hnb
      clear hE hnb
      go_wp2
      go_loopw [15] (fun kv wr => ∃ k : Nat, k ≤ nb ∧ kv = .int .i64 k ∧ Hid (MutRow wr w2.heap.size g xs) ∧ Hid (Below w2.heap.size w2 wr)) (fun kv _ => nb - (intOf kv).toNat)
      case atStart => exact ⟨0, by omega, rfl, HM, HB⟩
      case round =>
        obtain ⟨k, hk, rfl, HM2, HB2⟩ := hrel
        obtain ⟨A2, c2, hc2, hfb⟩ := HM2.out i E HE.out
        rw [HNB.out] at hc2 hfb
        by_cases hlk : k < nb
        · rcases hfb with h0 | ⟨gb, cur, rfl, hgB, hgn, hz, hcs⟩
          · omega
          have hkI : (k : Int) < (nb : Int) := by omega
          have hk0 : (0 : Int) ≤ (k : Int) := by omega
          have hwk : IntKind.i64.wrap ((k : Int) + 1) = (k : Int) + 1 := IntWalk.i64_in _ (by omega)
          obtain ⟨p5, f5, _⟩ := cells_of_block hz
          obtain ⟨u0, hu0⟩ : ∃ u, cur[k]? = some u := ⟨_, Array.getElem?_eq_getElem (by omega)⟩
          have hp := p5 k _ hu0
          have hf := f5 k
          have HM3 := hid (fun v => HM2.out.set (k := k) (v := v) hgn)
          have HB3' := hid (fun v => HB2.out.setCell (p := ⟨gb, k, none⟩) hgB v)
          clear p5 f5 hz hcs hu0
          go_wp2
          go_roundw
          case rel => exact ⟨k + 1, by omega, by go_num, hid (HM3.out _), hid (HB3'.out _)⟩
          case measure => simp [intOf]; omega
        · obtain rfl : k = nb := by omega
          go_wp2
          go_roundw
          case rel => exact ⟨i + 1, by omega, by go_num, HM2, HB2⟩
          case measure => simp [intOf]; omega
end Go.Proofs.YtgedkcglkhleoaaGreatDoor
