/- The law HandPicks. -/
import Derived.Test.YteijgeofimcijaaLaw34F
import Derived.Test.YteijgeofimcijaaRef34B
namespace Go.Proofs.Yteijgeofimcijaa
open Go.RowKit

theorem pick_ok {C : ConfS} {E : EntryS} {wk : Int} {had : List Bool} {t : Int} {f o : Bool} (h : pickS C E wk had = (t, f, o)) : o = decide (0 ≤ t) := by
  rcases pick_cases h with ⟨rfl, rfl, _⟩ | ⟨rfl, _, ⟨j, rfl, _⟩, _⟩ | ⟨rfl, _, j, rfl, _⟩
  · rfl
  · rw [decide_eq_true (by omega)]
  · rw [decide_eq_true (by omega)]
set_option maxHeartbeats 4000000 in
set_option maxRecDepth 100000 in
theorem handPicksLaw (C : ConfS) (CA CB : Option Addr) (ca cb : Nat) (E : EntryS) (EA EB ED : Option Addr) (ea eb ed : Nat) (wk : Int) (had : List Bool) (Ah : Option Addr) (ch : Nat) (w : World) (hC : CAt w C CA CB ca cb) (hE : EAt w E EA EB ED ea eb ed) (hh : Kd.bool.slice.K w Any had [.slice Ah had.length ch]) :
    Calls Try.prog 10 #[.agg #[.int .i64 C.scheds, .int .i64 C.lease, .int .i64 C.again, .int .i64 C.room, .int .i64 C.out, .slice CA C.names.length ca, .slice CB C.workers.length cb], .agg #[.int .i64 E.id, .int .i64 E.sched, .int .i64 E.epoch, .slice EA E.needs.length ea, .slice EB E.bound.length eb, .slice ED E.done.length ed], .agg #[.int .i64 wk, .slice Ah had.length ch]] w fun e w' => e = .returned (.bool true) ∧ Below w.heap.size w w' := by
  obtain ⟨V, hV⟩ : ∃ V, V = ((w.alloc (.cells #[.int .i64 C.scheds, .int .i64 C.lease, .int .i64 C.again, .int .i64 C.room, .int .i64 C.out, .slice CA C.names.length ca, .slice CB C.workers.length cb] 56)).alloc (.cells #[.int .i64 E.id, .int .i64 E.sched, .int .i64 E.epoch, .slice EA E.needs.length ea, .slice EB E.bound.length eb, .slice ED E.done.length ed] 74)).alloc (.cells #[.int .i64 wk, .slice Ah had.length ch] 76) := ⟨_, rfl⟩
  have hb0 : Below w.heap.size w V := by rw [hV]; exact bAlloc (bAlloc (bAlloc (Below.refl _ _) _) _) _
  have HBC := hid (boxC_of (b := w.heap.size) (by rw [hV, Below.heap_alloc _ _ _ (by simp; try omega), Below.heap_alloc _ _ _ (by simp)]; exact heap_at rfl) (hC.below hb0))
  have HBE := hid (boxE_of (b := w.heap.size + 1) (by rw [hV, Below.heap_alloc _ _ _ (by simp)]; exact heap_at (by simp)) (hE.below hb0))
  have hz2 : V.heap[w.heap.size + 1 + 1]? = some (.cells #[.int .i64 wk, .slice Ah had.length ch] 76 (0, 0)) := by rw [hV]; exact heap_at (by simp)
  obtain ⟨zz, _, _⟩ := cells_of_block hz2
  have z0 : V.cell? ⟨w.heap.size + 1 + 1, 0, none⟩ = some (.int .i64 wk) := zz 0 _ rfl
  have z1 : V.cell? ⟨w.heap.size + 1 + 1, 1, none⟩ = some (.slice Ah had.length ch) := zz 1 _ rfl
  have HHD := hid (Kd.below hh hb0)
  have HBV := hid hb0
  have HV := hid hV
  obtain ⟨n4, hn4⟩ : ∃ n4, n4 = had.length := ⟨_, rfl⟩
  rw [← hn4] at z1 HHD HV ⊢
  obtain ⟨⟨c0, c1, c2, c3, c4, c5, c6⟩, _, _⟩ := HBC.out
  clear hV hE hC hb0 hz2 zz hh hn4
  go_enter Try.func10, Try.ntmps10
  go_wp2_with fail
  rw [← HV.out]
  go_quiet (fail)
  go_wp2_with fail
  have HBQ := hid (fun n => below_drewN (Below.refl V.heap.size V) n)
  refine (rlong14_calls C CA CB ca cb _ (HBC.out.below (HBQ.out _)).2.1.names).mono ?_
  rintro e w1 ⟨rfl, hb1⟩
  have HB1 := hid (bThen (HBQ.out _) hb1)
  obtain ⟨⟨d0, d1, d2, d3, d4, d5⟩, dE, _⟩ := HBE.out.below HB1.out
  have HDE := hid dE
  clear hb1 c0 c1 c2 c3 c4 c5 c6 z0 z1 dE
  have HLG := hid (show longC C = (longB C.names 40 100 || decide (80 < C.workers.length)) from rfl)
  obtain ⟨lc, hlc⟩ : ∃ lc, lc = longC C := ⟨_, rfl⟩
  rw [← hlc] at HLG ⊢
  clear hlc
  cases lc
  case true =>
    go_wp2_with fail
    refine (works34_calls _).mono ?_
    rintro e w2 ⟨rfl, hb2⟩
    go_wp2
    go_ret
    exact ⟨rfl, bThen (bThen HBV.out HB1.out) hb2⟩
  have HWL := hid (show C.workers.length ≤ 1000000 by
    have := HLG.out.symm
    rw [Bool.or_eq_false_iff] at this
    have := of_decide_eq_false this.2
    omega)
  go_wp2_with fail
  refine (bound_calls E EA EB ED ea eb ed w1 HDE.out).mono ?_
  rintro e w2 ⟨rfl, hb2⟩
  have HB2 := hid (bThen HB1.out hb2)
  clear hb2 d0 d1 d2 d3 d4 d5
  cases hbb : boundB E
  case false =>
    go_wp2_with fail
    refine (works34_calls _).mono ?_
    rintro e w3 ⟨rfl, hb3⟩
    go_wp2
    go_ret
    exact ⟨rfl, bThen (bThen HBV.out HB2.out) hb3⟩
  obtain ⟨hbd, hl1, hl2, hl3, hsz⟩ := boundB_ok hbb
  have HBD := hid hbd
  have HS1 := hid (show ∀ s ∈ E.needs, s.size ≤ 140737488351232 from fun s hs => by have := hsz s hs; omega)
  have HS2 := hid (show ∀ s ∈ E.needs, s.size * 24 ≤ 140737488351232 from fun s hs => by have := hsz s hs; omega)
  have HBL := hid (show E.bound.length ≤ 1000 by omega)
  have HNL := hid (show E.needs.length ≤ 1000 by omega)
  clear hbd hsz hbb
  have HCA := hid (fun (u : World) (hb : Below V.heap.size V u) => show CAt u C CA CB ca cb from (HBC.out.below hb).2.1)
  have HEA := hid (fun (u : World) (hb : Below V.heap.size V u) => show EAt u E EA EB ED ea eb ed from (HBE.out.below hb).2.1)
  have HHA := hid (fun (u : World) (hb : Below V.heap.size V u) => show Kd.bool.slice.K u Any had [.slice Ah n4 ch] from Kd.below HHD.out hb)
  have HS := hid (fun (u : World) (hb : Below V.heap.size V u) => show ((u.cell? ⟨w.heap.size, 0, none⟩ = some (.int .i64 C.scheds) ∧ u.cell? ⟨w.heap.size, 1, none⟩ = some (.int .i64 C.lease) ∧ u.cell? ⟨w.heap.size, 2, none⟩ = some (.int .i64 C.again) ∧ u.cell? ⟨w.heap.size, 3, none⟩ = some (.int .i64 C.room) ∧ u.cell? ⟨w.heap.size, 4, none⟩ = some (.int .i64 C.out) ∧ u.cell? ⟨w.heap.size, 5, none⟩ = some (.slice CA C.names.length ca) ∧ u.cell? ⟨w.heap.size, 6, none⟩ = some (.slice CB C.workers.length cb)) ∧ (u.cell? ⟨w.heap.size + 1, 0, none⟩ = some (.int .i64 E.id) ∧ u.cell? ⟨w.heap.size + 1, 1, none⟩ = some (.int .i64 E.sched) ∧ u.cell? ⟨w.heap.size + 1, 2, none⟩ = some (.int .i64 E.epoch) ∧ u.cell? ⟨w.heap.size + 1, 3, none⟩ = some (.slice EA E.needs.length ea) ∧ u.cell? ⟨w.heap.size + 1, 4, none⟩ = some (.slice EB E.bound.length eb) ∧ u.cell? ⟨w.heap.size + 1, 5, none⟩ = some (.slice ED E.done.length ed))) from ⟨(HBC.out.below hb).1, (HBE.out.below hb).1⟩)
  obtain ⟨⟨g0, g1, g2, g3, g4, g5, g6⟩, d0, d1, d2, d3, d4, d5⟩ := HS.out w2 HB2.out
  obtain ⟨t, f, o, hp⟩ : ∃ t f o, pickS C E wk had = (t, f, o) := ⟨_, _, _, rfl⟩
  have HP := hid hp
  have HOK := hid (pick_ok hp)
  clear hp
  go_wp2_with fail
  refine (pick_calls C CA CB ca cb E EA EB ED ea eb ed wk had _ w2 (HCA.out _ HB2.out) (HEA.out _ HB2.out) (HHA.out _ HB2.out) HBL.out HNL.out HBD.out HS1.out).mono ?_
  rintro e w3 ⟨rfl, hb3⟩
  rw [HP.out]
  dsimp only
  have HB3 := hid (bThen HB2.out hb3)
  clear hb3 d0 d1 d2 d3 d4 d5 g0 g1 g2 g3 g4 g5 g6
  obtain ⟨⟨g0, g1, g2, g3, g4, g5, g6⟩, d0, d1, d2, d3, d4, d5⟩ := HS.out w3 HB3.out
  go_wp2_with fail
  refine (rpick_calls C CA CB ca cb E EA EB ED ea eb ed wk had _ w3 (HCA.out _ HB3.out) (HEA.out _ HB3.out) (HHA.out _ HB3.out) HBL.out HNL.out HBD.out HS2.out HWL.out).mono ?_
  rintro e w4 ⟨rfl, hb4⟩
  rw [HP.out]
  dsimp only
  have HB4 := hid (bThen HB3.out hb4)
  clear hb4 d0 d1 d2 d3 d4 d5 g0 g1 g2 g3 g4 g5 g6
  have hnl30 : E.needs.length ≤ 30 := hl1
  go_wp2
  go_loopw [14] (fun i wr => ∃ k : Nat, k ≤ E.needs.length + 2 ∧ i = .int .i64 ((k : Int) - 1) ∧ Hid (Below V.heap.size V wr)) (fun i _ => (E.needs.length + 2) - (intOf i + 1).toNat)
  case atStart => exact ⟨0, by omega, rfl, HB4⟩
  case round =>
    obtain ⟨k, hk, rfl, HB⟩ := hrel
    obtain ⟨_, _, _, _, d3, _, _⟩ := HS.out wr HB.out
    by_cases hlt : k ≤ E.needs.length + 1
    · have hltI : (k : Int) - 1 ≤ (E.needs.length : Int) := by omega
      have hwk : IntKind.i64.wrap ((k : Int) - 1 + 1) = ((k + 1 : Nat) : Int) - 1 := by rw [show (k : Int) - 1 + 1 = ((k + 1 : Nat) : Int) - 1 by omega]; exact IntWalk.i64_in _ (by omega)
      obtain ⟨mb, hmb⟩ : ∃ mb, mb = mayB C E wk ((k : Int) - 1) := ⟨_, rfl⟩
      have HMB := hid hmb
      have hnm : (mb != mb) = false := bne_self_eq_false _
      clear hmb
      go_wp2_with fail
      have k0 := HS.out wr.drew HB.out.drew
      have U0 := hid HB.out.drew
      go_region_held3 (fun w' => (w'.cell? ⟨w.heap.size, 0, none⟩ = some (.int .i64 C.scheds) ∧ w'.cell? ⟨w.heap.size, 1, none⟩ = some (.int .i64 C.lease) ∧ w'.cell? ⟨w.heap.size, 2, none⟩ = some (.int .i64 C.again) ∧ w'.cell? ⟨w.heap.size, 3, none⟩ = some (.int .i64 C.room) ∧ w'.cell? ⟨w.heap.size, 4, none⟩ = some (.int .i64 C.out) ∧ w'.cell? ⟨w.heap.size, 5, none⟩ = some (.slice CA C.names.length ca) ∧ w'.cell? ⟨w.heap.size, 6, none⟩ = some (.slice CB C.workers.length cb)) ∧ (w'.cell? ⟨w.heap.size + 1, 0, none⟩ = some (.int .i64 E.id) ∧ w'.cell? ⟨w.heap.size + 1, 1, none⟩ = some (.int .i64 E.sched) ∧ w'.cell? ⟨w.heap.size + 1, 2, none⟩ = some (.int .i64 E.epoch) ∧ w'.cell? ⟨w.heap.size + 1, 3, none⟩ = some (.slice EA E.needs.length ea) ∧ w'.cell? ⟨w.heap.size + 1, 4, none⟩ = some (.slice EB E.bound.length eb) ∧ w'.cell? ⟨w.heap.size + 1, 5, none⟩ = some (.slice ED E.done.length ed))) (first | exact k0 | exact k1 | exact k2 | fail) (first
        | ((with_reducible refine (handMay_calls C CA CB ca cb E EA EB ED ea eb ed wk ((k : Int) - 1) wr.drew (HCA.out _ U0.out) (HEA.out _ U0.out) HBL.out HS1.out).mono ?_); rintro e w5 ⟨rfl, hb5⟩; rw [← HMB.out]; have U1 := hid (bThen U0.out hb5); have k1 := HS.out w5 U1.out; clear hb5)
        | ((with_reducible refine (rmay34_calls C CA CB ca cb E EA EB ED ea eb ed wk ((k : Int) - 1) w5 (HCA.out _ U1.out) (HEA.out _ U1.out) HBL.out HS2.out HWL.out).mono ?_); rintro e w6 ⟨rfl, hb6⟩; rw [← HMB.out]; have U2 := hid (bThen U1.out hb6); have k2 := HS.out w6 U2.out; clear hb6)
        | fail)
      clear k0 k1 k2
      go_wp2
      go_roundw
      case rel => exact ⟨k + 1, by omega, by rw [show ((k + 1 : Nat) : Int) - 1 = (k : Int) by omega], U2⟩
      case measure => simp [intOf]; omega
    · have hltI : ¬ ((k : Int) - 1 ≤ (E.needs.length : Int)) := by omega
      have q1 : (t == t) = true := beq_self_eq_true _
      have q2 : (f == f) = true := beq_self_eq_true _
      have q3 : (o == decide (0 ≤ t)) = true := by rw [← HOK.out]; exact beq_self_eq_true _
      go_wp2_with fail
      have k0 := HS.out wr.drew HB.out.drew
      have U0 := hid HB.out.drew
      go_region_held3 (fun w' => (w'.cell? ⟨w.heap.size, 0, none⟩ = some (.int .i64 C.scheds) ∧ w'.cell? ⟨w.heap.size, 1, none⟩ = some (.int .i64 C.lease) ∧ w'.cell? ⟨w.heap.size, 2, none⟩ = some (.int .i64 C.again) ∧ w'.cell? ⟨w.heap.size, 3, none⟩ = some (.int .i64 C.room) ∧ w'.cell? ⟨w.heap.size, 4, none⟩ = some (.int .i64 C.out) ∧ w'.cell? ⟨w.heap.size, 5, none⟩ = some (.slice CA C.names.length ca) ∧ w'.cell? ⟨w.heap.size, 6, none⟩ = some (.slice CB C.workers.length cb)) ∧ (w'.cell? ⟨w.heap.size + 1, 0, none⟩ = some (.int .i64 E.id) ∧ w'.cell? ⟨w.heap.size + 1, 1, none⟩ = some (.int .i64 E.sched) ∧ w'.cell? ⟨w.heap.size + 1, 2, none⟩ = some (.int .i64 E.epoch) ∧ w'.cell? ⟨w.heap.size + 1, 3, none⟩ = some (.slice EA E.needs.length ea) ∧ w'.cell? ⟨w.heap.size + 1, 4, none⟩ = some (.slice EB E.bound.length eb) ∧ w'.cell? ⟨w.heap.size + 1, 5, none⟩ = some (.slice ED E.done.length ed))) (first | exact k0 | exact k1 | exact k2 | exact k3 | exact k4 | exact k5 | exact k6 | exact k7 | fail) (first
        | ((with_reducible refine (pending_calls E EA EB ED ea eb ed wk had _ wr.drew (HEA.out _ U0.out) (HHA.out _ U0.out) HBL.out HBD.out).mono ?_); rintro e w5 ⟨v5, rfl, hO5, hb5⟩; have U1 := hid (bThen U0.out hb5); have HO5 := hid hO5; have k1 := HS.out w5 U1.out; clear hb5 hO5)
        | ((with_reducible refine (rpending_calls E EA EB ED ea eb ed wk had _ w5 (HEA.out _ U1.out) (HHA.out _ U1.out) HBL.out HBD.out).mono ?_); rintro e w6 ⟨v6, rfl, hO6, hb6⟩; have U2 := hid (bThen U1.out hb6); have HO6 := hid hO6; have HO5' := hid (HO5.out.below hb6); have k2 := HS.out w6 U2.out; clear hb6 hO6)
        | ((with_reducible refine (isame_calls (pendL E wk had) _ _ w6 (Kd.any HO5'.out.K) (Kd.any HO6.out.K)).mono ?_); rintro e w7 ⟨rfl, n7, rfl⟩; have U3 := hid (below_drewN U2.out n7); have k3 := HS.out _ U3.out)
        | ((with_reducible refine (all_calls E EA EB ED ea eb ed had _ (w6.drewN n7) (HEA.out _ U3.out) (HHA.out _ U3.out) HBL.out HBD.out).mono ?_); rintro e w8 ⟨v8, rfl, hO8, hb8⟩; have U4 := hid (bThen U3.out hb8); have HO8 := hid hO8; have k4 := HS.out w8 U4.out; clear hb8 hO8)
        | ((with_reducible refine (rall_calls E EA EB ED ea eb ed had _ w8 (HEA.out _ U4.out) (HHA.out _ U4.out) HBL.out HBD.out).mono ?_); rintro e w9 ⟨v9, rfl, hO9, hb9⟩; have U5 := hid (bThen U4.out hb9); have HO9 := hid hO9; have HO8' := hid (HO8.out.below hb9); have k5 := HS.out w9 U5.out; clear hb9 hO9)
        | ((with_reducible refine (outs_calls (allS E had) _ _ w9 (Kd.any HO8'.out.K) (Kd.any HO9.out.K)).mono ?_); rintro e w10 ⟨rfl, n10, rfl⟩; have U6 := hid (below_drewN U5.out n10); have k6 := HS.out _ U6.out)
        | ((with_reducible refine (works34_calls (w9.drewN n10)).mono ?_); rintro e w11 ⟨rfl, hb11⟩; have U7 := hid (bThen U6.out hb11); have k7 := HS.out w11 U7.out; clear hb11)
        | fail)
      go_wp2
      go_ret
      exact ⟨rfl, bThen HBV.out U7.out⟩
theorem handPicks_walk (W : World) (C : ConfS) (cs : Array Value) (hC : Kd.conf.K W Any C cs.toList) (oC : okConf C) (E : EntryS) (es : Array Value) (hE : Kd.entry.K W Any E es.toList) (_oE : okEntry E) (x : WhoS) (xs : Array Value) (hx : Kd.who.K W Any x xs.toList) (_ox : True) :
    Calls Try.prog 10 #[.agg cs, .agg es, .agg xs] W fun e w' => e = .returned (.bool true) ∧ Below W.heap.size W w' := by
  obtain ⟨CA, ca, CB, cb, g0, g1, g2⟩ := conf_cells hC
  obtain ⟨EA, ea, EB, eb, ED, ed, h0, h1, h2, h3⟩ := entry_cells hE
  obtain ⟨Ah, ch, q0, q1⟩ := who_cells hx
  obtain rfl : cs = #[.int .i64 C.scheds, .int .i64 C.lease, .int .i64 C.again, .int .i64 C.room, .int .i64 C.out, .slice CA C.names.length ca, .slice CB C.workers.length cb] := by cases cs; simp_all
  obtain rfl : es = #[.int .i64 E.id, .int .i64 E.sched, .int .i64 E.epoch, .slice EA E.needs.length ea, .slice EB E.bound.length eb, .slice ED E.done.length ed] := by cases es; simp_all
  obtain rfl : xs = #[.int .i64 x.worker, .slice Ah x.had.length ch] := by cases xs; simp_all
  exact handPicksLaw C CA CB ca cb E EA EB ED ea eb ed x.worker x.had Ah ch W ⟨g1, g2, oC.2.1⟩ ⟨h1, h2, h3⟩ q1
end Go.Proofs.Yteijgeofimcijaa
