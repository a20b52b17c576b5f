/- The law EventRuns. -/
import Derived.Test.YtgedkcglkhleoaaGreatDoorWorks39
import Derived.Test.YtgedkcglkhleoaaGreatDoorRef39C
import Derived.Test.YtgedkcglkhleoaaGreatDoorLong14
import Derived.Test.YtgedkcglkhleoaaGreatDoorLong39
import Derived.Test.YtgedkcglkhleoaaGreatDoorSame20
import Derived.Test.YtgedkcglkhleoaaGreatDoorBase
namespace Go.Proofs.YtgedkcglkhleoaaGreatDoor
open Go.RowKit

theorem jsOk_small {js : List JobS} (h : longJs js = false) : JsOk js ∧ Short24 js := by
  unfold longJs at h
  rw [Bool.or_eq_false_iff] at h
  have h1 := List.any_eq_false.1 h.1
  have key : ∀ J ∈ js, (∀ s ∈ J.needs, (s.size : Int) ≤ 300) ∧ (J.needs.length : Int) ≤ 20 := fun J hJ => long_no (by
    have := h1 J hJ
    unfold longJ at this
    simpa using this)
  refine ⟨fun J hJ => ⟨fun s hs => ?_, ?_⟩, fun J hJ s hs => ?_⟩
  · have := (key J hJ).1 s hs; omega
  · have := (key J hJ).2; omega
  · have := (key J hJ).1 s hs; omega
theorem workers_small {C : ConfS} (h : longC C = false) : C.workers.length ≤ 80 := by
  unfold longC at h
  rw [Bool.or_eq_false_iff] at h
  have := of_decide_eq_false h.2
  omega
set_option maxHeartbeats 4000000 in
set_option maxRecDepth 100000 in
theorem eventRunsLaw (C : ConfS) (CA CB : Option Addr) (ca cb : Nat) (js : List JobS) (JA0 : Option Addr) (jcap : Nat) (l : List EvS) (v : Value) (w : World) (hC : CAt w C CA CB ca cb) (hj : Kd.job.slice.K w Any js [.slice JA0 js.length jcap]) (hl : Kd.event.slice.K w Any l [v]) (hT : Tab w) :
    Calls Tryz.prog 4 #[.agg #[.int .i64 C.scheds, .int .i64 C.lease, .int .i64 C.again, .int .i64 C.room, .int .i64 C.out, .slice CA C.names.length ca, .slice CB C.workers.length cb, .slice JA0 js.length jcap], v] w fun e w' => e = .returned (.bool true) ∧ Below w.heap.size w w' := by
  obtain ⟨V, hV⟩ : ∃ V, V = w.alloc (.cells #[.int .i64 C.scheds, .int .i64 C.lease, .int .i64 C.again, .int .i64 C.room, .int .i64 C.out, .slice CA C.names.length ca, .slice CB C.workers.length cb, .slice JA0 js.length jcap] 28) := ⟨_, rfl⟩
  have hb0 : Below w.heap.size w V := by rw [hV]; exact bAlloc (Below.refl _ _) _
  have HBV := hid hb0
  have HZ := hid (show V.heap[w.heap.size]? = some (.cells #[.int .i64 C.scheds, .int .i64 C.lease, .int .i64 C.again, .int .i64 C.room, .int .i64 C.out, .slice CA C.names.length ca, .slice CB C.workers.length cb, .slice JA0 js.length jcap] 28 (0, 0)) by rw [hV]; exact heap_at rfl)
  have HWB := hid (fun (u : World) (h : Below V.heap.size V u) => (show ((u.cell? ⟨w.heap.size, 0, none⟩ = some (.int .i64 C.scheds) ∧ u.cell? ⟨w.heap.size, 1, none⟩ = some (.int .i64 C.lease) ∧ u.cell? ⟨w.heap.size, 2, none⟩ = some (.int .i64 C.again) ∧ u.cell? ⟨w.heap.size, 3, none⟩ = some (.int .i64 C.room) ∧ u.cell? ⟨w.heap.size, 4, none⟩ = some (.int .i64 C.out) ∧ u.cell? ⟨w.heap.size, 5, none⟩ = some (.slice CA C.names.length ca) ∧ u.cell? ⟨w.heap.size, 6, none⟩ = some (.slice CB C.workers.length cb)) ∧ u.cell? ⟨w.heap.size, 7, none⟩ = some (.slice JA0 js.length jcap)) from by
    obtain ⟨y0, _, _⟩ := cells_of_block ((h.block (w.heap.size) (Array.getElem?_eq_some_iff.1 HZ.out).1).trans HZ.out)
    exact ⟨⟨y0 0 _ rfl, y0 1 _ rfl, y0 2 _ rfl, y0 3 _ rfl, y0 4 _ rfl, y0 5 _ rfl, y0 6 _ rfl⟩, y0 7 _ rfl⟩))
  have HC := hid (hC.below hb0)
  have HJ := hid (Kd.below hj hb0)
  have HL := hid (Kd.below hl hb0)
  have HTV := hid (hT.below hb0)
  have hEq := hV.symm
  obtain ⟨jn, hjn⟩ : ∃ n, n = js.length := ⟨_, rfl⟩
  rw [← hjn] at HJ HWB hEq ⊢
  obtain ⟨A, c, he, _, _, _⟩ := hl
  injection he with he _
  subst he
  obtain ⟨q, hq⟩ : ∃ q, q = l.length := ⟨_, rfl⟩
  have HQ := hid hq
  rw [← hq] at HL ⊢
  obtain ⟨⟨x0, x1, x2, x3, x4, x5, x6⟩, x7⟩ := HWB.out V (Below.refl _ _)
  clear hV hC hj hb0 hT hq hjn HZ
  go_enter Tryz.func4, Tryz.ntmps4
  go_wp2_with fail
  refine (rlong14_calls C CA CB ca cb V HC.out.names).mono ?_
  rintro e w1 ⟨rfl, hb1⟩
  have HB1 := hid hb1
  obtain ⟨lc, hlc⟩ : ∃ b, longC C = b := ⟨_, rfl⟩
  have HLC := hid hlc
  rw [hlc]
  clear hb1 hlc x0 x1 x2 x3 x4 x5 x6 x7 hEq
  obtain ⟨⟨x0, x1, x2, x3, x4, x5, x6⟩, x7⟩ := HWB.out w1 HB1.out
  cases lc
  case true =>
    go_wp2_with fail
    refine (works39_calls _ (HTV.out.below HB1.out)).mono ?_
    rintro e w2 ⟨rfl, hb2⟩
    go_wp2
    go_ret
    exact ⟨rfl, bThen HBV.out (bThen HB1.out hb2)⟩
  go_wp2_with fail
  refine (rlong39_calls js _ w1 (Kd.below HJ.out HB1.out)).mono ?_
  rintro e w2 ⟨rfl, rfl⟩
  obtain ⟨lj, hlj⟩ : ∃ b, longJs js = b := ⟨_, rfl⟩
  have HLJ := hid hlj
  rw [hlj]
  clear hlj
  cases lj
  case true =>
    go_wp2_with fail
    refine (works39_calls _ (HTV.out.below HB1.out)).mono ?_
    rintro e w2 ⟨rfl, hb2⟩
    go_wp2
    go_ret
    exact ⟨rfl, bThen HBV.out (bThen HB1.out hb2)⟩
  by_cases h60 : 60 < q
  case pos =>
    have hI : (60 : Int) < (q : Int) := by omega
    go_wp2_with fail
    refine (works39_calls _ (HTV.out.below HB1.out)).mono ?_
    rintro e w2 ⟨rfl, hb2⟩
    go_wp2
    go_ret
    exact ⟨rfl, bThen HBV.out (bThen HB1.out hb2)⟩
  have hI : ¬ (60 : Int) < (q : Int) := by omega
  have HN := hid (show l.length ≤ 1000 by rw [← HQ.out]; omega)
  have HSM := hid (jsOk_small HLJ.out)
  have HWS := hid (show C.workers.length ≤ 1000000 by have := workers_small HLC.out; omega)
  obtain ⟨s, n, hrn⟩ : ∃ s n, evRun C js [] l = (s, n) := ⟨_, _, rfl⟩
  have HRN := hid hrn
  have hnn : ((n : Int) == (n : Int)) = true := beq_self_eq_true _
  clear hrn h60
  go_wp2_with fail
  refine (erun_calls C CA CB ca cb js JA0 jn jcap l _ w1 (HC.out.below HB1.out) (Kd.below HJ.out HB1.out) (Kd.below HL.out HB1.out) HSM.out.1 HN.out).mono ?_
  rintro e w2 ⟨o, rfl, hO, hb2⟩
  rw [HRN.out] at hO ⊢
  dsimp only at hO ⊢
  have HO := hid hO
  have HB2 := hid (bThen HB1.out hb2)
  clear hO hb2 x0 x1 x2 x3 x4 x5 x6 x7
  obtain ⟨⟨x0, x1, x2, x3, x4, x5, x6⟩, x7⟩ := HWB.out w2 HB2.out
  go_wp2_with fail
  refine (rrun39_calls C CA CB ca cb js JA0 jn jcap l _ w2 (HC.out.below HB2.out) (Kd.below HJ.out HB2.out) (Kd.below HL.out HB2.out) HSM.out.1 HSM.out.2 HWS.out HN.out).mono ?_
  rintro e w3 ⟨o2, rfl, hO2, hb3⟩
  rw [HRN.out] at hO2 ⊢
  dsimp only at hO2 ⊢
  have HO2 := hid hO2
  have HO1 := hid (Kd.below HO.out hb3)
  have HB3 := hid (bThen HB2.out hb3)
  clear hO2 hb3 x0 x1 x2 x3 x4 x5 x6 x7 HO
  go_wp2_with fail
  refine (same20_calls s _ _ w3 HO1.out HO2.out).mono ?_
  rintro e w4 ⟨rfl, hb4⟩
  have HB4 := hid (bThen HB3.out hb4)
  clear hb4
  go_wp2_with fail
  refine (works39_calls _ (HTV.out.below HB4.out)).mono ?_
  rintro e w5 ⟨rfl, hb5⟩
  go_wp2
  go_ret
  exact ⟨rfl, bThen HBV.out (bThen HB4.out hb5)⟩
end Go.Proofs.YtgedkcglkhleoaaGreatDoor
