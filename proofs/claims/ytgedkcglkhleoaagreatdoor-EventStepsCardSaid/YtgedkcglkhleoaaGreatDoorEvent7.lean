/- event.Run. -/
import Derived.Test.YtgedkcglkhleoaaGreatDoorEvent6
import Derived.Test.YtgedkcglkhleoaaGreatDoorBase
namespace Go.Proofs.YtgedkcglkhleoaaGreatDoor
open Go.RowKit

def Kd.event : Kd EvS := Kd.flat 4 (fun x => [.int .i64 x.kind, .int .i64 x.job, .int .i64 x.task, .int .i64 x.worker]) (fun _ => rfl) (fun x u hu => by simp at hu; rcases hu with rfl | rfl | rfl | rfl <;> rfl)
theorem Kd.Row.at_event {w : World} {S : Nat → Prop} {A : Option Addr} {xs : List EvS} (h : Kd.event.Row w S A xs) (i : Nat) (hi : i < xs.length) :
    ∃ a x, A = some a ∧ xs[i]? = some x ∧ w.cell? (a.add (i * 4)) = some (.int .i64 x.kind) ∧ w.cell? ⟨(a.add (i * 4)).block, (a.add (i * 4)).off + 1, none⟩ = some (.int .i64 x.job) ∧ w.cell? ⟨(a.add (i * 4)).block, (a.add (i * 4)).off + 2, none⟩ = some (.int .i64 x.task) ∧ w.cell? ⟨(a.add (i * 4)).block, (a.add (i * 4)).off + 3, none⟩ = some (.int .i64 x.worker) := by
  obtain ⟨a, cs, h1, _, _, h4, h5⟩ := h i xs[i] (List.getElem?_eq_getElem hi)
  cases h4
  have key : ∀ (j : Nat) (u : Value), 0 < j → ([.int .i64 xs[i].kind, .int .i64 xs[i].job, .int .i64 xs[i].task, .int .i64 xs[i].worker] : List Value)[j]? = some u → w.cell? ⟨(a.add (i * 4)).block, (a.add (i * 4)).off + j, none⟩ = some u := by
    intro j u hj hu
    have := h5 j u hu
    rwa [show i * Kd.event.sz + j = i * 4 + j from rfl, ← Kd.add_add, Kd.add_lit (a.add (i * 4)) j hj] at this
  exact ⟨a, xs[i], h1, List.getElem?_eq_getElem hi, h5 0 _ rfl, key 1 _ (by decide) rfl, key 2 _ (by decide) rfl, key 3 _ (by decide) rfl⟩
set_option maxHeartbeats 4000000 in
set_option maxRecDepth 100000 in
theorem erun_calls (C : ConfS) (CA CB : Option Addr) (ca cb : Nat) (js : List JobS) (JA0 : Option Addr) (jn jcap : Nat) (l : List EvS) (v : Value) (w : World) (hC : CAt w C CA CB ca cb) (hj : Kd.job.slice.K w Any js [.slice JA0 jn jcap]) (hl : Kd.event.slice.K w Any l [v]) (hjs : JsOk js) (hn : l.length ≤ 1000) :
    Calls Tryz.prog 17 #[.agg #[.int .i64 C.scheds, .int .i64 C.lease, .int .i64 C.again, .int .i64 C.room, .int .i64 C.out, .slice CA C.names.length ca, .slice CB C.workers.length cb], .slice JA0 jn jcap, v] w fun e w' => ∃ o, e = .returned (.tuple #[o, .int .i64 ((evRun C js [] l).2 : Nat)]) ∧ Kd.entry.slice.K w' Any (evRun C js [] l).1 [o] ∧ Below w.heap.size w w' := by
  obtain ⟨V, hV⟩ : ∃ V, V = w.alloc (.cells #[.int .i64 C.scheds, .int .i64 C.lease, .int .i64 C.again, .int .i64 C.room, .int .i64 C.out, .slice CA C.names.length ca, .slice CB C.workers.length cb] 25) := ⟨_, rfl⟩
  have hb0 : Below w.heap.size w V := by rw [hV]; exact bAlloc (Below.refl _ _) _
  have HBV := hid hb0
  have HBC := hid (boxC_of (b := w.heap.size) (by rw [hV]; exact heap_at rfl) (hC.below hb0))
  have HJ := hid (Kd.below hj hb0)
  have HLV := hid (Kd.below hl hb0)
  have HJS := hid hjs
  have HV := hid hV
  obtain ⟨A, c, he, hcc, hm, _⟩ := hl
  cases he
  have HR := hid (K_row HLV.out).1
  obtain ⟨q, hq⟩ : ∃ q, l.length = q := ⟨_, rfl⟩
  have HQ := hid hq
  rw [hq] at hcc hm hn ⊢
  have HN := hid hn
  have hEq := hV.symm
  clear hV hC hj hb0 hq hjs HLV
  go_enter Tryz.func17, Tryz.ntmps17
  go_wp2
  go_loopw [8, 15] (fun sv i wr => ∃ (k : Nat) (s : List EntryS), k ≤ q ∧ i = .int .i64 k ∧ Hid (evTo C js l k s) ∧ Hid (EvGood k s) ∧ Hid (Kd.entry.slice.K wr Any s [sv]) ∧ Hid (Below V.heap.size V wr)) (fun _ i _ => q - (intOf i).toNat)
  case atStart => exact ⟨0, [], by omega, rfl, hid (evTo_zero C js l), hid evGood_nil, hid ⟨none, 0, rfl, Nat.le_refl _, by decide, Kd.Row.nil⟩, hid (Below.refl _ _)⟩
  case round =>
    obtain ⟨k, s, hk, rfl, HT, HG, HS, HB⟩ := hrel
    by_cases hlt : k < q
    · obtain ⟨a, x, rfl, hx, r0, r1, r2, r3⟩ := (HR.out.below HB.out).at_event k (by rw [HQ.out]; exact hlt)
      have HX := hid hx
      have hltI : (k : Int) < (q : Int) := by omega
      have hk0 : (0 : Int) ≤ (k : Int) := by omega
      obtain ⟨c0, c1, c2, c3, c4, c5, c6⟩ := (HBC.out.below HB.out).1
      obtain ⟨kd, id, t, wk⟩ := x
      obtain ⟨Wa, hWa⟩ : ∃ Wa, Wa = wr.alloc (.cells #[.int .i64 kd, .int .i64 id, .int .i64 t, .int .i64 wk] 31) := ⟨_, rfl⟩
      have HBa := hid (show Below wr.heap.size wr Wa by rw [hWa]; exact bAlloc (Below.refl _ _) _)
      obtain ⟨y1, _, _⟩ := cells_of_block (show Wa.heap[wr.heap.size]? = some (.cells #[.int .i64 kd, .int .i64 id, .int .i64 t, .int .i64 wk] 31 (0, 0)) by rw [hWa]; exact heap_at rfl)
      have z0 := y1 0 _ rfl
      have z1 := y1 1 _ rfl
      have z2 := y1 2 _ rfl
      have z3 := y1 3 _ rfl
      have U1 := hid (bThen HB.out HBa.out)
      obtain ⟨d0, d1, d2, d3, d4, d5, d6⟩ := (HBC.out.below U1.out).1
      have hEqa := hWa.symm
      clear hx y1 hWa
      go_wp2_with fail
      refine (estep_calls C CA CB ca cb js JA0 jn jcap s _ kd id t wk Wa (HBC.out.below U1.out).2.1 (Kd.below HJ.out U1.out) (Kd.below HS.out HBa.out) (HG.out.ok (by have := HN.out; omega)) HJS.out).mono ?_
      rintro e w1 ⟨o, rfl, hO, _, hb1⟩
      have HO := hid hO
      have U2 := hid (bThen U1.out hb1)
      have HS2 := hid (Kd.below (Kd.below HS.out HBa.out) hb1)
      clear hO hb1 z0 z1 z2 z3 d0 d1 d2 d3 d4 d5 d6 c0 c1 c2 c3 c4 c5 c6 r0 r1 r2 r3
      cases hst : evStep C js s ⟨kd, id, t, wk⟩ with
      | none =>
        have HF := hid (evTo_stop HT.out HX.out hst)
        clear hst
        go_wp2
        go_ret2
        rw [HF.out]
        exact ⟨_, rfl, HS2.out, bThen HBV.out U2.out⟩
      | some s' =>
        have HT2 := hid (evTo_step HT.out HX.out hst)
        have HG2 := hid (evGood_step HJS.out HG.out hst)
        have HO2 := hid (show Kd.entry.slice.K w1 Any s' [o] from by have h := HO.out; rw [hst] at h; exact h)
        clear hst HO
        go_wp2
        go_roundw
        case rel => exact ⟨k + 1, s', by omega, by go_num, HT2, HG2, HO2, U2⟩
        case measure => simp [intOf]; omega
    · obtain rfl : k = q := by omega
      have HF := hid (show evRun C js [] l = (s, k) by rw [evTo_end (s := s) (by rw [HQ.out]; exact HT.out), HQ.out])
      go_wp2
      go_ret2
      rw [HF.out]
      exact ⟨_, rfl, HS.out, bThen HBV.out HB.out⟩
end Go.Proofs.YtgedkcglkhleoaaGreatDoor
