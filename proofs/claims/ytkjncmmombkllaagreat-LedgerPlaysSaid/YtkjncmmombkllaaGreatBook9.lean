/- book.Fold. -/
import Derived.Test.YtkjncmmombkllaaGreatBook8
import Derived.Test.YtkjncmmombkllaaGreatBase
namespace Go.Proofs.YtkjncmmombkllaaGreat
open Go.RowKit

theorem foldB_step {l : List RecS} {b : List EntryS} {k : Nat} {x : RecS} (hx : l[k]? = some x) (h : whyB b x = 0) : foldB (l.drop k) b k = foldB (l.drop (k + 1)) (nextB b x) (k + 1) := by
  obtain ⟨hk, he⟩ := List.getElem?_eq_some_iff.1 hx
  rw [List.drop_eq_getElem_cons hk, he, foldB, if_neg (fun h2 => h2 h)]
theorem foldB_stop {l : List RecS} {b : List EntryS} {k : Nat} {x : RecS} (hx : l[k]? = some x) (h : whyB b x ≠ 0) : foldB (l.drop k) b k = (b, k) := by
  obtain ⟨hk, he⟩ := List.getElem?_eq_some_iff.1 hx
  rw [List.drop_eq_getElem_cons hk, he, foldB, if_pos h]
theorem recK_needs {w : World} {S : Nat → Prop} {x : RecS} {A : Option Addr} {n c : Nat} (h : Kd.str.slice.K w S x.needs [.slice A n c]) : n = x.needs.length := by
  obtain ⟨A', c', he, _⟩ := h
  injection he with h
  injection h with _ h _
set_option maxHeartbeats 4000000 in
set_option maxRecDepth 100000 in
theorem bfold_calls (l : List RecS) (v : Value) (w : World) (hl : Kd.recK.slice.K w Any l [v]) :
    Calls Tryz.prog 29 #[v] w fun e w' => ∃ o, e = .returned (.tuple #[o, .int .i64 (foldB l [] 0).2]) ∧ Kd.entry.slice.K w' (fun k => w.heap.size ≤ k) (foldB l [] 0).1 [o] ∧ Below w.heap.size w w' := by
  obtain ⟨A, c, he, hc, hm, hr⟩ := hl
  cases he
  have HR := hid hr
  obtain ⟨q, hq⟩ : ∃ q, q = l.length := ⟨_, rfl⟩
  have HQ := hid hq
  rw [← hq] at hc hm ⊢
  obtain ⟨R, hR⟩ : ∃ R, R = foldB l [] 0 := ⟨_, rfl⟩
  have HRR := hid hR
  rw [← hR]
  clear hr hq hR
  go_enter Tryz.func29, Tryz.ntmps29
  go_wp2
  go_loopw [4, 11] (fun o i wr => ∃ (k : Nat) (b : List EntryS), k ≤ q ∧ i = .int .i64 k ∧ Hid (Kd.entry.slice.K wr (fun j => w.heap.size ≤ j) b [o]) ∧ Hid (R = foldB (l.drop k) b k) ∧ Hid (BOk b) ∧ Hid (Below w.heap.size w wr)) (fun _ i _ => q - (intOf i).toNat)
  case atStart => exact ⟨0, [], by omega, rfl, hid (nilKE _ _), HRR, hid BOk.nil, hid (Below.refl _ _)⟩
  case round =>
    obtain ⟨k, b, hk, rfl, HK, HF, HO, HB⟩ := hrel
    obtain ⟨Ab, cb, he, _, _, _⟩ := HK.out
    injection he with he _
    subst he
    by_cases hlt : k < q
    · obtain ⟨a, x, B1, m1, d1, rfl, hx, y0, y1, y2, y3, y4, y5, y6, hKx⟩ := at_rec (HR.out.below HB.out) k (by rw [← HQ.out]; exact hlt)
      have hml := recK_needs hKx
      subst hml
      have HX := hid hx
      have hltI : (k : Int) < (q : Int) := by omega
      have hk0 : (0 : Int) ≤ (k : Int) := by omega
      have hw : IntKind.i64.wrap ((k : Int) + 1) = (k : Int) + 1 := IntWalk.i64_in _ (by omega)
      obtain ⟨Wa, hWa⟩ : ∃ Wa, Wa = wr.alloc (.cells #[.int .i64 x.kind, .int .i64 x.job, .int .i64 x.task, .int .i64 x.worker, .int .i64 x.sched, .int .i64 x.epoch, .slice B1 x.needs.length d1] 46) := ⟨_, rfl⟩
      have HBa := hid (show Below wr.heap.size wr Wa by rw [hWa]; exact bAlloc (Below.refl _ _) _)
      obtain ⟨z0, z1, z2, z3, z4, z5, z6⟩ := rec_cells (show Wa.heap[wr.heap.size]? = some (.cells #[.int .i64 x.kind, .int .i64 x.job, .int .i64 x.task, .int .i64 x.worker, .int .i64 x.sched, .int .i64 x.epoch, .slice B1 x.needs.length d1] 46 (0, 0)) by rw [hWa]; exact heap_at rfl)
      have HKX := hid (Kd.below hKx HBa.out)
      have HKb := hid (Kd.any (Kd.below HK.out HBa.out))
      have HBW := hid (bThen HB.out HBa.out)
      have hEq := hWa.symm
      clear hx hKx hWa
      go_wp2_with fail
      refine (bstep_calls b _ x B1 d1 Wa HKb.out HKX.out HO.out).mono ?_
      rintro e w1 ⟨o1, rfl, hK1, hb1⟩
      have HK1 := hid (Kd.entry.slice.mono (S' := fun j => w.heap.size ≤ j) (fun j (h : Wa.heap.size ≤ j) _ => Nat.le_trans HBW.out.size h) hK1)
      have HB1 := hid (bThen HBW.out hb1)
      have HKB2 := hid (Kd.below (Kd.below HK.out HBa.out) hb1)
      clear hK1 hb1 hEq y0 y1 y2 y3 y4 y5 y6 z0 z1 z2 z3 z4 z5 z6
      obtain ⟨wy, hwy⟩ : ∃ wy, wy = whyB b x := ⟨_, rfl⟩
      have HWY := hid hwy
      rw [← hwy]
      clear hwy
      by_cases h0 : wy = 0
      case neg =>
        have hne : (wy != 0) = true := by rw [bne_iff_ne]; exact h0
        have HE := hid (HF.out.trans (foldB_stop HX.out (by rw [← HWY.out]; exact h0)))
        go_wp2
        go_ret2
        rw [HE.out]
        exact ⟨_, rfl, HKB2.out, HB1.out⟩
      subst h0
      have HE := hid (HF.out.trans (foldB_step HX.out HWY.out.symm))
      obtain ⟨A1, c1', he, _, _, _⟩ := HK1.out
      injection he with he _
      subst he
      go_wp2
      go_roundw
      case rel => exact ⟨k + 1, _, by omega, by go_num, HK1, HE, hid (nextB_ok HO.out), HB1⟩
      case measure => simp [intOf]; omega
    · obtain rfl : k = q := by omega
      have HE := hid (HF.out.trans (by rw [List.drop_eq_nil_of_le (by rw [HQ.out]; exact Nat.le_refl _)]; rfl : foldB (l.drop k) b k = (b, k)))
      go_wp2
      go_ret2
      rw [HE.out]
      exact ⟨_, rfl, HK.out, HB.out⟩
end Go.Proofs.YtkjncmmombkllaaGreat
