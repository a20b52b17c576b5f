/- The law NetPlays. -/
import Derived.Test.YtlckkcefkiffjaaTwo28
import Derived.Deep.RegionHeld3
import Derived.Deep.DeepCutAuto
import Derived.Outline
namespace Go.Proofs.Ytlckkcefkiffjaa
open Go.RowKit

theorem longB_no {l : List ByteArray} (h : longB l 20 100 = false) : ∀ s ∈ l, s.size ≤ 1000 := by
  intro s hs
  unfold longB at h
  rw [Bool.or_eq_false_iff] at h
  have := List.any_eq_false.1 h.1 s hs
  simp at this
  omega

set_option maxHeartbeats 6400000 in
set_option maxRecDepth 100000 in
theorem netPlays_calls (most : Int) (l : List A28) (v : Value) (w : World) (hl : Kd.act28.slice.K w Any l [v]) (hok : ∀ y ∈ l, okA28 y) :
    Calls Try.prog 12 #[.int .i64 most, v] w fun e w' => e = .returned (.bool true) ∧ Below w.heap.size w w' := by
  obtain ⟨A, c, he, hc, hm, hr⟩ := hl
  cases he
  obtain ⟨q, hq⟩ : ∃ q, l.length = q := ⟨_, rfl⟩
  have HQ := hid hq
  have HR := hid hr
  have HOKL := hid hok
  rw [hq] at hc hm ⊢
  clear hr hq hok
  by_cases hmost : most < 1 ∨ 1024 < most
  · have HBE := hid (show Below w.heap.size w (w.alloc (.cells #[.slice none 0 0, .int .i64 most] 86)) from bAlloc (Below.refl _ _) _)
    by_cases hm1 : most < 1
    · have hm3 : ¬ 1 ≤ most := by omega
      clear hmost
      go_enter Try.func12, Try.ntmps12
      go_wp2_with fail
      refine (netNew_no most _ (.inl hm1)).mono ?_
      rintro e w1 ⟨rfl, rfl⟩
      go_wp2_with fail
      go_loopw [8] (fun i wr => i = .int .i64 0 ∧ wr = w.alloc (.cells #[.slice none 0 0, .int .i64 most] 86)) (fun i _ => 0)
      case atStart => exact ⟨rfl, rfl⟩
      case round =>
        obtain ⟨rfl, rfl⟩ := hrel
        go_wp2_with fail
        refine (netTake_nil 0 _).mono ?_
        rintro e wz ⟨rfl, hbz⟩
        have Z1 := hid (bThen HBE.out hbz)
        clear hbz
        go_wp2_with fail
        refine (netSend_nil _ _ _ _).mono ?_
        rintro e wy ⟨rfl, rfl⟩
        go_wp2_with fail
        refine (netLen_nil _).mono ?_
        rintro e wy ⟨rfl, rfl⟩
        go_wp2_with fail
        refine (netList_nil _).mono ?_
        rintro e wy ⟨rfl, rfl⟩
        go_wp2_with fail
        refine (netTwice_nil _ _).mono ?_
        rintro e wy ⟨rfl, rfl⟩
        go_wp2_with fail
        refine (netTurn_nil _ _ _ _).mono ?_
        rintro e wy ⟨rfl, rfl⟩
        go_wp2_with fail
        refine (netClone_nil _).mono ?_
        rintro e wy ⟨rfl, rfl⟩
        go_wp2_with fail
        refine (works28_calls _).mono ?_
        rintro e wy ⟨rfl, hby⟩
        go_wp2
        go_ret
        exact ⟨rfl, bThen (bAlloc (bAlloc Z1.out _) _) hby⟩
    · have hm2 : ¬ most ≤ 1024 := by omega
      have hm3 : 1 ≤ most := by omega
      clear hmost
      go_enter Try.func12, Try.ntmps12
      go_wp2_with fail
      refine (netNew_no most _ (.inr (by omega))).mono ?_
      rintro e w1 ⟨rfl, rfl⟩
      go_wp2_with fail
      go_loopw [8] (fun i wr => i = .int .i64 0 ∧ wr = w.alloc (.cells #[.slice none 0 0, .int .i64 most] 86)) (fun i _ => 0)
      case atStart => exact ⟨rfl, rfl⟩
      case round =>
        obtain ⟨rfl, rfl⟩ := hrel
        go_wp2_with fail
        refine (netTake_nil 0 _).mono ?_
        rintro e wz ⟨rfl, hbz⟩
        have Z1 := hid (bThen HBE.out hbz)
        clear hbz
        go_wp2_with fail
        refine (netSend_nil _ _ _ _).mono ?_
        rintro e wy ⟨rfl, rfl⟩
        go_wp2_with fail
        refine (netLen_nil _).mono ?_
        rintro e wy ⟨rfl, rfl⟩
        go_wp2_with fail
        refine (netList_nil _).mono ?_
        rintro e wy ⟨rfl, rfl⟩
        go_wp2_with fail
        refine (netTwice_nil _ _).mono ?_
        rintro e wy ⟨rfl, rfl⟩
        go_wp2_with fail
        refine (netTurn_nil _ _ _ _).mono ?_
        rintro e wy ⟨rfl, rfl⟩
        go_wp2_with fail
        refine (netClone_nil _).mono ?_
        rintro e wy ⟨rfl, rfl⟩
        go_wp2_with fail
        refine (works28_calls _).mono ?_
        rintro e wy ⟨rfl, hby⟩
        go_wp2
        go_ret
        exact ⟨rfl, bThen (bAlloc (bAlloc Z1.out _) _) hby⟩
  · have hm1 : 1 ≤ most := by omega
    have hm2 : most ≤ 1024 := by omega
    have hm3 : ¬ most < 1 := by omega
    have hm4 : ¬ 1024 < most := by omega
    clear hmost
    go_enter Try.func12, Try.ntmps12
    go_wp2_with fail
    refine (netNew_yes most _ hm1 hm2).mono ?_
    rintro e w1 ⟨rfl, hN1, hb1⟩
    obtain ⟨W0, hW0⟩ : ∃ W0, W0 = w1.alloc (.cells #[.slice none 0 0, .int .i64 most] 86) := ⟨_, rfl⟩
    have hp1 : w.heap.size < w1.heap.size := hN1.cells.2.2.1
    have HB0 := hid (show Below w.heap.size w W0 by rw [hW0]; exact bAlloc hb1 _)
    have HT0 := hid (show Two W0 w.heap.size w.heap.size w1.heap.size ⟨[], most⟩ by
      rw [hW0]
      refine ⟨fun k => w.heap.size ≤ k ∧ k < w1.heap.size, fun k => k = w1.heap.size, fun k h1 h2 => by omega, fun k h => ⟨h.1, by simp; omega⟩, fun k h => ⟨by omega, by simp; omega⟩, hN1.narrow.below (bAlloc (Below.refl _ _) _), rfl, none, 0, heap_at rfl, by simp, by simp, Kd.Row.nil⟩)
    have HN0 := hid (show NOK ⟨[], most⟩ from ⟨⟨by simp; omega, hm1, hm2⟩, fun x hx => by cases hx⟩)
    have hr1 : w.heap.size ≤ w1.heap.size := by omega
    have HW0 := hid hW0
    clear hN1 hb1
    go_wp2_with fail
    rw [← HW0.out]
    clear hW0
    go_loopw [5, 8] (fun d i wr => ∃ (k p : Nat) (N : NetS), k ≤ q ∧ k ≤ 60 ∧ d = .pointer (some ⟨p, 0, none⟩) ∧ i = .int .i64 k ∧ Hid (Two wr w.heap.size p w1.heap.size N) ∧ Hid (NOK N) ∧ Hid (Below w.heap.size w wr)) (fun _ i _ => q - (intOf i).toNat)
    case atStart => exact ⟨0, w.heap.size, ⟨[], most⟩, by omega, by omega, rfl, rfl, HT0, HN0, HB0⟩
    case round =>
      obtain ⟨k, p, N, hkq, hk60, rfl, rfl, HT, HN, HB⟩ := hrel
      have HBE := HB
      by_cases hlt : k < q
      · have hltI : (k : Int) < (q : Int) := by omega
        by_cases hl60 : k < 60
        · have hl60I : (k : Int) < 60 := by omega
          obtain ⟨a, x, B, cb, rfl, hx, c0, c1, c2, c3, c4, hrb⟩ := at_act28 HR.out k (by rw [HQ.out]; omega)
          have HX := hid (HOKL.out x (List.mem_of_getElem? hx))
          have HRB := hid (Kd.str.slice.mono (S' := fun b => b < w.heap.size) (fun b _ h => h) hrb)
          obtain ⟨nb, hnb⟩ : ∃ nb, x.s.length = nb := ⟨_, rfl⟩
          rw [hnb] at c4 HRB
          have t0 := cell_keep HB.out c0
          have t1 := cell_keep HB.out c1
          have t2 := cell_keep HB.out c2
          have t3 := cell_keep HB.out c3
          have t4 := cell_keep HB.out c4
          have hbs := HB.out.size
          have hk0 : (0 : Int) ≤ (k : Int) := by omega
          obtain ⟨W1, hW1⟩ : ∃ W1, W1 = wr.alloc (.cells #[.int .i64 x.op, .int .i64 x.k, .int .i64 x.at_, .int .u32 x.bt, .slice B nb cb] 89) := ⟨_, rfl⟩
          have HW1 := hid hW1
          have HL1 := hid (show Kd.str.slice.K W1 Any x.s [.slice B nb cb] by rw [hW1]; exact Kd.any (Kd.below (Kd.below HRB.out HB.out) (bAlloc (Below.refl _ _) _)))
          clear hx hrb c0 c1 c2 c3 c4 hnb hW1
          go_wp2_with fail
          rw [← HW1.out]
          refine (long_calls x.s 20 100 _ _ HL1.out).mono ?_
          rintro e w2 ⟨rfl, rfl⟩
          cases hlong : longB x.s 20 100
          case true =>
            go_wp2
            go_roundw
            case rel => exact ⟨k + 1, p, N, by omega, by omega, rfl, by go_num, hid (HT.out.below (by rw [HW1.out]; exact bAlloc (Below.refl _ _) _)), HN, hid (by rw [HW1.out]; exact bAlloc HB.out _)⟩
            case measure => simp [intOf]; omega
          case false =>
            have HSZ := hid (longB_no hlong)
            have HB1 := hid (show Below w.heap.size w W1 by rw [HW1.out]; exact bAlloc HB.out _)
            have hga : W1.heap[wr.heap.size]? = some (.cells #[.int .i64 x.op, .int .i64 x.k, .int .i64 x.at_, .int .u32 x.bt, .slice B nb cb] 89 (0, 0)) := by rw [HW1.out]; exact heap_at rfl
            obtain ⟨T, S, hd0, hT0, hS0, hNp, hRp⟩ := HT.out
            have HDJ := hid hd0
            have HNK := hid (show N.ok from HN.out.1)
            have HTB := hid hT0
            have HSB := hid hS0
            have HNP : Hid (NetAt W1 T p N) := by rw [HW1.out]; exact hNp.below (bAlloc (Below.refl _ _) _)
            have HRP : Hid (RNet W1 S w1.heap.size N) := by rw [HW1.out]; exact hRp.below (bAlloc (Below.refl _ _) _)
            have hw1s : wr.heap.size < W1.heap.size := (Array.getElem?_eq_some_iff.1 hga).1
            have HTW := hid (show ∀ k, T k → w.heap.size ≤ k ∧ k < W1.heap.size from fun k h => by have := HTB.out k h; omega)
            have HSW := hid (show ∀ k, S k → w.heap.size ≤ k ∧ k < W1.heap.size from fun k h => by have := HSB.out k h; omega)
            have HGA := hid hga
            have y1 := (cells_of_block hga).1
            have x0 := y1 0 _ rfl
            have x1 := y1 1 _ rfl
            have x2 := y1 2 _ rfl
            have x3 := y1 3 _ rfl
            have x4 := y1 4 _ rfl
            have HC3 := hid (fun (u : World) (hu : u.heap[wr.heap.size]? = W1.heap[wr.heap.size]?) => (show ∀ bt : Nat, x.bt = bt → u.cell? ⟨wr.heap.size, 1, none⟩ = some (.int .i64 x.k) ∧ u.cell? ⟨wr.heap.size, 2, none⟩ = some (.int .i64 x.at_) ∧ u.cell? ⟨wr.heap.size, 3, none⟩ = some (.int .u32 bt) from fun bt hb => by
              obtain ⟨z0, _, _⟩ := cells_of_block (hu.trans hga)
              rw [← hb]
              exact ⟨z0 1 _ rfl, z0 2 _ rfl, z0 3 _ rfl⟩))
            have hTg : Hid (¬ T wr.heap.size) := fun h => by have := HTB.out _ h; omega
            have hSg : Hid (¬ S wr.heap.size) := fun h => by have := HSB.out _ h; omega
            have hW1s := HB1.out.size
            clear y1 t0 t1 t2 t3 t4 hga hd0 hT0 hS0 hNp hRp
            go_upto_if 57 with fail
            go_cut [5, 10, 11, 12, 13, 14, 15, 16] from 35 to 128 (fun d e f _ _ _ _ _ wx => ∃ (z : Int) (p' : Nat) (N' : NetS), d = .pointer (some ⟨p', 0, none⟩) ∧ e = .int .i64 z ∧ f = .int .i64 z ∧ Hid (Two wx w.heap.size p' w1.heap.size N') ∧ Hid (NOK N') ∧ Hid (Below w.heap.size w wx))
            case first =>
              by_cases hop : x.op = 0
              · rw [hop] at x0
                have hKx : ∀ W, Below w.heap.size w W → ∀ T' : Nat → Prop, (∀ k, T' k → w.heap.size ≤ k) → Kd.str.slice.K W (fun k => ¬ T' k) x.s [.slice B nb cb] := fun W hW T' hT' =>
                  Kd.str.slice.mono (fun b hb _ h => by have := hT' b h; omega) (Kd.below HRB.out hW)
                have HKX := hid hKx
                clear hKx x1 x2 x3
                go_wp2_with fail
                go_region_held3 (fun w' => w'.cell? ⟨wr.heap.size, 4, none⟩ = some (.slice B nb cb)) (first | exact x4 | exact x5 | exact x6 | fail) (first
                  | ((with_reducible refine (netSend_calls T p N 1 2 x.s _ _ (HNP.out.below (Below.refl _ _).drew) (HKX.out _ HB1.out.drew _ (fun k h => (HTW.out k h).1))).mono ?_); rintro e wa ⟨rfl, hNa, hMa⟩; have x5 := (cells_of_block ((hMa.block wr.heap.size hw1s hTg.out).trans HGA.out)).1 4 _ rfl; have HRm := hid (two_mid HDJ.out (HRP.out.below (Below.refl _ _).drew) hMa); have hba := HB1.out.drew.trans (hMa.below (fun k _ h => (HTW.out k h).1) hW1s); have HBA := hid hba; have HNa := hid hNa; have HMa := hid hMa; have hsa := hMa.size; clear hNa hMa hba)
                  | ((with_reducible refine (rSend_calls S w1.heap.size N 1 2 x.s _ wa HRm.out HNK.out (HKX.out _ HBA.out _ (fun k h => (HSW.out k h).1))).mono ?_); rintro e wb ⟨rfl, hRb, hMb⟩; have x6 := (cells_of_block ((hMb.block wr.heap.size (Nat.lt_of_lt_of_le hw1s hsa) hSg.out).trans ((HMa.out.block wr.heap.size hw1s hTg.out).trans HGA.out))).1 4 _ rfl; have HRb := hid hRb; have HMb := hid hMb; clear hRb hMb)
                  | fail)
                go_wp2_with fail
                go_meet
                have hst := two_step (B := w.heap.size) HDJ.out HTW.out HSW.out hW1s HNa.out HMa.out.of_drew HRb.out HMb.out
                exact ⟨_, p, _, rfl, rfl, rfl, hst.1, HN.out.send 1 2 x.s HSZ.out, HB1.out.trans hst.2⟩
              · have e0 : (x.op == (0 : Int)) = false := by simp [hop]
                by_cases hop1 : x.op = 1
                · rw [hop1] at x0
                  clear x2 x3 x4 e0
                  obtain ⟨th, hth⟩ : ∃ th, th = (N.takeS x.k).1 := ⟨_, rfl⟩
                  obtain ⟨cd, hcd⟩ : ∃ cd, cd = (N.takeS x.k).2.1 := ⟨_, rfl⟩
                  have HTH := hid hth
                  have HCD := hid hcd
                  clear hth hcd
                  go_wp2_with fail
                  refine (netTake_all T p N x.k _ HNP.out).mono ?_
                  rintro e wa ⟨rfl, hNa, hMa⟩
                  rw [← HTH.out, ← HCD.out]
                  have x5 : ∀ o, (wa.alloc o).cell? ⟨wr.heap.size, 1, none⟩ = some (.int .i64 x.k) := fun o => cell_keep (bAlloc (Below.refl _ _) o) ((cells_of_block ((hMa.block wr.heap.size hw1s hTg.out).trans HGA.out)).1 1 _ rfl)
                  have HNa := hid (fun o => hNa.below (bAlloc (Below.refl wa.heap.size wa) o))
                  have HMa := hid (fun o => hMa.alloc o)
                  have HRm := hid (two_mid HDJ.out HRP.out hMa)
                  have hsa := hMa.size
                  clear hNa hMa x1
                  go_wp2_with fail
                  refine (rTake_all S w1.heap.size N x.k _ (HRm.out.below (bAlloc (Below.refl _ _) _)) HNK.out).mono ?_
                  rintro e wb ⟨rfl, hRb, hMb⟩
                  rw [← HTH.out, ← HCD.out]
                  have hbx := (hMb.block wa.heap.size (by simp) (fun h => by have := HSW.out _ h; omega)).trans (heap_at rfl)
                  have hsb := hMb.size
                  rw [World.size_alloc] at hsb
                  obtain ⟨z0, _, _⟩ := cells_of_block hbx
                  have q0 := z0 0 _ rfl
                  have q1 := z0 1 _ rfl
                  have q2 := z0 2 _ rfl
                  have q3 := z0 3 _ rfl
                  have hst := hid (two_step (B := w.heap.size) HDJ.out HTW.out HSW.out hW1s (HNa.out _) (HMa.out _) hRb hMb)
                  clear hRb hMb hbx z0 x5
                  have ecc : (cd != cd) = false := bne_self_eq_false _
                  go_wp2_with fail
                  refine (same28_calls [th] _ _ _ (K_one (cs := [.int .i64 th.f, .int .i64 th.t, .string th.s, .bool th.turned]) (heap_old (by simp) (heap_at (by simp))) (fun _ => rfl)) (K_one (cs := [.int .i64 th.f, .int .i64 th.t, .string th.s, .bool th.turned]) (heap_at (by simp)) (fun _ => rfl))).mono ?_
                  rintro e wc ⟨rfl, nc, rfl⟩
                  go_wp2
                  go_meet
                  have hbl := fun o1 o2 o3 => below_drewN (bAlloc (bAlloc (bAlloc (Below.refl wb.heap.size wb) o1) o2) o3) nc
                  exact ⟨cd, p, _, rfl, rfl, rfl, hst.out.1.below (hbl _ _ _), HN.out.take x.k, HB1.out.trans (hst.out.2.trans ((hbl _ _ _).mono (Nat.le_trans hW1s hst.out.2.size)))⟩
                · have e1 : (x.op == (1 : Int)) = false := by simp [hop1]
                  by_cases hop2 : x.op = 2
                  · rw [hop2] at x0
                    clear x2 x3 x4 e0 e1
                    go_wp2_with fail
                    go_region_held3 (fun w' => w'.cell? ⟨wr.heap.size, 1, none⟩ = some (.int .i64 x.k)) (first | exact x1 | exact x5 | exact x6 | fail) (first
                      | ((with_reducible refine (netTwice_all T p N x.k _ (HNP.out.below (Below.refl _ _).drew)).mono ?_); rintro e wa ⟨rfl, hNa, hMa⟩; have x5 := (cells_of_block ((hMa.block wr.heap.size hw1s hTg.out).trans HGA.out)).1 1 _ rfl; have HRm := hid (two_mid HDJ.out (HRP.out.below (Below.refl _ _).drew) hMa); have HNa := hid hNa; have HMa := hid hMa; have hsa := hMa.size; clear hNa hMa)
                      | ((with_reducible refine (rTwice_all S w1.heap.size N x.k wa HRm.out HNK.out).mono ?_); rintro e wb ⟨rfl, hRb, hMb⟩; have x6 := (cells_of_block ((hMb.block wr.heap.size (Nat.lt_of_lt_of_le hw1s hsa) hSg.out).trans ((HMa.out.block wr.heap.size hw1s hTg.out).trans HGA.out))).1 1 _ rfl; have HRb := hid hRb; have HMb := hid hMb; clear hRb hMb)
                      | fail)
                    go_wp2_with fail
                    go_meet
                    have hst := two_step (B := w.heap.size) HDJ.out HTW.out HSW.out hW1s HNa.out HMa.out.of_drew HRb.out HMb.out
                    exact ⟨_, p, _, rfl, rfl, rfl, hst.1, HN.out.twice x.k, HB1.out.trans hst.2⟩
                  · have e2 : (x.op == (2 : Int)) = false := by simp [hop2]
                    obtain ⟨_, _, hwa, hwb, _⟩ := HX.out
                    simp [Lit.wf, IntKind.min, IntKind.max, IntKind.bits, IntKind.signed] at hwa hwb
                    obtain ⟨bt, hbt⟩ := Int.eq_ofNat_of_zero_le hwb.1
                    have hbl : bt < 4294967296 := by omega
                    have hal : x.at_ ≤ 9223372036854775807 := by omega
                    by_cases hop3 : x.op = 3
                    · rw [hop3] at x0
                      rw [hbt] at x3
                      have HAL := hid (And.intro hbl hal)
                      have HBT := hid hbt
                      have HNX := hid (show ∀ x ∈ N.l, x.s.size ≤ 1000 from HN.out.2)
                      clear x4 e0 e1 e2 hwa hwb hbt hbl hal
                      go_wp2_with fail
                      go_region_held3 (fun w' => w'.cell? ⟨wr.heap.size, 1, none⟩ = some (.int .i64 x.k) ∧ w'.cell? ⟨wr.heap.size, 2, none⟩ = some (.int .i64 x.at_) ∧ w'.cell? ⟨wr.heap.size, 3, none⟩ = some (.int .u32 bt)) (first | exact ⟨x1, x2, x3⟩ | exact x5 | exact x6 | fail) (first
                        | ((with_reducible refine (netTurn_all T p N x.k x.at_ bt _ (HNP.out.below (Below.refl _ _).drew) HN.out HAL.out.1).mono ?_); rintro e wa ⟨rfl, hNa, hMa⟩; have x5 : wa.cell? ⟨wr.heap.size, 1, none⟩ = some (.int .i64 x.k) ∧ wa.cell? ⟨wr.heap.size, 2, none⟩ = some (.int .i64 x.at_) ∧ wa.cell? ⟨wr.heap.size, 3, none⟩ = some (.int .u32 bt) := HC3.out _ (hMa.block wr.heap.size hw1s hTg.out) bt HBT.out; have HRm := hid (two_mid HDJ.out (HRP.out.below (Below.refl _ _).drew) hMa); have HNa := hid hNa; have HMa := hid hMa; have hsa := hMa.size; clear hNa hMa)
                        | ((with_reducible refine (rTurn_calls S w1.heap.size N x.k x.at_ bt wa HRm.out HNK.out HAL.out.2 HAL.out.1 HNX.out).mono ?_); rintro e wb ⟨rfl, hRb, hMb⟩; have x6 : wb.cell? ⟨wr.heap.size, 1, none⟩ = some (.int .i64 x.k) ∧ wb.cell? ⟨wr.heap.size, 2, none⟩ = some (.int .i64 x.at_) ∧ wb.cell? ⟨wr.heap.size, 3, none⟩ = some (.int .u32 bt) := HC3.out _ ((hMb.block wr.heap.size (Nat.lt_of_lt_of_le hw1s hsa) hSg.out).trans (HMa.out.block wr.heap.size hw1s hTg.out)) bt HBT.out; have HRb := hid hRb; have HMb := hid hMb; clear hRb hMb)
                        | fail)
                      go_wp2_with fail
                      go_meet
                      have hst := two_step (B := w.heap.size) HDJ.out HTW.out HSW.out hW1s HNa.out HMa.out.of_drew HRb.out HMb.out
                      exact ⟨_, p, _, rfl, rfl, rfl, hst.1, HN.out.turn x.k x.at_ bt, HB1.out.trans hst.2⟩
                    · have e3 : (x.op == (3 : Int)) = false := by simp [hop3]
                      clear x1 x2 x3 x4 hwa hwb hbt hbl hal
                      go_wp2_with fail
                      refine (netClone_calls T p N _ HNP.out).mono ?_
                      rintro e wa ⟨pc, rfl, hNc, hba⟩
                      have HNC := hid hNc.narrow
                      have HBA := hid hba
                      have hsa := hba.size
                      clear hNc hba
                      go_wp2_with fail
                      refine (netSend_lit T p N 3 4 [⟨#[120]⟩] 1 rfl wa _ rfl (HNP.out.below HBA.out) (fun k h => by have := HTW.out k h; omega) (by decide) _ rfl).mono ?_
                      rintro e wb ⟨rfl, HNb, hMb, hsb⟩
                      have HMb := hid hMb
                      clear hMb
                      go_wp2_with fail
                      refine (netTurn_all _ p _ 0 0 1 _ HNb.out (HN.out.send 3 4 [⟨#[120]⟩] (by decide)) (by decide)).mono ?_
                      rintro e wc ⟨rfl, hNd, hMd⟩
                      have HMd := hid hMd
                      have hsd := hMd.size
                      clear hNd hMd
                      go_wp2
                      go_meet
                      have hcb : ∀ k, k < wa.heap.size → ¬ T k → wc.heap[k]? = wa.heap[k]? := fun k hk hT => (HMd.out.block k (by omega) (fun h => by
                        rcases h.1 with h | h
                        · exact hT h
                        · omega)).trans (HMb.out.block k hk hT)
                      refine ⟨0, pc, N, rfl, rfl, rfl, ⟨fun k => W1.heap.size ≤ k ∧ k < wa.heap.size, S, fun k h hs => by have := HSW.out k hs; omega, fun k h => by omega, fun k hs => by have := HSW.out k hs; omega, ?_, ?_⟩, HN.out, ?_⟩
                      · exact HNC.out.move (fun k hk h => hcb k hk (fun hT => by have := HTW.out k hT; omega))
                      · exact (HRP.out.below HBA.out).move (fun k hk hs => hcb k hk (fun hT => HDJ.out k hT hs))
                      · exact (HB1.out.trans (HBA.out.mono hW1s)).trans ((HMb.out.below (fun k _ h => (HTW.out k h).1) (by omega)).trans (HMd.out.below (fun k _ h => by
                          rcases h.1 with h | h
                          · exact (HTW.out k h).1
                          · omega) (by omega)))
            case rest =>
              obtain ⟨z, p2, N2, rfl, rfl, rfl, HT2, HN2, HB2⟩ := hcut
              obtain ⟨T2, S2, hd2, hT2, hS2, hNp, hRp⟩ := HT2.out
              obtain ⟨_, _, A2, c2, hcc, hmm, g0, g1, _, _, hrow⟩ := hRp.cells
              have HNP2 := hid hNp
              have HRW := hid hrow.out
              have ezz : (z != z) = false := bne_self_eq_false _
              obtain ⟨m2, hm2⟩ : ∃ m2, N2.l.length = m2 := ⟨_, rfl⟩
              have HM2 := hid hm2
              have eln : (((N2.l.length : Nat) : Int) != ((N2.l.length : Nat) : Int)) = false := bne_self_eq_false _
              rw [hm2] at eln g0 hcc hmm
              have HCC := hid (And.intro hcc hmm)
              have HK2 := hid (fun (u : World) (hrw : Kd.thing.Row u Any A2 N2.l) => (show Kd.thing.slice.K u Any N2.l [.slice A2 m2 c2] from ⟨A2, c2, by rw [HM2.out], by rw [HM2.out]; exact HCC.out.1, by rw [HM2.out]; exact HCC.out.2, hrw⟩))
              clear hd2 hT2 hS2 hNp hRp hrow hm2 g1 x0 x1 x2 x3 x4 hcc hmm
              go_wp2_with fail
              go_region_held3 (fun w' => w'.cell? ⟨w1.heap.size, 0, none⟩ = some (.slice A2 m2 c2)) (first | exact g0 | exact g1 | exact g2 | fail) (first
                | ((with_reducible refine (netList_calls T2 p2 N2 _ (HNP2.out.below (Below.refl _ _).drew)).mono ?_); rintro e wa ⟨v, rfl, hOa, hba⟩; have g1 := cell_keep hba g0; have HK1 := hid (Kd.any hOa.K); have HBa := hid hba; obtain ⟨A3, n3, c3, rfl, hq1, hq2⟩ := hOa.shape'; have HQ3 := hid hq1; clear hOa hba hq1 hq2)
                | ((with_reducible refine (same28_calls N2.l _ _ wa HK1.out (HK2.out _ (((HRW.out.below (Below.refl _ _).drew).below HBa.out).any))).mono ?_); rintro e wb ⟨rfl, n2, rfl⟩; have g2 := g1)
                | ((with_reducible refine (netLen_calls T2 p2 N2 _ (((HNP2.out.below (Below.refl _ _).drew).below HBa.out).below (below_drewN (Below.refl _ _) n2))).mono ?_); rintro e wc ⟨rfl, rfl⟩; rw [HM2.out])
                | fail)
              go_wp2
              go_roundw
              case rel => first | exact ⟨k + 1, p2, N2, by omega, by omega, rfl, by go_num, hid (HT2.out.below (below_drewN ((Below.refl _ _).drew.trans HBa.out) n2)), HN2, hid (below_drewN (HB2.out.drew.trans (HBa.out.mono HB2.out.size)) n2)⟩ | ((repeat apply Exists.intro); exact ⟨⟨k + 1, p2, N2, by omega, by omega, rfl, by go_num, hid (HT2.out.below (below_drewN ((Below.refl _ _).drew.trans HBa.out) n2)), HN2, hid (below_drewN (HB2.out.drew.trans (HBa.out.mono HB2.out.size)) n2)⟩, rfl⟩)
              case measure => simp [intOf]; omega
        · have hl60I : ¬ (k : Int) < 60 := by omega
          go_wp2_with fail
          refine (netTake_nil 0 _).mono ?_
          rintro e wz ⟨rfl, hbz⟩
          have Z1 := hid (bThen HBE.out hbz)
          clear hbz
          go_wp2_with fail
          refine (netSend_nil _ _ _ _).mono ?_
          rintro e wy ⟨rfl, rfl⟩
          go_wp2_with fail
          refine (netLen_nil _).mono ?_
          rintro e wy ⟨rfl, rfl⟩
          go_wp2_with fail
          refine (netList_nil _).mono ?_
          rintro e wy ⟨rfl, rfl⟩
          go_wp2_with fail
          refine (netTwice_nil _ _).mono ?_
          rintro e wy ⟨rfl, rfl⟩
          go_wp2_with fail
          refine (netTurn_nil _ _ _ _).mono ?_
          rintro e wy ⟨rfl, rfl⟩
          go_wp2_with fail
          refine (netClone_nil _).mono ?_
          rintro e wy ⟨rfl, rfl⟩
          go_wp2_with fail
          refine (works28_calls _).mono ?_
          rintro e wy ⟨rfl, hby⟩
          go_wp2
          go_ret
          exact ⟨rfl, bThen (bAlloc (bAlloc Z1.out _) _) hby⟩
      · have hltI : ¬ (k : Int) < (q : Int) := by omega
        go_wp2_with fail
        refine (netTake_nil 0 _).mono ?_
        rintro e wz ⟨rfl, hbz⟩
        have Z1 := hid (bThen HBE.out hbz)
        clear hbz
        go_wp2_with fail
        refine (netSend_nil _ _ _ _).mono ?_
        rintro e wy ⟨rfl, rfl⟩
        go_wp2_with fail
        refine (netLen_nil _).mono ?_
        rintro e wy ⟨rfl, rfl⟩
        go_wp2_with fail
        refine (netList_nil _).mono ?_
        rintro e wy ⟨rfl, rfl⟩
        go_wp2_with fail
        refine (netTwice_nil _ _).mono ?_
        rintro e wy ⟨rfl, rfl⟩
        go_wp2_with fail
        refine (netTurn_nil _ _ _ _).mono ?_
        rintro e wy ⟨rfl, rfl⟩
        go_wp2_with fail
        refine (netClone_nil _).mono ?_
        rintro e wy ⟨rfl, rfl⟩
        go_wp2_with fail
        refine (works28_calls _).mono ?_
        rintro e wy ⟨rfl, hby⟩
        go_wp2
        go_ret
        exact ⟨rfl, bThen (bAlloc (bAlloc Z1.out _) _) hby⟩
theorem netPlays_walk (W : World) (most : Int) (_h : (Lit.int .i64 most).wf = true) (l : List A28) (v : Value) (hl : Kd.act28.slice.K W Any l [v]) (ol : (∀ y ∈ l, okA28 y) ∧ l.length * 56 ≤ 140737488351232) :
    Calls Try.prog 12 #[.int .i64 most, v] W fun e w' => e = .returned (.bool true) ∧ Below W.heap.size W w' := netPlays_calls most l v W hl ol.1
end Go.Proofs.Ytlckkcefkiffjaa
