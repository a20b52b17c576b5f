import Derived.Test.YtlckkcefkiffjaaR16
import Derived.Test.YtlckkcefkiffjaaWorks16
import Derived.Test.YtlckkcefkiffjaaAct
import Derived.Test.YtlckkcefkiffjaaKeep
import Derived.Test.YtlckkcefkiffjaaReg
import Derived.Deep.DeepCutAuto
namespace Go.Proofs.Ytlckkcefkiffjaa
open Go.RowKit

/-- The program's disk and the document's. -/
def Alike (D R : DiskS) : Prop := D.b = R.b ∧ D.room = R.room ∧ D.fuse = max R.fuse (-1)
theorem Alike.app {D R : DiskS} (h : Alike D R) (x : List UInt8) : (D.append x).2 = (R.append x).2 ∧ Alike (D.append x).1 (R.append x).1 := by
  obtain ⟨db, dr, df⟩ := D
  obtain ⟨rb, rr, rf⟩ := R
  obtain ⟨h1, h2, h3⟩ := h
  simp only at h1 h2 h3
  subst h1 h2 h3
  unfold DiskS.append
  simp only
  split
  · exact ⟨rfl, rfl, rfl, rfl⟩
  · by_cases h : 0 ≤ rf
    · rw [if_pos (by omega), if_pos h, show (max rf (-1)) = rf by omega]
      exact ⟨rfl, rfl, rfl, rfl⟩
    · rw [if_neg (by omega), if_neg h]
      exact ⟨rfl, rfl, rfl, rfl⟩
theorem Alike.cut {D R : DiskS} (h : Alike D R) (n : Int) : (D.cut n).2 = (R.cut n).2 ∧ Alike (D.cut n).1 (R.cut n).1 := by
  obtain ⟨db, dr, df⟩ := D
  obtain ⟨rb, rr, rf⟩ := R
  obtain ⟨h1, h2, h3⟩ := h
  simp only at h1 h2 h3
  subst h1 h2 h3
  unfold DiskS.cut
  simp only
  split <;> exact ⟨rfl, rfl, rfl, rfl⟩
theorem Alike.burn {D R : DiskS} (h : Alike D R) (n : Int) : Alike (D.burn n) ⟨R.b, R.room, n⟩ := ⟨h.1, h.2.1, rfl⟩
theorem Alike.ok {D R : DiskS} (h : Alike D R) (k : D.ok) : R16ok R := by
  obtain ⟨h1, h2, h3⟩ := h
  obtain ⟨k1, k2, k3, k4⟩ := k
  exact ⟨by rw [← h2]; omega, by rw [← h2]; omega, by rw [← h2, ← h1]; omega⟩

theorem i64_hi2 {n : Int} (h : (Lit.int .i64 n).wf = true) : n ≤ 9223372036854775807 := by
  simp [Lit.wf, IntKind.min, IntKind.max, IntKind.bits, IntKind.signed] at h
  omega
set_option maxHeartbeats 800000 in
set_option maxRecDepth 100000 in
theorem diskCut_nil (w : World) : Calls Try.prog 52 #[.pointer none, .int .i64 0] w fun e w' => e = .returned (.int .i64 1) ∧ w = w' := by
  go_enter Try.func52, Try.ntmps52
  go_wp2
  go_ret
  exact ⟨rfl, rfl⟩
set_option maxHeartbeats 800000 in
set_option maxRecDepth 100000 in
theorem diskSize_nil (w : World) : Calls Try.prog 55 #[.pointer none] w fun e w' => e = .returned (.int .i64 0) ∧ w = w' := by
  go_enter Try.func55, Try.ntmps55
  go_wp2
  go_ret
  exact ⟨rfl, rfl⟩
set_option maxHeartbeats 800000 in
set_option maxRecDepth 100000 in
theorem diskFree_nil (w : World) : Calls Try.prog 56 #[.pointer none] w fun e w' => e = .returned (.int .i64 0) ∧ w = w' := by
  go_enter Try.func56, Try.ntmps56
  go_wp2
  go_ret
  exact ⟨rfl, rfl⟩
set_option maxHeartbeats 800000 in
set_option maxRecDepth 100000 in
theorem diskClone_nil (w : World) : Calls Try.prog 54 #[.pointer none] w fun e w' => e = .returned (.pointer none) ∧ w = w' := by
  go_enter Try.func54, Try.ntmps54
  go_wp2
  go_ret
  exact ⟨rfl, rfl⟩

set_option maxHeartbeats 6400000 in
set_option maxRecDepth 100000 in
theorem diskPlays_calls (room : Int) (l : List ActS) (v : Value) (w : World) (hl : Kd.act.slice.K w Any l [v]) (hok : ∀ y ∈ l, okAct y) :
    Calls Try.prog 11 #[.int .i64 room, v] w fun e w' => e = .returned (.bool true) ∧ Below w.heap.size w w' := by
  obtain ⟨A, c, he, hc, hm, hr⟩ := hl
  cases he
  obtain ⟨q, hq⟩ : ∃ q, l.length = q := ⟨_, rfl⟩
  have HQ := hid hq
  have HR := hid hr
  rw [hq] at hc hm ⊢
  clear hr hq
  by_cases hbig : q > 60
  · go_enter Try.func11, Try.ntmps11
    go_wp2_with fail
    refine (works16_calls _).mono ?_
    rintro e w1 ⟨rfl, hb1⟩
    go_wp2
    go_ret
    exact ⟨rfl, hb1⟩
  go_enter Try.func11, Try.ntmps11
  go_wp2_with fail
  go_loopw [5] (fun i wr => ∃ (k : Nat), k ≤ q ∧ i = .int .i64 k ∧ w = wr) (fun i _ => q - (intOf i).toNat)
  case atStart => exact ⟨0, by omega, rfl, rfl⟩
  case round =>
    obtain ⟨k, hk, rfl, rfl⟩ := hrel
    by_cases hlt : k < q
    · obtain ⟨a, x, B, cb, rfl, hx, c0, c1, c2, hcb, hmb, hrb⟩ := at_act HR.out k (by rw [HQ.out]; omega)
      clear c0 c1 hrb hx
      by_cases hlong : x.b.length > 2000
      · go_wp2_with fail
        refine (works16_calls _).mono ?_
        rintro e w2 ⟨rfl, hb2⟩
        go_wp2
        go_ret
        exact ⟨rfl, hb2⟩
      · go_wp2
        go_roundw
        case rel => exact ⟨k + 1, by omega, by go_num, trivial⟩
        case measure => simp [intOf]; omega
    · obtain rfl : q = k := by omega
      by_cases hroom : room < 0 ∨ 65536 < room
      · have hdec : (decide (0 ≤ room) && decide (room ≤ 65536)) = false := by
          rw [Bool.and_eq_false_iff, decide_eq_false_iff_not, decide_eq_false_iff_not]; omega
        go_wp2_with fail
        refine (diskNew_no room _ hroom).mono ?_
        rintro e w1 ⟨rfl, rfl⟩
        go_wp2_with fail
        refine (r16New_calls room _).mono ?_
        rintro e w2 ⟨rfl, hb2⟩
        rw [hdec]
        go_wp2_with fail
        go_loopw [9] (fun i wr => i = .int .i64 0 ∧ Below w.heap.size w wr) (fun i _ => 0)
        case atStart => exact ⟨rfl, bAlloc hb2 _⟩
        case round =>
          obtain ⟨rfl, hbr⟩ := hrel
          by_cases hq0 : 0 < q
          all_goals
            go_wp2_with fail
            refine (oFuse_calls NoT none none 3 _ (by decide) rfl).mono ?_
            rintro e w3 ⟨rfl, _, hm3⟩
            have b3 := below_mod hbr hm3 (fun _ h => h.elim) hbr.size
            go_wp2_with fail
            refine (oAppend_calls NoT none none [] (.slice none 0 0) _ rfl ⟨none, 0, rfl, by simp, by simp, Kd.Row.nil⟩).mono ?_
            rintro e w4 ⟨rfl, _, hm4⟩
            rw [show (oApp none []).2 = (1 : Int) from rfl]
            have b4 := below_mod b3 hm4 (fun _ h => h.elim) b3.size
            go_wp2_with fail
            refine (diskCut_nil _).mono ?_
            rintro e w5 ⟨rfl, rfl⟩
            go_wp2_with fail
            refine (oBytes_calls NoT none none _ rfl).mono ?_
            rintro e w6 ⟨A6, c6, rfl, _, hb6⟩
            rw [show (oB none).length = 0 from rfl]
            have b6 := bThen b4 hb6
            go_wp2_with fail
            refine (diskSize_nil _).mono ?_
            rintro e w7 ⟨rfl, rfl⟩
            go_wp2_with fail
            refine (diskFree_nil _).mono ?_
            rintro e w8 ⟨rfl, rfl⟩
            go_wp2_with fail
            refine (diskClone_nil _).mono ?_
            rintro e w9 ⟨rfl, rfl⟩
            go_wp2_with fail
            refine (works16_calls _).mono ?_
            rintro e wa ⟨rfl, hba⟩
            go_wp2
            go_ret
            exact ⟨rfl, bThen b6 hba⟩
      · go_wp2_with fail
        refine (diskNew_yes room _ (by omega) (by omega)).mono ?_
        rintro e w1 ⟨rfl, hD1, hb1⟩
        have HD1 := hid hD1
        clear hD1
        go_wp2_with fail
        refine (r16New_calls room _).mono ?_
        rintro e w2 ⟨rfl, hb2⟩
        rw [show (decide (0 ≤ room) && decide (room ≤ 65536)) = true by simp; omega]
        go_wp2_with fail
        have hs2 := Nat.le_trans hb1.size hb2.size
        have hs1 : w.heap.size < w1.heap.size := HD1.out.cells.2.2.1
        have HD2 : Hid (DiskAt (w2.alloc (.cells #[.string (mkB []), .int .i64 room, .int .i64 (-1)] 75)) (fun k => w.heap.size ≤ k ∧ k ≠ w2.heap.size) w.heap.size ⟨[], room, -1⟩) :=
          ((HD1.out.below hb2).narrow.mono (T' := fun k => w.heap.size ≤ k ∧ k ≠ w2.heap.size) (fun k _ h => ⟨h.1, by omega⟩)).below (bAlloc (Below.refl _ _) _)
        go_loopw [6, 9] (fun d i wr => ∃ (k p : Nat) (D R : DiskS), k ≤ q ∧ d = .pointer (some ⟨p, 0, none⟩) ∧ i = .int .i64 k ∧ Hid (DiskAt wr (fun k => w.heap.size ≤ k ∧ k ≠ w2.heap.size) p D) ∧ Hid (RefAt wr w2.heap.size R) ∧ Hid (Alike D R) ∧ Below w.heap.size w wr) (fun _ i _ => q - (intOf i).toNat)
        case atStart => exact ⟨0, w.heap.size, ⟨[], room, -1⟩, ⟨[], room, -1⟩, by omega, rfl, rfl, HD2, heap_at rfl, ⟨rfl, rfl, rfl⟩, bAlloc (bThen hb1 hb2) _⟩
        case round =>
          obtain ⟨k, p, D, R, hk, rfl, rfl, HD, HRF, HAL, hbl⟩ := hrel
          by_cases hlt : k < q
          · obtain ⟨a, x, B, cb, rfl, hx, c0, c1, c2, hcb, hmb, hrb⟩ := at_act HR.out k (by rw [HQ.out]; omega)
            have HX := hid (hok x (List.mem_of_getElem? hx))
            have HRB := hid (hrb.mono (S' := fun b => b < w.heap.size) (fun b _ h => h))
            obtain ⟨nb, hnb⟩ : ∃ nb, x.b.length = nb := ⟨_, rfl⟩
            have HNB := hid hnb
            rw [hnb] at c2 hcb hmb
            have t0 := cell_keep hbl c0
            have t1 := cell_keep hbl c1
            have t2 := cell_keep hbl c2
            have hgm := HRF.out.cells.2.2.2.2
            have hbs := hbl.size
            clear hx hrb c0 c1 c2 hnb
            go_upto_if 59 with fail
            obtain ⟨W1, hW1⟩ : ∃ W1, W1 = wr.alloc (.cells #[.int .i64 x.op, .int .i64 x.n, .slice B nb cb] 44) := ⟨_, rfl⟩
            rw [← hW1]
            have hga : W1.heap[wr.heap.size]? = some (.cells #[.int .i64 x.op, .int .i64 x.n, .slice B nb cb] 44 (0, 0)) := by rw [hW1]; exact heap_at rfl
            have bl1 : Below w.heap.size w W1 := by rw [hW1]; exact bAlloc hbl _
            have HD1 : Hid (DiskAt W1 (fun k => (w.heap.size ≤ k ∧ k ≠ w2.heap.size) ∧ k < wr.heap.size) p D) := by rw [hW1]; exact HD.out.narrow.below (bAlloc (Below.refl _ _) _)
            have HRF1 : Hid (RefAt W1 w2.heap.size R) := by rw [hW1]; exact HRF.out.below (bAlloc (Below.refl _ _) _)
            have hw1s : wr.heap.size < W1.heap.size := (Array.getElem?_eq_some_iff.1 hga).1
            have HGA := hid hga
            have y1 := (cells_of_block hga).1
            have x0 := y1 0 _ rfl
            have x1 := y1 1 _ rfl
            have x2 := y1 2 _ rfl
            have hROK := HAL.out.ok HD1.out.1
            clear y1 t0 t1 t2 hW1 hga
            go_cut [6, 11, 12, 13] from 44 to 125 (fun d e f _ wx => ∃ (z : Int) (p' : Nat) (D' R' : DiskS), d = .pointer (some ⟨p', 0, none⟩) ∧ e = .int .i64 z ∧ f = .int .i64 z ∧ Hid (DiskAt wx (fun k => w.heap.size ≤ k ∧ k ≠ w2.heap.size) p' D') ∧ Hid (RefAt wx w2.heap.size R') ∧ Hid (Alike D' R') ∧ Below w.heap.size w wx)
            case first =>
              by_cases hop : x.op = 0
              · rw [hop] at x0
                clear x1
                have hcv : ∀ W, Below w.heap.size w W → (convert 42 9 (.slice B nb cb)).run Try.prog W = .ok (.string (mkB x.b)) W := fun W hW =>
                  conv_u8 (S := fun b => b < w.heap.size) ⟨B, cb, by rw [HNB.out], by rw [HNB.out]; exact hcb, by rw [HNB.out]; exact hmb, HRB.out.below hW⟩
                have hKx : ∀ W, Below w.heap.size w W → ∀ T' : Nat → Prop, (∀ k, T' k → w.heap.size ≤ k) → Kd.u8.slice.K W (fun k => ¬ T' k) x.b [.slice B nb cb] := fun W hW T' hT' =>
                  ⟨B, cb, by rw [HNB.out], by rw [HNB.out]; exact hcb, by rw [HNB.out]; exact hmb, (HRB.out.below hW).mono (fun i hi _ h => by have := hT' i h; omega)⟩
                have HCV := hid hcv
                have HKX := hid hKx
                have v1 := hcv _ bl1.drew
                have hxl : x.b.length ≤ 140737488351232 := by have := HX.out.2.2.2; omega
                clear hcv hKx
                go_wp2_with fail
                go_region_held3 (fun w' => w'.cell? ⟨wr.heap.size, 2, none⟩ = some (.slice B nb cb) ∧ (convert 42 9 (.slice B nb cb)).run Try.prog w' = .ok (.string (mkB x.b)) w') (first | exact ⟨x2, v1⟩ | exact ⟨x3, v3⟩ | exact ⟨x4, v4⟩ | fail) (first
                  | ((with_reducible refine (diskAppend_calls _ p D x.b _ _ (HD1.out.below (Below.refl _ _).drew) (HKX.out _ bl1.drew _ (fun k h => h.1.1))).mono ?_); rintro e wa ⟨rfl, hDa, hMa⟩; have ba := below_mod bl1.drew hMa (fun k h => h.1.1) bl1.size; have x3 := (cells_of_block ((hMa.block wr.heap.size hw1s (fun h => Nat.lt_irrefl _ h.2)).trans HGA.out)).1 2 _ rfl; have v3 := HCV.out _ ba; have HRm := hid (RefAt.mod (HRF1.out.below (Below.refl _ _).drew) hMa (fun h => h.1.2 rfl)); have HDa := hid hDa; have HMa := hid hMa; clear hDa hMa)
                  | ((with_reducible refine (r16Append_calls _ R x.b wa HRm.out hROK hxl).mono ?_); rintro e wb ⟨rfl, hRb, hNb⟩; have bb := below_mod ba hNb (fun k h => by omega) ba.size; have x4 := (cells_of_block ((hNb.block wr.heap.size (Nat.lt_of_lt_of_le hw1s HMa.out.size) (by omega)).trans ((HMa.out.block wr.heap.size hw1s (fun h => Nat.lt_irrefl _ h.2)).trans HGA.out))).1 2 _ rfl; have v4 := HCV.out _ bb; have HRb := hid hRb; have HNb := hid hNb; clear hRb hNb)
                  | fail)
                go_wp2_with fail
                go_meet
                exact ⟨(R.append x.b).2, p, (D.append x.b).1, (R.append x.b).1, rfl, by rw [(HAL.out.app x.b).1], rfl, (HDa.out.mono (T' := fun k => w.heap.size ≤ k ∧ k ≠ w2.heap.size) (fun k _ h => h.elim (fun h => h.1) (fun h => by have h2 : W1.heap.size ≤ k := h; omega))).move (fun k hk hT => HNb.out.block k hk hT.2), HRb, (HAL.out.app x.b).2, bb⟩
              · by_cases hop1 : x.op = 1
                · rw [hop1] at x0
                  go_wp2_with fail
                  refine (diskFuse_calls _ p D x.n _ (i64_hi2 HX.out.2.1) HD1.out).mono ?_
                  rintro e wa ⟨rfl, hDa, hMa⟩
                  have ba := below_mod bl1 hMa (fun k h => h.1.1) bl1.size
                  have x3 := (cells_of_block ((hMa.block wr.heap.size hw1s (fun h => Nat.lt_irrefl _ h.2)).trans HGA.out)).1 1 _ rfl
                  have HRm := hid (RefAt.mod HRF1.out hMa (fun h => h.1.2 rfl))
                  have fz := HRm.out.cells.2.2.2.1 2
                  have cz := HRm.out.cells.2.2.1
                  have HDa := hid hDa
                  clear hDa hMa x0 x1 x2
                  go_wp2
                  go_meet
                  exact ⟨0, p, D.burn x.n, ⟨R.b, R.room, x.n⟩, rfl, rfl, rfl, (HDa.out.mono (T' := fun k => w.heap.size ≤ k ∧ k ≠ w2.heap.size) (fun k _ h => h.1)).move (fun k hk hT => Below.heap_setCell _ _ _ k hT.2), heap_set HRm.out 2 _, HAL.out.burn x.n, ba.setCell (p := ⟨w2.heap.size, 2, none⟩) hs2 _⟩
                · by_cases hop2 : x.op = 2
                  · rw [hop2] at x0
                    clear x2
                    go_wp2_with fail
                    go_region_held3 (fun w' => w'.cell? ⟨wr.heap.size, 1, none⟩ = some (.int .i64 x.n)) (first | exact x1 | exact x3 | exact x4 | fail) (first
                      | ((with_reducible refine (diskCut_calls _ p D x.n _ (HD1.out.below (Below.refl _ _).drew)).mono ?_); rintro e wa ⟨rfl, hDa, hMa⟩; have ba := below_mod bl1.drew hMa (fun k h => h.1.1) bl1.size; have x3 := (cells_of_block ((hMa.block wr.heap.size hw1s (fun h => Nat.lt_irrefl _ h.2)).trans HGA.out)).1 1 _ rfl; have HRm := hid (RefAt.mod (HRF1.out.below (Below.refl _ _).drew) hMa (fun h => h.1.2 rfl)); have HDa := hid hDa; have HMa := hid hMa; clear hDa hMa)
                      | ((with_reducible refine (r16Cut_calls _ R x.n wa HRm.out hROK).mono ?_); rintro e wb ⟨rfl, hRb, hNb⟩; have bb := below_mod ba hNb (fun k h => by omega) ba.size; have x4 := (cells_of_block ((hNb.block wr.heap.size (Nat.lt_of_lt_of_le hw1s HMa.out.size) (by omega)).trans ((HMa.out.block wr.heap.size hw1s (fun h => Nat.lt_irrefl _ h.2)).trans HGA.out))).1 1 _ rfl; have HRb := hid hRb; have HNb := hid hNb; clear hRb hNb)
                      | fail)
                    go_wp2_with fail
                    go_meet
                    exact ⟨(R.cut x.n).2, p, (D.cut x.n).1, (R.cut x.n).1, rfl, by rw [(HAL.out.cut x.n).1], rfl, (HDa.out.mono (T' := fun k => w.heap.size ≤ k ∧ k ≠ w2.heap.size) (fun k _ h => h.1)).move (fun k hk hT => HNb.out.block k hk hT.2), HRb, (HAL.out.cut x.n).2, bb⟩
                  · have e0 : (x.op == (0 : Int)) = false := by simp [hop]
                    have e1 : (x.op == (1 : Int)) = false := by simp [hop1]
                    have e2 : (x.op == (2 : Int)) = false := by simp [hop2]
                    clear x1 x2
                    go_wp2_with fail
                    refine (diskClone_calls _ p D _ HD1.out).mono ?_
                    rintro e wa ⟨pc, rfl, hDc, hba⟩
                    have HDc := hid hDc.narrow
                    have HBA := hid hba
                    clear hDc hba
                    go_wp2_with fail
                    refine (diskAppend_u8 _ p D [7] 1 W1 _ _ _ 5 (0, 0) HD1.out (bAlloc HBA.out _) rfl (by decide) rfl (heap_at rfl) (fun h => by have := HBA.out.size; omega) (D.append [7]).1 (D.append [7]).2 rfl).mono ?_
                    rintro e wb ⟨rfl, HDb, HMb, hsb⟩
                    go_wp2_with fail
                    refine (diskCut_calls _ p _ 0 _ HDb.out).mono ?_
                    rintro e wc ⟨rfl, hDd, hMd⟩
                    go_wp2
                    go_meet
                    have hz : ∀ o, (wa.alloc o).heap.size = wa.heap.size + 1 := fun o => by simp
                    simp only [hz] at hMd hsb
                    have hba := HBA.out.size
                    have hsd := hMd.size
                    refine ⟨0, pc, D, R, rfl, rfl, rfl, ((HDc.out.move (w1 := wc) (fun k hk hT => (hMd.block k (by omega) (fun h => h.1.elim (fun h => by omega) (fun h => by omega))).trans ((HMb.out.block k (by rw [hz]; omega) (fun h => by omega)).trans (Below.heap_alloc _ _ _ hk)))).mono (fun k _ h => ⟨by omega, by omega⟩)), ?_, HAL.out, ?_⟩
                    · exact RefAt.mod (RefAt.mod ((HRF1.out.below HBA.out).below (bAlloc (Below.refl _ _) _)) HMb.out (fun h => h.1.2 rfl)) hMd (fun h => h.1.elim (fun h => h.1.2 rfl) (fun h => by omega))
                    · exact below_mod (below_mod (bAlloc (bThen bl1 HBA.out) _) HMb.out (fun k h => h.1.1) (by rw [hz]; omega)) hMd (fun k h => h.1.elim (fun h => h.1.1) (fun h => by omega)) (by omega)
            case rest =>
              obtain ⟨z, pn, ⟨db, dr, df⟩, ⟨rb, rr, rf⟩, rfl, rfl, rfl, HDn, HRn, HAn, hbn⟩ := hcut
              obtain ⟨ha1, ha2, ha3⟩ := HAn.out
              simp only at ha1 ha2 ha3
              subst ha1 ha2
              obtain ⟨g0, g1, _, _, _⟩ := HRn.out.cells
              simp only at g0 g1
              obtain ⟨m1, m2, m3, m4⟩ := HDn.out.1
              simp only at m1 m2 m3 m4
              have hwr : IntKind.i64.wrap (dr - (db.length : Int)) = dr - db.length := IntWalk.i64_in _ (by omega)
              have hsz := mkB_size db
              clear ha3 x0 x1 x2 m3 m4
              go_wp2_with fail
              refine wp_region_held_drew (S := fun w' => w'.cell? ⟨w2.heap.size, 0, none⟩ = some (.string (mkB db)) ∧ w'.cell? ⟨w2.heap.size, 1, none⟩ = some (.int .i64 dr)) (by kernel_rfl) ⟨g0, g1⟩ (fun hHeld => ?_)
              refine anyH_take 0 (v := ?_) rfl (by kernel_rfl) (by kernel_rfl) (by kernel_rfl) (fun _ _ _ h => h) (by rfl) hHeld ?_ ?_
              rotate_left
              · (intro w hSw; (try dsimp only at hSw); go_split_ands; go_simp; try with_reducible rfl)
              (try simp only [Act.put, List.setIfInBounds_toArray, List.set_cons_zero, List.set_cons_succ])
              refine anyH_take 1 (v := ?_) rfl (by kernel_rfl) (by kernel_rfl) (by kernel_rfl) (fun _ _ _ h => h) (by rfl) hHeld ?_ ?_
              rotate_left
              · (intro w hSw; (try dsimp only at hSw); go_split_ands; go_simp; try with_reducible rfl)
              (try simp only [Act.put, List.setIfInBounds_toArray, List.set_cons_zero, List.set_cons_succ])
              refine anyH_take 2 (v := ?_) rfl (by kernel_rfl) (by kernel_rfl) (by kernel_rfl) (fun _ _ _ h => h) (by rfl) hHeld ?_ ?_
              rotate_left
              · (intro w hSw; (try dsimp only at hSw); go_split_ands; go_simp; try with_reducible rfl)
              (try simp only [Act.put, List.setIfInBounds_toArray, List.set_cons_zero, List.set_cons_succ])
              refine anyH_take 3 (v := ?_) rfl (by kernel_rfl) (by kernel_rfl) (by kernel_rfl) (fun _ _ _ h => h) (by rfl) hHeld ?_ ?_
              rotate_left
              · (intro w hSw; (try dsimp only at hSw); go_split_ands; go_simp; try with_reducible rfl)
              (try simp only [Act.put, List.setIfInBounds_toArray, List.set_cons_zero, List.set_cons_succ])
              refine anyH_take 4 (v := ?_) rfl (by kernel_rfl) (by kernel_rfl) (by kernel_rfl) (fun _ _ _ h => h) (by rfl) hHeld ?_ ?_
              rotate_left
              · (intro w hSw; (try dsimp only at hSw); go_split_ands; go_simp; try with_reducible rfl)
              (try simp only [Act.put, List.setIfInBounds_toArray, List.set_cons_zero, List.set_cons_succ])
              refine anyH_take 7 (v := ?_) rfl (by kernel_rfl) (by kernel_rfl) (by kernel_rfl) (fun _ _ _ h => h) (by rfl) hHeld ?_ ?_
              rotate_left
              · (intro w hSw; (try dsimp only at hSw); go_split_ands; go_simp; try with_reducible rfl)
              (try simp only [Act.put, List.setIfInBounds_toArray, List.set_cons_zero, List.set_cons_succ])
              refine anyH_take 8 (v := ?_) rfl (by kernel_rfl) (by kernel_rfl) (by kernel_rfl) (fun _ _ _ h => h) (by rfl) hHeld ?_ ?_
              rotate_left
              · (intro w hSw; (try dsimp only at hSw); go_split_ands; go_simp; try with_reducible rfl)
              (try simp only [Act.put, List.setIfInBounds_toArray, List.set_cons_zero, List.set_cons_succ])
              refine anyH_one 5 rfl (by kernel_rfl) (fun K hK => ?_)
              go_simp
              refine (oBytes_calls _ _ (some ⟨db, dr, df⟩) _ ⟨pn, rfl, HDn.out.below (Below.refl _ _).drew⟩).mono ?_
              rintro e wd ⟨A1, k1, rfl, hK1, hbd⟩
              rw [show oB (some (⟨db, dr, df⟩ : DiskS)) = db from rfl] at hK1 ⊢
              have hcv : ∀ W, Below wd.heap.size wd W → (convert 42 9 (.slice A1 db.length k1)).run Try.prog W = .ok (.string (mkB db)) W := fun W hW => conv_u8 (Kd.below hK1 hW)
              have HDd := hid ((HDn.out.below (Below.refl _ _).drew).below hbd)
              have HBd := hid (hbn.drew.trans (hbd.mono hbn.size))
              have s0 := cell_keep hbd hHeld.1
              have s1 := cell_keep hbd hHeld.2
              have v0 := hcv _ (Below.refl _ _)
              go_simp
              refine hK.out _ _ ⟨s0, s1⟩ (fun hHeld => ?_)
              clear hK K
              (try simp only [Act.put, List.setIfInBounds_toArray, List.set_cons_zero, List.set_cons_succ])
              refine wpAnyH_more (S1 := fun w' => (w'.cell? ⟨w2.heap.size, 0, none⟩ = some (.string (mkB db)) ∧ w'.cell? ⟨w2.heap.size, 1, none⟩ = some (.int .i64 dr)) ∧ (convert 42 9 (.slice A1 db.length k1)).run Try.prog w' = .ok (.string (mkB db)) w') (fun _ h => h.1) _ _ _ _ ?_
              refine anyH_take 6 (v := ?_) rfl (by kernel_rfl) (by kernel_rfl) (by kernel_rfl) (fun _ _ _ h => h) (by rfl) ⟨⟨s0, s1⟩, v0⟩ ?_ ?_
              rotate_left
              · (intro w hSw; (try dsimp only at hSw); go_split_ands; go_simp; try with_reducible rfl)
              (try simp only [Act.put, List.setIfInBounds_toArray, List.set_cons_zero, List.set_cons_succ])
              refine anyH_take 9 (v := ?_) rfl (by kernel_rfl) (by kernel_rfl) (by kernel_rfl) (fun _ _ _ h => h) (by rfl) ⟨⟨s0, s1⟩, v0⟩ ?_ ?_
              rotate_left
              · (intro w hSw; (try dsimp only at hSw); go_split_ands; go_simp; try with_reducible rfl)
              (try simp only [Act.put, List.setIfInBounds_toArray, List.set_cons_zero, List.set_cons_succ])
              refine anyH_take 10 (v := ?_) rfl (by kernel_rfl) (by kernel_rfl) (by kernel_rfl) (fun _ _ _ h => h) (by rfl) ⟨⟨s0, s1⟩, v0⟩ ?_ ?_
              rotate_left
              · (intro w hSw; (try dsimp only at hSw); go_split_ands; go_simp; try with_reducible rfl)
              (try simp only [Act.put, List.setIfInBounds_toArray, List.set_cons_zero, List.set_cons_succ])
              refine anyH_take 11 (v := ?_) rfl (by kernel_rfl) (by kernel_rfl) (by kernel_rfl) (fun _ _ _ h => h) (by rfl) ⟨⟨s0, s1⟩, v0⟩ ?_ ?_
              rotate_left
              · (intro w hSw; (try dsimp only at hSw); go_split_ands; go_simp; try with_reducible rfl)
              (try simp only [Act.put, List.setIfInBounds_toArray, List.set_cons_zero, List.set_cons_succ])
              refine anyH_take 12 (v := ?_) rfl (by kernel_rfl) (by kernel_rfl) (by kernel_rfl) (fun _ _ _ h => h) (by rfl) ⟨⟨s0, s1⟩, v0⟩ ?_ ?_
              rotate_left
              · (intro w hSw; (try dsimp only at hSw); go_split_ands; go_simp; try with_reducible rfl)
              (try simp only [Act.put, List.setIfInBounds_toArray, List.set_cons_zero, List.set_cons_succ])
              refine anyH_take 14 (v := ?_) rfl (by kernel_rfl) (by kernel_rfl) (by kernel_rfl) (fun _ _ _ h => h) (by rfl) ⟨⟨s0, s1⟩, v0⟩ ?_ ?_
              rotate_left
              · (intro w hSw; (try dsimp only at hSw); go_split_ands; go_simp; try with_reducible rfl)
              (try simp only [Act.put, List.setIfInBounds_toArray, List.set_cons_zero, List.set_cons_succ])
              refine anyH_take 15 (v := ?_) rfl (by kernel_rfl) (by kernel_rfl) (by kernel_rfl) (fun _ _ _ h => h) (by rfl) ⟨⟨s0, s1⟩, v0⟩ ?_ ?_
              rotate_left
              · (intro w hSw; (try dsimp only at hSw); go_split_ands; go_simp; try with_reducible rfl)
              (try simp only [Act.put, List.setIfInBounds_toArray, List.set_cons_zero, List.set_cons_succ])
              refine anyH_take 16 (v := ?_) rfl (by kernel_rfl) (by kernel_rfl) (by kernel_rfl) (fun _ _ _ h => h) (by rfl) ⟨⟨s0, s1⟩, v0⟩ ?_ ?_
              rotate_left
              · (intro w hSw; (try dsimp only at hSw); go_split_ands; go_simp; try with_reducible rfl)
              (try simp only [Act.put, List.setIfInBounds_toArray, List.set_cons_zero, List.set_cons_succ])
              refine anyH_one 13 rfl (by kernel_rfl) (fun K hK => ?_)
              go_simp
              refine (diskSize_calls _ pn ⟨db, dr, df⟩ _ HDd.out).mono ?_
              rintro e we ⟨rfl, rfl⟩
              go_simp
              refine hK.out _ _ ⟨⟨s0, s1⟩, v0⟩ (fun hHeld => ?_)
              clear hK K
              (try simp only [Act.put, List.setIfInBounds_toArray, List.set_cons_zero, List.set_cons_succ])
              refine anyH_take 17 (v := ?_) rfl (by kernel_rfl) (by kernel_rfl) (by kernel_rfl) (fun _ _ _ h => h) (by rfl) ⟨⟨s0, s1⟩, v0⟩ ?_ ?_
              rotate_left
              · (intro w hSw; (try dsimp only at hSw); go_split_ands; go_simp; try with_reducible rfl)
              (try simp only [Act.put, List.setIfInBounds_toArray, List.set_cons_zero, List.set_cons_succ])
              refine anyH_take 18 (v := ?_) rfl (by kernel_rfl) (by kernel_rfl) (by kernel_rfl) (fun _ _ _ h => h) (by rfl) ⟨⟨s0, s1⟩, v0⟩ ?_ ?_
              rotate_left
              · (intro w hSw; (try dsimp only at hSw); go_split_ands; go_simp; try with_reducible rfl)
              (try simp only [Act.put, List.setIfInBounds_toArray, List.set_cons_zero, List.set_cons_succ])
              refine anyH_take 19 (v := ?_) rfl (by kernel_rfl) (by kernel_rfl) (by kernel_rfl) (fun _ _ _ h => h) (by rfl) ⟨⟨s0, s1⟩, v0⟩ ?_ ?_
              rotate_left
              · (intro w hSw; (try dsimp only at hSw); go_split_ands; go_simp; try with_reducible rfl)
              (try simp only [Act.put, List.setIfInBounds_toArray, List.set_cons_zero, List.set_cons_succ])
              refine anyH_take 20 (v := ?_) rfl (by kernel_rfl) (by kernel_rfl) (by kernel_rfl) (fun _ _ _ h => h) (by rfl) ⟨⟨s0, s1⟩, v0⟩ ?_ ?_
              rotate_left
              · (intro w hSw; (try dsimp only at hSw); go_split_ands; go_simp; try with_reducible rfl)
              (try simp only [Act.put, List.setIfInBounds_toArray, List.set_cons_zero, List.set_cons_succ])
              refine anyH_take 22 (v := ?_) rfl (by kernel_rfl) (by kernel_rfl) (by kernel_rfl) (fun _ _ _ h => h) (by rfl) ⟨⟨s0, s1⟩, v0⟩ ?_ ?_
              rotate_left
              · (intro w hSw; (try dsimp only at hSw); go_split_ands; go_simp; try with_reducible rfl)
              (try simp only [Act.put, List.setIfInBounds_toArray, List.set_cons_zero, List.set_cons_succ])
              refine anyH_take 23 (v := ?_) rfl (by kernel_rfl) (by kernel_rfl) (by kernel_rfl) (fun _ _ _ h => h) (by rfl) ⟨⟨s0, s1⟩, v0⟩ ?_ ?_
              rotate_left
              · (intro w hSw; (try dsimp only at hSw); go_split_ands; go_simp; try with_reducible rfl)
              (try simp only [Act.put, List.setIfInBounds_toArray, List.set_cons_zero, List.set_cons_succ])
              refine anyH_take 24 (v := ?_) rfl (by kernel_rfl) (by kernel_rfl) (by kernel_rfl) (fun _ _ _ h => h) (by rfl) ⟨⟨s0, s1⟩, v0⟩ ?_ ?_
              rotate_left
              · (intro w hSw; (try dsimp only at hSw); go_split_ands; go_simp; try with_reducible rfl)
              (try simp only [Act.put, List.setIfInBounds_toArray, List.set_cons_zero, List.set_cons_succ])
              refine anyH_take 25 (v := ?_) rfl (by kernel_rfl) (by kernel_rfl) (by kernel_rfl) (fun _ _ _ h => h) (by rfl) ⟨⟨s0, s1⟩, v0⟩ ?_ ?_
              rotate_left
              · (intro w hSw; (try dsimp only at hSw); go_split_ands; go_simp; try with_reducible rfl)
              (try simp only [Act.put, List.setIfInBounds_toArray, List.set_cons_zero, List.set_cons_succ])
              refine anyH_take 26 (v := ?_) rfl (by kernel_rfl) (by kernel_rfl) (by kernel_rfl) (fun _ _ _ h => h) (by rfl) ⟨⟨s0, s1⟩, v0⟩ ?_ ?_
              rotate_left
              · (intro w hSw; (try dsimp only at hSw); go_split_ands; go_simp; try with_reducible rfl)
              (try simp only [Act.put, List.setIfInBounds_toArray, List.set_cons_zero, List.set_cons_succ])
              refine anyH_take 27 (v := ?_) rfl (by kernel_rfl) (by kernel_rfl) (by kernel_rfl) (fun _ _ _ h => h) (by rfl) ⟨⟨s0, s1⟩, v0⟩ ?_ ?_
              rotate_left
              · (intro w hSw; (try dsimp only at hSw); go_split_ands; go_simp; try with_reducible rfl)
              (try simp only [Act.put, List.setIfInBounds_toArray, List.set_cons_zero, List.set_cons_succ])
              refine anyH_one 21 rfl (by kernel_rfl) (fun K hK => ?_)
              go_simp
              refine (diskFree_calls _ pn ⟨db, dr, df⟩ _ HDd.out).mono ?_
              rintro e we ⟨rfl, nf, rfl⟩
              have v1 := hcv _ (below_drewN (Below.refl _ _) nf)
              go_simp
              refine hK.out _ _ ⟨⟨s0, s1⟩, v1⟩ (fun hHeld => ?_)
              clear hK K
              (try simp only [Act.put, List.setIfInBounds_toArray, List.set_cons_zero, List.set_cons_succ])
              refine anyH_take 28 (v := ?_) rfl (by kernel_rfl) (by kernel_rfl) (by kernel_rfl) (fun _ _ _ h => h) (by rfl) ⟨⟨s0, s1⟩, v1⟩ ?_ ?_
              rotate_left
              · (intro w hSw; (try dsimp only at hSw); go_split_ands; go_simp; try with_reducible rfl)
              (try simp only [Act.put, List.setIfInBounds_toArray, List.set_cons_zero, List.set_cons_succ])
              refine anyH_take 29 (v := ?_) rfl (by kernel_rfl) (by kernel_rfl) (by kernel_rfl) (fun _ _ _ h => h) (by rfl) ⟨⟨s0, s1⟩, v1⟩ ?_ ?_
              rotate_left
              · (intro w hSw; (try dsimp only at hSw); go_split_ands; go_simp; try with_reducible rfl)
              (try simp only [Act.put, List.setIfInBounds_toArray, List.set_cons_zero, List.set_cons_succ])
              refine wpAnyH_done (by kernel_rfl) ?_ _
              clear hwr
              go_wp2
              go_roundw
              case rel => exact ⟨k + 1, pn, ⟨db, dr, df⟩, ⟨db, dr, rf⟩, by omega, rfl, by go_num, HDd.out.below (below_drewN (Below.refl _ _) _), ((HRn.out.below (Below.refl _ _).drew).below hbd).below (below_drewN (Below.refl _ _) _), HAn, below_drewN HBd.out _⟩
              case measure => simp [intOf]; omega
          · obtain rfl : q = k := by omega
            go_wp2_with fail
            refine (oFuse_calls NoT none none 3 _ (by decide) rfl).mono ?_
            rintro e w3 ⟨rfl, _, hm3⟩
            have b3 := below_mod hbl hm3 (fun _ h => h.elim) hbl.size
            go_wp2_with fail
            refine (oAppend_calls NoT none none [] (.slice none 0 0) _ rfl ⟨none, 0, rfl, by simp, by simp, Kd.Row.nil⟩).mono ?_
            rintro e w4 ⟨rfl, _, hm4⟩
            rw [show (oApp none []).2 = (1 : Int) from rfl]
            have b4 := below_mod b3 hm4 (fun _ h => h.elim) b3.size
            go_wp2_with fail
            refine (diskCut_nil _).mono ?_
            rintro e w5 ⟨rfl, rfl⟩
            go_wp2_with fail
            refine (oBytes_calls NoT none none _ rfl).mono ?_
            rintro e w6 ⟨A6, c6, rfl, _, hb6⟩
            rw [show (oB none).length = 0 from rfl]
            have b6 := bThen b4 hb6
            go_wp2_with fail
            refine (diskSize_nil _).mono ?_
            rintro e w7 ⟨rfl, rfl⟩
            go_wp2_with fail
            refine (diskFree_nil _).mono ?_
            rintro e w8 ⟨rfl, rfl⟩
            go_wp2_with fail
            refine (diskClone_nil _).mono ?_
            rintro e w9 ⟨rfl, rfl⟩
            go_wp2_with fail
            refine (works16_calls _).mono ?_
            rintro e wa ⟨rfl, hba⟩
            go_wp2
            go_ret
            exact ⟨rfl, bThen b6 hba⟩

theorem diskPlays_walk (W : World) (room : Int) (_hw : (Lit.int .i64 room).wf = true) (l : List ActS) (v : Value) (hl : Kd.act.slice.K W Any l [v]) (ol : (∀ y ∈ l, okAct y) ∧ l.length * 40 ≤ 140737488351232) :
    Calls Try.prog 11 #[.int .i64 room, v] W fun e w' => e = .returned (.bool true) ∧ Below W.heap.size W w' := diskPlays_calls room l v W hl ol.1
end Go.Proofs.Ytlckkcefkiffjaa
