import Derived.Test.YtahhhnbpohcbfaaRds
import Derived.Test.YtahhhnbpohcbfaaR01
import Derived.Test.YtahhhnbpohcbfaaBox
import Derived.OwnWalk
import Derived.Test.YtahhhnbpohcbfaaR17
import Derived.Test.YtahhhnbpohcbfaaPrp
namespace Go.Proofs.Ytahhhnbpohcbfaa
open Go.RowKit

/-! ### the document's reader: a string and a number in block g -/
def RfAt (w : World) (g : Nat) (R : RdS) : Prop := w.heap[g]? = some (.cells #[.string (mkB R.b), .int .i64 R.e] 97 (0, 0))
theorem RfAt.below {w w1 : World} {g : Nat} {R : RdS} (h : RfAt w g R) (hb : Below w.heap.size w w1) : RfAt w1 g R := (hb.block g (Array.getElem?_eq_some_iff.1 h).1).trans h
theorem RfAt.mod {w w1 : World} {g : Nat} {R : RdS} {F : Nat → Prop} (h : RfAt w g R) (hb : Mod F w w1) (hg : ¬ F g) : RfAt w1 g R := (hb.block g (Array.getElem?_eq_some_iff.1 h).1 hg).trans h
theorem RfAt.cells {w : World} {g : Nat} {R : RdS} (h : RfAt w g R) : w.cell? ⟨g, 0, none⟩ = some (.string (mkB R.b)) ∧ w.cell? ⟨g, 1, none⟩ = some (.int .i64 R.e) ∧ w.frozen? ⟨g, 0, none⟩ = false ∧ w.frozen? ⟨g, 1, none⟩ = false ∧ g < w.heap.size := by
  have h1 := cells_of_block h
  exact ⟨h1.1 0 _ rfl, h1.1 1 _ rfl, h1.2.1 0, h1.2.1 1, h1.2.2⟩
theorem RfAt.setE {w : World} {g : Nat} {R : RdS} (h : RfAt w g R) (e : Int) : RfAt (w.setCell ⟨g, 1, none⟩ (.int .i64 e)) g ⟨R.b, e⟩ := heap_set h 1 _
theorem RfAt.setB {w : World} {g : Nat} {R : RdS} (h : RfAt w g R) (b : List UInt8) : RfAt (w.setCell ⟨g, 0, none⟩ (.string (mkB b))) g ⟨b, R.e⟩ := heap_set h 0 _
theorem mod_one {w : World} {p : Addr} (u : Value) : Mod (fun k => k = p.block) w (w.setCell p u) := Mod.setCell (Mod.refl (fun k => k = p.block) w) (fun _ => rfl) u

set_option maxHeartbeats 800000 in
set_option maxRecDepth 100000 in
theorem rfFail_calls (g : Nat) (R : RdS) (e : Int) (w : World) (hd : RfAt w g R) : Calls Try.prog 71 #[.pointer (some ⟨g, 0, none⟩), .int .i64 e] w fun en w' => en = .returned (.tuple #[]) ∧ RfAt w' g (R.fail e) ∧ Mod (fun k => k = g) w w' := by
  have HD := hid hd
  obtain ⟨c0, c1, f0, f1, hg⟩ := hd.cells
  clear hd
  by_cases h0 : R.e = 0
  · have e0 : (R.e == (0 : Int)) = true := by rw [beq_iff_eq]; exact h0
    have HV := hid (show R.fail e = ⟨R.b, e⟩ by unfold RdS.fail; rw [if_pos h0])
    clear h0
    go_enter Try.func71, Try.ntmps71
    go_wp2
    go_end0
    exact ⟨rfl, by rw [HV.out]; exact HD.out.setE e, mod_one (p := ⟨g, 1, none⟩) _⟩
  · have e0 : (R.e == (0 : Int)) = false := by rw [beq_eq_false_iff_ne]; exact h0
    have HV := hid (show R.fail e = R by unfold RdS.fail; rw [if_neg h0])
    clear h0
    go_enter Try.func71, Try.ntmps71
    go_wp2
    go_end0
    exact ⟨rfl, by rw [HV.out]; exact HD.out, Mod.refl _ _⟩

set_option maxHeartbeats 800000 in
set_option maxRecDepth 100000 in
theorem rfEnd_calls (g : Nat) (R : RdS) (w : World) (hd : RfAt w g R) (hl : R.b.length ≤ 1000000) : Calls Try.prog 74 #[.pointer (some ⟨g, 0, none⟩)] w fun en w' => en = .returned (.int .i64 R.fin) ∧ w = w' := by
  obtain ⟨c0, c1, f0, f1, hg⟩ := hd.cells
  have s2 := mkB_size R.b
  clear hd
  by_cases h0 : R.e = 0
  · have e0 : (R.e == (0 : Int)) = true := by rw [beq_iff_eq]; exact h0
    have e1 : (R.e != (0 : Int)) = false := by rw [bne_eq_false_iff_eq]; exact h0
    by_cases hl : 0 < R.b.length
    · have hl2 : (0 : Int) < R.b.length := by omega
      have HV := hid (show R.fin = 3 by unfold RdS.fin; rw [if_neg (by simp [h0]), if_pos hl])
      clear h0
      go_enter Try.func74, Try.ntmps74
      go_wp2
      go_ret
      exact ⟨ret_int (by rw [HV.out]), rfl⟩
    · have hl2 : ¬ (0 : Int) < R.b.length := by omega
      have HV := hid (show R.fin = R.e by unfold RdS.fin; rw [if_neg (by simp [h0]), if_neg hl, h0])
      clear h0
      go_enter Try.func74, Try.ntmps74
      go_wp2
      go_ret
      exact ⟨ret_int (by rw [HV.out]), rfl⟩
  · have e0 : (R.e == (0 : Int)) = false := by rw [beq_eq_false_iff_ne]; exact h0
    have e1 : (R.e != (0 : Int)) = true := by rw [bne_iff_ne]; exact h0
    have HV := hid (show R.fin = R.e by unfold RdS.fin; rw [if_pos h0])
    clear h0
    go_enter Try.func74, Try.ntmps74
    go_wp2
    go_ret
    exact ⟨ret_int (by rw [HV.out]), rfl⟩
end Go.Proofs.Ytahhhnbpohcbfaa
namespace Go.Proofs.Ytahhhnbpohcbfaa
open Go.RowKit Go.Lib

/-- What Next answers. -/
def nextV (b : List UInt8) (most : Int) : Value := .tuple #[.int .i64 (nextN b most).2.1, .int .i64 (nextN b most).2.2, .int .i64 (nextN b most).1]

set_option maxHeartbeats 1600000 in
set_option maxRecDepth 100000 in
theorem rfNext_nil (most : Int) (w : World) : Calls Try.prog 90 #[.string (mkB []), .int .i64 most] w fun en w' => en = .returned (.tuple #[.int .i64 0, .int .i64 0, .int .i64 2]) ∧ Below w.heap.size w w' := by
  have s1 : (mkB []).size = 0 := rfl
  go_enter Try.func90, Try.ntmps90
  go_wp2
  go_ret3
  exact ⟨rfl, Below.refl _ _⟩

set_option maxHeartbeats 1600000 in
set_option maxRecDepth 100000 in
theorem rfNext_low (x : UInt8) (r : List UInt8) (most : Int) (w : World) (hl : r.length ≤ 1000000) (hx : x.toNat < 248 ∨ x.toNat = 255) : Calls Try.prog 90 #[.string (mkB (x :: r)), .int .i64 most] w fun en w' => en = .returned (nextV (x :: r) most) ∧ Below w.heap.size w w' := by
  have s1 : (mkB (x :: r)).size = r.length + 1 := by rw [mkB_size, List.length_cons]
  have b0 : bN (mkB (x :: r)) 0 = x.toNat := by
    have := data_at (s := mkB (x :: r)) (k := 0) (by rw [s1]; omega)
    rw [mkB_data] at this
    simp at this
    unfold bN
    rw [← this]
  have hbn := bN_at (mkB (x :: r))
  obtain ⟨s, hs⟩ : ∃ s, s = mkB (x :: r) := ⟨_, rfl⟩
  rw [← hs] at s1 b0 hbn ⊢
  have h00 : 0 < s.size := by omega
  have h01 : (0 : Int) < s.size := by omega
  have h02 : ((s.size : Int) == 0) = false := by rw [beq_eq_false_iff_ne]; omega
  have h03 : (s.size == 0) = false := by rw [beq_eq_false_iff_ne]; omega
  have hxl := x.toNat_lt
  have hsm : s.size ≤ 1000001 := by omega
  clear hs s1
  rcases hx with hx | hx
  · have hxi : ((x.toNat : Int) == 255) = false := by rw [beq_eq_false_iff_ne]; omega
    have hxj : (x.toNat == 255) = false := by rw [beq_eq_false_iff_ne]; omega
    have hxk : ¬ (248 : Int) ≤ x.toNat := by omega
    by_cases hm : max most 0 < (x.toNat : Int)
    · have HV := hid (show nextV (x :: r) most = .tuple #[.int .i64 0, .int .i64 0, .int .i64 4] by unfold nextV nextN; simp only; rw [if_pos hx, if_pos hm]; rfl)
      have h1 : most < (x.toNat : Int) := by omega
      have h2 : (0 : Int) < (x.toNat : Int) := by omega
      have h3 : 0 < x.toNat := by omega
      go_enter Try.func90, Try.ntmps90
      go_wp2
      go_ret3
      exact ⟨congrArg Ending.returned HV.out.symm, Below.refl _ _⟩
    · have HV := hid (show nextV (x :: r) most = .tuple #[.int .i64 x.toNat, .int .i64 1, .int .i64 0] by unfold nextV nextN; simp only; rw [if_pos hx, if_neg hm]; rfl)
      by_cases h1 : most < (x.toNat : Int)
      · have h3 : x.toNat = 0 := by omega
        have h2 : ¬ (0 : Int) < (x.toNat : Int) := by omega
        have h4 : ¬ 0 < x.toNat := by omega
        clear h3
        go_enter Try.func90, Try.ntmps90
        go_wp2
        go_ret3
        exact ⟨congrArg Ending.returned HV.out.symm, Below.refl _ _⟩
      · go_enter Try.func90, Try.ntmps90
        go_wp2
        go_ret3
        exact ⟨congrArg Ending.returned HV.out.symm, Below.refl _ _⟩
  · have HV := hid (show nextV (x :: r) most = .tuple #[.int .i64 0, .int .i64 0, .int .i64 3] by unfold nextV nextN; simp only; rw [if_neg (by omega), if_pos hx]; rfl)
    have hxi : ((x.toNat : Int) == 255) = true := by rw [beq_iff_eq]; omega
    have hxj : (x.toNat == 255) = true := by rw [beq_iff_eq]; omega
    go_enter Try.func90, Try.ntmps90
    go_wp2
    go_ret3
    exact ⟨congrArg Ending.returned HV.out.symm, Below.refl _ _⟩

set_option maxHeartbeats 3200000 in
set_option maxRecDepth 100000 in
theorem rfNext_long (x : UInt8) (r : List UInt8) (most : Int) (w : World) (hl : r.length ≤ 1000000) (hx : 248 ≤ x.toNat) (hx2 : x.toNat < 255) : Calls Try.prog 90 #[.string (mkB (x :: r)), .int .i64 most] w fun en w' => en = .returned (nextV (x :: r) most) ∧ Below w.heap.size w w' := by
  have s1 : (mkB (x :: r)).size = r.length + 1 := by rw [mkB_size, List.length_cons]
  have b0 : bN (mkB (x :: r)) 0 = x.toNat := by
    have := data_at (s := mkB (x :: r)) (k := 0) (by rw [s1]; omega)
    rw [mkB_data] at this
    simp at this
    unfold bN
    rw [← this]
  have HB : Hid (∀ k y, r[k]? = some y → bN (mkB (x :: r)) (k + 1) = y.toNat) := fun k y hy => by
    have hk := (List.getElem?_eq_some_iff.1 hy).1
    have := data_at (s := mkB (x :: r)) (k := k + 1) (by rw [s1]; omega)
    rw [mkB_data, List.getElem?_cons_succ, hy] at this
    unfold bN
    injection this with this
    rw [← this]
  have hbn := bN_at (mkB (x :: r))
  obtain ⟨s, hs⟩ : ∃ s, s = mkB (x :: r) := ⟨_, rfl⟩
  rw [← hs] at s1 b0 hbn HB ⊢
  obtain ⟨u, hu⟩ : ∃ u, u = x.toNat - 247 := ⟨_, rfl⟩
  have hxu : x.toNat = u + 247 := by omega
  rw [hxu] at b0
  have hu7 : u ≤ 7 := by omega
  have hu1 : 1 ≤ u := by omega
  have h00 : 0 < s.size := by omega
  have h01 : (0 : Int) < s.size := by omega
  have h02 : ((s.size : Int) == 0) = false := by rw [beq_eq_false_iff_ne]; omega
  have h03 : (s.size == 0) = false := by rw [beq_eq_false_iff_ne]; omega
  have h04 : ((u : Int) + 247 == 255) = false := by rw [beq_eq_false_iff_ne]; omega
  have h05 : (u + 247 == 255) = false := by rw [beq_eq_false_iff_ne]; omega
  have h06 : (248 : Int) ≤ (u : Int) + 247 := by omega
  have h07 : (u : Int) + 247 - 247 = u := by omega
  clear hs
  by_cases hsh : r.length < u
  · have HV := hid (show nextV (x :: r) most = .tuple #[.int .i64 0, .int .i64 0, .int .i64 2] by unfold nextV nextN; simp only; rw [if_neg (by omega), if_neg (by omega), ← hu, if_pos hsh]; rfl)
    have h1 : (s.size : Int) < 1 + u := by omega
    clear hu hxu
    go_enter Try.func90, Try.ntmps90
    go_wp2
    go_ret3
    exact ⟨congrArg Ending.returned HV.out.symm, Below.refl _ _⟩
  · obtain ⟨N, hN⟩ : ∃ N, N = valN (r.take u) := ⟨_, rfl⟩
    have hNl : N ≤ 72057594037927935 := by
      have h1 := valN_lt (r.take u)
      have h2 : (r.take u).length ≤ 7 := by rw [List.length_take]; omega
      have h3 : 256 ^ (r.take u).length ≤ 256 ^ 7 := Nat.pow_le_pow_right (by decide) h2
      rw [hN]; omega
    have HV := hid (show nextV (x :: r) most = (if N < 248 ∨ width N ≠ u then .tuple #[.int .i64 0, .int .i64 0, .int .i64 3] else if max most 0 < (N : Int) then .tuple #[.int .i64 0, .int .i64 0, .int .i64 4] else .tuple #[.int .i64 N, .int .i64 (1 + u), .int .i64 0]) by
      have hv : nextN (x :: r) most = if N < 248 ∨ width N ≠ u then (3, 0, 0) else if max most 0 < (N : Int) then (4, 0, 0) else (0, N, u + 1) := by
        unfold nextN; simp only; rw [if_neg (by omega), if_neg (by omega), ← hu, if_neg hsh, ← hN]
      unfold nextV
      rw [hv]
      split
      · rfl
      · split
        · rfl
        · show Value.tuple #[.int .i64 N, .int .i64 ((u + 1 : Nat) : Int), .int .i64 0] = _
          rw [show ((u + 1 : Nat) : Int) = 1 + (u : Int) by omega])
    have HN := hid hN
    have h1 : ¬ (s.size : Int) < 1 + u := by omega
    have HSZ := hid s1
    have HSH := hid hsh
    have hus : (u : Int) < s.size := by omega
    clear hu hxu hN s1 hsh
    go_enter Try.func90, Try.ntmps90
    go_wp2_with fail
    go_loopw [8, 9] (fun nv iv wr => ∃ j : Nat, j ≤ u ∧ nv = .int .i64 ((valN (r.take j) : Nat) : Int) ∧ iv = .int .i64 ((j : Int) + 1) ∧ w = wr) (fun _ iv _ => (u + 1) - (intOf iv).toNat)
    case atStart => exact ⟨0, by omega, rfl, rfl, rfl⟩
    case round =>
      obtain ⟨j, hj, rfl, rfl, rfl⟩ := hrel
      by_cases hlt : j < u
      · obtain ⟨y, hy⟩ : ∃ y, r[j]? = some y := ⟨_, List.getElem?_eq_getElem (by have := HSH.out; omega)⟩
        have hyb := HB.out j y hy
        have HV2 := hid (show valN (r.take (j + 1)) = valN (r.take j) * 256 + y.toNat by rw [take_snoc hy, valN_snoc])
        have hVl : valN (r.take j) < 281474976710656 := by
          have h1 := valN_lt (r.take j)
          have h2 : (r.take j).length ≤ 6 := by rw [List.length_take]; omega
          have h3 : 256 ^ (r.take j).length ≤ 256 ^ 6 := Nat.pow_le_pow_right (by decide) h2
          omega
        obtain ⟨M, hM⟩ : ∃ M, M = valN (r.take j) := ⟨_, rfl⟩
        rw [← hM] at HV2 hVl ⊢
        have hyl := y.toNat_lt
        have hw1 : IntKind.i64.wrap ((M : Int) * 256) = (M : Int) * 256 := IntWalk.i64_in _ (by omega)
        have hw2 : IntKind.i64.wrap ((M : Int) * 256 + y.toNat) = (M : Int) * 256 + y.toNat := IntWalk.i64_in _ (by omega)
        have hw3 : (0 : Int) ≤ (j : Int) + 1 := by omega
        have hw4 : ((j : Int) + 1).toNat = j + 1 := by omega
        have hw5 : (j : Int) + 1 < (s.size : Int) := by omega
        have hw6 : (j : Int) + 1 ≤ u := by omega
        have hw7 : IntKind.i64.wrap ((j : Int) + 1 + 1) = (j : Int) + 1 + 1 := IntWalk.i64_in _ (by omega)
        have hw8 : j + 1 < s.size := by omega
        clear hM hy
        go_wp2
        go_roundw
        case rel => exact ⟨j + 1, by omega, congrArg (Value.int .i64) (by rw [HV2.out]; omega), congrArg (Value.int .i64) (by omega), trivial⟩
        case measure => simp [intOf]; omega
      · obtain rfl : u = j := by omega
        have hge : ¬ (u : Int) + 1 ≤ u := by omega
        rw [← HN.out]
        by_cases hs1 : N < 248
        · have hsI : (N : Int) < 248 := by omega
          go_wp2
          go_ret3
          exact ⟨congrArg Ending.returned (HV.out.trans (if_pos (.inl hs1))).symm, Below.refl _ _⟩
        · have hsI : ¬ (N : Int) < 248 := by omega
          obtain ⟨z, hz⟩ : ∃ z, z = mkB (be N (width N)) := ⟨_, rfl⟩
          have hzs : z.size = width N := by rw [hz, mkB_size, be_len]
          have HZ := hid hz
          clear hz
          by_cases hw : width N = u
          · rw [hw] at hzs
            go_wp2_with fail
            refine (rbytes_calls N _ (by unfold maxNum; omega)).mono ?_
            rintro e w1 ⟨rfl, hb1⟩
            rw [← HZ.out]
            by_cases hm : max most 0 < (N : Int)
            · have hm1 : most < (N : Int) := by omega
              have hm2 : (0 : Int) < N := by omega
              have hm3 : 0 < N := by omega
              go_wp2
              go_ret3
              exact ⟨congrArg Ending.returned (HV.out.trans ((if_neg (by omega)).trans (if_pos hm))).symm, hb1⟩
            · have hm1 : ¬ most < (N : Int) := by omega
              go_wp2
              go_ret3
              exact ⟨congrArg Ending.returned (HV.out.trans ((if_neg (by omega)).trans (if_neg (show ¬ max most 0 < (N : Int) by omega)))).symm, hb1⟩
          · have hw1 : ((width N : Int) == (u : Int)) = false := by rw [beq_eq_false_iff_ne]; omega
            have hw2 : ((width N : Int) != (u : Int)) = true := by rw [bne_iff_ne]; omega
            go_wp2_with fail
            refine (rbytes_calls N _ (by unfold maxNum; omega)).mono ?_
            rintro e w1 ⟨rfl, hb1⟩
            rw [← HZ.out]
            go_wp2
            go_ret3
            exact ⟨congrArg Ending.returned (HV.out.trans (if_pos (.inr hw))).symm, hb1⟩

theorem rfNext_calls (b : List UInt8) (most : Int) (w : World) (hl : b.length ≤ 1000000) : Calls Try.prog 90 #[.string (mkB b), .int .i64 most] w fun en w' => en = .returned (nextV b most) ∧ Below w.heap.size w w' := by
  cases b with
  | nil => exact rfNext_nil most w
  | cons x r =>
    have hx := x.toNat_lt
    rw [List.length_cons] at hl
    by_cases h1 : x.toNat < 248 ∨ x.toNat = 255
    · exact rfNext_low x r most w (by omega) h1
    · exact rfNext_long x r most w (by omega) (by omega) (by omega)
end Go.Proofs.Ytahhhnbpohcbfaa
namespace Go.Proofs.Ytahhhnbpohcbfaa
open Go.RowKit

theorem mod_below {F : Nat → Prop} {w w1 w2 : World} (h : Below w.heap.size w w1) (k : Mod F w1 w2) : Mod F w w2 := (Mod.of_below h).trans k (fun _ _ h => h)

set_option maxHeartbeats 1600000 in
set_option maxRecDepth 100000 in
theorem rfNum_calls (g : Nat) (R : RdS) (most : Int) (w : World) (hd : RfAt w g R) (hl : R.b.length ≤ 1000000) : Calls Try.prog 70 #[.pointer (some ⟨g, 0, none⟩), .int .i64 most] w fun en w' => en = .returned (.int .i64 (R.num most).1) ∧ RfAt w' g (R.num most).2 ∧ Mod (fun k => k = g) w w' := by
  have HD := hid hd
  obtain ⟨c0, c1, f0, f1, hg⟩ := hd.cells
  clear hd
  have s2 := mkB_size R.b
  by_cases h0 : R.e = 0
  · have e0 : (R.e == (0 : Int)) = true := by rw [beq_iff_eq]; exact h0
    have e1 : (R.e != (0 : Int)) = false := by rw [bne_eq_false_iff_eq]; exact h0
    have H0 := hid h0
    clear h0
    by_cases hz : (nextN R.b most).1 = 0
    · obtain ⟨n1, n2, n3, n4, n5⟩ := nextN_ok hz
      have HN := hid (show nextV R.b most = .tuple #[.int .i64 (nextN R.b most).2.1, .int .i64 (nextN R.b most).2.2, .int .i64 0] by unfold nextV; rw [hz])
      have HV := hid (show R.num most = (((nextN R.b most).2.1 : Int), ⟨R.b.drop (nextN R.b most).2.2, 0⟩) by unfold RdS.num; rw [if_neg (by simp [H0.out]), if_neg (by simp [hz])])
      obtain ⟨K, hK⟩ : ∃ K, K = (nextN R.b most).2.2 := ⟨_, rfl⟩
      obtain ⟨N, hN⟩ : ∃ N, N = (nextN R.b most).2.1 := ⟨_, rfl⟩
      rw [← hK] at n1 n2 n5 HV HN
      rw [← hN] at n3 n4 HV HN
      clear hK hN hz
      have hk1 : (K : Int) ≤ R.b.length := by omega
      have hk2 : K ≤ (mkB R.b).size := by omega
      go_enter Try.func70, Try.ntmps70
      go_wp2_with fail
      refine (rfNext_calls R.b most _ hl).mono ?_
      rintro e w1 ⟨rfl, hb⟩
      rw [HN.out]
      obtain ⟨d0, d1, i0, i1, hg1⟩ := (HD.out.below hb).cells
      have HB := hid hb
      clear hb c0 c1 f0 f1
      go_wp2
      go_ret
      rw [HV.out, mkB_extract]
      have hx := ((HD.out.below HB.out).setE 0).setB ((R.b.drop K).take (R.b.length - K))
      rw [List.take_of_length_le (by simp)] at hx ⊢
      exact ⟨rfl, hx, mod_below HB.out ((mod_one (p := ⟨g, 1, none⟩) _).setCell (p := ⟨g, 0, none⟩) (fun _ => rfl) _)⟩
    · have HV := hid (show R.num most = (0, ⟨R.b, (nextN R.b most).1⟩) by unfold RdS.num; rw [if_neg (by simp [H0.out]), if_pos hz])
      obtain ⟨E, hE⟩ : ∃ E, E = (nextN R.b most).1 := ⟨_, rfl⟩
      have hz1 : (E == (0 : Int)) = false := by rw [beq_eq_false_iff_ne, hE]; exact hz
      have hz2 : (E != (0 : Int)) = true := by rw [bne_iff_ne, hE]; exact hz
      have HN := hid (show nextV R.b most = .tuple #[.int .i64 (nextN R.b most).2.1, .int .i64 (nextN R.b most).2.2, .int .i64 E] by unfold nextV; rw [hE])
      rw [← hE] at HV
      clear hE hz
      go_enter Try.func70, Try.ntmps70
      go_wp2_with fail
      refine (rfNext_calls R.b most _ hl).mono ?_
      rintro e w1 ⟨rfl, hb⟩
      rw [HN.out]
      obtain ⟨d0, d1, i0, i1, hg1⟩ := (HD.out.below hb).cells
      have HB := hid hb
      clear hb c0 c1 f0 f1
      go_wp2
      go_ret
      rw [HV.out]
      exact ⟨rfl, (HD.out.below HB.out).setE E, mod_below HB.out (mod_one (p := ⟨g, 1, none⟩) _)⟩
  · have e0 : (R.e == (0 : Int)) = false := by rw [beq_eq_false_iff_ne]; exact h0
    have e1 : (R.e != (0 : Int)) = true := by rw [bne_iff_ne]; exact h0
    have HV := hid (show R.num most = (0, R) by unfold RdS.num; rw [if_pos h0])
    clear h0
    go_enter Try.func70, Try.ntmps70
    go_wp2
    go_ret
    rw [HV.out]
    exact ⟨rfl, HD.out, Mod.refl _ _⟩

set_option maxHeartbeats 3200000 in
set_option maxRecDepth 100000 in
theorem rfText_calls (g : Nat) (R : RdS) (most : Int) (w : World) (hd : RfAt w g R) (hl : R.b.length ≤ 1000000) : Calls Try.prog 73 #[.pointer (some ⟨g, 0, none⟩), .int .i64 most] w fun en w' => en = .returned (.string (mkB (R.text most).1)) ∧ RfAt w' g (R.text most).2 ∧ Mod (fun k => k = g) w w' := by
  have HD := hid hd
  obtain ⟨c0, c1, f0, f1, hg⟩ := hd.cells
  clear hd
  have s2 := mkB_size R.b
  by_cases h0 : R.e = 0
  · have e0 : (R.e == (0 : Int)) = true := by rw [beq_iff_eq]; exact h0
    have e1 : (R.e != (0 : Int)) = false := by rw [bne_eq_false_iff_eq]; exact h0
    have H0 := hid h0
    clear h0
    by_cases hz : (nextN R.b most).1 = 0
    · obtain ⟨n1, n2, n3, n4, n5⟩ := nextN_ok hz
      have HN := hid (show nextV R.b most = .tuple #[.int .i64 (nextN R.b most).2.1, .int .i64 (nextN R.b most).2.2, .int .i64 0] by unfold nextV; rw [hz])
      by_cases hs : R.b.length < (nextN R.b most).2.2 + (nextN R.b most).2.1
      · have HV := hid (show R.text most = ([], ⟨R.b, 2⟩) by unfold RdS.text; rw [if_neg (by simp [H0.out]), if_neg (by simp [hz]), if_pos hs])
        obtain ⟨K, hK⟩ : ∃ K, K = (nextN R.b most).2.2 := ⟨_, rfl⟩
        obtain ⟨N, hN⟩ : ∃ N, N = (nextN R.b most).2.1 := ⟨_, rfl⟩
        rw [← hK] at n1 n2 n5 hs HN
        rw [← hN] at n3 n4 hs HN
        clear hK hN hz
        have hs1 : (R.b.length : Int) - K < N := by omega
        have hw : IntKind.i64.wrap ((R.b.length : Int) - K) = R.b.length - K := IntWalk.i64_in _ (by omega)
        go_enter Try.func73, Try.ntmps73
        go_wp2_with fail
        refine (rfNext_calls R.b most _ hl).mono ?_
        rintro e w1 ⟨rfl, hb⟩
        rw [HN.out]
        obtain ⟨d0, d1, i0, i1, hg1⟩ := (HD.out.below hb).cells
        have HB := hid hb
        clear hb c0 c1 f0 f1
        go_wp2
        go_ret
        rw [HV.out]
        exact ⟨rfl, ((HD.out.below HB.out).setE 0).setE 2, mod_below HB.out ((mod_one (p := ⟨g, 1, none⟩) _).setCell (p := ⟨g, 1, none⟩) (fun _ => rfl) _)⟩
      · have HV := hid (show R.text most = ((R.b.drop (nextN R.b most).2.2).take (nextN R.b most).2.1, ⟨R.b.drop ((nextN R.b most).2.2 + (nextN R.b most).2.1), 0⟩) by unfold RdS.text; rw [if_neg (by simp [H0.out]), if_neg (by simp [hz]), if_neg hs])
        obtain ⟨K, hK⟩ : ∃ K, K = (nextN R.b most).2.2 := ⟨_, rfl⟩
        obtain ⟨N, hN⟩ : ∃ N, N = (nextN R.b most).2.1 := ⟨_, rfl⟩
        rw [← hK] at n1 n2 n5 hs HN HV
        rw [← hN] at n3 n4 hs HN HV
        clear hK hN hz
        have hs1 : ¬ (R.b.length : Int) - K < N := by omega
        have hw : IntKind.i64.wrap ((R.b.length : Int) - K) = R.b.length - K := IntWalk.i64_in _ (by omega)
        have hw2 : IntKind.i64.wrap ((K : Int) + N) = K + N := IntWalk.i64_in _ (by omega)
        have hw3 : (0 : Int) ≤ (K : Int) + N := by omega
        have hw4 : ((K : Int) + N).toNat = K + N := by omega
        have hw5 : (K : Int) + N ≤ R.b.length := by omega
        have hw6 : (K : Int) ≤ (K : Int) + N := by omega
        have hw7 : K + N ≤ R.b.length := by omega
        go_enter Try.func73, Try.ntmps73
        go_wp2_with fail
        refine (rfNext_calls R.b most _ hl).mono ?_
        rintro e w1 ⟨rfl, hb⟩
        rw [HN.out]
        obtain ⟨d0, d1, i0, i1, hg1⟩ := (HD.out.below hb).cells
        have HB := hid hb
        clear hb c0 c1 f0 f1
        go_wp2
        go_ret
        rw [HV.out, mkB_extract, mkB_extract, Nat.add_sub_cancel_left]
        have hx := ((HD.out.below HB.out).setE 0).setB ((R.b.drop (K + N)).take (R.b.length - (K + N)))
        rw [List.take_of_length_le (l := R.b.drop (K + N)) (by simp)] at hx ⊢
        exact ⟨rfl, hx, mod_below HB.out ((mod_one (p := ⟨g, 1, none⟩) _).setCell (p := ⟨g, 0, none⟩) (fun _ => rfl) _)⟩
    · have HV := hid (show R.text most = ([], ⟨R.b, (nextN R.b most).1⟩) by unfold RdS.text; rw [if_neg (by simp [H0.out]), if_pos hz])
      obtain ⟨E, hE⟩ : ∃ E, E = (nextN R.b most).1 := ⟨_, rfl⟩
      have hz1 : (E == (0 : Int)) = false := by rw [beq_eq_false_iff_ne, hE]; exact hz
      have hz2 : (E != (0 : Int)) = true := by rw [bne_iff_ne, hE]; exact hz
      have HN := hid (show nextV R.b most = .tuple #[.int .i64 (nextN R.b most).2.1, .int .i64 (nextN R.b most).2.2, .int .i64 E] by unfold nextV; rw [hE])
      rw [← hE] at HV
      clear hE hz
      go_enter Try.func73, Try.ntmps73
      go_wp2_with fail
      refine (rfNext_calls R.b most _ hl).mono ?_
      rintro e w1 ⟨rfl, hb⟩
      rw [HN.out]
      obtain ⟨d0, d1, i0, i1, hg1⟩ := (HD.out.below hb).cells
      have HB := hid hb
      clear hb c0 c1 f0 f1
      go_wp2
      go_ret
      rw [HV.out]
      exact ⟨rfl, (HD.out.below HB.out).setE E, mod_below HB.out (mod_one (p := ⟨g, 1, none⟩) _)⟩
  · have e0 : (R.e == (0 : Int)) = false := by rw [beq_eq_false_iff_ne]; exact h0
    have e1 : (R.e != (0 : Int)) = true := by rw [bne_iff_ne]; exact h0
    have HV := hid (show R.text most = ([], R) by unfold RdS.text; rw [if_pos h0])
    clear h0
    go_enter Try.func73, Try.ntmps73
    go_wp2
    go_ret
    rw [HV.out]
    exact ⟨rfl, HD.out, Mod.refl _ _⟩

set_option maxHeartbeats 1600000 in
set_option maxRecDepth 100000 in
/-- A field whose least is 0. -/
theorem rfField0_calls (g : Nat) (R : RdS) (k : Int) (b : Nat) (f most : Int) (w : World) (hd : RfAt w g R) (hl : R.b.length ≤ 1000000) (hb : b < 5) (hf : f = (b : Int) + 1) : Calls Try.prog 72 #[.pointer (some ⟨g, 0, none⟩), .int .i64 k, .int .i64 f, .int .i64 0, .int .i64 most] w fun en w' => en = .returned (.int .i64 (R.opt (hasF k (2 ^ b)) most).1) ∧ RfAt w' g (R.opt (hasF k (2 ^ b)) most).2 ∧ Mod (fun k => k = g) w w' := by
  have HD := hid hd
  clear hd
  obtain ⟨t, ht⟩ : ∃ t, t = hasF k (2 ^ b) := ⟨_, rfl⟩
  rw [← ht]
  have HT := hid ht
  clear ht
  have h0 := (R.num_0 most).1
  have HF := hid hf
  clear hf
  cases t
  · go_enter Try.func72, Try.ntmps72
    go_wp2_with fail
    refine (rhas17_calls k b f _ hb HF.out).mono ?_
    rintro e w1 ⟨rfl, rfl⟩
    rw [← HT.out]
    go_wp2
    go_ret
    exact ⟨rfl, HD.out, Mod.refl _ _⟩
  · obtain ⟨z, hz⟩ : ∃ z, z = (R.num most).1 := ⟨_, rfl⟩
    rw [← hz] at h0
    have HZ := hid hz
    have h1 : ¬ z < 0 := by omega
    clear hz
    go_enter Try.func72, Try.ntmps72
    go_wp2_with fail
    refine (rhas17_calls k b f _ hb HF.out).mono ?_
    rintro e w1 ⟨rfl, rfl⟩
    rw [← HT.out]
    go_wp2_with fail
    refine (rfNum_calls g R most _ HD.out hl).mono ?_
    rintro e w1 ⟨rfl, h2, h3⟩
    rw [← HZ.out]
    have H2 := hid h2
    have H3 := hid h3
    clear h2 h3
    go_wp2
    go_ret
    exact ⟨ret_int HZ.out, H2.out, H3.out⟩
set_option maxHeartbeats 1600000 in
set_option maxRecDepth 100000 in
/-- A field whose least is 1. -/
theorem rfField1_calls (g : Nat) (R : RdS) (k : Int) (b : Nat) (f most : Int) (w : World) (hd : RfAt w g R) (hl : R.b.length ≤ 1000000) (hb : b < 5) (hf : f = (b : Int) + 1) : Calls Try.prog 72 #[.pointer (some ⟨g, 0, none⟩), .int .i64 k, .int .i64 f, .int .i64 1, .int .i64 most] w fun en w' => en = .returned (.int .i64 (R.optLeast (hasF k (2 ^ b)) most).1) ∧ RfAt w' g (R.optLeast (hasF k (2 ^ b)) most).2 ∧ Mod (fun k => k = g) w w' := by
  have HD := hid hd
  clear hd
  obtain ⟨t, ht⟩ : ∃ t, t = hasF k (2 ^ b) := ⟨_, rfl⟩
  rw [← ht]
  have HT := hid ht
  clear ht
  have h0 := (R.num_0 most).1
  have HF := hid hf
  clear hf
  cases t
  · go_enter Try.func72, Try.ntmps72
    go_wp2_with fail
    refine (rhas17_calls k b f _ hb HF.out).mono ?_
    rintro e w1 ⟨rfl, rfl⟩
    rw [← HT.out]
    go_wp2
    go_ret
    exact ⟨rfl, HD.out, Mod.refl _ _⟩
  · obtain ⟨z, hz⟩ : ∃ z, z = (R.num most).1 := ⟨_, rfl⟩
    rw [← hz] at h0
    have HZ := hid hz
    by_cases h1 : z = 0
    · have HV := hid (show R.optLeast true most = (0, (R.num most).2.fail 3) by unfold RdS.optLeast RdS.least; rw [if_pos rfl, if_pos (by rw [← hz]; exact h1)])
      subst h1
      clear hz
      go_enter Try.func72, Try.ntmps72
      go_wp2_with fail
      refine (rhas17_calls k b f _ hb HF.out).mono ?_
      rintro e w1 ⟨rfl, rfl⟩
      rw [← HT.out]
      go_wp2_with fail
      refine (rfNum_calls g R most _ HD.out hl).mono ?_
      rintro e w1 ⟨rfl, h2, h3⟩
      rw [← HZ.out]
      have H2 := hid h2
      have H3 := hid h3
      clear h2 h3
      go_wp2_with fail
      refine (rfFail_calls g _ 3 _ H2.out).mono ?_
      rintro e w2 ⟨rfl, h4, h5⟩
      have H4 := hid h4
      have H5 := hid h5
      clear h4 h5
      go_wp2
      go_ret
      rw [HV.out]
      exact ⟨rfl, H4.out, H3.out.trans H5.out (fun _ _ h => h)⟩
    · have HV := hid (show R.optLeast true most = R.num most by unfold RdS.optLeast RdS.least; rw [if_pos rfl, if_neg (by rw [← hz]; exact h1)])
      have h2 : ¬ z < 1 := by omega
      clear hz
      go_enter Try.func72, Try.ntmps72
      go_wp2_with fail
      refine (rhas17_calls k b f _ hb HF.out).mono ?_
      rintro e w1 ⟨rfl, rfl⟩
      rw [← HT.out]
      go_wp2_with fail
      refine (rfNum_calls g R most _ HD.out hl).mono ?_
      rintro e w1 ⟨rfl, h2, h3⟩
      rw [← HZ.out]
      have H2 := hid h2
      have H3 := hid h3
      clear h2 h3
      go_wp2
      go_ret
      rw [HV.out]
      exact ⟨ret_int HZ.out, H2.out, H3.out⟩
end Go.Proofs.Ytahhhnbpohcbfaa
