import Derived.Test.YtahhhnbpohcbfaaRf
import Derived.OwnWalk
namespace Go.Proofs.Ytahhhnbpohcbfaa
open Go.RowKit Go.Lib

/-- What Next answers. -/
def nextV (b : List UInt8) (most : Int) : Value := .tuple #[.int .i64 (nextN b most).2.1, .int .i64 (nextN b most).2.2, .int .i64 (nextN b most).1]

set_option maxHeartbeats 1600000 in
set_option maxRecDepth 100000 in
theorem rfNext_nil (most : Int) (w : World) : Calls Try.prog 90 #[.string (mkB []), .int .i64 most] w fun en w' => en = .returned (.tuple #[.int .i64 0, .int .i64 0, .int .i64 2]) ∧ Below w.heap.size w w' := by
  have s1 : (mkB []).size = 0 := rfl
  go_enter Try.func90, Try.ntmps90
  go_wp2
  go_ret3
  exact ⟨rfl, Below.refl _ _⟩

set_option maxHeartbeats 1600000 in
set_option maxRecDepth 100000 in
theorem rfNext_low (x : UInt8) (r : List UInt8) (most : Int) (w : World) (hl : r.length ≤ 1000000) (hx : x.toNat < 248 ∨ x.toNat = 255) : Calls Try.prog 90 #[.string (mkB (x :: r)), .int .i64 most] w fun en w' => en = .returned (nextV (x :: r) most) ∧ Below w.heap.size w w' := by
  have s1 : (mkB (x :: r)).size = r.length + 1 := by rw [mkB_size, List.length_cons]
  have b0 : bN (mkB (x :: r)) 0 = x.toNat := by
    have := data_at (s := mkB (x :: r)) (k := 0) (by rw [s1]; omega)
    rw [mkB_data] at this
    simp at this
    unfold bN
    rw [← this]
  have hbn := bN_at (mkB (x :: r))
  obtain ⟨s, hs⟩ : ∃ s, s = mkB (x :: r) := ⟨_, rfl⟩
  rw [← hs] at s1 b0 hbn ⊢
  have h00 : 0 < s.size := by omega
  have h01 : (0 : Int) < s.size := by omega
  have h02 : ((s.size : Int) == 0) = false := by rw [beq_eq_false_iff_ne]; omega
  have h03 : (s.size == 0) = false := by rw [beq_eq_false_iff_ne]; omega
  have hxl := x.toNat_lt
  have hsm : s.size ≤ 1000001 := by omega
  clear hs s1
  rcases hx with hx | hx
  · have hxi : ((x.toNat : Int) == 255) = false := by rw [beq_eq_false_iff_ne]; omega
    have hxj : (x.toNat == 255) = false := by rw [beq_eq_false_iff_ne]; omega
    have hxk : ¬ (248 : Int) ≤ x.toNat := by omega
    by_cases hm : max most 0 < (x.toNat : Int)
    · have HV := hid (show nextV (x :: r) most = .tuple #[.int .i64 0, .int .i64 0, .int .i64 4] by unfold nextV nextN; simp only; rw [if_pos hx, if_pos hm]; rfl)
      have h1 : most < (x.toNat : Int) := by omega
      have h2 : (0 : Int) < (x.toNat : Int) := by omega
      have h3 : 0 < x.toNat := by omega
      go_enter Try.func90, Try.ntmps90
      go_wp2
      go_ret3
      exact ⟨congrArg Ending.returned HV.out.symm, Below.refl _ _⟩
    · have HV := hid (show nextV (x :: r) most = .tuple #[.int .i64 x.toNat, .int .i64 1, .int .i64 0] by unfold nextV nextN; simp only; rw [if_pos hx, if_neg hm]; rfl)
      by_cases h1 : most < (x.toNat : Int)
      · have h3 : x.toNat = 0 := by omega
        have h2 : ¬ (0 : Int) < (x.toNat : Int) := by omega
        have h4 : ¬ 0 < x.toNat := by omega
        clear h3
        go_enter Try.func90, Try.ntmps90
        go_wp2
        go_ret3
        exact ⟨congrArg Ending.returned HV.out.symm, Below.refl _ _⟩
      · go_enter Try.func90, Try.ntmps90
        go_wp2
        go_ret3
        exact ⟨congrArg Ending.returned HV.out.symm, Below.refl _ _⟩
  · have HV := hid (show nextV (x :: r) most = .tuple #[.int .i64 0, .int .i64 0, .int .i64 3] by unfold nextV nextN; simp only; rw [if_neg (by omega), if_pos hx]; rfl)
    have hxi : ((x.toNat : Int) == 255) = true := by rw [beq_iff_eq]; omega
    have hxj : (x.toNat == 255) = true := by rw [beq_iff_eq]; omega
    go_enter Try.func90, Try.ntmps90
    go_wp2
    go_ret3
    exact ⟨congrArg Ending.returned HV.out.symm, Below.refl _ _⟩

set_option maxHeartbeats 3200000 in
set_option maxRecDepth 100000 in
theorem rfNext_long (x : UInt8) (r : List UInt8) (most : Int) (w : World) (hl : r.length ≤ 1000000) (hx : 248 ≤ x.toNat) (hx2 : x.toNat < 255) : Calls Try.prog 90 #[.string (mkB (x :: r)), .int .i64 most] w fun en w' => en = .returned (nextV (x :: r) most) ∧ Below w.heap.size w w' := by
  have s1 : (mkB (x :: r)).size = r.length + 1 := by rw [mkB_size, List.length_cons]
  have b0 : bN (mkB (x :: r)) 0 = x.toNat := by
    have := data_at (s := mkB (x :: r)) (k := 0) (by rw [s1]; omega)
    rw [mkB_data] at this
    simp at this
    unfold bN
    rw [← this]
  have HB : Hid (∀ k y, r[k]? = some y → bN (mkB (x :: r)) (k + 1) = y.toNat) := fun k y hy => by
    have hk := (List.getElem?_eq_some_iff.1 hy).1
    have := data_at (s := mkB (x :: r)) (k := k + 1) (by rw [s1]; omega)
    rw [mkB_data, List.getElem?_cons_succ, hy] at this
    unfold bN
    injection this with this
    rw [← this]
  have hbn := bN_at (mkB (x :: r))
  obtain ⟨s, hs⟩ : ∃ s, s = mkB (x :: r) := ⟨_, rfl⟩
  rw [← hs] at s1 b0 hbn HB ⊢
  obtain ⟨u, hu⟩ : ∃ u, u = x.toNat - 247 := ⟨_, rfl⟩
  have hxu : x.toNat = u + 247 := by omega
  rw [hxu] at b0
  have hu7 : u ≤ 7 := by omega
  have hu1 : 1 ≤ u := by omega
  have h00 : 0 < s.size := by omega
  have h01 : (0 : Int) < s.size := by omega
  have h02 : ((s.size : Int) == 0) = false := by rw [beq_eq_false_iff_ne]; omega
  have h03 : (s.size == 0) = false := by rw [beq_eq_false_iff_ne]; omega
  have h04 : ((u : Int) + 247 == 255) = false := by rw [beq_eq_false_iff_ne]; omega
  have h05 : (u + 247 == 255) = false := by rw [beq_eq_false_iff_ne]; omega
  have h06 : (248 : Int) ≤ (u : Int) + 247 := by omega
  have h07 : (u : Int) + 247 - 247 = u := by omega
  clear hs
  by_cases hsh : r.length < u
  · have HV := hid (show nextV (x :: r) most = .tuple #[.int .i64 0, .int .i64 0, .int .i64 2] by unfold nextV nextN; simp only; rw [if_neg (by omega), if_neg (by omega), ← hu, if_pos hsh]; rfl)
    have h1 : (s.size : Int) < 1 + u := by omega
    clear hu hxu
    go_enter Try.func90, Try.ntmps90
    go_wp2
    go_ret3
    exact ⟨congrArg Ending.returned HV.out.symm, Below.refl _ _⟩
  · obtain ⟨N, hN⟩ : ∃ N, N = valN (r.take u) := ⟨_, rfl⟩
    have hNl : N ≤ 72057594037927935 := by
      have h1 := valN_lt (r.take u)
      have h2 : (r.take u).length ≤ 7 := by rw [List.length_take]; omega
      have h3 : 256 ^ (r.take u).length ≤ 256 ^ 7 := Nat.pow_le_pow_right (by decide) h2
      rw [hN]; omega
    have HV := hid (show nextV (x :: r) most = (if N < 248 ∨ width N ≠ u then .tuple #[.int .i64 0, .int .i64 0, .int .i64 3] else if max most 0 < (N : Int) then .tuple #[.int .i64 0, .int .i64 0, .int .i64 4] else .tuple #[.int .i64 N, .int .i64 (1 + u), .int .i64 0]) by
      have hv : nextN (x :: r) most = if N < 248 ∨ width N ≠ u then (3, 0, 0) else if max most 0 < (N : Int) then (4, 0, 0) else (0, N, u + 1) := by
        unfold nextN; simp only; rw [if_neg (by omega), if_neg (by omega), ← hu, if_neg hsh, ← hN]
      unfold nextV
      rw [hv]
      split
      · rfl
      · split
        · rfl
        · show Value.tuple #[.int .i64 N, .int .i64 ((u + 1 : Nat) : Int), .int .i64 0] = _
          rw [show ((u + 1 : Nat) : Int) = 1 + (u : Int) by omega])
    have HN := hid hN
    have h1 : ¬ (s.size : Int) < 1 + u := by omega
    have HSZ := hid s1
    have HSH := hid hsh
    have hus : (u : Int) < s.size := by omega
    clear hu hxu hN s1 hsh
    go_enter Try.func90, Try.ntmps90
    go_wp2_with fail
    go_loopw [8, 9] (fun nv iv wr => ∃ j : Nat, j ≤ u ∧ nv = .int .i64 ((valN (r.take j) : Nat) : Int) ∧ iv = .int .i64 ((j : Int) + 1) ∧ w = wr) (fun _ iv _ => (u + 1) - (intOf iv).toNat)
    case atStart => exact ⟨0, by omega, rfl, rfl, rfl⟩
    case round =>
      obtain ⟨j, hj, rfl, rfl, rfl⟩ := hrel
      by_cases hlt : j < u
      · obtain ⟨y, hy⟩ : ∃ y, r[j]? = some y := ⟨_, List.getElem?_eq_getElem (by have := HSH.out; omega)⟩
        have hyb := HB.out j y hy
        have HV2 := hid (show valN (r.take (j + 1)) = valN (r.take j) * 256 + y.toNat by rw [take_snoc hy, valN_snoc])
        have hVl : valN (r.take j) < 281474976710656 := by
          have h1 := valN_lt (r.take j)
          have h2 : (r.take j).length ≤ 6 := by rw [List.length_take]; omega
          have h3 : 256 ^ (r.take j).length ≤ 256 ^ 6 := Nat.pow_le_pow_right (by decide) h2
          omega
        obtain ⟨M, hM⟩ : ∃ M, M = valN (r.take j) := ⟨_, rfl⟩
        rw [← hM] at HV2 hVl ⊢
        have hyl := y.toNat_lt
        have hw1 : IntKind.i64.wrap ((M : Int) * 256) = (M : Int) * 256 := IntWalk.i64_in _ (by omega)
        have hw2 : IntKind.i64.wrap ((M : Int) * 256 + y.toNat) = (M : Int) * 256 + y.toNat := IntWalk.i64_in _ (by omega)
        have hw3 : (0 : Int) ≤ (j : Int) + 1 := by omega
        have hw4 : ((j : Int) + 1).toNat = j + 1 := by omega
        have hw5 : (j : Int) + 1 < (s.size : Int) := by omega
        have hw6 : (j : Int) + 1 ≤ u := by omega
        have hw7 : IntKind.i64.wrap ((j : Int) + 1 + 1) = (j : Int) + 1 + 1 := IntWalk.i64_in _ (by omega)
        have hw8 : j + 1 < s.size := by omega
        clear hM hy
        go_wp2
        go_roundw
        case rel => exact ⟨j + 1, by omega, congrArg (Value.int .i64) (by rw [HV2.out]; omega), congrArg (Value.int .i64) (by omega), trivial⟩
        case measure => simp [intOf]; omega
      · obtain rfl : u = j := by omega
        have hge : ¬ (u : Int) + 1 ≤ u := by omega
        rw [← HN.out]
        by_cases hs1 : N < 248
        · have hsI : (N : Int) < 248 := by omega
          go_wp2
          go_ret3
          exact ⟨congrArg Ending.returned (HV.out.trans (if_pos (.inl hs1))).symm, Below.refl _ _⟩
        · have hsI : ¬ (N : Int) < 248 := by omega
          obtain ⟨z, hz⟩ : ∃ z, z = mkB (be N (width N)) := ⟨_, rfl⟩
          have hzs : z.size = width N := by rw [hz, mkB_size, be_len]
          have HZ := hid hz
          clear hz
          by_cases hw : width N = u
          · rw [hw] at hzs
            go_wp2_with fail
            refine (rbytes_calls N _ (by unfold maxNum; omega)).mono ?_
            rintro e w1 ⟨rfl, hb1⟩
            rw [← HZ.out]
            by_cases hm : max most 0 < (N : Int)
            · have hm1 : most < (N : Int) := by omega
              have hm2 : (0 : Int) < N := by omega
              have hm3 : 0 < N := by omega
              go_wp2
              go_ret3
              exact ⟨congrArg Ending.returned (HV.out.trans ((if_neg (by omega)).trans (if_pos hm))).symm, hb1⟩
            · have hm1 : ¬ most < (N : Int) := by omega
              go_wp2
              go_ret3
              exact ⟨congrArg Ending.returned (HV.out.trans ((if_neg (by omega)).trans (if_neg (show ¬ max most 0 < (N : Int) by omega)))).symm, hb1⟩
          · have hw1 : ((width N : Int) == (u : Int)) = false := by rw [beq_eq_false_iff_ne]; omega
            have hw2 : ((width N : Int) != (u : Int)) = true := by rw [bne_iff_ne]; omega
            go_wp2_with fail
            refine (rbytes_calls N _ (by unfold maxNum; omega)).mono ?_
            rintro e w1 ⟨rfl, hb1⟩
            rw [← HZ.out]
            go_wp2
            go_ret3
            exact ⟨congrArg Ending.returned (HV.out.trans (if_pos (.inr hw))).symm, hb1⟩

theorem rfNext_calls (b : List UInt8) (most : Int) (w : World) (hl : b.length ≤ 1000000) : Calls Try.prog 90 #[.string (mkB b), .int .i64 most] w fun en w' => en = .returned (nextV b most) ∧ Below w.heap.size w w' := by
  cases b with
  | nil => exact rfNext_nil most w
  | cons x r =>
    have hx := x.toNat_lt
    rw [List.length_cons] at hl
    by_cases h1 : x.toNat < 248 ∨ x.toNat = 255
    · exact rfNext_low x r most w (by omega) h1
    · exact rfNext_long x r most w (by omega) (by omega) (by omega)
end Go.Proofs.Ytahhhnbpohcbfaa
