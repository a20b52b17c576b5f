import Derived.Test.YtahhhnbpohcbfaaRd
namespace Go.Proofs.Ytahhhnbpohcbfaa
open Go.RowKit

theorem RdS.fail_0 {R : RdS} (h : R.e = 0) (e : Int) : R.fail e = ⟨R.b, e⟩ := by unfold RdS.fail; rw [if_pos h]
theorem add_zero' (a : Addr) : a.add 0 = a := by unfold Addr.add; rw [if_pos rfl]
theorem max0 (m : Int) : max m 0 = max m 0 := rfl

set_option maxHeartbeats 1600000 in
set_option maxRecDepth 100000 in
theorem rdLook_nil (T : Nat → Prop) (g : Nat) (R : RdS) (most : Int) (w : World) (hd : RdAt w T g R) (h0 : R.e = 0) (hb : R.b = []) : Calls Try.prog 88 #[.pointer (some ⟨g, 0, none⟩), .int .i64 most] w fun en w' => en = .returned (.tuple #[.int .i64 0, .int .i64 0]) ∧ RdAt w' T g ⟨R.b, 2⟩ ∧ Mod (fun k => k = g) w w' := by
  have HD := hid hd
  obtain ⟨hT, hg, A, c, hc, hm, c0, c1, f0, f1, hh, hr⟩ := hd.cells
  rw [hb, List.length_nil] at c0
  have HV := hid (R.fail_0 h0 2)
  clear hd hh hr hb h0
  go_enter Try.func88, Try.ntmps88
  go_wp2_with fail
  refine (rdFail_calls T g R 2 _ HD.out).mono ?_
  rintro e w1 ⟨rfl, h1, h2⟩
  rw [HV.out] at h1
  have H1 := hid h1
  have H2 := hid h2
  clear h1 h2
  go_wp2
  go_ret2
  exact ⟨rfl, H1.out, H2.out⟩

set_option maxHeartbeats 1600000 in
set_option maxRecDepth 100000 in
theorem rdLook_low (T : Nat → Prop) (g : Nat) (R : RdS) (most : Int) (x : UInt8) (r : List UInt8) (w : World) (hd : RdAt w T g R) (hb : R.b = x :: r) (hx : x.toNat < 248) (hmx : (x.toNat : Int) ≤ max most 0) : Calls Try.prog 88 #[.pointer (some ⟨g, 0, none⟩), .int .i64 most] w fun en w' => en = .returned (.tuple #[.int .i64 x.toNat, .int .i64 1]) ∧ w = w' := by
  have HD := hid hd
  obtain ⟨hT, hg, A, c, hc, hm, c0, c1, f0, f1, hh, hr⟩ := hd.cells
  obtain ⟨a, y, rfl, hy, hya⟩ := hr.out.at_u8 0 (by rw [hb]; simp)
  obtain rfl : x = y := by rw [hb] at hy; simpa using hy
  rw [add_zero'] at hya
  have hl : 0 < R.b.length := by rw [hb]; simp
  have hl2 : (0 : Int) < R.b.length := by omega
  have hl3 : ((R.b.length : Int) == 0) = false := by rw [beq_eq_false_iff_ne]; omega
  have hl4 : (R.b.length == 0) = false := by rw [beq_eq_false_iff_ne]; omega
  have HM := hid hmx
  clear hd hh hy hb hmx hr
  go_enter Try.func88, Try.ntmps88
  go_wp2_with fail
  refine (rdMost_ok T g R _ most _ HD.out HM.out).mono ?_
  rintro e w1 ⟨rfl, rfl⟩
  go_wp2
  go_ret2
  exact ⟨rfl, rfl⟩

set_option maxHeartbeats 1600000 in
set_option maxRecDepth 100000 in
theorem rdLook_low_no (T : Nat → Prop) (g : Nat) (R : RdS) (most : Int) (x : UInt8) (r : List UInt8) (w : World) (hd : RdAt w T g R) (h0 : R.e = 0) (hb : R.b = x :: r) (hx : x.toNat < 248) (hmx : max most 0 < (x.toNat : Int)) : Calls Try.prog 88 #[.pointer (some ⟨g, 0, none⟩), .int .i64 most] w fun en w' => en = .returned (.tuple #[.int .i64 0, .int .i64 1]) ∧ RdAt w' T g ⟨R.b, 4⟩ ∧ Mod (fun k => k = g) w w' := by
  have HD := hid hd
  obtain ⟨hT, hg, A, c, hc, hm, c0, c1, f0, f1, hh, hr⟩ := hd.cells
  obtain ⟨a, y, rfl, hy, hya⟩ := hr.out.at_u8 0 (by rw [hb]; simp)
  obtain rfl : x = y := by rw [hb] at hy; simpa using hy
  rw [add_zero'] at hya
  have hl : 0 < R.b.length := by rw [hb]; simp
  have hl2 : (0 : Int) < R.b.length := by omega
  have hl3 : ((R.b.length : Int) == 0) = false := by rw [beq_eq_false_iff_ne]; omega
  have hl4 : (R.b.length == 0) = false := by rw [beq_eq_false_iff_ne]; omega
  have HM := hid hmx
  have HV := hid (R.fail_0 h0 4)
  clear hd hh hy hb hmx hr h0
  go_enter Try.func88, Try.ntmps88
  go_wp2_with fail
  refine (rdMost_no T g R _ most _ HD.out HM.out).mono ?_
  rintro e w1 ⟨rfl, h1, h2⟩
  rw [HV.out] at h1
  have H1 := hid h1
  have H2 := hid h2
  clear h1 h2
  go_wp2
  go_ret2
  exact ⟨rfl, H1.out, H2.out⟩

set_option maxHeartbeats 1600000 in
set_option maxRecDepth 100000 in
theorem rdLook_255 (T : Nat → Prop) (g : Nat) (R : RdS) (most : Int) (x : UInt8) (r : List UInt8) (w : World) (hd : RdAt w T g R) (h0 : R.e = 0) (hb : R.b = x :: r) (hx : x.toNat = 255) : Calls Try.prog 88 #[.pointer (some ⟨g, 0, none⟩), .int .i64 most] w fun en w' => en = .returned (.tuple #[.int .i64 0, .int .i64 0]) ∧ RdAt w' T g ⟨R.b, 3⟩ ∧ Mod (fun k => k = g) w w' := by
  have HD := hid hd
  obtain ⟨hT, hg, A, c, hc, hm, c0, c1, f0, f1, hh, hr⟩ := hd.cells
  obtain ⟨a, y, rfl, hy, hya⟩ := hr.out.at_u8 0 (by rw [hb]; simp)
  obtain rfl : x = y := by rw [hb] at hy; simpa using hy
  rw [add_zero', hx] at hya
  have hl : 0 < R.b.length := by rw [hb]; simp
  have hl2 : (0 : Int) < R.b.length := by omega
  have hl3 : ((R.b.length : Int) == 0) = false := by rw [beq_eq_false_iff_ne]; omega
  have hl4 : (R.b.length == 0) = false := by rw [beq_eq_false_iff_ne]; omega
  have HV := hid (R.fail_0 h0 3)
  clear hd hh hy hb hr h0 hx
  go_enter Try.func88, Try.ntmps88
  go_wp2_with fail
  refine (rdFail_calls T g R 3 _ HD.out).mono ?_
  rintro e w1 ⟨rfl, h1, h2⟩
  rw [HV.out] at h1
  have H1 := hid h1
  have H2 := hid h2
  clear h1 h2
  go_wp2
  go_ret2
  exact ⟨rfl, H1.out, H2.out⟩

set_option maxHeartbeats 1600000 in
set_option maxRecDepth 100000 in
theorem rdLook_short (T : Nat → Prop) (g : Nat) (R : RdS) (most : Int) (x : UInt8) (r : List UInt8) (w : World) (hd : RdAt w T g R) (h0 : R.e = 0) (hb : R.b = x :: r) (hx : 248 ≤ x.toNat) (hx2 : x.toNat < 255) (hs : r.length < x.toNat - 247) : Calls Try.prog 88 #[.pointer (some ⟨g, 0, none⟩), .int .i64 most] w fun en w' => en = .returned (.tuple #[.int .i64 0, .int .i64 0]) ∧ RdAt w' T g ⟨R.b, 2⟩ ∧ Mod (fun k => k = g) w w' := by
  have HD := hid hd
  obtain ⟨hT, hg, A, c, hc, hm, c0, c1, f0, f1, hh, hr⟩ := hd.cells
  obtain ⟨a, y, rfl, hy, hya⟩ := hr.out.at_u8 0 (by rw [hb]; simp)
  obtain rfl : x = y := by rw [hb] at hy; simpa using hy
  rw [add_zero'] at hya
  have hl : R.b.length = r.length + 1 := by rw [hb]; simp
  have hl2 : (0 : Int) < R.b.length := by omega
  have hl3 : ((R.b.length : Int) == 0) = false := by rw [beq_eq_false_iff_ne]; omega
  have hl4 : (R.b.length == 0) = false := by rw [beq_eq_false_iff_ne]; omega
  have hl5 : 0 < R.b.length := by omega
  have hl6 : (R.b.length : Int) < 1 + ((x.toNat : Int) - 248 + 1) := by omega
  have HV := hid (R.fail_0 h0 2)
  clear hd hh hy hb hr h0 hl
  go_enter Try.func88, Try.ntmps88
  go_wp2_with fail
  refine (rdFail_calls T g R 2 _ HD.out).mono ?_
  rintro e w1 ⟨rfl, h1, h2⟩
  rw [HV.out] at h1
  have H1 := hid h1
  have H2 := hid h2
  clear h1 h2
  go_wp2
  go_ret2
  exact ⟨rfl, H1.out, H2.out⟩

set_option maxHeartbeats 3200000 in
set_option maxRecDepth 100000 in
theorem rdLook_long (T : Nat → Prop) (g : Nat) (R : RdS) (most : Int) (x : UInt8) (r : List UInt8) (u N : Nat) (w : World) (hd : RdAt w T g R) (h0 : R.e = 0) (hb : R.b = x :: r) (hx : 248 ≤ x.toNat) (hx2 : x.toNat < 255) (hu : u = x.toNat - 247) (hs : u ≤ r.length) (hN : N = valN (r.take u)) :
    Calls Try.prog 88 #[.pointer (some ⟨g, 0, none⟩), .int .i64 most] w fun en w' =>
      if N < 248 ∨ width N ≠ u then en = .returned (.tuple #[.int .i64 0, .int .i64 0]) ∧ RdAt w' T g ⟨R.b, 3⟩ ∧ Mod (fun k => k = g) w w'
      else if max most 0 < (N : Int) then en = .returned (.tuple #[.int .i64 0, .int .i64 (1 + u)]) ∧ RdAt w' T g ⟨R.b, 4⟩ ∧ Mod (fun k => k = g) w w'
      else en = .returned (.tuple #[.int .i64 N, .int .i64 (1 + u)]) ∧ w = w' := by
  have HD := hid hd
  obtain ⟨hT, hg, A, c, hc, hm, c0, c1, f0, f1, hh, hr⟩ := hd.cells
  obtain ⟨a, y, rfl, hy, hya⟩ := hr.out.at_u8 0 (by rw [hb]; simp)
  obtain rfl : x = y := by rw [hb] at hy; simpa using hy
  rw [add_zero'] at hya
  have hl : R.b.length = r.length + 1 := by rw [hb]; simp
  have hl2 : (0 : Int) < R.b.length := by omega
  have hl3 : ((R.b.length : Int) == 0) = false := by rw [beq_eq_false_iff_ne]; omega
  have hl4 : (R.b.length == 0) = false := by rw [beq_eq_false_iff_ne]; omega
  have hl5 : 0 < R.b.length := by omega
  have hxu : (x.toNat : Int) = u + 247 := by omega
  have hu7 : u ≤ 7 := by omega
  have hu1 : 1 ≤ u := by omega
  have hNl : N ≤ 72057594037927935 := by
    have h1 := valN_lt (r.take u)
    have h2 : (r.take u).length ≤ 7 := by rw [List.length_take]; omega
    have h3 : 256 ^ (r.take u).length ≤ 256 ^ 7 := Nat.pow_le_pow_right (by decide) h2
    rw [hN]; omega
  have HRB : Hid (∀ k, k < u → ∃ y : UInt8, r[k]? = some y ∧ w.cell? (a.add (1 + k)) = some (.int .u8 y.toNat)) := fun k hk => by
    obtain ⟨a', y, ha, hy, hc⟩ := hr.out.at_u8 (1 + k) (by omega)
    cases ha
    refine ⟨y, by rw [hb, Nat.add_comm, List.getElem?_cons_succ] at hy; exact hy, ?_⟩
    exact hc
  have HV3 := hid (R.fail_0 h0 3)
  have HV4 := hid (R.fail_0 h0 4)
  have HNV := hid hN
  have hub : u < R.b.length := by omega
  have hus : (u : Int) + 247 - 248 + 1 = u := by omega
  rw [hxu] at hya
  clear hd hh hy hb hr h0 hl hN hu hxu hx hx2 hs
  have POST : ∀ (en : Ending) (w' : World), ((N < 248 ∨ width N ≠ u) → en = .returned (.tuple #[.int .i64 0, .int .i64 0]) ∧ RdAt w' T g ⟨R.b, 3⟩ ∧ Mod (fun k => k = g) w w') →
      (¬ (N < 248 ∨ width N ≠ u) → max most 0 < (N : Int) → en = .returned (.tuple #[.int .i64 0, .int .i64 (1 + u)]) ∧ RdAt w' T g ⟨R.b, 4⟩ ∧ Mod (fun k => k = g) w w') →
      (¬ (N < 248 ∨ width N ≠ u) → ¬ max most 0 < (N : Int) → en = .returned (.tuple #[.int .i64 N, .int .i64 (1 + u)]) ∧ w = w') →
      (if N < 248 ∨ width N ≠ u then en = .returned (.tuple #[.int .i64 0, .int .i64 0]) ∧ RdAt w' T g ⟨R.b, 3⟩ ∧ Mod (fun k => k = g) w w'
      else if max most 0 < (N : Int) then en = .returned (.tuple #[.int .i64 0, .int .i64 (1 + u)]) ∧ RdAt w' T g ⟨R.b, 4⟩ ∧ Mod (fun k => k = g) w w'
      else en = .returned (.tuple #[.int .i64 N, .int .i64 (1 + u)]) ∧ w = w') := by
    intro en w' h1 h2 h3
    split
    · rename_i h; exact h1 h
    · rename_i h
      split
      · rename_i h4; exact h2 h h4
      · rename_i h4; exact h3 h h4
  refine Calls.mono (R := fun en w' => ((N < 248 ∨ width N ≠ u) → en = .returned (.tuple #[.int .i64 0, .int .i64 0]) ∧ RdAt w' T g ⟨R.b, 3⟩ ∧ Mod (fun k => k = g) w w') ∧
      (¬ (N < 248 ∨ width N ≠ u) → max most 0 < (N : Int) → en = .returned (.tuple #[.int .i64 0, .int .i64 (1 + u)]) ∧ RdAt w' T g ⟨R.b, 4⟩ ∧ Mod (fun k => k = g) w w') ∧
      (¬ (N < 248 ∨ width N ≠ u) → ¬ max most 0 < (N : Int) → en = .returned (.tuple #[.int .i64 N, .int .i64 (1 + u)]) ∧ w = w')) ?_ (fun en w' h => POST en w' h.1 h.2.1 h.2.2)
  clear POST
  go_enter Try.func88, Try.ntmps88
  go_wp2_with fail
  go_loopw [8, 51] (fun nv iv wr => ∃ k : Nat, k ≤ u ∧ nv = .int .i64 ((valN (r.take k) : Nat) : Int) ∧ iv = .int .i64 k ∧ w = wr) (fun _ iv _ => u - (intOf iv).toNat)
  case atStart => exact ⟨0, by omega, rfl, rfl, rfl⟩
  case round =>
    obtain ⟨k, hk, rfl, rfl, rfl⟩ := hrel
    by_cases hlt : k < u
    · obtain ⟨y, hy1, hy2⟩ := HRB.out k hlt
      have HV := hid (show valN (r.take (k + 1)) = valN (r.take k) * 256 + y.toNat by rw [take_snoc hy1, valN_snoc])
      have hVl : valN (r.take k) < 281474976710656 := by
        have h1 := valN_lt (r.take k)
        have h2 : (r.take k).length ≤ 6 := by rw [List.length_take]; omega
        have h3 : 256 ^ (r.take k).length ≤ 256 ^ 6 := Nat.pow_le_pow_right (by decide) h2
        omega
      obtain ⟨M, hM⟩ : ∃ M, M = valN (r.take k) := ⟨_, rfl⟩
      rw [← hM] at HV hVl ⊢
      have hy := y.toNat_lt
      have hor := or_add hVl (show y.toNat < 256 by omega)
      have hw1 : IntKind.i64.wrap ((M : Int) * 256) = (M : Int) * 256 := IntWalk.i64_in _ (by omega)
      have hw2 : IntKind.i64.wrap (1 + (k : Int)) = 1 + k := IntWalk.i64_in _ (by omega)
      have hw3 : (0 : Int) ≤ 1 + (k : Int) := by omega
      have hw4 : (1 + (k : Int)).toNat = 1 + k := by omega
      have hw5 : 1 + (k : Int) < (R.b.length : Int) := by omega
      clear hM hy1
      go_wp2
      go_roundw
      case rel => exact ⟨k + 1, by omega, congrArg (Value.int .i64) (by rw [HV.out]; omega), by go_num, trivial⟩
      case measure => simp [intOf]; omega
    · obtain rfl : u = k := by omega
      rw [← HNV.out]
      by_cases hs1 : N < 248
      · have hsI : (N : Int) < 248 := by omega
        go_wp2_with fail
        refine (rdFail_calls T g R 3 _ HD.out).mono ?_
        rintro e w1 ⟨rfl, h1, h2⟩
        rw [HV3.out] at h1
        have H1 := hid h1
        have H2 := hid h2
        clear h1 h2
        go_wp2
        go_ret2
        first | exact ⟨rfl, H1.out, H2.out⟩ | exact ⟨fun _ => ⟨rfl, H1.out, H2.out⟩, fun h => absurd (.inl hs1) h, fun h => absurd (.inl hs1) h⟩
      · have hsI : ¬ (N : Int) < 248 := by omega
        by_cases hw : width N = u
        · go_wp2_with fail
          refine (width_calls N _ (by unfold maxNum; omega)).mono ?_
          rintro e w1 ⟨rfl, rfl⟩
          rw [hw]
          go_wp2_with fail
          by_cases hm1 : max most 0 < (N : Int)
          · refine (rdMost_no T g R _ most _ HD.out hm1).mono ?_
            rintro e w1 ⟨rfl, h1, h2⟩
            rw [HV4.out] at h1
            have H1 := hid h1
            have H2 := hid h2
            clear h1 h2
            go_wp2
            go_ret2
            first | exact ⟨⟨rfl, H1.out, H2.out⟩, fun h => absurd hm1 (by omega)⟩ | exact ⟨rfl, H1.out, H2.out⟩ | exact ⟨fun h => h.elim (fun h => absurd h hs1) (fun h => absurd hw h), fun _ _ => ⟨rfl, H1.out, H2.out⟩, fun _ h => absurd hm1 h⟩
          · refine (rdMost_ok T g R _ most _ HD.out (by omega)).mono ?_
            rintro e w1 ⟨rfl, rfl⟩
            go_wp2
            go_ret2
            first | exact ⟨rfl, rfl⟩ | exact rfl | exact ⟨fun h => absurd h (by omega), rfl⟩ | exact ⟨fun h => absurd h (by omega), rfl, rfl⟩ | exact ⟨fun h => h.elim (fun h => absurd h hs1) (fun h => absurd hw h), fun _ h => absurd h hm1, fun _ _ => ⟨rfl, rfl⟩⟩
        · have hw1 : ((width N : Int) == (u : Int)) = false := by rw [beq_eq_false_iff_ne]; omega
          have hw2 : ((width N : Int) != (u : Int)) = true := by rw [bne_iff_ne]; omega
          go_wp2_with fail
          refine (width_calls N _ (by unfold maxNum; omega)).mono ?_
          rintro e w1 ⟨rfl, rfl⟩
          go_wp2_with fail
          refine (rdFail_calls T g R 3 _ HD.out).mono ?_
          rintro e w1 ⟨rfl, h1, h2⟩
          rw [HV3.out] at h1
          have H1 := hid h1
          have H2 := hid h2
          clear h1 h2
          go_wp2
          go_ret2
          first | exact ⟨rfl, H1.out, H2.out⟩ | exact ⟨fun _ => ⟨rfl, H1.out, H2.out⟩, fun h => absurd (.inr hw) h, fun h => absurd (.inr hw) h⟩
end Go.Proofs.Ytahhhnbpohcbfaa
