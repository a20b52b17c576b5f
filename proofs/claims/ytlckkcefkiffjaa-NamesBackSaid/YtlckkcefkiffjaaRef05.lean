import Derived.Test.YtlckkcefkiffjaaProg
import Derived.Test.YtlckkcefkiffjaaNames
namespace Go.Proofs.Ytlckkcefkiffjaa
open Go.RowKit

/-! ### siskinref05 -/
set_option maxHeartbeats 400000 in
set_option maxRecDepth 100000 in
theorem rplace_calls (l : List ByteArray) (s : ByteArray) (v : Value) (w : World) (hl : Kd.str.slice.K w Any l [v]) :
    Calls Try.prog 47 #[v, .string s] w fun e w' => e = .returned (.int .i64 (placeI l s)) ∧ Below w.heap.size w w' := by
  obtain ⟨A, c, he, hc, hn, hr⟩ := hl
  cases he
  go_enter Try.func47, Try.ntmps47
  go_wp2
  go_loopw [5] (fun i wr => ∃ k : Nat, k ≤ l.length ∧ i = .int .i64 k ∧ (∀ j < k, decide (l[j]?.getD ByteArray.empty = s) = false) ∧ Below w.heap.size w wr) (fun i _ => l.length - (intOf i).toNat)
  case atStart => exact ⟨0, by omega, rfl, by simp, Below.refl _ _⟩
  case round =>
    obtain ⟨k, hkm, rfl, hf, hb⟩ := hrel
    have HF := hid hf
    clear hf
    by_cases hlt : k < l.length
    · obtain ⟨a, x, rfl, hx, hcx⟩ := (hr.below hb).at_str k hlt
      have HX := hid hx
      clear hx
      by_cases hxy : x = s
      · have h1 : (x.toList == s.toList) = true := by simp [hxy]
        have HXY := hid hxy
        clear hxy
        go_wp2
        all_goals (try go_quiet (fail))
        all_goals go_wp2
        go_ret
        exact ⟨by rw [← placeI_first l s k (.inl ⟨by omega, by omega, by simp [HX.out, HXY.out], HF.out⟩)]; rfl, hb⟩
      · have h1 : (x.toList == s.toList) = false := by rw [streq]; simp [hxy]
        have HXY := hid hxy
        clear hxy
        go_wp2
        all_goals (try go_quiet (fail))
        all_goals go_wp2
        go_roundw
        case rel => exact ⟨k + 1, by omega, by go_num, fun j hj => by rcases Nat.lt_succ_iff_lt_or_eq.1 hj with h | rfl; exact HF.out j h; simp [HX.out, HXY.out], hb⟩
        case measure => simp [intOf]; omega
    · go_wp2
      go_ret
      exact ⟨by rw [← placeI_first l s (-1) (.inr ⟨rfl, fun j hj => HF.out j (by omega)⟩)]; rfl, hb⟩

set_option maxHeartbeats 400000 in
set_option maxRecDepth 100000 in
theorem rbit_calls (k : Nat) (w : World) (hk : k < 64) :
    Calls Try.prog 74 #[.int .i64 k] w fun e w' => e = .returned (.int .u64 ((1 <<< k : Nat) : Int)) ∧ w = w' := by
  go_enter Try.func74, Try.ntmps74
  go_wp2
  go_loop [3, 4] (fun x i => ∃ j : Nat, j ≤ k ∧ i = .int .i64 j ∧ x = .int .u64 ((1 <<< j : Nat) : Int)) (fun _ i => k - (intOf i).toNat)
  case atStart => exact ⟨0, by omega, rfl, rfl⟩
  case round =>
    obtain ⟨j, hj, rfl, rfl⟩ := hrel
    by_cases hlt : j < k
    · have hp := pow_lt64 (show j + 1 < 64 by omega)
      have hs : (1 <<< (j + 1) : Nat) = (1 <<< j) * 2 := by rw [Nat.one_shiftLeft, Nat.one_shiftLeft, Nat.pow_succ]
      have hb : (1 <<< j : Nat) * 2 < 18446744073709551616 := by rw [← hs, Nat.one_shiftLeft]; omega
      have HS := hid hs
      clear hs hp
      generalize hq : (1 <<< j : Nat) = q at *
      clear hq
      go_wp2
      go_round
      case rel => exact ⟨j + 1, by omega, by go_num, by rw [HS.out]; go_num⟩
      case measure => simp [intOf]; omega
    · obtain rfl : j = k := by omega
      go_wp2
      go_ret
      exact ⟨rfl, rfl⟩

def hasB (t : Nat) (k : Int) : Bool := decide (0 ≤ k ∧ k < 64) && t.testBit k.toNat

set_option maxHeartbeats 400000 in
set_option maxRecDepth 100000 in
theorem rhas_calls (t : Nat) (k : Int) (w : World) (ht : t < 2 ^ 64) :
    Calls Try.prog 49 #[.int .u64 t, .int .i64 k] w fun e w' => e = .returned (.bool (hasB t k)) ∧ w = w' := by
  by_cases h0 : 0 ≤ k
  · by_cases h1 : k < 64
    · obtain ⟨j, rfl⟩ := Int.eq_ofNat_of_zero_le h0
      have hj : j < 64 := by omega
      have hq : 1 ≤ (1 <<< j : Nat) := by rw [Nat.one_shiftLeft]; exact Nat.one_le_two_pow
      have hv := hid (show hasB t j = t.testBit j by simp [hasB]; omega)
      have h2 : ((t : Int) / ((1 <<< j : Nat) : Int) % 2 == 1) = t.testBit j := by
        rw [Nat.one_shiftLeft, Nat.testBit_eq_decide_div_mod_eq, Bool.eq_iff_iff, beq_iff_eq, decide_eq_true_iff]
        rw [← Int.natCast_ediv]
        generalize t / 2 ^ j = q
        omega
      go_enter Try.func49, Try.ntmps49
      go_wp2_with fail
      refine (rbit_calls j _ hj).mono ?_
      rintro e w1 ⟨rfl, rfl⟩
      generalize hqq : (1 <<< j : Nat) = q at *
      clear hqq
      have h3 : 0 ≤ (t : Int) / (q : Int) := Int.ediv_nonneg (by omega) (by omega)
      have h4 : (t : Int) / (q : Int) ≤ 18446744073709551615 := Int.le_trans (Int.ediv_le_self _ (by omega)) (by omega)
      go_wp2
      go_ret
      exact ⟨by rw [hv.out]; rfl, rfl⟩
    · have hv := hid (show hasB t k = false by simp [hasB]; omega)
      go_enter Try.func49, Try.ntmps49
      go_wp2
      go_ret
      exact ⟨by rw [hv.out]; rfl, rfl⟩
  · have hv := hid (show hasB t k = false by simp [hasB]; omega)
    go_enter Try.func49, Try.ntmps49
    go_wp2
    go_ret
    exact ⟨by rw [hv.out]; rfl, rfl⟩

theorem placeN_take (l : List ByteArray) (s : ByteArray) (n : Nat) : placeN (l.take n) s = match placeN l s with | some k => if k < n then some k else none | none => none := by
  unfold placeN
  rcases h : l.findIdx? (fun x => decide (x = s)) with _ | k
  · simp only
    rw [List.findIdx?_eq_none_iff] at h ⊢
    exact fun x hx => h x (List.mem_of_mem_take hx)
  · simp only
    rw [List.findIdx?_eq_some_iff_getElem] at h
    obtain ⟨h1, h2, h3⟩ := h
    split
    · rename_i hk
      rw [List.findIdx?_eq_some_iff_getElem]
      refine ⟨by rw [List.length_take]; omega, by simpa using h2, fun j hj => by simpa using h3 j hj⟩
    · rename_i hk
      rw [List.findIdx?_eq_none_iff]
      intro x hx
      obtain ⟨i, hi, rfl⟩ := List.getElem_of_mem hx
      have hi' : i < k := by rw [List.length_take] at hi; omega
      simpa using h3 i hi'

theorem add_bit {t j : Nat} (ht : t < 2 ^ 64) (hj : j < 64) (h : t.testBit j = false) : t ||| 1 <<< j = t + 1 <<< j := by
  rw [Nat.one_shiftLeft]
  have hp := pow_lt64 hj
  have hd : t &&& 2 ^ j = 0 := by
    apply Nat.eq_of_testBit_eq
    intro i
    rw [Nat.testBit_and, Nat.testBit_two_pow, Nat.zero_testBit]
    by_cases e : j = i
    · subst e; simp [h]
    · simp [e]
  have hb : (BitVec.ofNat 65 t) &&& (BitVec.ofNat 65 (2 ^ j)) = 0#65 := by
    apply BitVec.eq_of_toNat_eq
    rw [BitVec.toNat_and, BitVec.toNat_ofNat, BitVec.toNat_ofNat, Nat.mod_eq_of_lt (by omega), Nat.mod_eq_of_lt (by omega), hd]
    rfl
  have hc := congrArg BitVec.toNat (BitVec.add_eq_or_of_and_eq_zero _ _ hb)
  rw [BitVec.toNat_add, BitVec.toNat_or, BitVec.toNat_ofNat, BitVec.toNat_ofNat, Nat.mod_eq_of_lt (show t < 2 ^ 65 by omega), Nat.mod_eq_of_lt (show 2 ^ j < 2 ^ 65 by omega), Nat.mod_eq_of_lt (by omega)] at hc
  exact hc.symm
theorem or_bit_same {t j : Nat} (h : t.testBit j = true) : t ||| 1 <<< j = t := by
  rw [Nat.one_shiftLeft]
  apply Nat.eq_of_testBit_eq
  intro i
  rw [Nat.testBit_or, Nat.testBit_two_pow]
  by_cases e : j = i
  · subst e; simp [h]
  · simp [e]

set_option maxHeartbeats 800000 in
set_option maxRecDepth 100000 in
theorem rset_calls (l m : List ByteArray) (v u : Value) (w : World) (hl : Kd.str.slice.K w Any l [v]) (hm : Kd.str.slice.K w Any m [u]) :
    Calls Try.prog 18 #[v, u] w fun e w' => e = .returned (.tuple #[.int .u64 (setN l m 0 0).1, .int .i64 (setN l m 0 0).2.1, .int .i64 (setN l m 0 0).2.2]) ∧ Below w.heap.size w w' := by
  have HL := hid hl
  obtain ⟨A, c, he, hc, hn, hr⟩ := hl
  cases he
  obtain ⟨B, d, he, hd, hk, hs⟩ := hm
  cases he
  go_enter Try.func18, Try.ntmps18
  go_wp2
  go_loopw [7, 8] (fun s i wr => ∃ k t : Nat, k ≤ m.length ∧ i = .int .i64 k ∧ s = .int .u64 t ∧ t < 2 ^ 64 ∧ setN l m 0 0 = setN l (m.drop k) k t ∧ Below w.heap.size w wr) (fun _ i _ => m.length - (intOf i).toNat)
  case atStart => exact ⟨0, 0, by omega, rfl, rfl, by decide, rfl, Below.refl _ _⟩
  case round =>
    obtain ⟨k, t, hkm, rfl, rfl, ht, hset, hb⟩ := hrel
    have HS := hid hset
    clear hset
    by_cases hlt : k < m.length
    · obtain ⟨a, x, rfl, hx, hcx⟩ := (hs.below hb).at_str k hlt
      have HX := hid hx
      clear hx
      go_wp2_with fail
      refine (rplace_calls l x _ wr (Kd.below HL.out hb)).mono ?_
      rintro e w1 ⟨rfl, hb1⟩
      have hdrop : m.drop k = x :: m.drop (k + 1) := by
        rw [List.drop_eq_getElem_cons hlt]
        have := HX.out
        rw [List.getElem?_eq_getElem hlt] at this
        injection this with this
        rw [this]
      have HS' : Hid (setN l m 0 0 = setN l (x :: m.drop (k + 1)) k t) := by rw [← hdrop]; exact HS.out
      clear hdrop HS HX hcx
      have HP := hid (placeN_take l x 64)
      have hfall : (∀ j, placeN l x = some j → 64 ≤ j) → setN l m 0 0 = (0, (k : Int), 5) := by
        intro h
        rw [HS'.out]
        have := HP.out
        rcases hp : placeN l x with _ | j
        · rw [hp] at this; simp [setN, this]
        · rw [hp] at this; simp only [] at this; rw [if_neg (by have := h j hp; omega)] at this; simp [setN, this]
      have HFL := hid hfall
      clear hfall
      rcases hp : placeN l x with _ | j
      · have e1 : placeI l x = -1 := by unfold placeI; rw [hp]
        have HF := hid (HFL.out (fun j h => by rw [hp] at h; cases h))
        clear hp HP HFL
        rw [e1]
        clear e1
        go_wp2
        go_ret3
        rw [HF.out]
        exact ⟨rfl, bThen hb hb1⟩
      · have e1 : placeI l x = j := by unfold placeI; rw [hp]
        by_cases hj : j < 64
        · have HP' := hid (show placeN (l.take 64) x = some j by have := HP.out; rw [hp] at this; simpa [hj] using this)
          have hhas : hasB t j = t.testBit j := by simp [hasB]; omega
          clear hp HP HFL
          rw [e1]
          clear e1
          go_wp2_with fail
          refine (rhas_calls t j _ ht).mono ?_
          rintro e w2 ⟨rfl, rfl⟩
          rw [hhas]
          cases hbit : t.testBit j
          · have HB := hid (add_bit ht hj hbit)
            have hlt2 := or_bit_lt ht hj
            rw [HB.out] at hlt2
            clear hhas hbit
            go_wp2_with fail
            refine (rbit_calls j _ hj).mono ?_
            rintro e w2 ⟨rfl, rfl⟩
            have HQ := hid (show setN l m 0 0 = setN l (m.drop (k + 1)) (k + 1) (t + 1 <<< j) by rw [HS'.out]; simp only [setN]; rw [HP'.out]; simp only []; rw [HB.out])
            clear HS' HP' HB
            generalize 1 <<< j = q at *
            go_wp2
            go_roundw
            case rel => exact ⟨k + 1, t + q, by omega, by go_num, by go_num, hlt2, HQ.out, bThen hb hb1⟩
            case measure => simp [intOf]; omega
          · have HB := hid (or_bit_same hbit)
            clear hhas hbit
            go_wp2
            go_roundw
            case rel => exact ⟨k + 1, t, by omega, by go_num, rfl, ht, by rw [HS'.out]; simp only [setN]; rw [HP'.out]; simp only []; rw [HB.out], bThen hb hb1⟩
            case measure => simp [intOf]; omega
        · have HF := hid (HFL.out (fun j' h => by rw [hp] at h; injection h; omega))
          clear hp HP HFL
          rw [e1]
          clear e1
          go_wp2
          go_ret3
          rw [HF.out]
          exact ⟨rfl, bThen hb hb1⟩
    · go_wp2
      go_ret3
      have : setN l m 0 0 = ((t : Nat), (-1 : Int), (0 : Int)) := by rw [HS.out, List.drop_of_length_le (by omega)]; simp [setN]
      rw [this]
      exact ⟨rfl, hb⟩

set_option maxHeartbeats 800000 in
set_option maxRecDepth 100000 in
theorem rtell_calls (l : List ByteArray) (t : Nat) (v : Value) (w : World) (ht : t < 2 ^ 64) (hcap : l.length * 16 ≤ 140737488355328) (hl : Kd.str.slice.K w Any l [v]) :
    Calls Try.prog 21 #[v, .int .u64 t] w fun e w' => ∃ u, e = .returned u ∧ Own Kd.str 9 w' w.heap.size (fun _ => False) u (tellFrom t l 0) ∧ Below w.heap.size w w' := by
  obtain ⟨A, c, he, hc, hn, hr⟩ := hl
  cases he
  go_enter Try.func21, Try.ntmps21
  go_wp2
  go_loopw [5, 6] (fun v i wr => ∃ k : Nat, k ≤ l.length ∧ i = .int .i64 k ∧ Own Kd.str 9 wr w.heap.size (fun _ => False) v (tellFrom t (l.take k) 0) ∧ Below w.heap.size w wr) (fun _ i _ => l.length - (intOf i).toNat)
  case atStart => exact ⟨0, by omega, rfl, Own.nil _ _ _ _ _, Below.refl _ _⟩
  case round =>
    obtain ⟨k, hkm, rfl, hO, hb⟩ := hrel
    by_cases hlt : k < l.length
    · obtain ⟨a, x, rfl, hx, hcx⟩ := (hr.below hb).at_str k hlt
      have hlen := tellFrom_len t (l.take k) 0
      rw [List.length_take] at hlen
      have HX := hid hx
      clear hx
      go_wp2_with fail
      refine (rhas_calls t k _ ht).mono ?_
      rintro e w1 ⟨rfl, rfl⟩
      have hh : hasB t k = t.testBit k := by
        unfold hasB
        by_cases h : k < 64
        · simp; omega
        · have : t.testBit k = false := Nat.testBit_lt_two_pow (Nat.lt_of_lt_of_le ht (Nat.pow_le_pow_right (by decide) (by omega)))
          simp [this]
      rw [hh]
      clear hh
      cases hbit : t.testBit k
      · have HB := hid hbit
        clear hbit
        go_wp2
        go_roundw
        case rel => exact ⟨k + 1, by omega, by go_num, by rw [take_snoc HX.out, tellFrom_snoc, Nat.zero_add, List.length_take, Nat.min_eq_left (by omega), HB.out]; simpa using hO, hb⟩
        case measure => simp [intOf]; omega
      · have HB := hid hbit
        clear hbit
        go_wp2_with (at_builtin; go_must (refine append_arm Kd.str w.heap.size rfl _ _ 22 9 _ 16 rfl Try.underlying22 Try.infoStr rfl (by decide) (by decide) u5 _ x [.string x] (fun _ => False) (fun _ => False) rfl rfl rfl (fun _ h => h.elim) hO hb hb.size (by omega) ?_))
        intro v1 w1 hO1 hb1 _ _
        go_wp2
        go_roundw
        case rel => exact ⟨k + 1, by omega, by go_num, by rw [take_snoc HX.out, tellFrom_snoc, Nat.zero_add, List.length_take, Nat.min_eq_left (by omega), HB.out]; simpa using hO1, hb1⟩
        case measure => simp [intOf]; omega
    · go_wp2
      go_ret
      exact ⟨_, rfl, by rw [List.take_of_length_le (by omega)] at hO; exact hO, hb⟩

end Go.Proofs.Ytlckkcefkiffjaa
