import Derived.Test.YtgedkcglkhleoaaGreatDoorProg
import Derived.Test.YtgedkcglkhleoaaGreatDoorBase
import Derived.Handy
namespace Go.Proofs.YtgedkcglkhleoaaGreatDoor
open Go.RowKit

/-! ### siskinref04.Size -/
theorem szR_2 {s : ByteArray} {p : Nat} (h : good2 s p) : szR s p = 2 := by unfold szR; rw [dec_2 h]; rw [if_neg (by intro e; injection e with _ e; omega)]
theorem szR_3 {s : ByteArray} {p : Nat} (h : good3 s p) : szR s p = 3 := by unfold szR; rw [dec_3 h]; rw [if_neg (by intro e; injection e with _ e; omega)]
theorem szR_4 {s : ByteArray} {p : Nat} (h : good4 s p) : szR s p = 4 := by unfold szR; rw [dec_4 h]; rw [if_neg (by intro e; injection e with _ e; omega)]
theorem szR_1 {s : ByteArray} {p : Nat} (h : bN s p < 128) : szR s p = 1 := by unfold szR; rw [dec_low h]; rw [if_neg (by intro e; injection e with e _; omega)]
theorem szR_bad {s : ByteArray} {p : Nat} (h1 : 128 ≤ bN s p) (h2 : ¬ good2 s p) (h3 : ¬ good3 s p) (h4 : ¬ good4 s p) : szR s p = 0 := by unfold szR; rw [dec_bad h1 h2 h3 h4, if_pos rfl]
theorem szR_tail (s : ByteArray) (p : Nat) : szR (tail s p) 0 = szR s p := by unfold szR; rw [dec_tail]

set_option maxHeartbeats 1000000 in
set_option maxRecDepth 100000 in
theorem rsize_2 (s : ByteArray) (w : World) (h0 : 194 ≤ bN s 0) (h1 : bN s 0 < 224) (hs : 0 < s.size) :
    Calls Tryz.prog 75 #[.string s] w fun e w' => e = .returned (.int .i64 (szR s 0 : Int)) ∧ w = w' := by
  have hb := bN_at s
  by_cases hl : 2 ≤ s.size
  · go_enter Tryz.func75, Tryz.ntmps75
    go_wp2
    go_loop [5] (fun i => ∃ k : Nat, 1 ≤ k ∧ k ≤ 2 ∧ (∀ j, 1 ≤ j → j < k → 128 ≤ bN s j ∧ bN s j < 192) ∧ i = .int .i64 k) (fun i => 2 - (intOf i).toNat)
    case atStart => exact ⟨1, by omega, by omega, fun j _ _ => by omega, rfl⟩
    case round =>
      obtain ⟨k, hk1, hk2, hk3, rfl⟩ := hrel
      have HK := hid hk3
      clear hk3
      by_cases hlt : k < 2
      · have hks : k < s.size := by omega
        by_cases hc1 : bN s k < 128
        · have hv := hid (show szR s 0 = 0 from szR_bad (by omega) (fun h => by unfold good2 at h; (try (have : k = 1 ∨ k = 2 ∨ k = 3 := by omega)); rcases this with rfl | rfl | rfl <;> simp only [Nat.zero_add] at h <;> omega) (fun h => by unfold good3 at h; omega) (fun h => by unfold good4 at h; omega))
          go_wp2
          go_ret
          exact ⟨by rw [hv.out]; rfl, rfl⟩
        · by_cases hc2 : 191 < bN s k
          · have hv := hid (show szR s 0 = 0 from szR_bad (by omega) (fun h => by unfold good2 at h; (try (have : k = 1 ∨ k = 2 ∨ k = 3 := by omega)); rcases this with rfl | rfl | rfl <;> simp only [Nat.zero_add] at h <;> omega) (fun h => by unfold good3 at h; omega) (fun h => by unfold good4 at h; omega))
            go_wp2
            go_ret
            exact ⟨by rw [hv.out]; rfl, rfl⟩
          · go_wp2
            go_round
            case rel => exact ⟨k + 1, by omega, by omega, fun j h1 h2 => by rcases Nat.lt_succ_iff_lt_or_eq.1 h2 with h | rfl; exact HK.out j h1 h; omega, by go_num⟩
            case measure => simp [intOf]; omega
      · obtain rfl : k = 2 := by omega
        have q1 := HK.out 1 (by omega) (by omega)
        have hv := hid (show szR s 0 = 2 from szR_2 ⟨h0, h1, by omega, q1.1, q1.2⟩)
        clear HK
        go_wp2
        go_ret
        exact ⟨by rw [hv.out]; rfl, rfl⟩
  · have hv := hid (show szR s 0 = 0 from szR_bad (by omega) (fun h => by unfold good2 at h; omega) (fun h => by unfold good3 at h; omega) (fun h => by unfold good4 at h; omega))
    go_enter Tryz.func75, Tryz.ntmps75
    go_wp2
    go_ret
    exact ⟨by rw [hv.out]; rfl, rfl⟩

set_option maxHeartbeats 1000000 in
set_option maxRecDepth 100000 in
theorem rsize_3 (s : ByteArray) (w : World) (h0 : 224 ≤ bN s 0) (h1 : bN s 0 < 240) (hs : 0 < s.size) :
    Calls Tryz.prog 75 #[.string s] w fun e w' => e = .returned (.int .i64 (szR s 0 : Int)) ∧ w = w' := by
  have hb := bN_at s
  by_cases hl : 3 ≤ s.size
  · go_enter Tryz.func75, Tryz.ntmps75
    go_wp2
    go_loop [5] (fun i => ∃ k : Nat, 1 ≤ k ∧ k ≤ 3 ∧ (∀ j, 1 ≤ j → j < k → 128 ≤ bN s j ∧ bN s j < 192) ∧ i = .int .i64 k) (fun i => 3 - (intOf i).toNat)
    case atStart => exact ⟨1, by omega, by omega, fun j _ _ => by omega, rfl⟩
    case round =>
      obtain ⟨k, hk1, hk2, hk3, rfl⟩ := hrel
      have HK := hid hk3
      clear hk3
      by_cases hlt : k < 3
      · have hks : k < s.size := by omega
        by_cases hc1 : bN s k < 128
        · have hv := hid (show szR s 0 = 0 from szR_bad (by omega) (fun h => by unfold good2 at h; omega) (fun h => by unfold good3 at h; (try (have : k = 1 ∨ k = 2 ∨ k = 3 := by omega)); rcases this with rfl | rfl | rfl <;> simp only [Nat.zero_add] at h <;> omega) (fun h => by unfold good4 at h; omega))
          go_wp2
          go_ret
          exact ⟨by rw [hv.out]; rfl, rfl⟩
        · by_cases hc2 : 191 < bN s k
          · have hv := hid (show szR s 0 = 0 from szR_bad (by omega) (fun h => by unfold good2 at h; omega) (fun h => by unfold good3 at h; (try (have : k = 1 ∨ k = 2 ∨ k = 3 := by omega)); rcases this with rfl | rfl | rfl <;> simp only [Nat.zero_add] at h <;> omega) (fun h => by unfold good4 at h; omega))
            go_wp2
            go_ret
            exact ⟨by rw [hv.out]; rfl, rfl⟩
          · go_wp2
            go_round
            case rel => exact ⟨k + 1, by omega, by omega, fun j h1 h2 => by rcases Nat.lt_succ_iff_lt_or_eq.1 h2 with h | rfl; exact HK.out j h1 h; omega, by go_num⟩
            case measure => simp [intOf]; omega
      · obtain rfl : k = 3 := by omega
        have q1 := HK.out 1 (by omega) (by omega)
        have q2 := HK.out 2 (by omega) (by omega)
        obtain ⟨q11, q12⟩ := q1
        obtain ⟨q21, q22⟩ := q2
        have hs1 : 1 < s.size := by omega
        clear HK
        by_cases e1 : bN s 0 = 224 ∧ bN s 1 < 160
        · have hv := hid (show szR s 0 = 0 from szR_bad (by omega) (fun h => by unfold good2 at h; omega) (fun h => by unfold good3 at h; simp only [Nat.zero_add] at h; omega) (fun h => by unfold good4 at h; omega))
          obtain ⟨e1, e2⟩ := e1
          have t1 : ((bN s 0 : Int) == 224) = true := by rw [beq_iff_eq]; omega
          go_wp2
          go_ret
          exact ⟨by rw [hv.out]; rfl, rfl⟩
        · by_cases e2 : bN s 0 = 237 ∧ 159 < bN s 1
          · have hv := hid (show szR s 0 = 0 from szR_bad (by omega) (fun h => by unfold good2 at h; omega) (fun h => by unfold good3 at h; simp only [Nat.zero_add] at h; omega) (fun h => by unfold good4 at h; omega))
            obtain ⟨e2, e3⟩ := e2
            have t1 : ((bN s 0 : Int) == 237) = true := by rw [beq_iff_eq]; omega
            have t2 : ((bN s 0 : Int) == 224) = false := by rw [beq_eq_false_iff_ne]; omega
            clear e1
            go_wp2
            go_ret
            exact ⟨by rw [hv.out]; rfl, rfl⟩
          · have hv := hid (show szR s 0 = 3 from szR_3 ⟨h0, h1, by omega, q11, q12, q21, q22, e1, by simpa using e2⟩)
            have t1 : ((bN s 0 : Int) == 240) = false := by rw [beq_eq_false_iff_ne]; omega
            have t2 : ((bN s 0 : Int) == 244) = false := by rw [beq_eq_false_iff_ne]; omega
            by_cases e3 : bN s 0 = 224
            · have t3 : ((bN s 0 : Int) == 224) = true := by rw [beq_iff_eq]; omega
              have t4 : ((bN s 0 : Int) == 237) = false := by rw [beq_eq_false_iff_ne]; omega
              have t5 : 160 ≤ bN s 1 := by omega
              clear e1 e2 e3
              go_wp2
              go_ret
              exact ⟨by rw [hv.out]; rfl, rfl⟩
            · have t3 : ((bN s 0 : Int) == 224) = false := by rw [beq_eq_false_iff_ne]; omega
              by_cases e4 : bN s 0 = 237
              · have t4 : ((bN s 0 : Int) == 237) = true := by rw [beq_iff_eq]; omega
                have t5 : bN s 1 ≤ 159 := by omega
                clear e1 e2 e3 e4
                go_wp2
                go_ret
                exact ⟨by rw [hv.out]; rfl, rfl⟩
              · have t4 : ((bN s 0 : Int) == 237) = false := by rw [beq_eq_false_iff_ne]; omega
                clear e1 e2 e3 e4
                go_wp2
                go_ret
                exact ⟨by rw [hv.out]; rfl, rfl⟩
  · have hv := hid (show szR s 0 = 0 from szR_bad (by omega) (fun h => by unfold good2 at h; omega) (fun h => by unfold good3 at h; omega) (fun h => by unfold good4 at h; omega))
    go_enter Tryz.func75, Tryz.ntmps75
    go_wp2
    go_ret
    exact ⟨by rw [hv.out]; rfl, rfl⟩

set_option maxHeartbeats 1000000 in
set_option maxRecDepth 100000 in
theorem rsize_4 (s : ByteArray) (w : World) (h0 : 240 ≤ bN s 0) (h1 : bN s 0 < 245) (hs : 0 < s.size) :
    Calls Tryz.prog 75 #[.string s] w fun e w' => e = .returned (.int .i64 (szR s 0 : Int)) ∧ w = w' := by
  have hb := bN_at s
  by_cases hl : 4 ≤ s.size
  · go_enter Tryz.func75, Tryz.ntmps75
    go_wp2
    go_loop [5] (fun i => ∃ k : Nat, 1 ≤ k ∧ k ≤ 4 ∧ (∀ j, 1 ≤ j → j < k → 128 ≤ bN s j ∧ bN s j < 192) ∧ i = .int .i64 k) (fun i => 4 - (intOf i).toNat)
    case atStart => exact ⟨1, by omega, by omega, fun j _ _ => by omega, rfl⟩
    case round =>
      obtain ⟨k, hk1, hk2, hk3, rfl⟩ := hrel
      have HK := hid hk3
      clear hk3
      by_cases hlt : k < 4
      · have hks : k < s.size := by omega
        by_cases hc1 : bN s k < 128
        · have hv := hid (show szR s 0 = 0 from szR_bad (by omega) (fun h => by unfold good2 at h; omega) (fun h => by unfold good3 at h; omega) (fun h => by unfold good4 at h; (try (have : k = 1 ∨ k = 2 ∨ k = 3 := by omega)); rcases this with rfl | rfl | rfl <;> simp only [Nat.zero_add] at h <;> omega))
          go_wp2
          go_ret
          exact ⟨by rw [hv.out]; rfl, rfl⟩
        · by_cases hc2 : 191 < bN s k
          · have hv := hid (show szR s 0 = 0 from szR_bad (by omega) (fun h => by unfold good2 at h; omega) (fun h => by unfold good3 at h; omega) (fun h => by unfold good4 at h; (try (have : k = 1 ∨ k = 2 ∨ k = 3 := by omega)); rcases this with rfl | rfl | rfl <;> simp only [Nat.zero_add] at h <;> omega))
            go_wp2
            go_ret
            exact ⟨by rw [hv.out]; rfl, rfl⟩
          · go_wp2
            go_round
            case rel => exact ⟨k + 1, by omega, by omega, fun j h1 h2 => by rcases Nat.lt_succ_iff_lt_or_eq.1 h2 with h | rfl; exact HK.out j h1 h; omega, by go_num⟩
            case measure => simp [intOf]; omega
      · obtain rfl : k = 4 := by omega
        have q1 := HK.out 1 (by omega) (by omega)
        have q2 := HK.out 2 (by omega) (by omega)
        have q3 := HK.out 3 (by omega) (by omega)
        obtain ⟨q11, q12⟩ := q1
        obtain ⟨q21, q22⟩ := q2
        obtain ⟨q31, q32⟩ := q3
        have hs1 : 1 < s.size := by omega
        have t1 : ((bN s 0 : Int) == 224) = false := by rw [beq_eq_false_iff_ne]; omega
        have t2 : ((bN s 0 : Int) == 237) = false := by rw [beq_eq_false_iff_ne]; omega
        clear HK
        by_cases e1 : bN s 0 = 240 ∧ bN s 1 < 144
        · have hv := hid (show szR s 0 = 0 from szR_bad (by omega) (fun h => by unfold good2 at h; omega) (fun h => by unfold good3 at h; omega) (fun h => by unfold good4 at h; simp only [Nat.zero_add] at h; omega))
          obtain ⟨e1, e2⟩ := e1
          have t3 : ((bN s 0 : Int) == 240) = true := by rw [beq_iff_eq]; omega
          go_wp2
          go_ret
          exact ⟨by rw [hv.out]; rfl, rfl⟩
        · by_cases e2 : bN s 0 = 244 ∧ 143 < bN s 1
          · have hv := hid (show szR s 0 = 0 from szR_bad (by omega) (fun h => by unfold good2 at h; omega) (fun h => by unfold good3 at h; omega) (fun h => by unfold good4 at h; simp only [Nat.zero_add] at h; omega))
            obtain ⟨e2, e3⟩ := e2
            have t3 : ((bN s 0 : Int) == 244) = true := by rw [beq_iff_eq]; omega
            have t4 : ((bN s 0 : Int) == 240) = false := by rw [beq_eq_false_iff_ne]; omega
            clear e1
            go_wp2
            go_ret
            exact ⟨by rw [hv.out]; rfl, rfl⟩
          · have hv := hid (show szR s 0 = 4 from szR_4 ⟨h0, h1, by omega, q11, q12, q21, q22, q31, q32, e1, by simpa using e2⟩)
            by_cases e3 : bN s 0 = 240
            · have t3 : ((bN s 0 : Int) == 240) = true := by rw [beq_iff_eq]; omega
              have t4 : ((bN s 0 : Int) == 244) = false := by rw [beq_eq_false_iff_ne]; omega
              have t5 : 144 ≤ bN s 1 := by omega
              clear e1 e2 e3
              go_wp2
              go_ret
              exact ⟨by rw [hv.out]; rfl, rfl⟩
            · have t3 : ((bN s 0 : Int) == 240) = false := by rw [beq_eq_false_iff_ne]; omega
              by_cases e4 : bN s 0 = 244
              · have t4 : ((bN s 0 : Int) == 244) = true := by rw [beq_iff_eq]; omega
                have t5 : bN s 1 ≤ 143 := by omega
                clear e1 e2 e3 e4
                go_wp2
                go_ret
                exact ⟨by rw [hv.out]; rfl, rfl⟩
              · have t4 : ((bN s 0 : Int) == 244) = false := by rw [beq_eq_false_iff_ne]; omega
                clear e1 e2 e3 e4
                go_wp2
                go_ret
                exact ⟨by rw [hv.out]; rfl, rfl⟩
  · have hv := hid (show szR s 0 = 0 from szR_bad (by omega) (fun h => by unfold good2 at h; omega) (fun h => by unfold good3 at h; omega) (fun h => by unfold good4 at h; omega))
    go_enter Tryz.func75, Tryz.ntmps75
    go_wp2
    go_ret
    exact ⟨by rw [hv.out]; rfl, rfl⟩


set_option maxHeartbeats 1000000 in
set_option maxRecDepth 100000 in
theorem rsize_calls (s : ByteArray) (w : World) (hs : 0 < s.size) :
    Calls Tryz.prog 75 #[.string s] w fun e w' => e = .returned (.int .i64 (szR s 0 : Int)) ∧ w = w' := by
  by_cases a1 : bN s 0 < 128
  · have hb := bN_at s
    have hv := hid (szR_1 a1)
    go_enter Tryz.func75, Tryz.ntmps75
    go_wp2
    go_ret
    exact ⟨by rw [hv.out]; rfl, rfl⟩
  · by_cases a2 : bN s 0 < 194
    · have hb := bN_at s
      have hv := hid (show szR s 0 = 0 from szR_bad (by omega) (fun h => by unfold good2 at h; omega) (fun h => by unfold good3 at h; omega) (fun h => by unfold good4 at h; omega))
      go_enter Tryz.func75, Tryz.ntmps75
      go_wp2
      refine wp_loop_rounds 1 ?_
      rw [rounds_succ]
      go_wp2
      go_ret
      exact ⟨by rw [hv.out]; rfl, rfl⟩
    · by_cases a3 : bN s 0 < 224
      · exact rsize_2 s w (by omega) a3 hs
      · by_cases a4 : bN s 0 < 240
        · exact rsize_3 s w (by omega) a4 hs
        · by_cases a5 : bN s 0 < 245
          · exact rsize_4 s w (by omega) a5 hs
          · have hb := bN_at s
            have hlt := bN_lt s 0
            have hv := hid (show szR s 0 = 0 from szR_bad (by omega) (fun h => by unfold good2 at h; omega) (fun h => by unfold good3 at h; omega) (fun h => by unfold good4 at h; omega))
            go_enter Tryz.func75, Tryz.ntmps75
            go_wp2
            refine wp_loop_rounds 1 ?_
            rw [rounds_succ]
            go_wp2
            go_ret
            exact ⟨by rw [hv.out]; rfl, rfl⟩

end Go.Proofs.YtgedkcglkhleoaaGreatDoor
