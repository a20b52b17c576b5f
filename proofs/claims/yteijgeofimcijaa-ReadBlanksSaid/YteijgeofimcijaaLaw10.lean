/- The law ReadNeeds. -/
import Derived.Test.YteijgeofimcijaaRead15
import Derived.Test.YteijgeofimcijaaRef03
namespace Go.Proofs.Yteijgeofimcijaa
open Go.RowKit

set_option maxHeartbeats 2000000 in
set_option maxRecDepth 100000 in
theorem nsame_calls (l : List NodeS) (v1 v2 : Value) (w : World) (h1 : Kd.node.slice.K w Any l [v1]) (h2 : Kd.node.slice.K w Any l [v2]) :
    Calls Try.prog 30 #[v1, v2] w fun e w' => e = .returned (.bool true) ∧ ∃ n, w' = w.drewN n := by
  obtain ⟨A, c, he, hc, hm, hr⟩ := h1
  cases he
  obtain ⟨B, d, he, hd, _, hr2⟩ := h2
  cases he
  obtain ⟨q, hq⟩ : ∃ q, l.length = q := ⟨_, rfl⟩
  have HQ := hid hq
  have HR := hid hr
  have HR2 := hid hr2
  rw [hq] at hc hm hd ⊢
  have hqq : ((q : Int) == (q : Int)) = true := beq_self_eq_true _
  have hqn : ((q : Int) != (q : Int)) = false := bne_self_eq_false _
  clear hr hr2 hq
  go_enter Try.func30, Try.ntmps30
  go_wp2
  go_loopw [5] (fun i wr => ∃ k n : Nat, k ≤ q ∧ i = .int .i64 k ∧ wr = w.drewN n) (fun i _ => q - (intOf i).toNat)
  case atStart => exact ⟨0, 0, by omega, rfl, rfl⟩
  case round =>
    obtain ⟨k, n, hk, rfl, rfl⟩ := hrel
    by_cases hlt : k < q
    · obtain ⟨a, x, rfl, hx, r0, r1⟩ := HR.out.at_node k (by rw [HQ.out]; exact hlt)
      obtain ⟨b, x', rfl, hx', s0, s1⟩ := HR2.out.at_node k (by rw [HQ.out]; exact hlt)
      rw [hx] at hx'
      obtain rfl := Option.some.inj hx'
      have e2 : (x.op != x.op) = false := bne_self_eq_false _
      have e3 : (x.n != x.n) = false := bne_self_eq_false _
      have hltI : (k : Int) < (q : Int) := by omega
      have hk0 : (0 : Int) ≤ (k : Int) := by omega
      clear hx hx'
      go_wp2
      go_quiet (fail)
      go_wp2
      go_roundw
      case rel => exact ⟨k + 1, _, by omega, by go_num, rfl⟩
      case measure => simp [intOf]; omega
    · obtain rfl : k = q := by omega
      go_wp2
      go_ret
      exact ⟨rfl, n, rfl⟩
set_option maxHeartbeats 2000000 in
set_option maxRecDepth 100000 in
theorem works10_calls (w : World) : Calls Try.prog 27 #[] w fun e w' => e = .returned (.bool true) ∧ Below w.heap.size w w' := by
  have T1 := hid (show needS [⟨#[103, 112, 117]⟩, ⟨#[115, 115, 100]⟩] ⟨#[103, 112, 117, 32, 38, 32, 33, 115, 115, 100]⟩ = ([⟨2, 0⟩, ⟨2, 1⟩, ⟨3, 0⟩, ⟨4, 0⟩], 0, 0) by decide +kernel)
  have T2 := hid (show needS [⟨#[103, 112, 117]⟩, ⟨#[115, 115, 100]⟩] ⟨#[103, 112, 117, 32, 124, 32]⟩ = ([], 6, 3) by decide +kernel)
  have T3 := hid (show needS [⟨#[103, 112, 117]⟩, ⟨#[115, 115, 100]⟩] ⟨#[116, 112, 117]⟩ = ([], 0, 5) by decide +kernel)
  have HT := hid (K_newS w w.heap.size rfl 9 [⟨#[103, 112, 117]⟩, ⟨#[115, 115, 100]⟩] (by decide))
  go_enter Try.func27, Try.ntmps27
  go_wp2_with fail
  refine (readNeed_calls [⟨#[103, 112, 117]⟩, ⟨#[115, 115, 100]⟩] _ _ _ HT.out (by decide)).mono ?_
  rintro e w1 ⟨v, rfl, hO, hb1⟩
  rw [T1.out] at hO ⊢
  dsimp only at hO ⊢
  have HB1 := hid ((bAlloc (Below.refl w.heap.size w) _).trans (hb1.mono (by simp)))
  have HT1 := hid (Kd.below HT.out hb1)
  obtain ⟨A1, n1, c1, rfl, hx1, hx2⟩ := hO.shape'
  have HO1 := hid hO
  clear hO hb1 hx1 hx2
  go_wp2_with fail
  refine (readNeed_calls [⟨#[103, 112, 117]⟩, ⟨#[115, 115, 100]⟩] _ _ _ HT1.out (by decide)).mono ?_
  rintro e w2 ⟨v, rfl, hO, hb2⟩
  rw [T2.out] at hO ⊢
  dsimp only at hO ⊢
  have HB2 := hid (HB1.out.trans (hb2.mono HB1.out.size))
  have HT2 := hid (Kd.below HT1.out hb2)
  have HO2 := hid (HO1.out.below hb2)
  obtain ⟨A2, n2, c2, rfl, hx1, hx2⟩ := hO.shape'
  clear hO hb2 hx1 hx2
  go_wp2_with fail
  refine (readNeed_calls [⟨#[103, 112, 117]⟩, ⟨#[115, 115, 100]⟩] _ _ _ HT2.out (by decide)).mono ?_
  rintro e w3 ⟨v, rfl, hO, hb3⟩
  rw [T3.out] at hO ⊢
  dsimp only at hO ⊢
  have HB3 := hid (HB2.out.trans (hb3.mono HB2.out.size))
  have HO3 := hid (HO2.out.below hb3)
  obtain ⟨A3, n3, c3, rfl, hx1, hx2⟩ := hO.shape'
  clear hO hb3 hx1 hx2
  go_wp2_with fail
  refine (nsame_calls [⟨2, 0⟩, ⟨2, 1⟩, ⟨3, 0⟩, ⟨4, 0⟩] _ _ _ (Kd.any (HO3.out.alloc _).K) (Kd.any (K_new (enc := fun (x : NodeS) => [.int .i64 x.op, .int .i64 x.n]) (hl := fun _ => rfl) (h1 := fun x u hu => by simp at hu; rcases hu with rfl | rfl <;> rfl) w3 w3.heap.size rfl 122 [⟨2, 0⟩, ⟨2, 1⟩, ⟨3, 0⟩, ⟨4, 0⟩] (by decide)))).mono ?_
  rintro e w4 ⟨rfl, n4, rfl⟩
  go_wp2
  go_ret
  exact ⟨rfl, below_drewN (HB3.out.alloc HB3.out.size _) _⟩
set_option maxHeartbeats 2000000 in
set_option maxRecDepth 100000 in
theorem readNeedsLaw (tab : List ByteArray) (s : ByteArray) (v : Value) (w : World) (ht : Kd.str.slice.K w Any tab [v]) :
    Calls Try.prog 5 #[v, .string s] w fun e w' => e = .returned (.bool true) ∧ Below w.heap.size w w' := by
  have HT := hid ht
  clear ht
  by_cases hs : 1000 < s.size
  · have hsI : (1000 : Int) < s.size := by omega
    go_enter Try.func5, Try.ntmps5
    go_wp2_with fail
    refine (works10_calls _).mono ?_
    rintro e w1 ⟨rfl, hb1⟩
    go_wp2
    go_ret
    exact ⟨rfl, hb1⟩
  · have hsI : ¬ (1000 : Int) < s.size := by omega
    go_enter Try.func5, Try.ntmps5
    go_wp2_with fail
    refine (long_calls tab 40 100 _ _ HT.out).mono ?_
    rintro e w1 ⟨rfl, rfl⟩
    have hb1 := Below.refl w.heap.size w
    generalize longB tab 40 100 = b
    cases b
    · obtain ⟨l, k, f, hl⟩ : ∃ l k f, needS tab s = (l, k, f) := ⟨_, _, _, rfl⟩
      have HL := hid hl
      clear hl
      have e1 : (k == k) = true := beq_self_eq_true _
      have e2 : (f == f) = true := beq_self_eq_true _
      have HB1 := hid hb1
      have HT1 := hid (Kd.below HT.out hb1)
      clear hb1
      go_wp2_with fail
      refine (readNeed_calls tab s _ _ HT1.out (by omega)).mono ?_
      rintro e w2 ⟨v2, rfl, hO, hb2⟩
      rw [HL.out] at hO ⊢
      dsimp only at hO ⊢
      have HB2 := hid (bThen HB1.out hb2)
      have HT2 := hid (Kd.below HT1.out hb2)
      have HO2 := hid hO
      obtain ⟨A, n, c, rfl, hq1, hq2⟩ := hO.shape'
      clear hO hb2 hq1 hq2
      go_wp2_with fail
      refine (rneed_calls tab s _ _ HT2.out (by omega)).mono ?_
      rintro e w3 ⟨v3, rfl, hO, hb3⟩
      rw [HL.out] at hO ⊢
      dsimp only at hO ⊢
      have HB3 := hid (bThen HB2.out hb3)
      have HO3 := hid hO
      have HO2' := hid (HO2.out.below hb3)
      obtain ⟨A3, n3, c3, rfl, hq1, hq2⟩ := hO.shape'
      clear hO hb3 hq1 hq2
      go_wp2_with fail
      refine (nsame_calls l _ _ _ (Kd.any HO2'.out.K) (Kd.any HO3.out.K)).mono ?_
      rintro e w4 ⟨rfl, n4, rfl⟩
      go_wp2_with fail
      refine (works10_calls _).mono ?_
      rintro e w5 ⟨rfl, hb5⟩
      go_wp2
      go_ret
      exact ⟨rfl, bThen (below_drewN HB3.out n4) hb5⟩
    · go_wp2_with fail
      refine (works10_calls _).mono ?_
      rintro e w2 ⟨rfl, hb2⟩
      go_wp2
      go_ret
      exact ⟨rfl, bThen hb1 hb2⟩
theorem readNeeds_walk (W : World) (tab : List ByteArray) (v : Value) (h : Kd.str.slice.K W Any tab [v]) (_ : (∀ y ∈ tab, y.size ≤ 140737488351232) ∧ tab.length * 16 ≤ 140737488351232) (s : ByteArray) (_ : s.size ≤ 140737488351232) :
    Calls Try.prog 5 #[v, .string s] W fun e w' => e = .returned (.bool true) ∧ Below W.heap.size W w' := readNeedsLaw tab s v W h
end Go.Proofs.Yteijgeofimcijaa
