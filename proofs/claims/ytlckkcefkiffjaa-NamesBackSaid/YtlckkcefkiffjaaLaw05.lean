import Derived.Test.YtlckkcefkiffjaaProg
import Derived.Test.YtlckkcefkiffjaaRef03
import Derived.Test.YtlckkcefkiffjaaRef05
namespace Go.Proofs.Ytlckkcefkiffjaa
open Go.RowKit

/-! ### siskinlaw05 -/
def bGpu : ByteArray := ⟨#[103, 112, 117]⟩
def bSsd : ByteArray := ⟨#[115, 115, 100]⟩
def bTpu : ByteArray := ⟨#[116, 112, 117]⟩
theorem works05_a : setN [bGpu, bSsd] [bSsd] 0 0 = (2, -1, 0) := by decide +kernel
theorem works05_b : setN [bGpu, bSsd] [bSsd, bTpu] 0 0 = (0, 1, 5) := by decide +kernel

set_option maxHeartbeats 800000 in
set_option maxRecDepth 100000 in
theorem works05_calls (w : World) : Calls Try.prog 16 #[] w fun e w' => e = .returned (.bool true) ∧ Below w.heap.size w w' := by
  go_enter Try.func16, Try.ntmps16
  go_wp2_with fail
  refine (set_calls [bGpu, bSsd] [bSsd] _ _ _ ?h1 ?h2).mono ?_
  case h1 => exact Kd.below (K_newS w _ rfl 9 [bGpu, bSsd] (by decide)) (bAlloc (Below.refl _ _) _)
  case h2 => exact K_newS _ _ (by simp) 9 [bSsd] (by decide)
  rintro e w1 ⟨rfl, hb1⟩
  rw [works05_a]
  go_wp2_with fail
  refine (set_calls [bGpu, bSsd] [bSsd, bTpu] _ _ _ ?h3 ?h4).mono ?_
  case h3 => exact Kd.below (Kd.below (Kd.below (K_newS w _ rfl 9 [bGpu, bSsd] (by decide)) (bAlloc (Below.refl _ _) _)) hb1) (bAlloc (Below.refl _ _) _)
  case h4 => exact K_newS _ _ rfl 9 [bSsd, bTpu] (by decide)
  rintro e w2 ⟨rfl, hb2⟩
  rw [works05_b]
  go_wp2
  go_ret
  exact ⟨rfl, bThen (bThen (bAlloc (bAlloc (Below.refl _ _) _) _) hb1) (bThen (bAlloc (Below.refl _ _) _) hb2)⟩

/-- The walk of the law: whatever the lists and the set. -/
theorem namesSets_calls (l m : List ByteArray) (t : Nat) (v u : Value) (w : World) (ht : t < 2 ^ 64) (hcap : l.length * 16 ≤ 140737488355328) (hl : Kd.str.slice.K w Any l [v]) (hm : Kd.str.slice.K w Any m [u]) :
    Calls Try.prog 3 #[v, u, .int .u64 t] w fun e w' => e = .returned (.bool true) ∧ Below w.heap.size w w' := by
  have HL := hid hl
  have HM := hid hm
  clear hl hm
  cases h1 : longB l 80 100
  · cases h2 : longB m 80 100
    · go_enter Try.func3, Try.ntmps3
      go_wp2_with fail
      refine (long_calls l 80 100 _ _ HL.out).mono ?_
      rintro e w1 ⟨rfl, rfl⟩
      rw [h1]
      go_wp2_with fail
      refine (long_calls m 80 100 _ _ HM.out).mono ?_
      rintro e w1 ⟨rfl, rfl⟩
      rw [h2]
      go_wp2_with fail
      refine (set_calls l m _ _ _ HL.out HM.out).mono ?_
      rintro e w1 ⟨rfl, hb1⟩
      obtain ⟨r, hr⟩ : ∃ r, r = setN l m 0 0 := ⟨_, rfl⟩
      have HR := hid hr
      rw [← hr]
      clear hr
      go_wp2_with fail
      refine (rset_calls l m _ _ _ (Kd.below HL.out hb1) (Kd.below HM.out hb1)).mono ?_
      rintro e w2 ⟨rfl, hb2⟩
      rw [← HR.out]
      have b2 := bThen hb1 hb2
      go_wp2_with fail
      refine (tell_calls l t _ _ ht (Kd.below HL.out b2)).mono ?_
      rintro e w3 ⟨a, rfl, hO3, hb3⟩
      have b3 := bThen b2 hb3
      go_wp2_with fail
      refine (rtell_calls l t _ _ ht hcap (Kd.below HL.out b3)).mono ?_
      rintro e w4 ⟨a', rfl, hO4, hb4⟩
      have b4 := bThen b3 hb4
      go_wp2_with fail
      refine (same_calls _ _ _ _ _ (Kd.any (Own.K (hO3.below hb4))) (Kd.any (Own.K hO4))).mono ?_
      rintro e w5 ⟨rfl, hb5⟩
      have b5 := bThen b4 hb5
      rw [decide_eq_true rfl]
      go_wp2_with fail
      refine (works05_calls _).mono ?_
      rintro e w6 ⟨rfl, hb6⟩
      have b6 := bThen b5 hb6
      go_wp2
      go_ret
      exact ⟨rfl, b6⟩
    · go_enter Try.func3, Try.ntmps3
      go_wp2_with fail
      refine (long_calls l 80 100 _ _ HL.out).mono ?_
      rintro e w1 ⟨rfl, rfl⟩
      rw [h1]
      go_wp2_with fail
      refine (long_calls m 80 100 _ _ HM.out).mono ?_
      rintro e w1 ⟨rfl, rfl⟩
      rw [h2]
      go_wp2_with fail
      refine (works05_calls _).mono ?_
      rintro e w6 ⟨rfl, hb6⟩
      go_wp2
      go_ret
      exact ⟨rfl, hb6⟩
  · go_enter Try.func3, Try.ntmps3
    go_wp2_with fail
    refine (long_calls l 80 100 _ _ HL.out).mono ?_
    rintro e w1 ⟨rfl, rfl⟩
    rw [h1]
    go_wp2_with fail
    refine (works05_calls _).mono ?_
    rintro e w6 ⟨rfl, hb6⟩
    go_wp2
    go_ret
    exact ⟨rfl, hb6⟩

theorem namesSets_walk (W : World) (l : List ByteArray) (v : Value) (hl : Kd.str.slice.K W Any l [v]) (ol : (∀ y ∈ l, y.size ≤ 140737488351232) ∧ l.length * 16 ≤ 140737488351232) (m : List ByteArray) (u : Value) (hm : Kd.str.slice.K W Any m [u]) (_om : (∀ y ∈ m, y.size ≤ 140737488351232) ∧ m.length * 16 ≤ 140737488351232) (t : Int) (ht : (Lit.int .u64 t).wf = true) :
    Calls Try.prog 3 #[v, u, .int .u64 t] W fun e w' => e = .returned (.bool true) ∧ Below W.heap.size W w' := by
  obtain ⟨h0, h1⟩ := u64_range ht
  obtain ⟨n, rfl⟩ := Int.eq_ofNat_of_zero_le h0
  exact namesSets_calls l m n v u W (by omega) (by omega) hl hm

end Go.Proofs.Ytlckkcefkiffjaa
