import Derived.Test.YtlckkcefkiffjaaRef05c
import Derived.Test.YtlckkcefkiffjaaLaw05
namespace Go.Proofs.Ytlckkcefkiffjaa
open Go.RowKit

set_option maxHeartbeats 1600000 in
set_option maxRecDepth 100000 in
theorem namesTables_no (l m : List ByteArray) (s : ByteArray) (v u : Value) (w : World) (hl : Kd.str.slice.K w Any l [v]) (hm : Kd.str.slice.K w Any m [u]) (h : longB l 80 100 = true ∨ longB m 80 100 = true ∨ (100 : Int) < s.size) :
    Calls Try.prog 8 #[v, u, .string s] w fun e w' => e = .returned (.bool true) ∧ Below w.heap.size w w' := by
  have HL := hid hl
  have HM := hid hm
  clear hl hm
  cases h1 : longB l 80 100
  · cases h2 : longB m 80 100
    · have h3 : (100 : Int) < s.size := by simpa [h1, h2] using h
      clear h
      go_enter Try.func8, Try.ntmps8
      go_wp2_with fail
      refine (long_calls l 80 100 _ _ HL.out).mono ?_
      rintro e w1 ⟨rfl, rfl⟩
      rw [h1]
      go_wp2_with fail
      refine (long_calls m 80 100 _ _ HM.out).mono ?_
      rintro e w1 ⟨rfl, rfl⟩
      rw [h2]
      go_wp2_with fail
      refine (works05_calls _).mono ?_
      rintro e w6 ⟨rfl, hb6⟩
      go_wp2
      go_ret
      exact ⟨rfl, hb6⟩
    · clear h
      go_enter Try.func8, Try.ntmps8
      go_wp2_with fail
      refine (long_calls l 80 100 _ _ HL.out).mono ?_
      rintro e w1 ⟨rfl, rfl⟩
      rw [h1]
      go_wp2_with fail
      refine (long_calls m 80 100 _ _ HM.out).mono ?_
      rintro e w1 ⟨rfl, rfl⟩
      rw [h2]
      go_wp2_with fail
      refine (works05_calls _).mono ?_
      rintro e w6 ⟨rfl, hb6⟩
      go_wp2
      go_ret
      exact ⟨rfl, hb6⟩
  · clear h
    go_enter Try.func8, Try.ntmps8
    go_wp2_with fail
    refine (long_calls l 80 100 _ _ HL.out).mono ?_
    rintro e w1 ⟨rfl, rfl⟩
    rw [h1]
    go_wp2_with fail
    refine (works05_calls _).mono ?_
    rintro e w6 ⟨rfl, hb6⟩
    go_wp2
    go_ret
    exact ⟨rfl, hb6⟩

theorem long_size {l : List ByteArray} {a b : Int} (h : longB l a b = false) : ∀ y ∈ l, (y.size : Int) ≤ b := by
  intro y hy
  simp only [longB, Bool.or_eq_false_iff, List.any_eq_false, decide_eq_true_eq] at h
  have := h.1 y hy
  omega

set_option maxHeartbeats 1600000 in
set_option maxRecDepth 100000 in
theorem namesTables_yes (l m : List ByteArray) (s : ByteArray) (v u : Value) (w : World) (hl : Kd.str.slice.K w Any l [v]) (hm : Kd.str.slice.K w Any m [u]) (h1 : longB l 80 100 = false) (h2 : longB m 80 100 = false) (h3 : ¬ (100 : Int) < s.size) :
    Calls Try.prog 8 #[v, u, .string s] w fun e w' => e = .returned (.bool true) ∧ Below w.heap.size w w' := by
  have HL := hid hl
  have HM := hid hm
  have HS := hid (long_size h1)
  clear hl hm
  go_enter Try.func8, Try.ntmps8
  go_wp2_with fail
  refine (long_calls l 80 100 _ _ HL.out).mono ?_
  rintro e w1 ⟨rfl, rfl⟩
  rw [h1]
  go_wp2_with fail
  refine (long_calls m 80 100 _ _ HM.out).mono ?_
  rintro e w1 ⟨rfl, rfl⟩
  rw [h2]
  go_wp2_with fail
  refine (check_calls l _ _ HL.out (fun y hy => by have := HS.out y hy; omega)).mono ?_
  rintro e w1 ⟨rfl, b1⟩
  go_wp2_with fail
  refine (rcheck_calls l _ _ (Kd.below HL.out b1) (fun y hy => by have := HS.out y hy; omega)).mono ?_
  rintro e w2 ⟨rfl, hb⟩
  have b2 := bThen b1 hb
  clear hb
  go_wp2_with fail
  refine (place_calls l s _ _ (Kd.below HL.out b2)).mono ?_
  rintro e w3 ⟨rfl, hb⟩
  have b3 := bThen b2 hb
  clear hb
  go_wp2_with fail
  refine (rplace_calls l s _ _ (Kd.below HL.out b3)).mono ?_
  rintro e w4 ⟨rfl, hb⟩
  have b4 := bThen b3 hb
  clear hb
  go_wp2_with fail
  refine (nsame_calls l m _ _ _ (Kd.below HL.out b4) (Kd.below HM.out b4)).mono ?_
  rintro e w5 ⟨rfl, hb⟩
  have b5 := bThen b4 hb
  clear hb
  go_wp2_with fail
  refine (same_calls l m _ _ _ (Kd.below HL.out b5) (Kd.below HM.out b5)).mono ?_
  rintro e w6 ⟨rfl, hb⟩
  have b6 := bThen b5 hb
  clear hb
  go_wp2_with fail
  refine (nsame_calls l l _ _ _ (Kd.below HL.out b6) (Kd.below HL.out b6)).mono ?_
  rintro e w7 ⟨rfl, hb⟩
  have b7 := bThen b6 hb
  clear hb
  rw [decide_eq_true (rfl : l = l)]
  go_wp2_with fail
  refine (works05_calls _).mono ?_
  rintro e w8 ⟨rfl, hb⟩
  have b8 := bThen b7 hb
  go_wp2
  go_ret
  exact ⟨rfl, b8⟩

theorem namesTables_walk (W : World) (l : List ByteArray) (v : Value) (hl : Kd.str.slice.K W Any l [v]) (_ol : (∀ y ∈ l, y.size ≤ 140737488351232) ∧ l.length * 16 ≤ 140737488351232) (m : List ByteArray) (u : Value) (hm : Kd.str.slice.K W Any m [u]) (_om : (∀ y ∈ m, y.size ≤ 140737488351232) ∧ m.length * 16 ≤ 140737488351232) (s : ByteArray) (_hs : s.size ≤ 140737488351232) :
    Calls Try.prog 8 #[v, u, .string s] W fun e w' => e = .returned (.bool true) ∧ Below W.heap.size W w' := by
  cases h1 : longB l 80 100
  · cases h2 : longB m 80 100
    · by_cases h3 : (100 : Int) < s.size
      · exact namesTables_no l m s v u W hl hm (.inr (.inr h3))
      · exact namesTables_yes l m s v u W hl hm h1 h2 h3
    · exact namesTables_no l m s v u W hl hm (.inr (.inl h2))
  · exact namesTables_no l m s v u W hl hm (.inl h1)
end Go.Proofs.Ytlckkcefkiffjaa
