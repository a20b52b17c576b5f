/- The law LexWords. -/
import Derived.Test.YtlckkcefkiffjaaLaw08S
namespace Go.Proofs.Ytlckkcefkiffjaa
open Go.RowKit Go.Lib

set_option maxHeartbeats 1000000 in
set_option maxRecDepth 100000 in
theorem lexWordsLaw (s : ByteArray) (w : World) (hs0 : s.size ≤ 140737488351232) :
    Calls Try.prog 14 #[.string s] w fun e w' => e = .returned (.bool true) ∧ Below w.heap.size w w' := by
  by_cases hs : 1000 < s.size
  · go_enter Try.func14, Try.ntmps14
    go_wp2_with fail
    refine (works08_calls _).mono ?_
    rintro e w1 ⟨rfl, hb1⟩
    go_wp2
    go_ret
    exact ⟨rfl, hb1⟩
  · obtain ⟨l, k, f, hl⟩ : ∃ l k f, wordsS s = (l, k, f) := ⟨_, _, _, rfl⟩
    have HL := hid hl
    clear hl
    have e1 : (k == k) = true := beq_self_eq_true _
    have e2 : (f == f) = true := beq_self_eq_true _
    go_enter Try.func14, Try.ntmps14
    go_wp2_with fail
    refine (lexWords_calls s _ hs0).mono ?_
    rintro e w1 ⟨v, rfl, hO, hb1⟩
    rw [HL.out] at hO ⊢
    dsimp only at hO ⊢
    have HB1 := hid hb1
    have HK1 := hid (Kd.any hO.K)
    obtain ⟨A, n, c, rfl, hq1, hq2⟩ := hO.shape'
    clear hO hb1 hq1 hq2
    go_wp2_with fail
    refine (rwords_calls s _ hs0).mono ?_
    rintro e w2 ⟨v2, rfl, hO, hb2⟩
    rw [HL.out] at hO ⊢
    dsimp only at hO ⊢
    have HB2 := hid (bThen HB1.out hb2)
    have HK2 := hid (Kd.any hO.K)
    have HK3 := hid (Kd.below HK1.out hb2)
    obtain ⟨A2, n2, c2, rfl, hq1, hq2⟩ := hO.shape'
    clear hO hb2 hq1 hq2
    go_wp2_with fail
    refine (lsame_calls l _ _ _ HK3.out HK2.out).mono ?_
    rintro e w3 ⟨rfl, n3, rfl⟩
    go_wp2_with fail
    refine (works08_calls _).mono ?_
    rintro e w4 ⟨rfl, hb4⟩
    go_wp2
    go_ret
    exact ⟨rfl, bThen (below_drewN HB2.out n3) hb4⟩
theorem lexWords_walk (W : World) (s : ByteArray) (h : s.size ≤ 140737488351232) :
    Calls Try.prog 14 #[.string s] W fun e w' => e = .returned (.bool true) ∧ Below W.heap.size W w' := lexWordsLaw s W h
end Go.Proofs.Ytlckkcefkiffjaa
