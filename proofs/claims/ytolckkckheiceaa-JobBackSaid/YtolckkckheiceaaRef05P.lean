import Derived.Test.YtolckkckheiceaaProg
import Derived.Test.YtolckkckheiceaaNamesP
namespace Go.Proofs.Ytolckkckheiceaa
open Go.RowKit

/-! ### siskinref05 -/
set_option maxHeartbeats 400000 in
set_option maxRecDepth 100000 in
theorem rplace_calls (l : List ByteArray) (s : ByteArray) (v : Value) (w : World) (hl : Kd.str.slice.K w Any l [v]) :
    Calls Try.prog 201 #[v, .string s] w fun e w' => e = .returned (.int .i64 (placeI l s)) ∧ Below w.heap.size w w' := by
  obtain ⟨A, c, he, hc, hn, hr⟩ := hl
  cases he
  go_enter Try.func201, Try.ntmps201
  go_wp2
  go_loopw [5] (fun i wr => ∃ k : Nat, k ≤ l.length ∧ i = .int .i64 k ∧ (∀ j < k, decide (l[j]?.getD ByteArray.empty = s) = false) ∧ Below w.heap.size w wr) (fun i _ => l.length - (intOf i).toNat)
  case atStart => exact ⟨0, by omega, rfl, by simp, Below.refl _ _⟩
  case round =>
    obtain ⟨k, hkm, rfl, hf, hb⟩ := hrel
    have HF := hid hf
    clear hf
    by_cases hlt : k < l.length
    · obtain ⟨a, x, rfl, hx, hcx⟩ := (hr.below hb).at_str k hlt
      have HX := hid hx
      clear hx
      by_cases hxy : x = s
      · have h1 : (x.toList == s.toList) = true := by simp [hxy]
        have HXY := hid hxy
        clear hxy
        go_wp2
        all_goals (try go_quiet (fail))
        all_goals go_wp2
        go_ret
        exact ⟨by rw [← placeI_first l s k (.inl ⟨by omega, by omega, by simp [HX.out, HXY.out], HF.out⟩)]; rfl, hb⟩
      · have h1 : (x.toList == s.toList) = false := by rw [streq]; simp [hxy]
        have HXY := hid hxy
        clear hxy
        go_wp2
        all_goals (try go_quiet (fail))
        all_goals go_wp2
        go_roundw
        case rel => exact ⟨k + 1, by omega, by go_num, fun j hj => by rcases Nat.lt_succ_iff_lt_or_eq.1 hj with h | rfl; exact HF.out j h; simp [HX.out, HXY.out], hb⟩
        case measure => simp [intOf]; omega
    · go_wp2
      go_ret
      exact ⟨by rw [← placeI_first l s (-1) (.inr ⟨rfl, fun j hj => HF.out j (by omega)⟩)]; rfl, hb⟩

end Go.Proofs.Ytolckkckheiceaa
