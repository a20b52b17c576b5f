import Derived.Test.YtolckkckheiceaaProg
import Derived.Test.YtolckkckheiceaaLib
import Derived.Handy
namespace Go.Proofs.Ytolckkckheiceaa
open Go.RowKit

/-! ### siskinref03: Long, Same -/
def longB (l : List ByteArray) (most size : Int) : Bool := l.any (fun s => decide ((s.size : Int) > size)) || decide ((l.length : Int) > most)

set_option maxHeartbeats 400000 in
set_option maxRecDepth 100000 in
theorem long_calls (l : List ByteArray) (most size : Int) (v : Value) (w : World) (hl : Kd.str.slice.K w Any l [v]) :
    Calls Try.prog 36 #[v, .int .i64 most, .int .i64 size] w fun e w' => e = .returned (.bool (longB l most size)) ∧ w = w' := by
  obtain ⟨A, c, he, hc, hn, hr⟩ := hl
  cases he
  go_enter Try.func36, Try.ntmps36
  go_wp2
  go_loop [7] (fun i => ∃ k : Nat, k ≤ l.length ∧ i = .int .i64 k ∧ (l.take k).any (fun s => decide ((s.size : Int) > size)) = false) (fun i => l.length - (intOf i).toNat)
  case atStart => exact ⟨0, by omega, rfl, by simp⟩
  case round =>
    obtain ⟨k, hkm, rfl, hf⟩ := hrel
    have HF := hid hf
    clear hf
    by_cases hlt : k < l.length
    · obtain ⟨a, x, rfl, hx, hcx⟩ := hr.at_str k hlt
      have HX := hid hx
      clear hx
      by_cases hs : (x.size : Int) > size
      · go_wp2
        go_ret
        refine ⟨?_, rfl⟩
        have : l.any (fun s => decide ((s.size : Int) > size)) = true := List.any_eq_true.2 ⟨x, List.mem_of_getElem? HX.out, by simpa using hs⟩
        simp [longB, this]
      · go_wp2
        go_round
        case rel => exact ⟨k + 1, by omega, by go_num, by rw [take_snoc HX.out, List.any_append, HF.out]; simpa using hs⟩
        case measure => simp [intOf]; omega
    · have h1 := HF.out
      rw [List.take_of_length_le (by omega)] at h1
      have H1 := hid h1
      clear h1 HF
      go_wp2
      go_ret
      exact ⟨by simp only [longB, H1.out, Bool.false_or]; rfl, rfl⟩

theorem eq_of_take {α : Type} {l m : List α} (h : l.length = m.length) (ht : l.take l.length = m.take l.length) : l = m := by
  rw [List.take_of_length_le (Nat.le_refl _), List.take_of_length_le (by omega)] at ht
  exact ht

set_option maxHeartbeats 400000 in
set_option maxRecDepth 100000 in
theorem same_calls (l m : List ByteArray) (v u : Value) (w : World) (hl : Kd.str.slice.K w Any l [v]) (hm : Kd.str.slice.K w Any m [u]) :
    Calls Try.prog 86 #[v, u] w fun e w' => e = .returned (.bool (decide (l = m))) ∧ Below w.heap.size w w' := by
  obtain ⟨A, c, he, hc, hn, hr⟩ := hl
  cases he
  obtain ⟨B, d, he, hd, hk, hs⟩ := hm
  cases he
  by_cases hlen : l.length = m.length
  · have HL := hid hlen
    have hne : ((l.length : Int) != (m.length : Int)) = false := by simp; omega
    clear hlen
    go_enter Try.func86, Try.ntmps86
    go_wp2
    go_loopw [5] (fun i wr => ∃ k : Nat, k ≤ l.length ∧ i = .int .i64 k ∧ l.take k = m.take k ∧ Below w.heap.size w wr) (fun i _ => l.length - (intOf i).toNat)
    case atStart => exact ⟨0, by omega, rfl, by simp, Below.refl _ _⟩
    case round =>
      obtain ⟨k, hkm, rfl, hf, hb⟩ := hrel
      have HF := hid hf
      clear hf
      by_cases hlt : k < l.length
      · obtain ⟨a, x, rfl, hx, hcx⟩ := (hr.below hb).at_str k hlt
        obtain ⟨a', y, rfl, hy, hcy⟩ := (hs.below hb).at_str k (by have := HL.out; omega)
        have hlt' : k < m.length := by have := HL.out; omega
        have HX := hid hx
        have HY := hid hy
        clear hx hy
        by_cases hxy : x = y
        · have h1 : (x.toList == y.toList) = true := by simp [hxy]
          have HXY := hid hxy
          clear hxy
          go_wp2
          go_quiet (fail)
          go_wp2
          go_roundw
          case rel => exact ⟨k + 1, by omega, by go_num, by rw [take_snoc HX.out, take_snoc HY.out, HF.out, HXY.out], below_drewN hb _⟩
          case measure => simp [intOf]; omega
        · have h1 : (x.toList == y.toList) = false := by rw [streq]; simp [hxy]
          have HXY := hid hxy
          clear hxy
          go_wp2
          go_quiet (fail)
          go_wp2
          go_ret
          have : l ≠ m := by
            rintro rfl
            have h2 := HX.out
            have h3 := HY.out
            rw [h2] at h3; injection h3 with h3
            exact HXY.out h3
          exact ⟨by simp [this], below_drewN hb _⟩
      · have : l = m := eq_of_take HL.out (by have := HF.out; rwa [show k = l.length by omega] at this)
        have HE := hid this
        clear this
        go_wp2
        go_ret
        exact ⟨by simp [HE.out], hb⟩
  · have hne : ((l.length : Int) != (m.length : Int)) = true := by simp; omega
    have HL : Hid (l ≠ m) := fun h => hlen (by rw [h])
    go_enter Try.func86, Try.ntmps86
    go_wp2
    go_ret
    exact ⟨by simp [HL.out], Below.refl _ _⟩

end Go.Proofs.Ytolckkckheiceaa
/- What R03.Long's no tells. -/
namespace Go.Proofs.Ytolckkckheiceaa

theorem long_no {l : List ByteArray} {a b : Int} (h : longB l a b = false) : (∀ y ∈ l, (y.size : Int) ≤ b) ∧ (l.length : Int) ≤ a := by
  unfold longB at h
  rw [Bool.or_eq_false_iff] at h
  refine ⟨fun y hy => ?_, by simpa using h.2⟩
  have := List.any_eq_false.1 h.1 y hy
  simpa using this
end Go.Proofs.Ytolckkckheiceaa
