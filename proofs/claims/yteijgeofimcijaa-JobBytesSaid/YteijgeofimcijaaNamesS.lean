import Derived.Test.YteijgeofimcijaaNamesF
namespace Go.Proofs.Yteijgeofimcijaa
open Go.RowKit

set_option maxHeartbeats 400000 in
set_option maxRecDepth 100000 in
theorem sameC_calls (i b1 b2 : Nat) (l m : List ByteArray) (A B : Option Addr) (c d : Nat) (w : World) (hi : i < l.length) (hj : i < m.length)
    (h1 : w.cell? ⟨b1, 0, none⟩ = some (.slice A l.length c)) (h2 : w.cell? ⟨b2, 0, none⟩ = some (.slice B m.length d)) (hl : Kd.str.Row w Any A l) (hm : Kd.str.Row w Any B m) :
    Calls Try.prog 157 #[.int .i64 i, .pointer (some ⟨b1, 0, none⟩), .pointer (some ⟨b2, 0, none⟩)] w fun e w' => e = .returned (.bool (decide (l[i]?.getD ByteArray.empty ≠ m[i]?.getD ByteArray.empty))) ∧ Below w.heap.size w w' := by
  obtain ⟨a, x, rfl, hx, hc⟩ := hl.at_str i hi
  obtain ⟨b, y, rfl, hy, hc2⟩ := hm.at_str i hj
  have HV := hid (show decide (l[i]?.getD ByteArray.empty ≠ m[i]?.getD ByteArray.empty) = !(x.toList == y.toList) by rw [hx, hy, streq]; simp)
  clear hx hy
  go_enter Try.func157, Try.ntmps157
  go_wp2
  go_quiet (fail)
  go_wp2
  go_ret
  exact ⟨ret_bool (by rw [HV.out]), below_drewN (Below.refl _ _) _⟩
theorem callFunc_sameC : ∀ args w, (callFunc 157 args).run Try.prog w = .ok (.enter 157 args) w := by
  intro args w
  kernel_rfl
theorem first_same {l m : List ByteArray} {r : Int} (hlen : l.length = m.length) (h : firstAt (fun i => decide (l[i]?.getD ByteArray.empty ≠ m[i]?.getD ByteArray.empty)) l.length r) : decide (r < 0) = decide (l = m) := by
  rw [decide_eq_decide]
  rcases h with ⟨h0, h1, h2, h3⟩ | ⟨rfl, h⟩
  · refine ⟨fun h => by omega, fun h => ?_⟩
    subst h
    simp at h2
  · refine ⟨fun _ => List.ext_getElem hlen (fun i h1 h2 => ?_), fun _ => by omega⟩
    have := h i (by omega)
    simpa [List.getElem?_eq_getElem h1, List.getElem?_eq_getElem h2] using this

set_option maxHeartbeats 800000 in
set_option maxRecDepth 100000 in
theorem nsame_calls (l m : List ByteArray) (v u : Value) (w : World) (hl : Kd.str.slice.K w Any l [v]) (hm : Kd.str.slice.K w Any m [u]) :
    Calls Try.prog 129 #[v, u] w fun e w' => e = .returned (.bool (decide (l = m))) ∧ Below w.heap.size w w' := by
  obtain ⟨A, c, he, hc, hn, hr⟩ := hl
  cases he
  obtain ⟨B, d, he, hd, hn2, hr2⟩ := hm
  cases he
  have HR := hid hr
  have HR2 := hid hr2
  have hmf := makeFunc_run Try.prog
  clear hr hr2
  by_cases hlen : l.length = m.length
  · have hb : ((l.length : Int) == (m.length : Int)) = true := by rw [beq_iff_eq]; omega
    have HL := hid hlen
    clear hlen
    go_enter Try.func129, Try.ntmps129
    go_wp2_with fail
    refine (first_calls _ _ (fun i => decide (l[i]?.getD ByteArray.empty ≠ m[i]?.getD ByteArray.empty)) _ _ (by omega) callFunc_sameC (fun i W hb hi => ?_)).mono ?_
    · refine sameC_calls i _ _ l m A B c d W (by omega) (by rw [← HL.out]; omega) ?_ ?_ ((HR.out.below (bAlloc (bAlloc (Below.refl _ _) _) _)).below hb) ((HR2.out.below (bAlloc (bAlloc (Below.refl _ _) _) _)).below hb)
      · rw [hb.cell (by simp; omega)]; simp [go_sem]
      · rw [hb.cell (by simp)]; simp [go_sem]
    rintro e w1 ⟨r, hf, rfl, hb1⟩
    have HV := hid (first_same HL.out hf)
    clear hf
    go_wp2
    go_ret
    exact ⟨ret_bool HV.out, bThen (bAlloc (bAlloc (Below.refl _ _) _) _) hb1⟩
  · have hb : ((l.length : Int) == (m.length : Int)) = false := by rw [beq_eq_false_iff_ne]; omega
    have HV := hid (show decide (l = m) = false by rw [decide_eq_false_iff_not]; rintro rfl; exact hlen rfl)
    clear hlen
    go_enter Try.func129, Try.ntmps129
    go_wp2
    go_ret
    exact ⟨ret_bool (by rw [HV.out]), bAlloc (bAlloc (Below.refl _ _) _) _⟩
end Go.Proofs.Yteijgeofimcijaa
