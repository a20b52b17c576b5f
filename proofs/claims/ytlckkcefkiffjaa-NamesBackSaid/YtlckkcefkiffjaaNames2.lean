import Derived.Test.YtlckkcefkiffjaaProg
import Derived.Test.YtlckkcefkiffjaaNames
import Derived.Test.YtlckkcefkiffjaaGlyph
import Derived.Test.YtlckkcefkiffjaaKeep
namespace Go.Proofs.Ytlckkcefkiffjaa
open Go.RowKit

/-! ### the order of strings -/
theorem less_total : ∀ (x y : List UInt8), (!Op.bytesLess x y) = (Op.bytesLess y x || y == x)
  | [], [] => rfl
  | [], _ :: _ => rfl
  | _ :: _, [] => rfl
  | a :: x, b :: y => by
    have ih := less_total x y
    simp only [Op.bytesLess, List.cons_beq_cons]
    rcases Nat.lt_trichotomy a.toNat b.toNat with h | h | h
    · have h1 : a < b := h
      have h2 : ¬ b < a := fun h3 => by have : b.toNat < a.toNat := h3; omega
      have h3 : (a == b) = false := by rw [beq_eq_false_iff_ne]; rintro rfl; omega
      have h4 : (b == a) = false := by rw [beq_eq_false_iff_ne]; rintro rfl; omega
      simp [h1, h2, h4]
    · obtain rfl : a = b := UInt8.toNat_inj.1 h
      have h2 : ¬ a < a := fun h3 => by have : a.toNat < a.toNat := h3; omega
      simp [h2, ih]
    · have h1 : b < a := h
      have h2 : ¬ a < b := fun h3 => by have : a.toNat < b.toNat := h3; omega
      have h3 : (a == b) = false := by rw [beq_eq_false_iff_ne]; rintro rfl; omega
      simp [h1, h2, h3]

/-- is the name at i no less than the next one? -/
def notUp (l : List ByteArray) (i : Nat) : Bool := !Op.bytesLess (l[i]?.getD ByteArray.empty).toList (l[i + 1]?.getD ByteArray.empty).toList
def descB (l : List ByteArray) : Bool := (List.range (l.length - 1)).any (notUp l)
def tabE (l : List ByteArray) : Int := if (16 : Int) < l.length then 1 else if l.all nameB = false then 5 else if descB l = true then 1 else 0

set_option maxHeartbeats 400000 in
set_option maxRecDepth 100000 in
theorem checkC_calls (i b1 : Nat) (l : List ByteArray) (A : Option Addr) (c : Nat) (w : World) (hi : i + 1 < l.length) (hm : l.length ≤ 140737488355328)
    (h1 : w.cell? ⟨b1, 0, none⟩ = some (.slice A l.length c)) (hl : Kd.str.Row w Any A l) :
    Calls Try.prog 80 #[.int .i64 i, .pointer (some ⟨b1, 0, none⟩)] w fun e w' => e = .returned (.bool (notUp l i)) ∧ Below w.heap.size w w' := by
  obtain ⟨a, x, rfl, hx, hc⟩ := hl.at_str i (by omega)
  obtain ⟨a', y, ha, hy, hc2⟩ := hl.at_str (i + 1) hi
  cases ha
  have HV := hid (show notUp l i = !Op.bytesLess x.toList y.toList by simp [notUp, hx, hy])
  have hi1 : i < l.length := by omega
  have h3 : (i : Int) + 1 < l.length := by omega
  have h4 : (0 : Int) ≤ (i : Int) + 1 := by omega
  have h2 : IntKind.i64.wrap ((i : Int) + 1) = i + 1 := IntWalk.i64_in _ (by omega)
  have h5 : ((i : Int) + 1).toNat = i + 1 := by omega
  have hc3 : w.cell? ⟨a.block, a.off + (i + 1), none⟩ = some (.string y) := by rw [← Kd.add_lit _ _ (by omega)]; exact hc2
  clear hx hy
  go_enter Try.func80, Try.ntmps80
  go_wp2
  go_quiet (fail)
  go_wp2
  go_ret
  exact ⟨ret_bool (by rw [HV.out]), below_drewN (Below.refl _ _) _⟩
theorem callFunc_checkC : ∀ args w, (callFunc 80 args).run Try.prog w = .ok (.enter 80 args) w := by
  intro args w
  kernel_rfl

theorem first_any {p : Nat → Bool} {n : Nat} {r : Int} (h : firstAt p ((n : Int) - 1) r) : decide (0 ≤ r) = (List.range (n - 1)).any p := by
  rw [Bool.eq_iff_iff, decide_eq_true_iff, List.any_eq_true]
  rcases h with ⟨h0, h1, h2, h3⟩ | ⟨rfl, h⟩
  · exact ⟨fun _ => ⟨r.toNat, by rw [List.mem_range]; omega, h2⟩, fun _ => h0⟩
  · refine ⟨fun h => by omega, fun ⟨j, hj, hp⟩ => ?_⟩
    rw [List.mem_range] at hj
    rw [h j (by omega)] at hp
    cases hp

set_option maxHeartbeats 800000 in
set_option maxRecDepth 100000 in
theorem check_calls (l : List ByteArray) (v : Value) (w : World) (hl : Kd.str.slice.K w Any l [v]) (hs : ∀ y ∈ l, y.size ≤ 140737488351232) :
    Calls Try.prog 44 #[v] w fun e w' => e = .returned (.int .i64 (tabE l)) ∧ Below w.heap.size w w' := by
  obtain ⟨A, c, he, hc, hn, hr⟩ := hl
  cases he
  have HR := hid hr
  have HS := hid hs
  have HD := hid (show tabE l = if (16 : Int) < l.length then 1 else if l.all nameB = false then 5 else if descB l = true then 1 else 0 from rfl)
  obtain ⟨q, hq⟩ : ∃ q, l.length = q := ⟨_, rfl⟩
  have HQ := hid hq
  rw [hq] at hc hn HD ⊢
  clear hr hs hq
  have hmf := makeFunc_run Try.prog
  by_cases h16 : (16 : Int) < q
  · have HV := hid (show tabE l = 1 by rw [HD.out, if_pos h16])
    go_enter Try.func44, Try.ntmps44
    go_wp2
    go_ret
    exact ⟨ret_int (by rw [HV.out]), bAlloc (Below.refl _ _) _⟩
  · go_enter Try.func44, Try.ntmps44
    go_wp2_with fail
    go_loopw [11] (fun i wr => ∃ k : Nat, k ≤ q ∧ i = .int .i64 k ∧ Hid ((l.take k).all nameB = true) ∧ wr.cell? ⟨w.heap.size, 0, none⟩ = some (.slice A q c) ∧ Below w.heap.size w wr) (fun i _ => q - (intOf i).toNat)
    case atStart => exact ⟨0, by omega, rfl, hid rfl, by simp [go_sem], bAlloc (Below.refl _ _) _⟩
    case round =>
      obtain ⟨k, hk, rfl, HA, hcell, hb⟩ := hrel
      by_cases hlt : k < q
      · obtain ⟨a, x, rfl, hx, hcx⟩ := Kd.Row.at_str (HR.out.below hb) k (by rw [HQ.out]; exact hlt)
        have HX := hid hx
        have hsz := HS.out x (List.mem_of_getElem? hx)
        clear hx
        go_wp2_with fail
        refine (name_calls x _ hsz).mono ?_
        rintro e w1 ⟨rfl, hb1⟩
        have b1 := bThen hb hb1
        have hcell1 : w1.cell? ⟨w.heap.size, 0, none⟩ = some (.slice (some a) q c) := cell_keep hb1 hcell
        clear hcell hcx
        cases hnm : nameB x
        · have HV := hid (show tabE l = 5 by
            rw [HD.out, if_neg (by omega), if_pos]
            rw [List.all_eq_false]
            exact ⟨x, List.mem_of_getElem? HX.out, by simp [hnm]⟩)
          clear hnm
          go_wp2
          go_ret
          exact ⟨ret_int (by rw [HV.out]), b1⟩
        · have HN := hid hnm
          clear hnm
          go_wp2
          go_roundw
          case rel => exact ⟨k + 1, by omega, by go_num, hid (by rw [take_snoc HX.out, List.all_append, HA.out]; simp [HN.out]), hcell1, b1⟩
          case measure => simp [intOf]; omega
      · obtain rfl : k = q := by omega
        have hall : l.all nameB = true := by have := HA.out; rwa [← HQ.out, List.take_length] at this
        have HALL := hid hall
        clear hall
        go_wp2_with fail
        refine (first_calls _ _ (notUp l) _ _ (by omega) callFunc_checkC (fun i W hbW hi => ?_)).mono ?_
        · refine checkC_calls i _ l A c W (by rw [HQ.out]; omega) (by rw [HQ.out]; omega) ?_ (HR.out.below (bThen hb hbW))
          rw [HQ.out]; exact cell_keep hbW hcell
        rintro e w1 ⟨r, hf, rfl, hb1⟩
        have hfa := first_any hf
        have b1 := bThen hb hb1
        have HV := hid (show tabE l = if 0 ≤ r then 1 else 0 by
          rw [HD.out, if_neg (by omega), if_neg (by rw [HALL.out]; simp)]
          unfold descB
          rw [HQ.out, ← hfa]
          simp)
        clear hf hfa hcell
        by_cases h0 : 0 ≤ r
        · go_wp2
          go_ret
          exact ⟨ret_int (by rw [HV.out, if_pos (by omega)]), b1⟩
        · go_wp2
          go_ret
          exact ⟨ret_int (by rw [HV.out, if_neg (by omega)]), b1⟩

set_option maxHeartbeats 400000 in
set_option maxRecDepth 100000 in
theorem sameC_calls (i b1 b2 : Nat) (l m : List ByteArray) (A B : Option Addr) (c d : Nat) (w : World) (hi : i < l.length) (hj : i < m.length)
    (h1 : w.cell? ⟨b1, 0, none⟩ = some (.slice A l.length c)) (h2 : w.cell? ⟨b2, 0, none⟩ = some (.slice B m.length d)) (hl : Kd.str.Row w Any A l) (hm : Kd.str.Row w Any B m) :
    Calls Try.prog 82 #[.int .i64 i, .pointer (some ⟨b1, 0, none⟩), .pointer (some ⟨b2, 0, none⟩)] w fun e w' => e = .returned (.bool (decide (l[i]?.getD ByteArray.empty ≠ m[i]?.getD ByteArray.empty))) ∧ Below w.heap.size w w' := by
  obtain ⟨a, x, rfl, hx, hc⟩ := hl.at_str i hi
  obtain ⟨b, y, rfl, hy, hc2⟩ := hm.at_str i hj
  have HV := hid (show decide (l[i]?.getD ByteArray.empty ≠ m[i]?.getD ByteArray.empty) = !(x.toList == y.toList) by rw [hx, hy, streq]; simp)
  clear hx hy
  go_enter Try.func82, Try.ntmps82
  go_wp2
  go_quiet (fail)
  go_wp2
  go_ret
  exact ⟨ret_bool (by rw [HV.out]), below_drewN (Below.refl _ _) _⟩
theorem callFunc_sameC : ∀ args w, (callFunc 82 args).run Try.prog w = .ok (.enter 82 args) w := by
  intro args w
  kernel_rfl
theorem first_same {l m : List ByteArray} {r : Int} (hlen : l.length = m.length) (h : firstAt (fun i => decide (l[i]?.getD ByteArray.empty ≠ m[i]?.getD ByteArray.empty)) l.length r) : decide (r < 0) = decide (l = m) := by
  rw [decide_eq_decide]
  rcases h with ⟨h0, h1, h2, h3⟩ | ⟨rfl, h⟩
  · refine ⟨fun h => by omega, fun h => ?_⟩
    subst h
    simp at h2
  · refine ⟨fun _ => List.ext_getElem hlen (fun i h1 h2 => ?_), fun _ => by omega⟩
    have := h i (by omega)
    simpa [List.getElem?_eq_getElem h1, List.getElem?_eq_getElem h2] using this

set_option maxHeartbeats 800000 in
set_option maxRecDepth 100000 in
theorem nsame_calls (l m : List ByteArray) (v u : Value) (w : World) (hl : Kd.str.slice.K w Any l [v]) (hm : Kd.str.slice.K w Any m [u]) :
    Calls Try.prog 48 #[v, u] w fun e w' => e = .returned (.bool (decide (l = m))) ∧ Below w.heap.size w w' := by
  obtain ⟨A, c, he, hc, hn, hr⟩ := hl
  cases he
  obtain ⟨B, d, he, hd, hn2, hr2⟩ := hm
  cases he
  have HR := hid hr
  have HR2 := hid hr2
  have hmf := makeFunc_run Try.prog
  clear hr hr2
  by_cases hlen : l.length = m.length
  · have hb : ((l.length : Int) == (m.length : Int)) = true := by rw [beq_iff_eq]; omega
    have HL := hid hlen
    clear hlen
    go_enter Try.func48, Try.ntmps48
    go_wp2_with fail
    refine (first_calls _ _ (fun i => decide (l[i]?.getD ByteArray.empty ≠ m[i]?.getD ByteArray.empty)) _ _ (by omega) callFunc_sameC (fun i W hb hi => ?_)).mono ?_
    · refine sameC_calls i _ _ l m A B c d W (by omega) (by rw [← HL.out]; omega) ?_ ?_ ((HR.out.below (bAlloc (bAlloc (Below.refl _ _) _) _)).below hb) ((HR2.out.below (bAlloc (bAlloc (Below.refl _ _) _) _)).below hb)
      · rw [hb.cell (by simp; omega)]; simp [go_sem]
      · rw [hb.cell (by simp)]; simp [go_sem]
    rintro e w1 ⟨r, hf, rfl, hb1⟩
    have HV := hid (first_same HL.out hf)
    clear hf
    go_wp2
    go_ret
    exact ⟨ret_bool HV.out, bThen (bAlloc (bAlloc (Below.refl _ _) _) _) hb1⟩
  · have hb : ((l.length : Int) == (m.length : Int)) = false := by rw [beq_eq_false_iff_ne]; omega
    have HV := hid (show decide (l = m) = false by rw [decide_eq_false_iff_not]; rintro rfl; exact hlen rfl)
    clear hlen
    go_enter Try.func48, Try.ntmps48
    go_wp2
    go_ret
    exact ⟨ret_bool (by rw [HV.out]), bAlloc (bAlloc (Below.refl _ _) _) _⟩
end Go.Proofs.Ytlckkcefkiffjaa
