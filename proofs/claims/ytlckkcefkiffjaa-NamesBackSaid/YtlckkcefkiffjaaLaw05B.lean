import Derived.Test.YtlckkcefkiffjaaLaw05T
namespace Go.Proofs.Ytlckkcefkiffjaa
open Go.RowKit

theorem less_irrefl : ∀ x : List UInt8, Op.bytesLess x x = false
  | [] => rfl
  | a :: x => by
    have h2 : ¬ a < a := fun h3 => by have : a.toNat < a.toNat := h3; omega
    simp [Op.bytesLess, h2, less_irrefl x]
theorem less_trans : ∀ {x y z : List UInt8}, Op.bytesLess x y = true → Op.bytesLess y z = true → Op.bytesLess x z = true
  | [], [], _, h, _ => by simp [Op.bytesLess] at h
  | [], _ :: _, [], _, h => by simp [Op.bytesLess] at h
  | [], _ :: _, _ :: _, _, _ => rfl
  | _ :: _, [], _, h, _ => by simp [Op.bytesLess] at h
  | _ :: _, _ :: _, [], _, h => by simp [Op.bytesLess] at h
  | a :: x, b :: y, c :: z, h, k => by
    simp only [Op.bytesLess, Bool.or_eq_true, Bool.and_eq_true, decide_eq_true_eq, beq_iff_eq] at h k ⊢
    rcases h with h | ⟨rfl, h⟩
    · rcases k with k | ⟨rfl, k⟩
      · left; have h1 : a.toNat < b.toNat := h; have h2 : b.toNat < c.toNat := k; exact show a.toNat < c.toNat by omega
      · exact .inl h
    · rcases k with k | ⟨rfl, k⟩
      · exact .inl k
      · exact .inr ⟨rfl, less_trans h k⟩

theorem up_all {l : List ByteArray} (h : descB l = false) : ∀ (d i : Nat) x y, l[i]? = some x → l[i + d + 1]? = some y → Op.bytesLess x.toList y.toList = true := by
  have step : ∀ i x y, l[i]? = some x → l[i + 1]? = some y → Op.bytesLess x.toList y.toList = true := fun i x y hx hy => by
    have hi := (List.getElem?_eq_some_iff.1 hy).1
    unfold descB at h
    rw [List.any_eq_false] at h
    have := h i (by rw [List.mem_range]; omega)
    simpa [notUp, hx, hy] using this
  intro d
  induction d with
  | zero => intro i x y hx hy; exact step i x y hx hy
  | succ d ih =>
    intro i x y hx hy
    have hi := (List.getElem?_eq_some_iff.1 hy).1
    have hz : l[i + d + 1]? = some (l[i + d + 1]'(by omega)) := List.getElem?_eq_getElem _
    exact less_trans (ih i x _ hx hz) (step (i + d + 1) _ y hz hy)

theorem tab_ok {l : List ByteArray} (h : tabE l = 0) : l.length ≤ 16 ∧ descB l = false := by
  unfold tabE at h
  split at h
  · omega
  · split at h
    · omega
    · split at h
      · omega
      · rename_i h1 _ h3
        exact ⟨by omega, by simpa using h3⟩

theorem place_self {l : List ByteArray} (h : descB l = false) {i : Nat} {x : ByteArray} (hx : l[i]? = some x) : placeN l x = some i := by
  unfold placeN
  obtain ⟨hi, rfl⟩ := List.getElem?_eq_some_iff.1 hx
  rw [List.findIdx?_eq_some_iff_getElem]
  refine ⟨hi, by simp, fun j hj => ?_⟩
  have hj' : j < l.length := by omega
  have := up_all h (i - j - 1) j l[j] l[i] (List.getElem?_eq_getElem hj') (by rw [show j + (i - j - 1) + 1 = i by omega]; exact List.getElem?_eq_getElem hi)
  rw [Bool.not_eq_true, decide_eq_false_iff_not]
  intro e
  rw [e, less_irrefl] at this
  cases this

theorem set_tell {l : List ByteArray} (h : descB l = false) (hl : l.length ≤ 16) (t : Nat) : ∀ (d k i s : Nat), l.length - k = d → k ≤ l.length → s < 2 ^ 64 →
    ∃ a, setN l (tellFrom t (l.drop k) k) i s = (a, -1, 0) ∧ a < 2 ^ 64 ∧ ∀ j, a.testBit j = (s.testBit j || (decide (k ≤ j) && decide (j < l.length) && t.testBit j)) := by
  intro d
  induction d with
  | zero =>
    intro k i s hd hk hs
    rw [List.drop_of_length_le (by omega)]
    refine ⟨s, rfl, hs, fun j => ?_⟩
    have : (decide (k ≤ j) && decide (j < l.length)) = false := by rw [Bool.and_eq_false_iff, decide_eq_false_iff_not, decide_eq_false_iff_not]; omega
    rw [this]; simp
  | succ d ih =>
    intro k i s hd hk hs
    have hk' : k < l.length := by omega
    rw [List.drop_eq_getElem_cons hk']
    have hp : placeN (l.take 64) l[k] = some k := by rw [List.take_of_length_le (by omega)]; exact place_self h (List.getElem?_eq_getElem hk')
    cases ht : t.testBit k
    · obtain ⟨a, h1, h2, h3⟩ := ih (k + 1) i s (by omega) (by omega) hs
      refine ⟨a, by simpa [tellFrom, ht] using h1, h2, fun j => ?_⟩
      rw [h3]
      by_cases hj : j = k
      · subst hj; simp [ht]
      · have : decide (k + 1 ≤ j) = decide (k ≤ j) := by rw [decide_eq_decide]; omega
        rw [this]
    · obtain ⟨a, h1, h2, h3⟩ := ih (k + 1) (i + 1) (s ||| 1 <<< k) (by omega) (by omega) (or_bit_lt hs (by omega))
      refine ⟨a, by simpa [tellFrom, ht, setN, hp] using h1, h2, fun j => ?_⟩
      rw [h3]
      simp only [Nat.testBit_or, Nat.one_shiftLeft, Nat.testBit_two_pow]
      by_cases hj : j = k
      · subst hj; simp [ht, hk']
      · have e1 : decide (k + 1 ≤ j) = decide (k ≤ j) := by rw [decide_eq_decide]; omega
        have e2 : decide (k = j) = false := by rw [decide_eq_false_iff_not]; omega
        rw [e1, e2]; simp

theorem back_core {l : List ByteArray} (h : tabE l = 0) (t : Nat) : ∃ a, setN l (tellFrom t l 0) 0 0 = (a, -1, 0) ∧ a < 2 ^ 64 ∧ l.length ≤ 16 ∧ (∀ j : Nat, hasB a j = (hasB t j && decide ((j : Int) < l.length))) ∧ ∀ (i : Nat) x, l[i]? = some x → placeI l x = i := by
  obtain ⟨h1, h2⟩ := tab_ok h
  obtain ⟨a, k1, k2, k3⟩ := set_tell h2 h1 t l.length 0 0 0 rfl (by omega) (by decide)
  refine ⟨a, by simpa using k1, k2, h1, fun j => ?_, fun i x hx => by unfold placeI; rw [place_self h2 hx]⟩
  unfold hasB
  rw [Int.toNat_natCast, k3]
  by_cases hj : j < l.length <;> simp [hj]

set_option maxHeartbeats 1600000 in
set_option maxRecDepth 100000 in
theorem namesBack_calls (l : List ByteArray) (t : Nat) (v : Value) (w : World) (ht : t < 2 ^ 64) (hl : Kd.str.slice.K w Any l [v]) (hs : ∀ y ∈ l, y.size ≤ 140737488351232) :
    Calls Try.prog 10 #[v, .int .u64 t] w fun e w' => e = .returned (.bool true) ∧ Below w.heap.size w w' := by
  have HL := hid hl
  have HS := hid hs
  clear hl hs
  by_cases h0 : tabE l = 0
  · obtain ⟨a, k1, k2, k3, k4, k5⟩ := back_core h0 t
    have H0 := hid h0
    have K1 := hid k1
    have K4 := hid k4
    have K5 := hid k5
    clear h0 k1 k4 k5
    obtain ⟨A, c, he, hc, hn, hr⟩ := HL.out
    cases he
    have HR := hid hr
    obtain ⟨q, hq⟩ : ∃ q, l.length = q := ⟨_, rfl⟩
    have HQ := hid hq
    rw [hq] at hc hn k3 HL K4 ⊢
    clear hr hq
    go_enter Try.func10, Try.ntmps10
    go_wp2_with fail
    refine (check_calls l _ _ HL.out HS.out).mono ?_
    rintro e w1 ⟨rfl, b1⟩
    rw [H0.out]
    go_wp2_with fail
    refine (tell_calls l t _ _ ht (Kd.below HL.out b1)).mono ?_
    rintro e w2 ⟨u, rfl, hO, hb⟩
    have b2 := bThen b1 hb
    have HO := hid hO
    clear hO hb
    go_wp2_with fail
    refine (set_calls l _ _ _ _ (Kd.below HL.out b2) (Kd.any (Own.K HO.out))).mono ?_
    rintro e w3 ⟨rfl, hb⟩
    rw [K1.out]
    have b3 := bThen b2 hb
    clear hb
    go_wp2_with fail
    go_loopw [8] (fun i wr => ∃ k : Nat, k ≤ 64 ∧ i = .int .i64 k ∧ Below w.heap.size w wr) (fun i _ => 64 - (intOf i).toNat)
    case atStart => exact ⟨0, by omega, rfl, b3⟩
    case round =>
      obtain ⟨k, hk, rfl, hb⟩ := hrel
      by_cases hlt : k < 64
      · have hkk := K4.out k
        by_cases hkq : k < q
        · obtain ⟨a', x, rfl, hx, hcx⟩ := Kd.Row.at_str (HR.out.below hb) k (by rw [HQ.out]; exact hkq)
          have HP := hid (K5.out k x hx)
          have hd : decide ((k : Int) < (q : Int)) = true := by simpa using hkq
          rw [hd, Bool.and_true] at hkk
          have HKK := hid hkk
          clear hx hkk
          go_wp2_with fail
          refine (rhas_calls a k _ k2).mono ?_
          rintro e w4 ⟨rfl, rfl⟩
          go_wp2_with fail
          refine (rhas_calls t k _ ht).mono ?_
          rintro e w5 ⟨rfl, rfl⟩
          rw [HKK.out]
          cases hh : hasB t k
          · go_wp2_with fail
            refine (place_calls l x _ _ (by rw [← HQ.out] at *; exact Kd.below HL.out hb)).mono ?_
            rintro e w6 ⟨rfl, hb6⟩
            rw [HP.out]
            have b6 := bThen hb hb6
            go_wp2
            go_roundw
            case rel => exact ⟨k + 1, by omega, by go_num, b6⟩
            case measure => simp [intOf]; omega
          · go_wp2_with fail
            refine (place_calls l x _ _ (by rw [← HQ.out] at *; exact Kd.below HL.out hb)).mono ?_
            rintro e w6 ⟨rfl, hb6⟩
            rw [HP.out]
            have b6 := bThen hb hb6
            go_wp2
            go_roundw
            case rel => exact ⟨k + 1, by omega, by go_num, b6⟩
            case measure => simp [intOf]; omega
        · have hd2 : decide (k < q) = false := by simp; omega
          have hd : decide ((k : Int) < (q : Int)) = false := by simp; omega
          rw [hd, Bool.and_false] at hkk
          have HKK := hid hkk
          clear hkk
          go_wp2_with fail
          refine (rhas_calls a k _ k2).mono ?_
          rintro e w4 ⟨rfl, rfl⟩
          rw [HKK.out]
          go_wp2_with fail
          refine (rhas_calls t k _ ht).mono ?_
          rintro e w5 ⟨rfl, rfl⟩
          cases hh : hasB t k
          · go_wp2
            go_roundw
            case rel => exact ⟨k + 1, by omega, by go_num, hb⟩
            case measure => simp [intOf]; omega
          · go_wp2
            go_roundw
            case rel => exact ⟨k + 1, by omega, by go_num, hb⟩
            case measure => simp [intOf]; omega
      · go_wp2_with fail
        refine (works05_calls _).mono ?_
        rintro e w6 ⟨rfl, hb6⟩
        have b6 := bThen hb hb6
        go_wp2
        go_ret
        exact ⟨rfl, b6⟩
  · have h1 : (tabE l == (0 : Int)) = false := by rw [beq_eq_false_iff_ne]; exact h0
    have h2 : (tabE l != (0 : Int)) = true := by rw [bne_iff_ne]; exact h0
    have H0 := hid h0
    clear h0
    go_enter Try.func10, Try.ntmps10
    go_wp2_with fail
    refine (check_calls l _ _ HL.out HS.out).mono ?_
    rintro e w1 ⟨rfl, b1⟩
    go_wp2_with fail
    refine (works05_calls _).mono ?_
    rintro e w6 ⟨rfl, hb6⟩
    have b6 := bThen b1 hb6
    go_wp2
    go_ret
    exact ⟨rfl, b6⟩

theorem namesBack_walk (W : World) (l : List ByteArray) (v : Value) (hl : Kd.str.slice.K W Any l [v]) (ol : (∀ y ∈ l, y.size ≤ 140737488351232) ∧ l.length * 16 ≤ 140737488351232) (t : Int) (ht : (Lit.int .u64 t).wf = true) :
    Calls Try.prog 10 #[v, .int .u64 t] W fun e w' => e = .returned (.bool true) ∧ Below W.heap.size W w' := by
  obtain ⟨h0, h1⟩ := u64_range ht
  obtain ⟨n, rfl⟩ := Int.eq_ofNat_of_zero_le h0
  exact namesBack_calls l n v W (by omega) hl ol.1
end Go.Proofs.Ytlckkcefkiffjaa
