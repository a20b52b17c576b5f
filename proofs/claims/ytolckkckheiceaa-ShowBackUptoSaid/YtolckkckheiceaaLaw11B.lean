/- The law ShowBack. -/
import Derived.Test.YtolckkckheiceaaLaw11
import Derived.Test.YtolckkckheiceaaLaw10
import Derived.Test.YtolckkckheiceaaShowP
import Derived.Test.YtolckkckheiceaaRef05c
namespace Go.Proofs.Ytolckkckheiceaa
open Go.RowKit

set_option maxHeartbeats 4000000 in
set_option maxRecDepth 100000 in
theorem rcheckA_calls (l : List NodeS) (v : Value) (w : World) (hl : Kd.node.slice.K w Any l [v]) :
    Calls Try.prog 31 #[v] w fun e w' => e = .returned (.int .i64 (checkN l)) ∧ Below w.heap.size w w' := by
  by_cases h31 : 31 < l.length
  · obtain ⟨A, c, he, hc, hn, hr⟩ := hl
    cases he
    have HC := hid (show checkN l = 4 by unfold checkN; rw [if_pos h31])
    obtain ⟨q, hq⟩ : ∃ q, l.length = q := ⟨_, rfl⟩
    rw [hq] at h31 ⊢
    have h31I : (31 : Int) < (q : Int) := by omega
    clear hr hq hc hn
    go_enter Try.func31, Try.ntmps31
    go_wp2
    go_ret
    rw [HC.out]
    exact ⟨rfl, Below.refl _ _⟩
  · exact rcheck_calls l v w hl (by omega)
set_option maxHeartbeats 4000000 in
set_option maxRecDepth 100000 in
theorem rsame9_calls (l m : List NodeS) (v1 v2 : Value) (w : World) (h1 : Kd.node.slice.K w Any l [v1]) (h2 : Kd.node.slice.K w Any m [v2]) :
    Calls Try.prog 34 #[v1, v2] w fun e w' => e = .returned (.bool (decide (l = m))) ∧ ∃ n, w' = w.drewN n := by
  obtain ⟨A, c, he, hc, hm, hr⟩ := h1
  cases he
  obtain ⟨B, d, he, hd, hm2, hr2⟩ := h2
  cases he
  have HR := hid hr
  have HR2 := hid hr2
  obtain ⟨q, hq⟩ : ∃ q, l.length = q := ⟨_, rfl⟩
  have HQ := hid hq
  obtain ⟨q2, hq2⟩ : ∃ q2, m.length = q2 := ⟨_, rfl⟩
  have HQ2 := hid hq2
  rw [hq] at hc hm ⊢
  rw [hq2] at hd hm2 ⊢
  clear hr hr2 hq hq2
  by_cases hqq : q = q2
  case neg =>
    have HF := hid (show decide (l = m) = false from decide_eq_false (fun e => hqq (by rw [← HQ.out, ← HQ2.out, e])))
    have hne : ((q : Int) != (q2 : Int)) = true := by rw [bne_iff_ne]; omega
    go_enter Try.func34, Try.ntmps34
    go_wp2
    go_ret
    rw [HF.out]
    exact ⟨rfl, 0, rfl⟩
  subst hqq
  have hqn : ((q : Int) != (q : Int)) = false := bne_self_eq_false _
  go_enter Try.func34, Try.ntmps34
  go_wp2
  go_loopw [5] (fun i wr => ∃ k n : Nat, k ≤ q ∧ i = .int .i64 k ∧ wr = w.drewN n ∧ Hid (l.take k = m.take k)) (fun i _ => q - (intOf i).toNat)
  case atStart => exact ⟨0, 0, by omega, rfl, rfl, hid rfl⟩
  case round =>
    obtain ⟨k, n, hk, rfl, rfl, HP⟩ := hrel
    by_cases hlt : k < q
    · obtain ⟨a, x, rfl, hx, r0, r1⟩ := HR.out.at_node k (by rw [HQ.out]; exact hlt)
      obtain ⟨b, y, rfl, hy, s0, s1⟩ := HR2.out.at_node k (by rw [HQ2.out]; exact hlt)
      have hltI : (k : Int) < (q : Int) := by omega
      have hk0 : (0 : Int) ≤ (k : Int) := by omega
      have HNE := hid (fun h : x ≠ y => show decide (l = m) = false from decide_eq_false (fun e => h (by subst e; rw [hx] at hy; exact Option.some.inj hy)))
      have HEQ := hid (fun h : x = y => show l.take (k + 1) = m.take (k + 1) by rw [take_snoc hx, take_snoc hy, HP.out, h])
      clear hx hy
      by_cases hop : x.op = y.op
      · by_cases hn : x.n = y.n
        · have HE := hid (HEQ.out (by cases x; cases y; simp_all))
          have e2 : (x.op != y.op) = false := by rw [hop]; exact bne_self_eq_false _
          have f2 : (x.op == y.op) = true := by rw [hop]; exact beq_self_eq_true _
          have e3 : (x.n != y.n) = false := by rw [hn]; exact bne_self_eq_false _
          have f3 : (x.n == y.n) = true := by rw [hn]; exact beq_self_eq_true _
          clear hop hn
          go_wp2
          go_quiet (fail)
          go_wp2
          go_roundw
          case rel => exact ⟨k + 1, _, by omega, by go_num, rfl, HE⟩
          case measure => simp [intOf]; omega
        · have HF := hid (HNE.out (fun e => hn (by rw [e])))
          have e2 : (x.op != y.op) = false := by rw [hop]; exact bne_self_eq_false _
          have f2 : (x.op == y.op) = true := by rw [hop]; exact beq_self_eq_true _
          have e3 : (x.n != y.n) = true := by rw [bne_iff_ne]; exact hn
          have f3 : (x.n == y.n) = false := by rw [beq_eq_false_iff_ne]; exact hn
          clear hop hn
          go_wp2
          go_quiet (fail)
          go_wp2
          go_ret
          rw [HF.out]
          exact ⟨rfl, _, World.drewN_drewN ..⟩
      · have HF := hid (HNE.out (fun e => hop (by rw [e])))
        have e2 : (x.op != y.op) = true := by rw [bne_iff_ne]; exact hop
        have f2 : (x.op == y.op) = false := by rw [beq_eq_false_iff_ne]; exact hop
        clear hop
        go_wp2
        go_quiet (fail)
        go_wp2
        go_ret
        rw [HF.out]
        exact ⟨rfl, _, World.drewN_drewN ..⟩
    · obtain rfl : k = q := by omega
      have HF := hid (show decide (l = m) = true from decide_eq_true (by
        have := HP.out
        rwa [List.take_of_length_le (by rw [HQ.out]; exact Nat.le_refl _), List.take_of_length_le (by rw [HQ2.out]; exact Nat.le_refl _)] at this))
      go_wp2
      go_ret
      rw [HF.out]
      exact ⟨rfl, n, rfl⟩
theorem name_size {y : ByteArray} (h : nameB y = true) : y.size ≤ 64 := by
  have h0 := h
  unfold nameB at h
  rw [Bool.and_eq_true, Bool.and_eq_true, Bool.and_eq_true] at h
  obtain ⟨⟨⟨h1, _⟩, _⟩, h2⟩ := h
  have h3 := of_decide_eq_true h2
  have hl : ∀ r ∈ runes y, letterB r.C = true := List.all_eq_true.1 h1
  have hw : wholeB y = true := by
    unfold wholeB
    rw [List.all_eq_true]
    intro r hr
    obtain ⟨p, hp⟩ := runes_at hr
    have hl1 := hl r hr
    rw [hp] at hl1 ⊢
    exact letterB_whole hl1
  have := catR_le (runes y)
  rw [cat_whole y hw] at this
  omega
theorem tab_sizes {tab : List ByteArray} (h : tabE tab = 0) : ∀ y ∈ tab, y.size ≤ 64 := by
  have ha : tab.all nameB = true := by
    unfold tabE at h
    split at h
    · cases h
    · split at h
      · cases h
      · rename_i h2; simpa using h2
  exact fun y hy => name_size (List.all_eq_true.1 ha y hy)
theorem text_two {tab : List ByteArray} (h : tabE tab = 0) {l : List NodeS} (hc : checkN l = 0) : (knownN tab l = false ∧ textS tab l = ⟨#[]⟩) ∨ (knownN tab l = true ∧ ∃ t : TreeS, textS tab l = showT tab t ∧ t.ok ∧ NamesT tab t ∧ l = t.nodes) := by
  cases hk : knownN tab l with
  | false => exact .inl ⟨rfl, textS_bad (.inr hk)⟩
  | true =>
    obtain ⟨t, h1, h2, h3, _, _, h6⟩ := textS_ok hc hk
    exact .inr ⟨rfl, t, h1, h2, names_tree h t h2 h6, h3⟩
theorem str_ne {s : ByteArray} (h : s ≠ ⟨#[]⟩) : (s.toList == ([] : List UInt8)) = false ∧ (s.toList != ([] : List UInt8)) = true ∧ (s.toList == (⟨#[]⟩ : ByteArray).toList) = false ∧ (s.toList != (⟨#[]⟩ : ByteArray).toList) = true := by
  have h1 : s.toList ≠ [] := fun e => h (by
    have : s.size = 0 := by rw [← data_len, ← ByteArray.toList_eq, e]; rfl
    exact ByteArray.ext (Array.eq_empty_of_size_eq_zero this))
  have h2 : (⟨#[]⟩ : ByteArray).toList = [] := by rw [ByteArray.toList_eq]
  refine ⟨by rw [beq_eq_false_iff_ne]; exact h1, by rw [bne_iff_ne]; exact h1, by rw [h2, beq_eq_false_iff_ne]; exact h1, by rw [h2, bne_iff_ne]; exact h1⟩
set_option maxHeartbeats 4000000 in
set_option maxRecDepth 100000 in
theorem showBackLaw (tab : List ByteArray) (l m : List NodeS) (tv v u : Value) (w : World) (ht : Kd.str.slice.K w Any tab [tv]) (hl : Kd.node.slice.K w Any l [v]) (hm : Kd.node.slice.K w Any m [u]) (hsz : ∀ y ∈ tab, y.size ≤ 1048576) :
    Calls Try.prog 5 #[tv, v, u] w fun e w' => e = .returned (.bool true) ∧ Below w.heap.size w w' := by
  have HT := hid ht
  have HL := hid hl
  have HM := hid hm
  have HSZ := hid (show ∀ y ∈ tab, y.size * 24 ≤ 140737488351232 from fun y hy => by have := hsz y hy; omega)
  have HTB := hid (fun h : tabE tab = 0 => tab_sizes h)
  clear ht hl hm hsz
  go_enter Try.func5, Try.ntmps5
  go_wp2_with fail
  refine (r05check_calls tab _ _ HT.out HSZ.out).mono ?_
  rintro e w1 ⟨rfl, hb1⟩
  have HB1 := hid hb1
  clear hb1
  by_cases h0 : tabE tab = 0
  case neg =>
    have e0 : (tabE tab != 0) = true := by rw [bne_iff_ne]; exact h0
    generalize tabE tab = z at *
    clear h0
    go_wp2_with fail
    refine (works11_calls _).mono ?_
    rintro e w2 ⟨rfl, hb2⟩
    go_wp2
    go_ret
    exact ⟨rfl, bThen HB1.out hb2⟩
  have HT0 := hid h0
  rw [h0]
  clear h0
  go_wp2_with fail
  refine (rcheckA_calls l _ w1 (Kd.below HL.out HB1.out)).mono ?_
  rintro e w2 ⟨rfl, hb2⟩
  have HB2 := hid (bThen HB1.out hb2)
  clear hb2
  by_cases h1 : checkN l = 0
  case neg =>
    have e0 : (checkN l != 0) = true := by rw [bne_iff_ne]; exact h1
    generalize checkN l = z at *
    clear h1
    go_wp2_with fail
    refine (works11_calls _).mono ?_
    rintro e w3 ⟨rfl, hb3⟩
    go_wp2
    go_ret
    exact ⟨rfl, bThen HB2.out hb3⟩
  have HL0 := hid h1
  rw [h1]
  clear h1
  go_wp2_with fail
  refine (rcheckA_calls m _ w2 (Kd.below HM.out HB2.out)).mono ?_
  rintro e w3 ⟨rfl, hb3⟩
  have HB3 := hid (bThen HB2.out hb3)
  clear hb3
  by_cases h1 : checkN m = 0
  case neg =>
    have e0 : (checkN m != 0) = true := by rw [bne_iff_ne]; exact h1
    generalize checkN m = z at *
    clear h1
    go_wp2_with fail
    refine (works11_calls _).mono ?_
    rintro e w4 ⟨rfl, hb4⟩
    go_wp2
    go_ret
    exact ⟨rfl, bThen HB3.out hb4⟩
  have HM0 := hid h1
  rw [h1]
  clear h1
  have HS := hid (show ∀ y ∈ tab, y.size ≤ 1000000 from fun y hy => by have := HTB.out HT0.out y hy; omega)
  have HLN := hid (show l.length ≤ 1000000 by obtain ⟨_, _, _, _, h, _⟩ := check_ok HL0.out; omega)
  have HMN := hid (show m.length ≤ 1000000 by obtain ⟨_, _, _, _, h, _⟩ := check_ok HM0.out; omega)
  have HLC := hid (text_two HT0.out HL0.out)
  have HMC := hid (text_two HT0.out HM0.out)
  have hszl := textS_size tab 64 (HTB.out HT0.out) l
  obtain ⟨sl, hsl⟩ : ∃ sl, sl = textS tab l := ⟨_, rfl⟩
  obtain ⟨sm, hsm⟩ : ∃ sm, sm = textS tab m := ⟨_, rfl⟩
  have HSL := hid hsl
  have HSM := hid hsm
  rw [← hsl] at HLC hszl
  rw [← hsm] at HMC
  clear hsl hsm
  have HSHL := hid (fun (x : World) (hb : Below w.heap.size w x) (tv v : Value) (ht : Kd.str.slice.K x Any tab [tv]) (hv : Kd.node.slice.K x Any l [v]) => show Calls Try.prog 33 #[tv, v] x fun e w' => e = .returned (.string sl) ∧ Below x.heap.size x w' from by rw [HSL.out]; exact showText_calls tab HS.out l tv v x ht hv HLN.out)
  have HSHM := hid (fun (x : World) (hb : Below w.heap.size w x) (tv v : Value) (ht : Kd.str.slice.K x Any tab [tv]) (hv : Kd.node.slice.K x Any m [v]) => show Calls Try.prog 33 #[tv, v] x fun e w' => e = .returned (.string sm) ∧ Below x.heap.size x w' from by rw [HSM.out]; exact showText_calls tab HS.out m tv v x ht hv HMN.out)
  go_wp2_with fail
  refine (HSHL.out w3 HB3.out _ _ (Kd.below HT.out HB3.out) (Kd.below HL.out HB3.out)).mono ?_
  rintro e w4 ⟨rfl, hb4⟩
  have HB4 := hid (bThen HB3.out hb4)
  clear hb4
  go_wp2_with fail
  refine (HSHM.out w4 HB4.out _ _ (Kd.below HT.out HB4.out) (Kd.below HM.out HB4.out)).mono ?_
  rintro e w5 ⟨rfl, hb5⟩
  have HB5 := hid (bThen HB4.out hb5)
  clear hb5
  go_wp2_with fail
  refine (HSHL.out w5 HB5.out _ _ (Kd.below HT.out HB5.out) (Kd.below HL.out HB5.out)).mono ?_
  rintro e w6 ⟨rfl, hb6⟩
  have HB6 := hid (bThen HB5.out hb6)
  clear hb6
  rcases HLC.out with ⟨_, hs0⟩ | ⟨hkl, t, hs1, hok, hnt, hnod⟩
  · subst hs0
    go_wp2_with fail
    refine (works11_calls _).mono ?_
    rintro e w7 ⟨rfl, hb7⟩
    go_wp2
    go_ret
    exact ⟨rfl, bThen HB6.out hb7⟩
  have HLT := hid (And.intro hs1 (And.intro hok (And.intro hnt hnod)))
  obtain ⟨n1, n2, n3, n4⟩ := str_ne (s := sl) (by rw [hs1]; exact show_pos tab t hok hnt)
  clear hkl hs1 hok hnt hnod
  go_wp2_with fail
  refine (HSHM.out w6 HB6.out _ _ (Kd.below HT.out HB6.out) (Kd.below HM.out HB6.out)).mono ?_
  rintro e w7 ⟨rfl, hb7⟩
  have HB7 := hid (bThen HB6.out hb7)
  clear hb7
  have HNEED := hid (fun h : sl.size ≤ 200 => show needS tab sl = (l, 0, 0) from by
    obtain ⟨h1, h2, h3, h4⟩ := HLT.out
    rw [h1] at h ⊢
    rw [h4]
    exact need_show tab t h2 h3 (by rw [← h4]; exact HL0.out) h)
  rcases HMC.out with ⟨_, hs0⟩ | ⟨hkm, t2, hs1, hok, hnt, hnod⟩
  · subst hs0
    by_cases h200 : 200 < sl.size
    · have h200I : (200 : Int) < (sl.size : Int) := by omega
      go_wp2_with fail
      refine (works11_calls _).mono ?_
      rintro e wx ⟨rfl, hbx⟩
      go_wp2
      go_ret
      exact ⟨rfl, bThen HB7.out hbx⟩
    have h200I : ¬ (200 : Int) < (sl.size : Int) := by omega
    have HNN := hid (HNEED.out (by omega))
    clear h200
    go_wp2_with fail
    refine (readNeed_calls tab sl _ w7 (Kd.below HT.out HB7.out) (by omega)).mono ?_
    rintro e wy ⟨vy, rfl, hOy, hby⟩
    rw [HNN.out] at hOy ⊢
    dsimp only at hOy ⊢
    have HBy := hid (bThen HB7.out hby)
    have HOy := hid (Kd.any hOy.K)
    obtain ⟨Ay, ny, cy, rfl, hq1, hq2⟩ := hOy.shape'
    clear hOy hby hq1 hq2
    go_wp2_with fail
    refine (rsame9_calls l l _ _ wy HOy.out (Kd.below HL.out HBy.out)).mono ?_
    rintro e wz ⟨rfl, nz, hz⟩
    have HBz := hid (show Below w.heap.size w wz by rw [hz]; exact below_drewN HBy.out nz)
    clear hz
    rw [decide_eq_true rfl]
    go_wp2_with fail
    refine (works11_calls _).mono ?_
    rintro e wx ⟨rfl, hbx⟩
    go_wp2
    go_ret
    exact ⟨rfl, bThen HBz.out hbx⟩
  have HMT := hid (And.intro hs1 (And.intro hok (And.intro hnt hnod)))
  obtain ⟨m1, m2, m3, m4⟩ := str_ne (s := sm) (by rw [hs1]; exact show_pos tab t2 hok hnt)
  clear hkm hs1 hok hnt hnod
  have hdd : (sl.toList == sm.toList) = decide (l = m) := by
    obtain ⟨h1, h2, h3, h4⟩ := HLT.out
    obtain ⟨k1, k2, k3, k4⟩ := HMT.out
    by_cases he : l = m
    · rw [decide_eq_true he, HSL.out, HSM.out, he]; exact beq_self_eq_true _
    · rw [decide_eq_false he, beq_eq_false_iff_ne]
      intro e
      apply he
      have e2 : sl = sm := ByteArray.ext (Array.ext' (by rw [← ByteArray.toList_eq, ← ByteArray.toList_eq]; exact e))
      rw [h1, k1] at e2
      rw [h4, k4]
      exact show_inj tab t t2 h2 k2 h3 k3 e2
  obtain ⟨dd, hd⟩ : ∃ dd, dd = decide (l = m) := ⟨_, rfl⟩
  have HD := hid hd
  rw [← hd] at hdd
  clear hd
  have hbb : (dd != dd) = false := bne_self_eq_false _
  go_wp2_with fail
  refine (rsame9_calls l m _ _ w7 (Kd.below HL.out HB7.out) (Kd.below HM.out HB7.out)).mono ?_
  rintro e w8 ⟨rfl, n8, hz8⟩
  have HB8 := hid (show Below w.heap.size w w8 by rw [hz8]; exact below_drewN HB7.out n8)
  clear hz8
  rw [← HD.out]
  by_cases h200 : 200 < sl.size
  · have h200I : (200 : Int) < (sl.size : Int) := by omega
    go_wp2_with fail
    refine (works11_calls _).mono ?_
    rintro e wx ⟨rfl, hbx⟩
    go_wp2
    go_ret
    exact ⟨rfl, bThen HB8.out hbx⟩
  have h200I : ¬ (200 : Int) < (sl.size : Int) := by omega
  have HNN := hid (HNEED.out (by omega))
  clear h200
  go_wp2_with fail
  refine (readNeed_calls tab sl _ w8 (Kd.below HT.out HB8.out) (by omega)).mono ?_
  rintro e wy ⟨vy, rfl, hOy, hby⟩
  rw [HNN.out] at hOy ⊢
  dsimp only at hOy ⊢
  have HBy := hid (bThen HB8.out hby)
  have HOy := hid (Kd.any hOy.K)
  obtain ⟨Ay, ny, cy, rfl, hq1, hq2⟩ := hOy.shape'
  clear hOy hby hq1 hq2
  go_wp2_with fail
  refine (rsame9_calls l l _ _ wy HOy.out (Kd.below HL.out HBy.out)).mono ?_
  rintro e wz ⟨rfl, nz, hz⟩
  have HBz := hid (show Below w.heap.size w wz by rw [hz]; exact below_drewN HBy.out nz)
  clear hz
  rw [decide_eq_true rfl]
  go_wp2_with fail
  refine (works11_calls _).mono ?_
  rintro e wx ⟨rfl, hbx⟩
  go_wp2
  go_ret
  exact ⟨rfl, bThen HBz.out hbx⟩
theorem showBack_walk (W : World) (tab : List ByteArray) (v : Value) (h : Kd.str.slice.K W Any tab [v]) (o : (∀ y ∈ tab, y.size ≤ 1048576) ∧ tab.length ≤ 1048576) (l : List NodeS) (u : Value) (hl : Kd.node.slice.K W Any l [u]) (_ : (∀ y ∈ l, True) ∧ l.length ≤ 1048576) (m : List NodeS) (x : Value) (hm : Kd.node.slice.K W Any m [x]) (_ : (∀ y ∈ m, True) ∧ m.length ≤ 1048576) :
    Calls Try.prog 5 #[v, u, x] W fun e w' => e = .returned (.bool true) ∧ Below W.heap.size W w' := showBackLaw tab l m v u x W h hl hm o.1
end Go.Proofs.Ytolckkckheiceaa
