/- show.Text, show.Lines, the document's Text; the law ShowTexts. -/
import Derived.Test.YteijgeofimcijaaShow3
import Derived.Test.YteijgeofimcijaaBuilder
import Derived.Test.YteijgeofimcijaaRef03
namespace Go.Proofs.Yteijgeofimcijaa
open Go.RowKit Go.Lib

def oddN (tab : List ByteArray) (x : NodeS) : Bool := decide (x.op = 2) && decide ((tab.length : Int) ≤ x.n)
theorem known_bad {tab : List ByteArray} {l : List NodeS} {k : Nat} {x : NodeS} (hx : l[k]? = some x) (h : oddN tab x = true) : knownN tab l = false := by
  unfold knownN
  rw [List.all_eq_false]
  exact ⟨x, List.mem_of_getElem? hx, by unfold oddN at h; rw [h]; decide⟩
theorem known_ok {tab : List ByteArray} {l : List NodeS} (h : ∀ (j : Nat) x, l[j]? = some x → oddN tab x = false) : knownN tab l = true := by
  unfold knownN
  rw [List.all_eq_true]
  intro x hx
  obtain ⟨j, hj⟩ := List.getElem?_of_mem hx
  have := h j x hj
  unfold oddN at this
  rw [this]; rfl
theorem known_tree {tab : List ByteArray} {t : TreeS} (h : knownN tab t.nodes = true) : knownT tab t := by
  intro x hx h2
  have := List.all_eq_true.1 h x hx
  simp [h2] at this
  omega
theorem textS_bad {tab : List ByteArray} {l : List NodeS} (h : checkN l ≠ 0 ∨ knownN tab l = false) : textS tab l = ⟨#[]⟩ := by
  unfold textS
  rw [if_neg]
  rintro ⟨h1, h2⟩
  rcases h with h | h
  · exact h h1
  · rw [h] at h2; cases h2
theorem textS_ok {tab : List ByteArray} {l : List NodeS} (h1 : checkN l = 0) (h2 : knownN tab l = true) : ∃ t : TreeS, textS tab l = showT tab t ∧ t.ok ∧ l = t.nodes ∧ t.size ≤ 31 ∧ t.deep ≤ 8 ∧ knownT tab t := by
  obtain ⟨t, ht, hok, hl, h31, h8⟩ := check_ok h1
  refine ⟨t, ?_, hok, hl, by rw [← TreeS.nodes_len, ← hl]; exact h31, h8, known_tree (by rw [← hl]; exact h2)⟩
  unfold textS
  rw [if_pos ⟨h1, h2⟩, ht]
theorem textS_size (tab : List ByteArray) (B : Nat) (hB : ∀ y ∈ tab, y.size ≤ B) (l : List NodeS) : (textS tab l).size ≤ 31 * (B + 7) := by
  by_cases h : checkN l = 0 ∧ knownN tab l = true
  · obtain ⟨t, ht, _, _, h31, _⟩ := textS_ok h.1 h.2
    rw [ht]
    have := showT_size tab B hB t
    have h2 : t.size * (B + 7) ≤ 31 * (B + 7) := Nat.mul_le_mul_right _ h31
    omega
  · rw [textS_bad (by rcases Classical.em (checkN l = 0) with h1 | h1
                      · right; cases hk : knownN tab l with
                        | false => rfl
                        | true => exact absurd ⟨h1, hk⟩ h
                      · exact .inl h1)]
    exact Nat.zero_le _
set_option maxHeartbeats 2000000 in
set_option maxRecDepth 100000 in
theorem showText_calls (tab : List ByteArray) (hB : ∀ y ∈ tab, y.size ≤ 1000000) (l : List NodeS) (tv v : Value) (w : World) (ht : Kd.str.slice.K w Any tab [tv]) (hl : Kd.node.slice.K w Any l [v]) (hs : l.length ≤ 1000000) :
    Calls Try.prog 17 #[tv, v] w fun e w' => e = .returned (.string (textS tab l)) ∧ Below w.heap.size w w' := by
  have HT := hid ht
  have HL := hid hl
  have HS := hid hs
  have HBB := hid hB
  obtain ⟨B, d, he, hc, hn, _⟩ := ht
  cases he
  obtain ⟨A, c, he, hc1, hm1, hr⟩ := hl
  cases he
  have HR := hid hr
  obtain ⟨q, hq⟩ : ∃ q, l.length = q := ⟨_, rfl⟩
  have HQ := hid hq
  rw [hq] at hc1 hm1 HL ⊢
  clear hr hq hB
  go_enter Try.func17, Try.ntmps17
  go_wp2_with fail
  refine (needCheck_calls l _ w HL.out HS.out).mono ?_
  rintro e w1 ⟨rfl, hb1⟩
  have HB1 := hid hb1
  clear hb1
  obtain ⟨cv, hcv⟩ : ∃ cv, cv = checkN l := ⟨_, rfl⟩
  rw [← hcv]
  have HCV := hid hcv
  clear hcv
  by_cases h0 : cv = 0
  case neg =>
    have hb : (cv != 0) = true := by rw [bne_iff_ne]; exact h0
    have HF := hid (textS_bad (tab := tab) (l := l) (.inl (by rw [← HCV.out]; exact h0)))
    clear h0
    go_wp2
    go_ret
    rw [HF.out]
    exact ⟨rfl, HB1.out⟩
  subst h0
  go_wp2
  go_loopw [12] (fun i wr => ∃ k : Nat, k ≤ q ∧ i = .int .i64 k ∧ Hid (∀ (j : Nat) x, j < k → l[j]? = some x → oddN tab x = false) ∧ Hid (Below w.heap.size w wr)) (fun i _ => q - (intOf i).toNat)
  case atStart => exact ⟨0, by omega, rfl, fun j x h => by omega, HB1⟩
  case round =>
    obtain ⟨k, hk, rfl, HN, HB⟩ := hrel
    by_cases hlt : k < q
    · obtain ⟨a, x, rfl, hx, r0, r1⟩ := (HR.out.below HB.out).at_node k (by rw [HQ.out]; exact hlt)
      have HX := hid hx
      have hltI : (k : Int) < (q : Int) := by omega
      have hk0 : (0 : Int) ≤ (k : Int) := by omega
      have hws := HB.out.size
      have hstep : oddN tab x = false → (∀ (j : Nat) y, j < k + 1 → l[j]? = some y → oddN tab y = false) := fun ho j y hj hy => by
        rcases Nat.lt_or_ge j k with h | h
        · exact HN.out j y h hy
        · rw [show j = k by omega, HX.out] at hy
          rw [← Option.some.inj hy]; exact ho
      have HST := hid hstep
      clear hx hstep
      by_cases h2 : x.op = 2
      · have hb2 : (x.op == 2) = true := by rw [beq_iff_eq]; exact h2
        by_cases h3 : (tab.length : Int) ≤ x.n
        · have HF := hid (textS_bad (tab := tab) (l := l) (.inr (known_bad HX.out (by unfold oddN; rw [decide_eq_true h2, decide_eq_true h3]; rfl))))
          clear h2
          go_wp2
          go_ret
          rw [HF.out]
          exact ⟨rfl, bAlloc HB.out _⟩
        · have HN2 := hid (HST.out (by unfold oddN; rw [decide_eq_false h3, Bool.and_false]))
          clear h2
          go_wp2
          go_roundw
          case rel => exact ⟨k + 1, by omega, by go_num, HN2, bAlloc HB.out _⟩
          case measure => simp [intOf]; omega
      · have hb2 : (x.op == 2) = false := by rw [beq_eq_false_iff_ne]; exact h2
        have HN2 := hid (HST.out (by unfold oddN; rw [decide_eq_false h2, Bool.false_and]))
        clear h2
        go_wp2
        go_roundw
        case rel => exact ⟨k + 1, by omega, by go_num, HN2, bAlloc HB.out _⟩
        case measure => simp [intOf]; omega
    · obtain rfl : k = q := by omega
      have hkn := known_ok (tab := tab) (l := l) (fun j x hx => HN.out j x (by have := (List.getElem?_eq_some_iff.1 hx).1; rw [HQ.out] at this; exact this) hx)
      obtain ⟨t, hts, hok, hln, h31, h8, hkt⟩ := textS_ok HCV.out.symm hkn
      have HLT := hid (show Kd.node.slice.K wr Any t.nodes [.slice A k c] by rw [← hln]; exact Kd.below HL.out HB.out)
      have HTO := hid (text_ok tab HBB.out t hok hkt h31 h8 wr (.slice B tab.length d) (.slice A k c) (Kd.below HT.out HB.out) HLT.out)
      have HTS := hid hts
      clear hkn hts hok hln h31 h8 hkt
      go_wp2_with fail
      refine HTO.out.mono ?_
      rintro e w3 ⟨rfl, hb3⟩
      go_wp2
      go_ret
      rw [HTS.out]
      exact ⟨rfl, bThen HB.out hb3⟩
set_option maxHeartbeats 2000000 in
set_option maxRecDepth 100000 in
theorem rtextS_calls (tab : List ByteArray) (hB : ∀ y ∈ tab, y.size ≤ 1000000) (l : List NodeS) (tv v : Value) (w : World) (ht : Kd.str.slice.K w Any tab [tv]) (hl : Kd.node.slice.K w Any l [v]) (hs : l.length ≤ 1000000) :
    Calls Try.prog 18 #[tv, v] w fun e w' => e = .returned (.string (textS tab l)) ∧ Below w.heap.size w w' := by
  have HT := hid ht
  have HL := hid hl
  have HS := hid hs
  have HBB := hid hB
  obtain ⟨B, d, he, hc, hn, _⟩ := ht
  cases he
  obtain ⟨A, c, he, hc1, hm1, hr⟩ := hl
  cases he
  have HR := hid hr
  obtain ⟨q, hq⟩ : ∃ q, l.length = q := ⟨_, rfl⟩
  have HQ := hid hq
  rw [hq] at hc1 hm1 HL ⊢
  clear hr hq hB
  go_enter Try.func18, Try.ntmps18
  go_wp2_with fail
  refine (rcheck_calls l _ w HL.out HS.out).mono ?_
  rintro e w1 ⟨rfl, hb1⟩
  have HB1 := hid hb1
  clear hb1
  obtain ⟨cv, hcv⟩ : ∃ cv, cv = checkN l := ⟨_, rfl⟩
  rw [← hcv]
  have HCV := hid hcv
  clear hcv
  by_cases h0 : cv = 0
  case neg =>
    have hb : (cv != 0) = true := by rw [bne_iff_ne]; exact h0
    have HF := hid (textS_bad (tab := tab) (l := l) (.inl (by rw [← HCV.out]; exact h0)))
    clear h0
    go_wp2
    go_ret
    rw [HF.out]
    exact ⟨rfl, HB1.out⟩
  subst h0
  have HLN := hid (show l.length ≤ 31 from (check_ok HCV.out.symm).choose_spec.2.2.2.1)
  go_wp2
  go_loop [5] (fun i => ∃ k : Nat, k ≤ q ∧ i = .int .i64 k ∧ Hid (∀ (j : Nat) x, j < k → l[j]? = some x → oddN tab x = false)) (fun i => q - (intOf i).toNat)
  case atStart => exact ⟨0, by omega, rfl, fun j x h => by omega⟩
  case round =>
    obtain ⟨k, hk, rfl, HN⟩ := hrel
    by_cases hlt : k < q
    · obtain ⟨a, x, rfl, hx, r0, r1⟩ := (HR.out.below HB1.out).at_node k (by rw [HQ.out]; exact hlt)
      have HX := hid hx
      have hltI : (k : Int) < (q : Int) := by omega
      have hk0 : (0 : Int) ≤ (k : Int) := by omega
      have hstep : oddN tab x = false → (∀ (j : Nat) y, j < k + 1 → l[j]? = some y → oddN tab y = false) := fun ho j y hj hy => by
        rcases Nat.lt_or_ge j k with h | h
        · exact HN.out j y h hy
        · rw [show j = k by omega, HX.out] at hy
          rw [← Option.some.inj hy]; exact ho
      have HST := hid hstep
      clear hx hstep
      by_cases h2 : x.op = 2
      · have hb2 : (x.op == 2) = true := by rw [beq_iff_eq]; exact h2
        by_cases h3 : (tab.length : Int) ≤ x.n
        · have HF := hid (textS_bad (tab := tab) (l := l) (.inr (known_bad HX.out (by unfold oddN; rw [decide_eq_true h2, decide_eq_true h3]; rfl))))
          clear h2
          go_wp2
          go_ret
          rw [HF.out]
          exact ⟨rfl, HB1.out⟩
        · have HN2 := hid (HST.out (by unfold oddN; rw [decide_eq_false h3, Bool.and_false]))
          clear h2
          go_wp2
          go_round
          case rel => exact ⟨k + 1, by omega, by go_num, HN2⟩
          case measure => simp [intOf]; omega
      · have hb2 : (x.op == 2) = false := by rw [beq_eq_false_iff_ne]; exact h2
        have HN2 := hid (HST.out (by unfold oddN; rw [decide_eq_false h2, Bool.false_and]))
        clear h2
        go_wp2
        go_round
        case rel => exact ⟨k + 1, by omega, by go_num, HN2⟩
        case measure => simp [intOf]; omega
    · obtain rfl : k = q := by omega
      have hkn := known_ok (tab := tab) (l := l) (fun j x hx => HN.out j x (by have := (List.getElem?_eq_some_iff.1 hx).1; rw [HQ.out] at this; exact this) hx)
      obtain ⟨t, hts, hok, hln, h31, h8, hkt⟩ := textS_ok HCV.out.symm hkn
      have hkz : k = t.size := by rw [← HQ.out, hln, TreeS.nodes_len]
      have hk1 := size_pos t
      rw [← hkz] at hk1
      have e1 : IntKind.i64.wrap ((k : Int) - 1) = (k : Int) - 1 := IntWalk.i64_in _ (by omega)
      have HTO := hid (rtext_ok tab HBB.out l (by have := HLN.out; omega) t hok hkt h31 [] [] ((k : Int) - 1) (by simpa using hln) (by rw [hkz]; simp) w1 (.slice B tab.length d) (.slice A k c) (Kd.below HT.out HB1.out) (Kd.below HL.out HB1.out))
      have HTS := hid hts
      clear hkn hts hok hln h31 h8 hkt hkz
      go_wp2_with fail
      refine HTO.out.mono ?_
      rintro e w3 ⟨rfl, hb3⟩
      go_wp2
      go_ret
      rw [HTS.out]
      exact ⟨rfl, bThen HB1.out hb3⟩
def linesB (tab : List ByteArray) (ls : List (List NodeS)) : List UInt8 := ls.flatMap (fun l => (textS tab l).data.toList ++ [10])
theorem linesB_snoc (tab : List ByteArray) (ls : List (List NodeS)) (l : List NodeS) : linesB tab (ls ++ [l]) = linesB tab ls ++ (textS tab l).data.toList ++ [10] := by
  unfold linesB
  rw [List.flatMap_append]
  simp
theorem linesB_len (tab : List ByteArray) (hB : ∀ y ∈ tab, y.size ≤ 1000000) (ls : List (List NodeS)) : (linesB tab ls).length ≤ ls.length * 31000218 := by
  induction ls with
  | nil => exact Nat.zero_le _
  | cons l ls ih =>
    have := textS_size tab 1000000 hB l
    unfold linesB at ih ⊢
    simp only [List.flatMap_cons, List.length_append, data_len, List.length_cons, List.length_nil] at ih ⊢
    omega
set_option maxHeartbeats 2000000 in
set_option maxRecDepth 100000 in
theorem showLines_calls (tab : List ByteArray) (hB : ∀ y ∈ tab, y.size ≤ 1000000) (ls : List (List NodeS)) (tv v : Value) (w : World) (ht : Kd.str.slice.K w Any tab [tv]) (hl : Kd.node.slice.slice.K w Any ls [v]) (hs : ls.length ≤ 100) (hs2 : ∀ l ∈ ls, l.length ≤ 1000000) :
    Calls Try.prog 19 #[tv, v] w fun e w' => e = .returned (.string (mkB (linesB tab ls))) ∧ Below w.heap.size w w' := by
  have HT := hid ht
  have HBB := hid hB
  have HS2 := hid hs2
  obtain ⟨B, d, he, _, _, _⟩ := ht
  cases he
  obtain ⟨A, c, he, hc1, hm1, hr⟩ := hl
  cases he
  have HR := hid hr
  obtain ⟨q, hq⟩ : ∃ q, ls.length = q := ⟨_, rfl⟩
  have HQ := hid hq
  rw [hq] at hc1 hm1 hs ⊢
  clear hr hq hB hs2
  go_enter Try.func19, Try.ntmps19
  go_wp2
  go_loopw [10] (fun i wr => ∃ k : Nat, k ≤ q ∧ i = .int .i64 k ∧ Hid (BldAt wr w.heap.size w.heap.size (linesB tab (ls.take k))) ∧ Hid (Below w.heap.size w wr)) (fun i _ => q - (intOf i).toNat)
  case atStart => exact ⟨0, by omega, rfl, bld_new w, bAlloc (Below.refl _ _) _⟩
  case round =>
    obtain ⟨k, hk, rfl, HD, HB⟩ := hrel
    by_cases hlt : k < q
    · obtain ⟨l, hx⟩ : ∃ l, ls[k]? = some l := ⟨ls[k]'(by rw [HQ.out]; exact hlt), List.getElem?_eq_getElem _⟩
      obtain ⟨a, cs, rfl, _, _, hkk, hcell⟩ := (HR.out.below HB.out) k l hx
      have HKK := hid hkk
      obtain ⟨A2, c2, rfl, _, _, _⟩ := hkk
      have r0 : wr.cell? (a.add k) = some (.slice A2 l.length c2) := by
        have := hcell 0 _ rfl
        rwa [show k * Kd.node.slice.sz + 0 = k from mul_one' k] at this
      have HX := hid hx
      have hltI : (k : Int) < (q : Int) := by omega
      have hk0 : (0 : Int) ≤ (k : Int) := by omega
      have HLL := hid (HS2.out l (List.mem_of_getElem? hx))
      have hlen := linesB_len tab HBB.out (ls.take k)
      rw [List.length_take, HQ.out, Nat.min_eq_left (by omega)] at hlen
      have hts := textS_size tab 1000000 HBB.out l
      have hlen2 : (linesB tab (ls.take k)).length + (textS tab l).size ≤ 100000000000 := by omega
      have HLE := hid hlen2
      have hws := HB.out.size
      clear hx hcell hlen hts hlen2
      go_wp2_with fail
      refine (showText_calls tab HBB.out l _ _ wr (Kd.below HT.out HB.out) HKK.out HLL.out).mono ?_
      rintro e w1 ⟨rfl, hb1⟩
      have HB1 := hid (bThen HB.out hb1)
      have HD1 := hid (bld_below HD.out hb1)
      clear hb1
      go_wp2_with fail
      refine (bldWrite_calls w.heap.size w.heap.size _ (textS tab l) w1 HD1.out (by have := HLE.out; omega) HB1.out.size).mono ?_
      rintro e w2 ⟨rfl, hd2, hb2, _⟩
      have HD2 := hid hd2
      have HB2 := hid (HB1.out.trans hb2)
      clear hd2 hb2
      go_wp2_with fail
      refine (bldWrite_calls w.heap.size w.heap.size _ ⟨#[10]⟩ w2 HD2.out (by rw [List.length_append, data_len]; have := HLE.out; show _ + 1 ≤ _; omega) HB2.out.size).mono ?_
      rintro e w3 ⟨rfl, hd3, hb3, _⟩
      have HD3 := hid (show BldAt w3 w.heap.size w.heap.size (linesB tab (ls.take (k + 1))) by rw [take_snoc HX.out, linesB_snoc]; exact hd3)
      have HB3 := hid (HB2.out.trans hb3)
      clear hd3 hb3
      go_wp2
      go_roundw
      case rel => exact ⟨k + 1, by omega, by go_num, HD3, HB3⟩
      case measure => simp [intOf]; omega
    · obtain rfl : k = q := by omega
      have e : ls.take k = ls := by rw [List.take_of_length_le]; rw [HQ.out]; exact Nat.le_refl _
      have HE := hid e
      clear e
      go_wp2_with fail
      refine (bldString_calls _ _ _ _ HD.out HB.out.size).mono ?_
      rintro e w1 ⟨rfl, hb1⟩
      go_wp2
      go_ret
      rw [HE.out]
      exact ⟨rfl, HB.out.trans hb1⟩
def exTab : List ByteArray := [⟨#[97, 114, 109]⟩, ⟨#[103, 112, 117]⟩, ⟨#[115, 115, 100]⟩]
def exNeed : List NodeS := [⟨2, 1⟩, ⟨2, 2⟩, ⟨5, 0⟩, ⟨2, 0⟩, ⟨3, 0⟩, ⟨4, 0⟩]
theorem exTab_size : ∀ y ∈ exTab, y.size ≤ 1000000 := by
  intro y hy
  simp [exTab] at hy
  rcases hy with rfl | rfl | rfl <;> decide
set_option maxHeartbeats 2000000 in
set_option maxRecDepth 100000 in
theorem works11_calls (w : World) : Calls Try.prog 16 #[] w fun e w' => e = .returned (.bool true) ∧ Below w.heap.size w w' := by
  have T1 := hid (show textS exTab exNeed = ⟨#[40, 103, 112, 117, 32, 124, 32, 115, 115, 100, 41, 32, 38, 32, 33, 97, 114, 109]⟩ by decide +kernel)
  have HN := hid (show Kd.node.slice.K (w.alloc (.cells (exNeed.flatMap (fun (x : NodeS) => [Value.int .i64 x.op, .int .i64 x.n])).toArray 122)) Any exNeed [.slice (some ⟨w.heap.size, 0, none⟩) 6 6] from
    Kd.any (K_new (enc := fun (x : NodeS) => [.int .i64 x.op, .int .i64 x.n]) (hl := fun _ => rfl) (h1 := fun x u hu => by simp at hu; rcases hu with rfl | rfl <;> rfl) w w.heap.size rfl 122 exNeed (by decide)))
  go_enter Try.func16, Try.ntmps16
  go_wp2_with fail
  refine (showText_calls exTab exTab_size exNeed _ _ _ (K_newS (w.alloc (.cells (exNeed.flatMap (fun (x : NodeS) => [Value.int .i64 x.op, .int .i64 x.n])).toArray 122)) (w.heap.size + 1) (by simp) 9 exTab (by decide)) (Kd.below HN.out (bAlloc (Below.refl _ _) _)) (by decide)).mono ?_
  rintro e w1 ⟨rfl, hb1⟩
  rw [T1.out]
  have HB1 := hid (bThen (bAlloc (bAlloc (Below.refl w.heap.size w) _) _) hb1)
  clear hb1
  go_wp2
  go_ret
  exact ⟨rfl, HB1.out⟩
theorem mkB_snoc (x y : ByteArray) : mkB (x.data.toList ++ [10] ++ (y.data.toList ++ [10])) = x ++ ⟨#[10]⟩ ++ y ++ ⟨#[10]⟩ := by
  rw [show (⟨#[10]⟩ : ByteArray) = mkB [10] from rfl]
  conv => rhs; rw [← mkB_of x, ← mkB_of y, mkB_append, mkB_append, mkB_append]
  simp only [List.append_assoc]
theorem long_no {l : List ByteArray} {a b : Int} (h : longB l a b = false) : (∀ y ∈ l, (y.size : Int) ≤ b) ∧ (l.length : Int) ≤ a := by
  unfold longB at h
  rw [Bool.or_eq_false_iff] at h
  refine ⟨fun y hy => ?_, by simpa using h.2⟩
  have := List.any_eq_false.1 h.1 y hy
  simpa using this
set_option maxHeartbeats 4000000 in
set_option maxRecDepth 100000 in
theorem showTextsLaw (tab : List ByteArray) (l m : List NodeS) (tv v u : Value) (w : World) (ht : Kd.str.slice.K w Any tab [tv]) (hl : Kd.node.slice.K w Any l [v]) (hm : Kd.node.slice.K w Any m [u]) :
    Calls Try.prog 3 #[tv, v, u] w fun e w' => e = .returned (.bool true) ∧ Below w.heap.size w w' := by
  have HT := hid ht
  have HL := hid hl
  have HM := hid hm
  obtain ⟨B, d, he, _, _, _⟩ := ht
  cases he
  obtain ⟨A, c, he, _, _, _⟩ := hl
  cases he
  obtain ⟨A2, c2, he, _, _, _⟩ := hm
  cases he
  obtain ⟨q, hq⟩ : ∃ q, l.length = q := ⟨_, rfl⟩
  obtain ⟨q2, hq2⟩ : ∃ q2, m.length = q2 := ⟨_, rfl⟩
  have HQ := hid hq
  have HQ2 := hid hq2
  rw [hq] at HL ⊢
  rw [hq2] at HM ⊢
  have HLB := hid (fun h : longB tab 40 100 = false => long_no h)
  clear hq hq2
  go_enter Try.func3, Try.ntmps3
  go_wp2_with fail
  refine (long_calls tab 40 100 _ _ HT.out).mono ?_
  rintro e w1 ⟨rfl, rfl⟩
  cases hlb : longB tab 40 100
  case true =>
    go_wp2_with fail
    refine (works11_calls _).mono ?_
    rintro e w2 ⟨rfl, hb2⟩
    go_wp2
    go_ret
    exact ⟨rfl, hb2⟩
  have HSZ := hid (show ∀ y ∈ tab, y.size ≤ 1000000 from fun y hy => by have := (HLB.out hlb).1 y hy; omega)
  clear hlb
  by_cases h1 : 100 < q
  · have h1I : (100 : Int) < (q : Int) := by omega
    go_wp2_with fail
    refine (works11_calls _).mono ?_
    rintro e w2 ⟨rfl, hb2⟩
    go_wp2
    go_ret
    exact ⟨rfl, hb2⟩
  have h1I : ¬ (100 : Int) < (q : Int) := by omega
  by_cases h2 : 100 < q2
  · have h2I : (100 : Int) < (q2 : Int) := by omega
    go_wp2_with fail
    refine (works11_calls _).mono ?_
    rintro e w2 ⟨rfl, hb2⟩
    go_wp2
    go_ret
    exact ⟨rfl, hb2⟩
  have h2I : ¬ (100 : Int) < (q2 : Int) := by omega
  have zl := textS_size tab 1000000 HSZ.out l
  have zm := textS_size tab 1000000 HSZ.out m
  have HLN := hid (mkB_snoc (textS tab l) (textS tab m))
  obtain ⟨sl, hsl⟩ : ∃ sl, sl = textS tab l := ⟨_, rfl⟩
  obtain ⟨sm, hsm⟩ : ∃ sm, sm = textS tab m := ⟨_, rfl⟩
  have HSL := hid hsl
  have HSM := hid hsm
  rw [← hsl] at zl
  rw [← hsm] at zm
  have h10 : (⟨#[10]⟩ : ByteArray).size = 1 := rfl
  have HLI := hid (show mkB (linesB tab [l, m]) = sl ++ ⟨#[10]⟩ ++ sm ++ ⟨#[10]⟩ by rw [hsl, hsm, ← mkB_snoc]; simp [linesB])
  have HNI := hid (show mkB (linesB tab []) = ⟨#[]⟩ from rfl)
  have eq1 := streq sl sl
  rw [decide_eq_true rfl] at eq1
  have eq2 := streq (sl ++ ⟨#[10]⟩ ++ sm ++ ⟨#[10]⟩) (sl ++ ⟨#[10]⟩ ++ sm ++ ⟨#[10]⟩)
  rw [decide_eq_true rfl] at eq2
  clear hsl hsm
  go_wp2_with fail
  refine (showText_calls tab HSZ.out l _ _ _ HT.out HL.out (by rw [HQ.out]; omega)).mono ?_
  rintro e w2 ⟨rfl, hb2⟩
  rw [← HSL.out]
  have HB2 := hid hb2
  clear hb2
  go_wp2_with fail
  refine (rtextS_calls tab HSZ.out l _ _ _ (Kd.below HT.out HB2.out) (Kd.below HL.out HB2.out) (by rw [HQ.out]; omega)).mono ?_
  rintro e w3 ⟨rfl, hb3⟩
  rw [← HSL.out]
  have HB3 := hid (bThen HB2.out hb3)
  clear hb3
  have HLS := hid (show Kd.node.slice.slice.K (w3.alloc (.cells #[.slice A q c, .slice A2 q2 c2] 23)) Any [l, m] [.slice (some ⟨w3.heap.size, 0, none⟩) 2 2] from
    K_of_block (d := Kd.node.slice) 2 2 rfl (heap_alloc_new w3 _) trivial ⟨_, _, rfl, Kd.below HL.out (bAlloc HB3.out _), _, _, rfl, Kd.below HM.out (bAlloc HB3.out _), rfl⟩ (Nat.le_refl _) (show 2 ≤ 140737488355328 by decide))
  go_wp2_with fail
  refine (showLines_calls tab HSZ.out [l, m] _ _ _ (Kd.below HT.out (bAlloc HB3.out _)) HLS.out (show 2 ≤ 100 by decide) (by
    intro x hx
    simp at hx
    rcases hx with rfl | rfl
    · rw [HQ.out]; omega
    · rw [HQ2.out]; omega)).mono ?_
  rintro e w4 ⟨rfl, hb4⟩
  rw [HLI.out]
  have HB4 := hid (bThen (bAlloc HB3.out _) hb4)
  clear hb4
  go_wp2_with fail
  refine (rtextS_calls tab HSZ.out l _ _ _ (Kd.below HT.out HB4.out) (Kd.below HL.out HB4.out) (by rw [HQ.out]; omega)).mono ?_
  rintro e w5 ⟨rfl, hb5⟩
  rw [← HSL.out]
  have HB5 := hid (bThen HB4.out hb5)
  clear hb5
  go_wp2_with fail
  refine (rtextS_calls tab HSZ.out m _ _ _ (Kd.below HT.out HB5.out) (Kd.below HM.out HB5.out) (by rw [HQ2.out]; omega)).mono ?_
  rintro e w6 ⟨rfl, hb6⟩
  rw [← HSM.out]
  have HB6 := hid (bThen HB5.out hb6)
  clear hb6
  go_wp2_with fail
  refine (showLines_calls tab HSZ.out [] _ _ _ (Kd.below HT.out HB6.out) ⟨none, 0, rfl, Nat.le_refl _, by decide, Kd.Row.nil⟩ (by decide) (by simp)).mono ?_
  rintro e w7 ⟨rfl, hb7⟩
  rw [HNI.out]
  have HB7 := hid (bThen HB6.out hb7)
  clear hb7
  go_wp2_with fail
  refine (works11_calls _).mono ?_
  rintro e w8 ⟨rfl, hb8⟩
  go_wp2
  go_ret
  exact ⟨rfl, bThen HB7.out hb8⟩
theorem showTexts_walk (W : World) (tab : List ByteArray) (v : Value) (h : Kd.str.slice.K W Any tab [v]) (_ : (∀ y ∈ tab, y.size ≤ 140737488351232) ∧ tab.length * 16 ≤ 140737488351232)
    (l : List NodeS) (vl : Value) (hl : Kd.node.slice.K W Any l [vl]) (_w1 : (∀ y ∈ l, True) ∧ l.length * 16 ≤ 140737488351232) (m : List NodeS) (vm : Value) (hm : Kd.node.slice.K W Any m [vm]) (_w2 : (∀ y ∈ m, True) ∧ m.length * 16 ≤ 140737488351232) :
    Calls Try.prog 3 #[v, vl, vm] W fun e w' => e = .returned (.bool true) ∧ Below W.heap.size W w' := showTextsLaw tab l m v vl vm W h hl hm
end Go.Proofs.Yteijgeofimcijaa
