/- show.Text, show.Lines, the document's Text; the law ShowTexts. -/
import Derived.Test.YtolckkckheiceaaShow3
import Derived.Test.YtolckkckheiceaaBuilder
import Derived.Test.YtolckkckheiceaaRef03L
namespace Go.Proofs.Ytolckkckheiceaa
open Go.RowKit Go.Lib

def oddN (tab : List ByteArray) (x : NodeS) : Bool := decide (x.op = 2) && decide ((tab.length : Int) ≤ x.n)
theorem known_bad {tab : List ByteArray} {l : List NodeS} {k : Nat} {x : NodeS} (hx : l[k]? = some x) (h : oddN tab x = true) : knownN tab l = false := by
  unfold knownN
  rw [List.all_eq_false]
  exact ⟨x, List.mem_of_getElem? hx, by unfold oddN at h; rw [h]; decide⟩
theorem known_ok {tab : List ByteArray} {l : List NodeS} (h : ∀ (j : Nat) x, l[j]? = some x → oddN tab x = false) : knownN tab l = true := by
  unfold knownN
  rw [List.all_eq_true]
  intro x hx
  obtain ⟨j, hj⟩ := List.getElem?_of_mem hx
  have := h j x hj
  unfold oddN at this
  rw [this]; rfl
theorem known_tree {tab : List ByteArray} {t : TreeS} (h : knownN tab t.nodes = true) : knownT tab t := by
  intro x hx h2
  have := List.all_eq_true.1 h x hx
  simp [h2] at this
  omega
theorem textS_bad {tab : List ByteArray} {l : List NodeS} (h : checkN l ≠ 0 ∨ knownN tab l = false) : textS tab l = ⟨#[]⟩ := by
  unfold textS
  rw [if_neg]
  rintro ⟨h1, h2⟩
  rcases h with h | h
  · exact h h1
  · rw [h] at h2; cases h2
theorem textS_ok {tab : List ByteArray} {l : List NodeS} (h1 : checkN l = 0) (h2 : knownN tab l = true) : ∃ t : TreeS, textS tab l = showT tab t ∧ t.ok ∧ l = t.nodes ∧ t.size ≤ 31 ∧ t.deep ≤ 8 ∧ knownT tab t := by
  obtain ⟨t, ht, hok, hl, h31, h8⟩ := check_ok h1
  refine ⟨t, ?_, hok, hl, by rw [← TreeS.nodes_len, ← hl]; exact h31, h8, known_tree (by rw [← hl]; exact h2)⟩
  unfold textS
  rw [if_pos ⟨h1, h2⟩, ht]
theorem textS_size (tab : List ByteArray) (B : Nat) (hB : ∀ y ∈ tab, y.size ≤ B) (l : List NodeS) : (textS tab l).size ≤ 31 * (B + 7) := by
  by_cases h : checkN l = 0 ∧ knownN tab l = true
  · obtain ⟨t, ht, _, _, h31, _⟩ := textS_ok h.1 h.2
    rw [ht]
    have := showT_size tab B hB t
    have h2 : t.size * (B + 7) ≤ 31 * (B + 7) := Nat.mul_le_mul_right _ h31
    omega
  · rw [textS_bad (by rcases Classical.em (checkN l = 0) with h1 | h1
                      · right; cases hk : knownN tab l with
                        | false => rfl
                        | true => exact absurd ⟨h1, hk⟩ h
                      · exact .inl h1)]
    exact Nat.zero_le _
set_option maxHeartbeats 2000000 in
set_option maxRecDepth 100000 in
theorem showText_calls (tab : List ByteArray) (hB : ∀ y ∈ tab, y.size ≤ 1000000) (l : List NodeS) (tv v : Value) (w : World) (ht : Kd.str.slice.K w Any tab [tv]) (hl : Kd.node.slice.K w Any l [v]) (hs : l.length ≤ 1000000) :
    Calls Try.prog 33 #[tv, v] w fun e w' => e = .returned (.string (textS tab l)) ∧ Below w.heap.size w w' := by
  have HT := hid ht
  have HL := hid hl
  have HS := hid hs
  have HBB := hid hB
  obtain ⟨B, d, he, hc, hn, _⟩ := ht
  cases he
  obtain ⟨A, c, he, hc1, hm1, hr⟩ := hl
  cases he
  have HR := hid hr
  obtain ⟨q, hq⟩ : ∃ q, l.length = q := ⟨_, rfl⟩
  have HQ := hid hq
  rw [hq] at hc1 hm1 HL ⊢
  clear hr hq hB
  go_enter Try.func33, Try.ntmps33
  go_wp2_with fail
  refine (needCheck_calls l _ w HL.out HS.out).mono ?_
  rintro e w1 ⟨rfl, hb1⟩
  have HB1 := hid hb1
  clear hb1
  obtain ⟨cv, hcv⟩ : ∃ cv, cv = checkN l := ⟨_, rfl⟩
  rw [← hcv]
  have HCV := hid hcv
  clear hcv
  by_cases h0 : cv = 0
  case neg =>
    have hb : (cv != 0) = true := by rw [bne_iff_ne]; exact h0
    have HF := hid (textS_bad (tab := tab) (l := l) (.inl (by rw [← HCV.out]; exact h0)))
    clear h0
    go_wp2
    go_ret
    rw [HF.out]
    exact ⟨rfl, HB1.out⟩
  subst h0
  go_wp2
  go_loopw [12] (fun i wr => ∃ k : Nat, k ≤ q ∧ i = .int .i64 k ∧ Hid (∀ (j : Nat) x, j < k → l[j]? = some x → oddN tab x = false) ∧ Hid (Below w.heap.size w wr)) (fun i _ => q - (intOf i).toNat)
  case atStart => exact ⟨0, by omega, rfl, fun j x h => by omega, HB1⟩
  case round =>
    obtain ⟨k, hk, rfl, HN, HB⟩ := hrel
    by_cases hlt : k < q
    · obtain ⟨a, x, rfl, hx, r0, r1⟩ := (HR.out.below HB.out).at_node k (by rw [HQ.out]; exact hlt)
      have HX := hid hx
      have hltI : (k : Int) < (q : Int) := by omega
      have hk0 : (0 : Int) ≤ (k : Int) := by omega
      have hws := HB.out.size
      have hstep : oddN tab x = false → (∀ (j : Nat) y, j < k + 1 → l[j]? = some y → oddN tab y = false) := fun ho j y hj hy => by
        rcases Nat.lt_or_ge j k with h | h
        · exact HN.out j y h hy
        · rw [show j = k by omega, HX.out] at hy
          rw [← Option.some.inj hy]; exact ho
      have HST := hid hstep
      clear hx hstep
      by_cases h2 : x.op = 2
      · have hb2 : (x.op == 2) = true := by rw [beq_iff_eq]; exact h2
        by_cases h3 : (tab.length : Int) ≤ x.n
        · have HF := hid (textS_bad (tab := tab) (l := l) (.inr (known_bad HX.out (by unfold oddN; rw [decide_eq_true h2, decide_eq_true h3]; rfl))))
          clear h2
          go_wp2
          go_ret
          rw [HF.out]
          exact ⟨rfl, bAlloc HB.out _⟩
        · have HN2 := hid (HST.out (by unfold oddN; rw [decide_eq_false h3, Bool.and_false]))
          clear h2
          go_wp2
          go_roundw
          case rel => exact ⟨k + 1, by omega, by go_num, HN2, bAlloc HB.out _⟩
          case measure => simp [intOf]; omega
      · have hb2 : (x.op == 2) = false := by rw [beq_eq_false_iff_ne]; exact h2
        have HN2 := hid (HST.out (by unfold oddN; rw [decide_eq_false h2, Bool.false_and]))
        clear h2
        go_wp2
        go_roundw
        case rel => exact ⟨k + 1, by omega, by go_num, HN2, bAlloc HB.out _⟩
        case measure => simp [intOf]; omega
    · obtain rfl : k = q := by omega
      have hkn := known_ok (tab := tab) (l := l) (fun j x hx => HN.out j x (by have := (List.getElem?_eq_some_iff.1 hx).1; rw [HQ.out] at this; exact this) hx)
      obtain ⟨t, hts, hok, hln, h31, h8, hkt⟩ := textS_ok HCV.out.symm hkn
      have HLT := hid (show Kd.node.slice.K wr Any t.nodes [.slice A k c] by rw [← hln]; exact Kd.below HL.out HB.out)
      have HTO := hid (text_ok tab HBB.out t hok hkt h31 h8 wr (.slice B tab.length d) (.slice A k c) (Kd.below HT.out HB.out) HLT.out)
      have HTS := hid hts
      clear hkn hts hok hln h31 h8 hkt
      go_wp2_with fail
      refine HTO.out.mono ?_
      rintro e w3 ⟨rfl, hb3⟩
      go_wp2
      go_ret
      rw [HTS.out]
      exact ⟨rfl, bThen HB.out hb3⟩
def linesB (tab : List ByteArray) (ls : List (List NodeS)) : List UInt8 := ls.flatMap (fun l => (textS tab l).data.toList ++ [10])
theorem linesB_snoc (tab : List ByteArray) (ls : List (List NodeS)) (l : List NodeS) : linesB tab (ls ++ [l]) = linesB tab ls ++ (textS tab l).data.toList ++ [10] := by
  unfold linesB
  rw [List.flatMap_append]
  simp
theorem linesB_len (tab : List ByteArray) (hB : ∀ y ∈ tab, y.size ≤ 1000000) (ls : List (List NodeS)) : (linesB tab ls).length ≤ ls.length * 31000218 := by
  induction ls with
  | nil => exact Nat.zero_le _
  | cons l ls ih =>
    have := textS_size tab 1000000 hB l
    unfold linesB at ih ⊢
    simp only [List.flatMap_cons, List.length_append, data_len, List.length_cons, List.length_nil] at ih ⊢
    omega
def exTab : List ByteArray := [⟨#[97, 114, 109]⟩, ⟨#[103, 112, 117]⟩, ⟨#[115, 115, 100]⟩]
def exNeed : List NodeS := [⟨2, 1⟩, ⟨2, 2⟩, ⟨5, 0⟩, ⟨2, 0⟩, ⟨3, 0⟩, ⟨4, 0⟩]
theorem exTab_size : ∀ y ∈ exTab, y.size ≤ 1000000 := by
  intro y hy
  simp [exTab] at hy
  rcases hy with rfl | rfl | rfl <;> decide
set_option maxHeartbeats 2000000 in
set_option maxRecDepth 100000 in
theorem works11_calls (w : World) : Calls Try.prog 32 #[] w fun e w' => e = .returned (.bool true) ∧ Below w.heap.size w w' := by
  have T1 := hid (show textS exTab exNeed = ⟨#[40, 103, 112, 117, 32, 124, 32, 115, 115, 100, 41, 32, 38, 32, 33, 97, 114, 109]⟩ by decide +kernel)
  have HN := hid (show Kd.node.slice.K (w.alloc (.cells (exNeed.flatMap (fun (x : NodeS) => [Value.int .i64 x.op, .int .i64 x.n])).toArray 122)) Any exNeed [.slice (some ⟨w.heap.size, 0, none⟩) 6 6] from
    Kd.any (K_new (enc := fun (x : NodeS) => [.int .i64 x.op, .int .i64 x.n]) (hl := fun _ => rfl) (h1 := fun x u hu => by simp at hu; rcases hu with rfl | rfl <;> rfl) w w.heap.size rfl 122 exNeed (by decide)))
  go_enter Try.func32, Try.ntmps32
  go_wp2_with fail
  refine (showText_calls exTab exTab_size exNeed _ _ _ (K_newS (w.alloc (.cells (exNeed.flatMap (fun (x : NodeS) => [Value.int .i64 x.op, .int .i64 x.n])).toArray 122)) (w.heap.size + 1) (by simp) 9 exTab (by decide)) (Kd.below HN.out (bAlloc (Below.refl _ _) _)) (by decide)).mono ?_
  rintro e w1 ⟨rfl, hb1⟩
  rw [T1.out]
  have HB1 := hid (bThen (bAlloc (bAlloc (Below.refl w.heap.size w) _) _) hb1)
  clear hb1
  go_wp2
  go_ret
  exact ⟨rfl, HB1.out⟩
theorem mkB_snoc (x y : ByteArray) : mkB (x.data.toList ++ [10] ++ (y.data.toList ++ [10])) = x ++ ⟨#[10]⟩ ++ y ++ ⟨#[10]⟩ := by
  rw [show (⟨#[10]⟩ : ByteArray) = mkB [10] from rfl]
  conv => rhs; rw [← mkB_of x, ← mkB_of y, mkB_append, mkB_append, mkB_append]
  simp only [List.append_assoc]
end Go.Proofs.Ytolckkckheiceaa
