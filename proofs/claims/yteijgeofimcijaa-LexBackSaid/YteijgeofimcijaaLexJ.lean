/- lex.Join and the document's Join. -/
import Derived.Test.YteijgeofimcijaaLaw08S
import Derived.Test.YteijgeofimcijaaLexB0
import Derived.Test.YteijgeofimcijaaBuilder
import Derived.Test.YteijgeofimcijaaStr0
import Derived.Outline
namespace Go.Proofs.Yteijgeofimcijaa
open Go.RowKit Go.Lib

def textsW (l : List WordS) : List ByteArray := l.map (·.text)
theorem joinB_le (l : List ByteArray) (k : Nat) (hk : k ≤ l.length) : (joinB (l.take k)).length ≤ (joinB l).length := by
  have key : ∀ j, k + j ≤ l.length → (joinB (l.take k)).length ≤ (joinB (l.take (k + j))).length := by
    intro j
    induction j with
    | zero => intro _; exact Nat.le_refl _
    | succ j ih =>
      intro h
      have h1 := ih (by omega)
      have hx : l[k + j]? = some (l[k + j]'(by omega)) := List.getElem?_eq_getElem (by omega)
      rw [show k + (j + 1) = k + j + 1 from rfl, take_snoc hx, joinB_snoc]
      split
      · rename_i h0
        have : (joinB (l.take (k + j))).length = 0 := by rw [h0]; rfl
        omega
      · simp only [List.length_append]; omega
  have := key (l.length - k) (by omega)
  rwa [show k + (l.length - k) = l.length by omega, List.take_length] at this
theorem joinB_step {l : List ByteArray} {k : Nat} {x : ByteArray} (hx : l[k]? = some x) : joinB (l.take (k + 1)) = (if k = 0 then joinB (l.take k) else joinB (l.take k) ++ [32]) ++ x.data.toList := by
  have hk := (List.getElem?_eq_some_iff.1 hx).1
  rw [take_snoc hx, joinB_snoc]
  by_cases h0 : k = 0
  · subst h0; simp [joinB]
  · have : l.take k ≠ [] := by intro h; have := congrArg List.length h; rw [List.length_take, List.length_nil] at this; omega
    rw [if_neg this, if_neg h0]

set_option maxHeartbeats 2000000 in
set_option maxRecDepth 100000 in
theorem lexJoin_calls (l : List WordS) (v : Value) (w : World) (hl : Kd.word.slice.K w Any l [v]) (hz : (joinB (textsW l)).length ≤ 140737488355328) :
    Calls Try.prog 23 #[v] w fun e w' => e = .returned (.string (mkB (joinB (textsW l)))) ∧ Below w.heap.size w w' := by
  obtain ⟨A, c, he, hc, hm, hr⟩ := hl
  cases he
  obtain ⟨q, hq⟩ : ∃ q, l.length = q := ⟨_, rfl⟩
  have HQ := hid hq
  have HR := hid hr
  rw [hq] at hc hm ⊢
  clear hr hq
  go_enter Try.func23, Try.ntmps23
  go_wp2
  go_loopw [8] (fun i wr => ∃ k : Nat, k ≤ q ∧ i = .int .i64 k ∧ Hid (BldAt wr w.heap.size w.heap.size (joinB ((textsW l).take k))) ∧ Hid (Below w.heap.size w wr)) (fun i _ => q - (intOf i).toNat)
  case atStart => exact ⟨0, by omega, rfl, bld_new w, bAlloc (Below.refl _ _) _⟩
  case round =>
    obtain ⟨k, hk, rfl, HD, HB⟩ := hrel
    by_cases hlt : k < q
    · obtain ⟨x, hx⟩ : ∃ x, l[k]? = some x := ⟨l[k]'(by rw [HQ.out]; exact hlt), List.getElem?_eq_getElem _⟩
      obtain ⟨a, rfl, r0, r1⟩ := (HR.out.below HB.out).at_word k x hx
      have hxt : (textsW l)[k]? = some x.text := by unfold textsW; rw [List.getElem?_map, hx]; rfl
      have HST := hid (joinB_step hxt)
      have hle := joinB_le (textsW l) (k + 1) (by unfold textsW; rw [List.length_map, HQ.out]; omega)
      have hle2 : (joinB ((textsW l).take k)).length + 1 + x.text.size ≤ 140737488355328 ∨ k = 0 ∧ (joinB ((textsW l).take k)).length + x.text.size ≤ 140737488355328 := by
        rw [HST.out] at hle
        split at hle
        · rename_i h0
          right
          rw [List.length_append, data_len] at hle
          exact ⟨h0, by omega⟩
        · left
          simp only [List.length_append, List.length_singleton, data_len] at hle
          omega
      have HLE := hid hle2
      have hltI : (k : Int) < (q : Int) := by omega
      have hk0 : (0 : Int) ≤ (k : Int) := by omega
      have hws := HB.out.size
      clear hx hxt hle hle2
      by_cases h0 : k = 0
      · have h0I : ¬ (0 : Int) < (k : Int) := by omega
        have HST2 := hid (HST.out.trans (by rw [if_pos h0]))
        have hsz : (joinB ((textsW l).take k)).length + x.text.size ≤ 140737488355328 := by rcases HLE.out with h | h <;> omega
        clear h0
        go_wp2_with fail
        refine (bldWrite_calls w.heap.size w.heap.size _ x.text _ (bld_below HD.out (bAlloc (Below.refl _ _) _)) hsz (by simp; omega)).mono ?_
        rintro e w1 ⟨rfl, hd1, hb1, _⟩
        rw [← HST2.out] at hd1
        have HD1 := hid hd1
        have HB1 := hid ((HB.out.alloc hws _).trans hb1)
        clear hd1 hb1
        go_wp2
        go_roundw
        case rel => exact ⟨k + 1, by omega, by go_num, HD1, HB1⟩
        case measure => simp [intOf]; omega
      · have h0I : (0 : Int) < (k : Int) := by omega
        have h0N : 0 < k := by omega
        have HST2 := hid (HST.out.trans (by rw [if_neg h0]))
        have hsz : (joinB ((textsW l).take k)).length + 1 + x.text.size ≤ 140737488355328 := by rcases HLE.out with h | h <;> omega
        clear h0
        go_wp2_with fail
        refine (bldWrite_calls w.heap.size w.heap.size _ ⟨#[32]⟩ _ (bld_below HD.out (bAlloc (Below.refl _ _) _)) (by show _ + 1 ≤ _; omega) (by simp; omega)).mono ?_
        rintro e w1 ⟨rfl, hd1, hb1, hs1, hk1⟩
        rw [show (⟨#[32]⟩ : ByteArray).data.toList = [32] from rfl] at hd1
        have hx1 := (hk1 wr.heap.size (by simp) (by have := bld_lt HD.out; omega) (fun cs t fr h => by rw [heap_at rfl] at h; injection h with h; injection h with _ h _; rw [← h]; decide)).trans (heap_at rfl)
        have y0 := (cells_of_block hx1).1 0 _ rfl
        have HD1 := hid hd1
        have HB1 := hid ((HB.out.alloc hws _).trans hb1)
        rw [World.size_alloc] at hs1
        clear hd1 hb1 hk1 hx1
        go_wp2_with fail
        refine (bldWrite_calls w.heap.size w.heap.size _ x.text _ HD1.out (by simp; omega) HB1.out.size).mono ?_
        rintro e w2 ⟨rfl, hd2, hb2, _⟩
        rw [← HST2.out] at hd2
        have HD2 := hid hd2
        have HB2 := hid (HB1.out.trans hb2)
        clear hd2 hb2
        go_wp2
        go_roundw
        case rel => exact ⟨k + 1, by omega, by go_num, HD2, HB2⟩
        case measure => simp [intOf]; omega
    · obtain rfl : k = q := by omega
      have e : (textsW l).take k = textsW l := by rw [List.take_of_length_le]; unfold textsW; rw [List.length_map, HQ.out]; exact Nat.le_refl _
      have HE := hid e
      clear e
      go_wp2_with fail
      refine (bldString_calls _ _ _ _ HD.out HB.out.size).mono ?_
      rintro e w1 ⟨rfl, hb1⟩
      go_wp2
      go_ret
      rw [HE.out]
      exact ⟨rfl, HB.out.trans hb1⟩
set_option maxHeartbeats 2000000 in
set_option maxRecDepth 100000 in
theorem rJoin_calls (l : List WordS) (v : Value) (w : World) (hl : Kd.word.slice.K w Any l [v]) (hz : (joinB (textsW l)).length ≤ 140737488355328) :
    Calls Try.prog 24 #[v] w fun e w' => e = .returned (.string (mkB (joinB (textsW l)))) ∧ w = w' := by
  obtain ⟨A, c, he, hc, hm, hr⟩ := hl
  cases he
  obtain ⟨q, hq⟩ : ∃ q, l.length = q := ⟨_, rfl⟩
  have HQ := hid hq
  have HR := hid hr
  rw [hq] at hc hm ⊢
  clear hr hq
  go_enter Try.func24, Try.ntmps24
  go_wp2
  go_loop [3, 4] (fun s i => ∃ (k : Nat) (t : ByteArray), k ≤ q ∧ i = .int .i64 k ∧ s = .string t ∧ t.size ≤ 140737488355328 ∧ Hid (t = mkB (joinB ((textsW l).take k)))) (fun _ i => q - (intOf i).toNat)
  case atStart => exact ⟨0, ⟨#[]⟩, by omega, rfl, rfl, by show 0 ≤ _; omega, rfl⟩
  case round =>
    obtain ⟨k, t, hk, rfl, rfl, hts, HT⟩ := hrel
    by_cases hlt : k < q
    · obtain ⟨x, hx⟩ : ∃ x, l[k]? = some x := ⟨l[k]'(by rw [HQ.out]; exact hlt), List.getElem?_eq_getElem _⟩
      obtain ⟨a, rfl, r0, r1⟩ := HR.out.at_word k x hx
      have hxt : (textsW l)[k]? = some x.text := by unfold textsW; rw [List.getElem?_map, hx]; rfl
      have hst := joinB_step hxt
      have hle := joinB_le (textsW l) (k + 1) (by unfold textsW; rw [List.length_map, HQ.out]; omega)
      have hltI : (k : Int) < (q : Int) := by omega
      have hk0 : (0 : Int) ≤ (k : Int) := by omega
      have htz : t.size = (joinB ((textsW l).take k)).length := by rw [HT.out]; exact mkB_size _
      by_cases h0 : k = 0
      · have h0I : ¬ (0 : Int) < (k : Int) := by omega
        rw [if_pos h0] at hst
        have hsum : t.size + x.text.size ≤ 140737488355328 := by rw [hst, List.length_append, data_len] at hle; omega
        have hfin : t ++ x.text = mkB (joinB ((textsW l).take (k + 1))) := by rw [hst, HT.out, ← mkB_of x.text, mkB_append, mkB_data]
        have HF := hid hfin
        clear hx hxt hst hle htz hfin h0
        go_wp2
        go_round
        case rel => exact ⟨k + 1, _, by omega, by go_num, rfl, by rw [ByteArray.size_append]; exact hsum, HF⟩
        case measure => simp [intOf]; omega
      · have h0I : (0 : Int) < (k : Int) := by omega
        have h0N : 0 < k := by omega
        rw [if_neg h0] at hst
        have hsum : t.size + 1 + x.text.size ≤ 140737488355328 := by
          rw [hst] at hle
          simp only [List.length_append, List.length_singleton, data_len] at hle
          omega
        have h32 : (⟨#[32]⟩ : ByteArray).size = 1 := rfl
        have hfin : t ++ ⟨#[32]⟩ ++ x.text = mkB (joinB ((textsW l).take (k + 1))) := by rw [hst, HT.out, ← mkB_of x.text, show (⟨#[32]⟩ : ByteArray) = mkB [32] from rfl, mkB_append, mkB_append, mkB_data]
        have HF := hid hfin
        clear hx hxt hst hle htz hfin h0
        go_wp2
        go_round
        case rel => exact ⟨k + 1, _, by omega, by go_num, rfl, by rw [ByteArray.size_append, ByteArray.size_append, h32]; exact hsum, HF⟩
        case measure => simp [intOf]; omega
    · obtain rfl : k = q := by omega
      have e : (textsW l).take k = textsW l := by rw [List.take_of_length_le]; unfold textsW; rw [List.length_map, HQ.out]; exact Nat.le_refl _
      have HE := hid e
      clear e
      go_wp2
      go_ret
      rw [HT.out, HE.out]
      exact ⟨rfl, rfl⟩
end Go.Proofs.Yteijgeofimcijaa
