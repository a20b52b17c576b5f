/- siskinlaw08.Same and works. -/
import Derived.Test.YteijgeofimcijaaLex
import Derived.Test.YteijgeofimcijaaRef08
namespace Go.Proofs.Yteijgeofimcijaa
open Go.RowKit Go.Lib

theorem Kd.Row.at_word {w : World} {S : Nat → Prop} {A : Option Addr} {xs : List WordS} (h : Kd.word.Row w S A xs) (i : Nat) (x : WordS) (hx : xs[i]? = some x) :
    ∃ a, A = some a ∧ w.cell? (a.add (i * 2)) = some (.string x.text) ∧ w.cell? ⟨(a.add (i * 2)).block, (a.add (i * 2)).off + 1, none⟩ = some (.int .i64 x.at_) := by
  obtain ⟨a, cs, h1, _, _, h4, h5⟩ := h i x hx
  cases h4
  refine ⟨a, h1, h5 0 _ rfl, ?_⟩
  have := h5 1 _ rfl
  rwa [show i * Kd.word.sz + 1 = i * 2 + 1 from rfl, ← Kd.add_add, Kd.add_lit (a.add (i * 2)) 1 (by decide)] at this

set_option maxHeartbeats 1000000 in
set_option maxRecDepth 100000 in
theorem lsame_calls (l : List WordS) (v1 v2 : Value) (w : World) (h1 : Kd.word.slice.K w Any l [v1]) (h2 : Kd.word.slice.K w Any l [v2]) :
    Calls Try.prog 26 #[v1, v2] w fun e w' => e = .returned (.bool true) ∧ ∃ n, w' = w.drewN n := by
  obtain ⟨A, c, he, hc, hm, hr⟩ := h1
  cases he
  obtain ⟨B, d, he, hd, _, hr2⟩ := h2
  cases he
  obtain ⟨q, hq⟩ : ∃ q, l.length = q := ⟨_, rfl⟩
  have HQ := hid hq
  have HR := hid hr
  have HR2 := hid hr2
  rw [hq] at hc hm hd ⊢
  have hqq : ((q : Int) == (q : Int)) = true := beq_self_eq_true _
  have hqn : ((q : Int) != (q : Int)) = false := bne_self_eq_false _
  clear hr hr2 hq
  go_enter Try.func26, Try.ntmps26
  go_wp2
  go_loopw [5] (fun i wr => ∃ k n : Nat, k ≤ q ∧ i = .int .i64 k ∧ wr = w.drewN n) (fun i _ => q - (intOf i).toNat)
  case atStart => exact ⟨0, 0, by omega, rfl, rfl⟩
  case round =>
    obtain ⟨k, n, hk, rfl, rfl⟩ := hrel
    by_cases hlt : k < q
    · obtain ⟨x, hx⟩ : ∃ x, l[k]? = some x := ⟨l[k]'(by rw [HQ.out]; exact hlt), List.getElem?_eq_getElem _⟩
      obtain ⟨a, rfl, r0, r1⟩ := HR.out.at_word k x hx
      obtain ⟨b, rfl, s0, s1⟩ := HR2.out.at_word k x hx
      have e1 : (x.text.toList != x.text.toList) = false := bne_self_eq_false _
      have e2 : (x.at_ != x.at_) = false := bne_self_eq_false _
      have e3 : (x.text.toList == x.text.toList) = true := beq_self_eq_true _
      have hltI : (k : Int) < (q : Int) := by omega
      have hk0 : (0 : Int) ≤ (k : Int) := by omega
      clear hx
      go_wp2
      go_quiet (fail)
      go_wp2
      go_roundw
      case rel => exact ⟨k + 1, _, by omega, by go_num, rfl⟩
      case measure => simp [intOf]; omega
    · obtain rfl : k = q := by omega
      go_wp2
      go_ret
      exact ⟨rfl, n, rfl⟩

def bGpu : ByteArray := ⟨#[103, 112, 117, 38, 33, 98, 50]⟩
def bAplus : ByteArray := ⟨#[97, 43]⟩
theorem works08_a : (wordsS bGpu).1[3]? = some ⟨⟨#[98, 50]⟩, 5⟩ ∧ (wordsS bGpu).1.length = 4 ∧ (wordsS bGpu).2 = (0, 0) := by decide +kernel
theorem works08_b : (wordsS bAplus).2 = (1, 3) := by decide +kernel
set_option maxHeartbeats 1000000 in
set_option maxRecDepth 100000 in
theorem works08_calls (w : World) : Calls Try.prog 21 #[] w fun e w' => e = .returned (.bool true) ∧ Below w.heap.size w w' := by
  obtain ⟨h1, h2, h3⟩ := works08_a
  have h4 := works08_b
  go_enter Try.func21, Try.ntmps21
  go_wp2_with fail
  refine (lexWords_calls bGpu _ (by decide)).mono ?_
  rintro e w1 ⟨v, rfl, hO, hb1⟩
  rw [show (wordsS bGpu).2.1 = 0 by rw [h3], show (wordsS bGpu).2.2 = 0 by rw [h3]]
  obtain ⟨A, c, he, hc, hm, hr⟩ := Kd.any hO.K
  cases he
  have HR := hid hr
  rw [h2] at hc hm ⊢
  clear hO hr h2 h3
  go_wp2_with fail
  refine (lexWords_calls bAplus _ (by decide)).mono ?_
  rintro e w2 ⟨v, rfl, hO, hb2⟩
  rw [show (wordsS bAplus).2.1 = 1 by rw [h4], show (wordsS bAplus).2.2 = 3 by rw [h4]]
  obtain ⟨a, rfl, r0, r1⟩ := (HR.out.below hb2).at_word 3 _ h1
  have HB := hid (bThen hb1 hb2)
  rw [show 3 * 2 = 6 from rfl, Kd.add_lit a 6 (by decide)] at r0 r1
  clear hb1 hb2 hO h1 h4
  go_wp2
  go_ret
  exact ⟨rfl, HB.out⟩

end Go.Proofs.Yteijgeofimcijaa
