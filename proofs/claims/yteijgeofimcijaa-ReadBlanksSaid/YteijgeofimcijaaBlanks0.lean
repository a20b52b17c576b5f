/- Blanks between words change nothing of a need, in plain Lean. No Go program in sight. -/
import Derived.Test.YteijgeofimcijaaRead0
import Derived.Test.YteijgeofimcijaaLexB0
namespace Go.Proofs.Yteijgeofimcijaa
open Go.RowKit Go.Lib

/-! ### Words with the same texts -/
def textsL (l : List WordS) : List ByteArray := l.map (·.text)
def RSim : Res → Res → Prop
  | .ok w o, .ok w' o' => textsL w = textsL w' ∧ o = o'
  | .bad _ e, .bad _ e' => e = e'
  | _, _ => False
def PSim (p q : List WordS → List NodeS → Res) : Prop := ∀ ws ws' out, textsL ws = textsL ws' → RSim (p ws out) (q ws' out)
theorem textsL_cons {x : WordS} {r ws : List WordS} (h : textsL (x :: r) = textsL ws) : ∃ x' r', ws = x' :: r' ∧ x.text = x'.text ∧ textsL r = textsL r' := by
  cases ws with
  | nil => cases h
  | cons x' r' => injection h with h1 h2; exact ⟨x', r', rfl, h1, h2⟩
theorem textsL_nil {ws : List WordS} (h : textsL [] = textsL ws) : ws = [] := by
  cases ws with
  | nil => rfl
  | cons x r => cases h
theorem loopP_sim {p q : List WordS → List NodeS → Res} (h : PSim p q) (s : ByteArray) (op : Int) : ∀ n, PSim (loopP p s op n) (loopP q s op n) := by
  intro n
  induction n with
  | zero => intro ws ws' out ht; exact ⟨ht, rfl⟩
  | succ n ih =>
    intro ws ws' out ht
    cases ws with
    | nil => obtain rfl := textsL_nil ht; exact ⟨rfl, rfl⟩
    | cons x r =>
      obtain ⟨x', r', rfl, h1, h2⟩ := textsL_cons ht
      unfold loopP
      simp only
      rw [← h1]
      split
      · have h3 := h r r' out h2
        generalize p r out = a at h3 ⊢
        generalize q r' out = b at h3 ⊢
        cases a with
        | ok w o =>
          cases b with
          | ok w' o' => obtain ⟨h4, rfl⟩ := h3; exact ih _ _ _ h4
          | bad a e => exact h3.elim
        | bad a e =>
          cases b with
          | ok w' o' => exact h3.elim
          | bad a' e' => exact h3
      · exact ⟨ht, rfl⟩
theorem manyP_sim {p q : List WordS → List NodeS → Res} (h : PSim p q) (s : ByteArray) (op : Int) (n : Nat) : PSim (manyP p s op n) (manyP q s op n) := by
  intro ws ws' out ht
  unfold manyP
  have h3 := h ws ws' out ht
  generalize p ws out = a at h3 ⊢
  generalize q ws' out = b at h3 ⊢
  cases a with
  | ok w o =>
    cases b with
    | ok w' o' => obtain ⟨h4, rfl⟩ := h3; exact loopP_sim h s op n _ _ _ h4
    | bad a e => exact h3.elim
  | bad a e =>
    cases b with
    | ok w' o' => exact h3.elim
    | bad a' e' => exact h3
theorem anyP_sim {p q : List WordS → List NodeS → Res} (h : PSim p q) (n : Nat) : PSim (anyP p n) (anyP q n) := manyP_sim (manyP_sim h _ _ _) _ _ _
theorem oneP_sim (tab : List ByteArray) (en en' : Int) : ∀ f, PSim (oneP tab en f) (oneP tab en' f) := by
  intro f
  induction f with
  | zero => intro ws ws' out _; exact rfl
  | succ f ih =>
    intro ws ws' out ht
    cases ws with
    | nil => obtain rfl := textsL_nil ht; exact rfl
    | cons x r =>
      obtain ⟨x', r', rfl, h1, h2⟩ := textsL_cons ht
      unfold oneP
      simp only
      rw [← h1]
      split
      · have h3 := ih r r' out h2
        generalize oneP tab en f r out = a at h3 ⊢
        generalize oneP tab en' f r' out = b at h3 ⊢
        cases a with
        | ok w o =>
          cases b with
          | ok w' o' => obtain ⟨h4, rfl⟩ := h3; exact ⟨h4, rfl⟩
          | bad a e => exact h3.elim
        | bad a e =>
          cases b with
          | ok w' o' => exact h3.elim
          | bad a' e' => exact h3
      · split
        · have h3 := anyP_sim ih f r r' out h2
          generalize anyP (oneP tab en f) f r out = a at h3 ⊢
          generalize anyP (oneP tab en' f) f r' out = b at h3 ⊢
          cases a with
          | ok w o =>
            cases b with
            | ok w' o' =>
              obtain ⟨h4, rfl⟩ := h3
              cases w with
              | nil => obtain rfl := textsL_nil h4; exact rfl
              | cons y w =>
                obtain ⟨y', w1, rfl, h5, h6⟩ := textsL_cons h4
                unfold shutP
                simp only
                rw [← h5]
                split
                · exact ⟨h6, rfl⟩
                · exact rfl
            | bad a e => exact h3.elim
          | bad a e =>
            cases b with
            | ok w' o' => exact h3.elim
            | bad a' e' => exact h3
        · split
          · exact ⟨h2, rfl⟩
          · split
            · exact rfl
            · unfold nameP
              rw [← h1]
              split
              · exact rfl
              · exact ⟨h2, rfl⟩
theorem textsL_len {a b : List WordS} (h : textsL a = textsL b) : a.length = b.length := by
  have := congrArg List.length h
  simpa [textsL] using this
/-- Texts with the same words have the same need. -/
theorem needS_sim (tab : List ByteArray) (s t : ByteArray) (l : List NodeS) (k : Int) (hs : needS tab s = (l, k, 0)) (h1 : (wordsS t).2.2 = 0) (h2 : textsL (wordsS s).1 = textsL (wordsS t).1) : needS tab t = (l, 0, 0) := by
  unfold needS at hs ⊢
  rw [if_neg (by simp [h1])]
  split at hs
  · rename_i h0
    injection hs with _ hs; injection hs with _ hs; exact absurd hs h0
  · dsimp only at hs ⊢
    have h3 := textsL_len h2
    rw [← h3]
    have h4 := anyP_sim (oneP_sim tab (runes s).length (runes t).length (wordsS s).1.length) (wordsS s).1.length (wordsS s).1 (wordsS t).1 [] h2
    generalize anyP _ _ (wordsS s).1 [] = a at h4 hs
    generalize anyP _ _ (wordsS t).1 [] = b at h4 ⊢
    cases a with
    | bad a e =>
      cases b with
      | ok w' o' => exact h4.elim
      | bad a' e' =>
        obtain rfl : e = e' := h4
        unfold readR at hs ⊢
        dsimp only at hs ⊢
        split at hs
        · rename_i h0; injection hs with _ hs; injection hs with _ hs; exact absurd hs h0
        · rename_i h0; rw [if_neg h0]; injection hs with hs _; rw [hs]
    | ok w o =>
      cases b with
      | bad a' e' => exact h4.elim
      | ok w' o' =>
        obtain ⟨h5, rfl⟩ := h4
        cases w with
        | cons y w =>
          unfold readR at hs
          dsimp only at hs
          rw [if_pos (by decide)] at hs
          injection hs with _ hs; injection hs with _ hs; exact absurd hs (by decide)
        | nil =>
          obtain rfl := textsL_nil h5
          unfold readR at hs ⊢
          dsimp only at hs ⊢
          split at hs
          · rename_i h0; injection hs with _ hs; injection hs with _ hs; exact absurd hs h0
          · rename_i h0; rw [if_neg h0]; injection hs with hs _; rw [hs]

/-! ### Blanks ahead of each word, and behind some -/
def sBlank : ByteArray := ⟨#[32]⟩
def gapT (l : List ByteArray) (g : Nat → Bool) : Nat → ByteArray
  | 0 => ⟨#[]⟩
  | k + 1 => if g k then gapT l g k ++ sBlank ++ (l[k]?.getD ⟨#[]⟩) ++ sBlank else gapT l g k ++ sBlank ++ (l[k]?.getD ⟨#[]⟩)
def gapC (l : List (List Int)) (g : Nat → Bool) : Nat → List Int
  | 0 => []
  | k + 1 => gapC l g k ++ (32 :: ((l[k]?.getD []) ++ (if g k then [32] else [])))
theorem enc_blank : Utf8.encode 32 = sBlank := by decide +kernel
theorem gapT_C (l : List (List Int)) (g : Nat → Bool) : ∀ k, gapT (l.map encs) g k = encs (gapC l g k) := by
  intro k
  induction k with
  | zero => rfl
  | succ k ih =>
    have hx : ((l.map encs)[k]?).getD ⟨#[]⟩ = encs (l[k]?.getD []) := by
      rw [List.getElem?_map]
      cases l[k]? with
      | none => rfl
      | some x => rfl
    unfold gapT gapC
    rw [encs_app, ih, hx]
    show _ = encs (gapC l g k) ++ (Utf8.encode 32 ++ encs (l[k]?.getD [] ++ if g k then [32] else []))
    rw [encs_app, enc_blank]
    cases g k with
    | true =>
      rw [if_pos rfl, if_pos rfl, encs_one, enc_blank]
      simp only [ByteArray.append_assoc]
    | false =>
      rw [if_neg (by decide), if_neg (by decide), show encs [] = ByteArray.empty from rfl, ByteArray.append_empty]
      simp only [ByteArray.append_assoc]
theorem gapC_ok (l : List (List Int)) (g : Nat → Bool) (hl : ∀ x ∈ l, WOK x) : ∀ k, ∀ c ∈ gapC l g k, okC c := by
  intro k
  induction k with
  | zero => intro c hc; cases hc
  | succ k ih =>
    intro c hc
    unfold gapC at hc
    rcases List.mem_append.1 hc with hc | hc
    · exact ih c hc
    · rcases List.mem_cons.1 hc with rfl | hc
      · exact okC_blank
      · rcases List.mem_append.1 hc with hc | hc
        · cases hx : l[k]? with
          | none => rw [hx] at hc; cases hc
          | some x => rw [hx] at hc; exact (hl x (List.mem_of_getElem? hx)).ok c hc
        · split at hc
          · rw [List.mem_singleton.1 hc]; exact okC_blank
          · cases hc
theorem lexC_gap (l : List (List Int)) (g : Nat → Bool) (hl : ∀ x ∈ l, WOK x) : ∀ k, k ≤ l.length → ∀ rest, ∃ out r n, lexC (gapC l g k ++ rest) ⟨[], false, 0⟩ = lexC rest ⟨out, r, n⟩ ∧ textsL out = (l.take k).map encs := by
  intro k
  induction k with
  | zero => intro _ rest; exact ⟨[], false, 0, rfl, rfl⟩
  | succ k ih =>
    intro hk rest
    have hx : l[k]? = some (l[k]'(by omega)) := List.getElem?_eq_getElem (by omega)
    obtain ⟨x, hx1⟩ : ∃ x, x = l[k]'(by omega) := ⟨_, rfl⟩
    rw [← hx1] at hx
    have hxw := hl x (List.mem_of_getElem? hx)
    obtain ⟨out, r, n, h1, h2⟩ := ih (by omega) (32 :: ((x ++ (if g k then [32] else [])) ++ rest))
    have e : gapC l g (k + 1) ++ rest = gapC l g k ++ (32 :: ((x ++ (if g k then [32] else [])) ++ rest)) := by
      show (gapC l g k ++ (32 :: ((l[k]?.getD []) ++ (if g k then [32] else [])))) ++ rest = _
      rw [hx, List.append_assoc]; rfl
    rw [e, h1, lexC_cons, stepL_blank, List.append_assoc]
    simp only
    obtain ⟨b, hb⟩ := lexC_word x ((if g k then [32] else []) ++ rest) hxw out (n + 1)
    rw [hb]
    have ht : textsL (out ++ [⟨encs x, ((n + 1 : Nat) : Int)⟩]) = (l.take (k + 1)).map encs := by
      rw [take_snoc hx]
      unfold textsL at h2 ⊢
      rw [List.map_append, List.map_append, h2]; rfl
    cases g k with
    | true =>
      refine ⟨out ++ [⟨encs x, ((n + 1 : Nat) : Int)⟩], false, n + 1 + x.length + 1, ?_, ht⟩
      show lexC (32 :: rest) _ = _
      rw [lexC_cons, stepL_blank]
    | false => exact ⟨_, _, _, rfl, ht⟩
/-- Words with blanks ahead of them are those words again. -/
theorem words_gap (l : List ByteArray) (g : Nat → Bool) (hl : ∀ t ∈ l, ∃ cs, t = encs cs ∧ WOK cs) (hz : (gapT l g l.length).size ≤ 200) : (wordsS (gapT l g l.length)).2.2 = 0 ∧ textsL (wordsS (gapT l g l.length)).1 = l := by
  obtain ⟨cl, rfl, h⟩ := words_again l hl
  rw [List.length_map] at hz ⊢
  rw [gapT_C] at hz ⊢
  rw [wordsS_encs (gapC_ok cl g h _) hz]
  obtain ⟨out, r, n, h1, h2⟩ := lexC_gap cl g h cl.length (Nat.le_refl _) []
  rw [List.append_nil] at h1
  rw [h1]
  rw [List.take_length] at h2
  exact ⟨rfl, h2⟩
theorem gapT_size (l : List ByteArray) (g : Nat → Bool) (h : ∀ t ∈ l, t.size ≤ 800) : ∀ k, (gapT l g k).size ≤ k * 802 := by
  intro k
  induction k with
  | zero => exact Nat.zero_le _
  | succ k ih =>
    have hx : (l[k]?.getD ⟨#[]⟩).size ≤ 800 := by
      cases hx : l[k]? with
      | none => exact Nat.zero_le _
      | some x => exact h x (List.mem_of_getElem? hx)
    have hb : sBlank.size = 1 := rfl
    unfold gapT
    split
    · simp only [ByteArray.size_append, hb]; omega
    · simp only [ByteArray.size_append, hb]; omega
end Go.Proofs.Yteijgeofimcijaa
