/- The document's way to the words of a text, in plain Lean. No Go program in sight. -/
import Derived.Test.YtolckkckheiceaaLex0
namespace Go.Proofs.Ytolckkckheiceaa
open Go.RowKit Go.Lib

theorem runesF_inj {s : ByteArray} {p q : Nat} (hp : p ≤ s.size) (hq : q ≤ s.size) (h : runesF s p = runesF s q) : p = q := by
  rcases Nat.lt_or_ge p s.size with q1 | q1
  · rcases Nat.lt_or_ge q s.size with q2 | q2
    · rw [runesF_cons q1, runesF_cons q2] at h
      injection h with h _
      have := congrArg RuneS.At h
      simp only [runeAt] at this
      omega
    · rw [runesF_cons q1] at h
      rw [runesF_end (p := q) (by omega)] at h; cases h
  · rcases Nat.lt_or_ge q s.size with q2 | q2
    · rw [runesF_cons q2] at h
      rw [runesF_end (p := p) (by omega)] at h; cases h
    · omega
/-- Where rune n begins; the end behind the last one. -/
theorem mid_at (s : ByteArray) : ∀ n, n ≤ (runes s).length → ∃ p, Mid s ((runes s).take n) p ∧ (n < (runes s).length → p < s.size ∧ (runes s)[n]? = some (runeAt s p)) ∧ (n = (runes s).length → p = s.size) ∧ (runes s).drop n = runesF s p := by
  intro n
  induction n with
  | zero =>
    intro _
    refine ⟨0, Mid.start s, fun h => ?_, fun h => ?_, rfl⟩
    · rcases Nat.eq_zero_or_pos s.size with h0 | h0
      · have := runes_len s; omega
      · exact ⟨h0, by have := (Mid.start s).next h0; simpa using this⟩
    · rcases Nat.eq_zero_or_pos s.size with h0 | h0
      · omega
      · have := (Mid.start s).next h0
        rw [show ([] : List RuneS).length = 0 from rfl, List.getElem?_eq_none (by omega)] at this
        cases this
  | succ n ih =>
    intro h
    obtain ⟨p, hm, h1, _, _⟩ := ih (by omega)
    obtain ⟨hp, hx⟩ := h1 (by omega)
    have hs := hm.step hp
    have e : (runes s).take (n + 1) = (runes s).take n ++ [runeAt s p] := take_snoc hx
    rw [← e] at hs
    have hl : ((runes s).take (n + 1)).length = n + 1 := by rw [List.length_take]; omega
    refine ⟨_, hs, fun h => ?_, fun h => ?_, ?_⟩
    · have hlt : p + (Utf8.decode s p).2 < s.size := by
        rcases Nat.lt_or_ge (p + (Utf8.decode s p).2) s.size with h2 | h2
        · exact h2
        · have := hs.done (by omega)
          rw [this] at h; omega
      exact ⟨hlt, by have := hs.next hlt; rwa [hl] at this⟩
    · rcases Nat.lt_or_ge (p + (Utf8.decode s p).2) s.size with h2 | h2
      · have := hs.next h2
        rw [hl, List.getElem?_eq_none (by omega)] at this
        cases this
      · have := dec_end s p hp; omega
    · have h2 := hs.2
      have h3 : (runes s).drop (n + 1) = ((runes s).take (n + 1) ++ runesF s (p + (Utf8.decode s p).2)).drop (n + 1) := congrArg _ h2
      rw [h3, List.drop_left' hl]

/-- How many letters stand from rune n on. -/
def spanK (l : List RuneS) (n : Nat) : Nat := n + ((l.drop n).takeWhile fun r => letterB r.C).length
theorem tw_len {α : Type} (p : α → Bool) (l : List α) : (l.takeWhile p).length ≤ l.length := by
  induction l with
  | nil => simp
  | cons x l ih => rw [List.takeWhile_cons]; split <;> simp; omega
theorem tw_in {α : Type} (p : α → Bool) (l : List α) : ∀ i, i < (l.takeWhile p).length → ∃ x, l[i]? = some x ∧ p x = true := by
  induction l with
  | nil => intro i hi; simp at hi
  | cons x l ih =>
    intro i hi
    rw [List.takeWhile_cons] at hi
    split at hi
    · rename_i hx
      cases i with
      | zero => exact ⟨x, rfl, hx⟩
      | succ i => exact ih i (by simpa using hi)
    · simp at hi
theorem tw_out {α : Type} (p : α → Bool) (l : List α) : ∀ x, l[(l.takeWhile p).length]? = some x → p x = false := by
  induction l with
  | nil => intro x hx; simp at hx
  | cons y l ih =>
    intro x hx
    rw [List.takeWhile_cons] at hx
    split at hx
    · exact ih x (by simpa using hx)
    · rename_i hy
      simp at hx
      subst hx
      simpa using hy
theorem spanK_le (l : List RuneS) (n : Nat) (hn : n ≤ l.length) : n ≤ spanK l n ∧ spanK l n ≤ l.length := by
  unfold spanK
  have := tw_len (fun r : RuneS => letterB r.C) (l.drop n)
  rw [List.length_drop] at this
  omega
theorem spanK_in (l : List RuneS) (n m : Nat) (h1 : n ≤ m) (h2 : m < spanK l n) : ∃ r, l[m]? = some r ∧ letterB r.C = true := by
  unfold spanK at h2
  obtain ⟨r, hr, hl⟩ := tw_in (fun r : RuneS => letterB r.C) (l.drop n) (m - n) (by omega)
  rw [List.getElem?_drop, show n + (m - n) = m by omega] at hr
  exact ⟨r, hr, hl⟩
theorem spanK_out (l : List RuneS) (n : Nat) : ∀ r, l[spanK l n]? = some r → letterB r.C = false := by
  intro r hr
  refine tw_out (fun r : RuneS => letterB r.C) (l.drop n) r ?_
  rw [List.getElem?_drop]; exact hr

/-- Where rune n begins, as the document asks it. -/
def offR (s : ByteArray) (n : Nat) : Nat := match (runes s)[n]? with
  | some r => r.At.toNat
  | none => s.size
theorem offR_at {s : ByteArray} {n p : Nat} (hn : n ≤ (runes s).length) (h1 : n < (runes s).length → p < s.size ∧ (runes s)[n]? = some (runeAt s p)) (h2 : n = (runes s).length → p = s.size) : offR s n = p := by
  unfold offR
  rcases Nat.lt_or_ge n (runes s).length with h | h
  · rw [(h1 h).2]; show ((p : Int)).toNat = p; simp
  · rw [List.getElem?_eq_none h]; exact (h2 (by omega)).symm

theorem lex_letters (s : ByteArray) (out : List WordS) (n p0 : Nat) : ∀ (j m : Nat), m + j ≤ (runes s).length → p0 ≤ offR s m → (∀ i, m ≤ i → i < m + j → ∃ r, (runes s)[i]? = some r ∧ letterB r.C = true) →
    lexGo ((runes s).drop m) ⟨out ++ [⟨s.extract p0 (offR s m), n⟩], true, m⟩ = lexGo ((runes s).drop (m + j)) ⟨out ++ [⟨s.extract p0 (offR s (m + j)), n⟩], true, m + j⟩ := by
  intro j
  induction j with
  | zero => intro m _ _ _; rfl
  | succ j ih =>
    intro m hm h0 hl
    obtain ⟨p, hmid, h1, h2, h3⟩ := mid_at s m (by omega)
    obtain ⟨hp, hx⟩ := h1 (by omega)
    obtain ⟨r, hr, hrl⟩ := hl m (by omega) (by omega)
    rw [hx] at hr
    obtain rfl := Option.some.inj hr
    obtain ⟨p', hmid', h1', h2', h3'⟩ := mid_at s (m + 1) (by omega)
    have e0 := offR_at (by omega) h1 h2
    have e1 := offR_at (by omega) h1' h2'
    have hnx : p' = p + (Utf8.decode s p).2 := by
      have k1 := runesF_cons hp
      have k2 : (runes s).drop (m + 1) = runesF s (p + (Utf8.decode s p).2) := by
        rw [show m + 1 = m + 1 from rfl, ← List.drop_drop, h3, k1]; rfl
      rw [h3'] at k2
      exact runesF_inj hmid'.1 (dec_end s p hp) k2
    have hc := (rune_cut s p hp hrl).1
    have hw := (dec_w s p).1
    rw [e0] at h0 ⊢
    rw [h3, runesF_cons hp, lexGo_more hrl rfl]
    have k2 : runesF s (p + (Utf8.decode s p).2) = (runes s).drop (m + 1) := by rw [h3', hnx]
    rw [k2]
    simp only
    rw [growL_snoc, hc]
    simp only
    rw [ByteArray.extract_append_extract, Nat.min_eq_left h0, Nat.max_eq_right (by omega), ← hnx, ← e1]
    have := ih (m + 1) (by omega) (by rw [e1, hnx]; omega) (fun i hi1 hi2 => hl i (by omega) (by omega))
    rw [show m + (j + 1) = m + 1 + j by omega]
    exact this
/-- A word of letters. -/
theorem lex_word (s : ByteArray) (out : List WordS) (n : Nat) (r : RuneS) (hr : (runes s)[n]? = some r) (hl : letterB r.C = true) :
    n < spanK (runes s) n ∧ lexGo ((runes s).drop n) ⟨out, false, n⟩ = lexGo ((runes s).drop (spanK (runes s) n)) ⟨out ++ [⟨s.extract (offR s n) (offR s (spanK (runes s) n)), n⟩], false, spanK (runes s) n⟩ := by
  have hn := (List.getElem?_eq_some_iff.1 hr).1
  obtain ⟨k1, k2⟩ := spanK_le (runes s) n (by omega)
  have hlt : n < spanK (runes s) n := by
    rcases Nat.lt_or_ge n (spanK (runes s) n) with h | h
    · exact h
    · have := spanK_out (runes s) n r (by rw [show spanK (runes s) n = n by omega]; exact hr)
      rw [hl] at this; cases this
  refine ⟨hlt, ?_⟩
  obtain ⟨p, hmid, h1, h2, h3⟩ := mid_at s n (by omega)
  obtain ⟨hp, hx⟩ := h1 hn
  rw [hr] at hx
  obtain rfl := Option.some.inj hx
  have e0 := offR_at (by omega) h1 h2
  have hd : (runes s).drop n = runeAt s p :: (runes s).drop (n + 1) := by
    rw [← List.getElem_cons_drop hn]
    rw [List.getElem?_eq_getElem hn] at hr
    rw [Option.some.inj hr]
  obtain ⟨p', hmid', h1', h2', h3'⟩ := mid_at s (n + 1) (by omega)
  have e1 := offR_at (by omega) h1' h2'
  have hnx : p' = p + (Utf8.decode s p).2 := by
    have k2 : (runes s).drop (n + 1) = runesF s (p + (Utf8.decode s p).2) := by
      rw [← List.drop_drop, h3, runesF_cons hp]; rfl
    rw [h3'] at k2
    exact runesF_inj hmid'.1 (dec_end s p hp) k2
  have hc := (rune_cut s p hp hl).1
  have hw := (dec_w s p).1
  rw [hd, lexGo_letter hl rfl, hc, ← hnx]
  simp only
  have key := lex_letters s out n p (spanK (runes s) n - (n + 1)) (n + 1) (by omega) (by rw [e1, hnx]; omega) (fun i hi1 hi2 => spanK_in (runes s) n i (by omega) (by omega))
  rw [e1, show n + 1 + (spanK (runes s) n - (n + 1)) = spanK (runes s) n by omega] at key
  rw [key, e0]
  exact lexGo_run true (fun r hr => by rw [List.getElem?_drop, Nat.add_zero] at hr; exact spanK_out _ _ r hr)
theorem lex_blank (s : ByteArray) (out : List WordS) (n : Nat) (r : RuneS) (hr : (runes s)[n]? = some r) (h : r.C = 32) : lexGo ((runes s).drop n) ⟨out, false, n⟩ = lexGo ((runes s).drop (n + 1)) ⟨out, false, n + 1⟩ := by
  have hn := (List.getElem?_eq_some_iff.1 hr).1
  rw [← List.getElem_cons_drop hn]
  rw [List.getElem?_eq_getElem hn] at hr
  rw [Option.some.inj hr, lexGo_blank h]
theorem lex_sign (s : ByteArray) (out : List WordS) (n : Nat) (r : RuneS) (hr : (runes s)[n]? = some r) (h : signB r.C = true) : lexGo ((runes s).drop n) ⟨out, false, n⟩ = lexGo ((runes s).drop (n + 1)) ⟨out ++ [⟨Utf8.encode r.C, n⟩], false, n + 1⟩ := by
  have hn := (List.getElem?_eq_some_iff.1 hr).1
  rw [← List.getElem_cons_drop hn]
  rw [List.getElem?_eq_getElem hn] at hr
  rw [Option.some.inj hr, lexGo_sign h]
theorem lex_bad (s : ByteArray) (out : List WordS) (n : Nat) (r : RuneS) (hr : (runes s)[n]? = some r) (h1 : letterB r.C = false) (h2 : r.C ≠ 32) (h3 : signB r.C = false) : lexGo ((runes s).drop n) ⟨out, false, n⟩ = ([], (n : Int), 3) := by
  have hn := (List.getElem?_eq_some_iff.1 hr).1
  rw [← List.getElem_cons_drop hn]
  rw [List.getElem?_eq_getElem hn] at hr
  rw [Option.some.inj hr, lexGo_bad h1 h2 h3]
theorem lex_end (s : ByteArray) (out : List WordS) (n : Nat) (hn : (runes s).length ≤ n) : lexGo ((runes s).drop n) ⟨out, false, n⟩ = (out, 0, 0) := by
  rw [List.drop_of_length_le hn]; rfl
theorem offR_le (s : ByteArray) (n : Nat) (hn : n ≤ (runes s).length) : offR s n ≤ s.size := by
  obtain ⟨p, hm, h1, h2, _⟩ := mid_at s n hn
  rw [offR_at hn h1 h2]; exact hm.1
theorem offR_mono (s : ByteArray) : ∀ (j n : Nat), n + j ≤ (runes s).length → offR s n ≤ offR s (n + j) := by
  intro j
  induction j with
  | zero => intro n _; exact Nat.le_refl _
  | succ j ih =>
    intro n hn
    refine Nat.le_trans ?_ (show offR s (n + 1) ≤ _ from by have := ih (n + 1) (by omega); rwa [show n + 1 + j = n + (j + 1) by omega] at this)
    obtain ⟨p, hmid, h1, h2, h3⟩ := mid_at s n (by omega)
    obtain ⟨hp, hx⟩ := h1 (by omega)
    obtain ⟨p', hmid', h1', h2', h3'⟩ := mid_at s (n + 1) (by omega)
    rw [offR_at (by omega) h1 h2, offR_at (by omega) h1' h2']
    have k2 : (runes s).drop (n + 1) = runesF s (p + (Utf8.decode s p).2) := by
      rw [← List.drop_drop, h3, runesF_cons hp]; rfl
    rw [h3'] at k2
    have := runesF_inj hmid'.1 (dec_end s p hp) k2
    omega
theorem sign_text (c : Int) (h : signB c = true) : strOfNums [IntKind.u8.wrap c] = Utf8.encode c := by
  have : c = 40 ∨ c = 41 ∨ c = 33 ∨ c = 38 ∨ c = 124 ∨ c = 42 := by
    unfold signB at h; simp at h; omega
  rcases this with rfl | rfl | rfl | rfl | rfl | rfl <;> decide +kernel
end Go.Proofs.Ytolckkckheiceaa
