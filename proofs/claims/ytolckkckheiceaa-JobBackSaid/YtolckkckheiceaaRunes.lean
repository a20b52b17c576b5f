/- Runes of texts, in plain Lean: what the model's decoding says. -/
import Derived.Test.YtolckkckheiceaaLib
import Derived.Lib.OthersKept
namespace Go.Proofs.Ytolckkckheiceaa
open Go.RowKit

/-- Byte k of a text; 0 behind its end. -/
def bN (s : ByteArray) (k : Nat) : Nat := (s.get! k).toNat
theorem get_in (s : ByteArray) (n : Nat) (h : n < s.size) : s.get! n = s[n] := get_at s n h
theorem get_out (s : ByteArray) (n : Nat) (h : ¬ n < s.size) : s.get! n = 0 := by
  cases s with
  | mk d =>
    have : ¬ n < d.size := h
    simp [ByteArray.get!, this]
    rfl
theorem bN_at (s : ByteArray) : ∀ (n : Nat) (h : n < s.size), ((s[n]'h).toNat : Int) = (bN s n : Int) := fun n h => by
  unfold bN
  rw [get_in s n h]
theorem bN_lt (s : ByteArray) (k : Nat) : bN s k < 256 := (s.get! k).toNat_lt

def good2 (s : ByteArray) (p : Nat) : Prop := 194 ≤ bN s p ∧ bN s p < 224 ∧ p + 1 < s.size ∧ 128 ≤ bN s (p + 1) ∧ bN s (p + 1) < 192
def good3 (s : ByteArray) (p : Nat) : Prop := 224 ≤ bN s p ∧ bN s p < 240 ∧ p + 2 < s.size ∧ 128 ≤ bN s (p + 1) ∧ bN s (p + 1) < 192 ∧ 128 ≤ bN s (p + 2) ∧ bN s (p + 2) < 192 ∧ ¬ (bN s p = 224 ∧ bN s (p + 1) < 160) ∧ ¬ (bN s p = 237 ∧ 159 < bN s (p + 1))
def good4 (s : ByteArray) (p : Nat) : Prop := 240 ≤ bN s p ∧ bN s p < 245 ∧ p + 3 < s.size ∧ 128 ≤ bN s (p + 1) ∧ bN s (p + 1) < 192 ∧ 128 ≤ bN s (p + 2) ∧ bN s (p + 2) < 192 ∧ 128 ≤ bN s (p + 3) ∧ bN s (p + 3) < 192 ∧ ¬ (bN s p = 240 ∧ bN s (p + 1) < 144) ∧ ¬ (bN s p = 244 ∧ 143 < bN s (p + 1))

theorem dec_low {s : ByteArray} {p : Nat} (h : bN s p < 128) : Utf8.decode s p = (bN s p, 1) := by
  unfold bN at h ⊢
  simp only [Utf8.decode, Nat.add_zero]
  rw [if_pos h]
theorem dec_2 {s : ByteArray} {p : Nat} (h : good2 s p) : Utf8.decode s p = ((bN s p - 192) * 64 + (bN s (p + 1) - 128), 2) := by
  obtain ⟨h1, h2, h3, h4, h5⟩ := h
  unfold bN at *
  simp only [Utf8.decode, Nat.add_zero]
  rw [if_neg (by omega), if_pos (by simp; omega), if_pos (by omega)]
  exact Prod.ext (by simp only; omega) rfl
theorem dec_3 {s : ByteArray} {p : Nat} (h : good3 s p) : Utf8.decode s p = ((bN s p - 224) * 4096 + (bN s (p + 1) - 128) * 64 + (bN s (p + 2) - 128), 3) := by
  obtain ⟨h1, h2, h3, h4, h5, h6, h7, h8, h9⟩ := h
  unfold bN at *
  simp only [Utf8.decode, Nat.add_zero]
  rw [if_neg (by omega), if_neg (by simp; omega), if_pos (by simp; omega), if_pos (by simp [Utf8.valid]; omega)]
  exact Prod.ext (by simp only; omega) rfl
theorem dec_4 {s : ByteArray} {p : Nat} (h : good4 s p) : Utf8.decode s p = ((bN s p - 240) * 262144 + (bN s (p + 1) - 128) * 4096 + (bN s (p + 2) - 128) * 64 + (bN s (p + 3) - 128), 4) := by
  obtain ⟨h1, h2, h3, h4, h5, h6, h7, h8, h9, h10, h11⟩ := h
  unfold bN at *
  simp only [Utf8.decode, Nat.add_zero]
  rw [if_neg (by omega), if_neg (by simp; omega), if_neg (by simp; omega), if_pos (by simp; omega), if_pos (by simp [Utf8.valid]; omega)]
  exact Prod.ext (by simp only; omega) rfl
theorem dec_bad {s : ByteArray} {p : Nat} (h1 : 128 ≤ bN s p) (h2 : ¬ good2 s p) (h3 : ¬ good3 s p) (h4 : ¬ good4 s p) : Utf8.decode s p = (65533, 1) := by
  have l0 := bN_lt s p
  have l1 := bN_lt s (p + 1)
  unfold good2 at h2
  unfold good3 at h3
  unfold good4 at h4
  unfold bN at *
  simp only [Utf8.decode, Nat.add_zero]
  rw [if_neg (by omega)]
  split
  · rename_i hc
    simp at hc
    rw [if_neg (by omega)]; rfl
  · split
    · rename_i hc
      simp at hc
      rw [if_neg (by simp [Utf8.valid]; omega)]; rfl
    · split
      · rename_i hc
        simp at hc
        rw [if_neg (by simp [Utf8.valid]; omega)]; rfl
      · rfl
/-- Every place of a text: one of five. -/
theorem dec_any (s : ByteArray) (p : Nat) : bN s p < 128 ∨ good2 s p ∨ good3 s p ∨ good4 s p ∨ (128 ≤ bN s p ∧ ¬ good2 s p ∧ ¬ good3 s p ∧ ¬ good4 s p) := by
  by_cases h1 : bN s p < 128
  · exact .inl h1
  · by_cases h2 : good2 s p
    · exact .inr (.inl h2)
    · by_cases h3 : good3 s p
      · exact .inr (.inr (.inl h3))
      · by_cases h4 : good4 s p
        · exact .inr (.inr (.inr (.inl h4)))
        · exact .inr (.inr (.inr (.inr ⟨by omega, h2, h3, h4⟩)))

/-- How many bytes the rune has that stands at p; 0: none does. -/
def szR (s : ByteArray) (p : Nat) : Nat := if Utf8.decode s p = (65533, 1) then 0 else (Utf8.decode s p).2

theorem dec_w (s : ByteArray) (p : Nat) : 1 ≤ (Utf8.decode s p).2 ∧ (Utf8.decode s p).2 ≤ 4 := by
  rcases dec_any s p with h | h | h | h | ⟨h1, h2, h3, h4⟩
  · rw [dec_low h]; simp
  · rw [dec_2 h]; simp
  · rw [dec_3 h]; simp
  · rw [dec_4 h]; simp
  · rw [dec_bad h1 h2 h3 h4]; simp
theorem dec_end (s : ByteArray) (p : Nat) (hp : p < s.size) : p + (Utf8.decode s p).2 ≤ s.size := by
  rcases dec_any s p with h | h | h | h | ⟨h1, h2, h3, h4⟩
  · rw [dec_low h]; simp; omega
  · rw [dec_2 h]; have := h.2.2.1; simp; omega
  · rw [dec_3 h]; have := h.2.2.1; simp; omega
  · rw [dec_4 h]; have := h.2.2.1; simp; omega
  · rw [dec_bad h1 h2 h3 h4]; simp; omega
theorem dec_c (s : ByteArray) (p : Nat) : (Utf8.decode s p).1 ≤ 1114111 := by
  have l0 := bN_lt s p
  rcases dec_any s p with h | h | h | h | ⟨h1, h2, h3, h4⟩
  · rw [dec_low h]; simp; omega
  · rw [dec_2 h]; obtain ⟨h1, h2, h3, h4, h5⟩ := h; simp only; omega
  · rw [dec_3 h]; obtain ⟨h1, h2, h3, h4, h5, h6, h7, h8, h9⟩ := h; simp only; omega
  · rw [dec_4 h]; obtain ⟨h1, h2, h3, h4, h5, h6, h7, h8, h9, h10, h11⟩ := h; simp only; omega
  · rw [dec_bad h1 h2 h3 h4]; simp

/-! ### A tail of a text -/
def tail (s : ByteArray) (p : Nat) : ByteArray := s.extract p s.size
theorem tail_size (s : ByteArray) (p : Nat) : (tail s p).size = s.size - p := by simp [tail]
theorem bN_tail (s : ByteArray) (p k : Nat) : bN (tail s p) k = bN s (p + k) := by
  unfold bN tail
  by_cases h : p + k < s.size
  · have h1 : k < (s.extract p s.size).size := by simp; omega
    rw [get_in _ _ h1, get_in _ _ h]
    congr 1
    exact ByteArray.getElem_extract h1
  · rw [get_out _ _ (by simp; omega), get_out _ _ h]

theorem dec_tail (s : ByteArray) (p : Nat) : Utf8.decode (tail s p) 0 = Utf8.decode s p := by
  have hz := tail_size s p
  have e0 := bN_tail s p 0
  have e1 := bN_tail s p 1
  have e2 := bN_tail s p 2
  have e3 := bN_tail s p 3
  have g2 : good2 (tail s p) 0 ↔ good2 s p := by
    unfold good2; rw [e0, Nat.zero_add, e1, hz, Nat.add_zero]; omega
  have g3 : good3 (tail s p) 0 ↔ good3 s p := by
    unfold good3; rw [e0, Nat.zero_add, Nat.zero_add, e1, e2, hz, Nat.add_zero]; omega
  have g4 : good4 (tail s p) 0 ↔ good4 s p := by
    unfold good4; rw [e0, Nat.zero_add, Nat.zero_add, Nat.zero_add, e1, e2, e3, hz, Nat.add_zero]; omega
  rw [Nat.add_zero] at e0
  rcases dec_any s p with h | h | h | h | ⟨h1, h2, h3, h4⟩
  · rw [dec_low h, dec_low (by rw [e0]; exact h), e0]
  · rw [dec_2 h, dec_2 (g2.2 h), e0, Nat.zero_add, e1]
  · rw [dec_3 h, dec_3 (g3.2 h), e0, Nat.zero_add, Nat.zero_add, e1, e2]
  · rw [dec_4 h, dec_4 (g4.2 h), e0, Nat.zero_add, Nat.zero_add, Nat.zero_add, e1, e2, e3]
  · rw [dec_bad h1 h2 h3 h4, dec_bad (by rw [e0]; exact h1) (fun h => h2 (g2.1 h)) (fun h => h3 (g3.1 h)) (fun h => h4 (g4.1 h))]

/-! ### The runes of a text -/
/-- A rune's place, its number, whether it is one. -/
structure RuneS where
  At : Int
  C : Int
  Whole : Bool
def runeAt (s : ByteArray) (p : Nat) : RuneS := ⟨p, (Utf8.decode s p).1, decide (0 < szR s p)⟩
/-- The runes from p on. -/
def runesN (s : ByteArray) : Nat → Nat → List RuneS
  | 0, _ => []
  | n + 1, p => if p < s.size then runeAt s p :: runesN s n (p + (Utf8.decode s p).2) else []
def runesF (s : ByteArray) (p : Nat) : List RuneS := runesN s (s.size - p) p
theorem runesN_more (s : ByteArray) : ∀ (n m p : Nat), s.size - p ≤ n → s.size - p ≤ m → runesN s n p = runesN s m p := by
  intro n
  induction n with
  | zero =>
    intro m p h1 _
    cases m with
    | zero => rfl
    | succ m => simp only [runesN]; rw [if_neg (by omega)]
  | succ n ih =>
    intro m p h1 h2
    cases m with
    | zero => simp only [runesN]; rw [if_neg (by omega)]
    | succ m =>
      simp only [runesN]
      split
      · have := (dec_w s p).1
        rw [ih m _ (by omega) (by omega)]
      · rfl
theorem runesF_cons {s : ByteArray} {p : Nat} (h : p < s.size) : runesF s p = runeAt s p :: runesF s (p + (Utf8.decode s p).2) := by
  have := (dec_w s p).1
  unfold runesF
  obtain ⟨n, hn⟩ : ∃ n, s.size - p = n + 1 := ⟨s.size - p - 1, by omega⟩
  rw [hn]
  simp only [runesN]
  rw [if_pos h, runesN_more s n (s.size - (p + (Utf8.decode s p).2)) _ (by omega) (Nat.le_refl _)]
theorem runesF_end {s : ByteArray} {p : Nat} (h : ¬ p < s.size) : runesF s p = [] := by
  unfold runesF
  rw [show s.size - p = 0 by omega]; rfl
theorem runesF_len (s : ByteArray) : ∀ (n p : Nat), s.size - p ≤ n → (runesF s p).length ≤ s.size - p := by
  intro n
  induction n with
  | zero => intro p h; rw [runesF_end (by omega)]; simp
  | succ n ih =>
    intro p h
    by_cases hp : p < s.size
    · rw [runesF_cons hp]
      have := (dec_w s p).1
      have := ih (p + (Utf8.decode s p).2) (by omega)
      simp; omega
    · rw [runesF_end hp]; simp
def runes (s : ByteArray) : List RuneS := runesF s 0
theorem runes_len (s : ByteArray) : (runes s).length ≤ s.size := runesF_len s s.size 0 (by omega)

/-- In the midst of a text's runes: those that came, those still to come. -/
def Mid (s : ByteArray) (l : List RuneS) (p : Nat) : Prop := p ≤ s.size ∧ runes s = l ++ runesF s p
theorem Mid.start (s : ByteArray) : Mid s [] 0 := ⟨by omega, rfl⟩
theorem Mid.step {s : ByteArray} {l : List RuneS} {p : Nat} (h : Mid s l p) (hp : p < s.size) : Mid s (l ++ [runeAt s p]) (p + (Utf8.decode s p).2) :=
  ⟨dec_end s p hp, by rw [h.2, runesF_cons hp]; simp⟩
theorem Mid.done {s : ByteArray} {l : List RuneS} {p : Nat} (h : Mid s l p) (hp : ¬ p < s.size) : runes s = l := by rw [h.2, runesF_end hp]; simp
theorem Mid.len {s : ByteArray} {l : List RuneS} {p : Nat} (h : Mid s l p) : l.length ≤ s.size := by
  have := runes_len s
  rw [h.2] at this; simp at this; omega
theorem Mid.len_lt {s : ByteArray} {l : List RuneS} {p : Nat} (h : Mid s l p) (hp : p < s.size) : l.length < s.size := by
  have := (h.step hp).len
  simp at this; omega
theorem Mid.next {s : ByteArray} {l : List RuneS} {p : Nat} (h : Mid s l p) (hp : p < s.size) : (runes s)[l.length]? = some (runeAt s p) := by
  rw [h.2, runesF_cons hp]; simp

/-! ### Letters, names -/
def letterB (c : Int) : Bool := (decide (97 ≤ c) && decide (c ≤ 122)) || (decide (48 ≤ c) && decide (c ≤ 57)) || (decide (161 ≤ c) && decide (c ≤ 1114111) && decide (c ≠ 65533) && (decide (c < 55296) || decide (57343 < c)))
theorem letterB_whole {s : ByteArray} {p : Nat} (h : letterB (runeAt s p).C = true) : (runeAt s p).Whole = true := by
  unfold runeAt szR at *
  simp only [decide_eq_true_eq]
  have := (dec_w s p).1
  rw [if_neg]
  · omega
  · intro e
    rw [e] at h
    simp [letterB] at h
def wholeB (s : ByteArray) : Bool := (runes s).all (·.Whole)
/-- a name: letters, one to sixteen, no digit first -/
def headOk : List RuneS → Bool
  | [] => true
  | r :: _ => decide (57 < r.C)
def nameB (s : ByteArray) : Bool := (runes s).all (fun r => letterB r.C) && headOk (runes s) && decide (1 ≤ (runes s).length) && decide ((runes s).length ≤ 16)

/-! ### Folding -/
def lowB (c : UInt8) : UInt8 := if 65 ≤ c.toNat ∧ c.toNat ≤ 90 then c + 32 else c
def foldL (l : List UInt8) : List UInt8 := l.map lowB
def foldS (s : ByteArray) : ByteArray := ⟨(foldL s.data.toList).toArray⟩

theorem data_len (s : ByteArray) : s.data.toList.length = s.size := by rw [Array.length_toList]; rfl
theorem data_at {s : ByteArray} {k : Nat} (h : k < s.size) : s.data.toList[k]? = some (s.get! k) := by
  rw [List.getElem?_eq_getElem (by rw [data_len]; exact h), get_in s k h]; rfl
theorem ofNat_bN (s : ByteArray) (k : Nat) : UInt8.ofNat (bN s k) = s.get! k := by unfold bN; simp
/-- One byte more of the folded text. -/
theorem fold_step {s : ByteArray} {k : Nat} (h : k < s.size) : foldL (s.data.toList.take (k + 1)) = foldL (s.data.toList.take k) ++ [lowB (s.get! k)] := by
  unfold foldL
  rw [take_snoc (data_at h), List.map_append]; rfl
theorem low_yes {s : ByteArray} {k : Nat} (h1 : 65 ≤ bN s k) (h2 : bN s k ≤ 90) : lowB (s.get! k) = UInt8.ofNat (bN s k + 32) := by
  unfold lowB
  rw [if_pos ⟨h1, h2⟩, UInt8.ofNat_add, ofNat_bN]; rfl
theorem low_no {s : ByteArray} {k : Nat} (h : ¬ (65 ≤ bN s k ∧ bN s k ≤ 90)) : lowB (s.get! k) = UInt8.ofNat (bN s k) := by
  rw [ofNat_bN]
  exact if_neg h
theorem mk_snoc (l : List UInt8) (c : UInt8) (x : ByteArray) (hx : x = ⟨l.toArray⟩) : x ++ strOfNums [(c.toNat : Int)] = ⟨(l ++ [c]).toArray⟩ := by
  subst hx
  show _ ++ (⟨[UInt8.ofNat (c.toNat : Int).toNat].toArray⟩ : ByteArray) = _
  rw [ByteArray.mk_append_mk]
  simp

end Go.Proofs.Ytolckkckheiceaa
