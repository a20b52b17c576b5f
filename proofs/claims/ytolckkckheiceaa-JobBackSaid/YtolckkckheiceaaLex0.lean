/- The words of a text, in plain Lean. No Go program in sight. -/
import Derived.Test.YtolckkckheiceaaJoins0
namespace Go.Proofs.Ytolckkckheiceaa
open Go.RowKit Go.Lib

structure WordS where
  text : ByteArray
  at_ : Int
deriving DecidableEq
def Kd.word : Kd WordS := Kd.flat 2 (fun x => [.string x.text, .int .i64 x.at_]) (fun _ => rfl) (fun x u hu => by simp at hu; rcases hu with rfl | rfl <;> rfl)
def signB (c : Int) : Bool := decide (c = 40) || decide (c = 41) || decide (c = 33) || decide (c = 38) || decide (c = 124) || decide (c = 42)

structure LexS where
  out : List WordS
  run : Bool
  n : Nat
/-- A letter more for the last word. -/
def growL (out : List WordS) (t : ByteArray) : List WordS := match out.getLast? with
  | some x => out.set (out.length - 1) ⟨x.text ++ t, x.at_⟩
  | none => out
def stepL (st : LexS) (c : Int) : Option LexS :=
  if letterB c then some ⟨if st.run then growL st.out (Utf8.encode c) else st.out ++ [⟨Utf8.encode c, st.n⟩], true, st.n + 1⟩
  else if c = 32 then some ⟨st.out, false, st.n + 1⟩
  else if signB c then some ⟨st.out ++ [⟨Utf8.encode c, st.n⟩], false, st.n + 1⟩
  else none
def lexGo : List RuneS → LexS → List WordS × Int × Int
  | [], st => (st.out, 0, 0)
  | r :: rs, st => match stepL st r.C with
    | some st' => lexGo rs st'
    | none => ([], st.n, 3)
def wordsS (s : ByteArray) : List WordS × Int × Int := if 200 < s.size then ([], 0, 4) else lexGo (runes s) ⟨[], false, 0⟩

theorem lexGo_letter {r : RuneS} {rs : List RuneS} {st : LexS} (h : letterB r.C = true) (hr : st.run = false) : lexGo (r :: rs) st = lexGo rs ⟨st.out ++ [⟨Utf8.encode r.C, st.n⟩], true, st.n + 1⟩ := by
  simp [lexGo, stepL, h, hr]
theorem growL_last {out : List WordS} {x : WordS} {k : Nat} (hk : k + 1 = out.length) (hx : out[k]? = some x) (t : ByteArray) : growL out t = out.set k ⟨x.text ++ t, x.at_⟩ := by
  unfold growL
  have : out.getLast? = some x := by rw [List.getLast?_eq_getElem?, ← hk]; exact hx
  rw [this]
  show out.set (out.length - 1) _ = _
  rw [← hk]; rfl
theorem growL_snoc (out : List WordS) (x : WordS) (t : ByteArray) : growL (out ++ [x]) t = out ++ [⟨x.text ++ t, x.at_⟩] := by
  rw [growL_last (k := out.length) (x := x) (by simp) (by simp)]
  simp
theorem lexGo_more {r : RuneS} {rs : List RuneS} {st : LexS} (h : letterB r.C = true) (hr : st.run = true) : lexGo (r :: rs) st = lexGo rs ⟨growL st.out (Utf8.encode r.C), true, st.n + 1⟩ := by
  simp [lexGo, stepL, h, hr]
theorem letter_no {c : Int} (h : letterB c = true) : c ≠ 32 ∧ signB c = false := by
  have e : (97 ≤ c ∧ c ≤ 122) ∨ (48 ≤ c ∧ c ≤ 57) ∨ 161 ≤ c := by
    unfold letterB at h
    simp at h
    omega
  refine ⟨by omega, ?_⟩
  unfold signB
  simp
  omega
theorem lexGo_blank {r : RuneS} {rs : List RuneS} {st : LexS} (h : r.C = 32) : lexGo (r :: rs) st = lexGo rs ⟨st.out, false, st.n + 1⟩ := by
  have h1 : letterB 32 = false := by decide
  simp [lexGo, stepL, h, h1]
theorem lexGo_sign {r : RuneS} {rs : List RuneS} {st : LexS} (h : signB r.C = true) : lexGo (r :: rs) st = lexGo rs ⟨st.out ++ [⟨Utf8.encode r.C, st.n⟩], false, st.n + 1⟩ := by
  have h1 : letterB r.C = false := by
    cases hl : letterB r.C with
    | false => rfl
    | true => rw [(letter_no hl).2] at h; cases h
  have h2 : ¬ r.C = 32 := by intro e; rw [e] at h; exact absurd h (by decide)
  simp [lexGo, stepL, h, h1, h2]
theorem lexGo_bad {r : RuneS} {rs : List RuneS} {st : LexS} (h1 : letterB r.C = false) (h2 : r.C ≠ 32) (h3 : signB r.C = false) : lexGo (r :: rs) st = ([], (st.n : Int), 3) := by
  simp [lexGo, stepL, h1, h2, h3]
/-- A blank, or nothing, or what is no letter: it is alike whether a word was running. -/
theorem lexGo_run {rs : List RuneS} {out : List WordS} {n : Nat} (b : Bool) (h : ∀ r, rs[0]? = some r → letterB r.C = false) : lexGo rs ⟨out, b, n⟩ = lexGo rs ⟨out, false, n⟩ := by
  cases rs with
  | nil => rfl
  | cons r rs =>
    have h1 := h r rfl
    simp [lexGo, stepL, h1]

theorem encode_size_pos (c : Int) : 1 ≤ (Utf8.encode c).size := by
  unfold Utf8.encode
  dsimp only
  repeat' split
  all_goals first | exact Nat.le_refl 1 | exact (show 1 ≤ 2 by omega) | exact (show 1 ≤ 3 by omega) | exact (show 1 ≤ 4 by omega)
/-- A rune's bytes, cut out. -/
theorem rune_cut (s : ByteArray) (p : Nat) (hp : p < s.size) (hl : letterB (runeAt s p).C = true) : Utf8.encode (runeAt s p).C = s.extract p (p + (Utf8.decode s p).2) ∧ (Utf8.encode (runeAt s p).C).size = (Utf8.decode s p).2 := by
  have hw := letterB_whole hl
  have hz : 0 < szR s p := by simpa [runeAt] using hw
  have he := dec_end s p hp
  have h := enc_dec s p hp hz
  refine ⟨h, ?_⟩
  show (Utf8.encode (((Utf8.decode s p).1 : Nat) : Int)).size = _
  rw [h, ByteArray.size_extract, Nat.min_eq_left he]; omega
/-- What is no letter: a low number, or U+FFFD. -/
theorem rune_odd (s : ByteArray) (p : Nat) (hl : letterB (runeAt s p).C = false) : (0 ≤ (runeAt s p).C ∧ (runeAt s p).C ≤ 160) ∨ (runeAt s p).C = 65533 := by
  have hns : ¬ (55296 ≤ (Utf8.decode s p).1 ∧ (Utf8.decode s p).1 < 57344) := by
    have l0 := bN_lt s p
    rcases dec_any s p with h | h | h | h | ⟨h1, h2, h3, h4⟩
    · rw [dec_low h]; simp only; omega
    · rw [dec_2 h]; obtain ⟨k1, k2, k3, k4, k5⟩ := h; simp only; omega
    · rw [dec_3 h]; obtain ⟨k1, k2, k3, k4, k5, k6, k7, k8, k9⟩ := h; simp only; omega
    · rw [dec_4 h]; obtain ⟨k1, k2, k3, k4, k5, k6, k7, k8, k9, k10, k11⟩ := h; simp only; omega
    · rw [dec_bad h1 h2 h3 h4]; simp
  have hc := dec_c s p
  have e : (runeAt s p).C = ((Utf8.decode s p).1 : Int) := rfl
  rw [e] at hl ⊢
  generalize (Utf8.decode s p).1 = n at *
  unfold letterB at hl
  simp at hl
  omega
end Go.Proofs.Ytolckkckheiceaa
