/- Runes that read as U+FFFD, in plain Lean. No Go program in sight. -/
import Derived.Test.YtolckkckheiceaaRunes
namespace Go.Proofs.Ytolckkckheiceaa
open Go.RowKit Go.Lib

theorem bN_cut (s : ByteArray) (p q k : Nat) (h : p + k < q) (hq : q ≤ s.size) : bN (s.extract p q) k = bN s (p + k) := by
  unfold bN
  have h1 : k < (s.extract p q).size := by simp; omega
  rw [get_in _ _ h1, get_in _ _ (show p + k < s.size by omega)]
  congr 1
  exact ByteArray.getElem_extract h1
def bBadR : ByteArray := ⟨#[239, 191, 189]⟩
theorem bN_ext {s t : ByteArray} (hs : s.size = t.size) (h : ∀ k, k < s.size → bN s k = bN t k) : s = t := by
  apply ByteArray.ext
  apply Array.ext hs
  intro k h1 h2
  have := h k h1
  unfold bN at this
  rw [get_in _ _ h1, get_in _ _ h2] at this
  exact UInt8.toNat_inj.1 this
/-- A rune that reads as U+FFFD is one just where its three bytes stand there. -/
theorem bad_whole (s : ByteArray) (p : Nat) (hc : (Utf8.decode s p).1 = 65533) : 0 < szR s p ↔ p + 3 ≤ s.size ∧ s.extract p (p + 3) = bBadR := by
  constructor
  · intro hz
    have key : good3 s p ∧ bN s p = 239 ∧ bN s (p + 1) = 191 ∧ bN s (p + 2) = 189 := by
      rcases dec_any s p with h | h | h | h | ⟨h1, h2, h3, h4⟩
      · rw [dec_low h] at hc; simp at hc; omega
      · rw [dec_2 h] at hc; simp at hc; unfold good2 at h; omega
      · rw [dec_3 h] at hc; simp at hc; refine ⟨h, ?_⟩; unfold good3 at h; omega
      · rw [dec_4 h] at hc; simp at hc; unfold good4 at h; omega
      · unfold szR at hz; rw [dec_bad h1 h2 h3 h4, if_pos rfl] at hz; omega
    obtain ⟨hg, k0, k1, k2⟩ := key
    have hp : p + 2 < s.size := by unfold good3 at hg; omega
    refine ⟨by omega, bN_ext (by rw [ByteArray.size_extract, Nat.min_eq_left (by omega)]; show p + 3 - p = 3; omega) ?_⟩
    intro k hk
    have hk3 : k < 3 := by simp at hk; omega
    rw [bN_cut s p (p + 3) k (by omega) (by omega)]
    have : k = 0 ∨ k = 1 ∨ k = 2 := by omega
    rcases this with rfl | rfl | rfl
    · rw [Nat.add_zero, k0]; rfl
    · rw [k1]; rfl
    · rw [k2]; rfl
  · rintro ⟨hp, he⟩
    have k0 : bN s p = 239 := by have := bN_cut s p (p + 3) 0 (by omega) hp; rw [he] at this; exact this.symm
    have k1 : bN s (p + 1) = 191 := by have := bN_cut s p (p + 3) 1 (by omega) hp; rw [he] at this; exact this.symm
    have k2 : bN s (p + 2) = 189 := by have := bN_cut s p (p + 3) 2 (by omega) hp; rw [he] at this; exact this.symm
    have hg : good3 s p := by unfold good3; omega
    unfold szR
    rw [dec_3 hg]
    rw [if_neg (by intro e; injection e with _ e; omega)]
    omega
theorem not_bad_whole (s : ByteArray) (p : Nat) (hc : (Utf8.decode s p).1 ≠ 65533) : 0 < szR s p := by
  unfold szR
  rw [if_neg (by intro e; rw [e] at hc; exact hc rfl)]
  exact (dec_w s p).1

end Go.Proofs.Ytolckkckheiceaa
