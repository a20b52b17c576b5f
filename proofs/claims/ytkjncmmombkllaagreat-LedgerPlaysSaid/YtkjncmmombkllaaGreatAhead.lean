/- Bytes ahead are read: plain. -/
import Derived.Test.YtkjncmmombkllaaGreatRdA
namespace Go.Proofs.YtkjncmmombkllaaGreat
open Go.RowKit

theorem num_ahead {n : Int} {most : Int} (h0 : 0 ≤ n) (h1 : n ≤ most) (h2 : most ≤ 72057594037927935) (r : List UInt8) : (RdS.mk (numL (clampN n) ++ r) 0).num most = (n, ⟨r, 0⟩) := by
  have hc : ((clampN n : Nat) : Int) = n := by unfold clampN; omega
  have h := nextN_numL (clampN_le n) r most
  rw [if_neg (by rw [hc]; omega)] at h
  unfold RdS.num
  simp only [h, hc]
  simp
theorem text_ahead {s : List UInt8} {most : Int} (h : (s.length : Int) ≤ most) (h2 : most ≤ 72057594037927935) (r : List UInt8) : (RdS.mk (textL s ++ r) 0).text most = (s, ⟨r, 0⟩) := by
  have hn := nextN_numL (n := s.length) (by unfold maxNum; omega) (s ++ r) most
  rw [if_neg (by omega)] at hn
  unfold RdS.text textL
  rw [List.append_assoc]
  simp only [hn]
  rw [if_neg (by simp), if_neg (by simp), if_neg (by simp)]
  rw [List.drop_left, List.take_left]
  congr 2
  rw [← List.drop_drop, List.drop_left, List.drop_left]
theorem texts_succ' (R : RdS) (k : Nat) : R.texts (k + 1) = (mkB (R.text 200).1 :: ((R.text 200).2.texts k).1, ((R.text 200).2.texts k).2) := by
  induction k with
  | zero => simp [RdS.texts]
  | succ k ih => rw [RdS.texts, ih]; simp [RdS.texts]
theorem texts_ahead (l : List ByteArray) (r : List UInt8) (h : ∀ s ∈ l, s.size ≤ 200) : (RdS.mk (l.flatMap (fun s => textL s.data.toList) ++ r) 0).texts l.length = (l, ⟨r, 0⟩) := by
  induction l with
  | nil => simp [RdS.texts]
  | cons s l ih =>
    have h1 := h s (by simp)
    rw [List.length_cons, texts_succ', List.flatMap_cons, List.append_assoc, text_ahead (by rw [data_len]; omega) (by decide), ih (fun t ht => h t (by simp [ht])), mkB_of]
end Go.Proofs.YtkjncmmombkllaaGreat
