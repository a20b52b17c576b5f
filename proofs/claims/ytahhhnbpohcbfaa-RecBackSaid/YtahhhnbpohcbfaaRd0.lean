/- Reading numbers and texts of bytes: plain. -/
import Derived.Test.YtahhhnbpohcbfaaOctet0
namespace Go.Proofs.Ytahhhnbpohcbfaa
open Go.RowKit

def valN (l : List UInt8) : Nat := l.foldl (fun a x => a * 256 + x.toNat) 0
theorem valN_snoc (l : List UInt8) (x : UInt8) : valN (l ++ [x]) = valN l * 256 + x.toNat := by simp [valN]
theorem fold_val_lt (l : List UInt8) : ∀ a : Nat, l.foldl (fun a x => a * 256 + x.toNat) a < (a + 1) * 256 ^ l.length := by
  induction l with
  | nil => intro a; simp
  | cons x l ih =>
    intro a
    have h1 := ih (a * 256 + x.toNat)
    have h2 := x.toNat_lt
    rw [List.foldl_cons, List.length_cons, Nat.pow_succ]
    have h3 : (a * 256 + x.toNat + 1) * 256 ^ l.length ≤ ((a + 1) * 256) * 256 ^ l.length := Nat.mul_le_mul_right _ (by omega)
    have h4 : (a + 1) * (256 ^ l.length * 256) = ((a + 1) * 256) * 256 ^ l.length := by rw [Nat.mul_assoc, Nat.mul_comm 256]
    rw [h4]; omega
theorem valN_lt (l : List UInt8) : valN l < 256 ^ l.length := by
  have := fold_val_lt l 0
  rwa [Nat.zero_add, Nat.one_mul] at this

/-- The next number: what is wrong (0: nothing), the number, how many bytes it has. -/
def nextN (b : List UInt8) (most : Int) : Int × Nat × Nat :=
  match b with
  | [] => (2, 0, 0)
  | x :: r =>
    if x.toNat < 248 then (if max most 0 < x.toNat then (4, 0, 0) else (0, x.toNat, 1))
    else if x.toNat = 255 then (3, 0, 0)
    else if r.length < x.toNat - 247 then (2, 0, 0)
    else if valN (r.take (x.toNat - 247)) < 248 ∨ width (valN (r.take (x.toNat - 247))) ≠ x.toNat - 247 then (3, 0, 0)
    else if max most 0 < valN (r.take (x.toNat - 247)) then (4, 0, 0)
    else (0, valN (r.take (x.toNat - 247)), x.toNat - 247 + 1)
structure RdS where
  b : List UInt8
  e : Int
def RdS.fail (R : RdS) (e : Int) : RdS := if R.e = 0 then ⟨R.b, e⟩ else R
def RdS.num (R : RdS) (most : Int) : Int × RdS :=
  if R.e ≠ 0 then (0, R) else if (nextN R.b most).1 ≠ 0 then (0, ⟨R.b, (nextN R.b most).1⟩) else ((nextN R.b most).2.1, ⟨R.b.drop (nextN R.b most).2.2, 0⟩)
def RdS.text (R : RdS) (most : Int) : List UInt8 × RdS :=
  if R.e ≠ 0 then ([], R) else if (nextN R.b most).1 ≠ 0 then ([], ⟨R.b, (nextN R.b most).1⟩)
  else if R.b.length < (nextN R.b most).2.2 + (nextN R.b most).2.1 then ([], ⟨R.b, 2⟩)
  else ((R.b.drop (nextN R.b most).2.2).take (nextN R.b most).2.1, ⟨R.b.drop ((nextN R.b most).2.2 + (nextN R.b most).2.1), 0⟩)
def RdS.fin (R : RdS) : Int := if R.e ≠ 0 then R.e else if 0 < R.b.length then 3 else 0

theorem nextN_ok {b : List UInt8} {most : Int} (h : (nextN b most).1 = 0) : 1 ≤ (nextN b most).2.2 ∧ (nextN b most).2.2 ≤ b.length ∧ (nextN b most).2.1 ≤ max most 0 ∧ (nextN b most).2.1 ≤ 72057594037927935 ∧ (nextN b most).2.2 ≤ 8 := by
  unfold nextN at h ⊢
  cases b with
  | nil => simp at h
  | cons x r =>
    have hx := x.toNat_lt
    simp only at h ⊢
    split at h
    · rename_i h1
      split at h
      · simp at h
      · rename_i h2
        rw [if_pos h1, if_neg h2]
        simp; omega
    · rename_i h1
      split at h
      · simp at h
      · rename_i h2
        split at h
        · simp at h
        · rename_i h3
          split at h
          · simp at h
          · rename_i h4
            split at h
            · simp at h
            · rename_i h5
              rw [if_neg h1, if_neg h2, if_neg h3, if_neg h4, if_neg h5]
              have h6 := valN_lt (r.take (x.toNat - 247))
              have h7 : (r.take (x.toNat - 247)).length ≤ 7 := by rw [List.length_take]; omega
              have h8 : 256 ^ (r.take (x.toNat - 247)).length ≤ 256 ^ 7 := Nat.pow_le_pow_right (by decide) h7
              simp only [List.length_cons]
              refine ⟨by omega, by omega, by omega, by omega, by omega⟩

theorem or_add {n x : Nat} (hn : n < 281474976710656) (hx : x < 256) : bits .or .i64 ((n : Int) * 256) (x : Int) = ((n * 256 + x : Nat) : Int) := by
  have h := (bits_nat .i64 62 (by decide) (fun n h0 h1 => by rw [IntKind.wrap_i64]; omega) (n * 256) x (by omega) (by omega)).2
  rw [show ((n * 256 : Nat) : Int) = (n : Int) * 256 by simp] at h
  rw [h]
  congr 1
  rw [Nat.mul_comm]
  exact (Nat.two_pow_add_eq_or_of_lt (i := 8) (by omega) n).symm
end Go.Proofs.Ytahhhnbpohcbfaa
