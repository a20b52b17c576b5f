/- A record that is read: plain. -/
import Derived.Test.YtahhhnbpohcbfaaRd6
import Derived.Test.YtahhhnbpohcbfaaRecS
namespace Go.Proofs.Ytahhhnbpohcbfaa
open Go.RowKit

theorem RdS.num_0 (R : RdS) (most : Int) : 0 ≤ (R.num most).1 ∧ (R.num most).1 ≤ max most 0 := by
  unfold RdS.num
  split
  · simp; omega
  · split
    · simp; omega
    · rename_i h
      have := nextN_ok (by simpa using h : (nextN R.b most).1 = 0)
      simp only
      omega
theorem RdS.num_len (R : RdS) (most : Int) : (R.num most).2.b.length ≤ R.b.length := by
  unfold RdS.num
  split
  · simp
  · split
    · simp
    · simp
theorem RdS.fail_len (R : RdS) (e : Int) : (R.fail e).b.length = R.b.length := by
  unfold RdS.fail
  split <;> rfl
theorem RdS.least_0 (R : RdS) (most : Int) : 0 ≤ (R.least most).1 ∧ (R.least most).1 ≤ max most 0 := by
  have := R.num_0 most
  unfold RdS.least
  split
  · simp only; omega
  · exact this
theorem RdS.least_len (R : RdS) (most : Int) : (R.least most).2.b.length ≤ R.b.length := by
  have := R.num_len most
  unfold RdS.least
  split
  · simp only; rw [RdS.fail_len]; exact this
  · exact this
theorem RdS.text_len (R : RdS) (most : Int) : (R.text most).2.b.length ≤ R.b.length ∧ (R.text most).1.length ≤ R.b.length := by
  unfold RdS.text
  split
  · simp
  · split
    · simp
    · split
      · simp
      · simp; omega
/-- A number, if t. -/
def RdS.opt (R : RdS) (t : Bool) (most : Int) : Int × RdS := if t then R.num most else (0, R)
def RdS.optLeast (R : RdS) (t : Bool) (most : Int) : Int × RdS := if t then R.least most else (0, R)
theorem RdS.opt_len (R : RdS) (t : Bool) (most : Int) : (R.opt t most).2.b.length ≤ R.b.length := by
  unfold RdS.opt
  cases t
  · simp
  · exact R.num_len most
theorem RdS.optLeast_len (R : RdS) (t : Bool) (most : Int) : (R.optLeast t most).2.b.length ≤ R.b.length := by
  unfold RdS.optLeast
  cases t
  · simp
  · exact R.least_len most
theorem RdS.opt_0 (R : RdS) (t : Bool) (most : Int) : 0 ≤ (R.opt t most).1 ∧ (R.opt t most).1 ≤ max most 0 := by
  unfold RdS.opt
  cases t
  · simp; omega
  · exact R.num_0 most
theorem RdS.optLeast_0 (R : RdS) (t : Bool) (most : Int) : 0 ≤ (R.optLeast t most).1 ∧ (R.optLeast t most).1 ≤ max most 0 := by
  unfold RdS.optLeast
  cases t
  · simp; omega
  · exact R.least_0 most
/-- k texts. -/
def RdS.texts (R : RdS) : Nat → List ByteArray × RdS
  | 0 => ([], R)
  | k + 1 => ((R.texts k).1 ++ [mkB ((R.texts k).2.text 200).1], ((R.texts k).2.text 200).2)
theorem RdS.texts_len (R : RdS) (k : Nat) : (R.texts k).2.b.length ≤ R.b.length ∧ (R.texts k).1.length = k := by
  induction k with
  | zero => simp [RdS.texts]
  | succ k ih =>
    have := ((R.texts k).2.text_len 200).1
    simp only [RdS.texts]
    exact ⟨by omega, by simp; exact ih.2⟩

def pA1 (b : List UInt8) : Int × RdS := (RdS.mk b 0).least 4
def pA2 (b : List UInt8) : Int × RdS := (pA1 b).2.least 72057594037927935
def pA3 (b : List UInt8) : Int × RdS := (pA2 b).2.opt (hasF (pA1 b).1 1) 15
def pA4 (b : List UInt8) : Int × RdS := (pA3 b).2.opt (hasF (pA1 b).1 2) 63
def pA5 (b : List UInt8) : Int × RdS := (pA4 b).2.opt (hasF (pA1 b).1 4) 7
def pA6 (b : List UInt8) : Int × RdS := (pA5 b).2.optLeast (hasF (pA1 b).1 8) 9
def pA7 (b : List UInt8) : Int × RdS := (pA6 b).2.optLeast (hasF (pA1 b).1 16) 16
def pA8 (b : List UInt8) : List ByteArray × RdS := (pA7 b).2.texts (pA7 b).1.toNat
def parseX (b : List UInt8) : RecS := ⟨(pA1 b).1, (pA2 b).1, (pA3 b).1, (pA4 b).1, (pA5 b).1, (pA6 b).1, (pA8 b).1⟩
def recZ : RecS := ⟨0, 0, 0, 0, 0, 0, []⟩
def parseE (b : List UInt8) : Int := (pA8 b).2.fin
def parseR (b : List UInt8) : RecS := if parseE b = 0 then parseX b else recZ
end Go.Proofs.Ytahhhnbpohcbfaa
