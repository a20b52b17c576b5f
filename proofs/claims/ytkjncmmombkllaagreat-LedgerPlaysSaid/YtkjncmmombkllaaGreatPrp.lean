import Derived.Test.YtkjncmmombkllaaGreatRds
import Derived.Test.YtkjncmmombkllaaGreatRdA
import Derived.Test.YtkjncmmombkllaaGreatRecS
import Derived.Test.YtkjncmmombkllaaGreatAhead
/- A record that is read: plain. -/
namespace Go.Proofs.YtkjncmmombkllaaGreat
open Go.RowKit

theorem RdS.least_0 (R : RdS) (most : Int) : 0 ≤ (R.least most).1 ∧ (R.least most).1 ≤ max most 0 := by
  have := R.num_0 most
  unfold RdS.least
  split
  · simp only; omega
  · exact this
theorem RdS.least_len (R : RdS) (most : Int) : (R.least most).2.b.length ≤ R.b.length := by
  have := R.num_len most
  unfold RdS.least
  split
  · simp only; rw [RdS.fail_len]; exact this
  · exact this
/-- A number, if t. -/
def RdS.opt (R : RdS) (t : Bool) (most : Int) : Int × RdS := if t then R.num most else (0, R)
def RdS.optLeast (R : RdS) (t : Bool) (most : Int) : Int × RdS := if t then R.least most else (0, R)
theorem RdS.opt_len (R : RdS) (t : Bool) (most : Int) : (R.opt t most).2.b.length ≤ R.b.length := by
  unfold RdS.opt
  cases t
  · simp
  · exact R.num_len most
theorem RdS.optLeast_len (R : RdS) (t : Bool) (most : Int) : (R.optLeast t most).2.b.length ≤ R.b.length := by
  unfold RdS.optLeast
  cases t
  · simp
  · exact R.least_len most
theorem RdS.opt_0 (R : RdS) (t : Bool) (most : Int) : 0 ≤ (R.opt t most).1 ∧ (R.opt t most).1 ≤ max most 0 := by
  unfold RdS.opt
  cases t
  · simp; omega
  · exact R.num_0 most
theorem RdS.optLeast_0 (R : RdS) (t : Bool) (most : Int) : 0 ≤ (R.optLeast t most).1 ∧ (R.optLeast t most).1 ≤ max most 0 := by
  unfold RdS.optLeast
  cases t
  · simp; omega
  · exact R.least_0 most
def pA1 (b : List UInt8) : Int × RdS := (RdS.mk b 0).least 4
def pA2 (b : List UInt8) : Int × RdS := (pA1 b).2.least 72057594037927935
def pA3 (b : List UInt8) : Int × RdS := (pA2 b).2.opt (hasF (pA1 b).1 1) 15
def pA4 (b : List UInt8) : Int × RdS := (pA3 b).2.opt (hasF (pA1 b).1 2) 63
def pA5 (b : List UInt8) : Int × RdS := (pA4 b).2.opt (hasF (pA1 b).1 4) 7
def pA6 (b : List UInt8) : Int × RdS := (pA5 b).2.optLeast (hasF (pA1 b).1 8) 9
def pA7 (b : List UInt8) : Int × RdS := (pA6 b).2.optLeast (hasF (pA1 b).1 16) 16
def pA8 (b : List UInt8) : List ByteArray × RdS := (pA7 b).2.texts (pA7 b).1.toNat
def parseX (b : List UInt8) : RecS := ⟨(pA1 b).1, (pA2 b).1, (pA3 b).1, (pA4 b).1, (pA5 b).1, (pA6 b).1, (pA8 b).1⟩
def recZ : RecS := ⟨0, 0, 0, 0, 0, 0, []⟩
def parseE (b : List UInt8) : Int := (pA8 b).2.fin
def parseR (b : List UInt8) : RecS := if parseE b = 0 then parseX b else recZ
end Go.Proofs.YtkjncmmombkllaaGreat
/- A record's bytes are read as the record, and nothing else is: plain. -/
namespace Go.Proofs.YtkjncmmombkllaaGreat
open Go.RowKit

/-! ### ahead -/
theorem least_ahead {n : Int} {most : Int} (h0 : 1 ≤ n) (h1 : n ≤ most) (h2 : most ≤ 72057594037927935) (r : List UInt8) : (RdS.mk (numL (clampN n) ++ r) 0).least most = (n, ⟨r, 0⟩) := by
  unfold RdS.least
  rw [num_ahead (by omega) h1 h2]
  rw [if_neg (by simp only; omega)]
theorem opt_ahead {t : Bool} {n most : Int} (h : inB t n 0 most = true) (h2 : most ≤ 72057594037927935) (r : List UInt8) : (RdS.mk (optL t n ++ r) 0).opt t most = (n, ⟨r, 0⟩) := by
  unfold inB at h
  unfold RdS.opt optL
  cases t
  · simp at h
    simp [h]
  · simp at h
    simp only [if_true]
    exact num_ahead h.1 h.2 h2 r
theorem optLeast_ahead {t : Bool} {n most : Int} (h : inB t n 1 most = true) (h2 : most ≤ 72057594037927935) (r : List UInt8) : (RdS.mk (optL t n ++ r) 0).optLeast t most = (n, ⟨r, 0⟩) := by
  unfold inB at h
  unfold RdS.optLeast optL
  cases t
  · simp at h
    simp [h]
  · simp at h
    simp only [if_true]
    exact least_ahead h.1 h.2 h2 r
theorem parse_ahead {x : RecS} (hx : recOk x = true) (r : List UInt8) : parseX (recL x ++ r) = x ∧ (pA8 (recL x ++ r)).2 = ⟨r, 0⟩ := by
  obtain ⟨n1, n2⟩ := recOk_needs hx
  have hl : recL x = recHead x ++ x.needs.flatMap (fun s => textL s.data.toList) := by unfold recL; rw [if_pos hx]
  have hx2 := hx
  simp only [recOk, fieldsOk, Bool.and_eq_true, decide_eq_true_eq] at hx2
  obtain ⟨⟨⟨⟨⟨⟨⟨⟨k1, k2⟩, j1, j2⟩, ht⟩, hw⟩, hs⟩, he⟩, hn⟩, _⟩ := hx2
  have e0 : recL x ++ r = numL (clampN x.kind) ++ (numL (clampN x.job) ++ (optL (hasF x.kind 1) x.task ++ (optL (hasF x.kind 2) x.worker ++ (optL (hasF x.kind 4) x.sched ++ (optL (hasF x.kind 8) x.epoch ++ (optL (hasF x.kind 16) x.needs.length ++ (x.needs.flatMap (fun s => textL s.data.toList) ++ r))))))) := by
    rw [hl]; unfold recHead; simp only [List.append_assoc]
  obtain ⟨B, hB⟩ : ∃ B, B = recL x ++ r := ⟨_, rfl⟩
  rw [← hB] at e0 ⊢
  clear hB
  have a1 : pA1 B = _ := (congrArg (fun b => (RdS.mk b 0).least 4) e0).trans (least_ahead k1 k2 (by decide) _)
  have k0 : (pA1 B).1 = x.kind := by rw [a1]
  have a2 : pA2 B = _ := (congrArg (fun p : Int × RdS => p.2.least 72057594037927935) a1).trans (least_ahead j1 j2 (by decide) _)
  have a3 : pA3 B = _ := (show pA3 B = (pA2 B).2.opt (hasF x.kind 1) 15 by unfold pA3; rw [k0]).trans ((congrArg (fun p : Int × RdS => p.2.opt (hasF x.kind 1) 15) a2).trans (opt_ahead ht (by decide) _))
  have a4 : pA4 B = _ := (show pA4 B = (pA3 B).2.opt (hasF x.kind 2) 63 by unfold pA4; rw [k0]).trans ((congrArg (fun p : Int × RdS => p.2.opt (hasF x.kind 2) 63) a3).trans (opt_ahead hw (by decide) _))
  have a5 : pA5 B = _ := (show pA5 B = (pA4 B).2.opt (hasF x.kind 4) 7 by unfold pA5; rw [k0]).trans ((congrArg (fun p : Int × RdS => p.2.opt (hasF x.kind 4) 7) a4).trans (opt_ahead hs (by decide) _))
  have a6 : pA6 B = _ := (show pA6 B = (pA5 B).2.optLeast (hasF x.kind 8) 9 by unfold pA6; rw [k0]).trans ((congrArg (fun p : Int × RdS => p.2.optLeast (hasF x.kind 8) 9) a5).trans (optLeast_ahead he (by decide) _))
  have a7 : pA7 B = _ := (show pA7 B = (pA6 B).2.optLeast (hasF x.kind 16) 16 by unfold pA7; rw [k0]).trans ((congrArg (fun p : Int × RdS => p.2.optLeast (hasF x.kind 16) 16) a6).trans (optLeast_ahead hn (by decide) _))
  have a8 : pA8 B = (x.needs, ⟨r, 0⟩) := by unfold pA8; rw [a7]; exact texts_ahead x.needs r n2
  refine ⟨?_, by rw [a8]⟩
  unfold parseX
  rw [a1, a2, a3, a4, a5, a6, a8]
theorem parse_of_bytes {x : RecS} (hx : recOk x = true) : parseR (recL x) = x ∧ parseE (recL x) = 0 := by
  obtain ⟨h1, h2⟩ := parse_ahead hx []
  rw [List.append_nil] at h1 h2
  have he : parseE (recL x) = 0 := by unfold parseE; rw [h2]; rfl
  exact ⟨by unfold parseR; rw [if_pos he, h1], he⟩
theorem parse_longer {x : RecS} (hx : recOk x = true) (y : UInt8) (r : List UInt8) : parseE (recL x ++ y :: r) = 3 := by
  obtain ⟨_, h2⟩ := parse_ahead hx (y :: r)
  unfold parseE
  rw [h2]
  unfold RdS.fin
  simp

/-! ### back -/
theorem num_back {R : RdS} {most : Int} (hm : most ≤ 72057594037927935) (h : (R.num most).2.e = 0) : R.e = 0 ∧ R.b = numL (clampN (R.num most).1) ++ (R.num most).2.b := by
  unfold RdS.num at h ⊢
  split at h
  · rename_i h0; exact absurd h h0
  · rename_i h0
    split at h
    · rename_i h1; exact absurd h h1
    · rename_i h1
      rw [if_neg h0, if_neg h1]
      have h1 : (nextN R.b most).1 = 0 := by simpa using h1
      have h2 := nextN_canon h1
      obtain ⟨_, _, n3, n4, _⟩ := nextN_ok h1
      refine ⟨by simpa using h0, ?_⟩
      simp only
      rw [clampN_nat (by unfold maxNum; omega), ← h2, List.take_append_drop]
theorem fail_back {R : RdS} {e : Int} (he : e ≠ 0) (h : (R.fail e).e = 0) : False := by
  unfold RdS.fail at h
  split at h
  · exact he h
  · rename_i h1; exact h1 h
theorem least_back {R : RdS} {most : Int} (hm : most ≤ 72057594037927935) (hm0 : 0 ≤ most) (h : (R.least most).2.e = 0) : R.e = 0 ∧ R.b = numL (clampN (R.least most).1) ++ (R.least most).2.b ∧ 1 ≤ (R.least most).1 ∧ (R.least most).1 ≤ most := by
  have hb := R.num_0 most
  unfold RdS.least at h ⊢
  split at h
  · exact (fail_back (by decide) h).elim
  · rename_i h0
    rw [if_neg h0]
    obtain ⟨h1, h2⟩ := num_back hm h
    exact ⟨h1, h2, by omega, by omega⟩
theorem opt_back {R : RdS} {t : Bool} {most : Int} (hm : most ≤ 72057594037927935) (hm0 : 0 ≤ most) (h : (R.opt t most).2.e = 0) : R.e = 0 ∧ R.b = optL t (R.opt t most).1 ++ (R.opt t most).2.b ∧ inB t (R.opt t most).1 0 most = true := by
  have hb := R.num_0 most
  unfold RdS.opt optL inB at *
  cases t
  · simpa using h
  · simp only [if_true] at h ⊢
    obtain ⟨h1, h2⟩ := num_back hm h
    exact ⟨h1, h2, by rw [decide_eq_true_eq]; omega⟩
theorem optLeast_back {R : RdS} {t : Bool} {most : Int} (hm : most ≤ 72057594037927935) (hm0 : 0 ≤ most) (h : (R.optLeast t most).2.e = 0) : R.e = 0 ∧ R.b = optL t (R.optLeast t most).1 ++ (R.optLeast t most).2.b ∧ inB t (R.optLeast t most).1 1 most = true := by
  unfold RdS.optLeast optL inB at *
  cases t
  · simpa using h
  · simp only [if_true] at h ⊢
    obtain ⟨h1, h2, h3, h4⟩ := least_back hm hm0 h
    exact ⟨h1, h2, by rw [decide_eq_true_eq]; omega⟩
theorem text_back {R : RdS} {most : Int} (h0m : 0 ≤ most) (h : (R.text most).2.e = 0) : R.e = 0 ∧ R.b = textL (R.text most).1 ++ (R.text most).2.b ∧ ((R.text most).1.length : Int) ≤ most := by
  unfold RdS.text at h ⊢
  split at h
  · rename_i h0; exact absurd h h0
  · rename_i h0
    split at h
    · rename_i h1; exact absurd h h1
    · rename_i h1
      split at h
      · cases h
      · rename_i h2
        rw [if_neg h0, if_neg h1, if_neg h2]
        have h1 : (nextN R.b most).1 = 0 := by simpa using h1
        have h3 := nextN_canon h1
        obtain ⟨_, _, n3, n4, _⟩ := nextN_ok h1
        have hl : ((R.b.drop (nextN R.b most).2.2).take (nextN R.b most).2.1).length = (nextN R.b most).2.1 := by rw [List.length_take, List.length_drop]; omega
        refine ⟨by simpa using h0, ?_, ?_⟩
        · unfold textL
          simp only
          rw [hl, ← h3, List.append_assoc, ← List.drop_drop, List.take_append_drop, List.take_append_drop]
        · simp only
          rw [hl]
          omega
theorem texts_back {R : RdS} (k : Nat) (h : (R.texts k).2.e = 0) : R.e = 0 ∧ R.b = (R.texts k).1.flatMap (fun s => textL s.data.toList) ++ (R.texts k).2.b ∧ ∀ s ∈ (R.texts k).1, s.size ≤ 200 := by
  induction k with
  | zero => exact ⟨h, by simp [RdS.texts], by simp [RdS.texts]⟩
  | succ k ih =>
    simp only [RdS.texts] at h ⊢
    obtain ⟨h1, h2, h3⟩ := text_back (by decide) h
    obtain ⟨h4, h5, h6⟩ := ih h1
    refine ⟨h4, ?_, fun s hs => ?_⟩
    · rw [h5, List.flatMap_append, List.append_assoc]
      congr 1
      rw [h2]
      simp [mkB_data]
    · rcases List.mem_append.1 hs with hs | hs
      · exact h6 s hs
      · rw [List.mem_singleton] at hs
        subst hs
        rw [mkB_size]; omega
theorem parse_back {b : List UInt8} (h : parseE b = 0) : recOk (parseX b) = true ∧ recL (parseX b) = b := by
  unfold parseE RdS.fin at h
  have h8 : (pA8 b).2.e = 0 := by
    split at h
    · exact h
    · rename_i h1; simpa using h1
  have hb8 : (pA8 b).2.b = [] := by
    rw [if_neg (by simp [h8])] at h
    split at h
    · exact absurd h (by decide)
    · rename_i h1
      cases hq : (pA8 b).2.b with
      | nil => rfl
      | cons a l => rw [hq] at h1; simp at h1
  obtain ⟨e7, b7, n7⟩ := texts_back _ (show ((pA7 b).2.texts (pA7 b).1.toNat).2.e = 0 from h8)
  have l7 := ((pA7 b).2.texts_len (pA7 b).1.toNat).2
  obtain ⟨e6, b6, i6⟩ := optLeast_back (by decide) (by decide) (show ((pA6 b).2.optLeast (hasF (pA1 b).1 16) 16).2.e = 0 from e7)
  obtain ⟨e5, b5, i5⟩ := optLeast_back (by decide) (by decide) (show ((pA5 b).2.optLeast (hasF (pA1 b).1 8) 9).2.e = 0 from e6)
  obtain ⟨e4, b4, i4⟩ := opt_back (by decide) (by decide) (show ((pA4 b).2.opt (hasF (pA1 b).1 4) 7).2.e = 0 from e5)
  obtain ⟨e3, b3, i3⟩ := opt_back (by decide) (by decide) (show ((pA3 b).2.opt (hasF (pA1 b).1 2) 63).2.e = 0 from e4)
  obtain ⟨e2, b2, i2⟩ := opt_back (by decide) (by decide) (show ((pA2 b).2.opt (hasF (pA1 b).1 1) 15).2.e = 0 from e3)
  obtain ⟨e1, b1, i1, i1'⟩ := least_back (by decide) (by decide) (show ((pA1 b).2.least 72057594037927935).2.e = 0 from e2)
  obtain ⟨_, b0, i0, i0'⟩ := least_back (by decide) (by decide) (show ((RdS.mk b 0).least 4).2.e = 0 from e1)
  have p7 := (pA6 b).2.optLeast_0 (hasF (pA1 b).1 16) 16
  have hlen : ((pA8 b).1.length : Int) = (pA7 b).1 := by
    have : (pA8 b).1.length = (pA7 b).1.toNat := l7
    rw [this]
    have : 0 ≤ (pA7 b).1 := p7.1
    omega
  have hok : recOk (parseX b) = true := by
    simp only [recOk, fieldsOk, Bool.and_eq_true, decide_eq_true_eq, List.all_eq_true]
    refine ⟨⟨⟨⟨⟨⟨⟨⟨i0, i0'⟩, i1, i1'⟩, i2⟩, i3⟩, i4⟩, i5⟩, ?_⟩, fun s hs => ?_⟩
    · show inB (hasF (pA1 b).1 16) ((pA8 b).1.length : Int) 1 16 = true
      rw [hlen]; exact i6
    · have := n7 s hs; omega
  refine ⟨hok, ?_⟩
  unfold recL
  rw [if_pos hok]
  unfold recHead
  show numL (clampN (pA1 b).1) ++ numL (clampN (pA2 b).1) ++ optL (hasF (pA1 b).1 1) (pA3 b).1 ++ optL (hasF (pA1 b).1 2) (pA4 b).1 ++ optL (hasF (pA1 b).1 4) (pA5 b).1 ++ optL (hasF (pA1 b).1 8) (pA6 b).1 ++ optL (hasF (pA1 b).1 16) ((pA8 b).1.length : Int) ++ (pA8 b).1.flatMap (fun s => textL s.data.toList) = b
  rw [hlen]
  simp only [List.append_assoc]
  have c7 : (pA8 b).1.flatMap (fun s => textL s.data.toList) = (pA7 b).2.b := by
    have : (pA7 b).2.b = (pA8 b).1.flatMap (fun s => textL s.data.toList) ++ (pA8 b).2.b := b7
    rw [hb8, List.append_nil] at this
    exact this.symm
  rw [c7]
  have c6 : optL (hasF (pA1 b).1 16) (pA7 b).1 ++ (pA7 b).2.b = (pA6 b).2.b := b6.symm
  have c5 : optL (hasF (pA1 b).1 8) (pA6 b).1 ++ (pA6 b).2.b = (pA5 b).2.b := b5.symm
  have c4 : optL (hasF (pA1 b).1 4) (pA5 b).1 ++ (pA5 b).2.b = (pA4 b).2.b := b4.symm
  have c3 : optL (hasF (pA1 b).1 2) (pA4 b).1 ++ (pA4 b).2.b = (pA3 b).2.b := b3.symm
  have c2 : optL (hasF (pA1 b).1 1) (pA3 b).1 ++ (pA3 b).2.b = (pA2 b).2.b := b2.symm
  have c1 : numL (clampN (pA2 b).1) ++ (pA2 b).2.b = (pA1 b).2.b := b1.symm
  have c0 : numL (clampN (pA1 b).1) ++ (pA1 b).2.b = b := b0.symm
  rw [c6, c5, c4, c3, c2, c1, c0]
end Go.Proofs.YtkjncmmombkllaaGreat
