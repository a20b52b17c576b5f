import Derived.Test.YtkjncmmombkllaaGreatRecS
namespace Go.Proofs.YtkjncmmombkllaaGreat
open Go.RowKit

theorem numL_1 {n : Int} (h0 : 0 ≤ n) (h : n < 248) : (numL (clampN n)).length = 1 := by
  unfold numL
  rw [if_pos (by unfold clampN; omega)]; rfl
theorem optL_in {t : Bool} {n lo hi : Int} (h : inB t n lo hi = true) (h0 : 0 ≤ lo) (h1 : hi < 248) : (optL t n).length = if t then 1 else 0 := by
  cases t
  · rfl
  · simp only [inB, if_true, decide_eq_true_eq] at h
    exact numL_1 (by omega) (by omega)
theorem hasF_16 {k : Int} (h : 1 ≤ k ∧ k ≤ 4) (h1 : k ≠ 1) : hasF k 16 = false := by
  have : k = 2 ∨ k = 3 ∨ k = 4 := by omega
  rcases this with rfl | rfl | rfl <;> decide +kernel
theorem recL_same {x y : RecS} (hx : recOk x = true) (hy : recOk y = true) (hk : x.kind = y.kind) (hj : x.job = y.job) (h1 : x.kind ≠ 1) : (recL x).length = (recL y).length := by
  have key : ∀ z : RecS, recOk z = true → z.kind = x.kind → z.job = x.job → (recL z).length = (numL (clampN x.kind)).length + (numL (clampN x.job)).length + (if hasF x.kind 1 then 1 else 0) + (if hasF x.kind 2 then 1 else 0) + (if hasF x.kind 4 then 1 else 0) + (if hasF x.kind 8 then 1 else 0) := by
    intro z hz ek ej
    have hz' := hz
    simp only [recOk, Bool.and_eq_true, decide_eq_true_eq, fieldsOk] at hz'
    obtain ⟨⟨⟨⟨⟨⟨⟨h2, h3⟩, h4⟩, h5⟩, h6⟩, h7⟩, h8⟩, h9⟩ := hz'
    have h10 : hasF z.kind 16 = false := hasF_16 h2 (by rw [ek]; exact h1)
    rw [h10] at h8
    have h11 : z.needs = [] := by
      simp [inB] at h8
      exact h8
    unfold recL
    rw [if_pos hz, h11]
    unfold recHead
    rw [h11, h10]
    have e16 : (optL false ((([] : List ByteArray).length : Nat) : Int)).length = 0 := rfl
    rw [ek] at h4 h5 h6 h7
    have e4 := optL_in h4 (by decide) (by decide)
    have e5 := optL_in h5 (by decide) (by decide)
    have e6 := optL_in h6 (by decide) (by decide)
    have e7 := optL_in h7 (by decide) (by decide)
    rw [ek, ej, List.flatMap_nil, List.append_nil]
    simp only [List.length_append, e4, e5, e6, e7]
    rw [e16, Nat.add_zero]
  rw [key x hx rfl rfl, key y hy hk.symm hj.symm]
theorem putL_same {a b : List UInt8} (h : a.length = b.length) : (putL a).length = (putL b).length := by
  unfold putL
  rw [h]
  split
  · rfl
  · simp [sealL, textL, four, h]
theorem sizeR_same {x y : RecS} (hx : recOk x = true) (hy : recOk y = true) (hk : x.kind = y.kind) (hj : x.job = y.job) (h1 : x.kind ≠ 1) : sizeR x = sizeR y := by
  unfold sizeR
  rw [hx, hy]
  simp only [if_true]
  rw [putL_same (recL_same hx hy hk hj h1)]

end Go.Proofs.YtkjncmmombkllaaGreat
