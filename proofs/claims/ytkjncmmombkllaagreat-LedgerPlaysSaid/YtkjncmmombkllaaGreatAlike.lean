/- Two disks that are alike. -/
import Derived.Test.YtkjncmmombkllaaGreatRef19
import Derived.Test.YtkjncmmombkllaaGreatOpens2
namespace Go.Proofs.YtkjncmmombkllaaGreat
open Go.RowKit Go.Lib


def Alike (D R : DiskS) : Prop := D.b = R.b ∧ D.room = R.room ∧ D.fuse = max R.fuse (-1)
theorem Alike.app {D R : DiskS} (h : Alike D R) (x : List UInt8) : (D.append x).2 = (R.append x).2 ∧ Alike (D.append x).1 (R.append x).1 := by
  obtain ⟨db, dr, df⟩ := D
  obtain ⟨rb, rr, rf⟩ := R
  obtain ⟨h1, h2, h3⟩ := h
  simp only at h1 h2 h3
  subst h1 h2 h3
  unfold DiskS.append
  simp only
  split
  · exact ⟨rfl, rfl, rfl, rfl⟩
  · by_cases h : 0 ≤ rf
    · rw [if_pos (by omega), if_pos h, show (max rf (-1)) = rf by omega]
      exact ⟨rfl, rfl, rfl, rfl⟩
    · rw [if_neg (by omega), if_neg h]
      exact ⟨rfl, rfl, rfl, rfl⟩
theorem Alike.cut {D R : DiskS} (h : Alike D R) (n : Int) : (D.cut n).2 = (R.cut n).2 ∧ Alike (D.cut n).1 (R.cut n).1 := by
  obtain ⟨db, dr, df⟩ := D
  obtain ⟨rb, rr, rf⟩ := R
  obtain ⟨h1, h2, h3⟩ := h
  simp only at h1 h2 h3
  subst h1 h2 h3
  unfold DiskS.cut
  simp only
  split <;> exact ⟨rfl, rfl, rfl, rfl⟩
theorem Alike.burn {D R : DiskS} (h : Alike D R) (n : Int) : Alike (D.burn n) ⟨R.b, R.room, n⟩ := ⟨h.1, h.2.1, rfl⟩
theorem Alike.ok {D R : DiskS} (h : Alike D R) (k : D.ok) : R16ok R := by
  obtain ⟨h1, h2, h3⟩ := h
  obtain ⟨k1, k2, k3, k4⟩ := k
  exact ⟨by rw [← h2]; omega, by rw [← h2]; omega, by rw [← h2, ← h1]; omega⟩
theorem i64_hi2 {n : Int} (h : (Lit.int .i64 n).wf = true) : n ≤ 9223372036854775807 := by
  simp [Lit.wf, IntKind.min, IntKind.max, IntKind.bits, IntKind.signed] at h
  omega

theorem Pair.move {w w1 : World} {F : Nat → Prop} {ga gd : Nat} {D : DiskS} {l : List RecS} {down : Bool} (h : Pair w F ga gd D l down) (hm : ∀ k, k < w.heap.size → F k → w1.heap[k]? = w.heap[k]?) : Pair w1 F ga gd D l down := by
  obtain ⟨T, TD, h1, h2, h3, h4, h5⟩ := h
  exact ⟨T, TD, h1, h2, h3, h4.move (fun k hk hT => hm k hk (h1 k hT)), h5.move (fun k hk hT => hm k hk (h2 k hT))⟩
theorem Pair.ok {w : World} {F : Nat → Prop} {ga gd : Nat} {D : DiskS} {l : List RecS} {down : Bool} (h : Pair w F ga gd D l down) : D.ok := by
  obtain ⟨T, TD, h1, h2, h3, h4, h5⟩ := h
  exact h5.1
theorem anApp_alike {D R : DiskS} (h : Alike D R) (l : List RecS) (down : Bool) (x : RecS) : (anApp D l down x).2 = (anApp R l down x).2 ∧ Alike (anApp D l down x).1 (anApp R l down x).1 := by
  obtain ⟨h1, h2⟩ := h.app (putL (recL x))
  unfold anApp
  split
  · split
    · exact ⟨rfl, h⟩
    · exact ⟨by rw [h1], h2⟩
  · exact ⟨rfl, h⟩
theorem anApp_ok {D : DiskS} {l : List RecS} {down : Bool} {x : RecS} (h : ∀ y ∈ l, recOk y = true) : (∀ y ∈ (anApp D l down x).2.1, recOk y = true) ∧ (anApp D l down x).2.1.length ≤ l.length + 1 := by
  unfold anApp
  split
  · rename_i hx
    split
    · exact ⟨h, by simp⟩
    · simp only
      split
      · exact ⟨fun y hy => by
          rcases List.mem_append.1 hy with hy | hy
          · exact h y hy
          · rw [List.mem_singleton.1 hy]; exact hx, by simp⟩
      · exact ⟨h, by simp⟩
  · exact ⟨h, by simp⟩
end Go.Proofs.YtkjncmmombkllaaGreat
