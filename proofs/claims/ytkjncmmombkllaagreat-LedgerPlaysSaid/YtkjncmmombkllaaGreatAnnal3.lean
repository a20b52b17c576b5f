import Derived.Test.YtkjncmmombkllaaGreatAnnal2
namespace Go.Proofs.YtkjncmmombkllaaGreat
open Go.RowKit Go.Lib

theorem recsS_again (b : List UInt8) : recsS (b.take (recsS b).2) = ((recsS b).1, (recsS b).2) := by
  obtain ⟨h1, h2, h3, _⟩ := recsS_bytes b
  rw [← h1, recsS_all _ h3, h1, List.length_take, Nat.min_eq_left h2]
theorem recsS_more (b : List UInt8) {x : RecS} (hx : recOk x = true) : recsS (b.take (recsS b).2 ++ putL (recL x)) = ((recsS b).1 ++ [x], (recsS b).2 + (putL (recL x)).length) := by
  obtain ⟨h1, h2, h3, _⟩ := recsS_bytes b
  have h4 : b.take (recsS b).2 ++ putL (recL x) = bytesS ((recsS b).1 ++ [x]) := by rw [bytesS_snoc, h1, if_pos hx]
  rw [h4, recsS_all _ (fun y hy => by
    rcases List.mem_append.1 hy with hy | hy
    · exact h3 y hy
    · rw [List.mem_singleton.1 hy]; exact hx), bytesS_snoc, if_pos hx, List.length_append, h1, List.length_take, Nat.min_eq_left h2]
theorem recsS_nil : recsS [] = ([], 0) := rfl

section
variable {w : World} {F : Nat → Prop} {ga gd : Nat} {D : DiskS} {l : List RecS} {down : Bool}
theorem pairFuse_calls (hp : Pair w F ga gd D l down) (n : Int) (hn : n ≤ 9223372036854775807) : Calls Tryz.prog 15 #[.pointer (some ⟨gd, 0, none⟩), .int .i64 n] w fun e w' => e = .returned (.tuple #[]) ∧ Pair w' F ga gd (D.burn n) l down ∧ Mod F w w' := by
  obtain ⟨T, TD, h1, h2, h3, h4, h5⟩ := hp
  exact (diskFuse_calls TD gd D n w hn h5).mono (fun e w' ⟨k1, k2, k3⟩ => ⟨k1, ⟨T, TD, h1, h2, h3, h4.move (fun k hk hT => k3.block k hk (h3 k hT)), k2⟩, k3.mono (fun k _ h => h2 k h)⟩)
theorem pairBytes_calls (hp : Pair w F ga gd D l down) : Calls Tryz.prog 12 #[.pointer (some ⟨gd, 0, none⟩)] w fun e w' =>
    ∃ A c, e = .returned (.slice (some ⟨A, 0, none⟩) D.b.length c) ∧ w.heap.size ≤ A ∧ Own Kd.u8 5 w' w.heap.size (fun _ => False) (.slice (some ⟨A, 0, none⟩) D.b.length c) D.b ∧ Below w.heap.size w w' := by
  obtain ⟨T, TD, h1, h2, h3, h4, h5⟩ := hp
  exact diskBytes_calls TD gd D w h5
theorem pairDown_calls (hp : Pair w F ga gd D l down) : Calls Tryz.prog 51 #[.pointer (some ⟨ga, 0, none⟩)] w fun e w' => e = .returned (.bool down) ∧ w = w' := by
  obtain ⟨T, TD, h1, h2, h3, h4, h5⟩ := hp
  exact anDown_calls w T ga gd l down h4
theorem pairLen_calls (hp : Pair w F ga gd D l down) : Calls Tryz.prog 44 #[.pointer (some ⟨ga, 0, none⟩)] w fun e w' => e = .returned (.int .i64 l.length) ∧ w = w' := by
  obtain ⟨T, TD, h1, h2, h3, h4, h5⟩ := hp
  exact anLen_calls w T ga gd l down h4
theorem pairRecords_calls (hp : Pair w F ga gd D l down) (hno : ∀ x ∈ l, recOk x = true) : Calls Tryz.prog 28 #[.pointer (some ⟨ga, 0, none⟩)] w fun e w' => ∃ A n c, e = .returned (.slice A n c) ∧ Own Kd.recK 46 w' w.heap.size (fun k => w.heap.size ≤ k) (.slice A n c) l ∧ Below w.heap.size w w' := by
  obtain ⟨T, TD, h1, h2, h3, h4, h5⟩ := hp
  exact anRecords_calls w T ga gd l down h4 (fun x hx => by have := (recOk_needs (hno x hx)).1; omega)
/-- Opened again: the one that was stays as it is. -/
theorem pairOpen_calls (hp : Pair w F ga gd D l down) : Calls Tryz.prog 27 #[.pointer (some ⟨gd, 0, none⟩)] w fun e w' => ∃ gb, e = .returned (.pointer (some ⟨gb, 0, none⟩)) ∧ Pair w' F ga gd ⟨D.b.take (recsS D.b).2, D.room, D.fuse⟩ l down ∧ Pair w' (fun k => F k ∨ w.heap.size ≤ k) gb gd ⟨D.b.take (recsS D.b).2, D.room, D.fuse⟩ (recsS D.b).1 false ∧ Mod F w w' := by
  obtain ⟨T, TD, h1, h2, h3, h4, h5⟩ := hp
  refine (anOpen_calls TD gd D w h5).mono ?_
  rintro e w' ⟨gb, k1, k2, k3, k4⟩
  exact ⟨gb, k1, ⟨T, fun k => TD k ∧ k < w.heap.size, h1, fun k h => h2 k h.1, fun k a b => h3 k a b.1, h4.move (fun k hk hT => k4.block k hk (h3 k hT)), k3⟩,
    ⟨fun k => w.heap.size ≤ k, fun k => TD k ∧ k < w.heap.size, fun k h => .inr h, fun k h => .inl (h2 k h.1), fun k a b => by omega, k2, k3⟩, k4.mono (fun k _ h => h2 k h)⟩
end
/-- The first annal over a disk. -/
theorem firstOpen_calls {w : World} {TD : Nat → Prop} {gd : Nat} {D : DiskS} (hd : DiskAt w TD gd D) : Calls Tryz.prog 27 #[.pointer (some ⟨gd, 0, none⟩)] w fun e w' => ∃ gb, e = .returned (.pointer (some ⟨gb, 0, none⟩)) ∧ Pair w' (fun k => TD k ∨ w.heap.size ≤ k) gb gd ⟨D.b.take (recsS D.b).2, D.room, D.fuse⟩ (recsS D.b).1 false ∧ Mod TD w w' := by
  refine (anOpen_calls TD gd D w hd).mono ?_
  rintro e w' ⟨gb, k1, k2, k3, k4⟩
  exact ⟨gb, k1, ⟨fun k => w.heap.size ≤ k, fun k => TD k ∧ k < w.heap.size, fun k h => .inr h, fun k h => .inl h.1, fun k a b => by omega, k2, k3⟩, k4⟩

theorem wApp : anApp ⟨[], 100, 7⟩ [] false recW = (⟨(putL (recL recW)).take 7, 100, -1⟩, [], true, 14) := by decide +kernel
theorem wRec : recsS ((putL (recL recW)).take 7) = ([], 0) := by decide +kernel
end Go.Proofs.YtkjncmmombkllaaGreat
