import Derived.Test.YtahhhnbpohcbfaaAnnal2
namespace Go.Proofs.Ytahhhnbpohcbfaa
open Go.RowKit Go.Lib

theorem recsS_again (b : List UInt8) : recsS (b.take (recsS b).2) = ((recsS b).1, (recsS b).2) := by
  obtain ⟨h1, h2, h3, _⟩ := recsS_bytes b
  rw [← h1, recsS_all _ h3, h1, List.length_take, Nat.min_eq_left h2]
theorem recsS_more (b : List UInt8) {x : RecS} (hx : recOk x = true) : recsS (b.take (recsS b).2 ++ putL (recL x)) = ((recsS b).1 ++ [x], (recsS b).2 + (putL (recL x)).length) := by
  obtain ⟨h1, h2, h3, _⟩ := recsS_bytes b
  have h4 : b.take (recsS b).2 ++ putL (recL x) = bytesS ((recsS b).1 ++ [x]) := by rw [bytesS_snoc, h1, if_pos hx]
  rw [h4, recsS_all _ (fun y hy => by
    rcases List.mem_append.1 hy with hy | hy
    · exact h3 y hy
    · rw [List.mem_singleton.1 hy]; exact hx), bytesS_snoc, if_pos hx, List.length_append, h1, List.length_take, Nat.min_eq_left h2]
theorem recsS_nil : recsS [] = ([], 0) := rfl

section
variable {w : World} {F : Nat → Prop} {ga gd : Nat} {D : DiskS} {l : List RecS} {down : Bool}
theorem pairFuse_calls (hp : Pair w F ga gd D l down) (n : Int) (hn : n ≤ 9223372036854775807) : Calls Try.prog 38 #[.pointer (some ⟨gd, 0, none⟩), .int .i64 n] w fun e w' => e = .returned (.tuple #[]) ∧ Pair w' F ga gd (D.burn n) l down ∧ Mod F w w' := by
  obtain ⟨T, TD, h1, h2, h3, h4, h5⟩ := hp
  exact (diskFuse_calls TD gd D n w hn h5).mono (fun e w' ⟨k1, k2, k3⟩ => ⟨k1, ⟨T, TD, h1, h2, h3, h4.move (fun k hk hT => k3.block k hk (h3 k hT)), k2⟩, k3.mono (fun k _ h => h2 k h)⟩)
theorem pairSize_calls (hp : Pair w F ga gd D l down) : Calls Try.prog 42 #[.pointer (some ⟨gd, 0, none⟩)] w fun e w' => e = .returned (.int .i64 D.b.length) ∧ w = w' := by
  obtain ⟨T, TD, h1, h2, h3, h4, h5⟩ := hp
  exact (diskSize_calls TD gd D w h5).mono (fun e w' h => ⟨h.1, h.2.symm⟩)
theorem pairBytes_calls (hp : Pair w F ga gd D l down) : Calls Try.prog 43 #[.pointer (some ⟨gd, 0, none⟩)] w fun e w' =>
    ∃ A c, e = .returned (.slice (some ⟨A, 0, none⟩) D.b.length c) ∧ w.heap.size ≤ A ∧ Own Kd.u8 5 w' w.heap.size (fun _ => False) (.slice (some ⟨A, 0, none⟩) D.b.length c) D.b ∧ Below w.heap.size w w' := by
  obtain ⟨T, TD, h1, h2, h3, h4, h5⟩ := hp
  exact diskBytes_calls TD gd D w h5
theorem pairDown_calls (hp : Pair w F ga gd D l down) : Calls Try.prog 40 #[.pointer (some ⟨ga, 0, none⟩)] w fun e w' => e = .returned (.bool down) ∧ w = w' := by
  obtain ⟨T, TD, h1, h2, h3, h4, h5⟩ := hp
  exact anDown_calls w T ga gd l down h4
theorem pairLen_calls (hp : Pair w F ga gd D l down) : Calls Try.prog 49 #[.pointer (some ⟨ga, 0, none⟩)] w fun e w' => e = .returned (.int .i64 l.length) ∧ w = w' := by
  obtain ⟨T, TD, h1, h2, h3, h4, h5⟩ := hp
  exact anLen_calls w T ga gd l down h4
theorem pairRecords_calls (hp : Pair w F ga gd D l down) (hno : ∀ x ∈ l, recOk x = true) : Calls Try.prog 39 #[.pointer (some ⟨ga, 0, none⟩)] w fun e w' => ∃ A n c, e = .returned (.slice A n c) ∧ Own Kd.recK 24 w' w.heap.size (fun k => w.heap.size ≤ k) (.slice A n c) l ∧ Below w.heap.size w w' := by
  obtain ⟨T, TD, h1, h2, h3, h4, h5⟩ := hp
  exact anRecords_calls w T ga gd l down h4 (fun x hx => by have := (recOk_needs (hno x hx)).1; omega)
/-- Opened again: the one that was stays as it is. -/
theorem pairOpen_calls (hp : Pair w F ga gd D l down) : Calls Try.prog 36 #[.pointer (some ⟨gd, 0, none⟩)] w fun e w' => ∃ gb, e = .returned (.pointer (some ⟨gb, 0, none⟩)) ∧ Pair w' F ga gd ⟨D.b.take (recsS D.b).2, D.room, D.fuse⟩ l down ∧ Pair w' (fun k => F k ∨ w.heap.size ≤ k) gb gd ⟨D.b.take (recsS D.b).2, D.room, D.fuse⟩ (recsS D.b).1 false ∧ Mod F w w' := by
  obtain ⟨T, TD, h1, h2, h3, h4, h5⟩ := hp
  refine (anOpen_calls TD gd D w h5).mono ?_
  rintro e w' ⟨gb, k1, k2, k3, k4⟩
  exact ⟨gb, k1, ⟨T, fun k => TD k ∧ k < w.heap.size, h1, fun k h => h2 k h.1, fun k a b => h3 k a b.1, h4.move (fun k hk hT => k4.block k hk (h3 k hT)), k3⟩,
    ⟨fun k => w.heap.size ≤ k, fun k => TD k ∧ k < w.heap.size, fun k h => .inr h, fun k h => .inl (h2 k h.1), fun k a b => by omega, k2, k3⟩, k4.mono (fun k _ h => h2 k h)⟩
end
/-- The first annal over a disk. -/
theorem firstOpen_calls {w : World} {TD : Nat → Prop} {gd : Nat} {D : DiskS} (hd : DiskAt w TD gd D) : Calls Try.prog 36 #[.pointer (some ⟨gd, 0, none⟩)] w fun e w' => ∃ gb, e = .returned (.pointer (some ⟨gb, 0, none⟩)) ∧ Pair w' (fun k => TD k ∨ w.heap.size ≤ k) gb gd ⟨D.b.take (recsS D.b).2, D.room, D.fuse⟩ (recsS D.b).1 false ∧ Mod TD w w' := by
  refine (anOpen_calls TD gd D w hd).mono ?_
  rintro e w' ⟨gb, k1, k2, k3, k4⟩
  exact ⟨gb, k1, ⟨fun k => w.heap.size ≤ k, fun k => TD k ∧ k < w.heap.size, fun k h => .inr h, fun k h => .inl h.1, fun k a b => by omega, k2, k3⟩, k4⟩

theorem wApp : anApp ⟨[], 100, 7⟩ [] false recW = (⟨(putL (recL recW)).take 7, 100, -1⟩, [], true, 14) := by decide +kernel
theorem wRec : recsS ((putL (recL recW)).take 7) = ([], 0) := by decide +kernel
set_option maxHeartbeats 3200000 in
set_option maxRecDepth 100000 in
theorem works19_calls (w : World) : Calls Try.prog 34 #[] w fun e w' => e = .returned (.bool true) ∧ Below w.heap.size w w' := by
  go_enter Try.func34, Try.ntmps34
  go_wp2_with fail
  refine (diskNew_yes 100 _ (by decide) (by decide)).mono ?_
  rintro e w1 ⟨rfl, hd1, hb1⟩
  have HD1 := hid hd1
  have HB1 := hid hb1
  clear hd1 hb1
  go_wp2_with fail
  refine (firstOpen_calls HD1.out).mono ?_
  rintro e w2 ⟨ga, rfl, hp2, hm2⟩
  rw [recsS_nil] at hp2
  have HP2 := hid (hp2.mono (F' := fun k => w.heap.size ≤ k) (fun k _ h => h.elim id (fun h => Nat.le_trans HB1.out.size h)))
  have HM2 := hid ((Mod.of_below (F := fun k => w.heap.size ≤ k) HB1.out).trans hm2 (fun _ _ h => h))
  clear hp2 hm2
  go_wp2_with fail
  refine (pairFuse_calls HP2.out 7 (by decide)).mono ?_
  rintro e w3 ⟨rfl, hp3, hm3⟩
  have HP3 := hid (show Pair w3 (fun k => w.heap.size ≤ k) ga w.heap.size ⟨[], 100, 7⟩ [] false from hp3)
  have HM3 := hid (HM2.out.trans hm3 (fun _ _ h => h))
  clear hp3 hm3
  go_wp2_with fail
  refine (anAppend_calls _ ga w.heap.size _ [] false _ HP3.out recW none 0 0 (nilK _ _) (by simp)).mono ?_
  rintro e w4 ⟨rfl, hp4, hm4⟩
  rw [wApp] at hp4 ⊢
  have s3 := HM3.out.size
  have HP4 := hid (hp4.mono (F' := fun k => w.heap.size ≤ k) (fun k _ h => h.elim id (fun h => Nat.le_trans s3 h)))
  have HM4 := hid (HM3.out.trans hm4 (fun _ _ h => h))
  clear hp4 hm4
  go_wp2_with fail
  refine (pairOpen_calls HP4.out).mono ?_
  rintro e w5 ⟨gb, rfl, hp5, hq5, hm5⟩
  rw [wRec] at hp5 hq5
  have HP5 := hid hp5
  have HQ5 := hid hq5
  have HM5 := hid (HM4.out.trans hm5 (fun _ _ h => h))
  clear hp5 hq5 hm5
  go_wp2_with fail
  refine (pairDown_calls HP5.out).mono ?_
  rintro e w' ⟨rfl, rfl⟩
  go_wp2_with fail
  refine (pairDown_calls HQ5.out).mono ?_
  rintro e w' ⟨rfl, rfl⟩
  go_wp2_with fail
  refine (pairLen_calls HQ5.out).mono ?_
  rintro e w' ⟨rfl, rfl⟩
  go_wp2_with fail
  refine (pairSize_calls HQ5.out).mono ?_
  rintro e w' ⟨rfl, rfl⟩
  go_wp2
  go_ret
  exact ⟨rfl, HM5.out.below (fun k _ h => h) (Nat.le_refl _)⟩
end Go.Proofs.Ytahhhnbpohcbfaa
