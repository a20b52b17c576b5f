import Derived.Test.YtkjncmmombkllaaGreatDiskO
import Derived.Test.YtkjncmmombkllaaGreatBase
namespace Go.Proofs.YtkjncmmombkllaaGreat
open Go.RowKit

/-! ### the document's disk: a string and two numbers in block g -/
def RefAt (w : World) (g : Nat) (R : DiskS) : Prop := w.heap[g]? = some (.cells #[.string (mkB R.b), .int .i64 R.room, .int .i64 R.fuse] 28 (0, 0))
def R16ok (R : DiskS) : Prop := 0 ≤ R.room ∧ R.room ≤ 65536 ∧ (R.b.length : Int) ≤ R.room
theorem RefAt.below {w w1 : World} {g : Nat} {R : DiskS} (h : RefAt w g R) (hb : Below w.heap.size w w1) : RefAt w1 g R := (hb.block g (Array.getElem?_eq_some_iff.1 h).1).trans h
theorem RefAt.mod {w w1 : World} {g : Nat} {R : DiskS} {F : Nat → Prop} (h : RefAt w g R) (hb : Mod F w w1) (hg : ¬ F g) : RefAt w1 g R := (hb.block g (Array.getElem?_eq_some_iff.1 h).1 hg).trans h
theorem RefAt.cells {w : World} {g : Nat} {R : DiskS} (h : RefAt w g R) : w.cell? ⟨g, 0, none⟩ = some (.string (mkB R.b)) ∧ w.cell? ⟨g, 1, none⟩ = some (.int .i64 R.room) ∧ w.cell? ⟨g, 2, none⟩ = some (.int .i64 R.fuse) ∧ (∀ j, w.frozen? ⟨g, j, none⟩ = false) ∧ g < w.heap.size := by
  have h1 := cells_of_block h
  exact ⟨h1.1 0 _ rfl, h1.1 1 _ rfl, h1.1 2 _ rfl, h1.2.1, h1.2.2⟩

set_option maxHeartbeats 800000 in
set_option maxRecDepth 100000 in
theorem r16New_calls (room : Int) (w : World) : Calls Tryz.prog 5 #[.int .i64 room] w fun e w' => e = .returned (.tuple #[.agg #[.string (mkB []), .int .i64 room, .int .i64 (-1)], .bool (decide (0 ≤ room) && decide (room ≤ 65536))]) ∧ Below w.heap.size w w' := by
  by_cases h0 : 0 ≤ room
  · go_enter Tryz.func5, Tryz.ntmps5
    go_wp2
    go_returns
    exact ⟨by rw [show (decide (0 ≤ room)) = true from decide_eq_true h0, Bool.true_and]; rfl, bAlloc (Below.refl _ _) _⟩
  · go_enter Tryz.func5, Tryz.ntmps5
    go_wp2
    go_returns
    exact ⟨by rw [show (decide (0 ≤ room)) = false from decide_eq_false (by omega), Bool.false_and]; rfl, bAlloc (Below.refl _ _) _⟩

set_option maxHeartbeats 1600000 in
set_option maxRecDepth 100000 in
theorem r16Append_calls (g : Nat) (R : DiskS) (x : List UInt8) (w : World) (h : RefAt w g R) (hok : R16ok R) (hx : x.length ≤ 140737488351232) : Calls Tryz.prog 9 #[.pointer (some ⟨g, 0, none⟩), .string (mkB x)] w fun e w' => e = .returned (.int .i64 (R.append x).2) ∧ RefAt w' g (R.append x).1 ∧ Mod (fun k => k = g) w w' := by
  obtain ⟨c0, c1, c2, hf, hg⟩ := h.cells
  obtain ⟨k1, k2, k3⟩ := hok
  have HH := hid h
  have f0 := hf 0
  have f2 := hf 2
  have s1 := mkB_size x
  have s2 := mkB_size R.b
  clear h hf
  by_cases hfull : (x.length : Int) > R.room - R.b.length
  · have hv := hid (show R.append x = (R, 7) by unfold DiskS.append; rw [if_pos hfull])
    go_enter Tryz.func9, Tryz.ntmps9
    go_wp2_with fail
    go_quiet (fail)
    go_wp2
    go_ret
    rw [hv.out]
    exact ⟨rfl, HH.out.below (below_drewN (Below.refl _ _) _), (Mod.refl _ _).drewN _⟩
  · by_cases hfu : 0 ≤ R.fuse
    · obtain ⟨q, hq⟩ : ∃ q : Nat, q = min R.fuse.toNat x.length := ⟨_, rfl⟩
      have hv := hid (show R.append x = (⟨R.b ++ x.take q, R.room, -1⟩, 14) by unfold DiskS.append; rw [if_neg hfull, if_pos hfu, hq])
      have t1 : ¬ 9223372036854775807 < R.b.length + x.length := by omega
      have t2 : ¬ 9223372036854775807 < R.b.length + min R.fuse.toNat x.length := by omega
      by_cases hqx : R.fuse > x.length
      · go_enter Tryz.func9, Tryz.ntmps9
        go_wp2_with fail
        go_quiet (fail)
        go_wp2_with fail
        refine wp_tail 11 (by kernel_rfl) (by kernel_rfl) ?_
        simp only [List.take_succ_cons, List.take_zero, List.drop_succ_cons, List.drop_zero]
        repeat (refine wpStill_step (fun K hK => ?_); go_simp; refine hK _ ?_; clear hK K)
        refine wpStill_nil ?_
        go_wp2
        go_ret
        rw [hv.out, mkB_extract, mkB_append]
        have hqe : q = x.length := by omega
        rw [Nat.sub_zero, List.drop_zero, ← hqe]
        exact ⟨rfl, heap_set (heap_set (HH.out.below (below_drewN (Below.refl _ _) _)) 0 _) 2 _, (((Mod.refl (fun k => k = g) _).drewN _).setCell (p := ⟨g, 0, none⟩) (fun _ => rfl) _).setCell (p := ⟨g, 2, none⟩) (fun _ => rfl) _⟩
      · have t3 : ¬ 9223372036854775807 < R.b.length + R.fuse.toNat := by omega
        have t4 : min R.fuse.toNat x.length = R.fuse.toNat := by omega
        go_enter Tryz.func9, Tryz.ntmps9
        go_wp2_with fail
        go_quiet (fail)
        go_wp2_with fail
        refine wp_tail 11 (by kernel_rfl) (by kernel_rfl) ?_
        simp only [List.take_succ_cons, List.take_zero, List.drop_succ_cons, List.drop_zero]
        repeat (refine wpStill_step (fun K hK => ?_); go_simp; refine hK _ ?_; clear hK K)
        refine wpStill_nil ?_
        go_wp2
        go_ret
        rw [hv.out, mkB_extract, mkB_append]
        have hqe : q = R.fuse.toNat := by omega
        rw [Nat.sub_zero, List.drop_zero, ← hqe]
        exact ⟨rfl, heap_set (heap_set (HH.out.below (below_drewN (Below.refl _ _) _)) 0 _) 2 _, (((Mod.refl (fun k => k = g) _).drewN _).setCell (p := ⟨g, 0, none⟩) (fun _ => rfl) _).setCell (p := ⟨g, 2, none⟩) (fun _ => rfl) _⟩
    · have hv := hid (show R.append x = (⟨R.b ++ x, R.room, R.fuse⟩, 0) by unfold DiskS.append; rw [if_neg hfull, if_neg hfu])
      have hfu' : R.fuse < 0 := by omega
      go_enter Tryz.func9, Tryz.ntmps9
      go_wp2_with fail
      go_quiet (fail)
      go_wp2
      go_ret
      rw [hv.out, mkB_append]
      exact ⟨rfl, heap_set (HH.out.below (below_drewN (Below.refl _ _) _)) 0 _, ((Mod.refl (fun k => k = g) _).drewN _).setCell (p := ⟨g, 0, none⟩) (fun _ => rfl) _⟩

set_option maxHeartbeats 800000 in
set_option maxRecDepth 100000 in
theorem r16Cut_calls (g : Nat) (R : DiskS) (n : Int) (w : World) (h : RefAt w g R) (hok : R16ok R) : Calls Tryz.prog 50 #[.pointer (some ⟨g, 0, none⟩), .int .i64 n] w fun e w' => e = .returned (.int .i64 (R.cut n).2) ∧ RefAt w' g (R.cut n).1 ∧ Mod (fun k => k = g) w w' := by
  obtain ⟨c0, c1, c2, hf, hg⟩ := h.cells
  obtain ⟨k1, k2, k3⟩ := hok
  have HH := hid h
  have f0 := hf 0
  have s2 := mkB_size R.b
  clear h hf c1 c2
  by_cases hcut : n < 0 ∨ n > R.b.length
  · have hv := hid (show R.cut n = (R, 6) by unfold DiskS.cut; rw [if_pos hcut])
    rcases hcut with hcut | hcut
    · go_enter Tryz.func50, Tryz.ntmps50
      go_wp2
      go_ret
      rw [hv.out]
      exact ⟨rfl, HH.out, Mod.refl _ _⟩
    · have h0 : ¬ n < 0 := by omega
      go_enter Tryz.func50, Tryz.ntmps50
      go_wp2
      go_ret
      rw [hv.out]
      exact ⟨rfl, HH.out, Mod.refl _ _⟩
  · have hv := hid (show R.cut n = (⟨R.b.take n.toNat, R.room, R.fuse⟩, 0) by unfold DiskS.cut; rw [if_neg hcut])
    obtain ⟨m, rfl⟩ : ∃ m : Nat, n = (m : Int) := ⟨n.toNat, by omega⟩
    have h1 : ¬ ((m : Int) > R.b.length) := by omega
    go_enter Tryz.func50, Tryz.ntmps50
    go_wp2
    go_ret
    rw [hv.out, mkB_extract]
    exact ⟨rfl, heap_set HH.out 0 _, (Mod.refl (fun k => k = g) _).setCell (p := ⟨g, 0, none⟩) (fun _ => rfl) _⟩
end Go.Proofs.YtkjncmmombkllaaGreat
