import Derived.Test.YtkjncmmombkllaaGreatDisk
import Derived.Test.YtkjncmmombkllaaGreatBase
import Derived.OwnWalk
import Derived.Deep.RegionHeld3
namespace Go.Proofs.YtkjncmmombkllaaGreat
open Go.RowKit

set_option maxHeartbeats 800000 in
set_option maxRecDepth 100000 in
theorem diskBytes_calls (T : Nat → Prop) (g : Nat) (D : DiskS) (w : World) (hd : DiskAt w T g D) : Calls Tryz.prog 12 #[.pointer (some ⟨g, 0, none⟩)] w fun e w' =>
    ∃ A c, e = .returned (.slice (some ⟨A, 0, none⟩) D.b.length c) ∧ w.heap.size ≤ A ∧ Own Kd.u8 5 w' w.heap.size (fun _ => False) (.slice (some ⟨A, 0, none⟩) D.b.length c) D.b ∧ Below w.heap.size w w' := by
  obtain ⟨⟨k1, k2, k3, k4⟩, hT, hg, A, c, hc, c0, c1, c2, hf, _, hO, _⟩ := hd.cells
  have HF := hid hf
  clear hf hd c1 c2
  have hl : D.b.length ≤ 140737488355328 := by omega
  obtain ⟨q, hq⟩ : ∃ q, D.b.length = q := ⟨_, rfl⟩
  have HQ := hid hq
  rw [hq] at hl c0
  go_enter Tryz.func12, Tryz.ntmps12
  go_wp2_with (at_make; go_must (refine make_arm Kd.u8 w.heap.size w.heap.size rfl _ _ 23 5 rfl (.int .u8 0) (0 : UInt8) 1 Tryz.underlying23 Tryz.infoU8 rfl rfl (fun _ _ => rfl) q q rfl rfl rfl (by omega) hl (Below.refl w.heap.size w) (Nat.le_refl _) (Nat.le_refl _) (fun _ => False) ?_))
  intro w1 hO1 hb1 hg1
  have d0 : w1.cell? ⟨g, 0, none⟩ = some (.slice A q c) := ((bcell hb1).1 g 0 hg).trans c0
  have hg2 := Nat.lt_of_lt_of_le hg hb1.size
  have hrow : Kd.u8.Row w1 (fun _ => True) A D.b := by
    obtain ⟨A', n', h1, _, _, h2⟩ := (hO.below hb1).K
    cases h1
    exact h2.mono (fun _ _ _ => trivial)
  obtain ⟨w2, hrun, hO2, hg3⟩ := Own.copy_run (P := Tryz.prog) (dT := 23) (sT := 23) (ty := 3) (dp := some ⟨w.heap.size, 0, none⟩) (A := A) (dLen := q) (dCap := q) (sLen := q) (sCap := c) (k := 0) (m := q) (Tp := fun _ => False) Tryz.underlying23 Tryz.infoU8 hO1 (by simp) (by simp [Nat.min_def]) hq (by omega) (fun _ => by simp) hrow (fun _ _ h => h) (fun _ h => h.elim)
  have hb2 := hb1.grown hg3 hb1.size (fun k hk => by cases hk; exact Nat.le_refl _)
  clear hg3 hrow hO1 hg1 hO
  go_wp2
  go_ret
  rw [HQ.out]
  exact ⟨w.heap.size, q, rfl, Nat.le_refl _, by simpa [HQ.out] using hO2, hb2⟩

def DiskS.burn (D : DiskS) (n : Int) : DiskS := ⟨D.b, D.room, max n (-1)⟩
set_option maxHeartbeats 800000 in
set_option maxRecDepth 100000 in
theorem diskFuse_calls (T : Nat → Prop) (g : Nat) (D : DiskS) (n : Int) (w : World) (hn : n ≤ 9223372036854775807) (hd : DiskAt w T g D) : Calls Tryz.prog 15 #[.pointer (some ⟨g, 0, none⟩), .int .i64 n] w fun e w' => e = .returned (.tuple #[]) ∧ DiskAt w' T g (D.burn n) ∧ Mod T w w' := by
  have hc := hid hd.cells
  obtain ⟨⟨k1, k2, k3, k4⟩, hT, hg, A, c, hc, c0, c1, c2, hf, hh, hO, hne⟩ := hd.cells
  have HH := hid hh
  have HNE := hid hne
  have hff := hf 2
  clear hf hd c0 c1 hh hne
  go_enter Tryz.func15, Tryz.ntmps15
  go_wp2
  go_end0
  refine ⟨rfl, ⟨⟨k1, k2, ?_, ?_⟩, hT, _, heap_set HH.out 2 _, hO.setCell (p := ⟨g, 2, none⟩) (fun h => h) (fun e => (HNE.out g e).2 rfl) _, HNE.out⟩, (Mod.refl T w).setCell (p := ⟨g, 2, none⟩) (fun _ => hT) _⟩
  all_goals (simp only [DiskS.burn]; omega)

def DiskS.cut (D : DiskS) (n : Int) : DiskS × Int := if n < 0 ∨ n > D.b.length then (D, 6) else (⟨D.b.take n.toNat, D.room, D.fuse⟩, 0)
set_option maxHeartbeats 800000 in
set_option maxRecDepth 100000 in
theorem diskCut_calls (T : Nat → Prop) (g : Nat) (D : DiskS) (n : Int) (w : World) (hd : DiskAt w T g D) : Calls Tryz.prog 47 #[.pointer (some ⟨g, 0, none⟩), .int .i64 n] w fun e w' => e = .returned (.int .i64 (D.cut n).2) ∧ DiskAt w' T g (D.cut n).1 ∧ Mod T w w' := by
  have HDK := hid hd
  obtain ⟨⟨k1, k2, k3, k4⟩, hT, hg, A, c, hc, c0, c1, c2, hf, hh, hO, hne⟩ := hd.cells
  have HH := hid hh
  have HNE := hid hne
  have hff := hf 0
  clear hf hd c1 c2 hh hne
  by_cases hcut : n < 0 ∨ n > D.b.length
  · have hv := hid (show D.cut n = (D, 6) by unfold DiskS.cut; rw [if_pos hcut])
    rcases hcut with hcut | hcut
    · go_enter Tryz.func47, Tryz.ntmps47
      go_wp2
      go_ret
      rw [hv.out]
      exact ⟨rfl, HDK.out, Mod.refl _ _⟩
    · have h0 : ¬ n < 0 := by omega
      go_enter Tryz.func47, Tryz.ntmps47
      go_wp2
      go_ret
      rw [hv.out]
      exact ⟨rfl, HDK.out, Mod.refl _ _⟩
  · have hv := hid (show D.cut n = (⟨D.b.take n.toNat, D.room, D.fuse⟩, 0) by unfold DiskS.cut; rw [if_neg hcut])
    obtain ⟨m, rfl⟩ : ∃ m : Nat, n = (m : Int) := ⟨n.toNat, by omega⟩
    have h1 : ¬ ((m : Int) > D.b.length) := by omega
    go_enter Tryz.func47, Tryz.ntmps47
    go_wp2
    go_ret
    have hmn : m ≤ D.b.length := by omega
    rw [hv.out]
    have hne1 : ∀ k, (Value.slice A m m).ownBlock = some k → T k ∧ k ≠ g := fun k hk => HNE.out k (by cases A <;> exact hk)
    refine ⟨rfl, ⟨⟨?_, k2, k3, k4⟩, hT, _, heap_set HH.out 0 _, (hO.cut m hmn rfl).setCell (p := ⟨g, 0, none⟩) (fun h => h) (fun e => (hne1 g e).2 rfl) _, hne1⟩, (Mod.refl T w).setCell (p := ⟨g, 0, none⟩) (fun _ => hT) _⟩
    simp only [List.length_take, Int.toNat_natCast]; omega

end Go.Proofs.YtkjncmmombkllaaGreat
