import Derived.Test.YtlckkcefkiffjaaDisk2
import Derived.Test.YtlckkcefkiffjaaBox
import Derived.Deep.RegionWith
namespace Go.Proofs.Ytlckkcefkiffjaa
open Go.RowKit

theorem DiskAt.narrow {w : World} {T : Nat → Prop} {g : Nat} {D : DiskS} (h : DiskAt w T g D) : DiskAt w (fun k => T k ∧ k < w.heap.size) g D := h.mono (fun _ h1 h2 => ⟨h2, h1⟩)

theorem run_make_u8 (n : Nat) (hn : n ≤ 100000) (W : World) : (Instr.makeSlice 42 (.int .i64 (n : Int)) (.int .i64 (n : Int))).run Try.prog W = .ok (.slice (some ⟨W.heap.size, 0, none⟩) n n) (W.alloc (.cells (madeCells #[.int .u8 0] n) 5)) := by
  obtain ⟨i, hi, hz0, hz1, hz2⟩ := info_parts Try.infoU8
  have h := run_make (P := Try.prog) W 42 5 i (.int .u8 0) Try.underlying42 hi hz0 .i64 .i64 n n (by omega) (Int.le_refl _) (by rw [hz2]; omega) (by omega)
  rw [hz1, Int.toNat_natCast, Nat.mul_one] at h
  exact h
theorem madeCells_one (z : Value) (n : Nat) : madeCells #[z] n = (List.replicate n z).toArray := by
  apply Array.ext
  · simp [madeCells]
  · intro i h1 h2
    simp [madeCells, Nat.mod_one]
theorem run_make_u8_5 (W : World) : (Instr.makeSlice 42 (.int .i64 5) (.int .i64 5)).run Try.prog W = .ok (.slice (some ⟨W.heap.size, 0, none⟩) 5 5) (W.alloc (.cells #[.int .u8 0, .int .u8 0, .int .u8 0, .int .u8 0, .int .u8 0] 5)) := by
  have h := run_make_u8 5 (by decide) W
  rw [madeCells_one] at h
  exact h

theorem K_u8 {w : World} {S : Nat → Prop} {b n : Nat} {t : TypeId} {fr : Nat × Nat} (xs : List UInt8) (hn : n = xs.length) (hb : w.heap[b]? = some (.cells (xs.map (fun x => Value.int .u8 x.toNat)).toArray t fr)) (hS : S b) (hm : xs.length ≤ 140737488355328) : Kd.u8.slice.K w S xs [.slice (some ⟨b, 0, none⟩) n n] :=
  K_of_block n n hn hb hS (by have := cells_flat (n := 1) (enc := fun x : UInt8 => [Value.int .u8 x.toNat]) (hl := fun _ => rfl) (h1 := fun x u hu => by rw [List.mem_singleton.1 hu]; rfl) (w := w) (S := S) xs; rw [flatMap_one] at this; exact this) (Nat.le_refl _) hm



/-- An append of a row that was just laid. -/
theorem diskAppend_u8 (T : Nat → Prop) (g : Nat) (D : DiskS) (xs : List UInt8) (n : Nat) (W0 W : World) (b : Nat) (cs : Array Value) (t : TypeId) (fr : Nat × Nat) (hD : DiskAt W0 T g D) (hb : Below W0.heap.size W0 W) (hn : n = xs.length) (hm : n ≤ 1000) (hcs : cs = (xs.map (fun x => Value.int .u8 x.toNat)).toArray) (hx : W.heap[b]? = some (.cells cs t fr)) (hT : ¬ T b) (D' : DiskS) (r : Int) (hv : D.append xs = (D', r)) :
    Calls Try.prog 33 #[.pointer (some ⟨g, 0, none⟩), .slice (some ⟨b, 0, none⟩) n n] W fun e w' => e = .returned (.int .i64 r) ∧ Hid (DiskAt w' (fun k => (T k ∨ W.heap.size ≤ k) ∧ k < w'.heap.size) g D') ∧ Hid (Mod T W w') ∧ W.heap.size ≤ w'.heap.size := by
  subst hcs
  have h1 : (D.append xs).2 = r := by rw [hv]
  have h2 : (D.append xs).1 = D' := by rw [hv]
  rw [← h1, ← h2]
  exact (diskAppend_calls T g D xs _ W (hD.below hb) (K_u8 xs hn hx hT (by omega))).mono (fun e w' ⟨h1, h2, h3⟩ => ⟨h1, h2.narrow, h3, h3.size⟩)

set_option maxHeartbeats 800000 in
set_option maxRecDepth 100000 in
theorem works16_calls (w : World) : Calls Try.prog 29 #[] w fun e w' => e = .returned (.bool true) ∧ Below w.heap.size w w' := by
  go_enter Try.func29, Try.ntmps29
  go_wp2_with fail
  refine (diskNew_yes 5 _ (by decide) (by decide)).mono ?_
  rintro e w1 ⟨rfl, hD1, hb1⟩
  have HD1 := hid hD1
  clear hD1
  go_wp2_with fail
  refine (diskFuse_calls _ _ _ 1 _ (by decide) HD1.out).mono ?_
  rintro e w2 ⟨rfl, hD2, hm2⟩
  have HD2 : Hid (DiskAt w2 (fun k => w.heap.size ≤ k ∧ k < w2.heap.size) w.heap.size ⟨[], 5, 1⟩) := hD2.narrow
  have hs2 := hm2.size
  have HM2 := hid hm2
  clear hD2 hm2
  go_wp2_with fail
  have hmk := run_make_u8_5
  have a1 : DiskS.append ⟨[], 5, 1⟩ [1, 2] = (⟨[1], 5, -1⟩, 14) := by decide +kernel
  have a2 : DiskS.append ⟨[1], 5, -1⟩ [0, 0, 0, 0, 0] = (⟨[1], 5, -1⟩, 7) := by decide +kernel
  have A1 := hid a1
  have A2 := hid a2
  clear a1 a2
  go_region_with (first
    | (go_at_call 33; have HD3' := HD3; clear HD3'; go_loud (refine (diskAppend_u8 _ _ _ [0, 0, 0, 0, 0] 5 w3 _ _ _ 5 (0, 0) HD3.out (by repeat (first | exact Below.refl _ _ | apply bAlloc | apply Below.drew)) rfl (by decide) rfl (by first | exact heap_at (by simp) | exact (HM3.out.block _ (by (try simp) <;> omega) (by (try simp) <;> omega)).trans (heap_at (by simp)) | exact (HM3.out.block _ (by (try simp) <;> omega) (by (try simp) <;> omega)).trans (heap_old (by simp) (heap_at (by simp)))) (by (try simp) <;> omega) _ _ A2.out).mono ?_); rintro e w4 ⟨rfl, HD4, HM4, hs4⟩; try simp at hs4)
    | (go_at_call 33; go_loud (refine (diskAppend_u8 _ _ _ [1, 2] 2 w2 _ _ _ 5 (0, 0) HD2.out (by repeat (first | exact Below.refl _ _ | apply bAlloc | apply Below.drew)) rfl (by decide) rfl (by first | exact heap_at (by simp) | exact heap_old (by simp) (heap_at (by simp))) (by (try simp) <;> omega) _ _ A1.out).mono ?_); rintro e w3 ⟨rfl, HD3, HM3, hs3⟩; try simp at hs3))
  all_goals
    have hs0 := hb1.size
    go_wp2_with fail
    refine (diskSize_calls _ _ _ _ HD4.out).mono ?_
    rintro e w5 ⟨rfl, rfl⟩
    go_wp2_with fail
    refine (diskFree_calls _ _ _ _ HD4.out).mono ?_
    rintro e w6 ⟨rfl, n6, rfl⟩
    go_wp2
    go_ret
    have B2 : Below w.heap.size w w2 := below_mod hb1 HM2.out (fun _ h => h) hs0
    have B3 : Below w.heap.size w w3 := below_mod (by repeat (first | exact B2 | apply bAlloc | apply Below.drew)) HM3.out (fun i hi => hi.1) (by simp; omega)
    refine ⟨rfl, below_drewN (below_mod (by repeat (first | exact B3 | apply bAlloc)) HM4.out ?_ ?_) _⟩
    · intro i hi
      rcases hi.1 with h | h
      · exact h.1
      · simp at h; omega
    · (try simp); omega

end Go.Proofs.Ytlckkcefkiffjaa
