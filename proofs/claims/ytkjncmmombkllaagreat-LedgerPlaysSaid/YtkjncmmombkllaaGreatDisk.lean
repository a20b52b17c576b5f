import Derived.Test.YtkjncmmombkllaaGreatProg
import Derived.Test.YtkjncmmombkllaaGreatBase
import Derived.Handy
import Derived.Deep.RegionLaw
namespace Go.Proofs.YtkjncmmombkllaaGreat
open Go.RowKit

/-! ### disk -/
structure DiskS where
  b : List UInt8
  room : Int
  fuse : Int
deriving DecidableEq
def DiskS.ok (D : DiskS) : Prop := (D.b.length : Int) ≤ D.room ∧ D.room ≤ 65536 ∧ -1 ≤ D.fuse ∧ D.fuse ≤ 9223372036854775807
/-- A disk in block g; T: the blocks that it may use. -/
def DiskAt (w : World) (T : Nat → Prop) (g : Nat) (D : DiskS) : Prop :=
  D.ok ∧ T g ∧ ∃ v, w.heap[g]? = some (.cells #[v, .int .i64 D.room, .int .i64 D.fuse] 72 (0, 0)) ∧ Own Kd.u8 5 w 0 (fun _ => False) v D.b ∧ ∀ k, v.ownBlock = some k → T k ∧ k ≠ g

theorem DiskAt.mono {w : World} {T T' : Nat → Prop} {g : Nat} {D : DiskS} (h : DiskAt w T g D) (hT : ∀ k, k < w.heap.size → T k → T' k) : DiskAt w T' g D := by
  obtain ⟨h1, h2, v, h3, h4, h5⟩ := h
  exact ⟨h1, hT g (Array.getElem?_eq_some_iff.1 h3).1 h2, v, h3, h4, fun k hk => ⟨hT k (h4.lt k hk).2 (h5 k hk).1, (h5 k hk).2⟩⟩
theorem DiskAt.move {w w1 : World} {T : Nat → Prop} {g : Nat} {D : DiskS} (h : DiskAt w T g D) (hm : ∀ k, k < w.heap.size → T k → w1.heap[k]? = w.heap[k]?) : DiskAt w1 T g D := by
  obtain ⟨h1, h2, v, h3, h4, h5⟩ := h
  exact ⟨h1, h2, v, (hm g (Array.getElem?_eq_some_iff.1 h3).1 h2).trans h3, h4.move (fun b hb hl => hb.elim (fun h => h.elim) (fun h => hm b hl (h5 b h).1)) (fun _ h _ => h), h5⟩
theorem DiskAt.below {w w1 : World} {T : Nat → Prop} {g : Nat} {D : DiskS} (h : DiskAt w T g D) (hb : Below w.heap.size w w1) : DiskAt w1 T g D := h.move (fun k hk _ => hb.block k hk)
/-- Its cells, as a walk asks for them. -/
theorem DiskAt.cells {w : World} {T : Nat → Prop} {g : Nat} {D : DiskS} (h : DiskAt w T g D) : D.ok ∧ T g ∧ g < w.heap.size ∧ ∃ A c, D.b.length ≤ c ∧ w.cell? ⟨g, 0, none⟩ = some (.slice A D.b.length c) ∧ w.cell? ⟨g, 1, none⟩ = some (.int .i64 D.room) ∧ w.cell? ⟨g, 2, none⟩ = some (.int .i64 D.fuse) ∧
    (∀ j, w.frozen? ⟨g, j, none⟩ = false) ∧ w.heap[g]? = some (.cells #[.slice A D.b.length c, .int .i64 D.room, .int .i64 D.fuse] 72 (0, 0)) ∧ Own Kd.u8 5 w 0 (fun _ => False) (.slice A D.b.length c) D.b ∧ ∀ k, (Value.slice A D.b.length c).ownBlock = some k → T k ∧ k ≠ g := by
  obtain ⟨h1, h2, v, h3, h4, h5⟩ := h
  obtain ⟨A, c, rfl, hc⟩ := h4.shape
  refine ⟨h1, h2, (Array.getElem?_eq_some_iff.1 h3).1, A, c, hc, ?_, ?_, ?_, fun j => ?_, h3, h4, h5⟩
  · simp [World.cell?, h3]
  · simp [World.cell?, h3]
  · simp [World.cell?, h3]
  · simp [World.frozen?, h3]

set_option maxHeartbeats 800000 in
set_option maxRecDepth 100000 in
theorem diskNew_no (room : Int) (w : World) (h : room < 0 ∨ 65536 < room) : Calls Tryz.prog 4 #[.int .i64 room] w fun e w' => e = .returned (.pointer none) ∧ w = w' := by
  rcases h with h | h
  · go_enter Tryz.func4, Tryz.ntmps4
    go_wp2
    go_ret
    exact ⟨rfl, rfl⟩
  · have h1 : ¬ room < 0 := by omega
    go_enter Tryz.func4, Tryz.ntmps4
    go_wp2
    go_ret
    exact ⟨rfl, rfl⟩

set_option maxHeartbeats 800000 in
set_option maxRecDepth 100000 in
theorem diskNew_yes (room : Int) (w : World) (h0 : 0 ≤ room) (h1 : room ≤ 65536) : Calls Tryz.prog 4 #[.int .i64 room] w fun e w' => e = .returned (.pointer (some ⟨w.heap.size, 0, none⟩)) ∧ DiskAt w' (fun k => w.heap.size ≤ k) w.heap.size ⟨[], room, -1⟩ ∧ Below w.heap.size w w' := by
  go_enter Tryz.func4, Tryz.ntmps4
  go_wp2
  go_ret
  refine ⟨rfl, ⟨⟨by simpa using h0, h1, Int.le_refl _, by simp⟩, Nat.le_refl _, .slice none 0 0, heap_alloc_new w _, Own.nil _ _ _ _ _, fun k hk => by cases hk⟩, bAlloc (Below.refl _ _) _⟩

set_option maxHeartbeats 800000 in
set_option maxRecDepth 100000 in
theorem diskFree_calls (T : Nat → Prop) (g : Nat) (D : DiskS) (w : World) (hd : DiskAt w T g D) : Calls Tryz.prog 26 #[.pointer (some ⟨g, 0, none⟩)] w fun e w' => e = .returned (.int .i64 (D.room - D.b.length)) ∧ ∃ n, w' = w.drewN n := by
  obtain ⟨⟨k1, k2, k3, k4⟩, hT, hg, A, c, hc, c0, c1, c2, hf, _, _, _⟩ := hd.cells
  have HF := hid hf
  clear hf hd
  go_enter Tryz.func26, Tryz.ntmps26
  go_wp2
  go_quiet (fail)
  go_wp2
  go_ret
  exact ⟨rfl, _, rfl⟩

/-- What an append answers, and leaves. -/
def DiskS.append (D : DiskS) (x : List UInt8) : DiskS × Int :=
  if (x.length : Int) > D.room - D.b.length then (D, 7)
  else if 0 ≤ D.fuse then (⟨D.b ++ x.take (min D.fuse.toNat x.length), D.room, -1⟩, 14)
  else (⟨D.b ++ x, D.room, D.fuse⟩, 0)
theorem DiskS.append_ok {D : DiskS} (h : D.ok) (x : List UInt8) : (D.append x).1.ok := by
  obtain ⟨k1, k2, k3, k4⟩ := h
  unfold DiskS.append
  split
  · exact ⟨k1, k2, k3, k4⟩
  · split
    · exact ⟨by simp; omega, k2, by simp, by simp⟩
    · exact ⟨by simp; omega, k2, k3, k4⟩

/-- What is known behind the append in a disk's row. -/
theorem diskGrow {T : Nat → Prop} {g : Nat} {w W w1 : World} {A : Option Addr} {n c : Nat} {room fuse : Int} {v1 : Value} {bs : List UInt8} (hW : Mod T w W) (hWh : W.heap = w.heap) (hg : g < w.heap.size)
    (HH : w.heap[g]? = some (.cells #[.slice A n c, .int .i64 room, .int .i64 fuse] 72 (0, 0))) (HNE : ∀ k, (Value.slice A n c).ownBlock = some k → T k ∧ k ≠ g)
    (hO1 : Own Kd.u8 5 w1 0 (fun _ => False) v1 bs) (hg1 : W.grownBy w1 (Value.slice A n c).ownBlock) (hat : v1.ownBlock = (Value.slice A n c).ownBlock ∨ ∃ b, v1.ownBlock = some b ∧ w.heap.size ≤ b) :
    ∃ A1 m1 c1, v1 = .slice A1 m1 c1 ∧ g < w1.heap.size ∧ w1.cell? ⟨g, 0, none⟩ = some (.slice A n c) ∧ w1.cell? ⟨g, 2, none⟩ = some (.int .i64 fuse) ∧ w1.frozen? ⟨g, 0, none⟩ = false ∧ w1.frozen? ⟨g, 2, none⟩ = false ∧
      Hid (w1.heap[g]? = some (.cells #[.slice A n c, .int .i64 room, .int .i64 fuse] 72 (0, 0))) ∧ Hid (Own Kd.u8 5 w1 0 (fun _ => False) (.slice A1 m1 c1) bs) ∧
      Hid (∀ k, (Value.slice A1 m1 c1).ownBlock = some k → (T k ∨ w.heap.size ≤ k) ∧ k ≠ g) ∧ Hid (Mod T w w1) := by
  obtain ⟨A1, m1, c1, rfl, hm1, hc1⟩ := hO1.shape'
  have hng : some g ≠ (Value.slice A n c).ownBlock := fun e => (HNE g e.symm).2 rfl
  have hh1 : w1.heap[g]? = some (.cells #[.slice A n c, .int .i64 room, .int .i64 fuse] 72 (0, 0)) := (hg1.block g (by rw [hWh]; exact hg) hng).trans (by rw [hWh]; exact HH)
  refine ⟨A1, m1, c1, rfl, (Array.getElem?_eq_some_iff.1 hh1).1, by simp [World.cell?, hh1], by simp [World.cell?, hh1], by simp [World.frozen?, hh1], by simp [World.frozen?, hh1], hh1, hO1, fun k hk => ?_, hW.grown hg1 (fun k hk _ => (HNE k hk).1)⟩
  rcases hat with h | ⟨b, h, hb⟩
  · rw [h] at hk; exact ⟨.inl (HNE k hk).1, (HNE k hk).2⟩
  · rw [h] at hk; injection hk with hk; exact ⟨.inr (by omega), by omega⟩

set_option maxHeartbeats 1600000 in
set_option maxRecDepth 100000 in
theorem diskAppend_calls (T : Nat → Prop) (g : Nat) (D : DiskS) (x : List UInt8) (v : Value) (w : World) (hd : DiskAt w T g D) (hx : Kd.u8.slice.K w (fun k => ¬ T k) x [v]) :
    Calls Tryz.prog 8 #[.pointer (some ⟨g, 0, none⟩), v] w fun e w' => e = .returned (.int .i64 (D.append x).2) ∧ DiskAt w' (fun k => T k ∨ w.heap.size ≤ k) g (D.append x).1 ∧ Mod T w w' := by
  have HDK := hid hd
  have HOK := hid (DiskS.append_ok hd.1 x)
  obtain ⟨⟨k1, k2, k3, k4⟩, hT, hg, A, c, hc, c0, c1, c2, hf, hh, hO, hne⟩ := hd.cells
  obtain ⟨B, d, he, hd1, hd2, hr⟩ := hx
  cases he
  have HF := hid hf
  have HH := hid hh
  have HNE := hid hne
  clear hf hd hh hne
  by_cases hfull : (x.length : Int) > D.room - D.b.length
  · have hv := hid (show D.append x = (D, 7) by unfold DiskS.append; rw [if_pos hfull])
    go_enter Tryz.func8, Tryz.ntmps8
    go_wp2_with fail
    refine (diskFree_calls T g D _ HDK.out).mono ?_
    rintro e w1 ⟨rfl, n1, rfl⟩
    go_wp2
    go_ret
    rw [hv.out]
    exact ⟨rfl, (HDK.out.below (below_drewN (Below.refl _ _) _)).mono (fun k _ h => .inl h), (Mod.refl _ _).drewN _⟩
  · by_cases hfu : 0 ≤ D.fuse
    · obtain ⟨q, hq⟩ : ∃ q : Nat, q = min D.fuse.toNat x.length := ⟨_, rfl⟩
      have hv := hid (show D.append x = (⟨D.b ++ x.take q, D.room, -1⟩, 14) by unfold DiskS.append; rw [if_neg hfull, if_pos hfu, hq])
      have hmin : min D.fuse (x.length : Int) = (q : Int) := by omega
      have hq1 : q ≤ x.length := by omega
      have hq2 : q ≤ d := by omega
      have hlen : (D.b.length + q) * 1 ≤ 140737488355328 := by omega
      have hxl : (x.take q).length = q := by rw [List.length_take]; omega
      have HXL := hid hxl
      have hff := HF.out 0
      have hff2 := HF.out 2
      clear hq hxl
      go_enter Tryz.func8, Tryz.ntmps8
      go_wp2_with fail
      refine (diskFree_calls T g D _ HDK.out).mono ?_
      rintro e w1 ⟨rfl, n1, rfl⟩
      go_wp2
      go_region_law (refine appends_step Kd.u8 0 rfl _ _ 23 5 _ 1 rfl Tryz.underlying23 Tryz.infoU8 rfl (by decide) (by decide) (.slice A D.b.length c) D.b (x.take q) B q d (fun _ => False) (fun k => ¬ T k) (fun _ => False) rfl rfl HXL.out (((hr.take q).below (below_drewN (Below.refl _ _) n1)).below (Below.refl _ _).drew) (fun _ _ h => h) (fun _ h => h.elim) ((hO.drewN n1).below (Below.refl _ _).drew) (Nat.zero_le _) hlen ?_; intro v1 w1 hO1 hg1 hat; obtain ⟨A1, m1, c1', rfl, hg2, d0, d2, f0, f2, HH1, HO1, HNE1, HM⟩ := diskGrow (((Mod.refl T w).drewN n1).drew) rfl hg HH.out HNE.out hO1 hg1 hat; clear hO1 hg1 hat c0 c1 c2 hff hff2)
      all_goals
        go_wp2
        go_ret
        rw [hv.out] at HOK ⊢
        exact ⟨rfl, ⟨HOK.out, .inl hT, _, heap_set (heap_set HH1.out 0 _) 2 _, (HO1.out.setCell (p := ⟨g, 0, none⟩) (fun h => h) (fun e => (HNE1.out g e).2 rfl) _).setCell (p := ⟨g, 2, none⟩) (fun h => h) (fun e => (HNE1.out g e).2 rfl) _, HNE1.out⟩, (HM.out.setCell (p := ⟨g, 0, none⟩) (fun _ => hT) _).setCell (p := ⟨g, 2, none⟩) (fun _ => hT) _⟩
    · have hv := hid (show D.append x = (⟨D.b ++ x, D.room, D.fuse⟩, 0) by unfold DiskS.append; rw [if_neg hfull, if_neg hfu])
      have hlen : (D.b.length + x.length) * 1 ≤ 140737488355328 := by omega
      have hff := HF.out 0
      go_enter Tryz.func8, Tryz.ntmps8
      go_wp2_with fail
      refine (diskFree_calls T g D _ HDK.out).mono ?_
      rintro e w1 ⟨rfl, n1, rfl⟩
      go_wp2_with (at_builtin; go_must (refine appends_arm Kd.u8 (w0 := w.drewN n1) 0 rfl _ _ 23 5 _ 1 rfl Tryz.underlying23 Tryz.infoU8 rfl (by decide) (by decide) (.slice A D.b.length c) D.b x B x.length d (fun _ => False) (fun k => ¬ T k) (fun _ => False) rfl rfl rfl (hr.below (below_drewN (Below.refl _ _) _)) (fun _ _ h => h) (fun _ h => h.elim) (hO.drewN n1) (Below.refl _ _) (Nat.zero_le _) hlen ?_))
      intro v1 w1 hO1 _ hg1 hat
      obtain ⟨A1, m1, c1', rfl, hm1, hc1'⟩ := hO1.shape'
      have HM1 := hid hm1
      clear hm1
      have hM : Mod T w w1 := ((Mod.refl T w).drewN n1).grown hg1 (fun k hk _ => (HNE.out k hk).1)
      have hng : some g ≠ (Value.slice A D.b.length c).ownBlock := fun e => (HNE.out g e.symm).2 rfl
      have hh1 : w1.heap[g]? = some (.cells #[.slice A D.b.length c, .int .i64 D.room, .int .i64 D.fuse] 72 (0, 0)) := (hg1.block g hg hng).trans HH.out
      have hg2 : g < w1.heap.size := (Array.getElem?_eq_some_iff.1 hh1).1
      have d0 : w1.cell? ⟨g, 0, none⟩ = some (.slice A D.b.length c) := by simp [World.cell?, hh1]
      have f0 : w1.frozen? ⟨g, 0, none⟩ = false := by simp [World.frozen?, hh1]
      have HH1 := hid hh1
      clear hh1 c0 c1 c2 hff
      go_wp2
      go_ret
      rw [hv.out] at HOK ⊢
      have hne1 : ∀ k, (Value.slice A1 m1 c1').ownBlock = some k → (T k ∨ w.heap.size ≤ k) ∧ k ≠ g := fun k hk => by
        rcases hat with h | ⟨b, h, hb⟩
        · rw [h] at hk; exact ⟨.inl (HNE.out k hk).1, (HNE.out k hk).2⟩
        · rw [h] at hk; injection hk with hk; exact ⟨.inr (by omega), by omega⟩
      exact ⟨rfl, ⟨HOK.out, .inl hT, _, heap_set HH1.out 0 _, hO1.setCell (fun h => h) (fun e => (hne1 g e).2 rfl) _, hne1⟩, hM.setCell (p := ⟨g, 0, none⟩) (fun _ => hT) _⟩

end Go.Proofs.YtkjncmmombkllaaGreat
