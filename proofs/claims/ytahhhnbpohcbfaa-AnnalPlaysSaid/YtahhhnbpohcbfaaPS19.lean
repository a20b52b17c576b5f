/- The state of AnnalPlays between two acts. -/
import Derived.Test.YtahhhnbpohcbfaaAct19
namespace Go.Proofs.Ytahhhnbpohcbfaa
open Go.RowKit Go.Lib

theorem Pair.move {w w1 : World} {F : Nat → Prop} {ga gd : Nat} {D : DiskS} {l : List RecS} {down : Bool} (h : Pair w F ga gd D l down) (hm : ∀ k, k < w.heap.size → F k → w1.heap[k]? = w.heap[k]?) : Pair w1 F ga gd D l down := by
  obtain ⟨T, TD, h1, h2, h3, h4, h5⟩ := h
  exact ⟨T, TD, h1, h2, h3, h4.move (fun k hk hT => hm k hk (h1 k hT)), h5.move (fun k hk hT => hm k hk (h2 k hT))⟩
theorem Pair.ok {w : World} {F : Nat → Prop} {ga gd : Nat} {D : DiskS} {l : List RecS} {down : Bool} (h : Pair w F ga gd D l down) : D.ok := by
  obtain ⟨T, TD, h1, h2, h3, h4, h5⟩ := h
  exact h5.1
theorem anApp_alike {D R : DiskS} (h : Alike D R) (l : List RecS) (down : Bool) (x : RecS) : (anApp D l down x).2 = (anApp R l down x).2 ∧ Alike (anApp D l down x).1 (anApp R l down x).1 := by
  obtain ⟨h1, h2⟩ := h.app (putL (recL x))
  unfold anApp
  split
  · split
    · exact ⟨rfl, h⟩
    · exact ⟨by rw [h1], h2⟩
  · exact ⟨rfl, h⟩
theorem anApp_ok {D : DiskS} {l : List RecS} {down : Bool} {x : RecS} (h : ∀ y ∈ l, recOk y = true) : (∀ y ∈ (anApp D l down x).2.1, recOk y = true) ∧ (anApp D l down x).2.1.length ≤ l.length + 1 := by
  unfold anApp
  split
  · rename_i hx
    split
    · exact ⟨h, by simp⟩
    · simp only
      split
      · exact ⟨fun y hy => by
          rcases List.mem_append.1 hy with hy | hy
          · exact h y hy
          · rw [List.mem_singleton.1 hy]; exact hx, by simp⟩
      · exact ⟨h, by simp⟩
  · exact ⟨h, by simp⟩
/-- A text is laid on the disk past its annal. -/
theorem pairDisk_calls {w : World} {F : Nat → Prop} {ga gd : Nat} {D : DiskS} {l : List RecS} {down : Bool} (hp : Pair w F ga gd D l down) (b : List UInt8) (v : Value) (hb : Kd.u8.slice.K w (fun k => ¬ F k) b [v]) : Calls Try.prog 41 #[.pointer (some ⟨gd, 0, none⟩), v] w fun e w' => e = .returned (.int .i64 (D.append b).2) ∧ Pair w' (fun k => F k ∨ w.heap.size ≤ k) ga gd (D.append b).1 l down ∧ Mod F w w' := by
  obtain ⟨T, TD, h1, h2, h3, h4, h5⟩ := hp
  refine (diskAppend_calls (fun k => TD k ∧ k < w.heap.size) gd D b v w (h5.mono (fun k a b => ⟨b, a⟩)) (Kd.mono _ (fun k hk _ h => hk (h2 k h.1)) hb)).mono ?_
  rintro e w' ⟨k1, k2, k3⟩
  exact ⟨k1, ⟨fun k => T k ∧ k < w.heap.size, fun k => (TD k ∧ k < w.heap.size) ∨ w.heap.size ≤ k, fun k h => .inl (h1 k h.1), fun k h => h.elim (fun h => .inl (h2 k h.1)) .inr, fun k a b => b.elim (fun b => h3 k a.1 b.1) (fun b => by omega),
    (h4.mono (fun k a b => ⟨b, a⟩)).move (fun k hk hT => k3.block k hk (fun h => h3 k hT.1 h.1)), k2⟩, k3.mono (fun k _ h => h2 k h.1)⟩

/-- The two disks, the two annals. B: what stood before. -/
def PS (B gd gm K : Nat) (W : World) (ga gw : Nat) : Prop := ∃ (D R : DiskS) (l : List RecS) (down : Bool) (F T : Nat → Prop), Pair W F ga gd D l down ∧ RwAt W T gw gm l down ∧ RefAt W gm R ∧ Alike D R ∧
  (∀ k, F k → B ≤ k ∧ k < W.heap.size) ∧ (∀ k, T k → ¬ F k ∧ k < W.heap.size) ∧ ¬ F gm ∧ ¬ T gm ∧ (∀ k, k < B → T k) ∧ B ≤ gm ∧ B ≤ gw ∧ (∀ x ∈ l, recOk x = true) ∧ l.length ≤ 20000 + K
section
variable {B gd gm K : Nat} {W W1 : World} {ga gw : Nat}
theorem PS.below (h : PS B gd gm K W ga gw) (hb : Below W.heap.size W W1) : PS B gd gm K W1 ga gw := by
  obtain ⟨D, R, l, down, F, T, h1, h2, h3, h4, h5, h6, h7⟩ := h
  have hs := hb.size
  exact ⟨D, R, l, down, F, T, h1.below hb, h2.below hb, h3.below hb, h4, fun k hk => ⟨(h5 k hk).1, by have := (h5 k hk).2; omega⟩, fun k hk => ⟨(h6 k hk).1, by have := (h6 k hk).2; omega⟩, h7⟩
theorem PS.more (h : PS B gd gm K W ga gw) : PS B gd gm (K + 1) W ga gw := by
  obtain ⟨D, R, l, down, F, T, h1, h2, h3, h4, h5, h6, h7, h8, h9, h10, h11, h12, h13⟩ := h
  exact ⟨D, R, l, down, F, T, h1, h2, h3, h4, h5, h6, h7, h8, h9, h10, h11, h12, by omega⟩
/-- The program's part has gone on: in F, and new blocks. -/
theorem ps_prog {R D' : DiskS} {l l' : List RecS} {down down' : Bool} {F T : Nat → Prop} (hp : Pair W1 (fun k => F k ∨ W.heap.size ≤ k) ga gd D' l' down') (hm : Mod F W W1) (hw : RwAt W T gw gm l down) (hr : RefAt W gm R)
    (h5 : ∀ k, F k → B ≤ k ∧ k < W.heap.size) (h6 : ∀ k, T k → ¬ F k ∧ k < W.heap.size) (h7 : ¬ F gm) (hB : B ≤ W.heap.size) :
    Pair W1 (fun k => F k ∨ W.heap.size ≤ k ∧ k < W1.heap.size) ga gd D' l' down' ∧ RwAt W1 T gw gm l down ∧ RefAt W1 gm R ∧ (∀ k, (F k ∨ W.heap.size ≤ k ∧ k < W1.heap.size) → B ≤ k ∧ k < W1.heap.size) ∧ (∀ k, T k → ¬ (F k ∨ W.heap.size ≤ k ∧ k < W1.heap.size) ∧ k < W1.heap.size) ∧ ¬ (F gm ∨ W.heap.size ≤ gm ∧ gm < W1.heap.size) := by
  have hs := hm.size
  have hgm := (Array.getElem?_eq_some_iff.1 hr).1
  exact ⟨hp.mono (fun k hk h => h.elim .inl (fun h => .inr ⟨h, hk⟩)), hw.move (fun k hk hT => hm.block k hk (h6 k hT).1), hr.mod hm h7,
    fun k h => h.elim (fun h => ⟨(h5 k h).1, by have := (h5 k h).2; omega⟩) (fun h => ⟨by omega, h.2⟩), fun k hT => ⟨fun h => h.elim (h6 k hT).1 (fun h => by have := (h6 k hT).2; omega), by have := (h6 k hT).2; omega⟩, fun h => h.elim h7 (fun h => by omega)⟩
/-- Both are opened again. -/
theorem ps_open {U U1 U2 : World} {gb : Nat} {D R : DiskS} {F : Nat → Prop} {q : Nat} {rs : List RecS} (hq : Pair U1 (fun k => F k ∨ U.heap.size ≤ k) gb gd ⟨D.b.take q, D.room, D.fuse⟩ rs false) (hm1 : Mod F U U1) (hw : RwAt U2 (fun k => U1.heap.size ≤ k) gw gm rs false)
    (hr2 : RefAt U2 gm ⟨R.b.take q, R.room, R.fuse⟩) (hm2 : Mod (fun k => k = gm) U1 U2) (hA : Alike D R) (hF : ∀ k, F k → B ≤ k ∧ k < U.heap.size) (hgm : gm < U.heap.size) (hNF : ¬ F gm) (hgB : B ≤ gm) (hBU : B ≤ U.heap.size) (hok : ∀ x ∈ rs, recOk x = true) (hlen : rs.length ≤ 20000 + K) : PS B gd gm K U2 gb gw := by
  have s1 := hm1.size
  have s2 := hm2.size
  have hgw : U1.heap.size ≤ gw := hw.1
  refine ⟨_, _, rs, false, fun k => F k ∨ U.heap.size ≤ k ∧ k < U1.heap.size, fun k => k < B ∨ U1.heap.size ≤ k ∧ k < U2.heap.size,
    (hq.mono (fun k hk h => h.elim .inl (fun h => .inr ⟨h, hk⟩))).move (fun k hk h => hm2.block k hk (fun e => ?_)), hw.mono (fun k hk h => .inr ⟨h, hk⟩), hr2, ⟨by rw [hA.1], hA.2.1, hA.2.2⟩, fun k h => ?_, fun k h => ?_, fun h => ?_, fun h => by omega, fun k h => .inl h, hgB, by omega, hok, hlen⟩
  · subst e
    exact h.elim hNF (fun h => by omega)
  · rcases h with h | h
    · exact ⟨(hF k h).1, by have := (hF k h).2; omega⟩
    · omega
  · refine ⟨fun h2 => ?_, by omega⟩
    rcases h2 with h2 | h2
    · have h3 := hF k h2; omega
    · omega
  · exact h.elim hNF (fun h => by omega)
end
end Go.Proofs.Ytahhhnbpohcbfaa
