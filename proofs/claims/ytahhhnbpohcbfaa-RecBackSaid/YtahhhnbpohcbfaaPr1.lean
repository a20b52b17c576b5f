import Derived.Test.YtahhhnbpohcbfaaRd8
import Derived.Test.YtahhhnbpohcbfaaPr0
import Derived.Test.YtahhhnbpohcbfaaReg
namespace Go.Proofs.Ytahhhnbpohcbfaa
open Go.RowKit

def zRec : Array Value := #[.int .i64 0, .int .i64 0, .int .i64 0, .int .i64 0, .int .i64 0, .int .i64 0, .slice none 0 0]
/-- While a record is read: rb the result's cells, g the reader (its bytes in between, below B), gx the record's cells. -/
def PrI (rb B g gx : Nat) (w W : World) (R : RdS) (cs : Array Value) : Prop :=
  W.heap[rb]? = some (.cells zRec 24 (0, 0)) ∧ RdAt W (fun k => rb < k ∧ k < B) g R ∧ W.heap[gx]? = some (.cells cs 24 (0, 0)) ∧ Below rb w W ∧ B ≤ gx
section
variable {rb B g gx : Nat} {w W W' : World} {R R' : RdS} {cs : Array Value}
theorem PrI.call (h : PrI rb B g gx w W R cs) (hA : RdAt W' (fun k => rb < k ∧ k < B) g R') (hM : Mod (fun k => k = g) W W') : PrI rb B g gx w W' R' cs := by
  obtain ⟨h1, h2, h3, h4, h5⟩ := h
  have hg := h2.1
  have l1 := (Array.getElem?_eq_some_iff.1 h1).1
  have l3 := (Array.getElem?_eq_some_iff.1 h3).1
  exact ⟨(hM.block rb l1 (by omega)).trans h1, hA, (hM.block gx l3 (by omega)).trans h3, h4.trans (hM.below (fun k _ hk => by subst hk; omega) (by omega)), h5⟩
theorem PrI.set (h : PrI rb B g gx w W R cs) (i : Nat) (u : Value) : PrI rb B g gx w (W.setCell ⟨gx, i, none⟩ u) R (cs.setIfInBounds i u) := by
  obtain ⟨h1, h2, h3, h4, h5⟩ := h
  have hg := h2.1
  exact ⟨(Below.heap_setCell W ⟨gx, i, none⟩ u rb (show rb ≠ gx by omega)).trans h1, h2.move (fun k hk hT => Below.heap_setCell W ⟨gx, i, none⟩ u k (show k ≠ gx by omega)), heap_set h3 i u, h4.setCell (show rb ≤ gx by omega) u, h5⟩
theorem PrI.above (h : PrI rb B g gx w W R cs) (hb : Below (gx + 1) W W') : PrI rb B g gx w W' R cs := by
  obtain ⟨h1, h2, h3, h4, h5⟩ := h
  have hg := h2.1
  exact ⟨(hb.block rb (by omega)).trans h1, h2.move (fun k hk hT => hb.block k (by omega)), (hb.block gx (by omega)).trans h3, h4.trans (hb.mono (by omega)), h5⟩
theorem PrI.rd (h : PrI rb B g gx w W R cs) : RdAt W (fun k => rb < k ∧ k < B) g R := h.2.1
theorem PrI.cell (h : PrI rb B g gx w W R cs) (i : Nat) (u : Value) (hu : cs[i]? = some u) : W.cell? ⟨gx, i, none⟩ = some u := (cells_of_block h.2.2.1).1 i u hu
theorem PrI.froz (h : PrI rb B g gx w W R cs) (i : Nat) : W.frozen? ⟨gx, i, none⟩ = false := (cells_of_block h.2.2.1).2.1 i
theorem PrI.lt (h : PrI rb B g gx w W R cs) : gx < W.heap.size := (cells_of_block h.2.2.1).2.2
theorem PrI.rcell (h : PrI rb B g gx w W R cs) (i : Nat) (u : Value) (hu : zRec[i]? = some u) : W.cell? ⟨rb, i, none⟩ = some u := (cells_of_block h.1).1 i u hu
theorem PrI.rfroz (h : PrI rb B g gx w W R cs) (i : Nat) : W.frozen? ⟨rb, i, none⟩ = false := (cells_of_block h.1).2.1 i
theorem PrI.rlt (h : PrI rb B g gx w W R cs) : rb < W.heap.size := (cells_of_block h.1).2.2
theorem PrI.ne (h : PrI rb B g gx w W R cs) : rb ≠ gx := by
  have := h.2.1.1; have := h.2.2.2.2; omega
end
/-- A record is laid into the result's cells. -/
theorem set7 {W : World} {rb : Nat} (h : W.heap[rb]? = some (.cells zRec 24 (0, 0))) (v0 v1 v2 v3 v4 v5 v6 : Value) :
    ∃ W', W' = (((((((W.setCell ⟨rb, 0, none⟩ v0).setCell ⟨rb, 1, none⟩ v1).setCell ⟨rb, 2, none⟩ v2).setCell ⟨rb, 3, none⟩ v3).setCell ⟨rb, 4, none⟩ v4).setCell ⟨rb, 5, none⟩ v5).setCell ⟨rb, 6, none⟩ v6) ∧
      W'.cell? ⟨rb, 0, none⟩ = some v0 ∧ W'.cell? ⟨rb, 1, none⟩ = some v1 ∧ W'.cell? ⟨rb, 2, none⟩ = some v2 ∧ W'.cell? ⟨rb, 3, none⟩ = some v3 ∧ W'.cell? ⟨rb, 4, none⟩ = some v4 ∧ W'.cell? ⟨rb, 5, none⟩ = some v5 ∧ W'.cell? ⟨rb, 6, none⟩ = some v6 ∧
      Below rb W W' ∧ ∀ k, k ≠ rb → W'.heap[k]? = W.heap[k]? := by
  have g0 := heap_set h 0 v0
  have g1 := heap_set g0 1 v1
  have g2 := heap_set g1 2 v2
  have g3 := heap_set g2 3 v3
  have g4 := heap_set g3 4 v4
  have g5 := heap_set g4 5 v5
  have g6 := heap_set g5 6 v6
  have e : (((((((zRec.setIfInBounds 0 v0).setIfInBounds 1 v1).setIfInBounds 2 v2).setIfInBounds 3 v3).setIfInBounds 4 v4).setIfInBounds 5 v5).setIfInBounds 6 v6) = #[v0, v1, v2, v3, v4, v5, v6] := by simp [zRec]
  rw [e] at g6
  clear g0 g1 g2 g3 g4 g5 e
  have b0 := (Below.refl rb W).setCell (p := ⟨rb, 0, none⟩) (Nat.le_refl _) v0
  have b1 := b0.setCell (p := ⟨rb, 1, none⟩) (Nat.le_refl _) v1
  have b2 := b1.setCell (p := ⟨rb, 2, none⟩) (Nat.le_refl _) v2
  have b3 := b2.setCell (p := ⟨rb, 3, none⟩) (Nat.le_refl _) v3
  have b4 := b3.setCell (p := ⟨rb, 4, none⟩) (Nat.le_refl _) v4
  have b5 := b4.setCell (p := ⟨rb, 5, none⟩) (Nat.le_refl _) v5
  have b6 := b5.setCell (p := ⟨rb, 6, none⟩) (Nat.le_refl _) v6
  clear b0 b1 b2 b3 b4 b5
  have n6 : ∀ k, k ≠ rb → (((((((W.setCell ⟨rb, 0, none⟩ v0).setCell ⟨rb, 1, none⟩ v1).setCell ⟨rb, 2, none⟩ v2).setCell ⟨rb, 3, none⟩ v3).setCell ⟨rb, 4, none⟩ v4).setCell ⟨rb, 5, none⟩ v5).setCell ⟨rb, 6, none⟩ v6).heap[k]? = W.heap[k]? := fun k hk => by
    rw [Below.heap_setCell _ ⟨rb, 6, none⟩ _ k hk, Below.heap_setCell _ ⟨rb, 5, none⟩ _ k hk, Below.heap_setCell _ ⟨rb, 4, none⟩ _ k hk, Below.heap_setCell _ ⟨rb, 3, none⟩ _ k hk, Below.heap_setCell _ ⟨rb, 2, none⟩ _ k hk, Below.heap_setCell _ ⟨rb, 1, none⟩ _ k hk, Below.heap_setCell _ ⟨rb, 0, none⟩ _ k hk]
  obtain ⟨W', hW⟩ : ∃ W', W' = (((((((W.setCell ⟨rb, 0, none⟩ v0).setCell ⟨rb, 1, none⟩ v1).setCell ⟨rb, 2, none⟩ v2).setCell ⟨rb, 3, none⟩ v3).setCell ⟨rb, 4, none⟩ v4).setCell ⟨rb, 5, none⟩ v5).setCell ⟨rb, 6, none⟩ v6) := ⟨_, rfl⟩
  rw [← hW] at g6 b6 n6
  obtain ⟨q, _, _⟩ := cells_of_block g6
  exact ⟨W', hW, q 0 v0 rfl, q 1 v1 rfl, q 2 v2 rfl, q 3 v3 rfl, q 4 v4 rfl, q 5 v5 rfl, q 6 v6 rfl, b6, n6⟩
theorem RdS.opt_t (R : RdS) (most : Int) : R.opt true most = R.num most := rfl
theorem RdS.opt_f (R : RdS) (most : Int) : R.opt false most = (0, R) := rfl
theorem RdS.optLeast_t (R : RdS) (most : Int) : R.optLeast true most = R.least most := rfl
theorem RdS.optLeast_f (R : RdS) (most : Int) : R.optLeast false most = (0, R) := rfl
end Go.Proofs.Ytahhhnbpohcbfaa
