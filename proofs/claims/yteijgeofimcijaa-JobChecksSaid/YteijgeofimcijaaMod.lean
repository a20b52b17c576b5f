/- What a call may have written: the blocks that satisfy F, and new ones. -/
import Derived.Test.YteijgeofimcijaaLib
namespace Go.Proofs.Yteijgeofimcijaa
open Go.RowKit

structure Mod (F : Nat → Prop) (w w' : World) : Prop where
  os : w'.os = w.os
  tape : w'.tape = w.tape
  output : w'.output = w.output
  size : w.heap.size ≤ w'.heap.size
  block : ∀ k, k < w.heap.size → ¬ F k → w'.heap[k]? = w.heap[k]?

section
variable {F F' : Nat → Prop} {w w1 w2 : World}
theorem Mod.refl (F : Nat → Prop) (w : World) : Mod F w w := ⟨rfl, rfl, rfl, Nat.le_refl _, fun _ _ _ => rfl⟩
theorem Mod.trans (h : Mod F w w1) (k : Mod F' w1 w2) (hF : ∀ k, k < w.heap.size → F' k → F k) : Mod F w w2 :=
  ⟨k.os.trans h.os, k.tape.trans h.tape, k.output.trans h.output, Nat.le_trans h.size k.size, fun i hi hn => (k.block i (Nat.lt_of_lt_of_le hi h.size) (fun q => hn (hF i hi q))).trans (h.block i hi hn)⟩
theorem Mod.mono (h : Mod F w w1) (hF : ∀ k, k < w.heap.size → F k → F' k) : Mod F' w w1 := ⟨h.os, h.tape, h.output, h.size, fun k hk hn => h.block k hk (fun q => hn (hF k hk q))⟩
theorem Mod.of_below (h : Below w.heap.size w w1) : Mod F w w1 := ⟨h.os, h.tape, h.output, h.size, fun k hk _ => h.block k hk⟩
theorem Mod.alloc (h : Mod F w w1) (o : Obj) : Mod F w (w1.alloc o) := h.trans (F' := F) (Mod.of_below ((Below.refl _ _).alloc (Nat.le_refl _) o)) (fun _ _ h => h)
theorem Mod.drew (h : Mod F w w1) : Mod F w w1.drew := ⟨h.os, h.tape, h.output, h.size, h.block⟩
theorem Mod.drewN (h : Mod F w w1) (n : Nat) : Mod F w (w1.drewN n) := ⟨h.os, h.tape, h.output, h.size, h.block⟩
theorem Mod.setCell (h : Mod F w w1) {p : Addr} (hp : p.block < w.heap.size → F p.block) (u : Value) : Mod F w (w1.setCell p u) :=
  h.trans (F' := fun k => k = p.block) ⟨rfl, rfl, rfl, by simp [World.setCell], fun k _ hn => Below.heap_setCell w1 p u k hn⟩ (fun k hk e => by subst e; exact hp hk)
theorem Mod.grown (h : Mod F w w1) {row : Option Nat} (hg : w1.grownBy w2 row) (hr : ∀ k, row = some k → k < w.heap.size → F k) : Mod F w w2 :=
  h.trans (F' := fun k => row = some k) ⟨hg.os, hg.tape, hg.output, hg.size, fun k hk hn => hg.block k hk (fun e => hn e.symm)⟩ (fun k hk e => hr k e hk)
theorem Mod.below {B : Nat} (h : Mod F w w1) (hB : ∀ k, k < w.heap.size → F k → B ≤ k) (hs : B ≤ w.heap.size) : Below B w w1 :=
  ⟨h.os, h.tape, h.output, h.size, fun k hk => h.block k (by omega) (fun q => by have := hB k (by omega) q; omega)⟩
theorem Mod.then_below (h : Mod F w w1) (k : Below w1.heap.size w1 w2) : Mod F w w2 := h.trans (F' := F) (Mod.of_below k) (fun _ _ h => h)
/-- What lies elsewhere stays. -/
theorem Kd.mod {α : Type} {d : Kd α} {S : Nat → Prop} {x : α} {cs : List Value} (h : d.K w S x cs) (hm : Mod F w w1) (hS : ∀ k, k < w.heap.size → S k → ¬ F k) : d.K w1 S x cs := d.move (fun b hb hl => hm.block b hl (hS b hl hb)) h
end

theorem below_mod {B : Nat} {F : Nat → Prop} {w w1 w2 : World} (h : Below B w w1) (k : Mod F w1 w2) (hF : ∀ i, F i → B ≤ i) (hB : B ≤ w1.heap.size) : Below B w w2 := h.trans (k.below (fun i _ hi => hF i hi) hB)
end Go.Proofs.Yteijgeofimcijaa
