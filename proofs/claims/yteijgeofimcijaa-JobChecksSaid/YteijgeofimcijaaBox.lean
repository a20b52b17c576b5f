/- A struct in a block, its first field a slice of the call's own whose elements lead nowhere. No Go program in sight. -/
import Derived.Test.YteijgeofimcijaaCopy
import Derived.StillTailTactics
namespace Go.Proofs.Yteijgeofimcijaa
open Go.RowKit

def NoT : Nat → Prop := fun _ => False

section
variable {α : Type} {d : Kd α} {e t : TypeId} {w w1 W : World} {T T' : Nat → Prop} {g : Nat} {xs : List α} {rest : List Value}
/-- Block g: a slice of xs (its row in T, not g) and then the cells 'rest'. -/
def BoxAt (d : Kd α) (e t : TypeId) (w : World) (T : Nat → Prop) (g : Nat) (xs : List α) (rest : List Value) : Prop :=
  T g ∧ ∃ v, w.heap[g]? = some (.cells (v :: rest).toArray t (0, 0)) ∧ Own d e w 0 NoT v xs ∧ ∀ k, v.ownBlock = some k → T k ∧ k ≠ g

theorem BoxAt.mono (h : BoxAt d e t w T g xs rest) (hT : ∀ k, k < w.heap.size → T k → T' k) : BoxAt d e t w T' g xs rest := by
  obtain ⟨h2, v, h3, h4, h5⟩ := h
  exact ⟨hT g (Array.getElem?_eq_some_iff.1 h3).1 h2, v, h3, h4, fun k hk => ⟨hT k (h4.lt k hk).2 (h5 k hk).1, (h5 k hk).2⟩⟩
theorem BoxAt.move (h : BoxAt d e t w T g xs rest) (hm : ∀ k, k < w.heap.size → T k → w1.heap[k]? = w.heap[k]?) : BoxAt d e t w1 T g xs rest := by
  obtain ⟨h2, v, h3, h4, h5⟩ := h
  exact ⟨h2, v, (hm g (Array.getElem?_eq_some_iff.1 h3).1 h2).trans h3, h4.move (fun b hb hl => hb.elim (fun h => h.elim) (fun h => hm b hl (h5 b h).1)) (fun _ h _ => h), h5⟩
theorem BoxAt.below (h : BoxAt d e t w T g xs rest) (hb : Below w.heap.size w w1) : BoxAt d e t w1 T g xs rest := h.move (fun k hk _ => hb.block k hk)
theorem BoxAt.lt (h : BoxAt d e t w T g xs rest) : T g ∧ g < w.heap.size := by
  obtain ⟨h2, v, h3, _⟩ := h
  exact ⟨h2, (Array.getElem?_eq_some_iff.1 h3).1⟩
theorem BoxAt.narrow (h : BoxAt d e t w T g xs rest) : BoxAt d e t w (fun k => T k ∧ k < w.heap.size) g xs rest := h.mono (fun _ h1 h2 => ⟨h2, h1⟩)
/-- Its cells, as a walk asks for them. -/
theorem BoxAt.cells (h : BoxAt d e t w T g xs rest) : T g ∧ g < w.heap.size ∧ ∃ A c, xs.length ≤ c ∧ xs.length ≤ 140737488355328 ∧ w.cell? ⟨g, 0, none⟩ = some (.slice A xs.length c) ∧ (∀ (j : Nat) u, rest[j]? = some u → w.cell? ⟨g, j + 1, none⟩ = some u) ∧
    (∀ j, w.frozen? ⟨g, j, none⟩ = false) ∧ w.heap[g]? = some (.cells (Value.slice A xs.length c :: rest).toArray t (0, 0)) ∧ Own d e w 0 NoT (.slice A xs.length c) xs ∧ ∀ k, (Value.slice A xs.length c).ownBlock = some k → T k ∧ k ≠ g := by
  obtain ⟨h2, v, h3, h4, h5⟩ := h
  obtain ⟨A, c, rfl, hc⟩ := h4.shape
  refine ⟨h2, (Array.getElem?_eq_some_iff.1 h3).1, A, c, hc, h4.1, ?_, fun j u hu => ?_, fun j => ?_, h3, h4, h5⟩
  · simp [World.cell?, h3]
  · simp [World.cell?, h3, hu]
  · simp [World.frozen?, h3]
/-- Its elements, as they are read. -/
theorem BoxAt.row (h : BoxAt d e t w T g xs rest) {A : Option Addr} {n c : Nat} (hc : w.cell? ⟨g, 0, none⟩ = some (.slice A n c)) : d.Row w T A xs := by
  obtain ⟨h2, v, h3, h4, h5⟩ := h
  obtain ⟨A', c', rfl, _⟩ := h4.shape
  have h6 : w.cell? ⟨g, 0, none⟩ = some (.slice A' xs.length c') := by simp [World.cell?, h3]
  rw [h6] at hc
  cases hc
  obtain ⟨A2, c2, he, _, _, hr⟩ := h4.K
  cases he
  intro i x hx
  obtain ⟨a, cs, rfl, _, k2, k3, k4⟩ := hr i x hx
  refine ⟨a, cs, rfl, ?_, k2, ?_, k4⟩
  · obtain ⟨h0, cells, h1, _⟩ := h4
    rcases h1.2 with ⟨h6, h7⟩ | ⟨g', cap, cur, h6, _⟩
    · have := (List.getElem?_eq_some_iff.1 hx).1; omega
    · cases h6; exact (h5 _ rfl).1
  · obtain ⟨h0, cells, h1, h2⟩ := h4
    obtain ⟨cs', q1, q2⟩ := h2.get i x hx
    have e1 : cs = cs' := by
      apply List.ext_getElem?
      intro j
      rcases h1.2 with ⟨h6, h7⟩ | ⟨g', cap, cur, h6, _⟩
      · have := (List.getElem?_eq_some_iff.1 hx).1; omega
      · cases h6
        by_cases hj : j < d.sz
        · have l1 : j < cs.length := by rw [d.len k3]; exact hj
          have l2 : j < cs'.length := by rw [d.len q1]; exact hj
          have r1 := k4 j _ (List.getElem?_eq_getElem l1)
          have r2 := h1.cells (g := g') rfl _ _ (q2 j _ (List.getElem?_eq_getElem l2))
          rw [r1] at r2
          rw [List.getElem?_eq_getElem l1, List.getElem?_eq_getElem l2]
          exact r2
        · rw [List.getElem?_eq_none (by rw [d.len k3]; omega), List.getElem?_eq_none (by rw [d.len q1]; omega)]
    subst e1
    exact d.mono (fun b hb _ => hb.1.elim) q1
/-- A new box. -/
theorem BoxAt.new (w : World) (rest : List Value) : BoxAt d e t (w.alloc (.cells (Value.slice none 0 0 :: rest).toArray t)) (fun k => w.heap.size ≤ k) w.heap.size [] rest :=
  ⟨Nat.le_refl _, .slice none 0 0, heap_alloc_new w _, Own.nil _ _ _ _ _, fun k hk => by cases hk⟩

/-- What is known behind an append to the box's row. -/
theorem BoxAt.grow {v v1 : Value} {ys : List α} {B : Nat} (hT : T g) (hW : Mod T w W) (hg : g < W.heap.size) (hB : B ≤ W.heap.size)
    (HH : W.heap[g]? = some (.cells (v :: rest).toArray t (0, 0))) (HNE : ∀ k, v.ownBlock = some k → T k ∧ k ≠ g) (hBT : ∀ k, B ≤ k → T k)
    (hO1 : Own d e w1 0 NoT v1 ys) (hg1 : W.grownBy w1 v.ownBlock) (hat : v1.ownBlock = v.ownBlock ∨ ∃ b, v1.ownBlock = some b ∧ W.heap.size ≤ b) :
    ∃ A1 m1 c1, v1 = .slice A1 m1 c1 ∧ g < w1.heap.size ∧ (∀ (j : Nat) u, (v :: rest)[j]? = some u → w1.cell? ⟨g, j, none⟩ = some u) ∧ (∀ j, w1.frozen? ⟨g, j, none⟩ = false) ∧
      Hid (w1.heap[g]? = some (.cells (v :: rest).toArray t (0, 0))) ∧ Hid (Mod T w w1) ∧ Hid (BoxAt d e t (w1.setCell ⟨g, 0, none⟩ (.slice A1 m1 c1)) T g ys rest) := by
  obtain ⟨A1, m1, c1, rfl, hm1, hc1⟩ := hO1.shape'
  have hng : some g ≠ v.ownBlock := fun e => (HNE g e.symm).2 rfl
  have hh1 : w1.heap[g]? = some (.cells (v :: rest).toArray t (0, 0)) := (hg1.block g hg hng).trans HH
  have hne : ∀ k, (Value.slice A1 m1 c1).ownBlock = some k → T k ∧ k ≠ g := fun k hk => by
    rcases hat with h | ⟨b, h, hb⟩
    · rw [h] at hk; exact HNE k hk
    · rw [h] at hk; injection hk with hk; exact ⟨hBT k (by omega), by omega⟩
  refine ⟨A1, m1, c1, rfl, (Array.getElem?_eq_some_iff.1 hh1).1, fun j u hu => ?_, fun j => by simp [World.frozen?, hh1], hh1, hW.grown hg1 (fun k hk _ => (HNE k hk).1), ?_⟩
  · simp only [World.cell?, hh1]
    simpa using hu
  · exact ⟨hT, .slice A1 m1 c1, by have := heap_set hh1 0 (.slice A1 m1 c1); simpa using this, hO1.setCell (p := ⟨g, 0, none⟩) (fun h => h) (fun e => (hne g e).2 rfl) _, hne⟩
end

/-- One element that was just laid, of a kind that leads nowhere. -/
theorem row_one {α : Type} {d : Kd α} {W : World} {b : Nat} {cs : List Value} {te : TypeId} {fr : Nat × Nat} {p : α} (hb : W.heap[b]? = some (.cells cs.toArray te fr)) (hp : ∀ S, d.K W S p cs) : d.Row W (fun k => k = b) (some ⟨b, 0, none⟩) [p] := by
  intro i x hx
  cases i with
  | zero =>
    obtain rfl : p = x := by simpa using hx
    exact ⟨⟨b, 0, none⟩, cs, rfl, rfl, (Array.getElem?_eq_some_iff.1 hb).1, hp _, fun j u hu => by
      rw [Nat.zero_mul, Nat.zero_add]
      exact World.news_of_block hb _ _ (by simpa using hu)⟩
  | succ i => simp at hx
theorem heap_at {W : World} {o : Obj} {k : Nat} (hk : k = W.heap.size) : (W.alloc o).heap[k]? = some o := by subst hk; exact heap_alloc_new _ _
theorem heap_old {W : World} {o v : Obj} {k : Nat} (hk : k < W.heap.size) (h : W.heap[k]? = some v) : (W.alloc o).heap[k]? = some v := (Below.heap_alloc _ _ _ hk).trans h
/-- v[:m], the capacity kept. -/
theorem Own.short {α : Type} {d : Kd α} {e : TypeId} {w : World} {base : Nat} {T : Nat → Prop} {A : Option Addr} {n c : Nat} {xs : List α} (h : Own d e w base T (.slice A n c) xs) (m : Nat) (hm : m ≤ n) (hn : n = xs.length) : Own d e w base T (.slice A m c) (xs.take m) := by
  obtain ⟨h0, cells, ⟨h1, h2⟩, h3⟩ := h
  have hl : (xs.take m).length = m := by rw [List.length_take]; omega
  refine ⟨by omega, cells.take (m * d.sz), ?_, (h3.split m).1.move (fun _ _ _ => rfl) (fun b hb _ => by cases A <;> exact hb)⟩
  rw [hl]
  rcases h2 with ⟨h2, h4⟩ | ⟨g, cap, cur, h2, hg, hh, hnc, hcm, hcs, ht⟩
  · injection h2 with h2 h5 h6
    subst h2 h6
    obtain rfl : m = 0 := by omega
    exact ⟨by simp, .inl ⟨rfl, rfl⟩⟩
  · injection h2 with h2 h5 h6
    subst h2 h6
    have e1 : m * d.sz ≤ xs.length * d.sz := Nat.mul_le_mul_right _ (by omega)
    refine ⟨by rw [List.length_take, h1]; omega, .inr ⟨g, c, cur, rfl, hg, hh, by omega, hcm, hcs, ?_⟩⟩
    rw [← ht, List.take_take, Nat.min_eq_left e1]
/-- copy of nothing. -/
theorem run_copy_zero {P : Program} {dT sT ty e : TypeId} (ht : P.underlying dT = some (.slice e)) {z : Option Value} {s bytes : Nat} (hinfo : (P.info? e).map (fun i => (i.zero, i.size, i.bytes)) = some (z, s, bytes)) (W : World) (dp A : Option Addr) (dLen dCap sCap : Nat) :
    (Builtin.copy_ #[dT, sT] ty #[.slice dp dLen dCap, .slice A 0 sCap]).run P W = .ok (.int .i64 0) W := by
  obtain ⟨i0, hi, hsz⟩ := Option.map_eq_some_iff.1 hinfo
  have hl : ∀ (x : Addr), (loadCells x 0).run P W = .ok #[] W := fun x => by simpa using run_loadCells_list (P := P) W x [] (by simp)
  cases dp <;> cases A <;> simp [Builtin.copy_, run_underlying ht, Builtin.lenOf, Builtin.firstCells, sizeOf, typeInfo, hi, storeCells, hl, goInt]
theorem cells_of_block {w : World} {g : Nat} {cs : Array Value} {t : TypeId} (h : w.heap[g]? = some (.cells cs t (0, 0))) : (∀ (j : Nat) u, cs[j]? = some u → w.cell? ⟨g, j, none⟩ = some u) ∧ (∀ j, w.frozen? ⟨g, j, none⟩ = false) ∧ g < w.heap.size :=
  ⟨fun j u hu => by simp [World.cell?, h, hu], fun j => by simp [World.frozen?, h], (Array.getElem?_eq_some_iff.1 h).1⟩
/-- A region that draws: n operations that only read, then a tail in a forced order. -/
theorem wp_tail {P : Program} {id : Nat} {Q : Exit → Act → World → Prop} {a : Act} {w : World} {l : List Oper} (n : Nat) (hm : P.follows .mixedOrders = true) (hB : Region.lexTailB .any l.toArray n = true)
    (h : wpStill P l.toArray w.drew (fun a' => wpList P l.toArray Q (l.drop n) a' w.drew) (l.take n) a) : (Code.region id l.toArray true).wp P Q a w := wp_region_still_tail n hm hB h
end Go.Proofs.Yteijgeofimcijaa
