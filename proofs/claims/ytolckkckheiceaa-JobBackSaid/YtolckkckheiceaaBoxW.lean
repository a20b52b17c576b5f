import Derived.Test.YtolckkckheiceaaLib
import Derived.Laws.CopyRow
import Derived.StillTailTactics
import Derived.Deep.RegionHeld3
/- What a call may have written: the blocks that satisfy F, and new ones. -/
namespace Go.Proofs.Ytolckkckheiceaa
open Go.RowKit

structure Mod (F : Nat → Prop) (w w' : World) : Prop where
  os : w'.os = w.os
  tape : w'.tape = w.tape
  output : w'.output = w.output
  size : w.heap.size ≤ w'.heap.size
  block : ∀ k, k < w.heap.size → ¬ F k → w'.heap[k]? = w.heap[k]?

section
variable {F F' : Nat → Prop} {w w1 w2 : World}
theorem Mod.refl (F : Nat → Prop) (w : World) : Mod F w w := ⟨rfl, rfl, rfl, Nat.le_refl _, fun _ _ _ => rfl⟩
theorem Mod.trans (h : Mod F w w1) (k : Mod F' w1 w2) (hF : ∀ k, k < w.heap.size → F' k → F k) : Mod F w w2 :=
  ⟨k.os.trans h.os, k.tape.trans h.tape, k.output.trans h.output, Nat.le_trans h.size k.size, fun i hi hn => (k.block i (Nat.lt_of_lt_of_le hi h.size) (fun q => hn (hF i hi q))).trans (h.block i hi hn)⟩
theorem Mod.mono (h : Mod F w w1) (hF : ∀ k, k < w.heap.size → F k → F' k) : Mod F' w w1 := ⟨h.os, h.tape, h.output, h.size, fun k hk hn => h.block k hk (fun q => hn (hF k hk q))⟩
theorem Mod.of_below (h : Below w.heap.size w w1) : Mod F w w1 := ⟨h.os, h.tape, h.output, h.size, fun k hk _ => h.block k hk⟩
theorem Mod.alloc (h : Mod F w w1) (o : Obj) : Mod F w (w1.alloc o) := h.trans (F' := F) (Mod.of_below ((Below.refl _ _).alloc (Nat.le_refl _) o)) (fun _ _ h => h)
theorem Mod.drew (h : Mod F w w1) : Mod F w w1.drew := ⟨h.os, h.tape, h.output, h.size, h.block⟩
theorem Mod.drewN (h : Mod F w w1) (n : Nat) : Mod F w (w1.drewN n) := ⟨h.os, h.tape, h.output, h.size, h.block⟩
theorem Mod.setCell (h : Mod F w w1) {p : Addr} (hp : p.block < w.heap.size → F p.block) (u : Value) : Mod F w (w1.setCell p u) :=
  h.trans (F' := fun k => k = p.block) ⟨rfl, rfl, rfl, by simp [World.setCell], fun k _ hn => Below.heap_setCell w1 p u k hn⟩ (fun k hk e => by subst e; exact hp hk)
theorem Mod.grown (h : Mod F w w1) {row : Option Nat} (hg : w1.grownBy w2 row) (hr : ∀ k, row = some k → k < w.heap.size → F k) : Mod F w w2 :=
  h.trans (F' := fun k => row = some k) ⟨hg.os, hg.tape, hg.output, hg.size, fun k hk hn => hg.block k hk (fun e => hn e.symm)⟩ (fun k hk e => hr k e hk)
theorem Mod.below {B : Nat} (h : Mod F w w1) (hB : ∀ k, k < w.heap.size → F k → B ≤ k) (hs : B ≤ w.heap.size) : Below B w w1 :=
  ⟨h.os, h.tape, h.output, h.size, fun k hk => h.block k (by omega) (fun q => by have := hB k (by omega) q; omega)⟩
theorem Mod.then_below (h : Mod F w w1) (k : Below w1.heap.size w1 w2) : Mod F w w2 := h.trans (F' := F) (Mod.of_below k) (fun _ _ h => h)
/-- What lies elsewhere stays. -/
theorem Kd.mod {α : Type} {d : Kd α} {S : Nat → Prop} {x : α} {cs : List Value} (h : d.K w S x cs) (hm : Mod F w w1) (hS : ∀ k, k < w.heap.size → S k → ¬ F k) : d.K w1 S x cs := d.move (fun b hb hl => hm.block b hl (hS b hl hb)) h
end

theorem below_mod {B : Nat} {F : Nat → Prop} {w w1 w2 : World} (h : Below B w w1) (k : Mod F w1 w2) (hF : ∀ i, F i → B ≤ i) (hB : B ≤ w1.heap.size) : Below B w w2 := h.trans (k.below (fun i _ hi => hF i hi) hB)
end Go.Proofs.Ytolckkckheiceaa
/- copy and make, onto rows of the call's own. -/
namespace Go.Proofs.Ytolckkckheiceaa
open Go.RowKit

section
variable {α : Type} {d : Kd α} {w w1 : World} {S S' : Nat → Prop} {xs : List α} {cs : List Value}
theorem Cells.split (h : Cells d w S xs cs) (k : Nat) : Cells d w S (xs.take k) (cs.take (k * d.sz)) ∧ Cells d w S (xs.drop k) (cs.drop (k * d.sz)) := by
  induction xs generalizing cs k with
  | nil =>
    rw [show cs = [] from h]
    simp only [List.take_nil, List.drop_nil]
    exact ⟨rfl, rfl⟩
  | cons x xs ih =>
    obtain ⟨c, r, rfl, h1, h2⟩ := h
    have hl := d.len h1
    cases k with
    | zero => simp only [Nat.zero_mul, List.take_zero, List.drop_zero]; exact ⟨rfl, c, r, rfl, h1, h2⟩
    | succ k =>
      obtain ⟨i1, i2⟩ := ih h2 k
      have e : (k + 1) * d.sz = c.length + k * d.sz := by rw [hl, Nat.add_mul]; omega
      rw [List.take_succ_cons, List.drop_succ_cons, e, List.take_append, List.drop_append]
      rw [List.take_of_length_le (show c.length ≤ c.length + k * d.sz by omega), List.drop_of_length_le (show c.length ≤ c.length + k * d.sz by omega), show c.length + k * d.sz - c.length = k * d.sz by omega]
      exact ⟨⟨c, _, rfl, h1, i1⟩, by simpa using i2⟩
end

/-- copy(v[k:..], ys): ys is read first, then laid over. -/
theorem Own.copy_run {P : Program} {α : Type} {d : Kd α} {W : World} {base : Nat} {dT sT ty e : TypeId}
    (ht : P.underlying dT = some (.slice e)) {z : Option Value} {bytes : Nat} (hinfo : (P.info? e).map (fun i => (i.zero, i.size, i.bytes)) = some (z, d.sz, bytes))
    {g n c : Nat} {xs ys : List α} {T Tr Tp : Nat → Prop} {dp A : Option Addr} {dLen dCap sLen sCap k m : Nat} (HO : Own d e W base T (.slice (some ⟨g, 0, none⟩) n c) xs) (hn : n = xs.length) (hm : m = Nat.min sLen dLen) (hys : ys.length = m) (hkm : k + m ≤ n)
    (hd : 0 < m → dp = some ⟨g, k * d.sz, none⟩) (hy : d.Row W Tr A ys) (hE : ∀ x cs, d.K W Tr x cs → d.K W Tp x cs) (hTp : ∀ b, Tp b → b < W.heap.size → T b ∧ b ≠ g) :
    ∃ w1, (Builtin.copy_ #[dT, sT] ty #[.slice dp dLen dCap, .slice A sLen sCap]).run P W = .ok (goInt m) w1 ∧ Own d e w1 base T (.slice (some ⟨g, 0, none⟩) n c) (xs.take k ++ ys ++ xs.drop (k + m)) ∧ W.grownBy w1 (some g) := by
  obtain ⟨i0, hi, hsz⟩ := Option.map_eq_some_iff.1 hinfo
  replace hsz : i0.size = d.sz := congrArg (fun p => p.2.1) hsz
  subst hn
  rcases Nat.eq_zero_or_pos m with h0 | h0
  · subst h0
    obtain rfl : ys = [] := List.eq_nil_of_length_eq_zero hys
    refine ⟨W, ?_, by simpa using HO, ⟨rfl, rfl, rfl, Nat.le_refl _, fun _ _ _ => rfl⟩⟩
    have hl : ∀ (x : Addr), (loadCells x 0).run P W = .ok #[] W := fun x => by simpa using run_loadCells_list (P := P) W x [] (by simp)
    cases dp <;> cases A <;> simp [Builtin.copy_, run_underlying ht, Builtin.lenOf, Builtin.firstCells, sizeOf, typeInfo, hi, ← hm, storeCells, hl]
  · obtain rfl := hd h0
    obtain ⟨h1, cells, hown, hr⟩ := HO
    obtain ⟨a, rfl⟩ : ∃ a, A = some a := by
      cases ys with
      | nil => simp at hys; omega
      | cons y ys => obtain ⟨a, _, h, _⟩ := hy 0 y rfl; exact ⟨a, h⟩
    obtain ⟨news, hc1, hc2⟩ := hy.cells
    rcases hown.2 with ⟨hv, _⟩ | ⟨g', cap, cur, hv, hbg, hg, hnc, hcm, hcs, htake⟩
    · cases hv
    · have hgg : g = g' ∧ c = cap := by injection hv with h1 h2 h3; injection h1 with h1; injection h1 with h1; exact ⟨h1, h3⟩
      obtain ⟨rfl, rfl⟩ := hgg
      have hnl : news.length = m * d.sz := by rw [hc1.len, hys]
      have hfit : k * d.sz + news.length ≤ cur.size := by
        rw [hnl, ← Nat.add_mul]
        exact Nat.le_trans (Nat.mul_le_mul_right _ (Nat.le_trans hkm hnc)) hcs
      have hst := run_storeCells_at P g (k * d.sz) e news 0 cur W hg (by simpa using hfit) hc1.one
      simp only [Nat.add_zero] at hst
      have hfc := run_firstCells_some (P := P) W d.sz m a sLen sCap news hnl hc2
      refine ⟨W.setRow g (cur.toList.take (k * d.sz) ++ news ++ cur.toList.drop (k * d.sz + news.length)).toArray, ?_, ?_, ?_⟩
      · generalize W.setRow g (cur.toList.take (k * d.sz) ++ news ++ cur.toList.drop (k * d.sz + news.length)).toArray = w9 at hst ⊢
        simp [Builtin.copy_, run_underlying ht, Builtin.lenOf, sizeOf, typeInfo, hi, hsz, ← hm, hfc, hst]
      · have hlen : (xs.take k ++ ys ++ xs.drop (k + m)).length = xs.length := by simp; omega
        refine ⟨by rw [hlen]; exact h1, cells.take (k * d.sz) ++ news ++ cells.drop ((k + m) * d.sz), ?_, ?_⟩
        · rw [hlen]
          refine ⟨?_, .inr ⟨g, c, _, rfl, hbg, setRow_heap W g cur _ e _ hg, hnc, hcm, ?_, ?_⟩⟩
          · simp only [List.length_append, List.length_take, List.length_drop, hown.1, hnl]
            rw [Nat.min_eq_left (Nat.mul_le_mul_right _ (by omega)), ← Nat.add_mul, ← Nat.sub_mul, ← Nat.add_mul]
            congr 1; omega
          · simp only [List.size_toArray, List.length_append, List.length_take, List.length_drop, Array.length_toList]
            omega
          · have e1 : (k + m) * d.sz = k * d.sz + news.length := by rw [hnl, Nat.add_mul]
            have e2 : k * d.sz ≤ xs.length * d.sz := Nat.mul_le_mul_right _ (by omega)
            have e3 : k * d.sz + news.length ≤ xs.length * d.sz := by rw [← e1]; exact Nat.mul_le_mul_right _ hkm
            rw [e1, ← htake, List.take_take, Nat.min_eq_left e2, List.drop_take]
            rw [List.take_append, List.take_append, List.length_append, List.length_take, Nat.min_eq_left (show k * d.sz ≤ cur.toList.length by rw [Array.length_toList]; omega), List.take_take, Nat.min_eq_right e2, List.take_of_length_le (show news.length ≤ xs.length * d.sz - k * d.sz by omega)]
        · have hne : ∀ b, some b ≠ (Value.slice (some ⟨g, 0, none⟩) xs.length c).ownBlock ↔ b ≠ g := fun b => by simp [Value.ownBlock]
          have hk : ∀ b, b ≠ g → (W.setRow g (cur.toList.take (k * d.sz) ++ news ++ cur.toList.drop (k * d.sz + news.length)).toArray).heap[b]? = W.heap[b]? := fun b hb => setRow_other W g b _ hb
          refine Cells.append (Cells.append ?_ ?_) ?_
          · exact (hr.split k).1.move (fun b hb _ => hk b ((hne b).1 hb.2)) (fun b hb _ => hb)
          · exact (hc1.imp hE).move (fun b hb hlt => hk b (hTp b hb hlt).2) (fun b hb hlt => ⟨(hTp b hb hlt).1, (hne b).2 (hTp b hb hlt).2⟩)
          · exact (hr.split (k + m)).2.move (fun b hb _ => hk b ((hne b).1 hb.2)) (fun b hb _ => hb)
      · exact ⟨rfl, rfl, rfl, by simp [World.setRow], fun b _ hb => setRow_other W g b _ (fun e => hb (by rw [e]))⟩

/-- v[:m:m]. -/
theorem Own.cut {α : Type} {d : Kd α} {e : TypeId} {w : World} {base : Nat} {T : Nat → Prop} {A : Option Addr} {n c : Nat} {xs : List α} (h : Own d e w base T (.slice A n c) xs) (m : Nat) (hm : m ≤ n) (hn : n = xs.length) : Own d e w base T (.slice A m m) (xs.take m) := by
  obtain ⟨h0, cells, ⟨h1, h2⟩, h3⟩ := h
  have hl : (xs.take m).length = m := by rw [List.length_take]; omega
  refine ⟨by omega, cells.take (m * d.sz), ?_, (h3.split m).1.move (fun _ _ _ => rfl) (fun b hb _ => by cases A <;> exact hb)⟩
  rw [hl]
  rcases h2 with ⟨h2, h4⟩ | ⟨g, cap, cur, h2, hg, hh, hnc, hcm, hcs, ht⟩
  · injection h2 with h2
    subst h2
    obtain rfl : m = 0 := by omega
    exact ⟨by simp, .inl ⟨rfl, rfl⟩⟩
  · injection h2 with h2 h5 h6
    subst h2 h6
    have e1 : m * d.sz ≤ xs.length * d.sz := Nat.mul_le_mul_right _ (by omega)
    have e2 : c * d.sz ≤ cur.size := hcs
    have e3 : m * d.sz ≤ c * d.sz := Nat.mul_le_mul_right _ (by omega)
    refine ⟨by rw [List.length_take, h1]; omega, .inr ⟨g, m, cur, rfl, hg, hh, Nat.le_refl _, by omega, by omega, ?_⟩⟩
    rw [← ht, List.take_take, Nat.min_eq_left e1]

section
variable {P : Program} {ops : Array Oper} {rest : List Oper} {o : Oper} {a : Act} {Q : Exit → Act → World → Prop} {α : Type}
theorem copy_arm (d : Kd α) {W : World} {base : Nat} (hgd : o.guard = none) (s x : Operand) (dT sT e : TypeId)
    (ho : o.op = .call { callee := .builtin .copy, args := #[s, x], argTypes := #[dT, sT] })
    (ht : P.underlying dT = some (.slice e)) {z : Option Value} {bytes : Nat} (hinfo : (P.info? e).map (fun i => (i.zero, i.size, i.bytes)) = some (z, d.sz, bytes))
    (g n c : Nat) (xs ys : List α) (T Tr Tp : Nat → Prop) (dp A : Option Addr) (dLen dCap sLen sCap k m : Nat) (hs : a.eval s = .slice dp dLen dCap) (hx : a.eval x = .slice A sLen sCap)
    (HO : Own d e W base T (.slice (some ⟨g, 0, none⟩) n c) xs) (hn : n = xs.length) (hm : m = Nat.min sLen dLen) (hys : ys.length = m) (hkm : k + m ≤ n)
    (hd : 0 < m → dp = some ⟨g, k * d.sz, none⟩) (hy : d.Row W Tr A ys) (hE : ∀ x cs, d.K W Tr x cs → d.K W Tp x cs) (hTp : ∀ b, Tp b → b < W.heap.size → T b ∧ b ≠ g)
    (h : ∀ w1, Own d e w1 base T (.slice (some ⟨g, 0, none⟩) n c) (xs.take k ++ ys ++ xs.drop (k + m)) → W.grownBy w1 (some g) → wpList P ops Q rest (a.put o.dst (.int .i64 m)) w1) :
    wpList P ops Q (o :: rest) a W := by
  obtain ⟨w1, hrun, h1, h2⟩ := Own.copy_run (ty := o.type) (sT := sT) (dCap := dCap) (sCap := sCap) ht hinfo HO hn hm hys hkm hd hy hE hTp
  refine wpList_plain hgd fun K hK => ?_
  unfold Oper.wp execOp
  simp only [ho, resolve, invoke, builtin, Sem.run_bind, Sem.run_pure, Result.andThen_ok, List.map_toArray, List.map_cons, List.map_nil, hs, hx, hrun]
  exact hK _ _ (h w1 h1 h2)
end

/-- What 'make([]T, n)' leaves, T of one cell, zero z. -/
theorem own_made {α : Type} {d : Kd α} {w : World} {base : Nat} {e : TypeId} {v : Value} {n : Nat} {zv : Value} {z : α} (h : w.ownsRow base e 1 v n (madeCells #[zv] n).toList) (hsz : d.sz = 1) (hz : ∀ S, d.K w S z [zv]) (hn : n ≤ 140737488355328) (T : Nat → Prop) :
    Own d e w base T v (List.replicate n z) := by
  have he : (madeCells #[zv] n).toList = List.replicate n zv := by
    apply List.ext_getElem
    · simp [madeCells]
    · intro i h1 h2
      simp [madeCells, Nat.mod_one]
  rw [he] at h
  refine ⟨by simpa using hn, _, by rw [hsz]; simpa using owns_of h, ?_⟩
  clear he h hn
  induction n with
  | zero => rfl
  | succ n ih => rw [List.replicate_succ, List.replicate_succ]; exact ⟨_, _, rfl, hz _, ih⟩

section
variable {P : Program} {ops : Array Oper} {rest : List Oper} {o : Oper} {a : Act} {Q : Exit → Act → World → Prop} {α : Type}
/-- make([]T, n), behind 'at_make'. -/
theorem make_arm (d : Kd α) {w0 W : World} (B base : Nat) (hgd : o.guard = none) (l c : Operand) (t e : TypeId) (hop : o.op = Op.makeSlice t l c) (zv : Value) (z : α) (bytes : Nat)
    (ht : P.underlying t = some (.slice e)) (hinfo : (P.info? e).map (fun i => (i.zero, i.size, i.bytes)) = some (some zv, 1, bytes)) (hsz : d.sz = 1) (hzc : zv.cells = #[zv]) (hz : ∀ w S, d.K w S z [zv]) (n : Nat) (N : Int)
    (hl : a.eval l = .int .i64 N) (hc : a.eval c = .int .i64 N) (hN : N = (n : Int)) (hb : bytes * n ≤ 281474976710656) (hn : n ≤ 140737488355328) (HB : Below B w0 W) (hbs : B ≤ W.heap.size) (hbase : base ≤ W.heap.size) (T : Nat → Prop)
    (h : ∀ w1, Own d e w1 base T (.slice (some ⟨W.heap.size, 0, none⟩) n n) (List.replicate n z) → Below B w0 w1 → W.grownBy w1 none → wpList P ops Q rest (a.put o.dst (.slice (some ⟨W.heap.size, 0, none⟩) n n)) w1) :
    wpList P ops Q (o :: rest) a W := by
  obtain ⟨i, hi, hz0, hz1, hz2⟩ := info_parts hinfo
  refine wpList_make_full W hgd l c t hop base e i zv 1 ht hi hz0 hz1 .i64 .i64 N N n hl hc hN hN (by rw [hz2]; exact hb) (by simp only [maxLen]; omega) hbase ?_
  intro w1 hown hg
  rw [hzc, Nat.mul_one] at hown
  exact h w1 (own_made hown hsz (hz w1) hn T) (HB.grown hg hbs (fun k hk => by cases hk)) hg
end

end Go.Proofs.Ytolckkckheiceaa
/- A struct in a block, its first field a slice of the call's own whose elements lead nowhere. No Go program in sight. -/
namespace Go.Proofs.Ytolckkckheiceaa
open Go.RowKit

def NoT : Nat → Prop := fun _ => False

section
variable {α : Type} {d : Kd α} {e t : TypeId} {w w1 W : World} {T T' : Nat → Prop} {g : Nat} {xs : List α} {rest : List Value}
/-- Block g: a slice of xs (its row in T, not g) and then the cells 'rest'. -/
def BoxAt (d : Kd α) (e t : TypeId) (w : World) (T : Nat → Prop) (g : Nat) (xs : List α) (rest : List Value) : Prop :=
  T g ∧ ∃ v, w.heap[g]? = some (.cells (v :: rest).toArray t (0, 0)) ∧ Own d e w 0 NoT v xs ∧ ∀ k, v.ownBlock = some k → T k ∧ k ≠ g

theorem BoxAt.mono (h : BoxAt d e t w T g xs rest) (hT : ∀ k, k < w.heap.size → T k → T' k) : BoxAt d e t w T' g xs rest := by
  obtain ⟨h2, v, h3, h4, h5⟩ := h
  exact ⟨hT g (Array.getElem?_eq_some_iff.1 h3).1 h2, v, h3, h4, fun k hk => ⟨hT k (h4.lt k hk).2 (h5 k hk).1, (h5 k hk).2⟩⟩
theorem BoxAt.move (h : BoxAt d e t w T g xs rest) (hm : ∀ k, k < w.heap.size → T k → w1.heap[k]? = w.heap[k]?) : BoxAt d e t w1 T g xs rest := by
  obtain ⟨h2, v, h3, h4, h5⟩ := h
  exact ⟨h2, v, (hm g (Array.getElem?_eq_some_iff.1 h3).1 h2).trans h3, h4.move (fun b hb hl => hb.elim (fun h => h.elim) (fun h => hm b hl (h5 b h).1)) (fun _ h _ => h), h5⟩
theorem BoxAt.below (h : BoxAt d e t w T g xs rest) (hb : Below w.heap.size w w1) : BoxAt d e t w1 T g xs rest := h.move (fun k hk _ => hb.block k hk)
theorem BoxAt.lt (h : BoxAt d e t w T g xs rest) : T g ∧ g < w.heap.size := by
  obtain ⟨h2, v, h3, _⟩ := h
  exact ⟨h2, (Array.getElem?_eq_some_iff.1 h3).1⟩
theorem BoxAt.narrow (h : BoxAt d e t w T g xs rest) : BoxAt d e t w (fun k => T k ∧ k < w.heap.size) g xs rest := h.mono (fun _ h1 h2 => ⟨h2, h1⟩)
/-- Its cells, as a walk asks for them. -/
theorem BoxAt.cells (h : BoxAt d e t w T g xs rest) : T g ∧ g < w.heap.size ∧ ∃ A c, xs.length ≤ c ∧ xs.length ≤ 140737488355328 ∧ w.cell? ⟨g, 0, none⟩ = some (.slice A xs.length c) ∧ (∀ (j : Nat) u, rest[j]? = some u → w.cell? ⟨g, j + 1, none⟩ = some u) ∧
    (∀ j, w.frozen? ⟨g, j, none⟩ = false) ∧ w.heap[g]? = some (.cells (Value.slice A xs.length c :: rest).toArray t (0, 0)) ∧ Own d e w 0 NoT (.slice A xs.length c) xs ∧ ∀ k, (Value.slice A xs.length c).ownBlock = some k → T k ∧ k ≠ g := by
  obtain ⟨h2, v, h3, h4, h5⟩ := h
  obtain ⟨A, c, rfl, hc⟩ := h4.shape
  refine ⟨h2, (Array.getElem?_eq_some_iff.1 h3).1, A, c, hc, h4.1, ?_, fun j u hu => ?_, fun j => ?_, h3, h4, h5⟩
  · simp [World.cell?, h3]
  · simp [World.cell?, h3, hu]
  · simp [World.frozen?, h3]
/-- Its elements, as they are read. -/
theorem BoxAt.row (h : BoxAt d e t w T g xs rest) {A : Option Addr} {n c : Nat} (hc : w.cell? ⟨g, 0, none⟩ = some (.slice A n c)) : d.Row w T A xs := by
  obtain ⟨h2, v, h3, h4, h5⟩ := h
  obtain ⟨A', c', rfl, _⟩ := h4.shape
  have h6 : w.cell? ⟨g, 0, none⟩ = some (.slice A' xs.length c') := by simp [World.cell?, h3]
  rw [h6] at hc
  cases hc
  obtain ⟨A2, c2, he, _, _, hr⟩ := h4.K
  cases he
  intro i x hx
  obtain ⟨a, cs, rfl, _, k2, k3, k4⟩ := hr i x hx
  refine ⟨a, cs, rfl, ?_, k2, ?_, k4⟩
  · obtain ⟨h0, cells, h1, _⟩ := h4
    rcases h1.2 with ⟨h6, h7⟩ | ⟨g', cap, cur, h6, _⟩
    · have := (List.getElem?_eq_some_iff.1 hx).1; omega
    · cases h6; exact (h5 _ rfl).1
  · obtain ⟨h0, cells, h1, h2⟩ := h4
    obtain ⟨cs', q1, q2⟩ := h2.get i x hx
    have e1 : cs = cs' := by
      apply List.ext_getElem?
      intro j
      rcases h1.2 with ⟨h6, h7⟩ | ⟨g', cap, cur, h6, _⟩
      · have := (List.getElem?_eq_some_iff.1 hx).1; omega
      · cases h6
        by_cases hj : j < d.sz
        · have l1 : j < cs.length := by rw [d.len k3]; exact hj
          have l2 : j < cs'.length := by rw [d.len q1]; exact hj
          have r1 := k4 j _ (List.getElem?_eq_getElem l1)
          have r2 := h1.cells (g := g') rfl _ _ (q2 j _ (List.getElem?_eq_getElem l2))
          rw [r1] at r2
          rw [List.getElem?_eq_getElem l1, List.getElem?_eq_getElem l2]
          exact r2
        · rw [List.getElem?_eq_none (by rw [d.len k3]; omega), List.getElem?_eq_none (by rw [d.len q1]; omega)]
    subst e1
    exact d.mono (fun b hb _ => hb.1.elim) q1
/-- A new box. -/
theorem BoxAt.new (w : World) (rest : List Value) : BoxAt d e t (w.alloc (.cells (Value.slice none 0 0 :: rest).toArray t)) (fun k => w.heap.size ≤ k) w.heap.size [] rest :=
  ⟨Nat.le_refl _, .slice none 0 0, heap_alloc_new w _, Own.nil _ _ _ _ _, fun k hk => by cases hk⟩

/-- What is known behind an append to the box's row. -/
theorem BoxAt.grow {v v1 : Value} {ys : List α} {B : Nat} (hT : T g) (hW : Mod T w W) (hg : g < W.heap.size) (hB : B ≤ W.heap.size)
    (HH : W.heap[g]? = some (.cells (v :: rest).toArray t (0, 0))) (HNE : ∀ k, v.ownBlock = some k → T k ∧ k ≠ g) (hBT : ∀ k, B ≤ k → T k)
    (hO1 : Own d e w1 0 NoT v1 ys) (hg1 : W.grownBy w1 v.ownBlock) (hat : v1.ownBlock = v.ownBlock ∨ ∃ b, v1.ownBlock = some b ∧ W.heap.size ≤ b) :
    ∃ A1 m1 c1, v1 = .slice A1 m1 c1 ∧ g < w1.heap.size ∧ (∀ (j : Nat) u, (v :: rest)[j]? = some u → w1.cell? ⟨g, j, none⟩ = some u) ∧ (∀ j, w1.frozen? ⟨g, j, none⟩ = false) ∧
      Hid (w1.heap[g]? = some (.cells (v :: rest).toArray t (0, 0))) ∧ Hid (Mod T w w1) ∧ Hid (BoxAt d e t (w1.setCell ⟨g, 0, none⟩ (.slice A1 m1 c1)) T g ys rest) := by
  obtain ⟨A1, m1, c1, rfl, hm1, hc1⟩ := hO1.shape'
  have hng : some g ≠ v.ownBlock := fun e => (HNE g e.symm).2 rfl
  have hh1 : w1.heap[g]? = some (.cells (v :: rest).toArray t (0, 0)) := (hg1.block g hg hng).trans HH
  have hne : ∀ k, (Value.slice A1 m1 c1).ownBlock = some k → T k ∧ k ≠ g := fun k hk => by
    rcases hat with h | ⟨b, h, hb⟩
    · rw [h] at hk; exact HNE k hk
    · rw [h] at hk; injection hk with hk; exact ⟨hBT k (by omega), by omega⟩
  refine ⟨A1, m1, c1, rfl, (Array.getElem?_eq_some_iff.1 hh1).1, fun j u hu => ?_, fun j => by simp [World.frozen?, hh1], hh1, hW.grown hg1 (fun k hk _ => (HNE k hk).1), ?_⟩
  · simp only [World.cell?, hh1]
    simpa using hu
  · exact ⟨hT, .slice A1 m1 c1, by have := heap_set hh1 0 (.slice A1 m1 c1); simpa using this, hO1.setCell (p := ⟨g, 0, none⟩) (fun h => h) (fun e => (hne g e).2 rfl) _, hne⟩
end

/-- One element that was just laid, of a kind that leads nowhere. -/
theorem row_one {α : Type} {d : Kd α} {W : World} {b : Nat} {cs : List Value} {te : TypeId} {fr : Nat × Nat} {p : α} (hb : W.heap[b]? = some (.cells cs.toArray te fr)) (hp : ∀ S, d.K W S p cs) : d.Row W (fun k => k = b) (some ⟨b, 0, none⟩) [p] := by
  intro i x hx
  cases i with
  | zero =>
    obtain rfl : p = x := by simpa using hx
    exact ⟨⟨b, 0, none⟩, cs, rfl, rfl, (Array.getElem?_eq_some_iff.1 hb).1, hp _, fun j u hu => by
      rw [Nat.zero_mul, Nat.zero_add]
      exact World.news_of_block hb _ _ (by simpa using hu)⟩
  | succ i => simp at hx
theorem heap_at {W : World} {o : Obj} {k : Nat} (hk : k = W.heap.size) : (W.alloc o).heap[k]? = some o := by subst hk; exact heap_alloc_new _ _
theorem heap_old {W : World} {o v : Obj} {k : Nat} (hk : k < W.heap.size) (h : W.heap[k]? = some v) : (W.alloc o).heap[k]? = some v := (Below.heap_alloc _ _ _ hk).trans h
/-- v[:m], the capacity kept. -/
theorem Own.short {α : Type} {d : Kd α} {e : TypeId} {w : World} {base : Nat} {T : Nat → Prop} {A : Option Addr} {n c : Nat} {xs : List α} (h : Own d e w base T (.slice A n c) xs) (m : Nat) (hm : m ≤ n) (hn : n = xs.length) : Own d e w base T (.slice A m c) (xs.take m) := by
  obtain ⟨h0, cells, ⟨h1, h2⟩, h3⟩ := h
  have hl : (xs.take m).length = m := by rw [List.length_take]; omega
  refine ⟨by omega, cells.take (m * d.sz), ?_, (h3.split m).1.move (fun _ _ _ => rfl) (fun b hb _ => by cases A <;> exact hb)⟩
  rw [hl]
  rcases h2 with ⟨h2, h4⟩ | ⟨g, cap, cur, h2, hg, hh, hnc, hcm, hcs, ht⟩
  · injection h2 with h2 h5 h6
    subst h2 h6
    obtain rfl : m = 0 := by omega
    exact ⟨by simp, .inl ⟨rfl, rfl⟩⟩
  · injection h2 with h2 h5 h6
    subst h2 h6
    have e1 : m * d.sz ≤ xs.length * d.sz := Nat.mul_le_mul_right _ (by omega)
    refine ⟨by rw [List.length_take, h1]; omega, .inr ⟨g, c, cur, rfl, hg, hh, by omega, hcm, hcs, ?_⟩⟩
    rw [← ht, List.take_take, Nat.min_eq_left e1]
/-- copy of nothing. -/
theorem run_copy_zero {P : Program} {dT sT ty e : TypeId} (ht : P.underlying dT = some (.slice e)) {z : Option Value} {s bytes : Nat} (hinfo : (P.info? e).map (fun i => (i.zero, i.size, i.bytes)) = some (z, s, bytes)) (W : World) (dp A : Option Addr) (dLen dCap sCap : Nat) :
    (Builtin.copy_ #[dT, sT] ty #[.slice dp dLen dCap, .slice A 0 sCap]).run P W = .ok (.int .i64 0) W := by
  obtain ⟨i0, hi, hsz⟩ := Option.map_eq_some_iff.1 hinfo
  have hl : ∀ (x : Addr), (loadCells x 0).run P W = .ok #[] W := fun x => by simpa using run_loadCells_list (P := P) W x [] (by simp)
  cases dp <;> cases A <;> simp [Builtin.copy_, run_underlying ht, Builtin.lenOf, Builtin.firstCells, sizeOf, typeInfo, hi, storeCells, hl, goInt]
theorem cells_of_block {w : World} {g : Nat} {cs : Array Value} {t : TypeId} (h : w.heap[g]? = some (.cells cs t (0, 0))) : (∀ (j : Nat) u, cs[j]? = some u → w.cell? ⟨g, j, none⟩ = some u) ∧ (∀ j, w.frozen? ⟨g, j, none⟩ = false) ∧ g < w.heap.size :=
  ⟨fun j u hu => by simp [World.cell?, h, hu], fun j => by simp [World.frozen?, h], (Array.getElem?_eq_some_iff.1 h).1⟩
/-- A region that draws: n operations that only read, then a tail in a forced order. -/
theorem wp_tail {P : Program} {id : Nat} {Q : Exit → Act → World → Prop} {a : Act} {w : World} {l : List Oper} (n : Nat) (hm : P.follows .mixedOrders = true) (hB : Region.lexTailB .any l.toArray n = true)
    (h : wpStill P l.toArray w.drew (fun a' => wpList P l.toArray Q (l.drop n) a' w.drew) (l.take n) a) : (Code.region id l.toArray true).wp P Q a w := wp_region_still_tail n hm hB h
end Go.Proofs.Ytolckkckheiceaa
/- A store into an element of a row of the call's own. No Go program in sight. -/
namespace Go.Proofs.Ytolckkckheiceaa
open Go.RowKit

theorem Cells.set {α : Type} {d : Kd α} {w : World} {S : Nat → Prop} {xs : List α} {cs : List Value} (h : Cells d w S xs cs) (i : Nat) (x y : α) (hx : xs[i]? = some x) (j : Nat) (hj : j < d.sz) (u : Value) (hK : ∀ cs, d.K w S x cs → d.K w S y (cs.set j u)) :
    Cells d w S (xs.set i y) (cs.set (i * d.sz + j) u) := by
  induction xs generalizing cs i with
  | nil => simp at hx
  | cons z xs ih =>
    obtain ⟨c, r, rfl, h1, h2⟩ := h
    have hl := d.len h1
    cases i with
    | zero =>
      obtain rfl : z = x := by simpa using hx
      refine ⟨c.set j u, r, ?_, hK _ h1, h2⟩
      rw [Nat.zero_mul, Nat.zero_add, List.set_append_left _ _ (by omega)]
    | succ i =>
      refine ⟨c, r.set (i * d.sz + j) u, ?_, h1, ih h2 i (by simpa using hx)⟩
      rw [Nat.add_mul, Nat.one_mul, List.set_append_right _ _ (by omega)]
      congr 2; omega
theorem Own.set {α : Type} {d : Kd α} {e : TypeId} {w : World} {base : Nat} {T : Nat → Prop} {g m c : Nat} {xs : List α} (h : Own d e w base T (.slice (some ⟨g, 0, none⟩) m c) xs) (i : Nat) (x y : α) (hx : xs[i]? = some x) (j : Nat) (hj : j < d.sz) (u : Value)
    (hK : ∀ w S cs, d.K w S x cs → d.K w S y (cs.set j u)) (p : Addr) (hp : p = ⟨g, i * d.sz + j, none⟩) : Own d e (w.setCell p u) base T (.slice (some ⟨g, 0, none⟩) m c) (xs.set i y) := by
  subst hp
  obtain ⟨h0, cells, hown, hr⟩ := h
  refine ⟨by rw [List.length_set]; exact h0, cells.set (i * d.sz + j) u, ?_, ?_⟩
  · rw [List.length_set]
    refine ⟨by rw [List.length_set]; exact hown.1, ?_⟩
    rcases hown.2 with ⟨h1, _⟩ | ⟨g', cap, cur, h1, hg, hh, hnc, hcm, hcs, ht⟩
    · cases h1
    · cases h1
      refine .inr ⟨g, _, cur.setIfInBounds (i * d.sz + j) u, rfl, hg, heap_set hh _ _, hnc, hcm, by simpa using hcs, ?_⟩
      rw [Array.toList_setIfInBounds, List.take_set, ht]
  · exact (Cells.set hr i x y hx j hj u (fun cs => hK _ _ cs)).move (fun b hb _ => Below.heap_setCell w ⟨g, i * d.sz + j, none⟩ u b (fun e => hb.2 (by rw [e]; rfl))) (fun b hb _ => hb)
/-- Its cells may be written. -/
theorem Own.free {α : Type} {d : Kd α} {e : TypeId} {w : World} {base : Nat} {T : Nat → Prop} {g m c : Nat} {xs : List α} (h : Own d e w base T (.slice (some ⟨g, 0, none⟩) m c) xs) : g < w.heap.size ∧ base ≤ g ∧ ∀ j, w.frozen? ⟨g, j, none⟩ = false := by
  obtain ⟨_, cells, h1, _⟩ := h
  rcases h1.2 with ⟨h3, _⟩ | ⟨g', cap, cur, h3, hb, h5, _⟩
  · cases h3
  · cases h3
    exact ⟨(Array.getElem?_eq_some_iff.1 h5).1, hb, fun j => by simp [World.frozen?, h5]⟩
theorem Own.first {α : Type} {d : Kd α} {e : TypeId} {w : World} {base : Nat} {T : Nat → Prop} {A : Option Addr} {n c : Nat} {xs : List α} (h : Own d e w base T (.slice A n c) xs) (hn : 0 < xs.length) : ∃ b, A = some ⟨b, 0, none⟩ ∧ b < w.heap.size := by
  obtain ⟨_, cells, h1, _⟩ := h
  rcases h1.2 with ⟨h3, h4⟩ | ⟨g, cap, cur, h3, _, h5, _⟩
  · omega
  · injection h3 with h3
    subst h3
    exact ⟨g, rfl, (Array.getElem?_eq_some_iff.1 h5).1⟩
end Go.Proofs.Ytolckkckheiceaa
/- A region that draws: what is held of the world may grow on the way. No Go program in sight. -/
namespace Go.Proofs.Ytolckkckheiceaa

theorem wpAnyH_more {P : Program} {md : Region.Mode} {ops : Array Oper} {Q : Exit → Act → World → Prop} {S S1 : World → Prop} (h : ∀ w, S1 w → S w) :
    ∀ (fuel : Nat) (listed : Array Bool) (a : Act) (w : World), wpAnyH P md ops Q S1 fuel listed a w → wpAnyH P md ops Q S fuel listed a w
  | 0, _, _, _, k => k
  | fuel + 1, _, _, _, k => ⟨k.1, fun i hi => wpOp_mono (fun a' w' q => ⟨h _ q.1, wpAnyH_more h fuel _ a' w' q.2⟩) (k.2 i hi)⟩
/-- Number i first: it yields v in every world that meets S. -/
theorem anyH_take {P : Program} {md : Region.Mode} {l : List Oper} {Q : Exit → Act → World → Prop} {S : World → Prop} {oi : Oper} {v : Value} {fuel : Nat} {listed : Array Bool} {a : Act} {w : World} (i : Nat) (hi : l[i]? = some oi)
    (hs : Region.noSelect l.toArray = true) (hf : Region.free md l.toArray listed i = true) (hr : (Region.ready md l.toArray listed).contains i = true)
    (hQ : ∀ c a w, Q (.panic c) (a.put oi.dst v) w → Q (.panic c) a w) (hw : Region.wanted oi (yielded l.toArray a.tmps) = true) (hS : S w) (hv : ∀ w, S w → (execOp a.eval oi).run P w = .ok (.value v) w)
    (h : wpAnyH P md l.toArray Q S fuel (listed.setIfInBounds i true) (a.put oi.dst v) w) : wpAnyH P md l.toArray Q S (fuel + 1) listed a w :=
  wpAnyH_take (i := i) (oi := oi) (v := v) (by simpa using hi) hs hf hr hQ (.inl ⟨hw, hv⟩) hS h
/-- Number i alone may come up. -/
theorem anyH_one {P : Program} {md : Region.Mode} {l : List Oper} {Q : Exit → Act → World → Prop} {S : World → Prop} {o : Oper} {fuel : Nat} {listed : Array Bool} {a : Act} {w : World} (i : Nat) (ho : l[i]? = some o)
    (hr : Region.ready md l.toArray listed = [i])
    (h : ∀ K' : Act → World → Prop, Shut (∀ a w, S w → (S w → wpAnyH P md l.toArray Q S fuel (listed.setIfInBounds i true) a w) → K' a w) → if Region.wanted o (yielded l.toArray a.tmps) = true then Oper.wp P o a w K' Q else K' (a.put o.dst undef) w) :
    wpAnyH P md l.toArray Q S (fuel + 1) listed a w := wpAnyH_ready (rs := [i]) hr (by simp) (AllReadyH.cons (by simpa using ho) h AllReadyH.nil)
end Go.Proofs.Ytolckkckheiceaa
/- A region that draws: an operation whose guard fails. No Go program in sight. -/
namespace Go.Proofs.Ytolckkckheiceaa

/-- Number i is not wanted (its guard fails). -/
theorem anyH_skip {P : Program} {md : Region.Mode} {l : List Oper} {Q : Exit → Act → World → Prop} {S : World → Prop} {oi : Oper} {fuel : Nat} {listed : Array Bool} {a : Act} {w : World} (i : Nat) (hi : l[i]? = some oi)
    (hs : Region.noSelect l.toArray = true) (hf : Region.free md l.toArray listed i = true) (hr : (Region.ready md l.toArray listed).contains i = true)
    (hQ : ∀ c a w, Q (.panic c) (a.put oi.dst undef) w → Q (.panic c) a w) (hw : Region.wanted oi (yielded l.toArray a.tmps) = false) (hS : S w)
    (h : wpAnyH P md l.toArray Q S fuel (listed.setIfInBounds i true) (a.put oi.dst undef) w) : wpAnyH P md l.toArray Q S (fuel + 1) listed a w :=
  wpAnyH_take (i := i) (oi := oi) (v := undef) (by simpa using hi) hs hf hr hQ (.inr ⟨hw, rfl⟩) hS h
end Go.Proofs.Ytolckkckheiceaa
