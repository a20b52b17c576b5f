/- copy and make, onto rows of the call's own. -/
import Derived.Test.YteijgeofimcijaaMod
import Derived.Laws.CopyRow
namespace Go.Proofs.Yteijgeofimcijaa
open Go.RowKit

section
variable {α : Type} {d : Kd α} {w w1 : World} {S S' : Nat → Prop} {xs : List α} {cs : List Value}
theorem Cells.split (h : Cells d w S xs cs) (k : Nat) : Cells d w S (xs.take k) (cs.take (k * d.sz)) ∧ Cells d w S (xs.drop k) (cs.drop (k * d.sz)) := by
  induction xs generalizing cs k with
  | nil =>
    rw [show cs = [] from h]
    simp only [List.take_nil, List.drop_nil]
    exact ⟨rfl, rfl⟩
  | cons x xs ih =>
    obtain ⟨c, r, rfl, h1, h2⟩ := h
    have hl := d.len h1
    cases k with
    | zero => simp only [Nat.zero_mul, List.take_zero, List.drop_zero]; exact ⟨rfl, c, r, rfl, h1, h2⟩
    | succ k =>
      obtain ⟨i1, i2⟩ := ih h2 k
      have e : (k + 1) * d.sz = c.length + k * d.sz := by rw [hl, Nat.add_mul]; omega
      rw [List.take_succ_cons, List.drop_succ_cons, e, List.take_append, List.drop_append]
      rw [List.take_of_length_le (show c.length ≤ c.length + k * d.sz by omega), List.drop_of_length_le (show c.length ≤ c.length + k * d.sz by omega), show c.length + k * d.sz - c.length = k * d.sz by omega]
      exact ⟨⟨c, _, rfl, h1, i1⟩, by simpa using i2⟩
end

/-- copy(v[k:..], ys): ys is read first, then laid over. -/
theorem Own.copy_run {P : Program} {α : Type} {d : Kd α} {W : World} {base : Nat} {dT sT ty e : TypeId}
    (ht : P.underlying dT = some (.slice e)) {z : Option Value} {bytes : Nat} (hinfo : (P.info? e).map (fun i => (i.zero, i.size, i.bytes)) = some (z, d.sz, bytes))
    {g n c : Nat} {xs ys : List α} {T Tr Tp : Nat → Prop} {dp A : Option Addr} {dLen dCap sLen sCap k m : Nat} (HO : Own d e W base T (.slice (some ⟨g, 0, none⟩) n c) xs) (hn : n = xs.length) (hm : m = Nat.min sLen dLen) (hys : ys.length = m) (hkm : k + m ≤ n)
    (hd : 0 < m → dp = some ⟨g, k * d.sz, none⟩) (hy : d.Row W Tr A ys) (hE : ∀ x cs, d.K W Tr x cs → d.K W Tp x cs) (hTp : ∀ b, Tp b → b < W.heap.size → T b ∧ b ≠ g) :
    ∃ w1, (Builtin.copy_ #[dT, sT] ty #[.slice dp dLen dCap, .slice A sLen sCap]).run P W = .ok (goInt m) w1 ∧ Own d e w1 base T (.slice (some ⟨g, 0, none⟩) n c) (xs.take k ++ ys ++ xs.drop (k + m)) ∧ W.grownBy w1 (some g) := by
  obtain ⟨i0, hi, hsz⟩ := Option.map_eq_some_iff.1 hinfo
  replace hsz : i0.size = d.sz := congrArg (fun p => p.2.1) hsz
  subst hn
  rcases Nat.eq_zero_or_pos m with h0 | h0
  · subst h0
    obtain rfl : ys = [] := List.eq_nil_of_length_eq_zero hys
    refine ⟨W, ?_, by simpa using HO, ⟨rfl, rfl, rfl, Nat.le_refl _, fun _ _ _ => rfl⟩⟩
    have hl : ∀ (x : Addr), (loadCells x 0).run P W = .ok #[] W := fun x => by simpa using run_loadCells_list (P := P) W x [] (by simp)
    cases dp <;> cases A <;> simp [Builtin.copy_, run_underlying ht, Builtin.lenOf, Builtin.firstCells, sizeOf, typeInfo, hi, ← hm, storeCells, hl]
  · obtain rfl := hd h0
    obtain ⟨h1, cells, hown, hr⟩ := HO
    obtain ⟨a, rfl⟩ : ∃ a, A = some a := by
      cases ys with
      | nil => simp at hys; omega
      | cons y ys => obtain ⟨a, _, h, _⟩ := hy 0 y rfl; exact ⟨a, h⟩
    obtain ⟨news, hc1, hc2⟩ := hy.cells
    rcases hown.2 with ⟨hv, _⟩ | ⟨g', cap, cur, hv, hbg, hg, hnc, hcm, hcs, htake⟩
    · cases hv
    · have hgg : g = g' ∧ c = cap := by injection hv with h1 h2 h3; injection h1 with h1; injection h1 with h1; exact ⟨h1, h3⟩
      obtain ⟨rfl, rfl⟩ := hgg
      have hnl : news.length = m * d.sz := by rw [hc1.len, hys]
      have hfit : k * d.sz + news.length ≤ cur.size := by
        rw [hnl, ← Nat.add_mul]
        exact Nat.le_trans (Nat.mul_le_mul_right _ (Nat.le_trans hkm hnc)) hcs
      have hst := run_storeCells_at P g (k * d.sz) e news 0 cur W hg (by simpa using hfit) hc1.one
      simp only [Nat.add_zero] at hst
      have hfc := run_firstCells_some (P := P) W d.sz m a sLen sCap news hnl hc2
      refine ⟨W.setRow g (cur.toList.take (k * d.sz) ++ news ++ cur.toList.drop (k * d.sz + news.length)).toArray, ?_, ?_, ?_⟩
      · generalize W.setRow g (cur.toList.take (k * d.sz) ++ news ++ cur.toList.drop (k * d.sz + news.length)).toArray = w9 at hst ⊢
        simp [Builtin.copy_, run_underlying ht, Builtin.lenOf, sizeOf, typeInfo, hi, hsz, ← hm, hfc, hst]
      · have hlen : (xs.take k ++ ys ++ xs.drop (k + m)).length = xs.length := by simp; omega
        refine ⟨by rw [hlen]; exact h1, cells.take (k * d.sz) ++ news ++ cells.drop ((k + m) * d.sz), ?_, ?_⟩
        · rw [hlen]
          refine ⟨?_, .inr ⟨g, c, _, rfl, hbg, setRow_heap W g cur _ e _ hg, hnc, hcm, ?_, ?_⟩⟩
          · simp only [List.length_append, List.length_take, List.length_drop, hown.1, hnl]
            rw [Nat.min_eq_left (Nat.mul_le_mul_right _ (by omega)), ← Nat.add_mul, ← Nat.sub_mul, ← Nat.add_mul]
            congr 1; omega
          · simp only [List.size_toArray, List.length_append, List.length_take, List.length_drop, Array.length_toList]
            omega
          · have e1 : (k + m) * d.sz = k * d.sz + news.length := by rw [hnl, Nat.add_mul]
            have e2 : k * d.sz ≤ xs.length * d.sz := Nat.mul_le_mul_right _ (by omega)
            have e3 : k * d.sz + news.length ≤ xs.length * d.sz := by rw [← e1]; exact Nat.mul_le_mul_right _ hkm
            rw [e1, ← htake, List.take_take, Nat.min_eq_left e2, List.drop_take]
            rw [List.take_append, List.take_append, List.length_append, List.length_take, Nat.min_eq_left (show k * d.sz ≤ cur.toList.length by rw [Array.length_toList]; omega), List.take_take, Nat.min_eq_right e2, List.take_of_length_le (show news.length ≤ xs.length * d.sz - k * d.sz by omega)]
        · have hne : ∀ b, some b ≠ (Value.slice (some ⟨g, 0, none⟩) xs.length c).ownBlock ↔ b ≠ g := fun b => by simp [Value.ownBlock]
          have hk : ∀ b, b ≠ g → (W.setRow g (cur.toList.take (k * d.sz) ++ news ++ cur.toList.drop (k * d.sz + news.length)).toArray).heap[b]? = W.heap[b]? := fun b hb => setRow_other W g b _ hb
          refine Cells.append (Cells.append ?_ ?_) ?_
          · exact (hr.split k).1.move (fun b hb _ => hk b ((hne b).1 hb.2)) (fun b hb _ => hb)
          · exact (hc1.imp hE).move (fun b hb hlt => hk b (hTp b hb hlt).2) (fun b hb hlt => ⟨(hTp b hb hlt).1, (hne b).2 (hTp b hb hlt).2⟩)
          · exact (hr.split (k + m)).2.move (fun b hb _ => hk b ((hne b).1 hb.2)) (fun b hb _ => hb)
      · exact ⟨rfl, rfl, rfl, by simp [World.setRow], fun b _ hb => setRow_other W g b _ (fun e => hb (by rw [e]))⟩

/-- v[:m:m]. -/
theorem Own.cut {α : Type} {d : Kd α} {e : TypeId} {w : World} {base : Nat} {T : Nat → Prop} {A : Option Addr} {n c : Nat} {xs : List α} (h : Own d e w base T (.slice A n c) xs) (m : Nat) (hm : m ≤ n) (hn : n = xs.length) : Own d e w base T (.slice A m m) (xs.take m) := by
  obtain ⟨h0, cells, ⟨h1, h2⟩, h3⟩ := h
  have hl : (xs.take m).length = m := by rw [List.length_take]; omega
  refine ⟨by omega, cells.take (m * d.sz), ?_, (h3.split m).1.move (fun _ _ _ => rfl) (fun b hb _ => by cases A <;> exact hb)⟩
  rw [hl]
  rcases h2 with ⟨h2, h4⟩ | ⟨g, cap, cur, h2, hg, hh, hnc, hcm, hcs, ht⟩
  · injection h2 with h2
    subst h2
    obtain rfl : m = 0 := by omega
    exact ⟨by simp, .inl ⟨rfl, rfl⟩⟩
  · injection h2 with h2 h5 h6
    subst h2 h6
    have e1 : m * d.sz ≤ xs.length * d.sz := Nat.mul_le_mul_right _ (by omega)
    have e2 : c * d.sz ≤ cur.size := hcs
    have e3 : m * d.sz ≤ c * d.sz := Nat.mul_le_mul_right _ (by omega)
    refine ⟨by rw [List.length_take, h1]; omega, .inr ⟨g, m, cur, rfl, hg, hh, Nat.le_refl _, by omega, by omega, ?_⟩⟩
    rw [← ht, List.take_take, Nat.min_eq_left e1]

section
variable {P : Program} {ops : Array Oper} {rest : List Oper} {o : Oper} {a : Act} {Q : Exit → Act → World → Prop} {α : Type}
theorem copy_arm (d : Kd α) {W : World} {base : Nat} (hgd : o.guard = none) (s x : Operand) (dT sT e : TypeId)
    (ho : o.op = .call { callee := .builtin .copy, args := #[s, x], argTypes := #[dT, sT] })
    (ht : P.underlying dT = some (.slice e)) {z : Option Value} {bytes : Nat} (hinfo : (P.info? e).map (fun i => (i.zero, i.size, i.bytes)) = some (z, d.sz, bytes))
    (g n c : Nat) (xs ys : List α) (T Tr Tp : Nat → Prop) (dp A : Option Addr) (dLen dCap sLen sCap k m : Nat) (hs : a.eval s = .slice dp dLen dCap) (hx : a.eval x = .slice A sLen sCap)
    (HO : Own d e W base T (.slice (some ⟨g, 0, none⟩) n c) xs) (hn : n = xs.length) (hm : m = Nat.min sLen dLen) (hys : ys.length = m) (hkm : k + m ≤ n)
    (hd : 0 < m → dp = some ⟨g, k * d.sz, none⟩) (hy : d.Row W Tr A ys) (hE : ∀ x cs, d.K W Tr x cs → d.K W Tp x cs) (hTp : ∀ b, Tp b → b < W.heap.size → T b ∧ b ≠ g)
    (h : ∀ w1, Own d e w1 base T (.slice (some ⟨g, 0, none⟩) n c) (xs.take k ++ ys ++ xs.drop (k + m)) → W.grownBy w1 (some g) → wpList P ops Q rest (a.put o.dst (.int .i64 m)) w1) :
    wpList P ops Q (o :: rest) a W := by
  obtain ⟨w1, hrun, h1, h2⟩ := Own.copy_run (ty := o.type) (sT := sT) (dCap := dCap) (sCap := sCap) ht hinfo HO hn hm hys hkm hd hy hE hTp
  refine wpList_plain hgd fun K hK => ?_
  unfold Oper.wp execOp
  simp only [ho, resolve, invoke, builtin, Sem.run_bind, Sem.run_pure, Result.andThen_ok, List.map_toArray, List.map_cons, List.map_nil, hs, hx, hrun]
  exact hK _ _ (h w1 h1 h2)
end

/-- What 'make([]T, n)' leaves, T of one cell, zero z. -/
theorem own_made {α : Type} {d : Kd α} {w : World} {base : Nat} {e : TypeId} {v : Value} {n : Nat} {zv : Value} {z : α} (h : w.ownsRow base e 1 v n (madeCells #[zv] n).toList) (hsz : d.sz = 1) (hz : ∀ S, d.K w S z [zv]) (hn : n ≤ 140737488355328) (T : Nat → Prop) :
    Own d e w base T v (List.replicate n z) := by
  have he : (madeCells #[zv] n).toList = List.replicate n zv := by
    apply List.ext_getElem
    · simp [madeCells]
    · intro i h1 h2
      simp [madeCells, Nat.mod_one]
  rw [he] at h
  refine ⟨by simpa using hn, _, by rw [hsz]; simpa using owns_of h, ?_⟩
  clear he h hn
  induction n with
  | zero => rfl
  | succ n ih => rw [List.replicate_succ, List.replicate_succ]; exact ⟨_, _, rfl, hz _, ih⟩

section
variable {P : Program} {ops : Array Oper} {rest : List Oper} {o : Oper} {a : Act} {Q : Exit → Act → World → Prop} {α : Type}
/-- make([]T, n), behind 'at_make'. -/
theorem make_arm (d : Kd α) {w0 W : World} (B base : Nat) (hgd : o.guard = none) (l c : Operand) (t e : TypeId) (hop : o.op = Op.makeSlice t l c) (zv : Value) (z : α) (bytes : Nat)
    (ht : P.underlying t = some (.slice e)) (hinfo : (P.info? e).map (fun i => (i.zero, i.size, i.bytes)) = some (some zv, 1, bytes)) (hsz : d.sz = 1) (hzc : zv.cells = #[zv]) (hz : ∀ w S, d.K w S z [zv]) (n : Nat) (N : Int)
    (hl : a.eval l = .int .i64 N) (hc : a.eval c = .int .i64 N) (hN : N = (n : Int)) (hb : bytes * n ≤ 281474976710656) (hn : n ≤ 140737488355328) (HB : Below B w0 W) (hbs : B ≤ W.heap.size) (hbase : base ≤ W.heap.size) (T : Nat → Prop)
    (h : ∀ w1, Own d e w1 base T (.slice (some ⟨W.heap.size, 0, none⟩) n n) (List.replicate n z) → Below B w0 w1 → W.grownBy w1 none → wpList P ops Q rest (a.put o.dst (.slice (some ⟨W.heap.size, 0, none⟩) n n)) w1) :
    wpList P ops Q (o :: rest) a W := by
  obtain ⟨i, hi, hz0, hz1, hz2⟩ := info_parts hinfo
  refine wpList_make_full W hgd l c t hop base e i zv 1 ht hi hz0 hz1 .i64 .i64 N N n hl hc hN hN (by rw [hz2]; exact hb) (by simp only [maxLen]; omega) hbase ?_
  intro w1 hown hg
  rw [hzc, Nat.mul_one] at hown
  exact h w1 (own_made hown hsz (hz w1) hn T) (HB.grown hg hbs (fun k hk => by cases hk)) hg
end

end Go.Proofs.Yteijgeofimcijaa
