/- Bytes, and rows that are made. -/
import Derived.Test.YtolckkckheiceaaProg
import Derived.Test.YtolckkckheiceaaBoxW
import Derived.Lib.AppendStr
namespace Go.Proofs.Ytolckkckheiceaa
open Go.RowKit Go.Lib

def Kd.u8 : Kd UInt8 := Kd.flat 1 (fun x => [.int .u8 x.toNat]) (fun _ => rfl) (fun x u hu => by rw [List.mem_singleton.1 hu]; rfl)
theorem Try.infoU8 : (Try.prog.info? 5).map (fun i => (i.zero, i.size, i.bytes)) = some (some (.int .u8 0), 1, 1) := by kernel_rfl

section
variable {P : Program} {ops : Array Oper} {rest : List Oper} {o : Oper} {a : Act} {Q : Exit → Act → World → Prop} {α : Type}
/-- make([]T, 0, n), behind 'at_make'. -/
theorem make0_arm (d : Kd α) {w0 W : World} (B base : Nat) (hgd : o.guard = none) (l c : Operand) (t e : TypeId) (hop : o.op = Op.makeSlice t l c) (z : Value) (bytes : Nat)
    (ht : P.underlying t = some (.slice e)) (hinfo : (P.info? e).map (fun i => (i.zero, i.size, i.bytes)) = some (some z, d.sz, bytes)) (n : Nat) (N : Int)
    (hl : a.eval l = .int .i64 0) (hc : a.eval c = .int .i64 N) (hN : N = (n : Int)) (hb : bytes * n ≤ 281474976710656) (hn : n ≤ 140737488355328) (HB : Below B w0 W) (hbs : B ≤ W.heap.size) (hbase : base ≤ W.heap.size) (T : Nat → Prop)
    (h : ∀ w1, Own d e w1 base T (.slice (some ⟨W.heap.size, 0, none⟩) 0 n) [] → Below B w0 w1 → W.grownBy w1 none → wpList P ops Q rest (a.put o.dst (.slice (some ⟨W.heap.size, 0, none⟩) 0 n)) w1) :
    wpList P ops Q (o :: rest) a W := by
  obtain ⟨i, hi, hz0, hz1, hz2⟩ := info_parts hinfo
  subst hN
  obtain ⟨w', hrun, r1, r2⟩ := run_make_own (P := P) W base t e i z d.sz ht hi hz0 hz1 .i64 .i64 n (by rw [hz2]; exact hb) (by simp only [maxLen]; omega) hbase
  refine wpList_plain hgd fun K hK' => ?_
  unfold Oper.wp
  simp [execOp, hop, hl, hc, hrun, Result.andThen]
  exact hK' _ _ (h w' ⟨by simp, [], owns_of r1, rfl⟩ (HB.grown r2 hbs (fun k hk => by cases hk)) r2)
end

/-- append(v, s...), v not nil. -/
theorem Own.append_str_run {P : Program} {W : World} {base : Nat} {t u ty e : TypeId} (ht : P.underlying t = some (.slice e)) (hu : P.underlying u = some .string) (hinfo : (P.info? e).map (fun i => (i.zero, i.size, i.bytes)) = some (some (.int .u8 0), 1, 1))
    {v : Value} {xs : List UInt8} {T : Nat → Prop} (HO : Own Kd.u8 e W base T v xs) (hne : 0 < xs.length) (s : ByteArray) (hl : xs.length + s.size ≤ 140737488355328) (hbase : base ≤ W.heap.size) :
    ∃ v1 w1, (Builtin.append_ #[t, u] ty #[v, .string s]).run P W = .ok v1 w1 ∧ Own Kd.u8 e w1 base T v1 (xs ++ s.data.toList) ∧ W.grownBy w1 v.ownBlock ∧ (v1.ownBlock = v.ownBlock ∨ ∃ b, v1.ownBlock = some b ∧ W.heap.size ≤ b) := by
  obtain ⟨h0, cells, hown, hr⟩ := HO
  obtain ⟨i, hi, hz0, hz1, hz2⟩ := info_parts hinfo
  have hsl : s.data.toList.length = s.size := by rw [Array.length_toList]; rfl
  have hxl : cells.length = xs.length := by rw [hown.1]; exact Nat.mul_one _
  have hlen : (cells ++ strCells s).length = (xs.length + s.size) * 1 := by rw [List.length_append, hxl, strCells_length, Nat.mul_one]
  have hcs : Cells Kd.u8 W NoT s.data.toList (strCells s) := by
    have := cells_flat (n := 1) (enc := fun x : UInt8 => [Value.int .u8 x.toNat]) (hl := fun _ => rfl) (h1 := fun x u hu => by rw [List.mem_singleton.1 hu]; rfl) (w := W) (S := NoT) s.data.toList
    rwa [flatMap_one] at this
  rcases hown.2 with ⟨_, h3⟩ | ⟨g, cap, cur, rfl, hbg, hg, hnc, hcm, hcsz, htake⟩
  · omega
  · have hcsz1 : cap ≤ cur.size := by have : cap * 1 ≤ cur.size := hcsz; omega
    by_cases hroom : xs.length + s.size ≤ cap
    · have hrun := run_append_room_string (P := P) W t u ty e i ht hu hi hz1 g xs.length cap cur hg s hroom (by omega)
      have hg1 : W.grownBy (W.setRow g (cur.toList.take xs.length ++ strCells s ++ cur.toList.drop (xs.length + s.size)).toArray) (Value.slice (some ⟨g, 0, none⟩) xs.length cap).ownBlock :=
        ⟨rfl, rfl, rfl, by simp [World.setRow], fun k _ hk => setRow_other W g k _ (fun e => hk (by simp [Value.ownBlock, e]))⟩
      refine ⟨_, _, hrun, Own.appended (d := Kd.u8) (by omega) hr hcs (fun _ h => h.elim) ?_ hg1 (.inl rfl), hg1, .inl rfl⟩
      rw [hsl]
      have hlen' : (cells ++ strCells s).length = xs.length + s.size := by rw [hlen, Nat.mul_one]
      refine ⟨hlen, .inr ⟨g, cap, _, rfl, hbg, setRow_heap W g cur _ e _ hg, hroom, hcm, ?_, ?_⟩⟩
      · have : cap * Kd.u8.sz = cap := Nat.mul_one _
        rw [this]
        simp only [List.size_toArray, List.length_append, List.length_take, List.length_drop, Array.length_toList, strCells_length]
        omega
      · have e1 : (xs.length + s.size) * Kd.u8.sz = (cells ++ strCells s).length := by rw [hlen]; rfl
        have e2 : cur.toList.take xs.length = cells := by rw [← htake]; congr 1; exact (Nat.mul_one _).symm
        rw [e1, e2]
        exact List.take_left
    · have holds : ∀ j u, cells[j]? = some u → W.cell? ((⟨g, 0, none⟩ : Addr).add j) = some u := hown.cells (g := g) rfl
      have hge := grownCap_ge W (xs.length + s.size) cap e
      have hcm2 : grownCap W (xs.length + s.size) cap e ≤ maxLen := grownCap_le_maxLen W (xs.length + s.size) cap e (by simp only [maxLen]; omega)
      have hrun := run_append_grow_string (P := P) W t u ty e i (.int .u8 0) ht hu hi hz0 ⟨g, 0, none⟩ xs.length cap cells (by rw [hz1, hxl, Nat.mul_one]) holds s (by omega) (by omega) (growslice_fits (by omega) (by rw [hz2]; omega))
      have hg1 : ∀ (o : Obj) (row : Option Nat), W.grownBy (W.drew.alloc o) row := fun o row => ⟨rfl, rfl, rfl, by simp, fun k hk _ => (Below.heap_alloc W.drew _ k hk : _)⟩
      refine ⟨_, _, hrun, Own.appended (d := Kd.u8) (by omega) hr hcs (fun _ h => h.elim) ?_ (hg1 _ _) (.inr ⟨_, rfl, Nat.le_refl _⟩), hg1 _ _, .inr ⟨_, rfl, Nat.le_refl _⟩⟩
      rw [hsl]
      refine ⟨hlen, .inr ⟨W.heap.size, _, _, rfl, hbase, heap_alloc_new W.drew _, hge, hcm2, ?_, ?_⟩⟩
      · have : grownCap W (xs.length + s.size) cap e * Kd.u8.sz = grownCap W (xs.length + s.size) cap e := Nat.mul_one _
        rw [this]
        have hzs : (Value.int .u8 0).cells.size = 1 := rfl
        simp only [Array.size_append, List.size_toArray, size_zeroCells, hzs, hxl, strCells_length]
        omega
      · have e1 : (xs.length + s.size) * Kd.u8.sz = (cells ++ strCells s).length := by rw [hlen]; rfl
        rw [e1]
        simp only [Array.toList_append, List.append_assoc]
        rw [← List.append_assoc]
        exact List.take_left

section
variable {P : Program} {ops : Array Oper} {rest : List Oper} {o : Oper} {a : Act} {Q : Exit → Act → World → Prop}
/-- v = append(v, s...), behind 'at_builtin'. -/
theorem appendStr_arm {w0 W : World} (base : Nat) (hgd : o.guard = none) (sl x : Operand) (t u e : TypeId)
    (ho : o.op = .call { callee := .builtin .append, args := #[sl, x], argTypes := #[t, u] })
    (ht : P.underlying t = some (.slice e)) (hu : P.underlying u = some .string) (hinfo : (P.info? e).map (fun i => (i.zero, i.size, i.bytes)) = some (some (.int .u8 0), 1, 1))
    (v : Value) (xs : List UInt8) (s : ByteArray) (T : Nat → Prop) (hs : a.eval sl = v) (hx : a.eval x = .string s) (HO : Own Kd.u8 e W base T v xs) (hne : 0 < xs.length) (HB : Below base w0 W) (hbase : base ≤ W.heap.size) (hl : xs.length + s.size ≤ 140737488355328)
    (h : ∀ v1 w1, Own Kd.u8 e w1 base T v1 (xs ++ s.data.toList) → Below base w0 w1 → W.grownBy w1 v.ownBlock → (v1.ownBlock = v.ownBlock ∨ ∃ b, v1.ownBlock = some b ∧ W.heap.size ≤ b) → wpList P ops Q rest (a.put o.dst v1) w1) :
    wpList P ops Q (o :: rest) a W := by
  obtain ⟨v1, w1, hrun, h1, h2, h3⟩ := Own.append_str_run (ty := o.type) ht hu hinfo HO hne s hl hbase
  refine wpList_plain hgd fun K hK => ?_
  unfold Oper.wp execOp
  simp only [ho, resolve, invoke, builtin, Sem.run_bind, Sem.run_pure, Result.andThen_ok, List.map_toArray, List.map_cons, List.map_nil, hs, hx, hrun]
  exact hK _ _ (h v1 w1 h1 (HB.grown h2 hbase (fun k hk => (HO.lt k hk).1)) h2 h3)
end

/-- The one byte of 'out = append(out, byte(n))'. -/
theorem ret_slice {v u : Value} (h : v = u) : Ending.returned v = Ending.returned u := by rw [h]
/-- string(b). -/
theorem conv_u8 {S : Nat → Prop} {w : World} {xs : List UInt8} {A : Option Addr} {n c : Nat} (h : Kd.u8.slice.K w S xs [.slice A n c]) : (convert 71 9 (.slice A n c)).run Try.prog w = .ok (.string ⟨xs.toArray⟩) w := by
  obtain ⟨A', c', he, hc, _, hr⟩ := h
  cases he
  cases A with
  | none =>
    obtain rfl : xs = [] := by
      cases xs with
      | nil => rfl
      | cons x xs => obtain ⟨a, _, h, _⟩ := hr 0 x rfl; cases h
    exact run_convert_bytes_nil w _ _ Try.underlying71 Try.underlying5 _ _ _ Try.underlying9
  | some a =>
    refine run_convert_bytes_back w _ _ _ a c xs Try.underlying71 Try.underlying5 Try.underlying9 (fun j hj => ?_)
    obtain ⟨a', cs, h1, _, _, h2, h3⟩ := hr j xs[j] (List.getElem?_eq_getElem hj)
    cases h1
    cases h2
    have := h3 0 _ rfl
    rwa [show j * Kd.u8.sz + 0 = j from Nat.mul_one j] at this

end Go.Proofs.Ytolckkckheiceaa
