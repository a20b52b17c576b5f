/- need.Check; size; flock.Has; says. -/
import Derived.Test.YteijgeofimcijaaMade
namespace Go.Proofs.Yteijgeofimcijaa
open Go.RowKit

/-! ### Check -/
set_option maxHeartbeats 1000000 in
set_option maxRecDepth 100000 in
theorem needCheck_calls (l : List NodeS) (v : Value) (w : World) (hl : Kd.node.slice.K w Any l [v]) (hs : l.length ≤ 1000000) :
    Calls Try.prog 31 #[v] w fun e w' => e = .returned (.int .i64 (checkN l)) ∧ Below w.heap.size w w' := by
  have HL := hid hl
  obtain ⟨A, c, he, hc, hn, hr⟩ := hl
  cases he
  have HS := hid hs
  obtain ⟨q, hq⟩ : ∃ q, l.length = q := ⟨_, rfl⟩
  have HQ := hid hq
  rw [hq] at hc hn hs HL ⊢
  clear hr hq
  by_cases h31 : 31 < q
  · have HC := hid (show checkN l = 4 by unfold checkN; rw [if_pos (by rw [HQ.out]; exact h31)])
    have h31I : (31 : Int) < (q : Int) := by omega
    go_enter Try.func31, Try.ntmps31
    go_wp2
    go_ret
    rw [HC.out]
    exact ⟨rfl, Below.refl _ _⟩
  · have h31I : ¬ (31 : Int) < (q : Int) := by omega
    have HC := hid (show checkN l = match madeN l with | none => 1 | some t => if 8 < t.deep then 4 else 0 by unfold checkN; rw [if_neg (by rw [HQ.out]; exact h31)]; cases madeN l <;> rfl)
    cases hm : madeN l with
    | none =>
      have HV := hid (show madeV l = .nilIface by unfold madeV; rw [hm])
      rw [hm] at HC
      clear hm
      go_enter Try.func31, Try.ntmps31
      go_wp2_with fail
      refine (made_calls l _ w HL.out HS.out).mono ?_
      rintro e w1 ⟨rfl, hb⟩
      rw [HV.out]
      go_wp2
      go_ret
      rw [HC.out]
      exact ⟨rfl, hb⟩
    | some t =>
      have HV := hid (show madeV l = .iface t.ty t.val by unfold madeV; rw [hm]; rfl)
      have hsz := made_size hm
      rw [hm] at HC
      have hd := TreeS.deep_size t
      have hme := fun n => deep_method n t
      have hen := deep_enter t
      have HT := hid hsz
      rw [HQ.out] at hsz
      clear hm
      go_enter Try.func31, Try.ntmps31
      go_wp2_with fail
      refine (made_calls l _ w HL.out HS.out).mono ?_
      rintro e w1 ⟨rfl, hb⟩
      rw [HV.out]
      go_wp2_with fail
      refine (deep_calls t (by omega) w1).mono ?_
      rintro e w2 ⟨rfl, hb2⟩
      have HB := hid (bThen hb hb2)
      clear hb hb2
      by_cases h8 : 8 < t.deep
      · have h8I : (8 : Int) < (t.deep : Int) := by omega
        go_wp2
        go_ret
        rw [HC.out]
        exact ⟨ret_int (by show 4 = if 8 < t.deep then (4 : Int) else 0; rw [if_pos h8]), HB.out⟩
      · have h8I : ¬ (8 : Int) < (t.deep : Int) := by omega
        go_wp2
        go_ret
        rw [HC.out]
        exact ⟨ret_int (by show 0 = if 8 < t.deep then (4 : Int) else 0; rw [if_neg h8]), HB.out⟩

/-! ### size -/
def asPair : TreeS → Value
  | .pair o a b => .agg #[.bool o, .iface a.ty a.val, .iface b.ty b.val]
  | _ => .agg #[.bool false, .nilIface, .nilIface]
def isPair : TreeS → Bool
  | .pair _ _ _ => true
  | _ => false
def asTurned : TreeS → Value
  | .turned a => .agg #[.iface a.ty a.val]
  | _ => .agg #[.nilIface]
def isTurned : TreeS → Bool
  | .turned _ => true
  | _ => false
theorem ta_pair (t : TreeS) (w : World) : (Instr.typeAssert (.iface t.ty t.val) 156 201 true).run Try.prog w = .ok (.tuple #[asPair t, .bool (isPair t)]) w := by
  cases t <;> kernel_rfl
theorem ta_turned (t : TreeS) (w : World) : (Instr.typeAssert (.iface t.ty t.val) 156 199 true).run Try.prog w = .ok (.tuple #[asTurned t, .bool (isTurned t)]) w := by
  cases t <;> kernel_rfl
def bodyPair (o : Bool) (a b : TreeS) : Value := .agg #[.bool o, .iface a.ty a.val, .iface b.ty b.val]
set_option maxHeartbeats 1000000 in
set_option maxRecDepth 100000 in
theorem size_leaf (x : NodeS) (w : World) : Calls Try.prog 158 #[.iface (TreeS.leaf x).ty (TreeS.leaf x).val] w fun e w' => e = .returned (.int .i64 1) ∧ Below w.heap.size w w' := by
  rw [show (TreeS.leaf x).val = .agg #[.int .i64 x.op, .int .i64 x.n] from rfl, show (TreeS.leaf x).ty = 197 from rfl]
  have h1 : ∀ w, (Instr.typeAssert (.iface 197 (.agg #[.int .i64 x.op, .int .i64 x.n])) 156 201 true).run Try.prog w = .ok (.tuple #[.agg #[.bool false, .nilIface, .nilIface], .bool false]) w := ta_pair (.leaf x)
  have h2 : ∀ w, (Instr.typeAssert (.iface 197 (.agg #[.int .i64 x.op, .int .i64 x.n])) 156 199 true).run Try.prog w = .ok (.tuple #[.agg #[.nilIface], .bool false]) w := ta_turned (.leaf x)
  go_enter Try.func158, Try.ntmps158
  go_wp2
  go_ret
  exact ⟨rfl, bAlloc (bAlloc (Below.refl _ _) _) _⟩
set_option maxHeartbeats 1000000 in
set_option maxRecDepth 100000 in
theorem size_turned (t : TreeS) (w : World) (hs : t.size ≤ 1000000) (ih : ∀ w, Calls Try.prog 158 #[.iface t.ty t.val] w fun e w' => e = .returned (.int .i64 (t.size : Nat)) ∧ Below w.heap.size w w') :
    Calls Try.prog 158 #[.iface (TreeS.turned t).ty (TreeS.turned t).val] w fun e w' => e = .returned (.int .i64 ((TreeS.turned t).size : Nat)) ∧ Below w.heap.size w w' := by
  rw [show (TreeS.turned t).val = .agg #[.iface t.ty t.val] from rfl, show (TreeS.turned t).ty = 199 from rfl]
  have h1 : ∀ w, (Instr.typeAssert (.iface 199 (.agg #[.iface t.ty t.val])) 156 201 true).run Try.prog w = .ok (.tuple #[.agg #[.bool false, .nilIface, .nilIface], .bool false]) w := ta_pair (.turned t)
  have h2 : ∀ w, (Instr.typeAssert (.iface 199 (.agg #[.iface t.ty t.val])) 156 199 true).run Try.prog w = .ok (.tuple #[.agg #[.iface t.ty t.val], .bool true]) w := ta_turned (.turned t)
  have HD := hid (show (TreeS.turned t).size = t.size + 1 from rfl)
  have IH := hid ih
  clear ih
  go_enter Try.func158, Try.ntmps158
  go_wp2_with fail
  refine (IH.out _).mono ?_
  rintro e w1 ⟨rfl, hb1⟩
  go_wp2
  go_ret
  rw [HD.out]
  exact ⟨ret_int (by omega), bThen (bAlloc (bAlloc (Below.refl _ _) _) _) hb1⟩
set_option maxHeartbeats 2000000 in
set_option maxRecDepth 100000 in
theorem size_pair (o : Bool) (a b : TreeS) (w : World) (hs : (TreeS.pair o a b).size ≤ 1000000) (iha : ∀ w, Calls Try.prog 158 #[.iface a.ty a.val] w fun e w' => e = .returned (.int .i64 (a.size : Nat)) ∧ Below w.heap.size w w')
    (ihb : ∀ w, Calls Try.prog 158 #[.iface b.ty b.val] w fun e w' => e = .returned (.int .i64 (b.size : Nat)) ∧ Below w.heap.size w w') :
    Calls Try.prog 158 #[.iface (TreeS.pair o a b).ty (TreeS.pair o a b).val] w fun e w' => e = .returned (.int .i64 ((TreeS.pair o a b).size : Nat)) ∧ Below w.heap.size w w' := by
  rw [show (TreeS.pair o a b).val = .agg #[.bool o, .iface a.ty a.val, .iface b.ty b.val] from rfl, show (TreeS.pair o a b).ty = 201 from rfl]
  have h1 : ∀ w, (Instr.typeAssert (.iface 201 (.agg #[.bool o, .iface a.ty a.val, .iface b.ty b.val])) 156 201 true).run Try.prog w = .ok (.tuple #[.agg #[.bool o, .iface a.ty a.val, .iface b.ty b.val], .bool true]) w := ta_pair (.pair o a b)
  have HD := hid (show (TreeS.pair o a b).size = a.size + b.size + 1 from rfl)
  have hs2 : a.size + b.size + 1 ≤ 1000000 := hs
  have hw1 : IntKind.i64.wrap ((a.size : Int) + (b.size : Int)) = (a.size : Int) + (b.size : Int) := IntWalk.i64_in _ (by omega)
  have hw2 : IntKind.i64.wrap ((a.size : Int) + (b.size : Int) + 1) = (a.size : Int) + (b.size : Int) + 1 := IntWalk.i64_in _ (by omega)
  have IHA := hid iha
  have IHB := hid ihb
  obtain ⟨V, hV⟩ : ∃ V, V = w.alloc (.cells #[.bool o, .iface a.ty a.val, .iface b.ty b.val] 201) := ⟨_, rfl⟩
  have HBV := hid (show Below w.heap.size w V by rw [hV]; exact bAlloc (Below.refl _ _) _)
  have hz := hid (show V.heap[w.heap.size]? = some (.cells #[.bool o, .iface a.ty a.val, .iface b.ty b.val] 201 (0, 0)) by rw [hV]; exact heap_at rfl)
  have HCB := hid (fun (u : World) (h : Below V.heap.size V u) => (show u.cell? ⟨w.heap.size, 1, none⟩ = some (.iface a.ty a.val) ∧ u.cell? ⟨w.heap.size, 2, none⟩ = some (.iface b.ty b.val) from by
    obtain ⟨z0, _, _⟩ := cells_of_block ((h.block w.heap.size (Array.getElem?_eq_some_iff.1 hz.out).1).trans hz.out)
    exact ⟨z0 1 _ rfl, z0 2 _ rfl⟩))
  have HV := hid hV
  clear iha ihb hV
  go_enter Try.func158, Try.ntmps158
  go_wp2_with fail
  rw [← HV.out]
  have c0 := HCB.out V.drew (Below.refl _ _).drew
  go_region_held3 (fun w' => w'.cell? ⟨w.heap.size, 1, none⟩ = some (.iface a.ty a.val) ∧ w'.cell? ⟨w.heap.size, 2, none⟩ = some (.iface b.ty b.val)) (first | exact c0 | exact c1 | exact c2 | fail) (first
    | ((with_reducible refine (IHA.out V.drew).mono ?_); rintro e w1 ⟨rfl, hb1⟩; have U1 := hid (show Below V.heap.size V w1 from (Below.refl _ _).drew.trans hb1); have c1 := HCB.out _ U1.out; clear hb1)
    | ((with_reducible refine (IHB.out w1).mono ?_); rintro e w2 ⟨rfl, hb2⟩; have U2 := hid (show Below V.heap.size V w2 from bThen U1.out hb2); have c2 := HCB.out _ U2.out; clear hb2)
    | fail)
  go_wp2
  go_ret
  rw [HD.out]
  exact ⟨ret_int (by omega), HBV.out.trans (U2.out.mono HBV.out.size)⟩
theorem size_calls (t : TreeS) : t.size ≤ 1000000 → ∀ w, Calls Try.prog 158 #[.iface t.ty t.val] w fun e w' => e = .returned (.int .i64 (t.size : Nat)) ∧ Below w.heap.size w w' := by
  induction t with
  | leaf x => exact fun _ w => size_leaf x w
  | turned t ih => exact fun h w => size_turned t w (by simp only [TreeS.size] at h; omega) (ih (by simp only [TreeS.size] at h; omega))
  | pair o a b iha ihb => exact fun h w => size_pair o a b w h (iha (by simp only [TreeS.size] at h; omega)) (ihb (by simp only [TreeS.size] at h; omega))
end Go.Proofs.Yteijgeofimcijaa
