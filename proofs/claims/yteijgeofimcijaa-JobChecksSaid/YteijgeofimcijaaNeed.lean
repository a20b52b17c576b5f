/- need: parts, may, deep, says. -/
import Derived.Test.YteijgeofimcijaaNeed0
import Derived.Test.YteijgeofimcijaaBox
import Derived.Outline
import Derived.KernelRfl
import Derived.Deep.RegionHeld3
namespace Go.Proofs.Yteijgeofimcijaa
open Go.RowKit

set_option maxHeartbeats 1000000 in
set_option maxRecDepth 100000 in
theorem parts_calls (op : Int) (w : World) : Calls Try.prog 140 #[.int .i64 op] w fun e w' => e = .returned (.int .i64 (partsN op)) ∧ w = w' := by
  by_cases h3 : op = 3
  · subst h3
    go_enter Try.func140, Try.ntmps140
    go_wp2
    go_ret
    exact ⟨rfl, rfl⟩
  · by_cases h4 : op = 4
    · subst h4
      go_enter Try.func140, Try.ntmps140
      go_wp2
      go_ret
      exact ⟨rfl, rfl⟩
    · by_cases h5 : op = 5
      · subst h5
        go_enter Try.func140, Try.ntmps140
        go_wp2
        go_ret
        exact ⟨rfl, rfl⟩
      · have e3 : (op == (3 : Int)) = false := by simp [h3]
        have e4 : (op == (4 : Int)) = false := by simp [h4]
        have e5 : (op == (5 : Int)) = false := by simp [h5]
        have HP := hid (show partsN op = 0 by unfold partsN; rw [if_neg h3, if_neg (by omega)])
        clear h3 h4 h5
        go_enter Try.func140, Try.ntmps140
        go_wp2
        go_ret
        rw [HP.out]
        exact ⟨rfl, rfl⟩
set_option maxHeartbeats 1000000 in
set_option maxRecDepth 100000 in
theorem may_calls (x : NodeS) (w : World) : Calls Try.prog 141 #[.agg #[.int .i64 x.op, .int .i64 x.n]] w fun e w' => e = .returned (.bool (mayN x)) ∧ Below w.heap.size w w' := by
  obtain ⟨op, n⟩ := x
  by_cases h2 : op = 2
  · subst h2
    have HM := hid (show mayN ⟨2, n⟩ = (decide (0 ≤ n) && decide (n < 16)) from rfl)
    go_enter Try.func141, Try.ntmps141
    go_wp2
    all_goals (go_ret; exact ⟨ret_bool (by rw [HM.out, Bool.eq_iff_iff]; simp; try omega), bAlloc (Below.refl _ _) _⟩)
  · have e2 : (op == (2 : Int)) = false := by simp [h2]
    have HM := hid (show mayN ⟨op, n⟩ = (decide (1 ≤ op) && decide (op ≤ 5) && decide (n = 0)) by unfold mayN; rw [if_neg h2])
    clear h2
    go_enter Try.func141, Try.ntmps141
    go_wp2
    all_goals (go_ret; exact ⟨ret_bool (by rw [HM.out, Bool.eq_iff_iff]; simp; try omega), bAlloc (Below.refl _ _) _⟩)

/-! ### deep -/
def deepF : TreeS → FuncId
  | .leaf _ => 204
  | .turned _ => 206
  | .pair _ _ _ => 208
theorem deep_method (n : Nat) (t : TreeS) (w : World) : (method (n + 1) t.ty t.val "siskin/need.deep").run Try.prog w = .ok (deepF t, t.val) w := by
  cases t <;> kernel_rfl
theorem deep_enter (t : TreeS) (args : Array Value) (w : World) : (callFunc (deepF t) args).run Try.prog w = .ok (.enter (deepF t) args) w := by
  cases t <;> kernel_rfl
set_option maxHeartbeats 1000000 in
set_option maxRecDepth 100000 in
theorem deep_leaf (x : NodeS) (w : World) : Calls Try.prog 204 #[(TreeS.leaf x).val] w fun e w' => e = .returned (.int .i64 1) ∧ Below w.heap.size w w' := by
  go_enter Try.func204, Try.ntmps204
  go_wp2
  go_ret
  exact ⟨rfl, bAlloc (Below.refl _ _) _⟩
set_option maxHeartbeats 1000000 in
set_option maxRecDepth 100000 in
theorem deep_turned (t : TreeS) (w : World) (hs : t.size ≤ 1000000) (ih : ∀ w, Calls Try.prog (deepF t) #[t.val] w fun e w' => e = .returned (.int .i64 (t.deep : Nat)) ∧ Below w.heap.size w w') :
    Calls Try.prog 206 #[(TreeS.turned t).val] w fun e w' => e = .returned (.int .i64 ((TreeS.turned t).deep : Nat)) ∧ Below w.heap.size w w' := by
  rw [show (TreeS.turned t).val = .agg #[.iface t.ty t.val] from rfl]
  have hm := fun n => deep_method n t
  have he := deep_enter t
  have hd := TreeS.deep_size t
  have HD := hid (show (TreeS.turned t).deep = t.deep + 1 from rfl)
  have IH := hid ih
  clear ih
  go_enter Try.func206, Try.ntmps206
  go_wp2_with fail
  refine (IH.out _).mono ?_
  rintro e w1 ⟨rfl, hb1⟩
  go_wp2
  go_ret
  rw [HD.out]
  exact ⟨by simp, bThen (bAlloc (Below.refl _ _) _) hb1⟩
set_option maxHeartbeats 2000000 in
set_option maxRecDepth 100000 in
theorem deep_pair (o : Bool) (a b : TreeS) (w : World) (hs : (TreeS.pair o a b).size ≤ 1000000) (iha : ∀ w, Calls Try.prog (deepF a) #[a.val] w fun e w' => e = .returned (.int .i64 (a.deep : Nat)) ∧ Below w.heap.size w w')
    (ihb : ∀ w, Calls Try.prog (deepF b) #[b.val] w fun e w' => e = .returned (.int .i64 (b.deep : Nat)) ∧ Below w.heap.size w w') :
    Calls Try.prog 208 #[(TreeS.pair o a b).val] w fun e w' => e = .returned (.int .i64 ((TreeS.pair o a b).deep : Nat)) ∧ Below w.heap.size w w' := by
  rw [show (TreeS.pair o a b).val = .agg #[.bool o, .iface a.ty a.val, .iface b.ty b.val] from rfl]
  have hma := fun n => deep_method n a
  have hea := deep_enter a
  have hmb := fun n => deep_method n b
  have heb := deep_enter b
  have hda := TreeS.deep_size a
  have hdb := TreeS.deep_size b
  have hs2 : a.size + b.size + 1 ≤ 1000000 := hs
  have HD := hid (show (TreeS.pair o a b).deep = max a.deep b.deep + 1 from rfl)
  have IHA := hid iha
  have IHB := hid ihb
  obtain ⟨V, hV⟩ : ∃ V, V = w.alloc (.cells #[.bool o, .iface a.ty a.val, .iface b.ty b.val] 201) := ⟨_, rfl⟩
  have HBV := hid (show Below w.heap.size w V by rw [hV]; exact bAlloc (Below.refl _ _) _)
  have hz := hid (show V.heap[w.heap.size]? = some (.cells #[.bool o, .iface a.ty a.val, .iface b.ty b.val] 201 (0, 0)) by rw [hV]; exact heap_at rfl)
  have HCB := hid (fun (u : World) (h : Below V.heap.size V u) => (show u.cell? ⟨w.heap.size, 1, none⟩ = some (.iface a.ty a.val) ∧ u.cell? ⟨w.heap.size, 2, none⟩ = some (.iface b.ty b.val) from by
    obtain ⟨z0, _, _⟩ := cells_of_block ((h.block w.heap.size (Array.getElem?_eq_some_iff.1 hz.out).1).trans hz.out)
    exact ⟨z0 1 _ rfl, z0 2 _ rfl⟩))
  have HV := hid hV
  clear iha ihb hV
  go_enter Try.func208, Try.ntmps208
  go_wp2_with fail
  rw [← HV.out]
  have c0 := HCB.out V.drew (Below.refl _ _).drew
  have hw : IntKind.i64.wrap (max (a.deep : Int) (b.deep : Int) + 1) = max (a.deep : Int) (b.deep : Int) + 1 := IntWalk.i64_in _ (by omega)
  go_region_held3 (fun w' => w'.cell? ⟨w.heap.size, 1, none⟩ = some (.iface a.ty a.val) ∧ w'.cell? ⟨w.heap.size, 2, none⟩ = some (.iface b.ty b.val)) (first | exact c0 | exact c1 | exact c2 | fail) (first
    | ((with_reducible refine (IHA.out V.drew).mono ?_); rintro e w1 ⟨rfl, hb1⟩; have U1 := hid (show Below V.heap.size V w1 from (Below.refl _ _).drew.trans hb1); have c1 := HCB.out _ U1.out; clear hb1)
    | ((with_reducible refine (IHB.out w1).mono ?_); rintro e w2 ⟨rfl, hb2⟩; have U2 := hid (show Below V.heap.size V w2 from bThen U1.out hb2); have c2 := HCB.out _ U2.out; clear hb2)
    | fail)
  go_wp2
  go_ret
  rw [HD.out]
  exact ⟨ret_int (by omega), HBV.out.trans (U2.out.mono HBV.out.size)⟩
theorem deep_calls (t : TreeS) : t.size ≤ 1000000 → ∀ w, Calls Try.prog (deepF t) #[t.val] w fun e w' => e = .returned (.int .i64 (t.deep : Nat)) ∧ Below w.heap.size w w' := by
  induction t with
  | leaf x => exact fun _ w => deep_leaf x w
  | turned t ih => exact fun h w => deep_turned t w (by simp only [TreeS.size] at h; omega) (ih (by simp only [TreeS.size] at h; omega))
  | pair o a b iha ihb => exact fun h w => deep_pair o a b w h (iha (by simp only [TreeS.size] at h; omega)) (ihb (by simp only [TreeS.size] at h; omega))
end Go.Proofs.Yteijgeofimcijaa
