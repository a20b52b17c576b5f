/- need: what a tree says; Says. -/
import Derived.Test.YtgedkcglkhleoaaGreatDoorNeedW
import Derived.Test.YtgedkcglkhleoaaGreatDoorBase
namespace Go.Proofs.YtgedkcglkhleoaaGreatDoor
open Go.RowKit

def saysF : TreeS → FuncId
  | .leaf _ => 141
  | .turned _ => 143
  | .pair _ _ _ => 145
theorem says_method (n : Nat) (t : TreeS) (w : World) : (method (n + 1) t.ty t.val "siskin/need.says").run Tryz.prog w = .ok (saysF t, t.val) w := by
  cases t <;> kernel_rfl
theorem says_enter (t : TreeS) (args : Array Value) (w : World) : (callFunc (saysF t) args).run Tryz.prog w = .ok (.enter (saysF t) args) w := by
  cases t <;> kernel_rfl
def SaysOk (s : Nat) (t : TreeS) : Prop := ∀ w, Calls Tryz.prog (saysF t) #[t.val, .int .u64 s] w fun e w' => e = .returned (.bool (t.says s)) ∧ Below w.heap.size w w'
set_option maxHeartbeats 1000000 in
set_option maxRecDepth 100000 in
theorem says_leaf (s : Nat) (hs : s < 2 ^ 64) (x : NodeS) : SaysOk s (.leaf x) := by
  intro w
  rw [show (TreeS.leaf x).val = .agg #[.int .i64 x.op, .int .i64 x.n] from rfl, show saysF (.leaf x) = 141 from rfl]
  obtain ⟨op, n⟩ := x
  have HD := hid (show (TreeS.leaf ⟨op, n⟩).says s = (decide (op = 1) || TreeS.hasB s n) from rfl)
  by_cases h1 : op = 1
  · subst h1
    go_enter Tryz.func141, Tryz.ntmps141
    go_wp2
    go_ret
    rw [HD.out]
    exact ⟨rfl, bAlloc (Below.refl _ _) _⟩
  · have e1 : (op == (1 : Int)) = false := by simp [h1]
    have HE := hid h1
    clear h1
    go_enter Tryz.func141, Tryz.ntmps141
    go_wp2_with fail
    refine (has_calls s n _ hs).mono ?_
    rintro e w1 ⟨rfl, rfl⟩
    go_wp2
    go_ret
    rw [HD.out]
    exact ⟨ret_bool (by simp [HE.out]), bAlloc (Below.refl _ _) _⟩
set_option maxHeartbeats 1000000 in
set_option maxRecDepth 100000 in
theorem says_turned (s : Nat) (t : TreeS) (ih : SaysOk s t) : SaysOk s (.turned t) := by
  intro w
  rw [show (TreeS.turned t).val = .agg #[.iface t.ty t.val] from rfl, show saysF (.turned t) = 143 from rfl]
  have hm := fun n => says_method n t
  have he := says_enter t
  have HD := hid (show (TreeS.turned t).says s = !t.says s from rfl)
  have IH := hid ih
  clear ih
  go_enter Tryz.func143, Tryz.ntmps143
  go_wp2_with fail
  refine (IH.out _).mono ?_
  rintro e w1 ⟨rfl, hb1⟩
  go_wp2
  go_ret
  rw [HD.out]
  exact ⟨rfl, bThen (bAlloc (Below.refl _ _) _) hb1⟩
set_option maxHeartbeats 2000000 in
set_option maxRecDepth 100000 in
theorem says_pair (s : Nat) (o : Bool) (a b : TreeS) (iha : SaysOk s a) (ihb : SaysOk s b) : SaysOk s (.pair o a b) := by
  intro w
  rw [show (TreeS.pair o a b).val = .agg #[.bool o, .iface a.ty a.val, .iface b.ty b.val] from rfl, show saysF (.pair o a b) = 145 from rfl]
  have hma := fun n => says_method n a
  have hea := says_enter a
  have hmb := fun n => says_method n b
  have heb := says_enter b
  have HD := hid (show (TreeS.pair o a b).says s = if o then a.says s || b.says s else a.says s && b.says s from rfl)
  have IHA := hid iha
  have IHB := hid ihb
  obtain ⟨V, hV⟩ : ∃ V, V = w.alloc (.cells #[.bool o, .iface a.ty a.val, .iface b.ty b.val] 161) := ⟨_, rfl⟩
  have HBV := hid (show Below w.heap.size w V by rw [hV]; exact bAlloc (Below.refl _ _) _)
  have hz := hid (show V.heap[w.heap.size]? = some (.cells #[.bool o, .iface a.ty a.val, .iface b.ty b.val] 161 (0, 0)) by rw [hV]; exact heap_at rfl)
  have HCB := hid (fun (u : World) (h : Below V.heap.size V u) => (show u.cell? ⟨w.heap.size, 0, none⟩ = some (.bool o) ∧ u.cell? ⟨w.heap.size, 1, none⟩ = some (.iface a.ty a.val) ∧ u.cell? ⟨w.heap.size, 2, none⟩ = some (.iface b.ty b.val) from by
    obtain ⟨z0, _, _⟩ := cells_of_block ((h.block w.heap.size (Array.getElem?_eq_some_iff.1 hz.out).1).trans hz.out)
    exact ⟨z0 0 _ rfl, z0 1 _ rfl, z0 2 _ rfl⟩))
  have HV := hid hV
  obtain ⟨sa, hsa⟩ : ∃ sa, sa = a.says s := ⟨_, rfl⟩
  obtain ⟨sb, hsb⟩ : ∃ sb, sb = b.says s := ⟨_, rfl⟩
  have HA := hid hsa
  have HB := hid hsb
  rw [← hsa, ← hsb] at HD
  clear iha ihb hV hsa hsb
  cases o
  all_goals
    cases sa
    all_goals
      go_enter Tryz.func145, Tryz.ntmps145
      go_wp2_with fail
      rw [← HV.out]
      refine (IHA.out V).mono ?_
      rintro e w1 ⟨rfl, hb1⟩
      rw [← HA.out]
      obtain ⟨c0, c1, c2⟩ := HCB.out w1 hb1
      have U1 := hid (HBV.out.trans (hb1.mono HBV.out.size))
      clear hb1
      first
      | (go_wp2_with fail
         refine (IHB.out w1).mono ?_
         rintro e w2 ⟨rfl, hb2⟩
         rw [← HB.out]
         have U2 := hid (bThen U1.out hb2)
         clear hb2
         go_wp2
         go_ret
         rw [HD.out]
         exact ⟨ret_bool (by cases sb <;> rfl), U2.out⟩)
      | (go_wp2
         go_ret
         rw [HD.out]
         exact ⟨ret_bool (by cases sb <;> rfl), U1.out⟩)
theorem says_calls (s : Nat) (hs : s < 2 ^ 64) (t : TreeS) : SaysOk s t := by
  induction t with
  | leaf x => exact says_leaf s hs x
  | turned t ih => exact says_turned s t ih
  | pair o a b iha ihb => exact says_pair s o a b iha ihb

/-! ### Says -/
def saysN (l : List NodeS) (s : Nat) : Bool := if checkN l = 0 then (match madeN l with | some t => t.says s | none => false) else false
theorem check_made {l : List NodeS} (h : checkN l = 0) : ∃ t, madeN l = some t ∧ l.length ≤ 31 ∧ t.deep ≤ 8 := by
  unfold checkN at h
  split at h
  · cases h
  · split at h
    · cases h
    · split at h
      · cases h
      · exact ⟨_, by assumption, by omega, by omega⟩
set_option maxHeartbeats 1000000 in
set_option maxRecDepth 100000 in
theorem needSays_calls (l : List NodeS) (s : Nat) (v : Value) (w : World) (hl : Kd.node.slice.K w Any l [v]) (hl1 : l.length ≤ 1000000) (hs : s < 2 ^ 64) :
    Calls Tryz.prog 70 #[v, .int .u64 s] w fun e w' => e = .returned (.bool (saysN l s)) ∧ Below w.heap.size w w' := by
  have HL := hid hl
  have HS := hid hl1
  obtain ⟨A, c, he, hc, hn, hr⟩ := hl
  cases he
  clear hr hl1
  by_cases h0 : checkN l = 0
  · obtain ⟨t, ht, _, _⟩ := check_made h0
    have HC := hid h0
    have HV := hid (show madeV l = .iface t.ty t.val by unfold madeV; rw [ht]; rfl)
    have HR := hid (show saysN l s = t.says s by unfold saysN; rw [if_pos h0, ht])
    have hm := fun n => says_method n t
    have he := says_enter t
    clear h0 ht
    go_enter Tryz.func70, Tryz.ntmps70
    go_wp2_with fail
    refine (needCheck_calls l _ w HL.out HS.out).mono ?_
    rintro e w1 ⟨rfl, hb⟩
    rw [HC.out]
    go_wp2_with fail
    refine (made_calls l _ w1 (Kd.below HL.out hb) HS.out).mono ?_
    rintro e w2 ⟨rfl, hb2⟩
    rw [HV.out]
    have HB := hid (bThen hb hb2)
    clear hb hb2
    go_wp2_with fail
    refine (says_calls s hs t w2).mono ?_
    rintro e w3 ⟨rfl, hb3⟩
    go_wp2
    go_ret
    rw [HR.out]
    exact ⟨rfl, bThen HB.out hb3⟩
  · have h1 : (checkN l == (0 : Int)) = false := by simp [h0]
    have HR := hid (show saysN l s = false by unfold saysN; rw [if_neg h0])
    obtain ⟨cv, hcv⟩ : ∃ cv, cv = checkN l := ⟨_, rfl⟩
    rw [← hcv] at h1
    have HC := hid hcv
    clear h0 hcv
    go_enter Tryz.func70, Tryz.ntmps70
    go_wp2_with fail
    refine (needCheck_calls l _ w HL.out HS.out).mono ?_
    rintro e w1 ⟨rfl, hb⟩
    rw [← HC.out]
    go_wp2
    go_ret
    rw [HR.out]
    exact ⟨rfl, hb⟩
end Go.Proofs.YtgedkcglkhleoaaGreatDoor
