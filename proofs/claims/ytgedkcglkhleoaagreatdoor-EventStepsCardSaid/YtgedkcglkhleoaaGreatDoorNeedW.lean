import Derived.Test.YtgedkcglkhleoaaGreatDoorBase
import Derived.Outline
import Derived.KernelRfl
import Derived.Deep.RegionHeld3
/- need: parts, may, deep, says. -/
namespace Go.Proofs.YtgedkcglkhleoaaGreatDoor
open Go.RowKit

set_option maxHeartbeats 1000000 in
set_option maxRecDepth 100000 in
theorem parts_calls (op : Int) (w : World) : Calls Tryz.prog 101 #[.int .i64 op] w fun e w' => e = .returned (.int .i64 (partsN op)) ∧ w = w' := by
  by_cases h3 : op = 3
  · subst h3
    go_enter Tryz.func101, Tryz.ntmps101
    go_wp2
    go_ret
    exact ⟨rfl, rfl⟩
  · by_cases h4 : op = 4
    · subst h4
      go_enter Tryz.func101, Tryz.ntmps101
      go_wp2
      go_ret
      exact ⟨rfl, rfl⟩
    · by_cases h5 : op = 5
      · subst h5
        go_enter Tryz.func101, Tryz.ntmps101
        go_wp2
        go_ret
        exact ⟨rfl, rfl⟩
      · have e3 : (op == (3 : Int)) = false := by simp [h3]
        have e4 : (op == (4 : Int)) = false := by simp [h4]
        have e5 : (op == (5 : Int)) = false := by simp [h5]
        have HP := hid (show partsN op = 0 by unfold partsN; rw [if_neg h3, if_neg (by omega)])
        clear h3 h4 h5
        go_enter Tryz.func101, Tryz.ntmps101
        go_wp2
        go_ret
        rw [HP.out]
        exact ⟨rfl, rfl⟩
set_option maxHeartbeats 1000000 in
set_option maxRecDepth 100000 in
theorem may_calls (x : NodeS) (w : World) : Calls Tryz.prog 102 #[.agg #[.int .i64 x.op, .int .i64 x.n]] w fun e w' => e = .returned (.bool (mayN x)) ∧ Below w.heap.size w w' := by
  obtain ⟨op, n⟩ := x
  by_cases h2 : op = 2
  · subst h2
    have HM := hid (show mayN ⟨2, n⟩ = (decide (0 ≤ n) && decide (n < 16)) from rfl)
    go_enter Tryz.func102, Tryz.ntmps102
    go_wp2
    all_goals (go_ret; exact ⟨ret_bool (by rw [HM.out, Bool.eq_iff_iff]; simp; try omega), bAlloc (Below.refl _ _) _⟩)
  · have e2 : (op == (2 : Int)) = false := by simp [h2]
    have HM := hid (show mayN ⟨op, n⟩ = (decide (1 ≤ op) && decide (op ≤ 5) && decide (n = 0)) by unfold mayN; rw [if_neg h2])
    clear h2
    go_enter Tryz.func102, Tryz.ntmps102
    go_wp2
    all_goals (go_ret; exact ⟨ret_bool (by rw [HM.out, Bool.eq_iff_iff]; simp; try omega), bAlloc (Below.refl _ _) _⟩)

/-! ### deep -/
def deepF : TreeS → FuncId
  | .leaf _ => 140
  | .turned _ => 142
  | .pair _ _ _ => 144
theorem deep_method (n : Nat) (t : TreeS) (w : World) : (method (n + 1) t.ty t.val "siskin/need.deep").run Tryz.prog w = .ok (deepF t, t.val) w := by
  cases t <;> kernel_rfl
theorem deep_enter (t : TreeS) (args : Array Value) (w : World) : (callFunc (deepF t) args).run Tryz.prog w = .ok (.enter (deepF t) args) w := by
  cases t <;> kernel_rfl
set_option maxHeartbeats 1000000 in
set_option maxRecDepth 100000 in
theorem deep_leaf (x : NodeS) (w : World) : Calls Tryz.prog 140 #[(TreeS.leaf x).val] w fun e w' => e = .returned (.int .i64 1) ∧ Below w.heap.size w w' := by
  go_enter Tryz.func140, Tryz.ntmps140
  go_wp2
  go_ret
  exact ⟨rfl, bAlloc (Below.refl _ _) _⟩
set_option maxHeartbeats 1000000 in
set_option maxRecDepth 100000 in
theorem deep_turned (t : TreeS) (w : World) (hs : t.size ≤ 1000000) (ih : ∀ w, Calls Tryz.prog (deepF t) #[t.val] w fun e w' => e = .returned (.int .i64 (t.deep : Nat)) ∧ Below w.heap.size w w') :
    Calls Tryz.prog 142 #[(TreeS.turned t).val] w fun e w' => e = .returned (.int .i64 ((TreeS.turned t).deep : Nat)) ∧ Below w.heap.size w w' := by
  rw [show (TreeS.turned t).val = .agg #[.iface t.ty t.val] from rfl]
  have hm := fun n => deep_method n t
  have he := deep_enter t
  have hd := TreeS.deep_size t
  have HD := hid (show (TreeS.turned t).deep = t.deep + 1 from rfl)
  have IH := hid ih
  clear ih
  go_enter Tryz.func142, Tryz.ntmps142
  go_wp2_with fail
  refine (IH.out _).mono ?_
  rintro e w1 ⟨rfl, hb1⟩
  go_wp2
  go_ret
  rw [HD.out]
  exact ⟨by simp, bThen (bAlloc (Below.refl _ _) _) hb1⟩
set_option maxHeartbeats 2000000 in
set_option maxRecDepth 100000 in
theorem deep_pair (o : Bool) (a b : TreeS) (w : World) (hs : (TreeS.pair o a b).size ≤ 1000000) (iha : ∀ w, Calls Tryz.prog (deepF a) #[a.val] w fun e w' => e = .returned (.int .i64 (a.deep : Nat)) ∧ Below w.heap.size w w')
    (ihb : ∀ w, Calls Tryz.prog (deepF b) #[b.val] w fun e w' => e = .returned (.int .i64 (b.deep : Nat)) ∧ Below w.heap.size w w') :
    Calls Tryz.prog 144 #[(TreeS.pair o a b).val] w fun e w' => e = .returned (.int .i64 ((TreeS.pair o a b).deep : Nat)) ∧ Below w.heap.size w w' := by
  rw [show (TreeS.pair o a b).val = .agg #[.bool o, .iface a.ty a.val, .iface b.ty b.val] from rfl]
  have hma := fun n => deep_method n a
  have hea := deep_enter a
  have hmb := fun n => deep_method n b
  have heb := deep_enter b
  have hda := TreeS.deep_size a
  have hdb := TreeS.deep_size b
  have hs2 : a.size + b.size + 1 ≤ 1000000 := hs
  have HD := hid (show (TreeS.pair o a b).deep = max a.deep b.deep + 1 from rfl)
  have IHA := hid iha
  have IHB := hid ihb
  obtain ⟨V, hV⟩ : ∃ V, V = w.alloc (.cells #[.bool o, .iface a.ty a.val, .iface b.ty b.val] 161) := ⟨_, rfl⟩
  have HBV := hid (show Below w.heap.size w V by rw [hV]; exact bAlloc (Below.refl _ _) _)
  have hz := hid (show V.heap[w.heap.size]? = some (.cells #[.bool o, .iface a.ty a.val, .iface b.ty b.val] 161 (0, 0)) by rw [hV]; exact heap_at rfl)
  have HCB := hid (fun (u : World) (h : Below V.heap.size V u) => (show u.cell? ⟨w.heap.size, 1, none⟩ = some (.iface a.ty a.val) ∧ u.cell? ⟨w.heap.size, 2, none⟩ = some (.iface b.ty b.val) from by
    obtain ⟨z0, _, _⟩ := cells_of_block ((h.block w.heap.size (Array.getElem?_eq_some_iff.1 hz.out).1).trans hz.out)
    exact ⟨z0 1 _ rfl, z0 2 _ rfl⟩))
  have HV := hid hV
  clear iha ihb hV
  go_enter Tryz.func144, Tryz.ntmps144
  go_wp2_with fail
  rw [← HV.out]
  have c0 := HCB.out V.drew (Below.refl _ _).drew
  have hw : IntKind.i64.wrap (max (a.deep : Int) (b.deep : Int) + 1) = max (a.deep : Int) (b.deep : Int) + 1 := IntWalk.i64_in _ (by omega)
  go_region_held3 (fun w' => w'.cell? ⟨w.heap.size, 1, none⟩ = some (.iface a.ty a.val) ∧ w'.cell? ⟨w.heap.size, 2, none⟩ = some (.iface b.ty b.val)) (first | exact c0 | exact c1 | exact c2 | fail) (first
    | ((with_reducible refine (IHA.out V.drew).mono ?_); rintro e w1 ⟨rfl, hb1⟩; have U1 := hid (show Below V.heap.size V w1 from (Below.refl _ _).drew.trans hb1); have c1 := HCB.out _ U1.out; clear hb1)
    | ((with_reducible refine (IHB.out w1).mono ?_); rintro e w2 ⟨rfl, hb2⟩; have U2 := hid (show Below V.heap.size V w2 from bThen U1.out hb2); have c2 := HCB.out _ U2.out; clear hb2)
    | fail)
  go_wp2
  go_ret
  rw [HD.out]
  exact ⟨ret_int (by omega), HBV.out.trans (U2.out.mono HBV.out.size)⟩
theorem deep_calls (t : TreeS) : t.size ≤ 1000000 → ∀ w, Calls Tryz.prog (deepF t) #[t.val] w fun e w' => e = .returned (.int .i64 (t.deep : Nat)) ∧ Below w.heap.size w w' := by
  induction t with
  | leaf x => exact fun _ w => deep_leaf x w
  | turned t ih => exact fun h w => deep_turned t w (by simp only [TreeS.size] at h; omega) (ih (by simp only [TreeS.size] at h; omega))
  | pair o a b iha ihb => exact fun h w => deep_pair o a b w h (iha (by simp only [TreeS.size] at h; omega)) (ihb (by simp only [TreeS.size] at h; omega))
end Go.Proofs.YtgedkcglkhleoaaGreatDoor
/- need.made: the tree of a list. -/
namespace Go.Proofs.YtgedkcglkhleoaaGreatDoor
open Go.RowKit

theorem Tryz.infoTree : (Tryz.prog.info? 144).map (fun i => (i.zero, i.size, i.bytes)) = some (some .nilIface, 1, 16) := by kernel_rfl
theorem Kd.Row.at_node {w : World} {S : Nat → Prop} {A : Option Addr} {xs : List NodeS} (h : Kd.node.Row w S A xs) (i : Nat) (hi : i < xs.length) :
    ∃ a x, A = some a ∧ xs[i]? = some x ∧ w.cell? (a.add (i * 2)) = some (.int .i64 x.op) ∧ w.cell? ⟨(a.add (i * 2)).block, (a.add (i * 2)).off + 1, none⟩ = some (.int .i64 x.n) := by
  obtain ⟨a, cs, h1, _, _, h4, h5⟩ := h i xs[i] (List.getElem?_eq_getElem hi)
  cases h4
  refine ⟨a, xs[i], h1, List.getElem?_eq_getElem hi, h5 0 _ rfl, ?_⟩
  have := h5 1 _ rfl
  rwa [show i * Kd.node.sz + 1 = i * 2 + 1 from rfl, ← Kd.add_add, Kd.add_lit (a.add (i * 2)) 1 (by decide)] at this
theorem Kd.Row.at_tree {w : World} {S : Nat → Prop} {A : Option Addr} {xs : List TreeS} (h : Kd.tree.Row w S A xs) (i : Nat) (hi : i < xs.length) : ∃ a x, A = some a ∧ xs[i]? = some x ∧ w.cell? (a.add i) = some (.iface x.ty x.val) := by
  obtain ⟨a, cs, h1, _, _, h4, h5⟩ := h i xs[i] (List.getElem?_eq_getElem hi)
  cases h4
  have := h5 0 _ rfl
  rw [show i * Kd.tree.sz + 0 = i by show i * 1 + 0 = i; omega] at this
  exact ⟨a, xs[i], h1, List.getElem?_eq_getElem hi, this⟩
theorem Own.row {α : Type} {d : Kd α} {e : TypeId} {w : World} {base : Nat} {T : Nat → Prop} {A : Option Addr} {n c : Nat} {xs : List α} (h : Own d e w base T (.slice A n c) xs) : d.Row w Any A xs := by
  obtain ⟨A', c', he, _, _, hr⟩ := Kd.any h.K
  cases he
  exact hr
/-- What 'made' gives, as a value. -/
def madeV (l : List NodeS) : Value := match madeN l with
  | some t => t.v
  | none => .nilIface
theorem stackL_drop {l : List NodeS} {k : Nat} {x : NodeS} {st : List TreeS} (hx : l[k]? = some x) : stackL (l.drop k) st = (match stackM st x with | some st' => stackL (l.drop (k + 1)) st' | none => none) := by
  obtain ⟨hk, he⟩ := List.getElem?_eq_some_iff.1 hx
  rw [List.drop_eq_getElem_cons hk, he]
  rfl
set_option maxHeartbeats 4000000 in
set_option maxRecDepth 100000 in
theorem made_calls (l : List NodeS) (v : Value) (w : World) (hl : Kd.node.slice.K w Any l [v]) (hs : l.length ≤ 1000000) :
    Calls Tryz.prog 91 #[v] w fun e w' => e = .returned (madeV l) ∧ Below w.heap.size w w' := by
  obtain ⟨A, c, he, hc, hn, hr⟩ := hl
  cases he
  have HR := hid hr
  obtain ⟨q, hq⟩ : ∃ q, l.length = q := ⟨_, rfl⟩
  have HQ := hid hq
  rw [hq] at hc hn hs ⊢
  clear hr hq
  go_enter Tryz.func91, Tryz.ntmps91
  go_wp2
  go_loopw [3, 10] (fun o i wr => ∃ (k : Nat) (st : List TreeS), i = .int .i64 k ∧ k ≤ q ∧ st.length ≤ k ∧ Own Kd.tree 144 wr w.heap.size NoT o st ∧ Hid (stackL l [] = stackL (l.drop k) st) ∧ Below w.heap.size w wr) (fun _ i _ => q - (intOf i).toNat)
  case atStart => exact ⟨0, [], rfl, by omega, by simp, Own.nil _ _ _ _ _, hid rfl, Below.refl _ _⟩
  case round =>
    obtain ⟨k, st, rfl, hkq, hstk, hO, HS, hb⟩ := hrel
    by_cases hlt : k < q
    · obtain ⟨a, x, rfl, hx, r0, r1⟩ := (HR.out.below hb).at_node k (by rw [HQ.out]; exact hlt)
      have hst := stackL_drop (st := st) hx
      obtain ⟨op, n⟩ := x
      have HST := hid (HS.out.trans hst)
      clear hx hst
      have hltI : (k : Int) < (q : Int) := by omega
      have hbs := hb.size
      obtain ⟨B, sn, sc, rfl, hq1, hq2⟩ := hO.shape'
      have HSN := hid hq1
      have hsn : sn ≤ k := by omega
      have hsc := hq2
      clear hq1 hq2
      have HO := hid hO
      have HB := hid hb
      clear hO hb
      obtain ⟨V, hV⟩ : ∃ V, V = wr.alloc (.cells #[.int .i64 op, .int .i64 n] 130) := ⟨_, rfl⟩
      have HBV := hid (show Below wr.heap.size wr V by rw [hV]; exact bAlloc (Below.refl _ _) _)
      have hz := hid (show V.heap[wr.heap.size]? = some (.cells #[.int .i64 op, .int .i64 n] 130 (0, 0)) by rw [hV]; exact heap_at rfl)
      have HCB := hid (fun (u : World) (h : Below V.heap.size V u) => (show u.cell? ⟨wr.heap.size, 0, none⟩ = some (.int .i64 op) ∧ u.cell? ⟨wr.heap.size, 1, none⟩ = some (.int .i64 n) ∧ ∀ j, u.frozen? ⟨wr.heap.size, j, none⟩ = false from by
        obtain ⟨z0, z1, _⟩ := cells_of_block ((h.block wr.heap.size (Array.getElem?_eq_some_iff.1 hz.out).1).trans hz.out)
        exact ⟨z0 0 _ rfl, z0 1 _ rfl, z1⟩))
      have HV := hid hV
      clear hV
      have hp2 : partsN op ≤ 2 := by unfold partsN; split <;> (try split) <;> omega
      obtain ⟨p, hp⟩ : ∃ p, p = partsN op := ⟨_, rfl⟩
      have HP := hid hp
      rw [← hp] at hp2
      clear hp
      by_cases hgood : mayN ⟨op, n⟩ = true ∧ p ≤ sn
      · obtain ⟨hmay, hle⟩ := hgood
        have HM := hid hmay
        obtain ⟨kk, hkk⟩ : ∃ kk, kk = sn - p := ⟨_, rfl⟩
        have hkk2 : kk + p = sn := by omega
        have hw : IntKind.i64.wrap ((sn : Int) - (p : Int)) = (kk : Int) := by rw [IntWalk.i64_in _ (by omega)]; omega
        have hneg : ¬ (kk : Int) < 0 := by omega
        have hk0 : (0 : Int) ≤ (kk : Int) := by omega
        have hkc : kk ≤ sc := by omega
        have HGD := hid (show stackL l [] = stackL (l.drop (k + 1)) (st.take kk ++ [nodeT st kk ⟨op, n⟩]) by
          have e : stackM st ⟨op, n⟩ = some (st.take kk ++ [nodeT st kk ⟨op, n⟩]) := by
            unfold stackM
            rw [← HSN.out]
            show (if mayN ⟨op, n⟩ = true ∧ partsN op ≤ sn then some (st.take (sn - partsN op) ++ [nodeT st (sn - partsN op) ⟨op, n⟩]) else none) = _
            rw [← HP.out, if_pos ⟨hmay, hle⟩, ← hkk]
          rw [HST.out, e])
        clear hmay hle hkk
        by_cases h3 : op = 3
        · subst h3
          have hp1 : p = 1 := HP.out
          have hkl : kk < sn := by omega
          have hklI : (kk : Int) < (sn : Int) := by omega
          clear hp1
          have HN := hid (fun (t : TreeS) (h : st[kk]? = some t) => (show nodeT st kk ⟨3, n⟩ = .turned t by unfold nodeT; rw [if_pos rfl, h]; rfl))
          go_wp2_with fail
          rw [← HV.out]
          refine (parts_calls 3 V).mono ?_
          rintro e w1 ⟨rfl, rfl⟩
          rw [← HP.out]
          have c0 := HCB.out V (Below.refl _ _)
          go_wp2_with fail
          refine (may_calls ⟨3, n⟩ V).mono ?_
          rintro e w1 ⟨rfl, hb1⟩
          rw [HM.out]
          obtain ⟨c1, c2, c3⟩ := HCB.out w1 hb1
          have hb2 := (HB.out.trans (HBV.out.mono hbs)).trans (hb1.mono (Nat.le_trans hbs HBV.out.size))
          have HB2 := hid hb2
          have HO2 := hid ((HO.out.below (HBV.out.trans (hb1.mono HBV.out.size))).short kk (by omega) HSN.out)
          have hrow := (HO.out.below (HBV.out.trans (hb1.mono HBV.out.size))).row
          have hb2s := hb2.size
          clear c0 hb1 hb2
          obtain ⟨b, t, rfl, ht, q0⟩ := hrow.at_tree kk (by rw [← HSN.out]; exact hkl)
          rw [HN.out t ht] at HGD
          clear hrow ht HN
          go_wp2_with (at_builtin; go_must (refine append_arm Kd.tree (w0 := w) w.heap.size rfl _ _ 155 144 _ 16 rfl Tryz.underlying155 Tryz.infoTree rfl (by decide) (by decide) (.slice (some b) kk sc) (st.take kk) (.turned t) [.iface 159 (.agg #[.iface t.ty t.val])] NoT NoT rfl rfl rfl (fun _ h => h.elim) HO2.out HB2.out hb2s (by rw [List.length_take]; omega) ?_))
          intro v1 w3 hO3 hb3 _ _
          go_wp2
          go_roundw
          case rel => exact ⟨k + 1, _, by go_num, by omega, by rw [List.length_append, List.length_take]; simp; omega, hO3, HGD, hb3⟩
          case measure => simp [intOf]; omega
        · have e3 : (op == (3 : Int)) = false := by simp [h3]
          by_cases h45 : op = 4 ∨ op = 5
          · clear h3
            rcases h45 with h4 | h4
            · subst h4
              have hp1 : p = 2 := HP.out
              have hkl : kk < sn := by omega
              have hkl2 : kk + 1 < sn := by omega
              have hklI : (kk : Int) < (sn : Int) := by omega
              have hkl2I : (kk : Int) + 1 < (sn : Int) := by omega
              have hw1 : IntKind.i64.wrap ((kk : Int) + 1) = (kk : Int) + 1 := IntWalk.i64_in _ (by omega)
              have hk1 : (0 : Int) ≤ (kk : Int) + 1 := by omega
              have hk1n : ((kk : Int) + 1).toNat = kk + 1 := by omega
              clear hp1
              have HN := hid (fun (t u : TreeS) (h : st[kk]? = some t) (h2 : st[kk + 1]? = some u) => (show nodeT st kk ⟨4, n⟩ = .pair false t u by unfold nodeT; rw [if_neg (show ¬((4 : Int) = 3) by decide), if_pos (show (4 : Int) = 4 ∨ (4 : Int) = 5 by decide), h, h2]; rfl))
              go_wp2_with fail
              rw [← HV.out]
              refine (parts_calls 4 V).mono ?_
              rintro e w1 ⟨rfl, rfl⟩
              rw [← HP.out]
              have c0 := HCB.out V (Below.refl _ _)
              go_wp2_with fail
              refine (may_calls ⟨4, n⟩ V).mono ?_
              rintro e w1 ⟨rfl, hb1⟩
              rw [HM.out]
              obtain ⟨c1, c2, c3⟩ := HCB.out w1 hb1
              have hb2 := (HB.out.trans (HBV.out.mono hbs)).trans (hb1.mono (Nat.le_trans hbs HBV.out.size))
              have HB2 := hid hb2
              have HO2 := hid ((HO.out.below (HBV.out.trans (hb1.mono HBV.out.size))).short kk (by omega) HSN.out)
              have hrow := (HO.out.below (HBV.out.trans (hb1.mono HBV.out.size))).row
              have hb2s := hb2.size
              clear c0 hb1 hb2
              obtain ⟨b, t, rfl, ht, q0⟩ := hrow.at_tree kk (by rw [← HSN.out]; exact hkl)
              obtain ⟨b', u, he, hu, q1⟩ := hrow.at_tree (kk + 1) (by rw [← HSN.out]; exact hkl2)
              cases he
              rw [Kd.add_lit _ _ (by omega)] at q1
              rw [HN.out t u ht hu] at HGD
              clear hrow ht hu HN
              go_wp2
              go_quiet (fail)
              go_wp2_with (at_builtin; go_must (refine append_arm Kd.tree (w0 := w) w.heap.size rfl _ _ 155 144 _ 16 rfl Tryz.underlying155 Tryz.infoTree rfl (by decide) (by decide) (.slice (some b) kk sc) (st.take kk) (.pair false t u) [.iface 161 (.agg #[.bool false, .iface t.ty t.val, .iface u.ty u.val])] NoT NoT rfl rfl rfl (fun _ h => h.elim) (HO2.out.drewN _) (below_drewN HB2.out _) hb2s (by rw [List.length_take]; omega) ?_))
              intro v1 w3 hO3 hb3 _ _
              go_wp2
              go_roundw
              case rel => exact ⟨k + 1, _, by go_num, by omega, by rw [List.length_append, List.length_take]; simp; omega, hO3, HGD, hb3⟩
              case measure => simp [intOf]; omega
            · subst h4
              have hp1 : p = 2 := HP.out
              have hkl : kk < sn := by omega
              have hkl2 : kk + 1 < sn := by omega
              have hklI : (kk : Int) < (sn : Int) := by omega
              have hkl2I : (kk : Int) + 1 < (sn : Int) := by omega
              have hw1 : IntKind.i64.wrap ((kk : Int) + 1) = (kk : Int) + 1 := IntWalk.i64_in _ (by omega)
              have hk1 : (0 : Int) ≤ (kk : Int) + 1 := by omega
              have hk1n : ((kk : Int) + 1).toNat = kk + 1 := by omega
              clear hp1
              have HN := hid (fun (t u : TreeS) (h : st[kk]? = some t) (h2 : st[kk + 1]? = some u) => (show nodeT st kk ⟨5, n⟩ = .pair true t u by unfold nodeT; rw [if_neg (show ¬((5 : Int) = 3) by decide), if_pos (show (5 : Int) = 4 ∨ (5 : Int) = 5 by decide), h, h2]; rfl))
              go_wp2_with fail
              rw [← HV.out]
              refine (parts_calls 5 V).mono ?_
              rintro e w1 ⟨rfl, rfl⟩
              rw [← HP.out]
              have c0 := HCB.out V (Below.refl _ _)
              go_wp2_with fail
              refine (may_calls ⟨5, n⟩ V).mono ?_
              rintro e w1 ⟨rfl, hb1⟩
              rw [HM.out]
              obtain ⟨c1, c2, c3⟩ := HCB.out w1 hb1
              have hb2 := (HB.out.trans (HBV.out.mono hbs)).trans (hb1.mono (Nat.le_trans hbs HBV.out.size))
              have HB2 := hid hb2
              have HO2 := hid ((HO.out.below (HBV.out.trans (hb1.mono HBV.out.size))).short kk (by omega) HSN.out)
              have hrow := (HO.out.below (HBV.out.trans (hb1.mono HBV.out.size))).row
              have hb2s := hb2.size
              clear c0 hb1 hb2
              obtain ⟨b, t, rfl, ht, q0⟩ := hrow.at_tree kk (by rw [← HSN.out]; exact hkl)
              obtain ⟨b', u, he, hu, q1⟩ := hrow.at_tree (kk + 1) (by rw [← HSN.out]; exact hkl2)
              cases he
              rw [Kd.add_lit _ _ (by omega)] at q1
              rw [HN.out t u ht hu] at HGD
              clear hrow ht hu HN
              go_wp2
              go_quiet (fail)
              go_wp2_with (at_builtin; go_must (refine append_arm Kd.tree (w0 := w) w.heap.size rfl _ _ 155 144 _ 16 rfl Tryz.underlying155 Tryz.infoTree rfl (by decide) (by decide) (.slice (some b) kk sc) (st.take kk) (.pair true t u) [.iface 161 (.agg #[.bool true, .iface t.ty t.val, .iface u.ty u.val])] NoT NoT rfl rfl rfl (fun _ h => h.elim) (HO2.out.drewN _) (below_drewN HB2.out _) hb2s (by rw [List.length_take]; omega) ?_))
              intro v1 w3 hO3 hb3 _ _
              go_wp2
              go_roundw
              case rel => exact ⟨k + 1, _, by go_num, by omega, by rw [List.length_append, List.length_take]; simp; omega, hO3, HGD, hb3⟩
              case measure => simp [intOf]; omega
          · have e4 : (op == (4 : Int)) = false := by simp; omega
            have e5 : (op == (5 : Int)) = false := by simp; omega
            have HN := hid (show nodeT st kk ⟨op, n⟩ = .leaf ⟨op, n⟩ by unfold nodeT; rw [if_neg h3, if_neg h45])
            rw [HN.out] at HGD
            clear h3 h45
            go_wp2_with fail
            rw [← HV.out]
            refine (parts_calls op V).mono ?_
            rintro e w1 ⟨rfl, rfl⟩
            rw [← HP.out]
            have c0 := HCB.out V (Below.refl _ _)
            go_wp2_with fail
            refine (may_calls ⟨op, n⟩ V).mono ?_
            rintro e w1 ⟨rfl, hb1⟩
            rw [HM.out]
            obtain ⟨c1, c2, c3⟩ := HCB.out w1 hb1
            have hb2 := (HB.out.trans (HBV.out.mono hbs)).trans (hb1.mono (Nat.le_trans hbs HBV.out.size))
            have HB2 := hid hb2
            have HO2 := hid ((HO.out.below (HBV.out.trans (hb1.mono HBV.out.size))).short kk (by omega) HSN.out)
            have hrow := (HO.out.below (HBV.out.trans (hb1.mono HBV.out.size))).row
            have hb2s := hb2.size
            clear c0 hb1 hb2
            clear hrow
            go_wp2_with (at_builtin; go_must (refine append_arm Kd.tree (w0 := w) w.heap.size rfl _ _ 155 144 _ 16 rfl Tryz.underlying155 Tryz.infoTree rfl (by decide) (by decide) (.slice B kk sc) (st.take kk) (.leaf ⟨op, n⟩) [.iface 157 (.agg #[.int .i64 op, .int .i64 n])] NoT NoT rfl rfl rfl (fun _ h => h.elim) HO2.out HB2.out hb2s (by rw [List.length_take]; omega) ?_))
            intro v1 w3 hO3 hb3 _ _
            go_wp2
            go_roundw
            case rel => exact ⟨k + 1, _, by go_num, by omega, by rw [List.length_append, List.length_take]; simp; omega, hO3, HGD, hb3⟩
            case measure => simp [intOf]; omega
      · have HBAD := hid (show madeV l = .nilIface by
          have e : stackM st ⟨op, n⟩ = none := by
            unfold stackM
            rw [if_neg]
            rw [← HSN.out]
            show ¬(mayN ⟨op, n⟩ = true ∧ partsN op ≤ sn)
            rw [← HP.out]
            exact hgood
          have h2 := HST.out
          rw [e] at h2
          unfold madeV madeN
          rw [h2])
        cases hm : mayN ⟨op, n⟩
        · go_wp2_with fail
          rw [← HV.out]
          refine (parts_calls op V).mono ?_
          rintro e w1 ⟨rfl, rfl⟩
          rw [← HP.out]
          have c0 := HCB.out V (Below.refl _ _)
          go_wp2_with fail
          refine (may_calls ⟨op, n⟩ V).mono ?_
          rintro e w1 ⟨rfl, hb1⟩
          rw [hm]
          have U1 := hid hb1
          clear c0 hb1
          go_wp2
          go_ret
          rw [HBAD.out]
          exact ⟨rfl, (HB.out.trans (HBV.out.mono hbs)).trans (U1.out.mono (Nat.le_trans hbs HBV.out.size))⟩
        · have hpn : ¬ p ≤ sn := fun h => hgood ⟨hm, h⟩
          have hw : IntKind.i64.wrap ((sn : Int) - (p : Int)) = (sn : Int) - (p : Int) := IntWalk.i64_in _ (by omega)
          have hneg : (sn : Int) - (p : Int) < 0 := by omega
          clear hgood
          go_wp2_with fail
          rw [← HV.out]
          refine (parts_calls op V).mono ?_
          rintro e w1 ⟨rfl, rfl⟩
          rw [← HP.out]
          have c0 := HCB.out V (Below.refl _ _)
          go_wp2_with fail
          refine (may_calls ⟨op, n⟩ V).mono ?_
          rintro e w1 ⟨rfl, hb1⟩
          rw [hm]
          have U1 := hid hb1
          clear c0 hb1
          go_wp2
          go_ret
          rw [HBAD.out]
          exact ⟨rfl, (HB.out.trans (HBV.out.mono hbs)).trans (U1.out.mono (Nat.le_trans hbs HBV.out.size))⟩
    · obtain rfl : k = q := by omega
      have hltI : ¬ (k : Int) < (k : Int) := by omega
      obtain ⟨B, sn, sc, rfl, hq1, hq2⟩ := hO.shape'
      have hst : stackL l [] = some st := by rw [HS.out, ← HQ.out, List.drop_length]; rfl
      by_cases h1 : sn = 1
      · subst h1
        obtain ⟨b, t, rfl, ht, q0⟩ := hO.row.at_tree 0 (by omega)
        have q1 : wr.cell? b = some (.iface t.ty t.val) := by rw [← q0]; unfold Addr.add; rw [if_pos rfl]
        have HT := hid (show madeV l = .iface t.ty t.val by
          unfold madeV madeN
          rw [hst]
          match st, hq1, ht with
          | [t'], _, ht => simp at ht; subst ht; rfl)
        clear hst ht hq1 hq2 q0
        go_wp2
        go_ret
        rw [HT.out]
        exact ⟨rfl, hb⟩
      · have h1n : ((sn : Int) != (1 : Int)) = true := by simp; omega
        have HT := hid (show madeV l = .nilIface by
          unfold madeV madeN
          rw [hst]
          match st, hq1 with
          | [], _ => rfl
          | [t'], h => exact absurd h h1
          | _ :: _ :: _, _ => rfl)
        clear hst hq1 hq2
        go_wp2
        go_ret
        rw [HT.out]
        exact ⟨rfl, hb⟩
end Go.Proofs.YtgedkcglkhleoaaGreatDoor
/- need.Check; size; flock.Has; says. -/
namespace Go.Proofs.YtgedkcglkhleoaaGreatDoor
open Go.RowKit

/-! ### Check -/
set_option maxHeartbeats 1000000 in
set_option maxRecDepth 100000 in
theorem needCheck_calls (l : List NodeS) (v : Value) (w : World) (hl : Kd.node.slice.K w Any l [v]) (hs : l.length ≤ 1000000) :
    Calls Tryz.prog 90 #[v] w fun e w' => e = .returned (.int .i64 (checkN l)) ∧ Below w.heap.size w w' := by
  have HL := hid hl
  obtain ⟨A, c, he, hc, hn, hr⟩ := hl
  cases he
  have HS := hid hs
  obtain ⟨q, hq⟩ : ∃ q, l.length = q := ⟨_, rfl⟩
  have HQ := hid hq
  rw [hq] at hc hn hs HL ⊢
  clear hr hq
  by_cases h31 : 31 < q
  · have HC := hid (show checkN l = 4 by unfold checkN; rw [if_pos (by rw [HQ.out]; exact h31)])
    have h31I : (31 : Int) < (q : Int) := by omega
    go_enter Tryz.func90, Tryz.ntmps90
    go_wp2
    go_ret
    rw [HC.out]
    exact ⟨rfl, Below.refl _ _⟩
  · have h31I : ¬ (31 : Int) < (q : Int) := by omega
    have HC := hid (show checkN l = match madeN l with | none => 1 | some t => if 8 < t.deep then 4 else 0 by unfold checkN; rw [if_neg (by rw [HQ.out]; exact h31)]; cases madeN l <;> rfl)
    cases hm : madeN l with
    | none =>
      have HV := hid (show madeV l = .nilIface by unfold madeV; rw [hm])
      rw [hm] at HC
      clear hm
      go_enter Tryz.func90, Tryz.ntmps90
      go_wp2_with fail
      refine (made_calls l _ w HL.out HS.out).mono ?_
      rintro e w1 ⟨rfl, hb⟩
      rw [HV.out]
      go_wp2
      go_ret
      rw [HC.out]
      exact ⟨rfl, hb⟩
    | some t =>
      have HV := hid (show madeV l = .iface t.ty t.val by unfold madeV; rw [hm]; rfl)
      have hsz := made_size hm
      rw [hm] at HC
      have hd := TreeS.deep_size t
      have hme := fun n => deep_method n t
      have hen := deep_enter t
      have HT := hid hsz
      rw [HQ.out] at hsz
      clear hm
      go_enter Tryz.func90, Tryz.ntmps90
      go_wp2_with fail
      refine (made_calls l _ w HL.out HS.out).mono ?_
      rintro e w1 ⟨rfl, hb⟩
      rw [HV.out]
      go_wp2_with fail
      refine (deep_calls t (by omega) w1).mono ?_
      rintro e w2 ⟨rfl, hb2⟩
      have HB := hid (bThen hb hb2)
      clear hb hb2
      by_cases h8 : 8 < t.deep
      · have h8I : (8 : Int) < (t.deep : Int) := by omega
        go_wp2
        go_ret
        rw [HC.out]
        exact ⟨ret_int (by show 4 = if 8 < t.deep then (4 : Int) else 0; rw [if_pos h8]), HB.out⟩
      · have h8I : ¬ (8 : Int) < (t.deep : Int) := by omega
        go_wp2
        go_ret
        rw [HC.out]
        exact ⟨ret_int (by show 0 = if 8 < t.deep then (4 : Int) else 0; rw [if_neg h8]), HB.out⟩

/-! ### size -/
def asPair : TreeS → Value
  | .pair o a b => .agg #[.bool o, .iface a.ty a.val, .iface b.ty b.val]
  | _ => .agg #[.bool false, .nilIface, .nilIface]
def isPair : TreeS → Bool
  | .pair _ _ _ => true
  | _ => false
def asTurned : TreeS → Value
  | .turned a => .agg #[.iface a.ty a.val]
  | _ => .agg #[.nilIface]
def isTurned : TreeS → Bool
  | .turned _ => true
  | _ => false
theorem ta_pair (t : TreeS) (w : World) : (Instr.typeAssert (.iface t.ty t.val) 144 161 true).run Tryz.prog w = .ok (.tuple #[asPair t, .bool (isPair t)]) w := by
  cases t <;> kernel_rfl
theorem ta_turned (t : TreeS) (w : World) : (Instr.typeAssert (.iface t.ty t.val) 144 159 true).run Tryz.prog w = .ok (.tuple #[asTurned t, .bool (isTurned t)]) w := by
  cases t <;> kernel_rfl
def bodyPair (o : Bool) (a b : TreeS) : Value := .agg #[.bool o, .iface a.ty a.val, .iface b.ty b.val]
end Go.Proofs.YtgedkcglkhleoaaGreatDoor
