/- need.made: the tree of a list. -/
import Derived.Test.YteijgeofimcijaaNeed
import Derived.Test.YteijgeofimcijaaSetE
namespace Go.Proofs.Yteijgeofimcijaa
open Go.RowKit

theorem Try.infoTree : (Try.prog.info? 156).map (fun i => (i.zero, i.size, i.bytes)) = some (some .nilIface, 1, 16) := by kernel_rfl
theorem Kd.Row.at_node {w : World} {S : Nat → Prop} {A : Option Addr} {xs : List NodeS} (h : Kd.node.Row w S A xs) (i : Nat) (hi : i < xs.length) :
    ∃ a x, A = some a ∧ xs[i]? = some x ∧ w.cell? (a.add (i * 2)) = some (.int .i64 x.op) ∧ w.cell? ⟨(a.add (i * 2)).block, (a.add (i * 2)).off + 1, none⟩ = some (.int .i64 x.n) := by
  obtain ⟨a, cs, h1, _, _, h4, h5⟩ := h i xs[i] (List.getElem?_eq_getElem hi)
  cases h4
  refine ⟨a, xs[i], h1, List.getElem?_eq_getElem hi, h5 0 _ rfl, ?_⟩
  have := h5 1 _ rfl
  rwa [show i * Kd.node.sz + 1 = i * 2 + 1 from rfl, ← Kd.add_add, Kd.add_lit (a.add (i * 2)) 1 (by decide)] at this
theorem Kd.Row.at_tree {w : World} {S : Nat → Prop} {A : Option Addr} {xs : List TreeS} (h : Kd.tree.Row w S A xs) (i : Nat) (hi : i < xs.length) : ∃ a x, A = some a ∧ xs[i]? = some x ∧ w.cell? (a.add i) = some (.iface x.ty x.val) := by
  obtain ⟨a, cs, h1, _, _, h4, h5⟩ := h i xs[i] (List.getElem?_eq_getElem hi)
  cases h4
  have := h5 0 _ rfl
  rw [show i * Kd.tree.sz + 0 = i by show i * 1 + 0 = i; omega] at this
  exact ⟨a, xs[i], h1, List.getElem?_eq_getElem hi, this⟩
theorem Own.row {α : Type} {d : Kd α} {e : TypeId} {w : World} {base : Nat} {T : Nat → Prop} {A : Option Addr} {n c : Nat} {xs : List α} (h : Own d e w base T (.slice A n c) xs) : d.Row w Any A xs := by
  obtain ⟨A', c', he, _, _, hr⟩ := Kd.any h.K
  cases he
  exact hr
/-- What 'made' gives, as a value. -/
def madeV (l : List NodeS) : Value := match madeN l with
  | some t => t.v
  | none => .nilIface
theorem stackL_drop {l : List NodeS} {k : Nat} {x : NodeS} {st : List TreeS} (hx : l[k]? = some x) : stackL (l.drop k) st = (match stackM st x with | some st' => stackL (l.drop (k + 1)) st' | none => none) := by
  obtain ⟨hk, he⟩ := List.getElem?_eq_some_iff.1 hx
  rw [List.drop_eq_getElem_cons hk, he]
  rfl
set_option maxHeartbeats 4000000 in
set_option maxRecDepth 100000 in
theorem made_calls (l : List NodeS) (v : Value) (w : World) (hl : Kd.node.slice.K w Any l [v]) (hs : l.length ≤ 1000000) :
    Calls Try.prog 90 #[v] w fun e w' => e = .returned (madeV l) ∧ Below w.heap.size w w' := by
  obtain ⟨A, c, he, hc, hn, hr⟩ := hl
  cases he
  have HR := hid hr
  obtain ⟨q, hq⟩ : ∃ q, l.length = q := ⟨_, rfl⟩
  have HQ := hid hq
  rw [hq] at hc hn hs ⊢
  clear hr hq
  go_enter Try.func90, Try.ntmps90
  go_wp2
  go_loopw [3, 10] (fun o i wr => ∃ (k : Nat) (st : List TreeS), i = .int .i64 k ∧ k ≤ q ∧ st.length ≤ k ∧ Own Kd.tree 156 wr w.heap.size NoT o st ∧ Hid (stackL l [] = stackL (l.drop k) st) ∧ Below w.heap.size w wr) (fun _ i _ => q - (intOf i).toNat)
  case atStart => exact ⟨0, [], rfl, by omega, by simp, Own.nil _ _ _ _ _, hid rfl, Below.refl _ _⟩
  case round =>
    obtain ⟨k, st, rfl, hkq, hstk, hO, HS, hb⟩ := hrel
    by_cases hlt : k < q
    · obtain ⟨a, x, rfl, hx, r0, r1⟩ := (HR.out.below hb).at_node k (by rw [HQ.out]; exact hlt)
      have hst := stackL_drop (st := st) hx
      obtain ⟨op, n⟩ := x
      have HST := hid (HS.out.trans hst)
      clear hx hst
      have hltI : (k : Int) < (q : Int) := by omega
      have hbs := hb.size
      obtain ⟨B, sn, sc, rfl, hq1, hq2⟩ := hO.shape'
      have HSN := hid hq1
      have hsn : sn ≤ k := by omega
      have hsc := hq2
      clear hq1 hq2
      have HO := hid hO
      have HB := hid hb
      clear hO hb
      obtain ⟨V, hV⟩ : ∃ V, V = wr.alloc (.cells #[.int .i64 op, .int .i64 n] 122) := ⟨_, rfl⟩
      have HBV := hid (show Below wr.heap.size wr V by rw [hV]; exact bAlloc (Below.refl _ _) _)
      have hz := hid (show V.heap[wr.heap.size]? = some (.cells #[.int .i64 op, .int .i64 n] 122 (0, 0)) by rw [hV]; exact heap_at rfl)
      have HCB := hid (fun (u : World) (h : Below V.heap.size V u) => (show u.cell? ⟨wr.heap.size, 0, none⟩ = some (.int .i64 op) ∧ u.cell? ⟨wr.heap.size, 1, none⟩ = some (.int .i64 n) ∧ ∀ j, u.frozen? ⟨wr.heap.size, j, none⟩ = false from by
        obtain ⟨z0, z1, _⟩ := cells_of_block ((h.block wr.heap.size (Array.getElem?_eq_some_iff.1 hz.out).1).trans hz.out)
        exact ⟨z0 0 _ rfl, z0 1 _ rfl, z1⟩))
      have HV := hid hV
      clear hV
      have hp2 : partsN op ≤ 2 := by unfold partsN; split <;> (try split) <;> omega
      obtain ⟨p, hp⟩ : ∃ p, p = partsN op := ⟨_, rfl⟩
      have HP := hid hp
      rw [← hp] at hp2
      clear hp
      by_cases hgood : mayN ⟨op, n⟩ = true ∧ p ≤ sn
      · obtain ⟨hmay, hle⟩ := hgood
        have HM := hid hmay
        obtain ⟨kk, hkk⟩ : ∃ kk, kk = sn - p := ⟨_, rfl⟩
        have hkk2 : kk + p = sn := by omega
        have hw : IntKind.i64.wrap ((sn : Int) - (p : Int)) = (kk : Int) := by rw [IntWalk.i64_in _ (by omega)]; omega
        have hneg : ¬ (kk : Int) < 0 := by omega
        have hk0 : (0 : Int) ≤ (kk : Int) := by omega
        have hkc : kk ≤ sc := by omega
        have HGD := hid (show stackL l [] = stackL (l.drop (k + 1)) (st.take kk ++ [nodeT st kk ⟨op, n⟩]) by
          have e : stackM st ⟨op, n⟩ = some (st.take kk ++ [nodeT st kk ⟨op, n⟩]) := by
            unfold stackM
            rw [← HSN.out]
            show (if mayN ⟨op, n⟩ = true ∧ partsN op ≤ sn then some (st.take (sn - partsN op) ++ [nodeT st (sn - partsN op) ⟨op, n⟩]) else none) = _
            rw [← HP.out, if_pos ⟨hmay, hle⟩, ← hkk]
          rw [HST.out, e])
        clear hmay hle hkk
        by_cases h3 : op = 3
        · subst h3
          have hp1 : p = 1 := HP.out
          have hkl : kk < sn := by omega
          have hklI : (kk : Int) < (sn : Int) := by omega
          clear hp1
          have HN := hid (fun (t : TreeS) (h : st[kk]? = some t) => (show nodeT st kk ⟨3, n⟩ = .turned t by unfold nodeT; rw [if_pos rfl, h]; rfl))
          go_wp2_with fail
          rw [← HV.out]
          refine (parts_calls 3 V).mono ?_
          rintro e w1 ⟨rfl, rfl⟩
          rw [← HP.out]
          have c0 := HCB.out V (Below.refl _ _)
          go_wp2_with fail
          refine (may_calls ⟨3, n⟩ V).mono ?_
          rintro e w1 ⟨rfl, hb1⟩
          rw [HM.out]
          obtain ⟨c1, c2, c3⟩ := HCB.out w1 hb1
          have hb2 := (HB.out.trans (HBV.out.mono hbs)).trans (hb1.mono (Nat.le_trans hbs HBV.out.size))
          have HB2 := hid hb2
          have HO2 := hid ((HO.out.below (HBV.out.trans (hb1.mono HBV.out.size))).short kk (by omega) HSN.out)
          have hrow := (HO.out.below (HBV.out.trans (hb1.mono HBV.out.size))).row
          have hb2s := hb2.size
          clear c0 hb1 hb2
          obtain ⟨b, t, rfl, ht, q0⟩ := hrow.at_tree kk (by rw [← HSN.out]; exact hkl)
          rw [HN.out t ht] at HGD
          clear hrow ht HN
          go_wp2_with (at_builtin; go_must (refine append_arm Kd.tree (w0 := w) w.heap.size rfl _ _ 195 156 _ 16 rfl Try.underlying195 Try.infoTree rfl (by decide) (by decide) (.slice (some b) kk sc) (st.take kk) (.turned t) [.iface 199 (.agg #[.iface t.ty t.val])] NoT NoT rfl rfl rfl (fun _ h => h.elim) HO2.out HB2.out hb2s (by rw [List.length_take]; omega) ?_))
          intro v1 w3 hO3 hb3 _ _
          go_wp2
          go_roundw
          case rel => exact ⟨k + 1, _, by go_num, by omega, by rw [List.length_append, List.length_take]; simp; omega, hO3, HGD, hb3⟩
          case measure => simp [intOf]; omega
        · have e3 : (op == (3 : Int)) = false := by simp [h3]
          by_cases h45 : op = 4 ∨ op = 5
          · clear h3
            rcases h45 with h4 | h4
            · subst h4
              have hp1 : p = 2 := HP.out
              have hkl : kk < sn := by omega
              have hkl2 : kk + 1 < sn := by omega
              have hklI : (kk : Int) < (sn : Int) := by omega
              have hkl2I : (kk : Int) + 1 < (sn : Int) := by omega
              have hw1 : IntKind.i64.wrap ((kk : Int) + 1) = (kk : Int) + 1 := IntWalk.i64_in _ (by omega)
              have hk1 : (0 : Int) ≤ (kk : Int) + 1 := by omega
              have hk1n : ((kk : Int) + 1).toNat = kk + 1 := by omega
              clear hp1
              have HN := hid (fun (t u : TreeS) (h : st[kk]? = some t) (h2 : st[kk + 1]? = some u) => (show nodeT st kk ⟨4, n⟩ = .pair false t u by unfold nodeT; rw [if_neg (show ¬((4 : Int) = 3) by decide), if_pos (show (4 : Int) = 4 ∨ (4 : Int) = 5 by decide), h, h2]; rfl))
              go_wp2_with fail
              rw [← HV.out]
              refine (parts_calls 4 V).mono ?_
              rintro e w1 ⟨rfl, rfl⟩
              rw [← HP.out]
              have c0 := HCB.out V (Below.refl _ _)
              go_wp2_with fail
              refine (may_calls ⟨4, n⟩ V).mono ?_
              rintro e w1 ⟨rfl, hb1⟩
              rw [HM.out]
              obtain ⟨c1, c2, c3⟩ := HCB.out w1 hb1
              have hb2 := (HB.out.trans (HBV.out.mono hbs)).trans (hb1.mono (Nat.le_trans hbs HBV.out.size))
              have HB2 := hid hb2
              have HO2 := hid ((HO.out.below (HBV.out.trans (hb1.mono HBV.out.size))).short kk (by omega) HSN.out)
              have hrow := (HO.out.below (HBV.out.trans (hb1.mono HBV.out.size))).row
              have hb2s := hb2.size
              clear c0 hb1 hb2
              obtain ⟨b, t, rfl, ht, q0⟩ := hrow.at_tree kk (by rw [← HSN.out]; exact hkl)
              obtain ⟨b', u, he, hu, q1⟩ := hrow.at_tree (kk + 1) (by rw [← HSN.out]; exact hkl2)
              cases he
              rw [Kd.add_lit _ _ (by omega)] at q1
              rw [HN.out t u ht hu] at HGD
              clear hrow ht hu HN
              go_wp2
              go_quiet (fail)
              go_wp2_with (at_builtin; go_must (refine append_arm Kd.tree (w0 := w) w.heap.size rfl _ _ 195 156 _ 16 rfl Try.underlying195 Try.infoTree rfl (by decide) (by decide) (.slice (some b) kk sc) (st.take kk) (.pair false t u) [.iface 201 (.agg #[.bool false, .iface t.ty t.val, .iface u.ty u.val])] NoT NoT rfl rfl rfl (fun _ h => h.elim) (HO2.out.drewN _) (below_drewN HB2.out _) hb2s (by rw [List.length_take]; omega) ?_))
              intro v1 w3 hO3 hb3 _ _
              go_wp2
              go_roundw
              case rel => exact ⟨k + 1, _, by go_num, by omega, by rw [List.length_append, List.length_take]; simp; omega, hO3, HGD, hb3⟩
              case measure => simp [intOf]; omega
            · subst h4
              have hp1 : p = 2 := HP.out
              have hkl : kk < sn := by omega
              have hkl2 : kk + 1 < sn := by omega
              have hklI : (kk : Int) < (sn : Int) := by omega
              have hkl2I : (kk : Int) + 1 < (sn : Int) := by omega
              have hw1 : IntKind.i64.wrap ((kk : Int) + 1) = (kk : Int) + 1 := IntWalk.i64_in _ (by omega)
              have hk1 : (0 : Int) ≤ (kk : Int) + 1 := by omega
              have hk1n : ((kk : Int) + 1).toNat = kk + 1 := by omega
              clear hp1
              have HN := hid (fun (t u : TreeS) (h : st[kk]? = some t) (h2 : st[kk + 1]? = some u) => (show nodeT st kk ⟨5, n⟩ = .pair true t u by unfold nodeT; rw [if_neg (show ¬((5 : Int) = 3) by decide), if_pos (show (5 : Int) = 4 ∨ (5 : Int) = 5 by decide), h, h2]; rfl))
              go_wp2_with fail
              rw [← HV.out]
              refine (parts_calls 5 V).mono ?_
              rintro e w1 ⟨rfl, rfl⟩
              rw [← HP.out]
              have c0 := HCB.out V (Below.refl _ _)
              go_wp2_with fail
              refine (may_calls ⟨5, n⟩ V).mono ?_
              rintro e w1 ⟨rfl, hb1⟩
              rw [HM.out]
              obtain ⟨c1, c2, c3⟩ := HCB.out w1 hb1
              have hb2 := (HB.out.trans (HBV.out.mono hbs)).trans (hb1.mono (Nat.le_trans hbs HBV.out.size))
              have HB2 := hid hb2
              have HO2 := hid ((HO.out.below (HBV.out.trans (hb1.mono HBV.out.size))).short kk (by omega) HSN.out)
              have hrow := (HO.out.below (HBV.out.trans (hb1.mono HBV.out.size))).row
              have hb2s := hb2.size
              clear c0 hb1 hb2
              obtain ⟨b, t, rfl, ht, q0⟩ := hrow.at_tree kk (by rw [← HSN.out]; exact hkl)
              obtain ⟨b', u, he, hu, q1⟩ := hrow.at_tree (kk + 1) (by rw [← HSN.out]; exact hkl2)
              cases he
              rw [Kd.add_lit _ _ (by omega)] at q1
              rw [HN.out t u ht hu] at HGD
              clear hrow ht hu HN
              go_wp2
              go_quiet (fail)
              go_wp2_with (at_builtin; go_must (refine append_arm Kd.tree (w0 := w) w.heap.size rfl _ _ 195 156 _ 16 rfl Try.underlying195 Try.infoTree rfl (by decide) (by decide) (.slice (some b) kk sc) (st.take kk) (.pair true t u) [.iface 201 (.agg #[.bool true, .iface t.ty t.val, .iface u.ty u.val])] NoT NoT rfl rfl rfl (fun _ h => h.elim) (HO2.out.drewN _) (below_drewN HB2.out _) hb2s (by rw [List.length_take]; omega) ?_))
              intro v1 w3 hO3 hb3 _ _
              go_wp2
              go_roundw
              case rel => exact ⟨k + 1, _, by go_num, by omega, by rw [List.length_append, List.length_take]; simp; omega, hO3, HGD, hb3⟩
              case measure => simp [intOf]; omega
          · have e4 : (op == (4 : Int)) = false := by simp; omega
            have e5 : (op == (5 : Int)) = false := by simp; omega
            have HN := hid (show nodeT st kk ⟨op, n⟩ = .leaf ⟨op, n⟩ by unfold nodeT; rw [if_neg h3, if_neg h45])
            rw [HN.out] at HGD
            clear h3 h45
            go_wp2_with fail
            rw [← HV.out]
            refine (parts_calls op V).mono ?_
            rintro e w1 ⟨rfl, rfl⟩
            rw [← HP.out]
            have c0 := HCB.out V (Below.refl _ _)
            go_wp2_with fail
            refine (may_calls ⟨op, n⟩ V).mono ?_
            rintro e w1 ⟨rfl, hb1⟩
            rw [HM.out]
            obtain ⟨c1, c2, c3⟩ := HCB.out w1 hb1
            have hb2 := (HB.out.trans (HBV.out.mono hbs)).trans (hb1.mono (Nat.le_trans hbs HBV.out.size))
            have HB2 := hid hb2
            have HO2 := hid ((HO.out.below (HBV.out.trans (hb1.mono HBV.out.size))).short kk (by omega) HSN.out)
            have hrow := (HO.out.below (HBV.out.trans (hb1.mono HBV.out.size))).row
            have hb2s := hb2.size
            clear c0 hb1 hb2
            clear hrow
            go_wp2_with (at_builtin; go_must (refine append_arm Kd.tree (w0 := w) w.heap.size rfl _ _ 195 156 _ 16 rfl Try.underlying195 Try.infoTree rfl (by decide) (by decide) (.slice B kk sc) (st.take kk) (.leaf ⟨op, n⟩) [.iface 197 (.agg #[.int .i64 op, .int .i64 n])] NoT NoT rfl rfl rfl (fun _ h => h.elim) HO2.out HB2.out hb2s (by rw [List.length_take]; omega) ?_))
            intro v1 w3 hO3 hb3 _ _
            go_wp2
            go_roundw
            case rel => exact ⟨k + 1, _, by go_num, by omega, by rw [List.length_append, List.length_take]; simp; omega, hO3, HGD, hb3⟩
            case measure => simp [intOf]; omega
      · have HBAD := hid (show madeV l = .nilIface by
          have e : stackM st ⟨op, n⟩ = none := by
            unfold stackM
            rw [if_neg]
            rw [← HSN.out]
            show ¬(mayN ⟨op, n⟩ = true ∧ partsN op ≤ sn)
            rw [← HP.out]
            exact hgood
          have h2 := HST.out
          rw [e] at h2
          unfold madeV madeN
          rw [h2])
        cases hm : mayN ⟨op, n⟩
        · go_wp2_with fail
          rw [← HV.out]
          refine (parts_calls op V).mono ?_
          rintro e w1 ⟨rfl, rfl⟩
          rw [← HP.out]
          have c0 := HCB.out V (Below.refl _ _)
          go_wp2_with fail
          refine (may_calls ⟨op, n⟩ V).mono ?_
          rintro e w1 ⟨rfl, hb1⟩
          rw [hm]
          have U1 := hid hb1
          clear c0 hb1
          go_wp2
          go_ret
          rw [HBAD.out]
          exact ⟨rfl, (HB.out.trans (HBV.out.mono hbs)).trans (U1.out.mono (Nat.le_trans hbs HBV.out.size))⟩
        · have hpn : ¬ p ≤ sn := fun h => hgood ⟨hm, h⟩
          have hw : IntKind.i64.wrap ((sn : Int) - (p : Int)) = (sn : Int) - (p : Int) := IntWalk.i64_in _ (by omega)
          have hneg : (sn : Int) - (p : Int) < 0 := by omega
          clear hgood
          go_wp2_with fail
          rw [← HV.out]
          refine (parts_calls op V).mono ?_
          rintro e w1 ⟨rfl, rfl⟩
          rw [← HP.out]
          have c0 := HCB.out V (Below.refl _ _)
          go_wp2_with fail
          refine (may_calls ⟨op, n⟩ V).mono ?_
          rintro e w1 ⟨rfl, hb1⟩
          rw [hm]
          have U1 := hid hb1
          clear c0 hb1
          go_wp2
          go_ret
          rw [HBAD.out]
          exact ⟨rfl, (HB.out.trans (HBV.out.mono hbs)).trans (U1.out.mono (Nat.le_trans hbs HBV.out.size))⟩
    · obtain rfl : k = q := by omega
      have hltI : ¬ (k : Int) < (k : Int) := by omega
      obtain ⟨B, sn, sc, rfl, hq1, hq2⟩ := hO.shape'
      have hst : stackL l [] = some st := by rw [HS.out, ← HQ.out, List.drop_length]; rfl
      by_cases h1 : sn = 1
      · subst h1
        obtain ⟨b, t, rfl, ht, q0⟩ := hO.row.at_tree 0 (by omega)
        have q1 : wr.cell? b = some (.iface t.ty t.val) := by rw [← q0]; unfold Addr.add; rw [if_pos rfl]
        have HT := hid (show madeV l = .iface t.ty t.val by
          unfold madeV madeN
          rw [hst]
          match st, hq1, ht with
          | [t'], _, ht => simp at ht; subst ht; rfl)
        clear hst ht hq1 hq2 q0
        go_wp2
        go_ret
        rw [HT.out]
        exact ⟨rfl, hb⟩
      · have h1n : ((sn : Int) != (1 : Int)) = true := by simp; omega
        have HT := hid (show madeV l = .nilIface by
          unfold madeV madeN
          rw [hst]
          match st, hq1 with
          | [], _ => rfl
          | [t'], h => exact absurd h h1
          | _ :: _ :: _, _ => rfl)
        clear hst hq1 hq2
        go_wp2
        go_ret
        rw [HT.out]
        exact ⟨rfl, hb⟩
end Go.Proofs.Yteijgeofimcijaa
