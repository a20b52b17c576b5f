/- need.copied, need.Parts, show.op. -/
import Derived.Test.YtolckkckheiceaaNeedW
import Derived.Test.YtolckkckheiceaaReadP
import Derived.Test.YtolckkckheiceaaShow0
import Derived.Deep.RegionHeld3
namespace Go.Proofs.Ytolckkckheiceaa
open Go.RowKit

set_option maxHeartbeats 1000000 in
set_option maxRecDepth 100000 in
theorem copied_calls (l : List NodeS) (A : Option Addr) (n c : Nat) (w : World) (hn : l.length = n) (hs : n ≤ 1000000) (hr : Kd.node.Row w Any A l) :
    Calls Try.prog 172 #[.slice A n c] w fun e w' => ∃ B d, e = .returned (.slice B n d) ∧ Kd.node.slice.K w' Any l [.slice B n d] ∧ Below w.heap.size w w' := by
  have HR := hid hr
  have HN := hid hn
  clear hr hn
  go_enter Try.func172, Try.ntmps172
  go_wp2_with (at_builtin; go_must (refine appends_arm Kd.node (w0 := w) w.heap.size rfl _ _ 57 122 _ 16 rfl Try.underlying57 Try.infoNode rfl (by decide) (by decide) (.slice none 0 0) [] l A n c NoT Any NoT rfl rfl HN.out HR.out (fun _ _ h => h) (fun _ h => h.elim) (Own.nil _ _ _ _ _) (Below.refl _ _) (Nat.le_refl _) (by simp; omega) ?_))
  intro v1 w1 hO hb _ _
  obtain ⟨B, m, d, rfl, hm, _⟩ := hO.shape'
  rw [HN.out] at hm
  subst hm
  have HO := hid (Kd.any hO.K)
  clear hO
  go_wp2
  go_ret
  exact ⟨B, d, rfl, HO.out, hb⟩
set_option maxHeartbeats 1000000 in
set_option maxRecDepth 100000 in
theorem showOp_calls (t : TreeS) (v : Value) (w : World) (hl : Kd.node.slice.K w Any t.nodes [v]) (hs : t.size ≤ 1000000) :
    Calls Try.prog 173 #[v] w fun e w' => e = .returned (.int .i64 (opT t)) ∧ w = w' := by
  obtain ⟨A, c, he, hc, hm, hr⟩ := hl
  cases he
  obtain ⟨n, hn⟩ := nodes_last t
  have hp := size_pos t
  obtain ⟨a, x, rfl, hx, r0, _⟩ := hr.at_node (t.size - 1) (by rw [TreeS.nodes_len]; omega)
  rw [hn] at hx
  obtain rfl := Option.some.inj hx
  rw [TreeS.nodes_len] at hc hm ⊢
  obtain ⟨q, hq⟩ : ∃ q, t.size = q + 1 := ⟨t.size - 1, by omega⟩
  rw [hq] at hc hm r0 hs ⊢
  rw [Nat.add_sub_cancel] at r0
  obtain ⟨o, ho⟩ : ∃ o, o = opT t := ⟨_, rfl⟩
  rw [← ho] at r0 ⊢
  have e1 : IntKind.i64.wrap ((↑(q + 1) : Int) - 1) = (q : Int) := by rw [show ((↑(q + 1) : Int) - 1) = (q : Int) by omega]; exact IntWalk.i64_in _ (by omega)
  clear hr hn hq hx ho
  go_enter Try.func173, Try.ntmps173
  go_wp2
  go_ret
  exact ⟨rfl, rfl⟩
theorem Kd.Row.node_take {w : World} {S : Nat → Prop} {A : Option Addr} {xs ys zs : List NodeS} (h : Kd.node.Row w S A xs) (he : xs = ys ++ zs) : Kd.node.Row w S A ys := by
  have := h.take ys.length
  rwa [he, List.take_left] at this

/-- A list of trees' lists, in a row of its own. -/
def PartsAt (w : World) (g : Nat) (v0 : Value) (t0 : TreeS) (v1 : Value) (t1 : TreeS) : Prop := w.cell? ⟨g, 0, none⟩ = some v0 ∧ w.cell? ⟨g, 1, none⟩ = some v1 ∧ Kd.node.slice.K w Any t0.nodes [v0] ∧ Kd.node.slice.K w Any t1.nodes [v1]

set_option maxHeartbeats 2000000 in
set_option maxRecDepth 100000 in
theorem parts_leaf (x : NodeS) (v : Value) (w : World) (hok : (TreeS.leaf x).ok) (hl : Kd.node.slice.K w Any (TreeS.leaf x).nodes [v]) :
    Calls Try.prog 125 #[v] w fun e w' => e = .returned (.slice none 0 0) ∧ Below w.heap.size w w' := by
  have HL := hid hl
  have hck := hid (check_of hok (show 1 ≤ 31 by decide) (show 1 ≤ 8 by decide))
  have hmd := hid (made_of_nodes hok)
  have HV := hid (show madeV (TreeS.leaf x).nodes = .iface 242 (.agg #[.int .i64 x.op, .int .i64 x.n]) by unfold madeV; rw [hmd.out]; rfl)
  have h1 : ∀ w, (Instr.typeAssert (.iface 242 (.agg #[.int .i64 x.op, .int .i64 x.n])) 194 246 true).run Try.prog w = .ok (.tuple #[.agg #[.bool false, .nilIface, .nilIface], .bool false]) w := ta_pair (.leaf x)
  have h2 : ∀ w, (Instr.typeAssert (.iface 242 (.agg #[.int .i64 x.op, .int .i64 x.n])) 194 244 true).run Try.prog w = .ok (.tuple #[.agg #[.nilIface], .bool false]) w := ta_turned (.leaf x)
  have hln := hid (show (TreeS.leaf x).nodes.length ≤ 1000000 from (show 1 ≤ 1000000 by decide))
  obtain ⟨A, c, he, _, _, _⟩ := hl
  cases he
  go_enter Try.func125, Try.ntmps125
  go_wp2_with fail
  refine (needCheck_calls _ _ w HL.out hln.out).mono ?_
  rintro e w1 ⟨rfl, hb1⟩
  rw [hck.out]
  have HB1 := hid hb1
  go_wp2_with fail
  refine (made_calls _ _ w1 (Kd.below HL.out HB1.out) hln.out).mono ?_
  rintro e w2 ⟨rfl, hb2⟩
  rw [HV.out]
  have HB2 := hid (bThen HB1.out hb2)
  clear hb1 hb2
  go_wp2
  go_ret
  exact ⟨rfl, bAlloc (bAlloc HB2.out _) _⟩
set_option maxHeartbeats 2000000 in
set_option maxRecDepth 100000 in
theorem parts_turned (t : TreeS) (v : Value) (w : World) (hok : t.ok) (hz : (TreeS.turned t).size ≤ 31) (hd : (TreeS.turned t).deep ≤ 8) (hl : Kd.node.slice.K w Any (TreeS.turned t).nodes [v]) :
    Calls Try.prog 125 #[v] w fun e w' => ∃ g v0, e = .returned (.slice (some ⟨g, 0, none⟩) 1 1) ∧ g < w'.heap.size ∧ w'.cell? ⟨g, 0, none⟩ = some v0 ∧ Kd.node.slice.K w' Any t.nodes [v0] ∧ Below w.heap.size w w' := by
  have HL := hid hl
  have hck := hid (check_of (t := .turned t) hok hz hd)
  have hmd := hid (made_of_nodes (t := .turned t) hok)
  have HV := hid (show madeV (TreeS.turned t).nodes = .iface 244 (.agg #[.iface t.ty t.val]) by unfold madeV; rw [hmd.out]; rfl)
  have h1 : ∀ w, (Instr.typeAssert (.iface 244 (.agg #[.iface t.ty t.val])) 194 246 true).run Try.prog w = .ok (.tuple #[.agg #[.bool false, .nilIface, .nilIface], .bool false]) w := ta_pair (.turned t)
  have h2 : ∀ w, (Instr.typeAssert (.iface 244 (.agg #[.iface t.ty t.val])) 194 244 true).run Try.prog w = .ok (.tuple #[.agg #[.iface t.ty t.val], .bool true]) w := ta_turned (.turned t)
  have hzz : t.size + 1 ≤ 31 := hz
  have hln := hid (show (TreeS.turned t).nodes.length ≤ 1000000 by rw [TreeS.nodes_len]; omega)
  obtain ⟨A, c, he, hc, _, hr⟩ := hl
  cases he
  have hlen : (TreeS.turned t).nodes.length = t.size + 1 := by rw [TreeS.nodes_len]; rfl
  rw [hlen] at hc HL ⊢
  have HR := hid (hr.node_take (ys := t.nodes) (zs := [⟨3, 0⟩]) rfl)
  obtain ⟨q, hq⟩ : ∃ q, q = t.size := ⟨_, rfl⟩
  rw [← hq] at hc HL hzz ⊢
  have HQ := hid (show t.nodes.length = q by rw [TreeS.nodes_len, hq])
  have e1 : IntKind.i64.wrap ((↑(q + 1) : Int) - 1) = (q : Int) := by rw [show ((↑(q + 1) : Int) - 1) = (q : Int) by omega]; exact IntWalk.i64_in _ (by omega)
  clear hr hq hlen hok hd hz
  go_enter Try.func125, Try.ntmps125
  go_wp2_with fail
  refine (needCheck_calls _ _ w HL.out hln.out).mono ?_
  rintro e w1 ⟨rfl, hb1⟩
  rw [hck.out]
  have HB1 := hid hb1
  go_wp2_with fail
  refine (made_calls _ _ w1 (Kd.below HL.out HB1.out) hln.out).mono ?_
  rintro e w2 ⟨rfl, hb2⟩
  rw [HV.out]
  have HB2 := hid (bThen HB1.out hb2)
  clear hb1 hb2
  go_wp2_with fail
  refine (copied_calls t.nodes A q c _ HQ.out (by omega) ((HR.out.below HB2.out).below (bAlloc (bAlloc (Below.refl _ _) _) _))).mono ?_
  rintro e w3 ⟨B, d, rfl, hK, hb3⟩
  have HK := hid hK
  have HB3 := hid (bThen HB2.out ((bAlloc (bAlloc (Below.refl w2.heap.size w2) _) _).trans (hb3.mono (by simp; omega))))
  clear hK hb3
  go_wp2
  go_ret
  exact ⟨_, _, rfl, by simp, (cells_of_block (heap_at rfl)).1 0 _ rfl, Kd.below HK.out (bAlloc (Below.refl _ _) _), bAlloc HB3.out _⟩
set_option maxHeartbeats 4000000 in
set_option maxRecDepth 100000 in
theorem parts_pair (o : Bool) (x y : TreeS) (v : Value) (w : World) (hok : (TreeS.pair o x y).ok) (hz : (TreeS.pair o x y).size ≤ 31) (hd : (TreeS.pair o x y).deep ≤ 8) (hl : Kd.node.slice.K w Any (TreeS.pair o x y).nodes [v]) :
    Calls Try.prog 125 #[v] w fun e w' => ∃ g v0 v1, e = .returned (.slice (some ⟨g, 0, none⟩) 2 2) ∧ g < w'.heap.size ∧ PartsAt w' g v0 x v1 y ∧ Below w.heap.size w w' := by
  have HL := hid hl
  have hck := hid (check_of hok hz hd)
  have hmd := hid (made_of_nodes hok)
  have HV := hid (show madeV (TreeS.pair o x y).nodes = .iface 246 (.agg #[.bool o, .iface x.ty x.val, .iface y.ty y.val]) by unfold madeV; rw [hmd.out]; rfl)
  have h1 : ∀ w, (Instr.typeAssert (.iface 246 (.agg #[.bool o, .iface x.ty x.val, .iface y.ty y.val])) 194 246 true).run Try.prog w = .ok (.tuple #[.agg #[.bool o, .iface x.ty x.val, .iface y.ty y.val], .bool true]) w := ta_pair (.pair o x y)
  have hzz : x.size + y.size + 1 ≤ 31 := hz
  have hpx := size_pos x
  have hln := hid (show (TreeS.pair o x y).nodes.length ≤ 1000000 by rw [TreeS.nodes_len]; omega)
  obtain ⟨A, c, he, hc, _, hr⟩ := hl
  cases he
  have hlen : (TreeS.pair o x y).nodes.length = x.size + y.size + 1 := by rw [TreeS.nodes_len]; rfl
  rw [hlen] at hc HL ⊢
  have HR1 := hid (hr.node_take (ys := x.nodes) (zs := y.nodes ++ [⟨if o then 5 else 4, 0⟩]) (by simp [TreeS.nodes]))
  have hr2 := hr.drop x.size c (by rw [hlen]; omega) (by rw [hlen]; exact hc)
  rw [if_neg (by omega)] at hr2
  obtain ⟨a, rfl⟩ : ∃ a, A = some a := by
    obtain ⟨a, _, h, _⟩ := hr 0 ((TreeS.pair o x y).nodes[0]'(by rw [hlen]; omega)) (List.getElem?_eq_getElem _)
    exact ⟨a, h⟩
  have HR2 : Hid (Kd.node.Row w Any (some (a.add (x.size * 2))) y.nodes) := hid (hr2.node_take (ys := y.nodes) (zs := [⟨if o then 5 else 4, 0⟩]) (by
    show (x.nodes ++ y.nodes ++ _).drop x.size = _
    rw [List.append_assoc, ← TreeS.nodes_len x, List.drop_left]))
  obtain ⟨q, hq⟩ : ∃ q, q = x.size := ⟨_, rfl⟩
  obtain ⟨p, hqr⟩ : ∃ p, p = x.size + y.size := ⟨_, rfl⟩
  have hxs : x.size ≤ 1000000 := by omega
  have HSX := hid (fun w => size_calls x hxs w)
  rw [← hqr] at hc HL hzz ⊢
  have HQR := hid (show y.nodes.length = p - x.size by rw [TreeS.nodes_len, hqr, Nat.add_sub_cancel_left])
  have f2 : x.size ≤ p := by omega
  rw [← hq] at HR2 HSX HQR f2 hpx
  have HQ := hid (show x.nodes.length = q by rw [TreeS.nodes_len, hq])
  have e1 : IntKind.i64.wrap ((↑(p + 1) : Int) - 1) = (p : Int) := by rw [show ((↑(p + 1) : Int) - 1) = (p : Int) by omega]; exact IntWalk.i64_in _ (by omega)
  have f1 : (q : Int) ≤ (p : Int) := by omega
  have f3 : p ≤ c := by omega
  have f4 : (p : Int) ≤ (c : Int) := by omega
  have f6 : c ≠ q := by omega
  have g1 : (0 : Int) ≤ (q : Int) := by omega
  have g0 : (0 : Int) ≤ (p : Int) := by omega
  have e2 : IntKind.i64.wrap (p : Int) = (p : Int) := IntWalk.i64_in _ (by omega)
  have g2 : (q : Int) ≤ (c : Int) := by omega
  clear hr hr2 hq hqr hlen hok hd hz hxs
  go_enter Try.func125, Try.ntmps125
  go_wp2_with fail
  refine (needCheck_calls _ _ w HL.out hln.out).mono ?_
  rintro e w1 ⟨rfl, hb1⟩
  rw [hck.out]
  have HB1 := hid hb1
  go_wp2_with fail
  refine (made_calls _ _ w1 (Kd.below HL.out HB1.out) hln.out).mono ?_
  rintro e w2 ⟨rfl, hb2⟩
  rw [HV.out]
  have HB2 := hid (bThen HB1.out hb2)
  obtain ⟨V, hV⟩ : ∃ V, V = w2.alloc (.cells #[.bool o, .iface x.ty x.val, .iface y.ty y.val] 246) := ⟨_, rfl⟩
  have HBV := hid (show Below w.heap.size w V by rw [hV]; exact bAlloc HB2.out _)
  have HV2 := hid hV
  clear hb1 hb2 hV
  go_wp2_with fail
  rw [← HV2.out]
  refine (HSX.out _).mono ?_
  rintro e w3 ⟨rfl, hb3⟩
  have HB3 := hid (bThen HBV.out hb3)
  have c0 := hb3.size
  clear hb3
  go_wp2_with fail
  go_region_held3 (fun _ => True) (first | exact trivial | fail) (first
    | ((with_reducible refine (copied_calls x.nodes (some a) q c w3.drew HQ.out (by omega) (HR1.out.below (HB3.out.drew)) ).mono ?_); rintro e w4 ⟨B1, d1, rfl, hK, hb4⟩; have HK1 := hid hK; have HB4 := hid (bThen HB3.out.drew hb4); clear hK hb4)
    | ((with_reducible refine (copied_calls y.nodes (some (a.add (q * 2))) (p - q) (c - q) w4 HQR.out (by omega) (HR2.out.below HB4.out) ).mono ?_); rintro e w5 ⟨B2, d2, rfl, hK, hb5⟩; have HK2 := hid hK; have HK1' := hid (Kd.below HK1.out hb5); have HB5 := hid (bThen HB4.out hb5); clear hK hb5)
    | (trace_state; fail))
  go_wp2
  go_ret
  exact ⟨_, _, _, rfl, by simp, ⟨(cells_of_block (heap_at rfl)).1 0 _ rfl, (cells_of_block (heap_at rfl)).1 1 _ rfl, Kd.below HK1'.out (bAlloc (Below.refl _ _) _), Kd.below HK2.out (bAlloc (Below.refl _ _) _)⟩, bAlloc HB5.out _⟩
end Go.Proofs.Ytolckkckheiceaa
