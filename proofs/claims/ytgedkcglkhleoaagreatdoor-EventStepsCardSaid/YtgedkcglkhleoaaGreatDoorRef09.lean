/- siskinref09: May, Parts0, Begin, Depth0, Check. -/
import Derived.Test.YtgedkcglkhleoaaGreatDoorBase
import Derived.Test.YtgedkcglkhleoaaGreatDoorNeedW
namespace Go.Proofs.YtgedkcglkhleoaaGreatDoor
open Go.RowKit

set_option maxHeartbeats 1000000 in
set_option maxRecDepth 100000 in
theorem rparts_calls (op : Int) (w : World) : Calls Tryz.prog 93 #[.int .i64 op] w fun e w' => e = .returned (.int .i64 (partsN op)) ∧ w = w' := by
  by_cases h3 : op = 3
  · subst h3
    go_enter Tryz.func93, Tryz.ntmps93
    go_wp2
    go_ret
    exact ⟨rfl, rfl⟩
  · by_cases h4 : op = 4
    · subst h4
      go_enter Tryz.func93, Tryz.ntmps93
      go_wp2
      go_ret
      exact ⟨rfl, rfl⟩
    · by_cases h5 : op = 5
      · subst h5
        go_enter Tryz.func93, Tryz.ntmps93
        go_wp2
        go_ret
        exact ⟨rfl, rfl⟩
      · have e3 : (op == (3 : Int)) = false := by simp [h3]
        have e4 : (op == (4 : Int)) = false := by simp [h4]
        have e5 : (op == (5 : Int)) = false := by simp [h5]
        have HP := hid (show partsN op = 0 by unfold partsN; rw [if_neg h3, if_neg (by omega)])
        clear h3 h4 h5
        go_enter Tryz.func93, Tryz.ntmps93
        go_wp2
        go_ret
        rw [HP.out]
        exact ⟨rfl, rfl⟩
set_option maxHeartbeats 1000000 in
set_option maxRecDepth 100000 in
theorem rmay_calls (x : NodeS) (w : World) : Calls Tryz.prog 78 #[.agg #[.int .i64 x.op, .int .i64 x.n]] w fun e w' => e = .returned (.bool (mayN x)) ∧ Below w.heap.size w w' := by
  obtain ⟨op, n⟩ := x
  by_cases h2 : op = 2
  · subst h2
    have HM := hid (show mayN ⟨2, n⟩ = (decide (0 ≤ n) && decide (n < 16)) from rfl)
    go_enter Tryz.func78, Tryz.ntmps78
    go_wp2
    all_goals (go_ret; exact ⟨ret_bool (by rw [HM.out, Bool.eq_iff_iff]; simp; try omega), bAlloc (Below.refl _ _) _⟩)
  · have e2 : (op == (2 : Int)) = false := by simp [h2]
    have HM := hid (show mayN ⟨op, n⟩ = (decide (1 ≤ op) && decide (op ≤ 5) && decide (n = 0)) by unfold mayN; rw [if_neg h2])
    clear h2
    go_enter Tryz.func78, Tryz.ntmps78
    go_wp2
    all_goals (go_ret; exact ⟨ret_bool (by rw [HM.out, Bool.eq_iff_iff]; simp; try omega), bAlloc (Below.refl _ _) _⟩)
theorem parts_le (op : Int) : partsN op ≤ 2 := by rcases parts_val op with ⟨_, h⟩ | ⟨_, h⟩ | ⟨_, _, h⟩ <;> omega
set_option maxHeartbeats 2000000 in
set_option maxRecDepth 100000 in
theorem rbegin_calls (l : List NodeS) (v : Value) (n : Nat) (k : Int) (w : World) (hl : Kd.node.slice.K w Any l [v]) (hn : n ≤ l.length) (hs : l.length ≤ 1000000) (hk : k = (n : Int) - 1) :
    Calls Tryz.prog 79 #[v, .int .i64 k] w fun e w' => e = .returned (.int .i64 (beginG l 1 n)) ∧ w = w' := by
  obtain ⟨A, c, he, hc, hm, hr⟩ := hl
  cases he
  have HR := hid hr
  obtain ⟨q, hq⟩ : ∃ q, l.length = q := ⟨_, rfl⟩
  have HQ := hid hq
  have HK := hid hk
  rw [hq] at hc hm hs hn ⊢
  clear hr hq hk
  go_enter Tryz.func79, Tryz.ntmps79
  go_wp2
  go_loopw [5, 6] (fun la i wr => ∃ (lack m : Nat), la = .int .i64 lack ∧ i = .int .i64 ((m : Int) - 1) ∧ 1 ≤ lack ∧ m ≤ n ∧ lack + m ≤ n + 1 + (n - m) * 3 ∧ Hid (beginG l 1 n = beginG l lack m) ∧ wr = w) (fun _ i _ => (intOf i + 1).toNat)
  case atStart => exact ⟨1, n, rfl, by rw [HK.out], by omega, by omega, by omega, hid rfl, rfl⟩
  case round =>
    obtain ⟨lack, m, rfl, rfl, h1, hmn, hb, HG, rfl⟩ := hrel
    cases m with
    | zero =>
      have HV := hid (show beginG l lack 0 = -1 by rw [beginG])
      have e0 : ((0 : Nat) : Int) - 1 = -1 := rfl
      rw [e0]
      clear e0
      go_wp2
      go_ret
      rw [HG.out, HV.out]
      exact ⟨rfl, rfl⟩
    | succ m =>
      have e0 : ((m + 1 : Nat) : Int) - 1 = m := by omega
      rw [e0]
      clear e0
      obtain ⟨a, x, rfl, hx, r0, r1⟩ := HR.out.at_node m (by rw [HQ.out]; omega)
      have hp2 := parts_le x.op
      obtain ⟨op, xn⟩ := x
      obtain ⟨p, hp⟩ : ∃ p, p = partsN op := ⟨_, rfl⟩
      have HP := hid hp
      have HV := hid (show beginG l lack (m + 1) = if lack - 1 + p = 0 then (m : Int) else beginG l (lack - 1 + p) m by rw [beginG, hx, hp]; rfl)
      have hp2' : p ≤ 2 := by rw [hp]; exact hp2
      have hmq : m < q := by omega
      have hmqI : (m : Int) < (q : Int) := by omega
      have hw1 : IntKind.i64.wrap ((lack : Int) - 1) = ((lack - 1 : Nat) : Int) := by rw [IntWalk.i64_in _ (by omega)]; omega
      have hw2 : IntKind.i64.wrap (((lack - 1 : Nat) : Int) + (p : Int)) = ((lack - 1 + p : Nat) : Int) := by rw [IntWalk.i64_in _ (by omega)]; omega
      clear hx hp hp2
      go_wp2_with fail
      refine (rparts_calls op _).mono ?_
      rintro e w2 ⟨rfl, rfl⟩
      rw [← HP.out]
      by_cases h0 : lack - 1 + p = 0
      · have h0I : (((lack - 1 + p : Nat) : Int) == 0) = true := by rw [h0]; rfl
        rw [if_pos h0] at HV
        clear h0
        go_wp2
        go_ret
        rw [HG.out, HV.out]
        exact ⟨rfl, rfl⟩
      · have h0I : (((lack - 1 + p : Nat) : Int) == 0) = false := by rw [beq_eq_false_iff_ne]; omega
        rw [if_neg h0] at HV
        have hl1 : 1 ≤ lack - 1 + p := by omega
        have hwm : IntKind.i64.wrap ((m : Int) - 1) = (m : Int) - 1 := IntWalk.i64_in _ (by omega)
        clear h0
        go_wp2
        go_roundw
        case rel => exact ⟨lack - 1 + p, m, rfl, rfl, hl1, by omega, by omega, hid (HG.out.trans HV.out), trivial⟩
        case measure => simp [intOf]
set_option maxHeartbeats 4000000 in
set_option maxRecDepth 100000 in
theorem rdepth_calls (l : List NodeS) (v : Value) (w : World) (hl : Kd.node.slice.K w Any l [v]) (hs : l.length ≤ 1000000) (t : TreeS) : t.ok → ∀ (pre post : List NodeS) (k : Int), l = pre ++ t.nodes ++ post → k = (pre.length + t.size : Nat) - 1 →
    Calls Tryz.prog 80 #[v, .int .i64 k] w fun e w' => e = .returned (.int .i64 (t.deep : Nat)) ∧ w = w' := by
  have HL := hid hl
  have HS := hid hs
  obtain ⟨A, c, he, hc, hm, hr⟩ := hl
  cases he
  have HR := hid hr
  obtain ⟨q, hq⟩ : ∃ q, l.length = q := ⟨_, rfl⟩
  have HQ := hid hq
  rw [hq] at hc hm hs HL ⊢
  clear hr hq
  induction t with
  | leaf x =>
    intro hok pre post k hp hk
    have hx : l[pre.length]? = some x := by rw [hp, List.append_assoc, List.getElem?_append_right (Nat.le_refl _), Nat.sub_self]; rfl
    obtain rfl : k = pre.length := by rw [hk]; show ((pre.length + 1 : Nat) : Int) - 1 = _; omega
    have hlq : pre.length < q := by rw [← HQ.out]; exact (List.getElem?_eq_some_iff.1 hx).1
    obtain ⟨a, x', rfl, hx', r0, r1⟩ := HR.out.at_node pre.length (by rw [HQ.out]; exact hlq)
    rw [hx] at hx'
    obtain rfl := Option.some.inj hx'
    have hlqI : (pre.length : Int) < (q : Int) := by omega
    obtain ⟨m, hm'⟩ : ∃ m, m = pre.length := ⟨_, rfl⟩
    rw [← hm'] at hlq hlqI r0 r1 ⊢
    have HP0 := hid hok.2
    clear hx hx' hp hm' hk r1
    go_enter Tryz.func80, Tryz.ntmps80
    go_wp2_with fail
    refine (rparts_calls x.op w).mono ?_
    rintro e w2 ⟨rfl, rfl⟩
    rw [HP0.out]
    go_wp2
    go_ret
    exact ⟨rfl, rfl⟩
  | turned t ih =>
    intro hok pre post k hp hk
    have hl2 : l = pre ++ t.nodes ++ ([⟨3, 0⟩] ++ post) := by rw [hp]; simp [TreeS.nodes]
    have hx : l[pre.length + t.size]? = some ⟨3, 0⟩ := by
      rw [hl2, List.getElem?_append_right (by rw [List.length_append, TreeS.nodes_len]; exact Nat.le_refl _), List.length_append, TreeS.nodes_len, Nat.sub_self]; rfl
    have IH := hid (fun k h => ih hok pre _ k hl2 h)
    obtain rfl : k = ((pre.length + t.size : Nat) : Int) := by rw [hk]; show ((pre.length + (t.size + 1) : Nat) : Int) - 1 = _; omega
    obtain ⟨m, hm'⟩ : ∃ m, m = pre.length + t.size := ⟨_, rfl⟩
    have hlq : m < q := by rw [← HQ.out, hm']; exact (List.getElem?_eq_some_iff.1 hx).1
    rw [← hm'] at hx IH ⊢
    obtain ⟨a, x', rfl, hx', r0, r1⟩ := HR.out.at_node m (by rw [HQ.out]; exact hlq)
    rw [hx] at hx'
    obtain rfl := Option.some.inj hx'
    have hlqI : (m : Int) < (q : Int) := by omega
    have hwm : IntKind.i64.wrap ((m : Int) - 1) = (m : Int) - 1 := IntWalk.i64_in _ (by omega)
    have HD := hid (show (TreeS.turned t).deep = t.deep + 1 from rfl)
    have hdz : t.deep ≤ 1000000 := by
      have := TreeS.deep_size t
      omega
    clear hx hx' hp hm' hk r1 hl2 ih
    go_enter Tryz.func80, Tryz.ntmps80
    go_wp2_with fail
    refine (rparts_calls 3 w).mono ?_
    rintro e w2 ⟨rfl, rfl⟩
    rw [show ((partsN 3 : Nat) : Int) = 1 from rfl]
    go_wp2_with fail
    refine (IH.out _ rfl).mono ?_
    rintro e w2 ⟨rfl, rfl⟩
    go_wp2
    go_ret
    rw [HD.out]
    exact ⟨ret_int (by omega), rfl⟩
  | pair o a b iha ihb =>
    intro hok pre post k hp hk
    have hl1 : l = pre ++ a.nodes ++ (b.nodes ++ [⟨if o then 5 else 4, 0⟩] ++ post) := by rw [hp]; simp [TreeS.nodes]
    have hl2 : l = (pre ++ a.nodes) ++ b.nodes ++ ([⟨if o then 5 else 4, 0⟩] ++ post) := by rw [hp]; simp [TreeS.nodes]
    have e : ((pre ++ a.nodes) ++ b.nodes).length = pre.length + a.size + b.size := by simp [TreeS.nodes_len]; omega
    have hx : l[pre.length + a.size + b.size]? = some ⟨if o then 5 else 4, 0⟩ := by
      rw [hl2, List.getElem?_append_right (by rw [e]; exact Nat.le_refl _), e, Nat.sub_self]; rfl
    have IHA := hid (fun k h => iha hok.1 pre _ k hl1 h)
    have IHB := hid (fun k h => ihb hok.2 (pre ++ a.nodes) _ k hl2 h)
    have hbg := begin_tree b hok.2 l (pre ++ a.nodes) _ 1 (Nat.le_refl _) hl2
    rw [List.length_append, TreeS.nodes_len, if_pos rfl] at hbg
    obtain ⟨m0, hm0⟩ : ∃ m0, m0 = pre.length + a.size := ⟨_, rfl⟩
    obtain ⟨m, hm'⟩ : ∃ m, m = m0 + b.size := ⟨_, rfl⟩
    have hlq : m < q := by rw [← HQ.out, hm', hm0]; exact (List.getElem?_eq_some_iff.1 hx).1
    obtain rfl : k = (m : Int) := by rw [hk]; show ((pre.length + (a.size + b.size + 1) : Nat) : Int) - 1 = _; omega
    have IHA2 : ∀ k : Int, k = (m0 : Int) - 1 → Calls Tryz.prog 80 #[.slice A q c, .int .i64 k] w fun e w' => e = .returned (.int .i64 (a.deep : Nat)) ∧ w = w' := fun k h => IHA.out k (by rw [h, hm0])
    have IHB2 : ∀ k : Int, k = (m : Int) - 1 → Calls Tryz.prog 80 #[.slice A q c, .int .i64 k] w fun e w' => e = .returned (.int .i64 (b.deep : Nat)) ∧ w = w' := fun k h => IHB.out k (by rw [h, hm', hm0, List.length_append, TreeS.nodes_len])
    obtain ⟨ov, hov⟩ : ∃ ov : Int, ov = if o then 5 else 4 := ⟨_, rfl⟩
    have HPO := hid (show ((partsN ov : Nat) : Int) = 2 by rw [hov]; cases o <;> rfl)
    rw [← hm0, ← hm'] at hx hbg
    rw [← hov] at hx
    have HBG := hid hbg
    have HA2 := hid IHA2
    have HB2 := hid IHB2
    obtain ⟨a', x', rfl, hx', r0, r1⟩ := HR.out.at_node m (by rw [HQ.out]; exact hlq)
    rw [hx] at hx'
    obtain rfl := Option.some.inj hx'
    have hlqI : (m : Int) < (q : Int) := by omega
    have hwm : IntKind.i64.wrap ((m : Int) - 1) = (m : Int) - 1 := IntWalk.i64_in _ (by omega)
    have hwm0 : IntKind.i64.wrap ((m0 : Int) - 1) = (m0 : Int) - 1 := IntWalk.i64_in _ (by omega)
    have HD := hid (show (TreeS.pair o a b).deep = max a.deep b.deep + 1 from rfl)
    have hda := TreeS.deep_size a
    have hdb := TreeS.deep_size b
    have hdz : a.deep ≤ 1000000 ∧ b.deep ≤ 1000000 := by omega
    obtain ⟨hdza, hdzb⟩ := hdz
    clear hx hx' hov hp hm' hm0 hk r1 hl1 hl2 iha ihb IHA IHB IHA2 IHB2 hbg e hda hdb
    go_enter Tryz.func80, Tryz.ntmps80
    go_wp2_with fail
    refine (rparts_calls ov w).mono ?_
    rintro e w2 ⟨rfl, rfl⟩
    rw [HPO.out]
    go_wp2_with fail
    refine (HB2.out _ rfl).mono ?_
    rintro e w2 ⟨rfl, rfl⟩
    go_wp2_with fail
    refine (rbegin_calls l _ m _ w HL.out (by rw [HQ.out]; omega) HS.out rfl).mono ?_
    rintro e w2 ⟨rfl, rfl⟩
    rw [HBG.out]
    go_wp2_with fail
    refine (HA2.out _ rfl).mono ?_
    rintro e w2 ⟨rfl, rfl⟩
    have hwx : IntKind.i64.wrap (max (b.deep : Int) (a.deep : Int) + 1) = max (b.deep : Int) (a.deep : Int) + 1 := IntWalk.i64_in _ (by omega)
    go_wp2
    go_ret
    rw [HD.out]
    exact ⟨ret_int (by omega), rfl⟩
set_option maxHeartbeats 4000000 in
set_option maxRecDepth 100000 in
theorem rcheck_calls (l : List NodeS) (v : Value) (w : World) (hl : Kd.node.slice.K w Any l [v]) (hs : l.length ≤ 1000000) :
    Calls Tryz.prog 60 #[v] w fun e w' => e = .returned (.int .i64 (checkN l)) ∧ Below w.heap.size w w' := by
  have HL := hid hl
  have HS := hid hs
  obtain ⟨A, c, he, hc, hn, hr⟩ := hl
  cases he
  have HR := hid hr
  obtain ⟨q, hq⟩ : ∃ q, l.length = q := ⟨_, rfl⟩
  have HQ := hid hq
  rw [hq] at hc hn hs HL ⊢
  clear hr hq
  by_cases h31 : 31 < q
  · have HC := hid (show checkN l = 4 by unfold checkN; rw [if_pos (by rw [HQ.out]; exact h31)])
    have h31I : (31 : Int) < (q : Int) := by omega
    go_enter Tryz.func60, Tryz.ntmps60
    go_wp2
    go_ret
    rw [HC.out]
    exact ⟨rfl, Below.refl _ _⟩
  · have h31I : ¬ (31 : Int) < (q : Int) := by omega
    have HC := hid (show checkN l = match madeN l with | none => 1 | some t => if 8 < t.deep then 4 else 0 by unfold checkN; rw [if_neg (by rw [HQ.out]; exact h31)]; cases madeN l <;> rfl)
    go_enter Tryz.func60, Tryz.ntmps60
    go_wp2
    go_loopw [3] (fun i wr => ∃ k : Nat, i = .int .i64 k ∧ k ≤ q ∧ Hid (∀ x ∈ l.take k, mayN x = true) ∧ Below w.heap.size w wr) (fun i _ => q - (intOf i).toNat)
    case atStart => exact ⟨0, rfl, by omega, hid (by simp), Below.refl _ _⟩
    case round =>
      obtain ⟨k, rfl, hkq, HM, hb⟩ := hrel
      by_cases hlt : k < q
      · obtain ⟨a, x, rfl, hx, r0, r1⟩ := (HR.out.below hb).at_node k (by rw [HQ.out]; exact hlt)
        have HX := hid hx
        have hltI : (k : Int) < (q : Int) := by omega
        clear hx
        go_wp2_with fail
        refine (rmay_calls x wr).mono ?_
        rintro e w2 ⟨rfl, hb2⟩
        have hb3 := bThen hb hb2
        clear hb hb2 r0 r1
        cases hm : mayN x
        · have HV := hid (show checkN l = 1 by
            rw [HC.out]
            cases h : madeN l with
            | none => rfl
            | some t =>
              obtain ⟨h1, h2⟩ := made_nodes h
              have := nodes_may t h1 x (by rw [← h2]; exact List.mem_of_getElem? HX.out)
              rw [hm] at this; cases this)
          go_wp2
          go_ret
          rw [HV.out]
          exact ⟨rfl, hb3⟩
        · go_wp2
          go_roundw
          case rel =>
            refine ⟨k + 1, by go_num, by omega, hid ?_, hb3⟩
            intro y hy
            rw [take_snoc HX.out] at hy
            rcases List.mem_append.1 hy with hy | hy
            · exact HM.out y hy
            · rw [List.mem_singleton.1 hy]; exact hm
          case measure => simp [intOf]; omega
      · obtain rfl : k = q := by omega
        have HMM := hid (show ∀ x ∈ l, mayN x = true from fun x hx => HM.out x (by rw [← HQ.out, List.take_length]; exact hx))
        by_cases h0 : k = 0
        · subst h0
          have HV := hid (show checkN l = 1 by
            rw [HC.out, List.length_eq_zero_iff.1 HQ.out]; rfl)
          go_wp2
          go_ret
          rw [HV.out]
          exact ⟨rfl, hb⟩
        · have h0I : ((k : Int) == 0) = false := by rw [beq_eq_false_iff_ne]; omega
          have hw : IntKind.i64.wrap ((k : Int) - 1) = (k : Int) - 1 := IntWalk.i64_in _ (by omega)
          have hkk : ¬ (k : Int) < (k : Int) := by omega
          have HB := hid hb
          clear h0 hb
          go_wp2_with fail
          refine (rbegin_calls l _ k _ wr (Kd.below HL.out HB.out) (by rw [HQ.out]; exact Nat.le_refl _) HS.out rfl).mono ?_
          rintro e w2 ⟨rfl, rfl⟩
          obtain ⟨bg, hbg⟩ : ∃ bg, bg = beginG l 1 k := ⟨_, rfl⟩
          rw [← hbg]
          have HBG := hid hbg
          clear hbg
          by_cases hb0 : bg = 0
          · subst hb0
            obtain ⟨t, ht⟩ := made_of_begin HMM.out (by rw [HQ.out]; exact HBG.out.symm)
            obtain ⟨t1, t2⟩ := made_nodes ht
            have hsz := made_size ht
            rw [HQ.out] at hsz
            have HD := hid (rdepth_calls l _ wr (Kd.below HL.out HB.out) HS.out t t1 [] [] ((k : Int) - 1) (by simpa using t2) (by simp [hsz]))
            rw [ht] at HC
            clear ht t1 t2 hsz
            go_wp2_with fail
            refine HD.out.mono ?_
            rintro e w2 ⟨rfl, rfl⟩
            by_cases h8 : 8 < t.deep
            · have h8I : (8 : Int) < (t.deep : Int) := by omega
              go_wp2
              go_ret
              rw [HC.out]
              exact ⟨ret_int (by show 4 = if 8 < t.deep then (4 : Int) else 0; rw [if_pos h8]), HB.out⟩
            · have h8I : ¬ (8 : Int) < (t.deep : Int) := by omega
              go_wp2
              go_ret
              rw [HC.out]
              exact ⟨ret_int (by show 0 = if 8 < t.deep then (4 : Int) else 0; rw [if_neg h8]), HB.out⟩
          · have hbn : (bg == (0 : Int)) = false := by simp [hb0]
            have HV := hid (show checkN l = 1 by
              rw [HC.out]
              cases h : madeN l with
              | none => rfl
              | some t => exact absurd (by rw [HBG.out, ← HQ.out]; exact begin_of_made h) hb0)
            clear hb0
            go_wp2
            go_ret
            rw [HV.out]
            exact ⟨rfl, HB.out⟩
end Go.Proofs.YtgedkcglkhleoaaGreatDoor
