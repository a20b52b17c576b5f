/- siskinref09.Says0, Says; siskinref12.Workers. -/
import Derived.Test.YtgedkcglkhleoaaGreatDoorRef09
import Derived.Test.YtgedkcglkhleoaaGreatDoorRef06
import Derived.Test.YtgedkcglkhleoaaGreatDoorAdmit
import Derived.Outline
namespace Go.Proofs.YtgedkcglkhleoaaGreatDoor
open Go.RowKit

theorem hasB_tree (s : Nat) (k : Int) : TreeS.hasB s k = hasB s k := by
  unfold TreeS.hasB hasB
  rw [Bool.decide_and]
def RSaysOk (s : Nat) (l : List NodeS) (t : TreeS) (k : Int) : Prop := ∀ (w : World) (v : Value), Kd.node.slice.K w Any l [v] →
  Calls Tryz.prog 81 #[v, .int .i64 k, .int .u64 s] w fun e w' => e = .returned (.bool (t.says s)) ∧ Below w.heap.size w w'
theorem leaf_op2 {x : NodeS} (hok : (TreeS.leaf x).ok) : x.op = 1 ∨ x.op = 2 := by
  obtain ⟨hm, hp⟩ := hok
  unfold mayN at hm
  unfold partsN at hp
  split at hm
  · right; assumption
  · simp at hm
    split at hp
    · cases hp
    · split at hp
      · cases hp
      · left; omega
set_option maxHeartbeats 4000000 in
set_option maxRecDepth 100000 in
theorem rsays_ok (s : Nat) (hs : s < 2 ^ 64) (l : List NodeS) (hln : l.length ≤ 1000000) (t : TreeS) : t.ok → ∀ (pre post : List NodeS) (k : Int), l = pre ++ t.nodes ++ post → k = (pre.length + t.size : Nat) - 1 → RSaysOk s l t k := by
  induction t with
  | leaf x =>
    intro hok pre post k hp hk w v hl
    have hx : l[pre.length]? = some x := by rw [hp, List.append_assoc, List.getElem?_append_right (Nat.le_refl _), Nat.sub_self]; rfl
    obtain rfl : k = pre.length := by rw [hk]; show ((pre.length + 1 : Nat) : Int) - 1 = _; omega
    obtain ⟨A, c, he, hc1, hm1, hrl⟩ := hl
    cases he
    obtain ⟨q, hq⟩ : ∃ q, l.length = q := ⟨_, rfl⟩
    have HQ := hid hq
    rw [hq] at hc1 hm1 hln ⊢
    have hlq : pre.length < q := by rw [← HQ.out]; exact (List.getElem?_eq_some_iff.1 hx).1
    obtain ⟨a, x', rfl, hx', r0, r1⟩ := hrl.at_node pre.length (by rw [HQ.out]; exact hlq)
    rw [hx] at hx'
    obtain rfl := Option.some.inj hx'
    have hlqI : (pre.length : Int) < (q : Int) := by omega
    have hop := leaf_op2 hok
    obtain ⟨m, hm'⟩ : ∃ m, m = pre.length := ⟨_, rfl⟩
    rw [← hm'] at hlq hlqI r0 r1 ⊢
    have HS := hid (show (TreeS.leaf x).says s = (decide (x.op = 1) || TreeS.hasB s x.n) from rfl)
    have hk0 : (0 : Int) ≤ (m : Int) := by omega
    clear hx hx' hp hm' hk hrl hq hok
    rcases hop with h1 | h2
    · have hb : (x.op == 1) = true := by rw [beq_iff_eq]; exact h1
      have HF := hid (show (TreeS.leaf x).says s = true by rw [HS.out, decide_eq_true h1]; rfl)
      clear h1
      go_enter Tryz.func81, Tryz.ntmps81
      go_wp2
      go_ret
      rw [HF.out]
      exact ⟨rfl, bAlloc (Below.refl _ _) _⟩
    · have hb1 : (x.op == 1) = false := by rw [beq_eq_false_iff_ne]; omega
      have hb2 : (x.op == 2) = true := by rw [beq_iff_eq]; exact h2
      have HF := hid (show (TreeS.leaf x).says s = hasB s x.n by rw [HS.out, decide_eq_false (by omega), hasB_tree]; rfl)
      clear h2
      go_enter Tryz.func81, Tryz.ntmps81
      go_wp2_with fail
      refine (rhas_calls s x.n _ hs).mono ?_
      rintro e w1 ⟨rfl, rfl⟩
      go_wp2
      go_ret
      rw [HF.out]
      exact ⟨rfl, bAlloc (Below.refl _ _) _⟩
  | turned t ih =>
    intro hok pre post k hp hk w v hl
    have hl2 : l = pre ++ t.nodes ++ ([⟨3, 0⟩] ++ post) := by rw [hp]; simp [TreeS.nodes]
    have hx : l[pre.length + t.size]? = some ⟨3, 0⟩ := by
      rw [hl2, List.getElem?_append_right (by rw [List.length_append, TreeS.nodes_len]; exact Nat.le_refl _), List.length_append, TreeS.nodes_len, Nat.sub_self]; rfl
    obtain rfl : k = ((pre.length + t.size : Nat) : Int) := by rw [hk]; show ((pre.length + (t.size + 1) : Nat) : Int) - 1 = _; omega
    have hpos := size_pos t
    obtain ⟨m, hm'⟩ : ∃ m, m + 1 = pre.length + t.size := ⟨pre.length + t.size - 1, by omega⟩
    have IH := hid (ih hok pre _ (m : Int) hl2 (by rw [← hm']; omega))
    have HD := hid (show (TreeS.turned t).says s = !t.says s from rfl)
    have HL := hid hl
    obtain ⟨A, c, he, hc1, hm1, hrl⟩ := hl
    cases he
    obtain ⟨q, hq⟩ : ∃ q, l.length = q := ⟨_, rfl⟩
    have HQ := hid hq
    rw [hq] at hc1 hm1 hln HL ⊢
    rw [← hm'] at hx ⊢
    have hlq : m + 1 < q := by rw [← HQ.out]; exact (List.getElem?_eq_some_iff.1 hx).1
    obtain ⟨a, x', rfl, hx', r0, r1⟩ := hrl.at_node (m + 1) (by rw [HQ.out]; exact hlq)
    rw [hx] at hx'
    obtain rfl := Option.some.inj hx'
    obtain ⟨p, hpp⟩ : ∃ p, p = m + 1 := ⟨_, rfl⟩
    have hwm : IntKind.i64.wrap ((p : Int) - 1) = (m : Int) := by rw [show ((p : Int) - 1) = (m : Int) by omega]; exact IntWalk.i64_in _ (by omega)
    rw [← hpp] at r0 r1 hlq ⊢
    have hlqI : (p : Int) < (q : Int) := by omega
    have hk0 : (0 : Int) ≤ (p : Int) := by omega
    obtain ⟨V, hV⟩ : ∃ V, V = w.alloc (.cells #[.int .i64 3, .int .i64 0] 130) := ⟨_, rfl⟩
    have HBV := hid (show Below w.heap.size w V by rw [hV]; exact bAlloc (Below.refl _ _) _)
    have z0 := hid (show V.heap[w.heap.size]? = some (.cells #[.int .i64 3, .int .i64 0] 130 (0, 0)) by rw [hV]; exact heap_at rfl)
    have HCB := hid (fun (u : World) (h : Below V.heap.size V u) => (show u.cell? ⟨w.heap.size, 0, none⟩ = some (.int .i64 3) from by
      obtain ⟨y0, _, _⟩ := cells_of_block ((h.block w.heap.size (Array.getElem?_eq_some_iff.1 z0.out).1).trans z0.out)
      exact y0 0 _ rfl))
    have HV := hid hV
    obtain ⟨b, hb⟩ : ∃ b, b = t.says s := ⟨_, rfl⟩
    have HB := hid hb
    rw [← hb] at HD
    clear hx hx' hp hm' hk hl2 ih hok hq hrl hpp hV hb
    go_enter Tryz.func81, Tryz.ntmps81
    go_wp2_with fail
    rw [← HV.out]
    refine (IH.out V _ (Kd.below HL.out HBV.out)).mono ?_
    rintro e w1 ⟨rfl, hb1⟩
    rw [← HB.out]
    have y0 := HCB.out w1 hb1
    have HB1 := hid (bThen HBV.out hb1)
    clear hb1
    go_wp2
    go_ret
    rw [HD.out]
    exact ⟨rfl, HB1.out⟩
  | pair o x y ihx ihy =>
    intro hok pre post k hp hk w v hl
    have hl1 : l = pre ++ x.nodes ++ (y.nodes ++ [⟨if o then 5 else 4, 0⟩] ++ post) := by rw [hp]; simp [TreeS.nodes]
    have hl2 : l = (pre ++ x.nodes) ++ y.nodes ++ ([⟨if o then 5 else 4, 0⟩] ++ post) := by rw [hp]; simp [TreeS.nodes]
    have e : ((pre ++ x.nodes) ++ y.nodes).length = pre.length + x.size + y.size := by simp [TreeS.nodes_len]; omega
    have hx : l[pre.length + x.size + y.size]? = some ⟨if o then 5 else 4, 0⟩ := by
      rw [hl2, List.getElem?_append_right (by rw [e]; exact Nat.le_refl _), e, Nat.sub_self]; rfl
    have hpx := size_pos x
    have hpy := size_pos y
    have hbg := begin_tree y hok.2 l (pre ++ x.nodes) _ 1 (Nat.le_refl _) hl2
    rw [List.length_append, TreeS.nodes_len, if_pos rfl] at hbg
    obtain ⟨m0, hm0⟩ : ∃ m0, m0 + 1 = pre.length + x.size := ⟨pre.length + x.size - 1, by omega⟩
    obtain ⟨m1, hm1⟩ : ∃ m1, m1 + 1 = pre.length + x.size + y.size := ⟨pre.length + x.size + y.size - 1, by omega⟩
    have IHX := hid (ihx hok.1 pre _ (m0 : Int) hl1 (by rw [← hm0]; omega))
    have IHY := hid (ihy hok.2 (pre ++ x.nodes) _ (m1 : Int) hl2 (by rw [List.length_append, TreeS.nodes_len, ← hm1]; omega))
    have hD : (TreeS.pair o x y).says s = if o then x.says s || y.says s else x.says s && y.says s := rfl
    have HL := hid hl
    have HBG := hid (fun (u : World) (hb : Below w.heap.size w u) => rbegin_calls l v (m1 + 1) (m1 : Int) u (Kd.below HL.out hb) (by rw [hl2, hm1]; simp [TreeS.nodes_len]; omega) hln (by omega))
    have hbg2 : beginG l 1 (m1 + 1) = ((m0 + 1 : Nat) : Int) := by rw [hm1, hm0]; exact hbg
    rw [hbg2] at HBG
    obtain ⟨A, c, he, hc1, hmm, hrl⟩ := hl
    cases he
    obtain ⟨q, hq⟩ : ∃ q, l.length = q := ⟨_, rfl⟩
    have HQ := hid hq
    rw [hq] at hc1 hmm hln HL HBG ⊢
    obtain rfl : k = ((m1 + 1 : Nat) : Int) := by rw [hk, hm1]; show ((pre.length + (x.size + y.size + 1) : Nat) : Int) - 1 = _; omega
    rw [← hm1] at hx
    have hlq : m1 + 1 < q := by rw [← HQ.out]; exact (List.getElem?_eq_some_iff.1 hx).1
    obtain ⟨a, x', rfl, hx', r0, r1⟩ := hrl.at_node (m1 + 1) (by rw [HQ.out]; exact hlq)
    rw [hx] at hx'
    obtain rfl := Option.some.inj hx'
    obtain ⟨p, hpp⟩ : ∃ p, p = m1 + 1 := ⟨_, rfl⟩
    obtain ⟨p0, hpp0⟩ : ∃ p0, p0 = m0 + 1 := ⟨_, rfl⟩
    rw [← hpp0] at HBG
    have hm0p : m0 + 1 < m1 + 1 + 1 := by omega
    have hwm : IntKind.i64.wrap ((p : Int) - 1) = (m1 : Int) := by rw [show ((p : Int) - 1) = (m1 : Int) by omega]; exact IntWalk.i64_in _ (by omega)
    have hwm0 : IntKind.i64.wrap ((p0 : Int) - 1) = (m0 : Int) := by rw [show ((p0 : Int) - 1) = (m0 : Int) by omega]; exact IntWalk.i64_in _ (by omega)
    rw [← hpp] at r0 r1 hlq ⊢
    have hlqI : (p : Int) < (q : Int) := by omega
    have hk0 : (0 : Int) ≤ (p : Int) := by omega
    obtain ⟨ov, hov⟩ : ∃ ov : Int, ov = if o then 5 else 4 := ⟨_, rfl⟩
    have r0' : w.cell? (a.add (p * 2)) = some (.int .i64 ov) := by rw [hov]; exact r0
    have hov2 : (ov == 1) = false ∧ (ov == 2) = false ∧ (ov == 3) = false := by rw [hov]; cases o <;> decide
    obtain ⟨v1, v2, v3⟩ := hov2
    have v4 : (ov == 4) = !o := by rw [hov]; cases o <;> rfl
    obtain ⟨V, hV⟩ : ∃ V, V = w.alloc (.cells #[.int .i64 ov, .int .i64 0] 130) := ⟨_, rfl⟩
    have HBV := hid (show Below w.heap.size w V by rw [hV]; exact bAlloc (Below.refl _ _) _)
    have z0 := hid (show V.heap[w.heap.size]? = some (.cells #[.int .i64 ov, .int .i64 0] 130 (0, 0)) by rw [hV]; exact heap_at rfl)
    have HCB := hid (fun (u : World) (h : Below V.heap.size V u) => (show u.cell? ⟨w.heap.size, 0, none⟩ = some (.int .i64 ov) from by
      obtain ⟨y0, _, _⟩ := cells_of_block ((h.block w.heap.size (Array.getElem?_eq_some_iff.1 z0.out).1).trans z0.out)
      exact y0 0 _ rfl))
    have HV := hid hV
    obtain ⟨sx, hsx⟩ : ∃ sx, sx = x.says s := ⟨_, rfl⟩
    obtain ⟨sy, hsy⟩ : ∃ sy, sy = y.says s := ⟨_, rfl⟩
    have HSX := hid hsx
    have HSY := hid hsy
    rw [← hsx, ← hsy] at hD
    have HD := hid hD
    clear hx hx' hp hk hl1 hl2 ihx ihy hok hq hrl hpp hpp0 e hbg hbg2 hm0 hm1 hm0p hpx hpy r0 hov hV hsx hsy hD
    go_enter Tryz.func81, Tryz.ntmps81
    go_wp2_with fail
    rw [← HV.out]
    refine (IHY.out V _ (Kd.below HL.out HBV.out)).mono ?_
    rintro e w1 ⟨rfl, hb1⟩
    rw [← HSY.out]
    have y0 := HCB.out w1 hb1
    have HB1 := hid (bThen HBV.out hb1)
    have HBB := hid hb1
    clear hb1
    go_wp2_with fail
    refine (HBG.out w1 HB1.out).mono ?_
    rintro e w2 ⟨rfl, rfl⟩
    go_wp2_with fail
    refine (IHX.out w1 _ (Kd.below HL.out HB1.out)).mono ?_
    rintro e w2 ⟨rfl, hb2⟩
    rw [← HSX.out]
    have y1 := HCB.out w2 (bThen HBB.out hb2)
    have HB2 := hid (bThen HB1.out hb2)
    clear hb2 y0
    cases o <;> cases sx
    all_goals
      go_wp2
      go_ret
      rw [HD.out]
      exact ⟨rfl, HB2.out⟩
set_option maxHeartbeats 1000000 in
set_option maxRecDepth 100000 in
theorem rsays_calls (l : List NodeS) (s : Nat) (v : Value) (w : World) (hl : Kd.node.slice.K w Any l [v]) (hln : l.length ≤ 1000000) (hs : s < 2 ^ 64) :
    Calls Tryz.prog 61 #[v, .int .u64 s] w fun e w' => e = .returned (.bool (saysN l s)) ∧ Below w.heap.size w w' := by
  have HL := hid hl
  have HLN := hid hln
  obtain ⟨A, c, he, hc, hm, _⟩ := hl
  cases he
  obtain ⟨q, hq⟩ : ∃ q, l.length = q := ⟨_, rfl⟩
  have HQ := hid hq
  rw [hq] at hc hm hln HL ⊢
  obtain ⟨cv, hcv⟩ : ∃ cv, cv = checkN l := ⟨_, rfl⟩
  have HCV := hid hcv
  clear hq hcv
  go_enter Tryz.func61, Tryz.ntmps61
  go_wp2_with fail
  refine (rcheck_calls l _ w HL.out HLN.out).mono ?_
  rintro e w1 ⟨rfl, hb1⟩
  rw [← HCV.out]
  have HB1 := hid hb1
  clear hb1
  by_cases h0 : cv = 0
  · subst h0
    obtain ⟨t, ht, _, _⟩ := check_made HCV.out.symm
    obtain ⟨hok, hn⟩ := made_nodes ht
    have hq : q = t.size := by rw [← HQ.out, hn, TreeS.nodes_len]
    have hpos := size_pos t
    rw [← hq] at hpos
    have e1 : IntKind.i64.wrap ((q : Int) - 1) = (q : Int) - 1 := IntWalk.i64_in _ (by omega)
    have HO := hid (rsays_ok s hs l HLN.out t hok [] [] ((q : Int) - 1) (by simpa using hn) (by rw [hq]; simp) w1 _ (Kd.below HL.out HB1.out))
    have HF := hid (show saysN l s = t.says s by unfold saysN; rw [if_pos HCV.out.symm, ht])
    clear ht hok hn hq
    go_wp2_with fail
    refine HO.out.mono ?_
    rintro e w2 ⟨rfl, hb2⟩
    go_wp2
    go_ret
    rw [HF.out]
    exact ⟨rfl, bThen HB1.out hb2⟩
  · have hb : (cv == 0) = false := by rw [beq_eq_false_iff_ne]; exact h0
    have HF := hid (show saysN l s = false by unfold saysN; rw [if_neg (by rw [← HCV.out]; exact h0)])
    clear h0
    go_wp2
    go_ret
    rw [HF.out]
    exact ⟨rfl, HB1.out⟩
/-- The places of the first k workers that a need admits. -/
def admitL (l : List NodeS) (ws : List WorkerS) : Nat → List Int
  | 0 => []
  | k + 1 => match ws[k]? with
    | some x => if saysN l x.attrs then admitL l ws k ++ [(k : Int)] else admitL l ws k
    | none => admitL l ws k
theorem admitL_len (l : List NodeS) (ws : List WorkerS) : ∀ k, (admitL l ws k).length ≤ k
  | 0 => Nat.le_refl _
  | k + 1 => by
    have := admitL_len l ws k
    unfold admitL
    split
    · split
      · simp; omega
      · omega
    · omega
theorem admitL_mem (l : List NodeS) (ws : List WorkerS) (j : Nat) : ∀ k, ((j : Int) ∈ admitL l ws k) ↔ j < k ∧ ∃ x, ws[j]? = some x ∧ saysN l x.attrs = true
  | 0 => by simp [admitL]
  | k + 1 => by
    have ih := admitL_mem l ws j k
    have key : ∀ b : Bool, (∃ x, ws[k]? = some x ∧ saysN l x.attrs = true) = (b = true) → (((j : Int) ∈ if b then admitL l ws k ++ [(k : Int)] else admitL l ws k) ↔ j < k + 1 ∧ ∃ x, ws[j]? = some x ∧ saysN l x.attrs = true) := by
      intro b hb
      cases b with
      | true =>
        rw [if_pos rfl, List.mem_append, ih, List.mem_singleton]
        constructor
        · rintro (⟨h1, h2⟩ | h)
          · exact ⟨by omega, h2⟩
          · obtain rfl : j = k := by omega
            exact ⟨by omega, by rw [hb]⟩
        · rintro ⟨h1, h2⟩
          by_cases hj : j = k
          · exact .inr (by omega)
          · exact .inl ⟨by omega, h2⟩
      | false =>
        rw [if_neg (by decide), ih]
        constructor
        · rintro ⟨h1, h2⟩; exact ⟨by omega, h2⟩
        · rintro ⟨h1, h2⟩
          refine ⟨?_, h2⟩
          by_cases hj : j = k
          · subst hj; rw [hb] at h2; cases h2
          · omega
    unfold admitL
    split
    · rename_i x hx
      have := key (saysN l x.attrs) (by simp [hx])
      exact this
    · rename_i hx
      have := key false (by simp [hx])
      simpa using this
theorem admitN_bit (l : List NodeS) (ws : List WorkerS) (j : Nat) : ∀ k, (admitN l ws k).testBit j = true ↔ (j < k ∧ ∃ x, ws[j]? = some x ∧ saysN l x.attrs = true)
  | 0 => by simp [admitN]
  | k + 1 => by
    have ih := admitN_bit l ws j k
    have key : ∀ b : Bool, (∃ x, ws[k]? = some x ∧ saysN l x.attrs = true) = (b = true) → ((if b then withS (admitN l ws k) k else admitN l ws k).testBit j = true ↔ j < k + 1 ∧ ∃ x, ws[j]? = some x ∧ saysN l x.attrs = true) := by
      intro b hb
      cases b with
      | true =>
        rw [if_pos rfl]
        unfold withS
        rw [Nat.testBit_or, Nat.one_shiftLeft, Nat.testBit_two_pow, Bool.or_eq_true, ih, decide_eq_true_iff]
        constructor
        · rintro (⟨h1, h2⟩ | h)
          · exact ⟨by omega, h2⟩
          · subst h
            exact ⟨by omega, by rw [hb]⟩
        · rintro ⟨h1, h2⟩
          by_cases hj : k = j
          · exact .inr hj
          · exact .inl ⟨by omega, h2⟩
      | false =>
        rw [if_neg (by decide), ih]
        constructor
        · rintro ⟨h1, h2⟩; exact ⟨by omega, h2⟩
        · rintro ⟨h1, h2⟩
          refine ⟨?_, h2⟩
          by_cases hj : j = k
          · subst hj; rw [hb] at h2; cases h2
          · omega
    unfold admitN
    split
    · rename_i x hx
      exact key (saysN l x.attrs) (by simp [hx])
    · rename_i hx
      have := key false (by simp [hx])
      simpa using this
theorem admitL_of (l : List NodeS) (ws : List WorkerS) : ofN (admitL l ws ws.length) 64 = admitS l ws := by
  apply Nat.eq_of_testBit_eq
  intro j
  rw [ofN_bit, Bool.eq_iff_iff, Bool.and_eq_true, decide_eq_true_iff, decide_eq_true_iff, admitL_mem]
  unfold admitS
  rw [admitN_bit]
  constructor
  · rintro ⟨h1, h2, h3⟩; exact ⟨by omega, h3⟩
  · rintro ⟨h1, h2⟩; exact ⟨by omega, by omega, h2⟩
set_option maxHeartbeats 2000000 in
set_option maxRecDepth 100000 in
theorem rworkers_calls (l : List NodeS) (ws : List WorkerS) (v u : Value) (w : World) (hl : Kd.node.slice.K w Any l [v]) (hw : Kd.worker.slice.K w Any ws [u]) (hs : l.length ≤ 1000000) (ha : ∀ x ∈ ws, x.attrs < 2 ^ 64) (hz : ws.length ≤ 1000000) :
    Calls Tryz.prog 44 #[v, u] w fun e w' => e = .returned (.int .u64 (admitS l ws : Nat)) ∧ Below w.heap.size w w' := by
  have HL := hid hl
  have HS := hid hs
  have HA := hid ha
  obtain ⟨B, d, he, _, _, _⟩ := hl
  cases he
  obtain ⟨A, c, he, hc, hn, hr⟩ := hw
  cases he
  have HR := hid hr
  obtain ⟨q, hq⟩ : ∃ q : Nat, ws.length = q := ⟨_, rfl⟩
  have HQ := hid hq
  rw [hq] at hc hn hz ⊢
  clear hq hr hs ha
  go_enter Tryz.func44, Tryz.ntmps44
  go_wp2
  go_loopw [5, 6] (fun o i wr => ∃ k : Nat, k ≤ q ∧ i = .int .i64 k ∧ Own (Kd.int .i64) 3 wr w.heap.size NoT o (admitL l ws k) ∧ Below w.heap.size w wr) (fun _ i _ => q - (intOf i).toNat)
  case atStart => exact ⟨0, by omega, rfl, Own.nil _ _ _ _ _, Below.refl _ _⟩
  case round =>
    obtain ⟨k, hk, rfl, hO, hb⟩ := hrel
    have HO := hid hO
    have HB := hid hb
    by_cases hlt : k < q
    · obtain ⟨a, x, rfl, hx, r0, r1, r2⟩ := (HR.out.below hb).at_worker k (by rw [HQ.out]; exact hlt)
      have HX := hid hx
      have hat := HA.out x (List.mem_of_getElem? hx)
      have hltI : (k : Int) < (q : Int) := by omega
      have hk0 : (0 : Int) ≤ (k : Int) := by omega
      have hln := admitL_len l ws k
      clear hx hO hb
      go_wp2_with fail
      refine (rsays_calls l x.attrs _ wr (Kd.below HL.out HB.out) HS.out hat).mono ?_
      rintro e w2 ⟨rfl, hb2⟩
      have HB2 := hid (bThen HB.out hb2)
      have HO2 := hid (HO.out.below hb2)
      clear hb2
      cases hsy : saysN l x.attrs
      · have HN := hid (show admitL l ws (k + 1) = admitL l ws k by rw [admitL, HX.out]; simp [hsy])
        go_wp2
        go_roundw
        case rel => exact ⟨k + 1, by omega, by go_num, by rw [HN.out]; exact HO2.out, HB2.out⟩
        case measure => simp [intOf]; omega
      · have HN := hid (show admitL l ws (k + 1) = admitL l ws k ++ [(k : Int)] by rw [admitL, HX.out]; simp [hsy])
        have hO := HO2.out
        have hb := HB2.out
        go_wp2_with (at_builtin; go_must (refine append_arm (Kd.int .i64) (w0 := w) w.heap.size rfl _ _ 42 3 _ 8 rfl Tryz.underlying42 Tryz.infoInt rfl (by decide) (by decide) u5 (admitL l ws k) (k : Int) [.int .i64 k] NoT NoT rfl rfl rfl (fun _ h => h.elim) hO hb hb.size (by omega) ?_))
        intro v1 w3 hO1 hb1 _ _
        go_wp2
        go_roundw
        case rel => exact ⟨k + 1, by omega, by go_num, by rw [HN.out]; exact hO1, hb1⟩
        case measure => simp [intOf]; omega
    · obtain rfl : k = q := by omega
      have HF := hid (show ofN (admitL l ws k) 64 = admitS l ws by rw [← HQ.out]; exact admitL_of l ws)
      obtain ⟨A3, n3, c3, rfl, hq1, hq2⟩ := hO.shape'
      clear hO hq1 hq2
      go_wp2_with fail
      refine (rof_calls (admitL l ws k) _ _ (Kd.any HO.out.K)).mono ?_
      rintro e w2 ⟨rfl, rfl⟩
      rw [HF.out]
      go_wp2
      go_ret
      exact ⟨rfl, HB.out⟩
end Go.Proofs.YtgedkcglkhleoaaGreatDoor
