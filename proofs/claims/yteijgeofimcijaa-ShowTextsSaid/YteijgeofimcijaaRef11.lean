/- siskinref11: Part, Text0, Text. -/
import Derived.Test.YteijgeofimcijaaRef09
import Derived.Test.YteijgeofimcijaaShow0
import Derived.Outline
import Derived.Deep.RegionHeld3
namespace Go.Proofs.Yteijgeofimcijaa
open Go.RowKit

/-- The document's text of the tree that ends at a place. -/
def RTextOk (tab : List ByteArray) (l : List NodeS) (t : TreeS) (k : Int) : Prop := ∀ (w : World) (tv v : Value), Kd.str.slice.K w Any tab [tv] → Kd.node.slice.K w Any l [v] →
  Calls Try.prog 76 #[tv, v, .int .i64 k] w fun e w' => e = .returned (.string (showT tab t)) ∧ Below w.heap.size w w'
set_option maxHeartbeats 2000000 in
set_option maxRecDepth 100000 in
theorem rpart_calls (tab : List ByteArray) (l : List NodeS) (t : TreeS) (m : Nat) (n : Int) (hx : l[m]? = some ⟨opT t, n⟩) (hT : RTextOk tab l t (m : Int)) (hz : (showT tab t).size ≤ 1000000000) (x y : Int) (w : World) (tv v : Value) (ht : Kd.str.slice.K w Any tab [tv]) (hl : Kd.node.slice.K w Any l [v]) :
    Calls Try.prog 133 #[tv, v, .int .i64 m, .int .i64 x, .int .i64 y] w fun e w' => e = .returned (.string (brT (decide (opT t = x) || decide (opT t = y)) (showT tab t))) ∧ Below w.heap.size w w' := by
  have HTO := hid (hT w tv v ht hl)
  have HL := hid hl
  obtain ⟨s, hss⟩ : ∃ s, s = showT tab t := ⟨_, rfl⟩
  rw [← hss] at hz HTO ⊢
  have h40 : (⟨#[40]⟩ : ByteArray).size = 1 := rfl
  have h41 : (⟨#[41]⟩ : ByteArray).size = 1 := rfl
  obtain ⟨A, c, he, _, _, _⟩ := ht
  cases he
  obtain ⟨B, d, he, hc, hm, hr⟩ := hl
  cases he
  obtain ⟨o, ho⟩ : ∃ o, o = opT t := ⟨_, rfl⟩
  rw [← ho] at hx ⊢
  obtain ⟨q, hq⟩ : ∃ q, l.length = q := ⟨_, rfl⟩
  have HQ := hid hq
  have HX := hid hx
  have hlq : m < q := by rw [← hq]; exact (List.getElem?_eq_some_iff.1 hx).1
  have hlqI : (m : Int) < (q : Int) := by omega
  have hk0 : (0 : Int) ≤ (m : Int) := by omega
  rw [hq] at hc hm HTO ⊢
  have HR := hid hr
  clear hT hss hx ho hr hq
  go_enter Try.func133, Try.ntmps133
  go_wp2_with fail
  refine HTO.out.mono ?_
  rintro e w1 ⟨rfl, hb1⟩
  obtain ⟨a, x', rfl, hx', r0, r1⟩ := (HR.out.below hb1).at_node m (by rw [HQ.out]; exact hlq)
  rw [HX.out] at hx'
  obtain rfl := Option.some.inj hx'
  have HB1 := hid hb1
  clear hx' r1 hb1
  by_cases h1 : o = x
  · have hb : (o == x) = true := by rw [beq_iff_eq]; exact h1
    have HF := hid (show brT (decide (o = x) || decide (o = y)) s = ⟨#[40]⟩ ++ s ++ ⟨#[41]⟩ by rw [decide_eq_true h1]; rfl)
    clear h1
    go_wp2
    go_ret
    rw [HF.out]
    exact ⟨rfl, HB1.out⟩
  · have hb : (o == x) = false := by rw [beq_eq_false_iff_ne]; exact h1
    by_cases h2 : o = y
    · have hb2 : (o == y) = true := by rw [beq_iff_eq]; exact h2
      have HF := hid (show brT (decide (o = x) || decide (o = y)) s = ⟨#[40]⟩ ++ s ++ ⟨#[41]⟩ by rw [decide_eq_true h2, Bool.or_true]; rfl)
      clear h1 h2
      go_wp2
      go_ret
      rw [HF.out]
      exact ⟨rfl, HB1.out⟩
    · have hb2 : (o == y) = false := by rw [beq_eq_false_iff_ne]; exact h2
      have HF := hid (show brT (decide (o = x) || decide (o = y)) s = s by rw [decide_eq_false h1, decide_eq_false h2]; rfl)
      clear h1 h2
      go_wp2
      go_ret
      rw [HF.out]
      exact ⟨rfl, HB1.out⟩
theorem leaf_op {x : NodeS} (hok : (TreeS.leaf x).ok) : (x.op = 1 ∧ x.n = 0) ∨ (x.op = 2 ∧ 0 ≤ x.n ∧ x.n < 16) := by
  obtain ⟨hm, hp⟩ := hok
  unfold mayN at hm
  unfold partsN at hp
  split at hm
  · simp at hm; right; exact ⟨by assumption, hm⟩
  · simp at hm
    split at hp
    · cases hp
    · split at hp
      · cases hp
      · left; omega
def knownT (tab : List ByteArray) (t : TreeS) : Prop := ∀ x ∈ t.nodes, x.op = 2 → x.n < (tab.length : Int)
set_option maxHeartbeats 4000000 in
set_option maxRecDepth 100000 in
theorem rtext_ok (tab : List ByteArray) (hB : ∀ y ∈ tab, y.size ≤ 1000000) (l : List NodeS) (hs : l.length ≤ 1000) (t : TreeS) : t.ok → knownT tab t → t.size ≤ 31 → ∀ (pre post : List NodeS) (k : Int), l = pre ++ t.nodes ++ post → k = (pre.length + t.size : Nat) - 1 → RTextOk tab l t k := by
  induction t with
  | leaf x =>
    intro hok hkn hz pre post k hp hk w tv v ht hl
    have hx : l[pre.length]? = some x := by rw [hp, List.append_assoc, List.getElem?_append_right (Nat.le_refl _), Nat.sub_self]; rfl
    obtain rfl : k = pre.length := by rw [hk]; show ((pre.length + 1 : Nat) : Int) - 1 = _; omega
    obtain ⟨B, d, he, hc, hn, hr⟩ := ht
    cases he
    obtain ⟨A, c, he, hc1, hm1, hrl⟩ := hl
    cases he
    obtain ⟨q, hq⟩ : ∃ q, l.length = q := ⟨_, rfl⟩
    have HQ := hid hq
    rw [hq] at hc1 hm1 hs ⊢
    have hlq : pre.length < q := by rw [← HQ.out]; exact (List.getElem?_eq_some_iff.1 hx).1
    obtain ⟨a, x', rfl, hx', r0, r1⟩ := hrl.at_node pre.length (by rw [HQ.out]; exact hlq)
    rw [hx] at hx'
    obtain rfl := Option.some.inj hx'
    have hlqI : (pre.length : Int) < (q : Int) := by omega
    have hin := hkn x (by simp [TreeS.nodes])
    have hop := leaf_op hok
    obtain ⟨m, hm'⟩ : ∃ m, m = pre.length := ⟨_, rfl⟩
    rw [← hm'] at hlq hlqI r0 r1 ⊢
    have HR := hid hr
    obtain ⟨S, hS⟩ : ∃ S, S = showT tab (.leaf x) := ⟨_, rfl⟩
    rw [← hS]
    have HS := hid hS
    have hk0 : (0 : Int) ≤ (m : Int) := by omega
    clear hx hx' hp hm' hk hr hrl hkn hq hS
    rcases hop with ⟨h1, _⟩ | ⟨h2, hn0, _⟩
    · have hb : (x.op == 1) = true := by rw [beq_iff_eq]; exact h1
      have HF := hid (show S = ⟨#[42]⟩ by rw [HS.out, showT, if_pos h1])
      clear hin h1
      go_enter Try.func76, Try.ntmps76
      go_wp2
      go_ret
      rw [HF.out]
      exact ⟨rfl, bAlloc (Below.refl _ _) _⟩
    · have hn1 := hin h2
      obtain ⟨k, hk⟩ : ∃ k : Nat, x.n = k := ⟨x.n.toNat, by omega⟩
      have HF0 := hid (show S = tab[k]?.getD ⟨#[]⟩ by rw [HS.out, showT, if_neg (by omega), hk, Int.toNat_natCast])
      rw [hk] at r1 hn1
      have hkl : k < tab.length := by omega
      obtain ⟨b, y, rfl, hy, s0⟩ := (HR.out.below (bAlloc (Below.refl _ _) (.cells #[.int .i64 x.op, .int .i64 k] 122))).at_str k hkl
      have hb1 : (x.op == 1) = false := by rw [beq_eq_false_iff_ne]; omega
      have hb2 : (x.op == 2) = true := by rw [beq_iff_eq]; exact h2
      have HF := hid (show S = y by rw [HF0.out, hy]; rfl)
      have hkk0 : (0 : Int) ≤ (k : Int) := by omega
      clear hin h2 hn0 hk hy
      go_enter Try.func76, Try.ntmps76
      go_wp2
      go_ret
      rw [HF.out]
      exact ⟨rfl, bAlloc (Below.refl _ _) _⟩
  | turned t ih =>
    intro hok hkn hz pre post k hp hk w tv v ht hl
    have hl2 : l = pre ++ t.nodes ++ ([⟨3, 0⟩] ++ post) := by rw [hp]; simp [TreeS.nodes]
    have hx : l[pre.length + t.size]? = some ⟨3, 0⟩ := by
      rw [hl2, List.getElem?_append_right (by rw [List.length_append, TreeS.nodes_len]; exact Nat.le_refl _), List.length_append, TreeS.nodes_len, Nat.sub_self]; rfl
    obtain rfl : k = ((pre.length + t.size : Nat) : Int) := by rw [hk]; show ((pre.length + (t.size + 1) : Nat) : Int) - 1 = _; omega
    have hzz : t.size + 1 ≤ 31 := hz
    have hpos := size_pos t
    obtain ⟨m, hm'⟩ : ∃ m, m + 1 = pre.length + t.size := ⟨pre.length + t.size - 1, by omega⟩
    have IH := ih hok (fun x hx => hkn x (by simp [TreeS.nodes, hx])) (by omega) pre _ (m : Int) hl2 (by rw [← hm']; omega)
    obtain ⟨n3, hn3⟩ := nodes_last t
    have hxm : l[m]? = some ⟨opT t, n3⟩ := by
      rw [hl2, List.append_assoc, List.getElem?_append_right (by omega), List.getElem?_append_left (by rw [TreeS.nodes_len]; omega), show m - pre.length = t.size - 1 by omega]; exact hn3
    have hsz := showT_size tab 1000000 hB t
    have hsz2 : (showT tab t).size ≤ 1000000000 := by omega
    have HPT := hid (rpart_calls tab l t m n3 hxm IH hsz2 4 5 w tv v ht hl)
    have HD := hid (show showT tab (.turned t) = ⟨#[33]⟩ ++ brT (decide (opT t = 4) || decide (opT t = 5)) (showT tab t) from rfl)
    have z1 := brT_size (decide (opT t = 4) || decide (opT t = 5)) (showT tab t)
    obtain ⟨S, hS⟩ : ∃ S, S = showT tab (.turned t) := ⟨_, rfl⟩
    rw [← hS] at HD ⊢
    obtain ⟨s1, hs1⟩ : ∃ s1, s1 = brT (decide (opT t = 4) || decide (opT t = 5)) (showT tab t) := ⟨_, rfl⟩
    rw [← hs1] at z1 HPT HD
    have z1' : s1.size ≤ 1000000002 := by omega
    have h33 : (⟨#[33]⟩ : ByteArray).size = 1 := rfl
    have HT := hid ht
    have HL := hid hl
    obtain ⟨B, d, he, _, _, _⟩ := ht
    cases he
    obtain ⟨A, c, he, hc1, hm1, hrl⟩ := hl
    cases he
    obtain ⟨q, hq⟩ : ∃ q, l.length = q := ⟨_, rfl⟩
    have HQ := hid hq
    rw [hq] at hc1 hm1 hs HL HPT ⊢
    rw [← hm'] at hx ⊢
    have hlq : m + 1 < q := by rw [← HQ.out]; exact (List.getElem?_eq_some_iff.1 hx).1
    obtain ⟨a, x', rfl, hx', r0, r1⟩ := hrl.at_node (m + 1) (by rw [HQ.out]; exact hlq)
    rw [hx] at hx'
    obtain rfl := Option.some.inj hx'
    have HRL := hid hrl
    obtain ⟨p, hpp⟩ : ∃ p, p = m + 1 := ⟨_, rfl⟩
    have hwm : IntKind.i64.wrap ((p : Int) - 1) = (m : Int) := by rw [show ((p : Int) - 1) = (m : Int) by omega]; exact IntWalk.i64_in _ (by omega)
    rw [← hpp] at r0 r1 hlq ⊢
    have hlqI : (p : Int) < (q : Int) := by omega
    have hk0 : (0 : Int) ≤ (p : Int) := by omega
    obtain ⟨V, hV⟩ : ∃ V, V = w.alloc (.cells #[.int .i64 3, .int .i64 0] 122) := ⟨_, rfl⟩
    have HBV := hid (show Below w.heap.size w V by rw [hV]; exact bAlloc (Below.refl _ _) _)
    have HPT2 := hid (rpart_calls tab l t m n3 hxm IH hsz2 4 5 V _ _ (Kd.below HT.out HBV.out) (Kd.below (d := Kd.node.slice) (cs := [Value.slice (some a) l.length c]) ⟨some a, c, rfl, by rw [HQ.out]; exact hc1, by rw [HQ.out]; exact hm1, HRL.out⟩ HBV.out))
    rw [HQ.out, ← hs1] at HPT2
    have HV := hid hV
    clear hx hx' hp hm' hk hl2 ih IH hkn hok hq hrl hS hs1 hpp hn3 hxm z1 hsz hV HPT
    go_enter Try.func76, Try.ntmps76
    go_wp2_with fail
    rw [← HV.out]
    refine HPT2.out.mono ?_
    rintro e w1 ⟨rfl, hb1⟩
    have HB1 := hid (bThen HBV.out hb1)
    clear hb1
    go_wp2
    go_ret
    rw [HD.out]
    exact ⟨rfl, HB1.out⟩
  | pair o x y ihx ihy =>
    intro hok hkn hz pre post k hp hk w tv v ht hl
    have hl1 : l = pre ++ x.nodes ++ (y.nodes ++ [⟨if o then 5 else 4, 0⟩] ++ post) := by rw [hp]; simp [TreeS.nodes]
    have hl2 : l = (pre ++ x.nodes) ++ y.nodes ++ ([⟨if o then 5 else 4, 0⟩] ++ post) := by rw [hp]; simp [TreeS.nodes]
    have e : ((pre ++ x.nodes) ++ y.nodes).length = pre.length + x.size + y.size := by simp [TreeS.nodes_len]; omega
    have hx : l[pre.length + x.size + y.size]? = some ⟨if o then 5 else 4, 0⟩ := by
      rw [hl2, List.getElem?_append_right (by rw [e]; exact Nat.le_refl _), e, Nat.sub_self]; rfl
    have hzz : x.size + y.size + 1 ≤ 31 := hz
    have hpx := size_pos x
    have hpy := size_pos y
    have hbg := begin_tree y hok.2 l (pre ++ x.nodes) _ 1 (Nat.le_refl _) hl2
    rw [List.length_append, TreeS.nodes_len, if_pos rfl] at hbg
    obtain ⟨m0, hm0⟩ : ∃ m0, m0 + 1 = pre.length + x.size := ⟨pre.length + x.size - 1, by omega⟩
    obtain ⟨m1, hm1⟩ : ∃ m1, m1 + 1 = pre.length + x.size + y.size := ⟨pre.length + x.size + y.size - 1, by omega⟩
    have IHX := ihx hok.1 (fun z hz => hkn z (by simp [TreeS.nodes, hz])) (by omega) pre _ (m0 : Int) hl1 (by rw [← hm0]; omega)
    have IHY := ihy hok.2 (fun z hz => hkn z (by simp [TreeS.nodes, hz])) (by omega) (pre ++ x.nodes) _ (m1 : Int) hl2 (by rw [List.length_append, TreeS.nodes_len, ← hm1]; omega)
    obtain ⟨n1, hn1⟩ := nodes_last x
    obtain ⟨n2, hn2⟩ := nodes_last y
    have hx1 : l[m0]? = some ⟨opT x, n1⟩ := by
      rw [hl1, List.append_assoc, List.getElem?_append_right (by omega), List.getElem?_append_left (by rw [TreeS.nodes_len]; omega), show m0 - pre.length = x.size - 1 by omega]; exact hn1
    have hx2 : l[m1]? = some ⟨opT y, n2⟩ := by
      rw [hl2, List.append_assoc, List.getElem?_append_right (by rw [List.length_append, TreeS.nodes_len]; omega), List.getElem?_append_left (by rw [TreeS.nodes_len, List.length_append, TreeS.nodes_len]; omega), List.length_append, TreeS.nodes_len, show m1 - (pre.length + x.size) = y.size - 1 by omega]; exact hn2
    have hsx := showT_size tab 1000000 hB x
    have hsy := showT_size tab 1000000 hB y
    have hsx2 : (showT tab x).size ≤ 1000000000 := by omega
    have hsy2 : (showT tab y).size ≤ 1000000000 := by omega
    obtain ⟨kx1, kx2, ky1, ky2, hkv⟩ : ∃ kx1 kx2 ky1 ky2 : Int, (kx1, kx2, ky1, ky2) = if o then ((0 : Int), (0 : Int), (5 : Int), (5 : Int)) else (5, 5, 4, 5) := ⟨_, _, _, _, rfl⟩
    have HL := hid hl
    have HT := hid ht
    have HPX := hid (fun (u : World) (hb : Below w.heap.size w u) => rpart_calls tab l x m0 n1 hx1 IHX hsx2 kx1 kx2 u tv v (Kd.below HT.out hb) (Kd.below HL.out hb))
    have HPY := hid (fun (u : World) (hb : Below w.heap.size w u) => rpart_calls tab l y m1 n2 hx2 IHY hsy2 ky1 ky2 u tv v (Kd.below HT.out hb) (Kd.below HL.out hb))
    have z1 := brT_size (decide (opT x = kx1) || decide (opT x = kx2)) (showT tab x)
    have z2 := brT_size (decide (opT y = ky1) || decide (opT y = ky2)) (showT tab y)
    obtain ⟨s1, hs1⟩ : ∃ s1, s1 = brT (decide (opT x = kx1) || decide (opT x = kx2)) (showT tab x) := ⟨_, rfl⟩
    obtain ⟨s2, hs2⟩ : ∃ s2, s2 = brT (decide (opT y = ky1) || decide (opT y = ky2)) (showT tab y) := ⟨_, rfl⟩
    have hD : showT tab (.pair o x y) = s1 ++ (if o then ⟨#[32, 124, 32]⟩ else ⟨#[32, 38, 32]⟩) ++ s2 := by
      rw [hs1, hs2]
      cases o with
      | true =>
        obtain ⟨rfl, rfl, rfl, rfl⟩ : kx1 = 0 ∧ kx2 = 0 ∧ ky1 = 5 ∧ ky2 = 5 := by simpa using hkv
        show showT tab x ++ _ ++ _ = _
        have e0 : (decide (opT x = 0) || decide (opT x = 0)) = false := by
          have : opT x ≠ 0 := by
            cases x with
            | leaf z => have := leaf_op hok.1; show z.op ≠ 0; omega
            | turned z => show (3 : Int) ≠ 0; decide
            | pair o2 _ _ => cases o2; exact (by decide : (4 : Int) ≠ 0); exact (by decide : (5 : Int) ≠ 0)
          simp [this]
        rw [e0, Bool.or_self]; rfl
      | false =>
        obtain ⟨rfl, rfl, rfl, rfl⟩ : kx1 = 5 ∧ kx2 = 5 ∧ ky1 = 4 ∧ ky2 = 5 := by simpa using hkv
        show brT (decide (opT x = 5)) _ ++ _ ++ _ = _
        rw [Bool.or_self]; rfl
    rw [← hs1] at z1 HPX
    rw [← hs2] at z2 HPY
    have z1' : s1.size ≤ 1000000002 := by omega
    have z2' : s2.size ≤ 1000000002 := by omega
    obtain ⟨S, hS⟩ : ∃ S, S = showT tab (.pair o x y) := ⟨_, rfl⟩
    rw [← hS] at hD ⊢
    have HBG := hid (fun (u : World) (hb : Below w.heap.size w u) => rbegin_calls l v (m1 + 1) (m1 : Int) u (Kd.below HL.out hb) (by rw [hl2, hm1]; simp [TreeS.nodes_len]; omega) (by omega) (by omega))
    have hbg2 : beginG l 1 (m1 + 1) = ((m0 + 1 : Nat) : Int) := by rw [hm1, hm0]; exact hbg
    rw [hbg2] at HBG
    obtain ⟨B, d, he, _, _, _⟩ := ht
    cases he
    obtain ⟨A, c, he, hc1, hmm, hrl⟩ := hl
    cases he
    obtain ⟨q, hq⟩ : ∃ q, l.length = q := ⟨_, rfl⟩
    have HQ := hid hq
    rw [hq] at hc1 hmm hs HL HPX HPY HBG ⊢
    obtain rfl : k = ((m1 + 1 : Nat) : Int) := by rw [hk, hm1]; show ((pre.length + (x.size + y.size + 1) : Nat) : Int) - 1 = _; omega
    rw [← hm1] at hx
    have hlq : m1 + 1 < q := by rw [← HQ.out]; exact (List.getElem?_eq_some_iff.1 hx).1
    obtain ⟨a, x', rfl, hx', r0, r1⟩ := hrl.at_node (m1 + 1) (by rw [HQ.out]; exact hlq)
    rw [hx] at hx'
    obtain rfl := Option.some.inj hx'
    obtain ⟨p, hpp⟩ : ∃ p, p = m1 + 1 := ⟨_, rfl⟩
    obtain ⟨p0, hpp0⟩ : ∃ p0, p0 = m0 + 1 := ⟨_, rfl⟩
    rw [← hpp0] at HBG
    have hm0p : m0 + 1 < m1 + 1 + 1 := by omega
    have hwm : IntKind.i64.wrap ((p : Int) - 1) = (m1 : Int) := by rw [show ((p : Int) - 1) = (m1 : Int) by omega]; exact IntWalk.i64_in _ (by omega)
    have hwm0 : IntKind.i64.wrap ((p0 : Int) - 1) = (m0 : Int) := by rw [show ((p0 : Int) - 1) = (m0 : Int) by omega]; exact IntWalk.i64_in _ (by omega)
    rw [← hpp] at r0 r1 hlq ⊢
    have hlqI : (p : Int) < (q : Int) := by omega
    have hk0 : (0 : Int) ≤ (p : Int) := by omega
    have h38 : (⟨#[32, 38, 32]⟩ : ByteArray).size = 3 := rfl
    have h124 : (⟨#[32, 124, 32]⟩ : ByteArray).size = 3 := rfl
    clear hx hx' hp hk hl1 hl2 ihx ihy IHX IHY hkn hok hq hrl hS hs1 hs2 hpp hpp0 hn1 hn2 hx1 hx2 z1 z2 hsx hsy hsx2 hsy2 e hbg hbg2 hm0 hm1 hm0p hz hpx hpy hzz
    cases o with
    | true =>
      obtain ⟨rfl, rfl, rfl, rfl⟩ : kx1 = 0 ∧ kx2 = 0 ∧ ky1 = 5 ∧ ky2 = 5 := by simpa using hkv
      rw [if_pos rfl] at r0 hD
      have HD := hid hD
      clear hkv hD
      obtain ⟨V, hV⟩ : ∃ V, V = w.alloc (.cells #[.int .i64 5, .int .i64 0] 122) := ⟨_, rfl⟩
      have HBV := hid (show Below w.heap.size w V by rw [hV]; exact bAlloc (Below.refl _ _) _)
      have z0 := hid (show V.heap[w.heap.size]? = some (.cells #[.int .i64 5, .int .i64 0] 122 (0, 0)) by rw [hV]; exact heap_at rfl)
      have y0 := hid (show V.cell? ⟨w.heap.size, 0, none⟩ = some (.int .i64 5) from (cells_of_block z0.out).1 0 _ rfl)
      have HV := hid hV
      clear hV
      go_enter Try.func76, Try.ntmps76
      go_wp2_with fail
      rw [← HV.out]
      refine (HBG.out V HBV.out).mono ?_
      rintro e w1 ⟨rfl, rfl⟩
      have y1 := y0.out
      go_wp2_with fail
      refine (HPX.out V HBV.out).mono ?_
      rintro e w2 ⟨rfl, hb2⟩
      have HB2 := hid (bThen HBV.out hb2)
      clear hb2
      go_wp2_with fail
      refine (HPY.out w2 HB2.out).mono ?_
      rintro e w3 ⟨rfl, hb3⟩
      have HB3 := hid (bThen HB2.out hb3)
      clear hb3
      go_wp2
      go_ret
      rw [HD.out]
      exact ⟨rfl, HB3.out⟩
    | false =>
      obtain ⟨rfl, rfl, rfl, rfl⟩ : kx1 = 5 ∧ kx2 = 5 ∧ ky1 = 4 ∧ ky2 = 5 := by simpa using hkv
      rw [if_neg (by decide)] at r0 hD
      have HD := hid hD
      clear hkv hD
      obtain ⟨V, hV⟩ : ∃ V, V = w.alloc (.cells #[.int .i64 4, .int .i64 0] 122) := ⟨_, rfl⟩
      have HBV := hid (show Below w.heap.size w V by rw [hV]; exact bAlloc (Below.refl _ _) _)
      have z0 := hid (show V.heap[w.heap.size]? = some (.cells #[.int .i64 4, .int .i64 0] 122 (0, 0)) by rw [hV]; exact heap_at rfl)
      have y0 := hid (show V.cell? ⟨w.heap.size, 0, none⟩ = some (.int .i64 4) from (cells_of_block z0.out).1 0 _ rfl)
      have HV := hid hV
      clear hV
      go_enter Try.func76, Try.ntmps76
      go_wp2_with fail
      rw [← HV.out]
      refine (HBG.out V HBV.out).mono ?_
      rintro e w1 ⟨rfl, rfl⟩
      have y1 := y0.out
      go_wp2_with fail
      refine (HPX.out V HBV.out).mono ?_
      rintro e w2 ⟨rfl, hb2⟩
      have HB2 := hid (bThen HBV.out hb2)
      clear hb2
      go_wp2_with fail
      refine (HPY.out w2 HB2.out).mono ?_
      rintro e w3 ⟨rfl, hb3⟩
      have HB3 := hid (bThen HB2.out hb3)
      clear hb3
      go_wp2
      go_ret
      rw [HD.out]
      exact ⟨rfl, HB3.out⟩
end Go.Proofs.Yteijgeofimcijaa
