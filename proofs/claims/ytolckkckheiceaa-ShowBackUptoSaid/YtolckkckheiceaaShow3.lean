/- show.shower.text, show.Text. -/
import Derived.Test.YtolckkckheiceaaShow2
import Derived.Test.YtolckkckheiceaaRef11
namespace Go.Proofs.Ytolckkckheiceaa
open Go.RowKit

theorem kinds_new (W : World) (b : Nat) (hb : b = W.heap.size) (ks : List Int) (hm : ks.length ≤ 140737488355328) : (Kd.int .i64).slice.K (W.alloc (.cells (ks.flatMap (fun x => [Value.int .i64 x])).toArray 3)) Any ks [.slice (some ⟨b, 0, none⟩) ks.length ks.length] :=
  Kd.any (K_new (enc := fun x => [Value.int .i64 x]) (hl := fun _ => rfl) (h1 := fun x u hu => by rw [List.mem_singleton.1 hu]; rfl) W b hb 3 ks hm)
theorem kinds_nil (W : World) : (Kd.int .i64).slice.K W Any [] [.slice none 0 0] := ⟨none, 0, rfl, Nat.le_refl _, by decide, Kd.Row.nil⟩
set_option maxHeartbeats 2000000 in
set_option maxRecDepth 100000 in
theorem text_leaf (tab : List ByteArray) (x : NodeS) (hok : (TreeS.leaf x).ok) (hin : x.op = 2 → x.n < (tab.length : Int)) : TextOk tab (.leaf x) := by
  intro w tv v ht hl
  have HT := hid ht
  have HL := hid hl
  obtain ⟨B, d, he, hc, hn, hr⟩ := ht
  injection he with he _
  subst he
  obtain ⟨A, c, he, hc1, _, hrl⟩ := hl
  injection he with he _
  subst he
  obtain ⟨a, x', rfl, hx, r0, r1⟩ := (hrl.below (bAlloc (Below.refl _ _) (.cells #[.slice B tab.length d] 126))).at_node 0 (by rw [TreeS.nodes_len]; exact Nat.one_pos)
  have hx2 : x' = x := (Option.some.inj hx).symm
  subst hx2
  rw [Nat.zero_mul] at r0 r1
  have hlen : (TreeS.leaf x').nodes.length = 1 := rfl
  rw [hlen] at hc1 HL ⊢
  have r0' : (w.alloc (.cells #[.slice B tab.length d] 126)).cell? a = some (.int .i64 x'.op) := by have := r0; rwa [show a.add 0 = a from by unfold Addr.add; rw [if_pos rfl]] at this
  have r1' : (w.alloc (.cells #[.slice B tab.length d] 126)).cell? ⟨a.block, a.off + 1, none⟩ = some (.int .i64 x'.n) := by have := r1; rwa [show a.add 0 = a from by unfold Addr.add; rw [if_pos rfl]] at this
  have hmf := makeFunc_run Try.prog
  obtain ⟨V, hV⟩ : ∃ V, V = (w.alloc (.cells #[.slice B tab.length d] 126)).alloc (.cells #[.int .i64 x'.op, .int .i64 x'.n] 122) := ⟨_, rfl⟩
  have HBV := hid (show Below w.heap.size w V by rw [hV]; exact bAlloc (bAlloc (Below.refl _ _) _) _)
  have hsz : V.heap.size = w.heap.size + 2 := by rw [hV]; simp
  have z0 := hid (show V.heap[w.heap.size]? = some (.cells #[.slice B tab.length d] 126 (0, 0)) by
    rw [hV, Below.heap_alloc _ _ _ (by simp)]; exact heap_at rfl)
  have z1 := hid (show V.heap[w.heap.size + 1]? = some (.cells #[.int .i64 x'.op, .int .i64 x'.n] 122 (0, 0)) by rw [hV]; exact heap_at (by simp))
  have HCB := hid (fun (u : World) (h : Below V.heap.size V u) => (show u.cell? ⟨w.heap.size, 0, none⟩ = some (.slice B tab.length d) ∧ u.cell? ⟨w.heap.size + 1, 0, none⟩ = some (.int .i64 x'.op) ∧ u.cell? ⟨w.heap.size + 1, 1, none⟩ = some (.int .i64 x'.n) from by
    obtain ⟨y0, _, _⟩ := cells_of_block ((h.block w.heap.size (by omega)).trans z0.out)
    obtain ⟨y1, _, _⟩ := cells_of_block ((h.block (w.heap.size + 1) (by omega)).trans z1.out)
    exact ⟨y0 0 _ rfl, y1 0 _ rfl, y1 1 _ rfl⟩))
  have HV := hid hV
  have HR := hid hr
  have HSZ := hid hsz
  have HOK := hid hok
  obtain ⟨S, hS⟩ : ∃ S, S = showT tab (.leaf x') := ⟨_, rfl⟩
  rw [← hS]
  have HS := hid hS
  clear hV hr hsz hrl r0 r1 hx hok hS
  go_enter Try.func73, Try.ntmps73
  go_wp2_with fail
  rw [← HV.out]
  refine (parts_leaf x' _ V HOK.out (Kd.below HL.out HBV.out)).mono ?_
  rintro e w1 ⟨rfl, hb1⟩
  obtain ⟨c0, c1, c2⟩ := HCB.out w1 hb1
  have HB1 := hid (bThen HBV.out hb1)
  have hs1 : w.heap.size + 2 ≤ w1.heap.size := by have := hb1.size; have := HSZ.out; omega
  have HA := hid (bAlloc (Below.refl w1.heap.size w1) (.cells #[.slice none 0 0] 196))
  replace c0 := ((bcell HA.out).1 w.heap.size 0 (by omega)).trans c0
  replace c1 := ((bcell HA.out).1 (w.heap.size + 1) 0 (by omega)).trans c1
  replace c2 := ((bcell HA.out).1 (w.heap.size + 1) 1 (by omega)).trans c2
  clear hb1
  obtain ⟨hm, hp⟩ := HOK.out
  by_cases h1 : x'.op = 1
  · have hb : (x'.op == 1) = true := by rw [beq_iff_eq]; exact h1
    have HF := hid (show S = ⟨#[42]⟩ by rw [HS.out, showT, if_pos h1])
    clear hin h1 hm hp
    go_wp2
    go_ret
    rw [HF.out]
    exact ⟨rfl, bAlloc HB1.out _⟩
  · have h2 : x'.op = 2 := by
      unfold mayN at hm
      unfold partsN at hp
      split at hm
      · assumption
      · simp at hm
        split at hp
        · cases hp
        · split at hp
          · cases hp
          · omega
    have hn0 : 0 ≤ x'.n := by
      unfold mayN at hm
      rw [if_pos h2] at hm
      simp at hm; omega
    have hn1 := hin h2
    obtain ⟨k, hk⟩ : ∃ k : Nat, x'.n = k := ⟨x'.n.toNat, by omega⟩
    rw [hk] at c2 hn1
    have hkl : k < tab.length := by omega
    obtain ⟨b, y, rfl, hy, s0⟩ := (HR.out.below (bAlloc HB1.out (.cells #[.slice none 0 0] 196))).at_str k hkl
    have hb1 : (x'.op == 1) = false := by rw [beq_eq_false_iff_ne]; exact h1
    have hb2 : (x'.op == 2) = true := by rw [beq_iff_eq]; exact h2
    have HF := hid (show S = y by rw [HS.out, showT, if_neg h1, hk, Int.toNat_natCast, hy]; rfl)
    have hk0 : (0 : Int) ≤ (k : Int) := by omega
    clear hin h1 h2 hm hp hn0 hk hy
    go_wp2
    go_ret
    rw [HF.out]
    exact ⟨rfl, bAlloc HB1.out _⟩
set_option maxHeartbeats 4000000 in
set_option maxRecDepth 100000 in
theorem text_turned (tab : List ByteArray) (t : TreeS) (ih : TextOk tab t) (hok : t.ok) (hz : (TreeS.turned t).size ≤ 31) (hd : (TreeS.turned t).deep ≤ 8) (hsz : (showT tab t).size ≤ 1000000000) : TextOk tab (.turned t) := by
  intro w tv v ht hl
  have HT := hid ht
  have HL := hid hl
  have hzz : t.size + 1 ≤ 31 := hz
  have HPT := hid (fun (u : World) (tv v kv : Value) (h1 : Kd.str.slice.K u Any tab [tv]) (h2 : Kd.node.slice.K u Any t.nodes [v]) (h3 : (Kd.int .i64).slice.K u Any [4, 5] [kv]) => part_calls tab t ih hsz (by omega) [4, 5] u tv v kv h1 h2 h3)
  have HPA := hid (fun (u : World) (v : Value) (h : Kd.node.slice.K u Any (TreeS.turned t).nodes [v]) => parts_turned t v u hok hz hd h)
  obtain ⟨B, d, he, hc, hn, hr⟩ := ht
  injection he with he _
  subst he
  obtain ⟨A, c, he, hc1, _, hrl⟩ := hl
  injection he with he _
  subst he
  have hlen : (TreeS.turned t).nodes.length = t.size + 1 := by rw [TreeS.nodes_len]; rfl
  obtain ⟨a, x', rfl, hx, r0, r1⟩ := (hrl.below (bAlloc (Below.refl _ _) (.cells #[.slice B tab.length d] 126))).at_node t.size (by rw [hlen]; omega)
  have hx2 : x' = ⟨3, 0⟩ := by
    obtain ⟨n, hn⟩ := nodes_last (.turned t)
    rw [show (TreeS.turned t).size - 1 = t.size from rfl, hx] at hn
    have e0 : (TreeS.turned t).nodes[t.size]? = some ⟨3, 0⟩ := by
      show (t.nodes ++ [_])[t.size]? = _
      rw [List.getElem?_append_right (by rw [TreeS.nodes_len]; exact Nat.le_refl _), TreeS.nodes_len, Nat.sub_self]; rfl
    rw [hx] at e0
    exact Option.some.inj e0
  subst hx2
  obtain ⟨q, hq⟩ : ∃ q, q = t.size := ⟨_, rfl⟩
  rw [hlen, ← hq] at hc1 HL ⊢
  rw [← hq] at r0 r1 hzz
  have e1 : IntKind.i64.wrap ((↑(q + 1) : Int) - 1) = (q : Int) := by rw [show ((↑(q + 1) : Int) - 1) = (q : Int) by omega]; exact IntWalk.i64_in _ (by omega)
  have hmf := makeFunc_run Try.prog
  obtain ⟨V, hV⟩ : ∃ V, V = (w.alloc (.cells #[.slice B tab.length d] 126)).alloc (.cells #[.int .i64 3, .int .i64 0] 122) := ⟨_, rfl⟩
  have HBV := hid (show Below w.heap.size w V by rw [hV]; exact bAlloc (bAlloc (Below.refl _ _) _) _)
  have hsz : V.heap.size = w.heap.size + 2 := by rw [hV]; simp
  have z0 := hid (show V.heap[w.heap.size]? = some (.cells #[.slice B tab.length d] 126 (0, 0)) by
    rw [hV, Below.heap_alloc _ _ _ (by simp)]; exact heap_at rfl)
  have z1 := hid (show V.heap[w.heap.size + 1]? = some (.cells #[.int .i64 3, .int .i64 0] 122 (0, 0)) by rw [hV]; exact heap_at (by simp))
  have HCB := hid (fun (u : World) (h : Below V.heap.size V u) => (show u.cell? ⟨w.heap.size, 0, none⟩ = some (.slice B tab.length d) ∧ u.cell? ⟨w.heap.size + 1, 0, none⟩ = some (.int .i64 3) from by
    obtain ⟨y0, _, _⟩ := cells_of_block ((h.block w.heap.size (by omega)).trans z0.out)
    obtain ⟨y1, _, _⟩ := cells_of_block ((h.block (w.heap.size + 1) (by omega)).trans z1.out)
    exact ⟨y0 0 _ rfl, y1 0 _ rfl⟩))
  have HV := hid hV
  have HSZ := hid hsz
  have HD := hid (show showT tab (.turned t) = ⟨#[33]⟩ ++ brT (inK [4, 5] (opT t)) (showT tab t) by
    show _ ++ brT (decide (opT t = 4) || decide (opT t = 5)) _ = _
    congr 2
    simp [inK])
  have z1 := brT_size (inK [4, 5] (opT t)) (showT tab t)
  obtain ⟨S, hS⟩ : ∃ S, S = showT tab (.turned t) := ⟨_, rfl⟩
  rw [← hS] at HD ⊢
  obtain ⟨s1, hs1⟩ : ∃ s1, s1 = brT (inK [4, 5] (opT t)) (showT tab t) := ⟨_, rfl⟩
  rw [← hs1] at z1 HPT HD
  have z1' : s1.size ≤ 1000000002 := by omega
  have h33 : (⟨#[33]⟩ : ByteArray).size = 1 := rfl
  clear hV hr hsz hrl hx hok hS hlen hq hz hd z1 hs1 ih
  go_enter Try.func73, Try.ntmps73
  go_wp2_with fail
  rw [← HV.out]
  refine (HPA.out V _ (Kd.below HL.out HBV.out)).mono ?_
  rintro e w1 ⟨g, v0, rfl, hg, hp0, hK0, hb1⟩
  obtain ⟨c0, c1⟩ := HCB.out w1 hb1
  have HB1 := hid (bThen HBV.out hb1)
  have hs1 : w.heap.size + 2 ≤ w1.heap.size := by have := hb1.size; have := HSZ.out; omega
  have HK0 := hid hK0
  obtain ⟨B4, d4, he, _, _, _⟩ := hK0
  injection he with he _
  subst he
  have HA := hid (bAlloc (Below.refl w1.heap.size w1) (.cells #[.slice (some ⟨g, 0, none⟩) 1 1] 196))
  have y0 := ((bcell HA.out).1 w.heap.size 0 (by omega)).trans c0
  have y1 := ((bcell HA.out).1 (w.heap.size + 1) 0 (by omega)).trans c1
  have y2 := ((bcell HA.out).1 g 0 hg).trans hp0
  have y3 : (w1.alloc (.cells #[.slice (some ⟨g, 0, none⟩) 1 1] 196)).cell? ⟨w1.heap.size, 0, none⟩ = some (.slice (some ⟨g, 0, none⟩) 1 1) := (cells_of_block (heap_at rfl)).1 0 _ rfl
  clear hb1 c0 c1 hp0
  go_wp2_with fail
  obtain ⟨V1, hV1⟩ : ∃ V1, V1 = w1.alloc (.cells #[.slice (some ⟨g, 0, none⟩) 1 1] 196) := ⟨_, rfl⟩
  have HB2 := hid (show Below w.heap.size w V1 by rw [hV1]; exact bThen HB1.out HA.out)
  have HKV := hid (show Kd.node.slice.K V1 Any t.nodes [.slice B4 t.nodes.length d4] by rw [hV1]; exact Kd.below HK0.out HA.out)
  have hvs : V1.heap.size = w1.heap.size + 1 := by rw [hV1]; simp
  rw [← hV1] at y0 y1 y2 y3 ⊢
  have HC := hid (fun (u : World) (hb : Below V1.heap.size V1 u) => show (u.cell? ⟨w.heap.size, 0, none⟩ = some (.slice B tab.length d) ∧ u.cell? ⟨w1.heap.size, 0, none⟩ = some (.slice (some ⟨g, 0, none⟩) 1 1) ∧ u.cell? ⟨g, 0, none⟩ = some (.slice B4 t.nodes.length d4)) from
    ⟨((bcell hb).1 _ _ (by omega)).trans y0, ((bcell hb).1 _ _ (by omega)).trans y3, ((bcell hb).1 _ _ (by omega)).trans y2⟩)
  have c0 := HC.out V1.drew (Below.refl _ _).drew
  have HW := hid (show Below V1.heap.size V1 (V1.alloc (.cells #[.int .i64 4, .int .i64 5] 3)).drew from (bAlloc (Below.refl _ _) _).drew)
  have c1 := HC.out _ HW.out
  have HKN := hid (show (Kd.int .i64).slice.K (V1.alloc (.cells #[.int .i64 4, .int .i64 5] 3)).drew Any [4, 5] [.slice (some ⟨w1.heap.size + 1, 0, none⟩) 2 2] from Kd.below (kinds_new V1 (w1.heap.size + 1) hvs.symm [4, 5] (by decide)) (Below.refl _ _).drew)
  have x1 : ¬ 9223372036854775807 < 1 + s1.size := by omega
  clear hV1 HA y0 y1 y2 y3
  go_region_held3 (fun w' => w'.cell? ⟨w.heap.size, 0, none⟩ = some (.slice B tab.length d) ∧ w'.cell? ⟨w1.heap.size, 0, none⟩ = some (.slice (some ⟨g, 0, none⟩) 1 1) ∧ w'.cell? ⟨g, 0, none⟩ = some (.slice B4 t.nodes.length d4)) (first | exact c0 | exact c1 | exact c2 | fail) (first
    | ((with_reducible refine (HPT.out (V1.alloc (.cells #[.int .i64 4, .int .i64 5] 3)).drew _ _ _ (Kd.below HT.out (bThen HB2.out HW.out)) (Kd.below HKV.out HW.out) HKN.out).mono ?_); rintro e w2 ⟨rfl, hb2⟩; have U2 := hid (show Below w.heap.size w w2 from bThen (bThen HB2.out HW.out) hb2); have c2 := HC.out _ (bThen HW.out hb2); clear hb2)
    | (trace_state; fail))
  go_wp2
  go_ret
  exact ⟨ret_str HD.out.symm, U2.out⟩
theorem two_and (tab : List ByteArray) (x y : TreeS) : twoS tab ⟨#[38]⟩ x y [5] [4, 5] = showT tab (.pair false x y) := by
  show _ = brT (decide (opT x = 5)) (showT tab x) ++ ⟨#[32, 38, 32]⟩ ++ brT (decide (opT y = 4) || decide (opT y = 5)) (showT tab y)
  unfold twoS
  have e1 : inK [5] (opT x) = decide (opT x = 5) := by simp [inK]
  have e2 : inK [4, 5] (opT y) = (decide (opT y = 4) || decide (opT y = 5)) := by simp [inK]
  rw [e1, e2]
  have e3 : (⟨#[32, 38, 32]⟩ : ByteArray) = ⟨#[32]⟩ ++ ⟨#[38]⟩ ++ ⟨#[32]⟩ := by decide +kernel
  rw [e3]
  simp only [ByteArray.append_assoc]
theorem two_or (tab : List ByteArray) (x y : TreeS) : twoS tab ⟨#[124]⟩ x y [] [5] = showT tab (.pair true x y) := by
  show _ = showT tab x ++ ⟨#[32, 124, 32]⟩ ++ brT (decide (opT y = 5)) (showT tab y)
  unfold twoS
  have e1 : inK [] (opT x) = false := rfl
  have e2 : inK [5] (opT y) = decide (opT y = 5) := by simp [inK]
  rw [e1, e2]
  have e3 : (⟨#[32, 124, 32]⟩ : ByteArray) = ⟨#[32]⟩ ++ ⟨#[124]⟩ ++ ⟨#[32]⟩ := by decide +kernel
  rw [e3]
  simp only [ByteArray.append_assoc]
  rfl
set_option maxHeartbeats 4000000 in
set_option maxRecDepth 100000 in
theorem text_pair (tab : List ByteArray) (o : Bool) (x y : TreeS) (ihx : TextOk tab x) (ihy : TextOk tab y) (hok : (TreeS.pair o x y).ok) (hz : (TreeS.pair o x y).size ≤ 31) (hd : (TreeS.pair o x y).deep ≤ 8) (hsx : (showT tab x).size ≤ 1000000000) (hsy : (showT tab y).size ≤ 1000000000) : TextOk tab (.pair o x y) := by
  intro w tv v ht hl
  have HT := hid ht
  have HL := hid hl
  have hzz : x.size + y.size + 1 ≤ 31 := hz
  have hx3 : x.size ≤ 1000000 := by omega
  have hy3 : y.size ≤ 1000000 := by omega
  have HTW := hid (fun (sign : ByteArray) (hsg : sign.size ≤ 10) (k1 k2 : List Int) (w : World) (tv u1 u2 v0 v1 : Value) (b3 b4 g : Nat) => two_calls tab x y ihx ihy hsx hx3 hsy hy3 sign hsg k1 k2 w tv u1 u2 v0 v1 b3 b4 g)
  have HPA := hid (fun (u : World) (v : Value) (h : Kd.node.slice.K u Any (TreeS.pair o x y).nodes [v]) => parts_pair o x y v u hok hz hd h)
  obtain ⟨B, d, he, hc, hn, hr⟩ := ht
  injection he with he _
  subst he
  obtain ⟨A, c, he, hc1, _, hrl⟩ := hl
  injection he with he _
  subst he
  have hlen : (TreeS.pair o x y).nodes.length = x.size + y.size + 1 := by rw [TreeS.nodes_len]; rfl
  obtain ⟨a, x', rfl, hx, r0, r1⟩ := (hrl.below (bAlloc (Below.refl _ _) (.cells #[.slice B tab.length d] 126))).at_node (x.size + y.size) (by rw [hlen]; omega)
  have hx2 : x' = ⟨if o then 5 else 4, 0⟩ := by
    have e0 : (TreeS.pair o x y).nodes[x.size + y.size]? = some ⟨if o then 5 else 4, 0⟩ := by
      show (x.nodes ++ y.nodes ++ [_])[x.size + y.size]? = _
      have e : (x.nodes ++ y.nodes).length = x.size + y.size := by rw [List.length_append, TreeS.nodes_len, TreeS.nodes_len]
      rw [List.getElem?_append_right (by rw [e]; exact Nat.le_refl _), e, Nat.sub_self]; rfl
    rw [hx] at e0
    exact Option.some.inj e0
  subst hx2
  obtain ⟨q, hq⟩ : ∃ q, q = x.size + y.size := ⟨_, rfl⟩
  rw [hlen, ← hq] at hc1 HL ⊢
  rw [← hq] at r0 r1 hzz
  have e1 : IntKind.i64.wrap ((↑(q + 1) : Int) - 1) = (q : Int) := by rw [show ((↑(q + 1) : Int) - 1) = (q : Int) by omega]; exact IntWalk.i64_in _ (by omega)
  have hmf := makeFunc_run Try.prog
  obtain ⟨ov, hov⟩ : ∃ ov : Int, ov = if o then 5 else 4 := ⟨_, rfl⟩
  rw [← hov] at r0
  obtain ⟨V, hV⟩ : ∃ V, V = (w.alloc (.cells #[.slice B tab.length d] 126)).alloc (.cells #[.int .i64 ov, .int .i64 0] 122) := ⟨_, rfl⟩
  have HBV := hid (show Below w.heap.size w V by rw [hV]; exact bAlloc (bAlloc (Below.refl _ _) _) _)
  have hsz : V.heap.size = w.heap.size + 2 := by rw [hV]; simp
  have z0 := hid (show V.heap[w.heap.size]? = some (.cells #[.slice B tab.length d] 126 (0, 0)) by
    rw [hV, Below.heap_alloc _ _ _ (by simp)]; exact heap_at rfl)
  have z1 := hid (show V.heap[w.heap.size + 1]? = some (.cells #[.int .i64 ov, .int .i64 0] 122 (0, 0)) by rw [hV]; exact heap_at (by simp))
  have HCB := hid (fun (u : World) (h : Below V.heap.size V u) => (show u.cell? ⟨w.heap.size, 0, none⟩ = some (.slice B tab.length d) ∧ u.cell? ⟨w.heap.size + 1, 0, none⟩ = some (.int .i64 ov) from by
    obtain ⟨y0, _, _⟩ := cells_of_block ((h.block w.heap.size (by omega)).trans z0.out)
    obtain ⟨y1, _, _⟩ := cells_of_block ((h.block (w.heap.size + 1) (by omega)).trans z1.out)
    exact ⟨y0 0 _ rfl, y1 0 _ rfl⟩))
  have HV := hid hV
  have HSZ := hid hsz
  obtain ⟨S, hS⟩ : ∃ S, S = showT tab (.pair o x y) := ⟨_, rfl⟩
  rw [← hS]
  have HS := hid hS
  have HOV := hid hov
  clear hV hr hsz hrl hx hok hS hlen hq hz hd ihx ihy hov
  go_enter Try.func73, Try.ntmps73
  go_wp2_with fail
  rw [← HV.out]
  refine (HPA.out V _ (Kd.below HL.out HBV.out)).mono ?_
  rintro e w1 ⟨g, v0, v1, rfl, hg, hpa, hb1⟩
  obtain ⟨c0, c1⟩ := HCB.out w1 hb1
  have HB1 := hid (bThen HBV.out hb1)
  have hs1 : w.heap.size + 2 ≤ w1.heap.size := by have := hb1.size; have := HSZ.out; omega
  have HPT := hid hpa
  have HA := hid (bAlloc (Below.refl w1.heap.size w1) (.cells #[.slice (some ⟨g, 0, none⟩) 2 2] 196))
  have y0 := ((bcell HA.out).1 w.heap.size 0 (by omega)).trans c0
  have y1 := ((bcell HA.out).1 (w.heap.size + 1) 0 (by omega)).trans c1
  have y3 : (w1.alloc (.cells #[.slice (some ⟨g, 0, none⟩) 2 2] 196)).cell? ⟨w1.heap.size, 0, none⟩ = some (.slice (some ⟨g, 0, none⟩) 2 2) := (cells_of_block (heap_at rfl)).1 0 _ rfl
  have HVS := hid (show (w1.alloc (.cells #[.slice (some ⟨g, 0, none⟩) 2 2] 196)).heap.size = w1.heap.size + 1 by simp)
  have HFIN := hid (fun (sign : ByteArray) (hsg : sign.size ≤ 10) (k1 k2 : List Int) (u1 u2 : Value) (W : World) (hb : Below (w1.heap.size + 1) (w1.alloc (.cells #[.slice (some ⟨g, 0, none⟩) 2 2] 196)) W) (h1 : (Kd.int .i64).slice.K W Any k1 [u1]) (h2 : (Kd.int .i64).slice.K W Any k2 [u2]) =>
    have hb0 : Below (w1.alloc (.cells #[.slice (some ⟨g, 0, none⟩) 2 2] 196)).heap.size (w1.alloc (.cells #[.slice (some ⟨g, 0, none⟩) 2 2] 196)) W := by rw [HVS.out]; exact hb
    have hws : w1.heap.size + 1 ≤ W.heap.size := by have := hb0.size; rwa [HVS.out] at this
    have hb1 : Below w1.heap.size w1 W := bThen HA.out hb0
    (HTW.out sign hsg k1 k2 W (.slice B tab.length d) u1 u2 v0 v1 w.heap.size w1.heap.size g (Kd.below HT.out (bThen HB1.out hb1)) h1 h2
      (((bcell hb0).1 w.heap.size 0 (by rw [HVS.out]; omega)).trans y0) (((bcell hb0).1 w1.heap.size 0 (by rw [HVS.out]; omega)).trans y3)
      ⟨((bcell hb1).1 g 0 hg).trans HPT.out.1, ((bcell hb1).1 g 1 hg).trans HPT.out.2.1, Kd.below HPT.out.2.2.1 hb1, Kd.below HPT.out.2.2.2 hb1⟩ (by omega) (by omega) (by omega)))
  clear hb1 c0 c1 hpa
  cases o with
  | true =>
    have hov := HOV.out
    rw [if_pos rfl] at hov
    subst hov
    have HB5 := hid (show Below (w1.heap.size + 1) (w1.alloc (.cells #[.slice (some ⟨g, 0, none⟩) 2 2] 196)) ((w1.alloc (.cells #[.slice (some ⟨g, 0, none⟩) 2 2] 196)).alloc (.cells #[.int .i64 5] 3)) by rw [← HVS.out]; exact bAlloc (Below.refl _ _) _)
    go_wp2_with fail
    refine (HFIN.out ⟨#[124]⟩ (by decide) [] [5] _ _ _ HB5.out (kinds_nil _) (kinds_new _ _ (by simp) [5] (by decide))).mono ?_
    rintro e w2 ⟨rfl, hb2⟩
    have HB6 := hid (bThen HB1.out (bThen HA.out (bThen (bAlloc (Below.refl _ _) _) hb2)))
    go_wp2
    go_ret
    rw [HS.out, two_or]
    exact ⟨rfl, HB6.out⟩
  | false =>
    have hov := HOV.out
    rw [if_neg (by decide)] at hov
    subst hov
    have HB5 := hid (show Below (w1.heap.size + 1) (w1.alloc (.cells #[.slice (some ⟨g, 0, none⟩) 2 2] 196)) (((w1.alloc (.cells #[.slice (some ⟨g, 0, none⟩) 2 2] 196)).alloc (.cells #[.int .i64 5] 3)).alloc (.cells #[.int .i64 4, .int .i64 5] 3)) by rw [← HVS.out]; exact bAlloc (bAlloc (Below.refl _ _) _) _)
    go_wp2_with fail
    refine (HFIN.out ⟨#[38]⟩ (by decide) [5] [4, 5] _ _ _ HB5.out (Kd.below (kinds_new _ _ (by simp) [5] (by decide)) (bAlloc (Below.refl _ _) _)) (kinds_new _ _ (by simp) [4, 5] (by decide))).mono ?_
    rintro e w2 ⟨rfl, hb2⟩
    have HB6 := hid (bThen HB1.out (bThen HA.out (bThen (bAlloc (bAlloc (Below.refl _ _) _) _) hb2)))
    go_wp2
    go_ret
    rw [HS.out, two_and]
    exact ⟨rfl, HB6.out⟩
theorem text_ok (tab : List ByteArray) (hB : ∀ y ∈ tab, y.size ≤ 1000000) (t : TreeS) : t.ok → knownT tab t → t.size ≤ 31 → t.deep ≤ 8 → TextOk tab t := by
  induction t with
  | leaf x => exact fun hok hkn _ _ => text_leaf tab x hok (hkn x (by simp [TreeS.nodes]))
  | turned t ih =>
    intro hok hkn hz hd
    have hz2 : t.size + 1 ≤ 31 := hz
    have hd2 : t.deep + 1 ≤ 8 := hd
    have hs := showT_size tab 1000000 hB t
    exact text_turned tab t (ih hok (fun x hx => hkn x (by simp [TreeS.nodes, hx])) (by omega) (by omega)) hok hz hd (by omega)
  | pair o a b iha ihb =>
    intro hok hkn hz hd
    have hz2 : a.size + b.size + 1 ≤ 31 := hz
    have hd2 : max a.deep b.deep + 1 ≤ 8 := hd
    have hs := showT_size tab 1000000 hB a
    have hs2 := showT_size tab 1000000 hB b
    exact text_pair tab o a b (iha hok.1 (fun x hx => hkn x (by simp [TreeS.nodes, hx])) (by omega) (by omega)) (ihb hok.2 (fun x hx => hkn x (by simp [TreeS.nodes, hx])) (by omega) (by omega)) hok hz hd (by omega) (by omega)
end Go.Proofs.Ytolckkckheiceaa
