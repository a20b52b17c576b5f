/- job.Any; siskinref15.Set, Any. -/
import Derived.Test.YtolckkckheiceaaJobSet
import Derived.Test.YtolckkckheiceaaRef12
import Derived.Test.YtolckkckheiceaaReadD
import Derived.Test.YtolckkckheiceaaBase
namespace Go.Proofs.Ytolckkckheiceaa
open Go.RowKit

theorem setS_lt (tab : List ByteArray) (ws : List WorkerS) (s : ByteArray) : setS tab ws s < 2 ^ 64 := by
  unfold setS
  split
  · exact Nat.two_pow_pos 64
  · exact admitN_lt _ _ _ (by omega)
def anyS (tab : List ByteArray) (ws : List WorkerS) (ss : List ByteArray) : Nat := ss.foldl (fun a s => a ||| setS tab ws s) 0
theorem anyS_snoc (tab : List ByteArray) (ws : List WorkerS) (ss : List ByteArray) (s : ByteArray) : anyS tab ws (ss ++ [s]) = anyS tab ws ss ||| setS tab ws s := by
  unfold anyS
  rw [List.foldl_append]; rfl
theorem fold15_lt (tab : List ByteArray) (ws : List WorkerS) : ∀ (ss : List ByteArray) (a : Nat), a < 2 ^ 64 → ss.foldl (fun a s => a ||| setS tab ws s) a < 2 ^ 64
  | [], _, h => h
  | s :: ss, _, h => fold15_lt tab ws ss _ (Nat.or_lt_two_pow h (setS_lt tab ws s))
theorem anyS_lt (tab : List ByteArray) (ws : List WorkerS) (ss : List ByteArray) : anyS tab ws ss < 2 ^ 64 := fold15_lt tab ws ss 0 (Nat.two_pow_pos 64)
theorem fold_bit (tab : List ByteArray) (ws : List WorkerS) (j : Nat) : ∀ (ss : List ByteArray) (a : Nat), (ss.foldl (fun a s => a ||| setS tab ws s) a).testBit j = (a.testBit j || ss.any (fun s => (setS tab ws s).testBit j))
  | [], _ => by simp
  | s :: ss, a => by
    show (ss.foldl _ (a ||| setS tab ws s)).testBit j = _
    rw [fold_bit tab ws j ss, Nat.testBit_or, List.any_cons, Bool.or_assoc]
theorem anyS_bit (tab : List ByteArray) (ws : List WorkerS) (j : Nat) (ss : List ByteArray) : (anyS tab ws ss).testBit j = ss.any (fun s => (setS tab ws s).testBit j) := by
  unfold anyS
  rw [fold_bit]; simp
theorem or_num {a b : Nat} (ha : a < 2 ^ 64) (hb : b < 2 ^ 64) : bits .or .u64 (a : Int) (b : Int) = ((a ||| b : Nat) : Int) := u64_or_nat _ _ (by omega) (by omega)
/-- A box of a cluster's cells. -/
theorem conf_box {W : World} {b : Nat} {t : TypeId} {v0 v1 v2 v3 v4 v5 v6 : Value} (h : W.heap[b]? = some (.cells #[v0, v1, v2, v3, v4, v5, v6] t (0, 0))) (u : World) (hb : Below W.heap.size W u) :
    u.cell? ⟨b, 0, none⟩ = some v0 ∧ u.cell? ⟨b, 1, none⟩ = some v1 ∧ u.cell? ⟨b, 2, none⟩ = some v2 ∧ u.cell? ⟨b, 3, none⟩ = some v3 ∧ u.cell? ⟨b, 4, none⟩ = some v4 ∧ u.cell? ⟨b, 5, none⟩ = some v5 ∧ u.cell? ⟨b, 6, none⟩ = some v6 := by
  obtain ⟨z, _, _⟩ := cells_of_block ((hb.block b (Array.getElem?_eq_some_iff.1 h).1).trans h)
  exact ⟨z 0 _ rfl, z 1 _ rfl, z 2 _ rfl, z 3 _ rfl, z 4 _ rfl, z 5 _ rfl, z 6 _ rfl⟩
set_option maxHeartbeats 2000000 in
set_option maxRecDepth 100000 in
theorem jobAny_calls (tab : List ByteArray) (ws : List WorkerS) (ss : List ByteArray) (k1 k2 k3 k4 k5 : Int) (v u sv : Value) (w : World) (ht : Kd.str.slice.K w Any tab [v]) (hw : Kd.worker.slice.K w Any ws [u]) (ha : ∀ x ∈ ws, x.attrs < 2 ^ 64) (hss : Kd.str.slice.K w Any ss [sv]) (hsz : ∀ s ∈ ss, s.size ≤ 140737488351232) :
    Calls Try.prog 65 #[.agg #[.int .i64 k1, .int .i64 k2, .int .i64 k3, .int .i64 k4, .int .i64 k5, v, u], sv] w fun e w' => e = .returned (.int .u64 (anyS tab ws ss : Nat)) ∧ Below w.heap.size w w' := by
  have HT := hid ht
  have HW := hid hw
  have HA := hid ha
  have HSZ := hid hsz
  obtain ⟨A, c, he, _, _, _⟩ := ht
  injection he with he _
  subst he
  obtain ⟨B, d, he, _, _, _⟩ := hw
  injection he with he _
  subst he
  obtain ⟨D, f, he, hc, hm, hr⟩ := hss
  cases he
  have HR := hid hr
  obtain ⟨q, hq⟩ : ∃ q, ss.length = q := ⟨_, rfl⟩
  have HQ := hid hq
  rw [hq] at hc hm ⊢
  obtain ⟨V, hV⟩ : ∃ V, V = w.alloc (.cells #[.int .i64 k1, .int .i64 k2, .int .i64 k3, .int .i64 k4, .int .i64 k5, .slice A tab.length c, .slice B ws.length d] 25) := ⟨_, rfl⟩
  have HBV := hid (show Below w.heap.size w V by rw [hV]; exact bAlloc (Below.refl _ _) _)
  have hz := hid (show V.heap[w.heap.size]? = some (.cells #[.int .i64 k1, .int .i64 k2, .int .i64 k3, .int .i64 k4, .int .i64 k5, .slice A tab.length c, .slice B ws.length d] 25 (0, 0)) by rw [hV]; exact heap_at rfl)
  have HCB := hid (fun (u : World) (hb : Below V.heap.size V u) => conf_box hz.out u hb)
  have HV := hid hV
  have HLT := hid (anyS_lt tab ws)
  clear hV hr hq ha hsz
  go_enter Try.func65, Try.ntmps65
  go_wp2
  rw [← HV.out]
  go_loopw [5, 10] (fun o i wr => ∃ k t : Nat, k ≤ q ∧ i = .int .i64 k ∧ o = .int .u64 t ∧ t < 2 ^ 64 ∧ Hid (t = anyS tab ws (ss.take k)) ∧ Hid (Below V.heap.size V wr)) (fun _ i _ => q - (intOf i).toNat)
  case atStart => exact ⟨0, 0, by omega, rfl, rfl, by decide, rfl, Below.refl _ _⟩
  case round =>
    obtain ⟨k, t, hk, rfl, rfl, ht, HTT, HB⟩ := hrel
    by_cases hlt : k < q
    · obtain ⟨a, x, rfl, hx, r0⟩ := (HR.out.below (bThen HBV.out HB.out)).at_str k (by rw [HQ.out]; exact hlt)
      have hxz := HSZ.out x (List.mem_of_getElem? hx)
      have hor := or_num ht (setS_lt tab ws x)
      have HN := hid (show t ||| setS tab ws x = anyS tab ws (ss.take (k + 1)) by rw [take_snoc hx, anyS_snoc, ← HTT.out])
      have hltI : (k : Int) < (q : Int) := by omega
      have hk0 : (0 : Int) ≤ (k : Int) := by omega
      obtain ⟨c0, c1, c2, c3, c4, c5, c6⟩ := HCB.out wr HB.out
      have HNL := hid (needS_len tab x)
      clear hx
      go_wp2_with fail
      refine (jobSet_calls tab ws x k1 k2 k3 k4 k5 _ _ wr (Kd.below HT.out (bThen HBV.out HB.out)) (Kd.below HW.out (bThen HBV.out HB.out)) HA.out hxz (by have := HNL.out; omega)).mono ?_
      rintro e w2 ⟨rfl, hb2⟩
      have HB2 := hid (bThen HB.out hb2)
      have hlt2 : t ||| setS tab ws x < 2 ^ 64 := by rw [HN.out]; exact HLT.out _
      clear hb2
      generalize setS tab ws x = z at *
      go_wp2
      go_roundw
      case rel => exact ⟨k + 1, t ||| z, by omega, by go_num, rfl, hlt2, HN, HB2⟩
      case measure => simp [intOf]; omega
    · obtain rfl : k = q := by omega
      have e : ss.take k = ss := by rw [List.take_of_length_le]; rw [HQ.out]; exact Nat.le_refl _
      have HF := hid (show t = anyS tab ws ss by rw [HTT.out, e])
      clear e
      go_wp2
      go_ret
      rw [← HF.out]
      exact ⟨rfl, bThen HBV.out HB.out⟩
set_option maxHeartbeats 2000000 in
set_option maxRecDepth 100000 in
theorem rset15_calls (tab : List ByteArray) (ws : List WorkerS) (s : ByteArray) (k1 k2 k3 k4 k5 : Int) (v u : Value) (w : World) (ht : Kd.str.slice.K w Any tab [v]) (hw : Kd.worker.slice.K w Any ws [u]) (ha : ∀ x ∈ ws, x.attrs < 2 ^ 64) (hs : s.size * 24 ≤ 140737488351232) (hwl : ws.length ≤ 1000000) :
    Calls Try.prog 16 #[.agg #[.int .i64 k1, .int .i64 k2, .int .i64 k3, .int .i64 k4, .int .i64 k5, v, u], .string s] w fun e w' => e = .returned (.int .u64 (setS tab ws s : Nat)) ∧ Below w.heap.size w w' := by
  have HT := hid ht
  have HW := hid hw
  have HA := hid ha
  obtain ⟨A, c, he, _, _, _⟩ := ht
  injection he with he _
  subst he
  obtain ⟨B, d, he, _, _, _⟩ := hw
  injection he with he _
  subst he
  obtain ⟨l, k, f, hl⟩ : ∃ l k f, needS tab s = (l, k, f) := ⟨_, _, _, rfl⟩
  have HL := hid hl
  have HD := hid (show setS tab ws s = if f ≠ 0 then 0 else admitS l ws by unfold setS; rw [hl])
  have hln : l.length ≤ 1000000 := by have := needS_len tab s; rw [hl] at this; simp only at this; omega
  clear ha hl
  obtain ⟨V, hV⟩ : ∃ V, V = w.alloc (.cells #[.int .i64 k1, .int .i64 k2, .int .i64 k3, .int .i64 k4, .int .i64 k5, .slice A tab.length c, .slice B ws.length d] 25) := ⟨_, rfl⟩
  have HBV := hid (show Below w.heap.size w V by rw [hV]; exact bAlloc (Below.refl _ _) _)
  have hz := hid (show V.heap[w.heap.size]? = some (.cells #[.int .i64 k1, .int .i64 k2, .int .i64 k3, .int .i64 k4, .int .i64 k5, .slice A tab.length c, .slice B ws.length d] 25 (0, 0)) by rw [hV]; exact heap_at rfl)
  have HCB := hid (fun (u : World) (hb : Below V.heap.size V u) => conf_box hz.out u hb)
  have HV := hid hV
  clear hV
  go_enter Try.func16, Try.ntmps16
  go_wp2_with fail
  rw [← HV.out]
  refine (rneed_calls tab s _ V (Kd.below HT.out HBV.out) hs).mono ?_
  rintro e w2 ⟨v2, rfl, hO, hb2⟩
  rw [HL.out] at hO ⊢
  dsimp only at hO ⊢
  have HB2 := hid (bThen HBV.out hb2)
  have HO2 := hid hO
  obtain ⟨_, _, _, _, _, _, c6⟩ := HCB.out w2 hb2
  obtain ⟨A2, n2, c2, rfl, hq1, hq2⟩ := hO.shape'
  clear hO hb2 hq1 hq2
  by_cases h0 : f = 0
  · subst h0
    go_wp2_with fail
    refine (rworkers_calls l ws _ _ w2 (Kd.any HO2.out.K) (Kd.below HW.out HB2.out) hln HA.out hwl).mono ?_
    rintro e w3 ⟨rfl, hb3⟩
    go_wp2
    go_ret
    rw [HD.out]
    exact ⟨rfl, bThen HB2.out hb3⟩
  · have h1 : (f == (0 : Int)) = false := by simp [h0]
    have HZ := hid (show setS tab ws s = 0 by rw [HD.out, if_pos h0])
    clear h0
    go_wp2
    go_ret
    rw [HZ.out]
    exact ⟨rfl, HB2.out⟩
def flatS (tab : List ByteArray) (ws : List WorkerS) (ss : List ByteArray) : List Int := ss.flatMap (fun s => bitsN (setS tab ws s) 64)
theorem flatS_snoc (tab : List ByteArray) (ws : List WorkerS) (ss : List ByteArray) (s : ByteArray) : flatS tab ws (ss ++ [s]) = flatS tab ws ss ++ bitsN (setS tab ws s) 64 := by
  unfold flatS
  rw [List.flatMap_append]; simp
theorem flatS_len (tab : List ByteArray) (ws : List WorkerS) (ss : List ByteArray) : (flatS tab ws ss).length ≤ ss.length * 64 := by
  induction ss with
  | nil => exact Nat.zero_le _
  | cons s ss ih =>
    have := bitsN_len (setS tab ws s) 64
    unfold flatS at ih ⊢
    rw [List.flatMap_cons, List.length_append, List.length_cons]
    omega
theorem flatS_of (tab : List ByteArray) (ws : List WorkerS) (ss : List ByteArray) : ofN (flatS tab ws ss) 64 = anyS tab ws ss := by
  apply Nat.eq_of_testBit_eq
  intro j
  rw [ofN_bit, anyS_bit, Bool.eq_iff_iff, Bool.and_eq_true, decide_eq_true_iff, decide_eq_true_iff]
  unfold flatS
  rw [List.mem_flatMap, List.any_eq_true]
  constructor
  · rintro ⟨_, s, hs, hm⟩
    have := (bitsN_mem _ _ _).1 hm
    exact ⟨s, hs, by simpa using this.2.2⟩
  · rintro ⟨s, hs, hb⟩
    have hj : j < 64 := by
      rcases Nat.lt_or_ge j 64 with h | h
      · exact h
      · rw [Nat.testBit_lt_two_pow (Nat.lt_of_lt_of_le (setS_lt tab ws s) (Nat.pow_le_pow_right (by decide) h))] at hb; cases hb
    exact ⟨hj, s, hs, (bitsN_mem _ _ _).2 ⟨by omega, by omega, by simpa using hb⟩⟩
set_option maxHeartbeats 4000000 in
set_option maxRecDepth 100000 in
theorem rany15_calls (tab : List ByteArray) (ws : List WorkerS) (ss : List ByteArray) (k1 k2 k3 k4 k5 : Int) (v u sv : Value) (w : World) (ht : Kd.str.slice.K w Any tab [v]) (hw : Kd.worker.slice.K w Any ws [u]) (ha : ∀ x ∈ ws, x.attrs < 2 ^ 64) (hss : Kd.str.slice.K w Any ss [sv]) (hsz : ∀ s ∈ ss, s.size * 24 ≤ 140737488351232) (hwl : ws.length ≤ 1000000) (hsl : ss.length ≤ 1000000) :
    Calls Try.prog 25 #[.agg #[.int .i64 k1, .int .i64 k2, .int .i64 k3, .int .i64 k4, .int .i64 k5, v, u], sv] w fun e w' => e = .returned (.int .u64 (anyS tab ws ss : Nat)) ∧ Below w.heap.size w w' := by
  have HT := hid ht
  have HW := hid hw
  have HA := hid ha
  have HSZ := hid hsz
  obtain ⟨A, c, he, _, _, _⟩ := ht
  injection he with he _
  subst he
  obtain ⟨B, d, he, _, _, _⟩ := hw
  injection he with he _
  subst he
  obtain ⟨D, f, he, hc, hm, hr⟩ := hss
  cases he
  have HR := hid hr
  obtain ⟨q, hq⟩ : ∃ q, ss.length = q := ⟨_, rfl⟩
  have HQ := hid hq
  rw [hq] at hc hm hsl ⊢
  obtain ⟨V, hV⟩ : ∃ V, V = w.alloc (.cells #[.int .i64 k1, .int .i64 k2, .int .i64 k3, .int .i64 k4, .int .i64 k5, .slice A tab.length c, .slice B ws.length d] 25) := ⟨_, rfl⟩
  have HBV := hid (show Below w.heap.size w V by rw [hV]; exact bAlloc (Below.refl _ _) _)
  have hz := hid (show V.heap[w.heap.size]? = some (.cells #[.int .i64 k1, .int .i64 k2, .int .i64 k3, .int .i64 k4, .int .i64 k5, .slice A tab.length c, .slice B ws.length d] 25 (0, 0)) by rw [hV]; exact heap_at rfl)
  have HCB := hid (fun (u : World) (hb : Below V.heap.size V u) => conf_box hz.out u hb)
  have HV := hid hV
  clear hV hr hq ha hsz
  go_enter Try.func25, Try.ntmps25
  go_wp2
  rw [← HV.out]
  go_loopw [5, 6] (fun o i wr => ∃ k : Nat, k ≤ q ∧ i = .int .i64 k ∧ Hid (Own (Kd.int .i64) 3 wr V.heap.size NoT o (flatS tab ws (ss.take k))) ∧ Hid (Below V.heap.size V wr)) (fun _ i _ => q - (intOf i).toNat)
  case atStart => exact ⟨0, by omega, rfl, Own.nil _ _ _ _ _, Below.refl _ _⟩
  case round =>
    obtain ⟨k, hk, rfl, HO, HB⟩ := hrel
    obtain ⟨A3, n3, c3, rfl, hq1, hq2⟩ := HO.out.shape'
    clear hq1 hq2
    by_cases hlt : k < q
    · have HBW := hid (show Below w.heap.size w wr.drew from (bThen HBV.out HB.out).drew)
      obtain ⟨a, x, rfl, hx, r0⟩ := (HR.out.below HBW.out).at_str k (by rw [HQ.out]; exact hlt)
      have hxz := HSZ.out x (List.mem_of_getElem? hx)
      have HN := hid (show flatS tab ws (ss.take k) ++ bitsN (setS tab ws x) 64 = flatS tab ws (ss.take (k + 1)) by rw [take_snoc hx, flatS_snoc])
      have hltI : (k : Int) < (q : Int) := by omega
      have hk0 : (0 : Int) ≤ (k : Int) := by omega
      obtain ⟨c0, c1, c2, c3', c4, c5, c6⟩ := HCB.out wr.drew HB.out.drew
      have HLEN := hid (flatS_len tab ws (ss.take k))
      have HLT := hid (setS_lt tab ws x)
      have HBL := hid (bitsN_len (setS tab ws x) 64)
      have HTK := hid (show (ss.take k).length ≤ k by rw [List.length_take]; omega)
      have HX := hid hx
      clear hx
      -- MAN0
      have HS := hid (fun (u : World) (hb : Below V.heap.size V u) => show u.cell? ⟨w.heap.size, 0, none⟩ = some (.int .i64 k1) ∧ u.cell? ⟨w.heap.size, 1, none⟩ = some (.int .i64 k2) ∧ u.cell? ⟨w.heap.size, 2, none⟩ = some (.int .i64 k3) ∧ u.cell? ⟨w.heap.size, 3, none⟩ = some (.int .i64 k4) ∧ u.cell? ⟨w.heap.size, 4, none⟩ = some (.int .i64 k5) ∧ u.cell? ⟨w.heap.size, 5, none⟩ = some (.slice A tab.length c) ∧ u.cell? ⟨w.heap.size, 6, none⟩ = some (.slice B ws.length d) ∧ u.cell? (a.add k) = some (.string x) from by
        obtain ⟨c0, c1, c2, c3', c4, c5, c6⟩ := HCB.out u hb
        obtain ⟨a', x', ha', hx', r0'⟩ := (HR.out.below (bThen HBV.out hb)).at_str k (by rw [HQ.out]; exact hlt)
        cases ha'
        rw [HX.out] at hx'
        obtain rfl := Option.some.inj hx'
        exact ⟨c0, c1, c2, c3', c4, c5, c6, r0'⟩)
      go_wp2_with fail
      refine wp_region_held_drew (S := fun w' => w'.cell? ⟨w.heap.size, 0, none⟩ = some (.int .i64 k1) ∧ w'.cell? ⟨w.heap.size, 1, none⟩ = some (.int .i64 k2) ∧ w'.cell? ⟨w.heap.size, 2, none⟩ = some (.int .i64 k3) ∧ w'.cell? ⟨w.heap.size, 3, none⟩ = some (.int .i64 k4) ∧ w'.cell? ⟨w.heap.size, 4, none⟩ = some (.int .i64 k5) ∧ w'.cell? ⟨w.heap.size, 5, none⟩ = some (.slice A tab.length c) ∧ w'.cell? ⟨w.heap.size, 6, none⟩ = some (.slice B ws.length d) ∧ w'.cell? (a.add k) = some (.string x)) (by kernel_rfl) (HS.out _ HB.out.drew) (fun hHeld => ?_)
      refine anyH_take 0 (v := ?_) rfl (by kernel_rfl) (by kernel_rfl) (by kernel_rfl) (fun _ _ _ h => h) (by rfl) hHeld ?_ ?_
      rotate_left
      · (intro w hSw; (try dsimp only at hSw); go_split_ands; go_simp; try with_reducible rfl)
      (try simp only [Act.put, List.setIfInBounds_toArray, List.set_cons_zero, List.set_cons_succ])
      refine anyH_take 1 (v := ?_) rfl (by kernel_rfl) (by kernel_rfl) (by kernel_rfl) (fun _ _ _ h => h) (by rfl) hHeld ?_ ?_
      rotate_left
      · (intro w hSw; (try dsimp only at hSw); go_split_ands; go_simp; try with_reducible rfl)
      (try simp only [Act.put, List.setIfInBounds_toArray, List.set_cons_zero, List.set_cons_succ])
      refine anyH_take 2 (v := ?_) rfl (by kernel_rfl) (by kernel_rfl) (by kernel_rfl) (fun _ _ _ h => h) (by rfl) hHeld ?_ ?_
      rotate_left
      · (intro w hSw; (try dsimp only at hSw); go_split_ands; go_simp; try with_reducible rfl)
      (try simp only [Act.put, List.setIfInBounds_toArray, List.set_cons_zero, List.set_cons_succ])
      refine anyH_take 3 (v := ?_) rfl (by kernel_rfl) (by kernel_rfl) (by kernel_rfl) (fun _ _ _ h => h) (by rfl) hHeld ?_ ?_
      rotate_left
      · (intro w hSw; (try dsimp only at hSw); go_split_ands; go_simp; try with_reducible rfl)
      (try simp only [Act.put, List.setIfInBounds_toArray, List.set_cons_zero, List.set_cons_succ])
      refine anyH_take 4 (v := ?_) rfl (by kernel_rfl) (by kernel_rfl) (by kernel_rfl) (fun _ _ _ h => h) (by rfl) hHeld ?_ ?_
      rotate_left
      · (intro w hSw; (try dsimp only at hSw); go_split_ands; go_simp; try with_reducible rfl)
      (try simp only [Act.put, List.setIfInBounds_toArray, List.set_cons_zero, List.set_cons_succ])
      refine anyH_take 5 (v := ?_) rfl (by kernel_rfl) (by kernel_rfl) (by kernel_rfl) (fun _ _ _ h => h) (by rfl) hHeld ?_ ?_
      rotate_left
      · (intro w hSw; (try dsimp only at hSw); go_split_ands; go_simp; try with_reducible rfl)
      (try simp only [Act.put, List.setIfInBounds_toArray, List.set_cons_zero, List.set_cons_succ])
      refine anyH_one 6 rfl (by kernel_rfl) (fun K hK => ?_)
      go_simp
      refine (rset15_calls tab ws x k1 k2 k3 k4 k5 _ _ wr.drew (Kd.below HT.out HBW.out) (Kd.below HW.out HBW.out) HA.out hxz hwl).mono ?_
      rintro e w2 ⟨rfl, hb2⟩
      have HB2 := hid (bThen (Below.refl wr.heap.size wr).drew hb2)
      have HO2 := hid (HO.out.below HB2.out)
      clear hb2
      go_simp
      refine hK.out _ _ (HS.out _ (bThen HB.out HB2.out)) (fun hHeld => ?_)
      clear hK K
      (try simp only [Act.put, List.setIfInBounds_toArray, List.set_cons_zero, List.set_cons_succ])
      refine anyH_one 7 rfl (by kernel_rfl) (fun K hK => ?_)
      go_simp
      refine (rlist_calls (setS tab ws x) w2 HLT.out).mono ?_
      rintro e w3 ⟨v3, rfl, hO3, hb3⟩
      have HB3 := hid (bThen HB2.out hb3)
      have HO3 := hid (HO2.out.below hb3)
      obtain ⟨B3, d3, he, _, _, hr3⟩ := Kd.any hO3.K
      injection he with he _
      subst he
      clear hb3
      go_simp
      refine hK.out _ _ (HS.out _ (bThen HB.out HB3.out)) (fun hHeld => ?_)
      clear hK K
      (try simp only [Act.put, List.setIfInBounds_toArray, List.set_cons_zero, List.set_cons_succ])
      refine anyH_one 8 rfl (by kernel_rfl) (fun K hK => ?_)
      refine appends_step (Kd.int .i64) V.heap.size rfl _ _ 26 3 _ 8 rfl Try.underlying26 Try.infoInt rfl (by decide) (by decide) (.slice A3 n3 c3) (flatS tab ws (ss.take k)) (bitsN (setS tab ws x) 64) B3 (bitsN (setS tab ws x) 64).length d3 NoT Any NoT rfl rfl rfl hr3 (fun _ _ h => h) (fun _ h => h.elim) HO3.out (bThen HB.out HB3.out).size (by have := HLEN.out; have := HTK.out; have := HBL.out; omega) ?_
      intro v1 w4 hO4 hg4 _
      have HB4 := hid ((bThen HB.out HB3.out).grown hg4 (bThen HB.out HB3.out).size (fun k hk => (HO3.out.lt k hk).1))
      refine hK.out _ _ (HS.out _ HB4.out) (fun hHeld => ?_)
      clear hK K
      (try simp only [Act.put, List.setIfInBounds_toArray, List.set_cons_zero, List.set_cons_succ])
      refine anyH_take 9 (v := ?_) rfl (by kernel_rfl) (by kernel_rfl) (by kernel_rfl) (fun _ _ _ h => h) (by rfl) hHeld ?_ ?_
      rotate_left
      · (intro w hSw; (try dsimp only at hSw); go_split_ands; go_simp; try with_reducible rfl)
      (try simp only [Act.put, List.setIfInBounds_toArray, List.set_cons_zero, List.set_cons_succ])
      refine wpAnyH_done (by kernel_rfl) ?_ _
      go_wp2
      go_roundw
      case rel => exact ⟨k + 1, by omega, by go_num, by rw [← HN.out]; exact hO4, HB4⟩
      case measure => simp [intOf]; omega
    · obtain rfl : k = q := by omega
      have e : ss.take k = ss := by rw [List.take_of_length_le]; rw [HQ.out]; exact Nat.le_refl _
      have HF := hid (show ofN (flatS tab ws (ss.take k)) 64 = anyS tab ws ss by rw [e]; exact flatS_of tab ws ss)
      clear e
      go_wp2_with fail
      refine (rof_calls _ _ _ (Kd.any HO.out.K)).mono ?_
      rintro e w2 ⟨rfl, rfl⟩
      rw [HF.out]
      go_wp2
      go_ret
      exact ⟨rfl, bThen HBV.out HB.out⟩
end Go.Proofs.Ytolckkckheiceaa
