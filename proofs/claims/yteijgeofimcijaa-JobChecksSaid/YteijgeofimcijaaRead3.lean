/- read.reader.read: the door; read.Need. -/
import Derived.Test.YteijgeofimcijaaRead2
import Derived.Test.YteijgeofimcijaaNeed2
import Derived.Test.YteijgeofimcijaaLex
import Derived.Defers
import Derived.Recover
namespace Go.Proofs.Yteijgeofimcijaa
open Go.RowKit

set_option maxHeartbeats 1000000 in
theorem catch_wrong (b : Nat) (a er x y : Int) (older : List PanicEntry) (w : World) (h0 : w.cell? ⟨b, 0, none⟩ = some (.int .i64 x)) (h1 : w.cell? ⟨b, 1, none⟩ = some (.int .i64 y)) (hz : ∀ j, w.frozen? ⟨b, j, none⟩ = false) :
    CallsD Try.prog 136 #[.pointer (some ⟨b, 0, none⟩)] (.panicking ({ v := .iface 148 (.agg #[.int .i64 a, .int .i64 er]), recovered := false } :: older)) w fun e u' w' =>
      e = .returned (.tuple #[]) ∧ u' = .panicking ({ v := .iface 148 (.agg #[.int .i64 a, .int .i64 er]), recovered := true } :: older) ∧ w' = (w.setCell ⟨b, 0, none⟩ (.int .i64 a)).setCell ⟨b, 1, none⟩ (.int .i64 er) := by
  have hta : ∀ w, (Instr.typeAssert (.iface 148 (.agg #[.int .i64 a, .int .i64 er])) 20 148 false).run Try.prog w = .ok (.agg #[.int .i64 a, .int .i64 er]) w := fun w => by kernel_rfl
  refine callsD_of_wpS Try.func136 rfl fun c₀ cs hu => ?_
  apply wpS_seq
  apply wpS_region
  simp [wpOpsS, go_sem, recoverD, hu, Try.ntmps136, Exit.thenS]
  have heq : ∀ w, (binOp BinOp.eql 20 (.iface 148 (.agg #[.int .i64 a, .int .i64 er])) .nilIface).run Try.prog w = .ok (.bool false) w := fun w => by kernel_rfl
  refine wpS_of_wp ?_
  simp only [Array.replicate]
  go_wp2
  simp [bodyPostS, results, Try.results136]
set_option maxHeartbeats 1000000 in
theorem catch_none (b : Nat) (w : World) :
    CallsD Try.prog 136 #[.pointer (some ⟨b, 0, none⟩)] .returning w fun e u' w' => e = .returned (.tuple #[]) ∧ u' = .returning ∧ w' = w := by
  have heq : ∀ w, (binOp BinOp.eql 20 .nilIface .nilIface).run Try.prog w = .ok (.bool true) w := fun w => by kernel_rfl
  refine callsD_of_wpS Try.func136 rfl fun c₀ cs hu => ?_
  apply wpS_seq
  apply wpS_region
  simp [wpOpsS, go_sem, recoverD, hu, Try.ntmps136, Exit.thenS]
  refine wpS_of_wp ?_
  simp only [Array.replicate]
  go_wp2
  cases c₀
  simp_all [bodyPostS, results, Try.results136]
theorem RAt.other {tab : List ByteArray} {tv : Value} {en : Int} {g B : Nat} {w : World} {ws : List WordS} {out : List NodeS} (h : RAt tab tv en g B w ws out) (R j : Nat) (h1 : g < R) (h2 : R < B) (u : Value) : RAt tab tv en g B (w.setCell ⟨R, j, none⟩ u) ws out := by
  obtain ⟨A, n, c, O, q1, q2, q3, q4, q5, q6, q7, q8, q9⟩ := h
  have hm : ∀ b, b ≠ R → (w.setCell ⟨R, j, none⟩ u).heap[b]? = w.heap[b]? := fun b hb => Below.heap_setCell w ⟨R, j, none⟩ _ b (by show b ≠ R; exact hb)
  exact ⟨A, n, c, O, (hm g (by omega)).trans q1, q2, q3, q4.move (fun b hb _ => hm b (by omega)), q5.setCell (fun h => h) (fun e => by have := (q5.lt R e).1; omega) _, Kd.str.slice.move (fun b hb _ => hm b (by omega)) q6, q7, by simpa using q8, q9⟩
set_option maxHeartbeats 4000000 in
set_option maxRecDepth 100000 in
theorem read_calls (tab : List ByteArray) (tv : Value) (en : Int) (g : Nat) (w : World) (ws : List WordS) (hg : g < w.heap.size) (hI : ∀ W B, Below w.heap.size w W → g < B → B ≤ W.heap.size → RAt tab tv en g B W ws []) (a0 e0 : Int) (o0 : List NodeS) (hq0 : readR (anyP (oneP tab en ws.length) ws.length ws []) = (a0, e0, o0)) :
    Calls Try.prog 86 #[.pointer (some ⟨g, 0, none⟩)] w fun e w' => e = .returned (.agg #[.int .i64 a0, .int .i64 e0]) ∧ Mod (fun b => b = g ∨ w.heap.size ≤ b) w w' ∧
      (e0 = 0 → RAt tab tv en g (w.heap.size + 1) w' [] o0) := by
  have hmf := makeFunc_run Try.prog
  have HI := hid hI
  obtain ⟨V, hV⟩ : ∃ V, V = w.alloc (.cells #[.int .i64 0, .int .i64 0] 148) := ⟨_, rfl⟩
  have HBV := hid (show Below w.heap.size w V by rw [hV]; exact bAlloc (Below.refl _ _) _)
  have hvs : V.heap.size = w.heap.size + 1 := by rw [hV]; simp
  have hz := hid (show V.heap[w.heap.size]? = some (.cells #[.int .i64 0, .int .i64 0] 148 (0, 0)) by rw [hV]; exact heap_at rfl)
  have HCB := hid (fun (u : World) (h : Mod (rF g (w.heap.size + 1)) V u) => (show u.cell? ⟨w.heap.size, 0, none⟩ = some (.int .i64 0) ∧ u.cell? ⟨w.heap.size, 1, none⟩ = some (.int .i64 0) ∧ ∀ j, u.frozen? ⟨w.heap.size, j, none⟩ = false from by
    obtain ⟨z0, z1, _⟩ := cells_of_block ((h.block w.heap.size (Array.getElem?_eq_some_iff.1 hz.out).1 (by rintro (h | h) <;> omega)).trans hz.out)
    exact ⟨z0 0 _ rfl, z0 1 _ rfl, z1⟩))
  have HV := hid hV
  have HVS := hid hvs
  clear hV hvs hI
  obtain ⟨R, hR⟩ : ∃ R, R = w.heap.size := ⟨_, rfl⟩
  have HRR := hid hR
  go_enter_defers Try.func86, Try.ntmps86
  go_wp2_with fail
  rw [← HV.out]
  refine (any_ok tab tv en g (w.heap.size + 1) (oneP tab en ws.length) ws.length (oneP_less tab en _) (one_ok tab tv en g (w.heap.size + 1) _) V ws [] (Nat.le_refl _) (HI.out V (w.heap.size + 1) HBV.out (by omega) (by rw [HVS.out]; exact Nat.le_refl _))).mono ?_
  rintro e w1 ⟨hm1, he⟩
  obtain ⟨c0, c1, c2⟩ := HCB.out w1 hm1
  have HM1 := hid (show Mod (fun b => b = g ∨ w.heap.size ≤ b) w w1 from (Mod.of_below HBV.out).trans hm1 (fun k _ h => h.imp id (fun h => by omega)))
  have hsz : w.heap.size < w1.heap.size := by have := hm1.size; rw [HVS.out] at this; omega
  clear hm1
  generalize hq : anyP (oneP tab en ws.length) ws.length ws [] = q at he hq0
  cases q with
  | bad a er =>
    subst he
    unfold wrongV
    have her := anyP_bad (oneP_bad tab en ws.length) ws.length _ _ _ _ hq
    unfold readR at hq0
    injection hq0 with hq1 hq2
    injection hq2 with hq2 hq3
    subst hq1; subst hq2; subst hq3
    have HER := hid her
    clear hq her
    go_wp2
    refine leaves_cons (f := 136) (args := #[.pointer (some ⟨w.heap.size, 0, none⟩)]) (by simp) (by simp [go_sem]) ?_
    refine (catch_wrong w.heap.size a er 0 0 _ w1 c0 c1 c2).mono ?_
    rintro e u' w2 ⟨rfl, rfl, rfl⟩
    simp [Leaves, settle, results, Try.results86, go_sem, c0, c1]
    exact ⟨Mod.setCell (Mod.setCell HM1.out (fun _ => .inr (Nat.le_refl _)) _) (fun _ => .inr (Nat.le_refl _)) _, fun h => absurd h HER.out⟩
  | ok r o =>
    obtain ⟨rfl, hR1⟩ := he
    have HR1 := hid hR1
    obtain ⟨A, n, c, O, q1, q2, q3, q4, q5, q6, q7, q8, _⟩ := hR1
    obtain ⟨z, zf, _⟩ := cells_of_block q1
    have z1 : w1.cell? ⟨g, 1, none⟩ = some (.slice A n c) := z 1 _ rfl
    have z3 : w1.cell? ⟨g, 3, none⟩ = some O := z 3 _ rfl
    obtain ⟨B1, m1, k1, rfl, hx1, hx2⟩ := q5.shape'
    have HK := hid (Kd.any q5.K)
    clear hq z zf q1 q3 q5 q6 q7 q8 hx1 hx2
    cases r with
    | cons x r =>
      obtain ⟨a, rfl, p0, p1, _, _⟩ := row_word0 q4
      have hn1 : (0 : Int) < n := by rw [q2, List.length_cons]; omega
      have hn2 : 0 < n := by omega
      unfold readR at hq0
      injection hq0 with hq1 hq2
      injection hq2 with hq2 hq3
      subst hq1; subst hq2; subst hq3
      clear q2 q4
      go_wp2
      refine leaves_cons (f := 136) (args := #[.pointer (some ⟨w.heap.size, 0, none⟩)]) (by simp) (by simp [go_sem]) ?_
      refine (catch_wrong w.heap.size _ 3 0 0 _ w1 c0 c1 c2).mono ?_
      rintro e u' w2 ⟨rfl, rfl, rfl⟩
      simp [Leaves, settle, results, Try.results86, go_sem, c0, c1]
      exact Mod.setCell (Mod.setCell HM1.out (fun _ => .inr (Nat.le_refl _)) _) (fun _ => .inr (Nat.le_refl _)) _
    | nil =>
      obtain rfl : n = 0 := q2
      unfold readR at hq0
      injection hq0 with hq1 hq2
      injection hq2 with hq2 hq3
      subst hq1; subst hq2; subst hq3
      have hsum := HR1.out.sum
      simp only [List.length_nil] at hsum
      clear q4
      go_wp2_with fail
      refine (needCheck_calls o _ w1 HK.out (by omega)).mono ?_
      rintro e w2 ⟨rfl, hb2⟩
      have HM2 := hid (HM1.out.then_below hb2)
      have HR2 := hid (HR1.out.below hb2)
      obtain ⟨cv, hcv⟩ : ∃ cv, cv = checkN o := ⟨_, rfl⟩
      rw [← hcv]
      have d0 : w2.cell? ⟨w.heap.size, 0, none⟩ = some (.int .i64 0) := (hb2.cell hsz).trans c0
      have d1 : w2.cell? ⟨w.heap.size, 1, none⟩ = some (.int .i64 0) := (hb2.cell hsz).trans c1
      have d2 : ∀ j, w2.frozen? ⟨w.heap.size, j, none⟩ = false := fun j => (hb2.frozen hsz).trans (c2 j)
      clear c0 c1 c2 hb2
      go_wp2
      refine leaves_cons (f := 136) (args := #[.pointer (some ⟨w.heap.size, 0, none⟩)]) (by simp) (by simp [go_sem]) ?_
      refine (catch_none w.heap.size _).mono ?_
      rintro e u' w3 ⟨rfl, rfl, rfl⟩
      simp [Leaves, settle, results, Try.results86, go_sem, d0, d1]
      refine ⟨Mod.setCell (Mod.setCell HM2.out (fun _ => .inr (Nat.le_refl _)) _) (fun _ => .inr (Nat.le_refl _)) _, fun _ => ?_⟩
      exact (HR2.out.other w.heap.size 0 hg (Nat.lt_succ_self _) _).other w.heap.size 1 hg (Nat.lt_succ_self _) _
theorem growL_len (out : List WordS) (t : ByteArray) : (growL out t).length = out.length := by
  unfold growL
  split
  · rw [List.length_set]
  · rfl
theorem lexGo_len : ∀ (rs : List RuneS) (st : LexS), (lexGo rs st).1.length ≤ st.out.length + rs.length
  | [], st => by simp [lexGo]
  | r :: rs, st => by
    unfold lexGo
    split
    · rename_i st' h
      have ih := lexGo_len rs st'
      have hl : st'.out.length ≤ st.out.length + 1 := by
        unfold stepL at h
        split at h
        · injection h with h; subst h
          show (if st.run then growL st.out (Utf8.encode r.C) else st.out ++ [_]).length ≤ _
          split
          · rw [growL_len]; omega
          · simp
        · split at h
          · injection h with h; subst h; simp
          · split at h
            · injection h with h; subst h; simp
            · cases h
      simp only [List.length_cons]; omega
    · simp
theorem wordsS_len (s : ByteArray) : (wordsS s).1.length ≤ 200 := by
  unfold wordsS
  split
  · simp
  · have := lexGo_len (runes s) ⟨[], false, 0⟩
    have := runes_len s
    simp only [List.length_nil] at *
    omega
set_option maxHeartbeats 4000000 in
set_option maxRecDepth 100000 in
theorem readNeed_calls (tab : List ByteArray) (s : ByteArray) (tv : Value) (w : World) (ht : Kd.str.slice.K w Any tab [tv]) (hs : s.size ≤ 140737488351232) :
    Calls Try.prog 28 #[tv, .string s] w fun e w' => ∃ v, e = .returned (.tuple #[v, .int .i64 (needS tab s).2.1, .int .i64 (needS tab s).2.2]) ∧ Own Kd.node 122 w' w.heap.size NoT v (needS tab s).1 ∧ Below w.heap.size w w' := by
  have HT := hid ht
  have HD := hid (show needS tab s = _ from rfl)
  clear ht
  go_enter Try.func28, Try.ntmps28
  go_wp2_with fail
  refine (lexWords_calls s w hs).mono ?_
  rintro e w1 ⟨v, rfl, hO, hb1⟩
  have HO := hid hO
  have HB1 := hid hb1
  have hwl := wordsS_len s
  obtain ⟨ws, hws⟩ : ∃ ws, ws = (wordsS s).1 := ⟨_, rfl⟩
  obtain ⟨a1, ha1⟩ : ∃ a1, a1 = (wordsS s).2.1 := ⟨_, rfl⟩
  obtain ⟨e1, he1⟩ : ∃ e1, e1 = (wordsS s).2.2 := ⟨_, rfl⟩
  rw [← ha1, ← he1]
  have HW := hid hws
  rw [← hws] at HO hwl
  have HA := hid ha1
  have HE := hid he1
  clear hO hb1 hws ha1 he1 HD
  by_cases h0 : e1 = 0
  · subst h0
    obtain ⟨A, n, c, rfl, hq1, hq2⟩ := HO.out.shape'
    obtain ⟨At, ct, hta, _, _, _⟩ := HT.out
    injection hta with hta _
    subst hta
    clear hq1 hq2
    go_wp2_with fail
    refine (count_calls s w1 hs).mono ?_
    rintro e w2 ⟨rfl, hb2⟩
    obtain ⟨V, hV⟩ : ∃ V, V = w2.alloc (.cells #[.slice At tab.length ct, .slice A n c, .int .i64 (runes s).length, .slice none 0 0] 146) := ⟨_, rfl⟩
    have HBV := hid (show Below w2.heap.size w2 V by rw [hV]; exact bAlloc (Below.refl _ _) _)
    have hvs : V.heap.size = w2.heap.size + 1 := by rw [hV]; simp
    have hz := hid (show V.heap[w2.heap.size]? = some (.cells #[.slice At tab.length ct, .slice A n c, .int .i64 (runes s).length, .slice none 0 0] 146 (0, 0)) by rw [hV]; exact heap_at rfl)
    have HV := hid hV
    clear hV
    have h12 := hb2.size
    have h01 := HB1.out.size
    have HBT := hid (bThen HB1.out hb2)
    obtain ⟨g, hg⟩ : ∃ g, g = w2.heap.size := ⟨_, rfl⟩
    have hI : ∀ W B, Below V.heap.size V W → g < B → B ≤ W.heap.size → RAt tab (.slice At tab.length ct) (runes s).length g B W ws [] := by
      intro W B hb hgB hBW
      obtain ⟨A', c', he, k1, k2, k3⟩ := (HO.out.below hb2).K
      injection he with he _
      injection he with he1 he2 he3
      subst he1; subst he3
      have hbw : Below w2.heap.size w2 W := HBV.out.trans (hb.mono HBV.out.size)
      refine ⟨A, n, c, .slice none 0 0, ?_, he2, k1, Kd.Row.below (Kd.Row.mono (fun b _ h => by rw [hg]; exact h) k3) hbw, Own.nil _ _ _ _ _, Kd.below (Kd.mono Kd.str.slice (fun b _ h => by rw [hg]; exact h) (Kd.below (Kd.below HT.out HB1.out) hb2)) hbw, hgB, hBW, by omega, by simp; omega⟩
      rw [hg]
      exact (hb.block w2.heap.size (by omega)).trans hz.out
    generalize hq : readR (anyP (oneP tab (runes s).length ws.length) ws.length ws []) = q
    obtain ⟨a0, e0, o0⟩ := q
    have HD := hid (show needS tab s = (if e0 ≠ 0 then ([], a0, e0) else (o0, 0, 0)) by
      unfold needS
      rw [if_neg (by rw [← HE.out]; simp), ← HW.out, hq])
    have HRC := hid (read_calls tab (.slice At tab.length ct) (runes s).length g V ws (by omega) hI a0 e0 o0 hq)
    clear hI hq
    go_wp2_with fail
    rw [← HV.out, ← hg]
    refine HRC.out.mono ?_
    rintro e w3 ⟨rfl, hm3, hR3⟩
    have HB3 := hid (show Below w.heap.size w w3 from below_mod (HBT.out.trans (HBV.out.mono (by omega))) hm3 (fun i h => by rcases h with h | h <;> omega) (by omega))
    have hgw : w.heap.size ≤ V.heap.size + 1 := by omega
    clear hm3 hg
    by_cases h0 : e0 = 0
    · have HD2 := hid (show needS tab s = (o0, 0, 0) by rw [HD.out, if_neg (by simp [h0])])
      have hR := hR3 h0
      subst h0
      clear hR3 hb2 hz
      obtain ⟨A5, n5, c5, O, q1, _, _, _, q5, _, _, q8, _⟩ := hR
      have hg3 := (Array.getElem?_eq_some_iff.1 q1).1
      obtain ⟨z, _, _⟩ := cells_of_block q1
      obtain ⟨B1, m1, k1, rfl, hx1, hx2⟩ := q5.shape'
      have z3 : w3.cell? ⟨g, 3, none⟩ = some (.slice B1 m1 k1) := z 3 _ rfl
      have HOO := hid (q5.lower (base' := w.heap.size) (by omega))
      clear z q1 q5 q8 hx1 hx2
      go_wp2
      go_ret3
      rw [HD2.out]
      exact ⟨_, rfl, HOO.out.alloc _, bAlloc HB3.out _⟩
    · have HD2 := hid (show needS tab s = ([], a0, e0) by rw [HD.out, if_pos h0])
      have h1 : (e0 == (0 : Int)) = false := by simp [h0]
      clear h0 hR3 hb2 hz
      go_wp2
      go_quiet (fail)
      go_wp2
      go_ret3
      rw [HD2.out]
      exact ⟨_, rfl, Own.nil _ _ _ _ _, below_drewN (bAlloc HB3.out _) _⟩
  · have h1 : (e1 == (0 : Int)) = false := by simp [h0]
    have HD := hid (show needS tab s = ([], a1, e1) by unfold needS; rw [if_pos (by rw [← HE.out]; exact h0), ← HA.out, ← HE.out])
    clear h0
    obtain ⟨A, n, c, rfl, hq1, hq2⟩ := HO.out.shape'
    clear hq1 hq2
    go_wp2
    go_ret3
    rw [HD.out]
    exact ⟨_, rfl, Own.nil _ _ _ _ _, HB1.out⟩
end Go.Proofs.Yteijgeofimcijaa
