/- job.Any; siskinref15.Set, Any. -/
import Derived.Test.YtgedkcglkhleoaaGreatDoorJobSet
import Derived.Test.YtgedkcglkhleoaaGreatDoorRef12
import Derived.Test.YtgedkcglkhleoaaGreatDoorReadD
import Derived.Test.YtgedkcglkhleoaaGreatDoorBase
namespace Go.Proofs.YtgedkcglkhleoaaGreatDoor
open Go.RowKit

theorem setS_lt (tab : List ByteArray) (ws : List WorkerS) (s : ByteArray) : setS tab ws s < 2 ^ 64 := by
  unfold setS
  split
  · exact Nat.two_pow_pos 64
  · exact admitN_lt _ _ _ (by omega)
def anyS (tab : List ByteArray) (ws : List WorkerS) (ss : List ByteArray) : Nat := ss.foldl (fun a s => a ||| setS tab ws s) 0
theorem anyS_snoc (tab : List ByteArray) (ws : List WorkerS) (ss : List ByteArray) (s : ByteArray) : anyS tab ws (ss ++ [s]) = anyS tab ws ss ||| setS tab ws s := by
  unfold anyS
  rw [List.foldl_append]; rfl
theorem fold15_lt (tab : List ByteArray) (ws : List WorkerS) : ∀ (ss : List ByteArray) (a : Nat), a < 2 ^ 64 → ss.foldl (fun a s => a ||| setS tab ws s) a < 2 ^ 64
  | [], _, h => h
  | s :: ss, _, h => fold15_lt tab ws ss _ (Nat.or_lt_two_pow h (setS_lt tab ws s))
theorem anyS_lt (tab : List ByteArray) (ws : List WorkerS) (ss : List ByteArray) : anyS tab ws ss < 2 ^ 64 := fold15_lt tab ws ss 0 (Nat.two_pow_pos 64)
theorem fold_bit (tab : List ByteArray) (ws : List WorkerS) (j : Nat) : ∀ (ss : List ByteArray) (a : Nat), (ss.foldl (fun a s => a ||| setS tab ws s) a).testBit j = (a.testBit j || ss.any (fun s => (setS tab ws s).testBit j))
  | [], _ => by simp
  | s :: ss, a => by
    show (ss.foldl _ (a ||| setS tab ws s)).testBit j = _
    rw [fold_bit tab ws j ss, Nat.testBit_or, List.any_cons, Bool.or_assoc]
theorem anyS_bit (tab : List ByteArray) (ws : List WorkerS) (j : Nat) (ss : List ByteArray) : (anyS tab ws ss).testBit j = ss.any (fun s => (setS tab ws s).testBit j) := by
  unfold anyS
  rw [fold_bit]; simp
theorem or_num {a b : Nat} (ha : a < 2 ^ 64) (hb : b < 2 ^ 64) : bits .or .u64 (a : Int) (b : Int) = ((a ||| b : Nat) : Int) := u64_or_nat _ _ (by omega) (by omega)
/-- A box of a cluster's cells. -/
theorem conf_box {W : World} {b : Nat} {t : TypeId} {v0 v1 v2 v3 v4 v5 v6 : Value} (h : W.heap[b]? = some (.cells #[v0, v1, v2, v3, v4, v5, v6] t (0, 0))) (u : World) (hb : Below W.heap.size W u) :
    u.cell? ⟨b, 0, none⟩ = some v0 ∧ u.cell? ⟨b, 1, none⟩ = some v1 ∧ u.cell? ⟨b, 2, none⟩ = some v2 ∧ u.cell? ⟨b, 3, none⟩ = some v3 ∧ u.cell? ⟨b, 4, none⟩ = some v4 ∧ u.cell? ⟨b, 5, none⟩ = some v5 ∧ u.cell? ⟨b, 6, none⟩ = some v6 := by
  obtain ⟨z, _, _⟩ := cells_of_block ((hb.block b (Array.getElem?_eq_some_iff.1 h).1).trans h)
  exact ⟨z 0 _ rfl, z 1 _ rfl, z 2 _ rfl, z 3 _ rfl, z 4 _ rfl, z 5 _ rfl, z 6 _ rfl⟩
set_option maxHeartbeats 2000000 in
set_option maxRecDepth 100000 in
theorem rset15_calls (tab : List ByteArray) (ws : List WorkerS) (s : ByteArray) (k1 k2 k3 k4 k5 : Int) (v u : Value) (w : World) (ht : Kd.str.slice.K w Any tab [v]) (hw : Kd.worker.slice.K w Any ws [u]) (ha : ∀ x ∈ ws, x.attrs < 2 ^ 64) (hs : s.size * 24 ≤ 140737488351232) (hwl : ws.length ≤ 1000000) :
    Calls Tryz.prog 30 #[.agg #[.int .i64 k1, .int .i64 k2, .int .i64 k3, .int .i64 k4, .int .i64 k5, v, u], .string s] w fun e w' => e = .returned (.int .u64 (setS tab ws s : Nat)) ∧ Below w.heap.size w w' := by
  have HT := hid ht
  have HW := hid hw
  have HA := hid ha
  obtain ⟨A, c, he, _, _, _⟩ := ht
  injection he with he _
  subst he
  obtain ⟨B, d, he, _, _, _⟩ := hw
  injection he with he _
  subst he
  obtain ⟨l, k, f, hl⟩ : ∃ l k f, needS tab s = (l, k, f) := ⟨_, _, _, rfl⟩
  have HL := hid hl
  have HD := hid (show setS tab ws s = if f ≠ 0 then 0 else admitS l ws by unfold setS; rw [hl])
  have hln : l.length ≤ 1000000 := by have := needS_len tab s; rw [hl] at this; simp only at this; omega
  clear ha hl
  obtain ⟨V, hV⟩ : ∃ V, V = w.alloc (.cells #[.int .i64 k1, .int .i64 k2, .int .i64 k3, .int .i64 k4, .int .i64 k5, .slice A tab.length c, .slice B ws.length d] 25) := ⟨_, rfl⟩
  have HBV := hid (show Below w.heap.size w V by rw [hV]; exact bAlloc (Below.refl _ _) _)
  have hz := hid (show V.heap[w.heap.size]? = some (.cells #[.int .i64 k1, .int .i64 k2, .int .i64 k3, .int .i64 k4, .int .i64 k5, .slice A tab.length c, .slice B ws.length d] 25 (0, 0)) by rw [hV]; exact heap_at rfl)
  have HCB := hid (fun (u : World) (hb : Below V.heap.size V u) => conf_box hz.out u hb)
  have HV := hid hV
  clear hV
  go_enter Tryz.func30, Tryz.ntmps30
  go_wp2_with fail
  rw [← HV.out]
  refine (rneed_calls tab s _ V (Kd.below HT.out HBV.out) hs).mono ?_
  rintro e w2 ⟨v2, rfl, hO, hb2⟩
  rw [HL.out] at hO ⊢
  dsimp only at hO ⊢
  have HB2 := hid (bThen HBV.out hb2)
  have HO2 := hid hO
  obtain ⟨_, _, _, _, _, _, c6⟩ := HCB.out w2 hb2
  obtain ⟨A2, n2, c2, rfl, hq1, hq2⟩ := hO.shape'
  clear hO hb2 hq1 hq2
  by_cases h0 : f = 0
  · subst h0
    go_wp2_with fail
    refine (rworkers_calls l ws _ _ w2 (Kd.any HO2.out.K) (Kd.below HW.out HB2.out) hln HA.out hwl).mono ?_
    rintro e w3 ⟨rfl, hb3⟩
    go_wp2
    go_ret
    rw [HD.out]
    exact ⟨rfl, bThen HB2.out hb3⟩
  · have h1 : (f == (0 : Int)) = false := by simp [h0]
    have HZ := hid (show setS tab ws s = 0 by rw [HD.out, if_pos h0])
    clear h0
    go_wp2
    go_ret
    rw [HZ.out]
    exact ⟨rfl, HB2.out⟩
def flatS (tab : List ByteArray) (ws : List WorkerS) (ss : List ByteArray) : List Int := ss.flatMap (fun s => bitsN (setS tab ws s) 64)
theorem flatS_snoc (tab : List ByteArray) (ws : List WorkerS) (ss : List ByteArray) (s : ByteArray) : flatS tab ws (ss ++ [s]) = flatS tab ws ss ++ bitsN (setS tab ws s) 64 := by
  unfold flatS
  rw [List.flatMap_append]; simp
theorem flatS_len (tab : List ByteArray) (ws : List WorkerS) (ss : List ByteArray) : (flatS tab ws ss).length ≤ ss.length * 64 := by
  induction ss with
  | nil => exact Nat.zero_le _
  | cons s ss ih =>
    have := bitsN_len (setS tab ws s) 64
    unfold flatS at ih ⊢
    rw [List.flatMap_cons, List.length_append, List.length_cons]
    omega
theorem flatS_of (tab : List ByteArray) (ws : List WorkerS) (ss : List ByteArray) : ofN (flatS tab ws ss) 64 = anyS tab ws ss := by
  apply Nat.eq_of_testBit_eq
  intro j
  rw [ofN_bit, anyS_bit, Bool.eq_iff_iff, Bool.and_eq_true, decide_eq_true_iff, decide_eq_true_iff]
  unfold flatS
  rw [List.mem_flatMap, List.any_eq_true]
  constructor
  · rintro ⟨_, s, hs, hm⟩
    have := (bitsN_mem _ _ _).1 hm
    exact ⟨s, hs, by simpa using this.2.2⟩
  · rintro ⟨s, hs, hb⟩
    have hj : j < 64 := by
      rcases Nat.lt_or_ge j 64 with h | h
      · exact h
      · rw [Nat.testBit_lt_two_pow (Nat.lt_of_lt_of_le (setS_lt tab ws s) (Nat.pow_le_pow_right (by decide) h))] at hb; cases hb
    exact ⟨hj, s, hs, (bitsN_mem _ _ _).2 ⟨by omega, by omega, by simpa using hb⟩⟩
end Go.Proofs.YtgedkcglkhleoaaGreatDoor
