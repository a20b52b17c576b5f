/- job.Set. -/
import Derived.Test.YtgedkcglkhleoaaGreatDoorAdmit
import Derived.Test.YtgedkcglkhleoaaGreatDoorReadP
namespace Go.Proofs.YtgedkcglkhleoaaGreatDoor
open Go.RowKit

def setS (tab : List ByteArray) (ws : List WorkerS) (s : ByteArray) : Nat := if (needS tab s).2.2 ≠ 0 then 0 else admitS (needS tab s).1 ws
set_option maxHeartbeats 2000000 in
set_option maxRecDepth 100000 in
theorem jobSet_calls (tab : List ByteArray) (ws : List WorkerS) (s : ByteArray) (k1 k2 k3 k4 k5 : Int) (v u : Value) (w : World) (ht : Kd.str.slice.K w Any tab [v]) (hw : Kd.worker.slice.K w Any ws [u]) (ha : ∀ x ∈ ws, x.attrs < 2 ^ 64) (hs : s.size ≤ 140737488351232) (hn : (needS tab s).1.length ≤ 1000000) :
    Calls Tryz.prog 40 #[.agg #[.int .i64 k1, .int .i64 k2, .int .i64 k3, .int .i64 k4, .int .i64 k5, v, u], .string s] w fun e w' => e = .returned (.int .u64 (setS tab ws s : Nat)) ∧ Below w.heap.size w w' := by
  have HT := hid ht
  have HW := hid hw
  have HA := hid ha
  have HN := hid hn
  obtain ⟨A, c, he, _, _, _⟩ := ht
  injection he with he _
  subst he
  obtain ⟨B, d, he, _, _, _⟩ := hw
  injection he with he _
  subst he
  obtain ⟨l, k, f, hl⟩ : ∃ l k f, needS tab s = (l, k, f) := ⟨_, _, _, rfl⟩
  have HL := hid hl
  have HD := hid (show setS tab ws s = if f ≠ 0 then 0 else admitS l ws by unfold setS; rw [hl])
  have hln : l.length ≤ 1000000 := by rw [hl] at hn; exact hn
  clear ha hl hn
  obtain ⟨V, hV⟩ : ∃ V, V = w.alloc (.cells #[.int .i64 k1, .int .i64 k2, .int .i64 k3, .int .i64 k4, .int .i64 k5, .slice A tab.length c, .slice B ws.length d] 25) := ⟨_, rfl⟩
  have HBV := hid (show Below w.heap.size w V by rw [hV]; exact bAlloc (Below.refl _ _) _)
  have hz := hid (show V.heap[w.heap.size]? = some (.cells #[.int .i64 k1, .int .i64 k2, .int .i64 k3, .int .i64 k4, .int .i64 k5, .slice A tab.length c, .slice B ws.length d] 25 (0, 0)) by rw [hV]; exact heap_at rfl)
  have HCB := hid (fun (u : World) (h : Below V.heap.size V u) => (show u.cell? ⟨w.heap.size, 6, none⟩ = some (.slice B ws.length d) from by
    obtain ⟨z0, _, _⟩ := cells_of_block ((h.block w.heap.size (Array.getElem?_eq_some_iff.1 hz.out).1).trans hz.out)
    exact z0 6 _ rfl))
  have HV := hid hV
  clear hV
  go_enter Tryz.func40, Tryz.ntmps40
  go_wp2_with fail
  rw [← HV.out]
  refine (readNeed_calls tab s _ V (Kd.below HT.out HBV.out) hs).mono ?_
  rintro e w2 ⟨v2, rfl, hO, hb2⟩
  rw [HL.out] at hO ⊢
  dsimp only at hO ⊢
  have HB2 := hid (bThen HBV.out hb2)
  have HO2 := hid hO
  have c6 := HCB.out w2 hb2
  obtain ⟨A2, n2, c2, rfl, hq1, hq2⟩ := hO.shape'
  clear hO hb2 hq1 hq2
  by_cases h0 : f = 0
  · subst h0
    go_wp2_with fail
    refine (admitWorkers_calls l ws _ _ w2 (Kd.any HO2.out.K) (Kd.below HW.out HB2.out) hln HA.out).mono ?_
    rintro e w3 ⟨rfl, hb3⟩
    go_wp2
    go_ret
    rw [HD.out]
    exact ⟨rfl, bThen HB2.out hb3⟩
  · have h1 : (f == (0 : Int)) = false := by simp [h0]
    have HZ := hid (show setS tab ws s = 0 by rw [HD.out, if_pos h0])
    clear h0
    go_wp2
    go_ret
    rw [HZ.out]
    exact ⟨rfl, HB2.out⟩
theorem needS_len (tab : List ByteArray) (s : ByteArray) : (needS tab s).1.length ≤ 31 := by
  unfold needS
  split
  · simp
  · dsimp only
    split
    · simp
    · rename_i h0 h1
      generalize anyP _ _ _ _ = r at h1 ⊢
      have hc : (readR r).2.1 = 0 := by simpa using h1
      cases r with
      | bad a e => simp [readR]
      | ok ws out =>
        cases ws with
        | cons x ws => simp [readR]
        | nil =>
          obtain ⟨_, _, h, _⟩ := check_made (show checkN out = 0 from hc)
          exact h
end Go.Proofs.YtgedkcglkhleoaaGreatDoor
