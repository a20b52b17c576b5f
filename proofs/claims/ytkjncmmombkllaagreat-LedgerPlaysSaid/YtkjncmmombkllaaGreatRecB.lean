import Derived.Test.YtkjncmmombkllaaGreatAt8N
import Derived.Test.YtkjncmmombkllaaGreatRec
import Derived.Deep.DeepCutAuto
namespace Go.Proofs.YtkjncmmombkllaaGreat
open Go.RowKit

def optL (t : Bool) (n : Int) : List UInt8 := if t then numL (clampN n) else []
theorem optL_len (t : Bool) (n : Int) : (optL t n).length ≤ 8 := by
  unfold optL
  cases t
  · simp
  · simpa using numL_len_le (clampN_le n)

set_option maxHeartbeats 800000 in
set_option maxRecDepth 100000 in
theorem recPut_calls (F n bit : Int) (t : Bool) (bf bb : Nat) (bs : List UInt8) (v : Value) (w : World) (hbf : w.cell? ⟨bf, 0, none⟩ = some (.int .i64 F)) (hbb : w.heap[bb]? = some (.cells #[v] 23 (0, 0)))
    (B : Nat) (hO : Own Kd.u8 5 w B NoT v bs) (hne : v.ownBlock ≠ some bb) (hB : B ≤ w.heap.size) (hlen : bs.length ≤ 1000000000) (ht : (bits .and .i64 F bit != 0) = t) :
    Calls Tryz.prog 98 #[.int .i64 bit, .int .i64 n, .pointer (some ⟨bf, 0, none⟩), .pointer (some ⟨bb, 0, none⟩)] w fun e w' => e = .returned (.tuple #[]) ∧
      ∃ v', w'.heap[bb]? = some (.cells #[v'] 23 (0, 0)) ∧ Own Kd.u8 5 w' B NoT v' (bs ++ optL t n) ∧ v'.ownBlock ≠ some bb ∧ Mod (fun k => k = bb) w w' := by
  obtain ⟨g1, g2, g3⟩ := cells_of_block hbb
  have c0 := g1 0 v rfl
  have HBB := hid hbb
  have HO := hid hO
  have HNE := hid hne
  clear g1 g2 hbb hO hne
  cases t
  · have ht2 : (bits .and .i64 F bit == 0) = true := by simpa [bne] using ht
    go_enter Tryz.func98, Tryz.ntmps98
    go_wp2
    go_end0
    exact ⟨rfl, v, HBB.out, by simpa [optL] using HO.out, HNE.out, Mod.refl _ _⟩
  · have ht2 : (bits .and .i64 F bit == 0) = false := by simpa [bne] using ht
    go_enter Tryz.func98, Tryz.ntmps98
    go_wp2_with fail
    refine (num_calls bs v n _ (Kd.any (Own.K HO.out)) hlen).mono ?_
    rintro e w1 ⟨A, m, c, rfl, hO1, hb1⟩
    have HO1 := hid hO1
    have HN1 : Hid ((Value.slice A m c).ownBlock ≠ some bb) := fun e => by have := (HO1.out.lt _ e).1; omega
    have hh1 := (hb1.block bb g3).trans HBB.out
    obtain ⟨g1, g2, g3'⟩ := cells_of_block hh1
    have d0 := g1 0 v rfl
    have f0 := g2 0
    have HH1 := hid hh1
    have HB1 := hid hb1
    clear hO1 g1 g2 hh1 hb1 c0
    go_wp2
    go_end0
    exact ⟨rfl, _, heap_set HH1.out 0 _, by simpa [optL] using (HO1.out.lower hB).setCell (p := ⟨bb, 0, none⟩) (fun h => h) (HN1.out) _, HN1.out, Mod.setCell (F := fun k => k = bb) (Mod.of_below HB1.out) (p := ⟨bb, 0, none⟩) (fun _ => rfl) _⟩
theorem callFunc_recPut : ∀ args w, (callFunc 98 args).run Tryz.prog w = .ok (.enter 98 args) w := by
  intro args w
  kernel_rfl

/-- A variable of bytes in a cell. -/
def VarB (B : Nat) (w : World) (s : Value) (bs : List UInt8) : Prop := ∃ bb v, s = .pointer (some ⟨bb, 0, none⟩) ∧ B ≤ bb ∧ w.heap[bb]? = some (.cells #[v] 23 (0, 0)) ∧ Own Kd.u8 5 w B NoT v bs ∧ v.ownBlock ≠ some bb
def recHead (x : RecS) : List UInt8 := numL (clampN x.kind) ++ numL (clampN x.job) ++ optL (hasF x.kind 1) x.task ++ optL (hasF x.kind 2) x.worker ++ optL (hasF x.kind 4) x.sched ++ optL (hasF x.kind 8) x.epoch ++ optL (hasF x.kind 16) x.needs.length
def recL (x : RecS) : List UInt8 := if recOk x then recHead x ++ x.needs.flatMap (fun s => textL s.data.toList) else []
theorem recHead_len (x : RecS) : (recHead x).length ≤ 56 := by
  unfold recHead
  have h1 := numL_len_le (clampN_le x.kind)
  have h2 := numL_len_le (clampN_le x.job)
  have h3 := optL_len (hasF x.kind 1) x.task
  have h4 := optL_len (hasF x.kind 2) x.worker
  have h5 := optL_len (hasF x.kind 4) x.sched
  have h6 := optL_len (hasF x.kind 8) x.epoch
  have h7 := optL_len (hasF x.kind 16) x.needs.length
  simp only [List.length_append]
  omega
theorem recOk_needs {x : RecS} (h : recOk x = true) : x.needs.length ≤ 16 ∧ ∀ s ∈ x.needs, s.size ≤ 200 := by
  simp only [recOk, Bool.and_eq_true, List.all_eq_true, decide_eq_true_eq] at h
  refine ⟨?_, fun s hs => by have := h.2 s hs; omega⟩
  have h1 := h.1.2
  unfold inB at h1
  split at h1 <;> simp at h1
  · omega
  · simp [h1]
set_option maxHeartbeats 3200000 in
set_option maxRecDepth 100000 in
theorem recBytes_no (x : RecS) (A : Option Addr) (n c : Nat) (w : World) (hn : Kd.str.slice.K w Any x.needs [.slice A n c]) (hok : recOk x = false) :
    Calls Tryz.prog 77 #[.agg #[.int .i64 x.kind, .int .i64 x.job, .int .i64 x.task, .int .i64 x.worker, .int .i64 x.sched, .int .i64 x.epoch, .slice A n c]] w fun e w' => e = .returned (.slice none 0 0) ∧ Below w.heap.size w w' := by
  have HK := hid hn
  clear hn
  go_enter Tryz.func77, Tryz.ntmps77
  go_wp2_with fail
  refine (recCheck_calls x A n c _ (Kd.below HK.out (bAlloc (Below.refl _ _) _))).mono ?_
  rintro e w1 ⟨rfl, hb1⟩
  rw [hok]
  go_wp2
  go_ret
  exact ⟨rfl, bThen (bAlloc (Below.refl _ _) _) hb1⟩

set_option maxHeartbeats 6400000 in
set_option maxRecDepth 100000 in
theorem recBytes_yes (x : RecS) (A : Option Addr) (n c : Nat) (w : World) (hn : Kd.str.slice.K w Any x.needs [.slice A n c]) (hok : recOk x = true) :
    Calls Tryz.prog 77 #[.agg #[.int .i64 x.kind, .int .i64 x.job, .int .i64 x.task, .int .i64 x.worker, .int .i64 x.sched, .int .i64 x.epoch, .slice A n c]] w fun e w' => ∃ A m c, e = .returned (.slice A m c) ∧ Own Kd.u8 5 w' w.heap.size NoT (.slice A m c) (recL x) ∧ Below w.heap.size w w' := by
  obtain ⟨hn16, hn200⟩ := recOk_needs hok
  have HL := hid (show recL x = recHead x ++ x.needs.flatMap (fun s => textL s.data.toList) by unfold recL; rw [if_pos hok])
  have HK := hid hn
  obtain ⟨A', c', he, hc, hm, hr⟩ := hn
  have hnl : x.needs.length = n := by injection he with h; injection h with _ h _; exact h.symm
  have hr2 : Kd.str.Row w Any A x.needs := by cases he; exact hr
  rw [hnl] at hn16
  have HR := hid hr2
  have HN := hid hnl
  have HN2 := hid hn200
  clear he hc hm hr hr2 hnl hn200
  have HFF := hid (show (bits .and .i64 (fieldsF x.kind) 1 != 0) = hasF x.kind 1 ∧ (bits .and .i64 (fieldsF x.kind) 2 != 0) = hasF x.kind 2 ∧ (bits .and .i64 (fieldsF x.kind) 4 != 0) = hasF x.kind 4 ∧ (bits .and .i64 (fieldsF x.kind) 8 != 0) = hasF x.kind 8 ∧ (bits .and .i64 (fieldsF x.kind) 16 != 0) = hasF x.kind 16 from ⟨rfl, rfl, rfl, rfl, rfl⟩)
  have hmf := makeFunc_run Tryz.prog
  go_enter Tryz.func77, Tryz.ntmps77
  go_wp2_with fail
  refine (recCheck_calls x A n c _ (Kd.below HK.out (bAlloc (Below.refl _ _) _))).mono ?_
  rintro e w1 ⟨rfl, hb1⟩
  rw [hok]
  have b1 := bThen (bAlloc (Below.refl _ _) _) hb1
  have hx1 : w1.heap[w.heap.size]? = some (.cells #[.int .i64 x.kind, .int .i64 x.job, .int .i64 x.task, .int .i64 x.worker, .int .i64 x.sched, .int .i64 x.epoch, .slice A n c] 46 (0, 0)) := (hb1.block _ (by simp)).trans (heap_at rfl)
  have hs1 : w.heap.size < w1.heap.size := (Array.getElem?_eq_some_iff.1 hx1).1
  obtain ⟨q1, _, _⟩ := cells_of_block hx1
  have x0 := q1 0 _ rfl
  have HX1 := hid hx1
  clear q1 hx1 hb1
  go_wp2_with fail
  refine (fields_calls x.kind _).mono ?_
  rintro e w2 ⟨rfl, rfl⟩
  go_wp2_with fail
  obtain ⟨w3, hw3⟩ : ∃ w3, w3 = w1.alloc (Obj.cells #[.int .i64 (fieldsF x.kind)] 3) := ⟨_, rfl⟩
  have b3 : Below w.heap.size w w3 := by rw [hw3]; exact bAlloc b1 _
  have hx3 : w3.heap[w.heap.size]? = some (.cells #[.int .i64 x.kind, .int .i64 x.job, .int .i64 x.task, .int .i64 x.worker, .int .i64 x.sched, .int .i64 x.epoch, .slice A n c] 46 (0, 0)) := by rw [hw3]; exact heap_old hs1 HX1.out
  have hf3 : w3.heap[w1.heap.size]? = some (.cells #[.int .i64 (fieldsF x.kind)] 3 (0, 0)) := by rw [hw3]; exact heap_at rfl
  have hs3 : w1.heap.size < w3.heap.size := by rw [hw3]; simp
  rw [← hw3]
  obtain ⟨q1, _, _⟩ := cells_of_block hx3
  have c1 := q1 0 _ rfl
  have c2 := q1 1 _ rfl
  have HX3 := hid hx3
  have HF3 := hid hf3
  have HK0 : Hid (∀ w, Kd.u8.slice.K w Any [] [.slice none 0 0]) := fun w => ⟨none, 0, rfl, by simp, by simp, Kd.Row.nil⟩
  have h8 : ([] : List UInt8).length ≤ 1000000000 := by simp
  have h9 : ([] ++ numL (clampN x.kind)).length ≤ 1000000000 := by have := numL_len_le (clampN_le x.kind); simp; omega
  clear q1 hx3 hf3 hw3 x0
  go_upto_region 4 with fail
  go_cut [5] (fun s5 wx => VarB w3.heap.size wx s5 (numL (clampN x.kind) ++ numL (clampN x.job)) ∧ Below w3.heap.size w3 wx)
  case first =>
    go_region_held3 (fun w' => w'.cell? ⟨w.heap.size, 0, none⟩ = some (.int .i64 x.kind) ∧ w'.cell? ⟨w.heap.size, 1, none⟩ = some (.int .i64 x.job)) (first | exact ⟨c1, c2⟩ | exact ⟨d1, d2⟩ | exact ⟨e1, e2⟩ | exact ⟨cell_set_ne (b := ⟨w4.heap.size, 0, none⟩) (Nat.ne_of_lt (Nat.lt_of_lt_of_le (Nat.lt_trans hs1 hs3) hz4)) e1, cell_set_ne (b := ⟨w4.heap.size, 0, none⟩) (Nat.ne_of_lt (Nat.lt_of_lt_of_le (Nat.lt_trans hs1 hs3) hz4)) e2⟩ | exact ⟨cell_set_ne (b := ⟨w3.heap.size, 0, none⟩) (Nat.ne_of_lt (Nat.lt_trans hs1 hs3)) e1, cell_set_ne (b := ⟨w3.heap.size, 0, none⟩) (Nat.ne_of_lt (Nat.lt_trans hs1 hs3)) e2⟩ | go_keep) (first
      | ((with_reducible refine (num_calls [] (.slice none 0 0) x.kind _ (HK0.out _) h8).mono ?_); rintro e w4 ⟨A4, m4, c4, rfl, hO4, hb4⟩; have d1 := cell_keep hb4 (cell_keep (by repeat (first | exact Below.refl _ _ | exact bAlloc (Below.refl _ _) _ | exact (Below.refl _ _).drew | exact bAlloc (Below.refl _ _).drew _)) c1); have d2 := cell_keep hb4 (cell_keep (by repeat (first | exact Below.refl _ _ | exact bAlloc (Below.refl _ _) _ | exact (Below.refl _ _).drew | exact bAlloc (Below.refl _ _).drew _)) c2); have HO4 := hid hO4; clear hO4; obtain ⟨qc4, qf4⟩ := bcell hb4; have hzr := hb4.size; (try simp at hzr); have hz4 : w3.heap.size ≤ w4.heap.size := by (have hzz := hb4.size; first | exact hzz | (simp at hzz; omega)))
      | ((with_reducible refine (num_calls ([] ++ numL (clampN x.kind)) (.slice A4 m4 c4) x.job _ (Kd.below (Kd.any (Own.K HO4.out)) (by repeat (first | exact Below.refl _ _ | exact bAlloc (Below.refl _ _) _))) h9).mono ?_); rintro e w5 ⟨A5, m5, c5, rfl, hO5, hb5⟩; have e1 := cell_keep hb5 (cell_keep (by repeat (first | exact Below.refl _ _ | exact bAlloc (Below.refl _ _) _)) d1); have e2 := cell_keep hb5 (cell_keep (by repeat (first | exact Below.refl _ _ | exact bAlloc (Below.refl _ _) _)) d2); have HO5 := hid hO5; clear hO5; obtain ⟨qc5, qf5⟩ := bcell hb5; have hz5 := hb5.size; (try have hz5a : w3.heap.size < w4.heap.size := by omega); (try have f5 : w5.cell? ⟨w3.heap.size, 0, none⟩ = some (.slice none 0 0) := by (rw [qc5 _ _ (by omega), qc4 _ _ (by simp)]; simp [go_sem])); (try have f6 : w5.frozen? ⟨w3.heap.size, 0, none⟩ = false := by (rw [qf5 _ _ (by omega), qf4 _ _ (by simp)]; simp [go_sem])))
      | fail)
    · go_wp2_with fail
      go_meet
      have hA : Below w3.heap.size w3 w5 := bThen (bThen (Below.refl w3.heap.size w3).drew hb4) hb5
      have hB := b3.size
      have hC := hA.size
      exact ⟨⟨w5.heap.size, _, rfl, by omega, heap_at rfl, by simpa using (HO5.out.lower (by omega)).alloc _, fun e => by have := (HO5.out.lt _ e).2; omega⟩, bAlloc hA _⟩
    · go_wp2_with fail
      go_meet
      have hA : Below w3.heap.size w3 w5 := bThen (bAlloc (bThen (Below.refl w3.heap.size w3).drew hb4) _) hb5
      have hB := b3.size
      have hC := hA.size
      have hN : (Value.slice A5 m5 c5).ownBlock ≠ some w4.heap.size := fun e => by have := (HO5.out.lt _ e).1; first | omega | (simp at this; omega)
      exact ⟨⟨w4.heap.size, _, rfl, by omega, heap_set ((hb5.block _ (by simp)).trans (heap_at rfl)) 0 _, by simpa using (HO5.out.lower (by simp; omega)).setCell (p := ⟨w4.heap.size, 0, none⟩) (fun h => h) hN _, hN⟩, hA.setCell (p := ⟨w4.heap.size, 0, none⟩) hz4 _⟩
    · go_wp2_with fail
      go_meet
      have hA : Below w3.heap.size w3 w5 := bThen (bThen (bAlloc (Below.refl w3.heap.size w3).drew _) hb4) hb5
      have hB := b3.size
      have hC := hA.size
      have hN : (Value.slice A5 m5 c5).ownBlock ≠ some w3.heap.size := fun e => by have := (HO5.out.lt _ e).1; omega
      exact ⟨⟨w3.heap.size, _, rfl, by omega, heap_set ((hb5.block _ hz5a).trans ((hb4.block _ (by simp)).trans (heap_at rfl))) 0 _, by simpa using (HO5.out.lower (by omega)).setCell (p := ⟨w3.heap.size, 0, none⟩) (fun h => h) hN _, hN⟩, hA.setCell (p := ⟨w3.heap.size, 0, none⟩) (Nat.le_refl _) _⟩
  case rest =>
    obtain ⟨⟨bb, v0, rfl, hbb, hh0, hO0, hne0⟩, hbw0⟩ := hcut
    have hl0 : (numL (clampN x.kind) ++ numL (clampN x.job)).length ≤ 16 := by
      have h1 := numL_len_le (clampN_le x.kind)
      have h2 := numL_len_le (clampN_le x.job)
      rw [List.length_append]; omega
    obtain ⟨L0, hL0⟩ : ∃ L0, L0 = numL (clampN x.kind) ++ numL (clampN x.job) := ⟨_, rfl⟩
    rw [← hL0] at hl0 hO0
    have HL0 := hid hL0
    have hbx : w.heap.size ≠ bb := by omega
    have hbf : w1.heap.size ≠ bb := by omega
    have hbb2 : w.heap.size ≤ bb := by omega
    replace hO0 := hO0.lower b3.size
    have hw0 := Nat.le_trans b3.size hbw0.size
    have B0 := hid (bThen b3 hbw0)
    have X0 := hid ((hbw0.block _ (Nat.lt_trans hs1 hs3)).trans HX3.out)
    have F0 := hid ((hbw0.block _ hs3).trans HF3.out)
    have HO0 := hid hO0
    have HH0 := hid hh0
    have HNE0 := hid hne0
    clear c1 c2 hL0 hO0 hh0 hne0 hbw0
    have k0 := (cells_of_block X0.out).1 2 _ rfl
    have kf0 := (cells_of_block F0.out).1 0 _ rfl
    have kb0 := (cells_of_block HH0.out).1 0 _ rfl
    go_wp2_with fail
    refine (recPut_calls (fieldsF x.kind) x.task 1 (hasF x.kind 1) w1.heap.size bb L0 v0 _ kf0 HH0.out w.heap.size HO0.out HNE0.out hw0 (by omega) HFF.out.1).mono ?_
    rintro e y1 ⟨rfl, v1, hh1, hO1, hne1, hm1⟩
    have hl1 : (L0 ++ optL (hasF x.kind 1) x.task).length ≤ 24 := by have := optL_len (hasF x.kind 1) x.task; rw [List.length_append]; omega
    obtain ⟨L1, hL1⟩ : ∃ L, L = L0 ++ optL (hasF x.kind 1) x.task := ⟨_, rfl⟩
    rw [← hL1] at hl1 hO1
    have HL1 := hid hL1
    have hw1 := Nat.le_trans hw0 hm1.size
    have B1 := hid (below_mod B0.out hm1 (fun i hi => by rw [hi]; exact hbb2) hw0)
    have X1 := hid ((hm1.block _ (Array.getElem?_eq_some_iff.1 X0.out).1 hbx).trans X0.out)
    have F1 := hid ((hm1.block _ (Array.getElem?_eq_some_iff.1 F0.out).1 hbf).trans F0.out)
    have HO1 := hid hO1
    have HH1 := hid hh1
    have HNE1 := hid hne1
    clear k0 kf0 kb0 hL1 hO1 hh1 hne1 hm1
    have k1 := (cells_of_block X1.out).1 3 _ rfl
    have kf1 := (cells_of_block F1.out).1 0 _ rfl
    have kb1 := (cells_of_block HH1.out).1 0 _ rfl
    go_wp2_with fail
    refine (recPut_calls (fieldsF x.kind) x.worker 2 (hasF x.kind 2) w1.heap.size bb L1 v1 _ kf1 HH1.out w.heap.size HO1.out HNE1.out hw1 (by omega) HFF.out.2.1).mono ?_
    rintro e y2 ⟨rfl, v2, hh2, hO2, hne2, hm2⟩
    have hl2 : (L1 ++ optL (hasF x.kind 2) x.worker).length ≤ 32 := by have := optL_len (hasF x.kind 2) x.worker; rw [List.length_append]; omega
    obtain ⟨L2, hL2⟩ : ∃ L, L = L1 ++ optL (hasF x.kind 2) x.worker := ⟨_, rfl⟩
    rw [← hL2] at hl2 hO2
    have HL2 := hid hL2
    have hw2 := Nat.le_trans hw1 hm2.size
    have B2 := hid (below_mod B1.out hm2 (fun i hi => by rw [hi]; exact hbb2) hw1)
    have X2 := hid ((hm2.block _ (Array.getElem?_eq_some_iff.1 X1.out).1 hbx).trans X1.out)
    have F2 := hid ((hm2.block _ (Array.getElem?_eq_some_iff.1 F1.out).1 hbf).trans F1.out)
    have HO2 := hid hO2
    have HH2 := hid hh2
    have HNE2 := hid hne2
    clear k1 kf1 kb1 hL2 hO2 hh2 hne2 hm2
    have k2 := (cells_of_block X2.out).1 4 _ rfl
    have kf2 := (cells_of_block F2.out).1 0 _ rfl
    have kb2 := (cells_of_block HH2.out).1 0 _ rfl
    go_wp2_with fail
    refine (recPut_calls (fieldsF x.kind) x.sched 4 (hasF x.kind 4) w1.heap.size bb L2 v2 _ kf2 HH2.out w.heap.size HO2.out HNE2.out hw2 (by omega) HFF.out.2.2.1).mono ?_
    rintro e y3 ⟨rfl, v3, hh3, hO3, hne3, hm3⟩
    have hl3 : (L2 ++ optL (hasF x.kind 4) x.sched).length ≤ 40 := by have := optL_len (hasF x.kind 4) x.sched; rw [List.length_append]; omega
    obtain ⟨L3, hL3⟩ : ∃ L, L = L2 ++ optL (hasF x.kind 4) x.sched := ⟨_, rfl⟩
    rw [← hL3] at hl3 hO3
    have HL3 := hid hL3
    have hw3 := Nat.le_trans hw2 hm3.size
    have B3 := hid (below_mod B2.out hm3 (fun i hi => by rw [hi]; exact hbb2) hw2)
    have X3 := hid ((hm3.block _ (Array.getElem?_eq_some_iff.1 X2.out).1 hbx).trans X2.out)
    have F3 := hid ((hm3.block _ (Array.getElem?_eq_some_iff.1 F2.out).1 hbf).trans F2.out)
    have HO3 := hid hO3
    have HH3 := hid hh3
    have HNE3 := hid hne3
    clear k2 kf2 kb2 hL3 hO3 hh3 hne3 hm3
    have k3 := (cells_of_block X3.out).1 5 _ rfl
    have kf3 := (cells_of_block F3.out).1 0 _ rfl
    have kb3 := (cells_of_block HH3.out).1 0 _ rfl
    go_wp2_with fail
    refine (recPut_calls (fieldsF x.kind) x.epoch 8 (hasF x.kind 8) w1.heap.size bb L3 v3 _ kf3 HH3.out w.heap.size HO3.out HNE3.out hw3 (by omega) HFF.out.2.2.2.1).mono ?_
    rintro e y4 ⟨rfl, v4, hh4, hO4, hne4, hm4⟩
    have hl4 : (L3 ++ optL (hasF x.kind 8) x.epoch).length ≤ 48 := by have := optL_len (hasF x.kind 8) x.epoch; rw [List.length_append]; omega
    obtain ⟨L4, hL4⟩ : ∃ L, L = L3 ++ optL (hasF x.kind 8) x.epoch := ⟨_, rfl⟩
    rw [← hL4] at hl4 hO4
    have HL4 := hid hL4
    have hw4 := Nat.le_trans hw3 hm4.size
    have B4 := hid (below_mod B3.out hm4 (fun i hi => by rw [hi]; exact hbb2) hw3)
    have X4 := hid ((hm4.block _ (Array.getElem?_eq_some_iff.1 X3.out).1 hbx).trans X3.out)
    have F4 := hid ((hm4.block _ (Array.getElem?_eq_some_iff.1 F3.out).1 hbf).trans F3.out)
    have HO4 := hid hO4
    have HH4 := hid hh4
    have HNE4 := hid hne4
    clear k3 kf3 kb3 hL4 hO4 hh4 hne4 hm4
    have k4 := (cells_of_block X4.out).1 6 _ rfl
    have kf4 := (cells_of_block F4.out).1 0 _ rfl
    have kb4 := (cells_of_block HH4.out).1 0 _ rfl
    go_wp2_with fail
    refine (recPut_calls (fieldsF x.kind) (n : Int) 16 (hasF x.kind 16) w1.heap.size bb L4 v4 _ kf4 HH4.out w.heap.size HO4.out HNE4.out hw4 (by omega) HFF.out.2.2.2.2).mono ?_
    rintro e y5 ⟨rfl, v5, hh5, hO5, hne5, hm5⟩
    have hl5 : (L4 ++ optL (hasF x.kind 16) (n : Int)).length ≤ 56 := by have := optL_len (hasF x.kind 16) (n : Int); rw [List.length_append]; omega
    obtain ⟨L5, hL5⟩ : ∃ L, L = L4 ++ optL (hasF x.kind 16) (n : Int) := ⟨_, rfl⟩
    rw [← hL5] at hl5 hO5
    have HL5 := hid hL5
    have hw5 := Nat.le_trans hw4 hm5.size
    have B5 := hid (below_mod B4.out hm5 (fun i hi => by rw [hi]; exact hbb2) hw4)
    have X5 := hid ((hm5.block _ (Array.getElem?_eq_some_iff.1 X4.out).1 hbx).trans X4.out)
    have F5 := hid ((hm5.block _ (Array.getElem?_eq_some_iff.1 F4.out).1 hbf).trans F4.out)
    have HO5 := hid hO5
    have HH5 := hid hh5
    have HNE5 := hid hne5
    clear k4 kf4 kb4 hL5 hO5 hh5 hne5 hm5
    have k5 := (cells_of_block X5.out).1 6 _ rfl
    go_wp2_with fail
    go_loopw [49] (fun i wr => ∃ (k : Nat) (v : Value), k ≤ n ∧ i = .int .i64 k ∧ Hid (wr.heap[bb]? = some (.cells #[v] 23 (0, 0))) ∧ Hid (Own Kd.u8 5 wr w.heap.size NoT v (L5 ++ (x.needs.take k).flatMap (fun s => textL s.data.toList))) ∧ Hid (v.ownBlock ≠ some bb) ∧ Hid (Below w.heap.size w wr)) (fun i _ => n - (intOf i).toNat)
    case atStart => exact ⟨0, v5, by omega, rfl, HH5, hid (by simpa using HO5.out), HNE5, B5⟩
    case round =>
      obtain ⟨k, v, hk, rfl, HH, HO, HNE, HB⟩ := hrel
      have hbs := HB.out.size
      by_cases hlt : k < n
      · obtain ⟨a, s, rfl, hs, hcs⟩ := Kd.Row.at_str (HR.out.below HB.out) k (by rw [HN.out]; exact hlt)
        have HS := hid hs
        have hsz := HN2.out s (List.mem_of_getElem? hs)
        have kb := (cells_of_block HH.out).1 0 _ rfl
        have hll := needs_len (l := x.needs.take k) (fun s hs => HN2.out s (List.mem_of_mem_take hs))
        have htl : (x.needs.take k).length ≤ k := List.length_take_le _ _
        have hlen : (L5 ++ (x.needs.take k).flatMap (fun s => textL s.data.toList)).length ≤ 1000000000 := by rw [List.length_append]; omega
        clear hs hll htl
        go_wp2_with fail
        refine (text_calls _ _ s _ (Kd.any (Own.K HO.out)) hlen (by omega)).mono ?_
        rintro e wd ⟨A6, m6, c6, rfl, hO6, hb6⟩
        have HO6 := hid hO6
        have hh6 := (hb6.block bb (Array.getElem?_eq_some_iff.1 HH.out).1).trans HH.out
        obtain ⟨q1, q2, q3⟩ := cells_of_block hh6
        have d0 := q1 0 _ rfl
        have f0 := q2 0
        have HH6 := hid hh6
        have HN6 : Hid ((Value.slice A6 m6 c6).ownBlock ≠ some bb) := fun e => by have := (HO6.out.lt _ e).1; have := (Array.getElem?_eq_some_iff.1 HH.out).1; omega
        have HBD := hid (bThen HB.out hb6)
        have HA := hid (show (x.needs.take (k + 1)).flatMap (fun s => textL s.data.toList) = (x.needs.take k).flatMap (fun s => textL s.data.toList) ++ textL s.data.toList by rw [take_snoc HS.out]; simp)
        clear q1 q2 hh6 hO6 hb6 kb hcs
        go_wp2
        go_roundw
        case rel => exact ⟨k + 1, _, by omega, by go_num, heap_set HH6.out 0 _, by rw [HA.out]; simpa [Hid] using (HO6.out.lower hbs).setCell (p := ⟨bb, 0, none⟩) (fun h => h) HN6.out _, HN6, HBD.out.setCell (p := ⟨bb, 0, none⟩) hbb2 _⟩
        case measure => simp [intOf]; omega
      · obtain rfl : k = n := by omega
        have kb := (cells_of_block HH.out).1 0 _ rfl
        obtain ⟨A6, m6, c6, rfl, hq1, hq2⟩ := HO.out.shape'
        clear hq1 hq2
        have HA := hid (show x.needs.take k = x.needs by rw [← HN.out]; exact List.take_length)
        have HFIN := hid (show recL x = L5 ++ x.needs.flatMap (fun s => textL s.data.toList) by
          rw [HL.out, HL5.out, HL4.out, HL3.out, HL2.out, HL1.out, HL0.out]; unfold recHead; rw [HN.out])
        go_wp2
        go_ret
        have hfin := HO.out
        rw [HA.out] at hfin
        exact ⟨_, _, _, rfl, by rw [HFIN.out]; exact hfin, HB.out⟩

theorem recBytes_calls (x : RecS) (A : Option Addr) (n c : Nat) (w : World) (hn : Kd.str.slice.K w Any x.needs [.slice A n c]) :
    Calls Tryz.prog 77 #[.agg #[.int .i64 x.kind, .int .i64 x.job, .int .i64 x.task, .int .i64 x.worker, .int .i64 x.sched, .int .i64 x.epoch, .slice A n c]] w fun e w' => ∃ A m c, e = .returned (.slice A m c) ∧ Own Kd.u8 5 w' w.heap.size NoT (.slice A m c) (recL x) ∧ Below w.heap.size w w' := by
  cases h : recOk x
  · refine (recBytes_no x A n c w hn h).mono (fun e w' h1 => ⟨none, 0, 0, h1.1, ?_, h1.2⟩)
    have : recL x = [] := by unfold recL; rw [h]; rfl
    rw [this]
    exact Own.nil _ _ _ _ _
  · exact recBytes_yes x A n c w hn h
end Go.Proofs.YtkjncmmombkllaaGreat
