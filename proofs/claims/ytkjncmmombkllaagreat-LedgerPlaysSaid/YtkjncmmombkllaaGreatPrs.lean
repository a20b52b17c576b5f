import Derived.Test.YtkjncmmombkllaaGreatRds
import Derived.Test.YtkjncmmombkllaaGreatPrp
import Derived.Test.YtkjncmmombkllaaGreatBase
import Derived.Deep.RegionLaw
namespace Go.Proofs.YtkjncmmombkllaaGreat
open Go.RowKit

def zRec : Array Value := #[.int .i64 0, .int .i64 0, .int .i64 0, .int .i64 0, .int .i64 0, .int .i64 0, .slice none 0 0]
/-- While a record is read: rb the result's cells, g the reader (its bytes in between, below B), gx the record's cells. -/
def PrI (rb B g gx : Nat) (w W : World) (R : RdS) (cs : Array Value) : Prop :=
  W.heap[rb]? = some (.cells zRec 46 (0, 0)) ∧ RdAt W (fun k => rb < k ∧ k < B) g R ∧ W.heap[gx]? = some (.cells cs 46 (0, 0)) ∧ Below rb w W ∧ B ≤ gx
section
variable {rb B g gx : Nat} {w W W' : World} {R R' : RdS} {cs : Array Value}
theorem PrI.call (h : PrI rb B g gx w W R cs) (hA : RdAt W' (fun k => rb < k ∧ k < B) g R') (hM : Mod (fun k => k = g) W W') : PrI rb B g gx w W' R' cs := by
  obtain ⟨h1, h2, h3, h4, h5⟩ := h
  have hg := h2.1
  have l1 := (Array.getElem?_eq_some_iff.1 h1).1
  have l3 := (Array.getElem?_eq_some_iff.1 h3).1
  exact ⟨(hM.block rb l1 (by omega)).trans h1, hA, (hM.block gx l3 (by omega)).trans h3, h4.trans (hM.below (fun k _ hk => by subst hk; omega) (by omega)), h5⟩
theorem PrI.set (h : PrI rb B g gx w W R cs) (i : Nat) (u : Value) : PrI rb B g gx w (W.setCell ⟨gx, i, none⟩ u) R (cs.setIfInBounds i u) := by
  obtain ⟨h1, h2, h3, h4, h5⟩ := h
  have hg := h2.1
  exact ⟨(Below.heap_setCell W ⟨gx, i, none⟩ u rb (show rb ≠ gx by omega)).trans h1, h2.move (fun k hk hT => Below.heap_setCell W ⟨gx, i, none⟩ u k (show k ≠ gx by omega)), heap_set h3 i u, h4.setCell (show rb ≤ gx by omega) u, h5⟩
theorem PrI.above (h : PrI rb B g gx w W R cs) (hb : Below (gx + 1) W W') : PrI rb B g gx w W' R cs := by
  obtain ⟨h1, h2, h3, h4, h5⟩ := h
  have hg := h2.1
  exact ⟨(hb.block rb (by omega)).trans h1, h2.move (fun k hk hT => hb.block k (by omega)), (hb.block gx (by omega)).trans h3, h4.trans (hb.mono (by omega)), h5⟩
theorem PrI.rd (h : PrI rb B g gx w W R cs) : RdAt W (fun k => rb < k ∧ k < B) g R := h.2.1
theorem PrI.cell (h : PrI rb B g gx w W R cs) (i : Nat) (u : Value) (hu : cs[i]? = some u) : W.cell? ⟨gx, i, none⟩ = some u := (cells_of_block h.2.2.1).1 i u hu
theorem PrI.froz (h : PrI rb B g gx w W R cs) (i : Nat) : W.frozen? ⟨gx, i, none⟩ = false := (cells_of_block h.2.2.1).2.1 i
theorem PrI.lt (h : PrI rb B g gx w W R cs) : gx < W.heap.size := (cells_of_block h.2.2.1).2.2
theorem PrI.rcell (h : PrI rb B g gx w W R cs) (i : Nat) (u : Value) (hu : zRec[i]? = some u) : W.cell? ⟨rb, i, none⟩ = some u := (cells_of_block h.1).1 i u hu
theorem PrI.rfroz (h : PrI rb B g gx w W R cs) (i : Nat) : W.frozen? ⟨rb, i, none⟩ = false := (cells_of_block h.1).2.1 i
theorem PrI.rlt (h : PrI rb B g gx w W R cs) : rb < W.heap.size := (cells_of_block h.1).2.2
theorem PrI.ne (h : PrI rb B g gx w W R cs) : rb ≠ gx := by
  have := h.2.1.1; have := h.2.2.2.2; omega
end
/-- A record is laid into the result's cells. -/
theorem set7 {W : World} {rb : Nat} (h : W.heap[rb]? = some (.cells zRec 46 (0, 0))) (v0 v1 v2 v3 v4 v5 v6 : Value) :
    ∃ W', W' = (((((((W.setCell ⟨rb, 0, none⟩ v0).setCell ⟨rb, 1, none⟩ v1).setCell ⟨rb, 2, none⟩ v2).setCell ⟨rb, 3, none⟩ v3).setCell ⟨rb, 4, none⟩ v4).setCell ⟨rb, 5, none⟩ v5).setCell ⟨rb, 6, none⟩ v6) ∧
      W'.cell? ⟨rb, 0, none⟩ = some v0 ∧ W'.cell? ⟨rb, 1, none⟩ = some v1 ∧ W'.cell? ⟨rb, 2, none⟩ = some v2 ∧ W'.cell? ⟨rb, 3, none⟩ = some v3 ∧ W'.cell? ⟨rb, 4, none⟩ = some v4 ∧ W'.cell? ⟨rb, 5, none⟩ = some v5 ∧ W'.cell? ⟨rb, 6, none⟩ = some v6 ∧
      Below rb W W' ∧ ∀ k, k ≠ rb → W'.heap[k]? = W.heap[k]? := by
  have g0 := heap_set h 0 v0
  have g1 := heap_set g0 1 v1
  have g2 := heap_set g1 2 v2
  have g3 := heap_set g2 3 v3
  have g4 := heap_set g3 4 v4
  have g5 := heap_set g4 5 v5
  have g6 := heap_set g5 6 v6
  have e : (((((((zRec.setIfInBounds 0 v0).setIfInBounds 1 v1).setIfInBounds 2 v2).setIfInBounds 3 v3).setIfInBounds 4 v4).setIfInBounds 5 v5).setIfInBounds 6 v6) = #[v0, v1, v2, v3, v4, v5, v6] := by simp [zRec]
  rw [e] at g6
  clear g0 g1 g2 g3 g4 g5 e
  have b0 := (Below.refl rb W).setCell (p := ⟨rb, 0, none⟩) (Nat.le_refl _) v0
  have b1 := b0.setCell (p := ⟨rb, 1, none⟩) (Nat.le_refl _) v1
  have b2 := b1.setCell (p := ⟨rb, 2, none⟩) (Nat.le_refl _) v2
  have b3 := b2.setCell (p := ⟨rb, 3, none⟩) (Nat.le_refl _) v3
  have b4 := b3.setCell (p := ⟨rb, 4, none⟩) (Nat.le_refl _) v4
  have b5 := b4.setCell (p := ⟨rb, 5, none⟩) (Nat.le_refl _) v5
  have b6 := b5.setCell (p := ⟨rb, 6, none⟩) (Nat.le_refl _) v6
  clear b0 b1 b2 b3 b4 b5
  have n6 : ∀ k, k ≠ rb → (((((((W.setCell ⟨rb, 0, none⟩ v0).setCell ⟨rb, 1, none⟩ v1).setCell ⟨rb, 2, none⟩ v2).setCell ⟨rb, 3, none⟩ v3).setCell ⟨rb, 4, none⟩ v4).setCell ⟨rb, 5, none⟩ v5).setCell ⟨rb, 6, none⟩ v6).heap[k]? = W.heap[k]? := fun k hk => by
    rw [Below.heap_setCell _ ⟨rb, 6, none⟩ _ k hk, Below.heap_setCell _ ⟨rb, 5, none⟩ _ k hk, Below.heap_setCell _ ⟨rb, 4, none⟩ _ k hk, Below.heap_setCell _ ⟨rb, 3, none⟩ _ k hk, Below.heap_setCell _ ⟨rb, 2, none⟩ _ k hk, Below.heap_setCell _ ⟨rb, 1, none⟩ _ k hk, Below.heap_setCell _ ⟨rb, 0, none⟩ _ k hk]
  obtain ⟨W', hW⟩ : ∃ W', W' = (((((((W.setCell ⟨rb, 0, none⟩ v0).setCell ⟨rb, 1, none⟩ v1).setCell ⟨rb, 2, none⟩ v2).setCell ⟨rb, 3, none⟩ v3).setCell ⟨rb, 4, none⟩ v4).setCell ⟨rb, 5, none⟩ v5).setCell ⟨rb, 6, none⟩ v6) := ⟨_, rfl⟩
  rw [← hW] at g6 b6 n6
  obtain ⟨q, _, _⟩ := cells_of_block g6
  exact ⟨W', hW, q 0 v0 rfl, q 1 v1 rfl, q 2 v2 rfl, q 3 v3 rfl, q 4 v4 rfl, q 5 v5 rfl, q 6 v6 rfl, b6, n6⟩
theorem RdS.opt_t (R : RdS) (most : Int) : R.opt true most = R.num most := rfl
theorem RdS.opt_f (R : RdS) (most : Int) : R.opt false most = (0, R) := rfl
theorem RdS.optLeast_t (R : RdS) (most : Int) : R.optLeast true most = R.least most := rfl
theorem RdS.optLeast_f (R : RdS) (most : Int) : R.optLeast false most = (0, R) := rfl
end Go.Proofs.YtkjncmmombkllaaGreat
namespace Go.Proofs.YtkjncmmombkllaaGreat
open Go.RowKit

set_option maxHeartbeats 6400000 in
set_option maxRecDepth 100000 in
theorem recParse_0 (b : List UInt8) (v : Value) (w : World) (hb : Kd.u8.slice.K w Any b [v]) (hl : b.length ≤ 1000000) (hk : (pA1 b).1 = 0) :
    Calls Tryz.prog 66 #[v] w fun e w' => ∃ A n c, e = .returned (.tuple #[.agg #[.int .i64 (parseR b).kind, .int .i64 (parseR b).job, .int .i64 (parseR b).task, .int .i64 (parseR b).worker, .int .i64 (parseR b).sched, .int .i64 (parseR b).epoch, .slice A n c], .int .i64 (parseE b)]) ∧ Kd.str.slice.K w' (fun k => w.heap.size ≤ k) (parseR b).needs [.slice A n c] ∧ Below w.heap.size w w' := by
  have HB := hid hb
  clear hb
  obtain ⟨p1, h1⟩ : ∃ p, p = pA1 b := ⟨_, rfl⟩
  rw [← h1] at hk
  obtain ⟨p2, h2⟩ : ∃ p : Int × RdS, p = p1.2.least 72057594037927935 := ⟨_, rfl⟩
  have q2 : pA2 b = p2 := by unfold pA2; rw [← h1]; exact h2.symm
  have t3 : hasF 0 1 = false := by decide +kernel
  have q3 : pA3 b = (0, p2.2) := by unfold pA3; rw [← h1, hk, t3, q2, RdS.opt_f]
  have t4 : hasF 0 2 = false := by decide +kernel
  have q4 : pA4 b = (0, p2.2) := by unfold pA4; rw [← h1, hk, t4, q3, RdS.opt_f]
  have t5 : hasF 0 4 = false := by decide +kernel
  have q5 : pA5 b = (0, p2.2) := by unfold pA5; rw [← h1, hk, t5, q4, RdS.opt_f]
  have t6 : hasF 0 8 = false := by decide +kernel
  have q6 : pA6 b = (0, p2.2) := by unfold pA6; rw [← h1, hk, t6, q5, RdS.optLeast_f]
  have t7 : hasF 0 16 = false := by decide +kernel
  have q7 : pA7 b = (0, p2.2) := by unfold pA7; rw [← h1, hk, t7, q6, RdS.optLeast_f]
  have q8 : pA8 b = ([], p2.2) := by unfold pA8; rw [q7]; rfl
  have HX := hid (show parseX b = ⟨0, p2.1, 0, 0, 0, 0, []⟩ by unfold parseX; rw [← h1, hk, q2, q3, q4, q5, q6, q8])
  have HE := hid (show parseE b = p2.2.fin by unfold parseE; rw [q8])
  have hF : fieldsF 0 = 0 := by decide +kernel
  have a1 : bits .and .i64 0 1 = 0 := by decide +kernel
  have a2 : bits .and .i64 0 2 = 0 := by decide +kernel
  have a4 : bits .and .i64 0 4 = 0 := by decide +kernel
  have a8 : bits .and .i64 0 8 = 0 := by decide +kernel
  have a16 : bits .and .i64 0 16 = 0 := by decide +kernel
  have HF := hid hF
  have H1 := hid h1
  have HK := hid hk
  have H2 := hid h2
  clear h1 hk h2 q2 q3 q4 q5 q6 q7 q8 t3 t4 t5 t6 t7 hF 
  go_enter Tryz.func66, Tryz.ntmps66
  go_wp2_with fail
  refine (rdNew_calls b v _ (Kd.below HB.out (bAlloc (Below.refl _ _) _)) hl).mono ?_
  rintro e w1 ⟨g, rfl, hA, hb1⟩
  have HA := hid hA
  have HB1 := hid hb1
  clear hA hb1
  go_wp2_with fail
  refine (rdLeast_calls (fun k => w.heap.size < k ∧ k < w1.heap.size) g ⟨b, 0⟩ 4 _ (HA.out.mono (fun k hk h => ⟨by simp at h; omega, hk⟩))).mono ?_
  rintro e w2 ⟨rfl, hA2, hM2⟩
  rw [show (RdS.mk b 0).least 4 = p1 from H1.out.symm] at hA2 ⊢
  rw [HK.out]
  have I0 : PrI w.heap.size w1.heap.size g w2.heap.size w (w2.alloc (.cells #[.int .i64 0, .int .i64 0, .int .i64 0, .int .i64 0, .int .i64 0, .int .i64 0, .slice none 0 0] 46)) p1.2 #[.int .i64 0, .int .i64 0, .int .i64 0, .int .i64 0, .int .i64 0, .int .i64 0, .slice none 0 0] := by
    have hg := HA.out.1
    simp at hg
    have s1 := HB1.out.size
    simp at s1
    have s2 := hM2.size
    have hrb : w2.heap[w.heap.size]? = some (.cells zRec 46 (0, 0)) := (hM2.block _ (by omega) (by omega)).trans ((HB1.out.block _ (by simp)).trans (heap_at rfl))
    exact ⟨heap_old (by omega) hrb, hA2.below ((Below.refl _ _).alloc (Nat.le_refl _) _), heap_alloc_new w2 _, (((bThen (bAlloc (Below.refl _ _) _) HB1.out)).trans (hM2.below (fun k _ hk => by subst hk; omega) (by omega))).alloc (by omega) _, s2⟩
  have I0h := hid I0
  clear I0 hA2 hM2
  go_wp2_with fail
  refine (rdLeast_calls _ g p1.2 72057594037927935 _ I0h.out.rd).mono ?_
  rintro e w3 ⟨rfl, hA3, hM3⟩
  rw [← H2.out] at hA3 ⊢
  have I1 := I0h.out.call hA3 hM3
  have x1 := I1.cell 1 (.int .i64 0) rfl
  have f1 := I1.froz 1
  have l1 := I1.lt
  have I1s := hid (show PrI w.heap.size w1.heap.size g w2.heap.size w _ p2.2 #[.int .i64 0, .int .i64 p2.1, .int .i64 0, .int .i64 0, .int .i64 0, .int .i64 0, .slice none 0 0] from I1.set 1 (.int .i64 p2.1))
  have y0 := I1s.out.cell 0 (.int .i64 0) rfl
  clear I1 hA3 hM3
  go_wp2_with fail
  refine (fields_calls 0 _).mono ?_
  rintro e w' ⟨rfl, rfl⟩
  rw [HF.out]
  clear x1 f1 y0 l1
  go_wp2_with fail
  refine (rdEnd_calls _ g p2.2 _ I1s.out.rd).mono ?_
  rintro e w' ⟨rfl, rfl⟩
  rw [← HE.out]
  obtain ⟨E, hE⟩ : ∃ E, E = parseE b := ⟨_, rfl⟩
  rw [← hE]
  have HEE := hid hE
  have r0 := I1s.out.rcell 0 (.int .i64 0) rfl
  have r1 := I1s.out.rcell 1 (.int .i64 0) rfl
  have r2 := I1s.out.rcell 2 (.int .i64 0) rfl
  have r3 := I1s.out.rcell 3 (.int .i64 0) rfl
  have r4 := I1s.out.rcell 4 (.int .i64 0) rfl
  have r5 := I1s.out.rcell 5 (.int .i64 0) rfl
  have r6 := I1s.out.rcell 6 (.slice none 0 0) rfl
  have s0 := I1s.out.rfroz 0
  have s1 := I1s.out.rfroz 1
  have s2 := I1s.out.rfroz 2
  have s3 := I1s.out.rfroz 3
  have s4 := I1s.out.rfroz 4
  have s5 := I1s.out.rfroz 5
  have s6 := I1s.out.rfroz 6
  have z0 := I1s.out.cell 0 (.int .i64 (0)) rfl
  have z1 := I1s.out.cell 1 (.int .i64 (p2.1)) rfl
  have z2 := I1s.out.cell 2 (.int .i64 (0)) rfl
  have z3 := I1s.out.cell 3 (.int .i64 (0)) rfl
  have z4 := I1s.out.cell 4 (.int .i64 (0)) rfl
  have z5 := I1s.out.cell 5 (.int .i64 (0)) rfl
  have z6 := I1s.out.cell 6 (.slice none 0 0) rfl
  have rl := I1s.out.rlt
  have hbw := hid I1s.out.2.2.2.1
  have hne := I1s.out.ne
  by_cases hz : E = 0
  · have e0 : (E == (0 : Int)) = true := by rw [beq_iff_eq]; exact hz
    have e1 : (E != (0 : Int)) = false := by rw [bne_eq_false_iff_eq]; exact hz
    have HP := hid (show parseR b = ⟨0, p2.1, 0, 0, 0, 0, []⟩ by unfold parseR; rw [if_pos (by rw [← hE]; exact hz)]; exact HX.out)
    have HZ := hid hz
    clear hz hE
    obtain ⟨W', hW, T0, T1, T2, T3, T4, T5, T6, TB, TN⟩ := set7 I1s.out.1 (.int .i64 (0)) (.int .i64 (p2.1)) (.int .i64 (0)) (.int .i64 (0)) (.int .i64 (0)) (.int .i64 (0)) (.slice none 0 0)
    have TB2 := hid (hbw.out.trans TB)
    clear TB TN
    go_wp2
    rw [← hW]
    refine bodyPost_ret (by simp [results, Tryz.results66, go_sem, T0, T1, T2, T3, T4, T5, T6]; try rfl) rfl ?_
    rw [HP.out]
    exact ⟨none, 0, 0, by rw [← HEE.out, HZ.out], ⟨none, 0, rfl, by simp, by simp, Kd.Row.nil⟩, TB2.out⟩
  · have e0 : (E == (0 : Int)) = false := by rw [beq_eq_false_iff_ne]; exact hz
    have e1 : (E != (0 : Int)) = true := by rw [bne_iff_ne]; exact hz
    have HP := hid (show parseR b = ⟨0, 0, 0, 0, 0, 0, []⟩ by unfold parseR; rw [if_neg (by rw [← hE]; exact hz)]; rfl)
    clear hz hE
    obtain ⟨W', hW, T0, T1, T2, T3, T4, T5, T6, TB, TN⟩ := set7 I1s.out.1 (.int .i64 0) (.int .i64 0) (.int .i64 0) (.int .i64 0) (.int .i64 0) (.int .i64 0) (.slice none 0 0)
    have TB2 := hid (hbw.out.trans TB)
    clear TB TN
    go_wp2
    rw [← hW]
    refine bodyPost_ret (by simp [results, Tryz.results66, go_sem, T0, T1, T2, T3, T4, T5, T6]; try rfl) rfl ?_
    rw [HP.out]
    exact ⟨none, 0, 0, by rw [← HEE.out], ⟨none, 0, rfl, by simp, by simp, Kd.Row.nil⟩, TB2.out⟩
set_option maxHeartbeats 6400000 in
set_option maxRecDepth 100000 in
theorem recParse_2 (b : List UInt8) (v : Value) (w : World) (hb : Kd.u8.slice.K w Any b [v]) (hl : b.length ≤ 1000000) (hk : (pA1 b).1 = 2) :
    Calls Tryz.prog 66 #[v] w fun e w' => ∃ A n c, e = .returned (.tuple #[.agg #[.int .i64 (parseR b).kind, .int .i64 (parseR b).job, .int .i64 (parseR b).task, .int .i64 (parseR b).worker, .int .i64 (parseR b).sched, .int .i64 (parseR b).epoch, .slice A n c], .int .i64 (parseE b)]) ∧ Kd.str.slice.K w' (fun k => w.heap.size ≤ k) (parseR b).needs [.slice A n c] ∧ Below w.heap.size w w' := by
  have HB := hid hb
  clear hb
  obtain ⟨p1, h1⟩ : ∃ p, p = pA1 b := ⟨_, rfl⟩
  rw [← h1] at hk
  obtain ⟨p2, h2⟩ : ∃ p : Int × RdS, p = p1.2.least 72057594037927935 := ⟨_, rfl⟩
  have q2 : pA2 b = p2 := by unfold pA2; rw [← h1]; exact h2.symm
  have t3 : hasF 2 1 = true := by decide +kernel
  obtain ⟨p3, h3⟩ : ∃ p : Int × RdS, p = p2.2.num 15 := ⟨_, rfl⟩
  have q3 : pA3 b = p3 := by unfold pA3; rw [← h1, hk, t3, q2, RdS.opt_t]; exact h3.symm
  have t4 : hasF 2 2 = true := by decide +kernel
  obtain ⟨p4, h4⟩ : ∃ p : Int × RdS, p = p3.2.num 63 := ⟨_, rfl⟩
  have q4 : pA4 b = p4 := by unfold pA4; rw [← h1, hk, t4, q3, RdS.opt_t]; exact h4.symm
  have t5 : hasF 2 4 = false := by decide +kernel
  have q5 : pA5 b = (0, p4.2) := by unfold pA5; rw [← h1, hk, t5, q4, RdS.opt_f]
  have t6 : hasF 2 8 = true := by decide +kernel
  obtain ⟨p6, h6⟩ : ∃ p : Int × RdS, p = p4.2.least 9 := ⟨_, rfl⟩
  have q6 : pA6 b = p6 := by unfold pA6; rw [← h1, hk, t6, q5, RdS.optLeast_t]; exact h6.symm
  have t7 : hasF 2 16 = false := by decide +kernel
  have q7 : pA7 b = (0, p6.2) := by unfold pA7; rw [← h1, hk, t7, q6, RdS.optLeast_f]
  have q8 : pA8 b = ([], p6.2) := by unfold pA8; rw [q7]; rfl
  have HX := hid (show parseX b = ⟨2, p2.1, p3.1, p4.1, 0, p6.1, []⟩ by unfold parseX; rw [← h1, hk, q2, q3, q4, q5, q6, q8])
  have HE := hid (show parseE b = p6.2.fin by unfold parseE; rw [q8])
  have hF : fieldsF 2 = 11 := by decide +kernel
  have a1 : bits .and .i64 11 1 = 1 := by decide +kernel
  have a2 : bits .and .i64 11 2 = 2 := by decide +kernel
  have a4 : bits .and .i64 11 4 = 0 := by decide +kernel
  have a8 : bits .and .i64 11 8 = 8 := by decide +kernel
  have a16 : bits .and .i64 11 16 = 0 := by decide +kernel
  have HF := hid hF
  have H1 := hid h1
  have HK := hid hk
  have H2 := hid h2
  have H3 := hid h3
  have H4 := hid h4
  have H6 := hid h6
  clear h1 hk h2 q2 q3 q4 q5 q6 q7 q8 t3 t4 t5 t6 t7 hF h3 h4 h6
  go_enter Tryz.func66, Tryz.ntmps66
  go_wp2_with fail
  refine (rdNew_calls b v _ (Kd.below HB.out (bAlloc (Below.refl _ _) _)) hl).mono ?_
  rintro e w1 ⟨g, rfl, hA, hb1⟩
  have HA := hid hA
  have HB1 := hid hb1
  clear hA hb1
  go_wp2_with fail
  refine (rdLeast_calls (fun k => w.heap.size < k ∧ k < w1.heap.size) g ⟨b, 0⟩ 4 _ (HA.out.mono (fun k hk h => ⟨by simp at h; omega, hk⟩))).mono ?_
  rintro e w2 ⟨rfl, hA2, hM2⟩
  rw [show (RdS.mk b 0).least 4 = p1 from H1.out.symm] at hA2 ⊢
  rw [HK.out]
  have I0 : PrI w.heap.size w1.heap.size g w2.heap.size w (w2.alloc (.cells #[.int .i64 2, .int .i64 0, .int .i64 0, .int .i64 0, .int .i64 0, .int .i64 0, .slice none 0 0] 46)) p1.2 #[.int .i64 2, .int .i64 0, .int .i64 0, .int .i64 0, .int .i64 0, .int .i64 0, .slice none 0 0] := by
    have hg := HA.out.1
    simp at hg
    have s1 := HB1.out.size
    simp at s1
    have s2 := hM2.size
    have hrb : w2.heap[w.heap.size]? = some (.cells zRec 46 (0, 0)) := (hM2.block _ (by omega) (by omega)).trans ((HB1.out.block _ (by simp)).trans (heap_at rfl))
    exact ⟨heap_old (by omega) hrb, hA2.below ((Below.refl _ _).alloc (Nat.le_refl _) _), heap_alloc_new w2 _, (((bThen (bAlloc (Below.refl _ _) _) HB1.out)).trans (hM2.below (fun k _ hk => by subst hk; omega) (by omega))).alloc (by omega) _, s2⟩
  have I0h := hid I0
  clear I0 hA2 hM2
  go_wp2_with fail
  refine (rdLeast_calls _ g p1.2 72057594037927935 _ I0h.out.rd).mono ?_
  rintro e w3 ⟨rfl, hA3, hM3⟩
  rw [← H2.out] at hA3 ⊢
  have I1 := I0h.out.call hA3 hM3
  have x1 := I1.cell 1 (.int .i64 0) rfl
  have f1 := I1.froz 1
  have l1 := I1.lt
  have I1s := hid (show PrI w.heap.size w1.heap.size g w2.heap.size w _ p2.2 #[.int .i64 2, .int .i64 p2.1, .int .i64 0, .int .i64 0, .int .i64 0, .int .i64 0, .slice none 0 0] from I1.set 1 (.int .i64 p2.1))
  have y0 := I1s.out.cell 0 (.int .i64 2) rfl
  clear I1 hA3 hM3
  go_wp2_with fail
  refine (fields_calls 2 _).mono ?_
  rintro e w' ⟨rfl, rfl⟩
  rw [HF.out]
  clear x1 f1 y0 l1
  go_wp2_with fail
  refine (rdNum_calls _ g p2.2 15 _ I1s.out.rd).mono ?_
  rintro e w4 ⟨rfl, hA4, hM4⟩
  rw [← H3.out] at hA4 ⊢
  have I2 := I1s.out.call hA4 hM4
  have x2 := I2.cell 2 (.int .i64 0) rfl
  have f2 := I2.froz 2
  have l2 := I2.lt
  have I2s := hid (show PrI w.heap.size w1.heap.size g w2.heap.size w _ p3.2 #[.int .i64 2, .int .i64 p2.1, .int .i64 p3.1, .int .i64 0, .int .i64 0, .int .i64 0, .slice none 0 0] from I2.set 2 (.int .i64 p3.1))
  clear I2 hA4 hM4
  go_wp2_with fail
  refine (rdNum_calls _ g p3.2 63 _ I2s.out.rd).mono ?_
  rintro e w5 ⟨rfl, hA5, hM5⟩
  rw [← H4.out] at hA5 ⊢
  have I3 := I2s.out.call hA5 hM5
  have x3 := I3.cell 3 (.int .i64 0) rfl
  have f3 := I3.froz 3
  have l3 := I3.lt
  have I3s := hid (show PrI w.heap.size w1.heap.size g w2.heap.size w _ p4.2 #[.int .i64 2, .int .i64 p2.1, .int .i64 p3.1, .int .i64 p4.1, .int .i64 0, .int .i64 0, .slice none 0 0] from I3.set 3 (.int .i64 p4.1))
  clear I3 hA5 hM5
  go_wp2_with fail
  refine (rdLeast_calls _ g p4.2 9 _ I3s.out.rd).mono ?_
  rintro e w6 ⟨rfl, hA6, hM6⟩
  rw [← H6.out] at hA6 ⊢
  have I4 := I3s.out.call hA6 hM6
  have x4 := I4.cell 5 (.int .i64 0) rfl
  have f4 := I4.froz 5
  have l4 := I4.lt
  have I4s := hid (show PrI w.heap.size w1.heap.size g w2.heap.size w _ p6.2 #[.int .i64 2, .int .i64 p2.1, .int .i64 p3.1, .int .i64 p4.1, .int .i64 0, .int .i64 p6.1, .slice none 0 0] from I4.set 5 (.int .i64 p6.1))
  clear I4 hA6 hM6
  go_wp2_with fail
  refine (rdEnd_calls _ g p6.2 _ I4s.out.rd).mono ?_
  rintro e w' ⟨rfl, rfl⟩
  rw [← HE.out]
  obtain ⟨E, hE⟩ : ∃ E, E = parseE b := ⟨_, rfl⟩
  rw [← hE]
  have HEE := hid hE
  have r0 := I4s.out.rcell 0 (.int .i64 0) rfl
  have r1 := I4s.out.rcell 1 (.int .i64 0) rfl
  have r2 := I4s.out.rcell 2 (.int .i64 0) rfl
  have r3 := I4s.out.rcell 3 (.int .i64 0) rfl
  have r4 := I4s.out.rcell 4 (.int .i64 0) rfl
  have r5 := I4s.out.rcell 5 (.int .i64 0) rfl
  have r6 := I4s.out.rcell 6 (.slice none 0 0) rfl
  have s0 := I4s.out.rfroz 0
  have s1 := I4s.out.rfroz 1
  have s2 := I4s.out.rfroz 2
  have s3 := I4s.out.rfroz 3
  have s4 := I4s.out.rfroz 4
  have s5 := I4s.out.rfroz 5
  have s6 := I4s.out.rfroz 6
  have z0 := I4s.out.cell 0 (.int .i64 (2)) rfl
  have z1 := I4s.out.cell 1 (.int .i64 (p2.1)) rfl
  have z2 := I4s.out.cell 2 (.int .i64 (p3.1)) rfl
  have z3 := I4s.out.cell 3 (.int .i64 (p4.1)) rfl
  have z4 := I4s.out.cell 4 (.int .i64 (0)) rfl
  have z5 := I4s.out.cell 5 (.int .i64 (p6.1)) rfl
  have z6 := I4s.out.cell 6 (.slice none 0 0) rfl
  have rl := I4s.out.rlt
  have hbw := hid I4s.out.2.2.2.1
  have hne := I4s.out.ne
  clear x2 f2 l2 x3 f3 l3 x4 f4 l4
  by_cases hz : E = 0
  · have e0 : (E == (0 : Int)) = true := by rw [beq_iff_eq]; exact hz
    have e1 : (E != (0 : Int)) = false := by rw [bne_eq_false_iff_eq]; exact hz
    have HP := hid (show parseR b = ⟨2, p2.1, p3.1, p4.1, 0, p6.1, []⟩ by unfold parseR; rw [if_pos (by rw [← hE]; exact hz)]; exact HX.out)
    have HZ := hid hz
    clear hz hE
    obtain ⟨W', hW, T0, T1, T2, T3, T4, T5, T6, TB, TN⟩ := set7 I4s.out.1 (.int .i64 (2)) (.int .i64 (p2.1)) (.int .i64 (p3.1)) (.int .i64 (p4.1)) (.int .i64 (0)) (.int .i64 (p6.1)) (.slice none 0 0)
    have TB2 := hid (hbw.out.trans TB)
    clear TB TN
    go_wp2
    rw [← hW]
    refine bodyPost_ret (by simp [results, Tryz.results66, go_sem, T0, T1, T2, T3, T4, T5, T6]; try rfl) rfl ?_
    rw [HP.out]
    exact ⟨none, 0, 0, by rw [← HEE.out, HZ.out], ⟨none, 0, rfl, by simp, by simp, Kd.Row.nil⟩, TB2.out⟩
  · have e0 : (E == (0 : Int)) = false := by rw [beq_eq_false_iff_ne]; exact hz
    have e1 : (E != (0 : Int)) = true := by rw [bne_iff_ne]; exact hz
    have HP := hid (show parseR b = ⟨0, 0, 0, 0, 0, 0, []⟩ by unfold parseR; rw [if_neg (by rw [← hE]; exact hz)]; rfl)
    clear hz hE
    obtain ⟨W', hW, T0, T1, T2, T3, T4, T5, T6, TB, TN⟩ := set7 I4s.out.1 (.int .i64 0) (.int .i64 0) (.int .i64 0) (.int .i64 0) (.int .i64 0) (.int .i64 0) (.slice none 0 0)
    have TB2 := hid (hbw.out.trans TB)
    clear TB TN
    go_wp2
    rw [← hW]
    refine bodyPost_ret (by simp [results, Tryz.results66, go_sem, T0, T1, T2, T3, T4, T5, T6]; try rfl) rfl ?_
    rw [HP.out]
    exact ⟨none, 0, 0, by rw [← HEE.out], ⟨none, 0, rfl, by simp, by simp, Kd.Row.nil⟩, TB2.out⟩
set_option maxHeartbeats 6400000 in
set_option maxRecDepth 100000 in
theorem recParse_3 (b : List UInt8) (v : Value) (w : World) (hb : Kd.u8.slice.K w Any b [v]) (hl : b.length ≤ 1000000) (hk : (pA1 b).1 = 3) :
    Calls Tryz.prog 66 #[v] w fun e w' => ∃ A n c, e = .returned (.tuple #[.agg #[.int .i64 (parseR b).kind, .int .i64 (parseR b).job, .int .i64 (parseR b).task, .int .i64 (parseR b).worker, .int .i64 (parseR b).sched, .int .i64 (parseR b).epoch, .slice A n c], .int .i64 (parseE b)]) ∧ Kd.str.slice.K w' (fun k => w.heap.size ≤ k) (parseR b).needs [.slice A n c] ∧ Below w.heap.size w w' := by
  have HB := hid hb
  clear hb
  obtain ⟨p1, h1⟩ : ∃ p, p = pA1 b := ⟨_, rfl⟩
  rw [← h1] at hk
  obtain ⟨p2, h2⟩ : ∃ p : Int × RdS, p = p1.2.least 72057594037927935 := ⟨_, rfl⟩
  have q2 : pA2 b = p2 := by unfold pA2; rw [← h1]; exact h2.symm
  have t3 : hasF 3 1 = true := by decide +kernel
  obtain ⟨p3, h3⟩ : ∃ p : Int × RdS, p = p2.2.num 15 := ⟨_, rfl⟩
  have q3 : pA3 b = p3 := by unfold pA3; rw [← h1, hk, t3, q2, RdS.opt_t]; exact h3.symm
  have t4 : hasF 3 2 = false := by decide +kernel
  have q4 : pA4 b = (0, p3.2) := by unfold pA4; rw [← h1, hk, t4, q3, RdS.opt_f]
  have t5 : hasF 3 4 = false := by decide +kernel
  have q5 : pA5 b = (0, p3.2) := by unfold pA5; rw [← h1, hk, t5, q4, RdS.opt_f]
  have t6 : hasF 3 8 = false := by decide +kernel
  have q6 : pA6 b = (0, p3.2) := by unfold pA6; rw [← h1, hk, t6, q5, RdS.optLeast_f]
  have t7 : hasF 3 16 = false := by decide +kernel
  have q7 : pA7 b = (0, p3.2) := by unfold pA7; rw [← h1, hk, t7, q6, RdS.optLeast_f]
  have q8 : pA8 b = ([], p3.2) := by unfold pA8; rw [q7]; rfl
  have HX := hid (show parseX b = ⟨3, p2.1, p3.1, 0, 0, 0, []⟩ by unfold parseX; rw [← h1, hk, q2, q3, q4, q5, q6, q8])
  have HE := hid (show parseE b = p3.2.fin by unfold parseE; rw [q8])
  have hF : fieldsF 3 = 1 := by decide +kernel
  have a1 : bits .and .i64 1 1 = 1 := by decide +kernel
  have a2 : bits .and .i64 1 2 = 0 := by decide +kernel
  have a4 : bits .and .i64 1 4 = 0 := by decide +kernel
  have a8 : bits .and .i64 1 8 = 0 := by decide +kernel
  have a16 : bits .and .i64 1 16 = 0 := by decide +kernel
  have HF := hid hF
  have H1 := hid h1
  have HK := hid hk
  have H2 := hid h2
  have H3 := hid h3
  clear h1 hk h2 q2 q3 q4 q5 q6 q7 q8 t3 t4 t5 t6 t7 hF h3
  go_enter Tryz.func66, Tryz.ntmps66
  go_wp2_with fail
  refine (rdNew_calls b v _ (Kd.below HB.out (bAlloc (Below.refl _ _) _)) hl).mono ?_
  rintro e w1 ⟨g, rfl, hA, hb1⟩
  have HA := hid hA
  have HB1 := hid hb1
  clear hA hb1
  go_wp2_with fail
  refine (rdLeast_calls (fun k => w.heap.size < k ∧ k < w1.heap.size) g ⟨b, 0⟩ 4 _ (HA.out.mono (fun k hk h => ⟨by simp at h; omega, hk⟩))).mono ?_
  rintro e w2 ⟨rfl, hA2, hM2⟩
  rw [show (RdS.mk b 0).least 4 = p1 from H1.out.symm] at hA2 ⊢
  rw [HK.out]
  have I0 : PrI w.heap.size w1.heap.size g w2.heap.size w (w2.alloc (.cells #[.int .i64 3, .int .i64 0, .int .i64 0, .int .i64 0, .int .i64 0, .int .i64 0, .slice none 0 0] 46)) p1.2 #[.int .i64 3, .int .i64 0, .int .i64 0, .int .i64 0, .int .i64 0, .int .i64 0, .slice none 0 0] := by
    have hg := HA.out.1
    simp at hg
    have s1 := HB1.out.size
    simp at s1
    have s2 := hM2.size
    have hrb : w2.heap[w.heap.size]? = some (.cells zRec 46 (0, 0)) := (hM2.block _ (by omega) (by omega)).trans ((HB1.out.block _ (by simp)).trans (heap_at rfl))
    exact ⟨heap_old (by omega) hrb, hA2.below ((Below.refl _ _).alloc (Nat.le_refl _) _), heap_alloc_new w2 _, (((bThen (bAlloc (Below.refl _ _) _) HB1.out)).trans (hM2.below (fun k _ hk => by subst hk; omega) (by omega))).alloc (by omega) _, s2⟩
  have I0h := hid I0
  clear I0 hA2 hM2
  go_wp2_with fail
  refine (rdLeast_calls _ g p1.2 72057594037927935 _ I0h.out.rd).mono ?_
  rintro e w3 ⟨rfl, hA3, hM3⟩
  rw [← H2.out] at hA3 ⊢
  have I1 := I0h.out.call hA3 hM3
  have x1 := I1.cell 1 (.int .i64 0) rfl
  have f1 := I1.froz 1
  have l1 := I1.lt
  have I1s := hid (show PrI w.heap.size w1.heap.size g w2.heap.size w _ p2.2 #[.int .i64 3, .int .i64 p2.1, .int .i64 0, .int .i64 0, .int .i64 0, .int .i64 0, .slice none 0 0] from I1.set 1 (.int .i64 p2.1))
  have y0 := I1s.out.cell 0 (.int .i64 3) rfl
  clear I1 hA3 hM3
  go_wp2_with fail
  refine (fields_calls 3 _).mono ?_
  rintro e w' ⟨rfl, rfl⟩
  rw [HF.out]
  clear x1 f1 y0 l1
  go_wp2_with fail
  refine (rdNum_calls _ g p2.2 15 _ I1s.out.rd).mono ?_
  rintro e w4 ⟨rfl, hA4, hM4⟩
  rw [← H3.out] at hA4 ⊢
  have I2 := I1s.out.call hA4 hM4
  have x2 := I2.cell 2 (.int .i64 0) rfl
  have f2 := I2.froz 2
  have l2 := I2.lt
  have I2s := hid (show PrI w.heap.size w1.heap.size g w2.heap.size w _ p3.2 #[.int .i64 3, .int .i64 p2.1, .int .i64 p3.1, .int .i64 0, .int .i64 0, .int .i64 0, .slice none 0 0] from I2.set 2 (.int .i64 p3.1))
  clear I2 hA4 hM4
  go_wp2_with fail
  refine (rdEnd_calls _ g p3.2 _ I2s.out.rd).mono ?_
  rintro e w' ⟨rfl, rfl⟩
  rw [← HE.out]
  obtain ⟨E, hE⟩ : ∃ E, E = parseE b := ⟨_, rfl⟩
  rw [← hE]
  have HEE := hid hE
  have r0 := I2s.out.rcell 0 (.int .i64 0) rfl
  have r1 := I2s.out.rcell 1 (.int .i64 0) rfl
  have r2 := I2s.out.rcell 2 (.int .i64 0) rfl
  have r3 := I2s.out.rcell 3 (.int .i64 0) rfl
  have r4 := I2s.out.rcell 4 (.int .i64 0) rfl
  have r5 := I2s.out.rcell 5 (.int .i64 0) rfl
  have r6 := I2s.out.rcell 6 (.slice none 0 0) rfl
  have s0 := I2s.out.rfroz 0
  have s1 := I2s.out.rfroz 1
  have s2 := I2s.out.rfroz 2
  have s3 := I2s.out.rfroz 3
  have s4 := I2s.out.rfroz 4
  have s5 := I2s.out.rfroz 5
  have s6 := I2s.out.rfroz 6
  have z0 := I2s.out.cell 0 (.int .i64 (3)) rfl
  have z1 := I2s.out.cell 1 (.int .i64 (p2.1)) rfl
  have z2 := I2s.out.cell 2 (.int .i64 (p3.1)) rfl
  have z3 := I2s.out.cell 3 (.int .i64 (0)) rfl
  have z4 := I2s.out.cell 4 (.int .i64 (0)) rfl
  have z5 := I2s.out.cell 5 (.int .i64 (0)) rfl
  have z6 := I2s.out.cell 6 (.slice none 0 0) rfl
  have rl := I2s.out.rlt
  have hbw := hid I2s.out.2.2.2.1
  have hne := I2s.out.ne
  clear x2 f2 l2
  by_cases hz : E = 0
  · have e0 : (E == (0 : Int)) = true := by rw [beq_iff_eq]; exact hz
    have e1 : (E != (0 : Int)) = false := by rw [bne_eq_false_iff_eq]; exact hz
    have HP := hid (show parseR b = ⟨3, p2.1, p3.1, 0, 0, 0, []⟩ by unfold parseR; rw [if_pos (by rw [← hE]; exact hz)]; exact HX.out)
    have HZ := hid hz
    clear hz hE
    obtain ⟨W', hW, T0, T1, T2, T3, T4, T5, T6, TB, TN⟩ := set7 I2s.out.1 (.int .i64 (3)) (.int .i64 (p2.1)) (.int .i64 (p3.1)) (.int .i64 (0)) (.int .i64 (0)) (.int .i64 (0)) (.slice none 0 0)
    have TB2 := hid (hbw.out.trans TB)
    clear TB TN
    go_wp2
    rw [← hW]
    refine bodyPost_ret (by simp [results, Tryz.results66, go_sem, T0, T1, T2, T3, T4, T5, T6]; try rfl) rfl ?_
    rw [HP.out]
    exact ⟨none, 0, 0, by rw [← HEE.out, HZ.out], ⟨none, 0, rfl, by simp, by simp, Kd.Row.nil⟩, TB2.out⟩
  · have e0 : (E == (0 : Int)) = false := by rw [beq_eq_false_iff_ne]; exact hz
    have e1 : (E != (0 : Int)) = true := by rw [bne_iff_ne]; exact hz
    have HP := hid (show parseR b = ⟨0, 0, 0, 0, 0, 0, []⟩ by unfold parseR; rw [if_neg (by rw [← hE]; exact hz)]; rfl)
    clear hz hE
    obtain ⟨W', hW, T0, T1, T2, T3, T4, T5, T6, TB, TN⟩ := set7 I2s.out.1 (.int .i64 0) (.int .i64 0) (.int .i64 0) (.int .i64 0) (.int .i64 0) (.int .i64 0) (.slice none 0 0)
    have TB2 := hid (hbw.out.trans TB)
    clear TB TN
    go_wp2
    rw [← hW]
    refine bodyPost_ret (by simp [results, Tryz.results66, go_sem, T0, T1, T2, T3, T4, T5, T6]; try rfl) rfl ?_
    rw [HP.out]
    exact ⟨none, 0, 0, by rw [← HEE.out], ⟨none, 0, rfl, by simp, by simp, Kd.Row.nil⟩, TB2.out⟩
set_option maxHeartbeats 6400000 in
set_option maxRecDepth 100000 in
theorem recParse_4 (b : List UInt8) (v : Value) (w : World) (hb : Kd.u8.slice.K w Any b [v]) (hl : b.length ≤ 1000000) (hk : (pA1 b).1 = 4) :
    Calls Tryz.prog 66 #[v] w fun e w' => ∃ A n c, e = .returned (.tuple #[.agg #[.int .i64 (parseR b).kind, .int .i64 (parseR b).job, .int .i64 (parseR b).task, .int .i64 (parseR b).worker, .int .i64 (parseR b).sched, .int .i64 (parseR b).epoch, .slice A n c], .int .i64 (parseE b)]) ∧ Kd.str.slice.K w' (fun k => w.heap.size ≤ k) (parseR b).needs [.slice A n c] ∧ Below w.heap.size w w' := by
  have HB := hid hb
  clear hb
  obtain ⟨p1, h1⟩ : ∃ p, p = pA1 b := ⟨_, rfl⟩
  rw [← h1] at hk
  obtain ⟨p2, h2⟩ : ∃ p : Int × RdS, p = p1.2.least 72057594037927935 := ⟨_, rfl⟩
  have q2 : pA2 b = p2 := by unfold pA2; rw [← h1]; exact h2.symm
  have t3 : hasF 4 1 = false := by decide +kernel
  have q3 : pA3 b = (0, p2.2) := by unfold pA3; rw [← h1, hk, t3, q2, RdS.opt_f]
  have t4 : hasF 4 2 = false := by decide +kernel
  have q4 : pA4 b = (0, p2.2) := by unfold pA4; rw [← h1, hk, t4, q3, RdS.opt_f]
  have t5 : hasF 4 4 = true := by decide +kernel
  obtain ⟨p5, h5⟩ : ∃ p : Int × RdS, p = p2.2.num 7 := ⟨_, rfl⟩
  have q5 : pA5 b = p5 := by unfold pA5; rw [← h1, hk, t5, q4, RdS.opt_t]; exact h5.symm
  have t6 : hasF 4 8 = true := by decide +kernel
  obtain ⟨p6, h6⟩ : ∃ p : Int × RdS, p = p5.2.least 9 := ⟨_, rfl⟩
  have q6 : pA6 b = p6 := by unfold pA6; rw [← h1, hk, t6, q5, RdS.optLeast_t]; exact h6.symm
  have t7 : hasF 4 16 = false := by decide +kernel
  have q7 : pA7 b = (0, p6.2) := by unfold pA7; rw [← h1, hk, t7, q6, RdS.optLeast_f]
  have q8 : pA8 b = ([], p6.2) := by unfold pA8; rw [q7]; rfl
  have HX := hid (show parseX b = ⟨4, p2.1, 0, 0, p5.1, p6.1, []⟩ by unfold parseX; rw [← h1, hk, q2, q3, q4, q5, q6, q8])
  have HE := hid (show parseE b = p6.2.fin by unfold parseE; rw [q8])
  have hF : fieldsF 4 = 12 := by decide +kernel
  have a1 : bits .and .i64 12 1 = 0 := by decide +kernel
  have a2 : bits .and .i64 12 2 = 0 := by decide +kernel
  have a4 : bits .and .i64 12 4 = 4 := by decide +kernel
  have a8 : bits .and .i64 12 8 = 8 := by decide +kernel
  have a16 : bits .and .i64 12 16 = 0 := by decide +kernel
  have HF := hid hF
  have H1 := hid h1
  have HK := hid hk
  have H2 := hid h2
  have H5 := hid h5
  have H6 := hid h6
  clear h1 hk h2 q2 q3 q4 q5 q6 q7 q8 t3 t4 t5 t6 t7 hF h5 h6
  go_enter Tryz.func66, Tryz.ntmps66
  go_wp2_with fail
  refine (rdNew_calls b v _ (Kd.below HB.out (bAlloc (Below.refl _ _) _)) hl).mono ?_
  rintro e w1 ⟨g, rfl, hA, hb1⟩
  have HA := hid hA
  have HB1 := hid hb1
  clear hA hb1
  go_wp2_with fail
  refine (rdLeast_calls (fun k => w.heap.size < k ∧ k < w1.heap.size) g ⟨b, 0⟩ 4 _ (HA.out.mono (fun k hk h => ⟨by simp at h; omega, hk⟩))).mono ?_
  rintro e w2 ⟨rfl, hA2, hM2⟩
  rw [show (RdS.mk b 0).least 4 = p1 from H1.out.symm] at hA2 ⊢
  rw [HK.out]
  have I0 : PrI w.heap.size w1.heap.size g w2.heap.size w (w2.alloc (.cells #[.int .i64 4, .int .i64 0, .int .i64 0, .int .i64 0, .int .i64 0, .int .i64 0, .slice none 0 0] 46)) p1.2 #[.int .i64 4, .int .i64 0, .int .i64 0, .int .i64 0, .int .i64 0, .int .i64 0, .slice none 0 0] := by
    have hg := HA.out.1
    simp at hg
    have s1 := HB1.out.size
    simp at s1
    have s2 := hM2.size
    have hrb : w2.heap[w.heap.size]? = some (.cells zRec 46 (0, 0)) := (hM2.block _ (by omega) (by omega)).trans ((HB1.out.block _ (by simp)).trans (heap_at rfl))
    exact ⟨heap_old (by omega) hrb, hA2.below ((Below.refl _ _).alloc (Nat.le_refl _) _), heap_alloc_new w2 _, (((bThen (bAlloc (Below.refl _ _) _) HB1.out)).trans (hM2.below (fun k _ hk => by subst hk; omega) (by omega))).alloc (by omega) _, s2⟩
  have I0h := hid I0
  clear I0 hA2 hM2
  go_wp2_with fail
  refine (rdLeast_calls _ g p1.2 72057594037927935 _ I0h.out.rd).mono ?_
  rintro e w3 ⟨rfl, hA3, hM3⟩
  rw [← H2.out] at hA3 ⊢
  have I1 := I0h.out.call hA3 hM3
  have x1 := I1.cell 1 (.int .i64 0) rfl
  have f1 := I1.froz 1
  have l1 := I1.lt
  have I1s := hid (show PrI w.heap.size w1.heap.size g w2.heap.size w _ p2.2 #[.int .i64 4, .int .i64 p2.1, .int .i64 0, .int .i64 0, .int .i64 0, .int .i64 0, .slice none 0 0] from I1.set 1 (.int .i64 p2.1))
  have y0 := I1s.out.cell 0 (.int .i64 4) rfl
  clear I1 hA3 hM3
  go_wp2_with fail
  refine (fields_calls 4 _).mono ?_
  rintro e w' ⟨rfl, rfl⟩
  rw [HF.out]
  clear x1 f1 y0 l1
  go_wp2_with fail
  refine (rdNum_calls _ g p2.2 7 _ I1s.out.rd).mono ?_
  rintro e w4 ⟨rfl, hA4, hM4⟩
  rw [← H5.out] at hA4 ⊢
  have I2 := I1s.out.call hA4 hM4
  have x2 := I2.cell 4 (.int .i64 0) rfl
  have f2 := I2.froz 4
  have l2 := I2.lt
  have I2s := hid (show PrI w.heap.size w1.heap.size g w2.heap.size w _ p5.2 #[.int .i64 4, .int .i64 p2.1, .int .i64 0, .int .i64 0, .int .i64 p5.1, .int .i64 0, .slice none 0 0] from I2.set 4 (.int .i64 p5.1))
  clear I2 hA4 hM4
  go_wp2_with fail
  refine (rdLeast_calls _ g p5.2 9 _ I2s.out.rd).mono ?_
  rintro e w5 ⟨rfl, hA5, hM5⟩
  rw [← H6.out] at hA5 ⊢
  have I3 := I2s.out.call hA5 hM5
  have x3 := I3.cell 5 (.int .i64 0) rfl
  have f3 := I3.froz 5
  have l3 := I3.lt
  have I3s := hid (show PrI w.heap.size w1.heap.size g w2.heap.size w _ p6.2 #[.int .i64 4, .int .i64 p2.1, .int .i64 0, .int .i64 0, .int .i64 p5.1, .int .i64 p6.1, .slice none 0 0] from I3.set 5 (.int .i64 p6.1))
  clear I3 hA5 hM5
  go_wp2_with fail
  refine (rdEnd_calls _ g p6.2 _ I3s.out.rd).mono ?_
  rintro e w' ⟨rfl, rfl⟩
  rw [← HE.out]
  obtain ⟨E, hE⟩ : ∃ E, E = parseE b := ⟨_, rfl⟩
  rw [← hE]
  have HEE := hid hE
  have r0 := I3s.out.rcell 0 (.int .i64 0) rfl
  have r1 := I3s.out.rcell 1 (.int .i64 0) rfl
  have r2 := I3s.out.rcell 2 (.int .i64 0) rfl
  have r3 := I3s.out.rcell 3 (.int .i64 0) rfl
  have r4 := I3s.out.rcell 4 (.int .i64 0) rfl
  have r5 := I3s.out.rcell 5 (.int .i64 0) rfl
  have r6 := I3s.out.rcell 6 (.slice none 0 0) rfl
  have s0 := I3s.out.rfroz 0
  have s1 := I3s.out.rfroz 1
  have s2 := I3s.out.rfroz 2
  have s3 := I3s.out.rfroz 3
  have s4 := I3s.out.rfroz 4
  have s5 := I3s.out.rfroz 5
  have s6 := I3s.out.rfroz 6
  have z0 := I3s.out.cell 0 (.int .i64 (4)) rfl
  have z1 := I3s.out.cell 1 (.int .i64 (p2.1)) rfl
  have z2 := I3s.out.cell 2 (.int .i64 (0)) rfl
  have z3 := I3s.out.cell 3 (.int .i64 (0)) rfl
  have z4 := I3s.out.cell 4 (.int .i64 (p5.1)) rfl
  have z5 := I3s.out.cell 5 (.int .i64 (p6.1)) rfl
  have z6 := I3s.out.cell 6 (.slice none 0 0) rfl
  have rl := I3s.out.rlt
  have hbw := hid I3s.out.2.2.2.1
  have hne := I3s.out.ne
  clear x2 f2 l2 x3 f3 l3
  by_cases hz : E = 0
  · have e0 : (E == (0 : Int)) = true := by rw [beq_iff_eq]; exact hz
    have e1 : (E != (0 : Int)) = false := by rw [bne_eq_false_iff_eq]; exact hz
    have HP := hid (show parseR b = ⟨4, p2.1, 0, 0, p5.1, p6.1, []⟩ by unfold parseR; rw [if_pos (by rw [← hE]; exact hz)]; exact HX.out)
    have HZ := hid hz
    clear hz hE
    obtain ⟨W', hW, T0, T1, T2, T3, T4, T5, T6, TB, TN⟩ := set7 I3s.out.1 (.int .i64 (4)) (.int .i64 (p2.1)) (.int .i64 (0)) (.int .i64 (0)) (.int .i64 (p5.1)) (.int .i64 (p6.1)) (.slice none 0 0)
    have TB2 := hid (hbw.out.trans TB)
    clear TB TN
    go_wp2
    rw [← hW]
    refine bodyPost_ret (by simp [results, Tryz.results66, go_sem, T0, T1, T2, T3, T4, T5, T6]; try rfl) rfl ?_
    rw [HP.out]
    exact ⟨none, 0, 0, by rw [← HEE.out, HZ.out], ⟨none, 0, rfl, by simp, by simp, Kd.Row.nil⟩, TB2.out⟩
  · have e0 : (E == (0 : Int)) = false := by rw [beq_eq_false_iff_ne]; exact hz
    have e1 : (E != (0 : Int)) = true := by rw [bne_iff_ne]; exact hz
    have HP := hid (show parseR b = ⟨0, 0, 0, 0, 0, 0, []⟩ by unfold parseR; rw [if_neg (by rw [← hE]; exact hz)]; rfl)
    clear hz hE
    obtain ⟨W', hW, T0, T1, T2, T3, T4, T5, T6, TB, TN⟩ := set7 I3s.out.1 (.int .i64 0) (.int .i64 0) (.int .i64 0) (.int .i64 0) (.int .i64 0) (.int .i64 0) (.slice none 0 0)
    have TB2 := hid (hbw.out.trans TB)
    clear TB TN
    go_wp2
    rw [← hW]
    refine bodyPost_ret (by simp [results, Tryz.results66, go_sem, T0, T1, T2, T3, T4, T5, T6]; try rfl) rfl ?_
    rw [HP.out]
    exact ⟨none, 0, 0, by rw [← HEE.out], ⟨none, 0, rfl, by simp, by simp, Kd.Row.nil⟩, TB2.out⟩
end Go.Proofs.YtkjncmmombkllaaGreat
namespace Go.Proofs.YtkjncmmombkllaaGreat
open Go.RowKit

theorem Tryz.infoStrP : (Tryz.prog.info? 9).map (fun i => (i.zero, i.size, i.bytes)) = some (some (.string ⟨#[]⟩), 1, 16) := by kernel_rfl
set_option maxHeartbeats 12800000 in
set_option maxRecDepth 100000 in
theorem recParse_1 (b : List UInt8) (v : Value) (w : World) (hb : Kd.u8.slice.K w Any b [v]) (hl : b.length ≤ 1000000) (hk : (pA1 b).1 = 1) :
    Calls Tryz.prog 66 #[v] w fun e w' => ∃ A n c, e = .returned (.tuple #[.agg #[.int .i64 (parseR b).kind, .int .i64 (parseR b).job, .int .i64 (parseR b).task, .int .i64 (parseR b).worker, .int .i64 (parseR b).sched, .int .i64 (parseR b).epoch, .slice A n c], .int .i64 (parseE b)]) ∧ Kd.str.slice.K w' (fun k => w.heap.size ≤ k) (parseR b).needs [.slice A n c] ∧ Below w.heap.size w w' := by
  have HB := hid hb
  clear hb
  obtain ⟨p1, h1⟩ : ∃ p, p = pA1 b := ⟨_, rfl⟩
  rw [← h1] at hk
  obtain ⟨p2, h2⟩ : ∃ p : Int × RdS, p = p1.2.least 72057594037927935 := ⟨_, rfl⟩
  have q2 : pA2 b = p2 := by unfold pA2; rw [← h1]; exact h2.symm
  have t3 : hasF 1 1 = false := by decide +kernel
  have q3 : pA3 b = (0, p2.2) := by unfold pA3; rw [← h1, hk, t3, q2, RdS.opt_f]
  have t4 : hasF 1 2 = false := by decide +kernel
  have q4 : pA4 b = (0, p2.2) := by unfold pA4; rw [← h1, hk, t4, q3, RdS.opt_f]
  have t5 : hasF 1 4 = true := by decide +kernel
  obtain ⟨p5, h5⟩ : ∃ p : Int × RdS, p = p2.2.num 7 := ⟨_, rfl⟩
  have q5 : pA5 b = p5 := by unfold pA5; rw [← h1, hk, t5, q4, RdS.opt_t]; exact h5.symm
  have t6 : hasF 1 8 = false := by decide +kernel
  have q6 : pA6 b = (0, p5.2) := by unfold pA6; rw [← h1, hk, t6, q5, RdS.optLeast_f]
  have t7 : hasF 1 16 = true := by decide +kernel
  obtain ⟨p7, h7⟩ : ∃ p : Int × RdS, p = p5.2.least 16 := ⟨_, rfl⟩
  have q7 : pA7 b = p7 := by unfold pA7; rw [← h1, hk, t7, q6, RdS.optLeast_t]; exact h7.symm
  have hb7 := p5.2.least_0 16
  rw [← h7] at hb7
  obtain ⟨N, hN⟩ : ∃ N, N = p7.1.toNat := ⟨_, rfl⟩
  have hNp : p7.1 = (N : Int) := by omega
  have hN16 : N ≤ 16 := by omega
  have q8 : pA8 b = p7.2.texts N := by unfold pA8; rw [q7, hN]
  have HX := hid (show parseX b = ⟨1, p2.1, 0, 0, p5.1, 0, (p7.2.texts N).1⟩ by unfold parseX; rw [← h1, hk, q2, q3, q4, q5, q6, q8])
  have HE := hid (show parseE b = (p7.2.texts N).2.fin by unfold parseE; rw [q8])
  have hF : fieldsF 1 = 20 := by decide +kernel
  have a1 : bits .and .i64 20 1 = 0 := by decide +kernel
  have a2 : bits .and .i64 20 2 = 0 := by decide +kernel
  have a4 : bits .and .i64 20 4 = 4 := by decide +kernel
  have a8 : bits .and .i64 20 8 = 0 := by decide +kernel
  have a16 : bits .and .i64 20 16 = 16 := by decide +kernel
  have HF := hid hF
  have H1 := hid h1
  have HK := hid hk
  have H2 := hid h2
  have H5 := hid h5
  have H7 := hid h7
  have HNP := hid hNp
  have HTL := hid (fun m => (p7.2.texts_len m).2)
  clear h1 hk h2 q2 q3 q4 q5 q6 q7 q8 t3 t4 t5 t6 t7 hF h5 h7 hN hNp hb7
  go_enter Tryz.func66, Tryz.ntmps66
  go_wp2_with fail
  refine (rdNew_calls b v _ (Kd.below HB.out (bAlloc (Below.refl _ _) _)) hl).mono ?_
  rintro e w1 ⟨g, rfl, hA, hb1⟩
  have HA := hid hA
  have HB1 := hid hb1
  clear hA hb1
  go_wp2_with fail
  refine (rdLeast_calls (fun k => w.heap.size < k ∧ k < w1.heap.size) g ⟨b, 0⟩ 4 _ (HA.out.mono (fun k hk h => ⟨by simp at h; omega, hk⟩))).mono ?_
  rintro e w2 ⟨rfl, hA2, hM2⟩
  rw [show (RdS.mk b 0).least 4 = p1 from H1.out.symm] at hA2 ⊢
  rw [HK.out]
  have I0 : PrI w.heap.size w1.heap.size g w2.heap.size w (w2.alloc (.cells #[.int .i64 1, .int .i64 0, .int .i64 0, .int .i64 0, .int .i64 0, .int .i64 0, .slice none 0 0] 46)) p1.2 #[.int .i64 1, .int .i64 0, .int .i64 0, .int .i64 0, .int .i64 0, .int .i64 0, .slice none 0 0] := by
    have hg := HA.out.1
    simp at hg
    have s1 := HB1.out.size
    simp at s1
    have s2 := hM2.size
    have hrb : w2.heap[w.heap.size]? = some (.cells zRec 46 (0, 0)) := (hM2.block _ (by omega) (by omega)).trans ((HB1.out.block _ (by simp)).trans (heap_at rfl))
    exact ⟨heap_old (by omega) hrb, hA2.below ((Below.refl _ _).alloc (Nat.le_refl _) _), heap_alloc_new w2 _, (((bThen (bAlloc (Below.refl _ _) _) HB1.out)).trans (hM2.below (fun k _ hk => by subst hk; omega) (by omega))).alloc (by omega) _, s2⟩
  have I0h := hid I0
  have HG : Hid (w.heap.size < g ∧ g < w1.heap.size ∧ w1.heap.size ≤ w2.heap.size) := ⟨I0.2.1.1.1, I0.2.1.1.2, I0.2.2.2.2⟩
  clear I0 hA2 hM2
  go_wp2_with fail
  refine (rdLeast_calls _ g p1.2 72057594037927935 _ I0h.out.rd).mono ?_
  rintro e w3 ⟨rfl, hA3, hM3⟩
  rw [← H2.out] at hA3 ⊢
  have I1 := I0h.out.call hA3 hM3
  have x1 := I1.cell 1 (.int .i64 0) rfl
  have f1 := I1.froz 1
  have l1 := I1.lt
  have I1s := hid (show PrI w.heap.size w1.heap.size g w2.heap.size w _ p2.2 #[.int .i64 1, .int .i64 p2.1, .int .i64 0, .int .i64 0, .int .i64 0, .int .i64 0, .slice none 0 0] from I1.set 1 (.int .i64 p2.1))
  have y0 := I1s.out.cell 0 (.int .i64 1) rfl
  clear I1 hA3 hM3
  go_wp2_with fail
  refine (fields_calls 1 _).mono ?_
  rintro e w' ⟨rfl, rfl⟩
  rw [HF.out]
  clear x1 f1 y0 l1
  go_wp2_with fail
  refine (rdNum_calls _ g p2.2 7 _ I1s.out.rd).mono ?_
  rintro e w4 ⟨rfl, hA4, hM4⟩
  rw [← H5.out] at hA4 ⊢
  have I2 := I1s.out.call hA4 hM4
  have x2 := I2.cell 4 (.int .i64 0) rfl
  have f2 := I2.froz 4
  have l2 := I2.lt
  have I2s := hid (show PrI w.heap.size w1.heap.size g w2.heap.size w _ p5.2 #[.int .i64 1, .int .i64 p2.1, .int .i64 0, .int .i64 0, .int .i64 p5.1, .int .i64 0, .slice none 0 0] from I2.set 4 (.int .i64 p5.1))
  clear I2 hA4 hM4
  go_wp2_with fail
  refine (rdLeast_calls _ g p5.2 16 _ I2s.out.rd).mono ?_
  rintro e w5 ⟨rfl, hA5, hM5⟩
  rw [← H7.out] at hA5 ⊢
  rw [HNP.out]
  have I3 := hid (I2s.out.call hA5 hM5)
  clear hA5 hM5 x2 f2 l2
  go_wp2_with fail
  go_loopw [8] (fun nv wr => ∃ (m : Nat) (A : Option Addr) (n c : Nat), m ≤ N ∧ nv = .int .i64 ((N : Int) - m) ∧ Hid (PrI w.heap.size w1.heap.size g w2.heap.size w wr (p7.2.texts m).2 #[.int .i64 1, .int .i64 p2.1, .int .i64 0, .int .i64 0, .int .i64 p5.1, .int .i64 0, .slice A n c]) ∧ Hid (Own Kd.str 9 wr (w2.heap.size + 1) NoT (.slice A n c) (p7.2.texts m).1)) (fun nv _ => (intOf nv).toNat)
  case atStart => exact ⟨0, none, 0, 0, by omega, by simp, I3, Own.nil _ _ _ _ _⟩
  case round =>
    obtain ⟨m, A, n, c, hm, rfl, HI, HO⟩ := hrel
    by_cases hlt : m < N
    · have hgt : (0 : Int) < (N : Int) - m := by omega
      have hwr : IntKind.i64.wrap ((N : Int) - m - 1) = (N : Int) - m - 1 := IntWalk.i64_in _ (by omega)
      have x6 := HI.out.cell 6 (.slice A n c) rfl
      have l6 := HI.out.lt
      have HLN := hid (HTL.out m)
      go_wp2_with fail
      go_region_law (first
        | (refine appends_step Kd.str (w2.heap.size + 1) rfl _ _ 44 9 _ 16 rfl Tryz.underlying44 Tryz.infoStrP rfl (by decide) (by decide) (.slice A n c) (p7.2.texts m).1 [mkB ((p7.2.texts m).2.text 200).1] (some ⟨w6.heap.size, 0, none⟩) 1 1 NoT (fun k => k = w6.heap.size) NoT rfl rfl rfl (row_one (d := Kd.str) (te := 9) (fr := (0, 0)) (cs := [.string (mkB ((p7.2.texts m).2.text 200).1)]) (heap_at rfl) (fun _ => rfl)) (fun _ _ h => h) (fun _ h => h.elim) (O4.out.below (bAlloc (Below.refl _ _) _)) (by have := I4.out.lt; simp; omega) (by rw [HLN.out]; omega) ?_; intro v1 w7 hO1 hg1 hat; obtain ⟨A1, m1, c1, rfl, hm1, hc1⟩ := hO1.shape'; have I5 := hid (I4.out.above ((Below.refl _ _).alloc (Nat.succ_le_of_lt I4.out.lt) _ |>.grown hg1 (by have := I4.out.lt; simp; omega) (fun k hk => (O4.out.lt k hk).1))); have O5 := hid hO1; have y8 := I5.out.cell 6 (.slice A n c) rfl; have f8 := I5.out.froz 6; have l8 := I5.out.lt; clear hO1 hg1 hat hm1 hc1)
        | (go_simp; refine (rdText_calls _ g (p7.2.texts m).2 200 _ (HI.out.above (Below.refl _ _).drew).rd).mono ?_; rintro e w6 ⟨rfl, hA6, hM6⟩; have I4 := hid ((HI.out.above (Below.refl _ _).drew).call hA6 hM6); have O4 := hid ((HO.out.below (Below.refl _ _).drew).move (w1 := w6) (fun b hb hl => hM6.block b hl (by rcases hb with hb | hb; exact hb.elim; have := (HO.out.lt b hb).1; have := HG.out; omega)) (fun _ h _ => h)); have y6 := I4.out.cell 6 (.slice A n c) rfl; have y7 := fun o => (I4.out.above ((Below.refl _ _).alloc (Nat.succ_le_of_lt I4.out.lt) o)).cell 6 (.slice A n c) rfl; clear hA6 hM6)
        | fail)
      all_goals
        go_wp2
        go_roundw
        case rel => exact ⟨m + 1, _, _, _, by omega, congrArg (Value.int .i64) (by omega), I5.out.set 6 _, O5.out.setCell (p := ⟨w2.heap.size, 6, none⟩) (fun h => h) (fun e => by have := (O5.out.lt _ e).1; simp at this; omega) _⟩
        case measure => simp [intOf]; omega
    · obtain rfl : N = m := by omega
      have hgt : ¬ (0 : Int) < (N : Int) - N := by omega
      have HOL := HO.out.shape
      go_wp2_with fail
      refine (rdEnd_calls _ g _ _ HI.out.rd).mono ?_
      rintro e w' ⟨rfl, rfl⟩
      rw [← HE.out]
      obtain ⟨E, hE⟩ : ∃ E, E = parseE b := ⟨_, rfl⟩
      rw [← hE]
      have HEE := hid hE

      have r0 := HI.out.rcell 0 (.int .i64 0) rfl
      have r1 := HI.out.rcell 1 (.int .i64 0) rfl
      have r2 := HI.out.rcell 2 (.int .i64 0) rfl
      have r3 := HI.out.rcell 3 (.int .i64 0) rfl
      have r4 := HI.out.rcell 4 (.int .i64 0) rfl
      have r5 := HI.out.rcell 5 (.int .i64 0) rfl
      have r6 := HI.out.rcell 6 (.slice none 0 0) rfl
      have s0 := HI.out.rfroz 0
      have s1 := HI.out.rfroz 1
      have s2 := HI.out.rfroz 2
      have s3 := HI.out.rfroz 3
      have s4 := HI.out.rfroz 4
      have s5 := HI.out.rfroz 5
      have s6 := HI.out.rfroz 6
      have z0 := HI.out.cell 0 (.int .i64 (1)) rfl
      have z1 := HI.out.cell 1 (.int .i64 (p2.1)) rfl
      have z2 := HI.out.cell 2 (.int .i64 (0)) rfl
      have z3 := HI.out.cell 3 (.int .i64 (0)) rfl
      have z4 := HI.out.cell 4 (.int .i64 (p5.1)) rfl
      have z5 := HI.out.cell 5 (.int .i64 (0)) rfl
      have z6 := HI.out.cell 6 (.slice A n c) rfl
      have rl := HI.out.rlt
      have hbw := hid HI.out.2.2.2.1
      have hne := HI.out.ne
      by_cases hz : E = 0
      · have e0 : (E == (0 : Int)) = true := by rw [beq_iff_eq]; exact hz
        have e1 : (E != (0 : Int)) = false := by rw [bne_eq_false_iff_eq]; exact hz
        have HP := hid (show parseR b = ⟨1, p2.1, 0, 0, p5.1, 0, (p7.2.texts N).1⟩ by unfold parseR; rw [if_pos (by rw [← hE]; exact hz)]; exact HX.out)
        have HZ := hid hz
        clear hz hE
        obtain ⟨W', hW, T0, T1, T2, T3, T4, T5, T6, TB, TN⟩ := set7 HI.out.1 (.int .i64 (1)) (.int .i64 (p2.1)) (.int .i64 (0)) (.int .i64 (0)) (.int .i64 (p5.1)) (.int .i64 (0)) (.slice A n c)
        have TB2 := hid (hbw.out.trans TB)
        have TK := hid (Own.K (HO.out.move (w1 := W') (fun k hk hl => TN k (by rcases hk with hk | hk; exact hk.elim; have := (HO.out.lt k hk).1; have := HG.out; omega)) (fun _ h _ => h)))
        clear TB TN
        go_wp2
        rw [← hW]
        refine bodyPost_ret (by simp [results, Tryz.results66, go_sem, T0, T1, T2, T3, T4, T5, T6]; try rfl) rfl ?_
        rw [HP.out]
        exact ⟨A, n, c, by rw [← HEE.out, HZ.out], Kd.mono _ (fun k hk _ => by rcases hk with hk | hk; exact hk.elim; have := HG.out; omega) TK.out, TB2.out⟩
      · have e0 : (E == (0 : Int)) = false := by rw [beq_eq_false_iff_ne]; exact hz
        have e1 : (E != (0 : Int)) = true := by rw [bne_iff_ne]; exact hz
        have HP := hid (show parseR b = ⟨0, 0, 0, 0, 0, 0, []⟩ by unfold parseR; rw [if_neg (by rw [← hE]; exact hz)]; rfl)
        clear hz hE
        obtain ⟨W', hW, T0, T1, T2, T3, T4, T5, T6, TB, TN⟩ := set7 HI.out.1 (.int .i64 0) (.int .i64 0) (.int .i64 0) (.int .i64 0) (.int .i64 0) (.int .i64 0) (.slice none 0 0)
        have TB2 := hid (hbw.out.trans TB)
        clear TB TN
        go_wp2
        rw [← hW]
        refine bodyPost_ret (by simp [results, Tryz.results66, go_sem, T0, T1, T2, T3, T4, T5, T6]; try rfl) rfl ?_
        rw [HP.out]
        exact ⟨none, 0, 0, by rw [← HEE.out], ⟨none, 0, rfl, by simp, by simp, Kd.Row.nil⟩, TB2.out⟩


theorem recParse_calls (b : List UInt8) (v : Value) (w : World) (hb : Kd.u8.slice.K w Any b [v]) (hl : b.length ≤ 1000000) :
    Calls Tryz.prog 66 #[v] w fun e w' => ∃ A n c, e = .returned (.tuple #[.agg #[.int .i64 (parseR b).kind, .int .i64 (parseR b).job, .int .i64 (parseR b).task, .int .i64 (parseR b).worker, .int .i64 (parseR b).sched, .int .i64 (parseR b).epoch, .slice A n c], .int .i64 (parseE b)]) ∧ Kd.str.slice.K w' (fun k => w.heap.size ≤ k) (parseR b).needs [.slice A n c] ∧ Below w.heap.size w w' := by
  have h := (RdS.mk b 0).least_0 4
  have h2 : 0 ≤ (pA1 b).1 ∧ (pA1 b).1 ≤ 4 := by
    refine ⟨h.1, ?_⟩
    have := h.2
    unfold pA1
    omega
  have h3 : (pA1 b).1 = 0 ∨ (pA1 b).1 = 1 ∨ (pA1 b).1 = 2 ∨ (pA1 b).1 = 3 ∨ (pA1 b).1 = 4 := by omega
  rcases h3 with h3 | h3 | h3 | h3 | h3
  · exact recParse_0 b v w hb hl h3
  · exact recParse_1 b v w hb hl h3
  · exact recParse_2 b v w hb hl h3
  · exact recParse_3 b v w hb hl h3
  · exact recParse_4 b v w hb hl h3
end Go.Proofs.YtkjncmmombkllaaGreat
