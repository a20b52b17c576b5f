import Derived.Test.YtkjncmmombkllaaGreatPrs
import Derived.Test.YtkjncmmombkllaaGreatRfs
import Derived.Test.YtkjncmmombkllaaGreatBase
import Derived.Deep.RegionLaw
namespace Go.Proofs.YtkjncmmombkllaaGreat
open Go.RowKit

/-- While the document's record is read: rb the result's cells, g the reader, gx the record's cells. -/
def PfI (rb g gx : Nat) (w W : World) (R : RdS) (cs : Array Value) : Prop :=
  W.heap[rb]? = some (.cells zRec 46 (0, 0)) ∧ RfAt W g R ∧ W.heap[gx]? = some (.cells cs 46 (0, 0)) ∧ Below rb w W ∧ rb < g ∧ g < gx
section
variable {rb g gx : Nat} {w W W' : World} {R R' : RdS} {cs : Array Value}
theorem PfI.call (h : PfI rb g gx w W R cs) (hA : RfAt W' g R') (hM : Mod (fun k => k = g) W W') : PfI rb g gx w W' R' cs := by
  obtain ⟨h1, h2, h3, h4, h5, h6⟩ := h
  have l1 := (Array.getElem?_eq_some_iff.1 h1).1
  have l3 := (Array.getElem?_eq_some_iff.1 h3).1
  exact ⟨(hM.block rb l1 (by omega)).trans h1, hA, (hM.block gx l3 (by omega)).trans h3, h4.trans (hM.below (fun k _ hk => by subst hk; omega) (by omega)), h5, h6⟩
theorem PfI.set (h : PfI rb g gx w W R cs) (i : Nat) (u : Value) : PfI rb g gx w (W.setCell ⟨gx, i, none⟩ u) R (cs.setIfInBounds i u) := by
  obtain ⟨h1, h2, h3, h4, h5, h6⟩ := h
  exact ⟨(Below.heap_setCell W ⟨gx, i, none⟩ u rb (show rb ≠ gx by omega)).trans h1, (Below.heap_setCell W ⟨gx, i, none⟩ u g (show g ≠ gx by omega)).trans h2, heap_set h3 i u, h4.setCell (show rb ≤ gx by omega) u, h5, h6⟩
theorem PfI.above (h : PfI rb g gx w W R cs) (hb : Below (gx + 1) W W') : PfI rb g gx w W' R cs := by
  obtain ⟨h1, h2, h3, h4, h5, h6⟩ := h
  exact ⟨(hb.block rb (by omega)).trans h1, (hb.block g (by omega)).trans h2, (hb.block gx (by omega)).trans h3, h4.trans (hb.mono (by omega)), h5, h6⟩
theorem PfI.rd (h : PfI rb g gx w W R cs) : RfAt W g R := h.2.1
theorem PfI.cell (h : PfI rb g gx w W R cs) (i : Nat) (u : Value) (hu : cs[i]? = some u) : W.cell? ⟨gx, i, none⟩ = some u := (cells_of_block h.2.2.1).1 i u hu
theorem PfI.froz (h : PfI rb g gx w W R cs) (i : Nat) : W.frozen? ⟨gx, i, none⟩ = false := (cells_of_block h.2.2.1).2.1 i
theorem PfI.lt (h : PfI rb g gx w W R cs) : gx < W.heap.size := (cells_of_block h.2.2.1).2.2
theorem PfI.rcell (h : PfI rb g gx w W R cs) (i : Nat) (u : Value) (hu : zRec[i]? = some u) : W.cell? ⟨rb, i, none⟩ = some u := (cells_of_block h.1).1 i u hu
theorem PfI.rfroz (h : PfI rb g gx w W R cs) (i : Nat) : W.frozen? ⟨rb, i, none⟩ = false := (cells_of_block h.1).2.1 i
theorem PfI.rlt (h : PfI rb g gx w W R cs) : rb < W.heap.size := (cells_of_block h.1).2.2
theorem PfI.ne (h : PfI rb g gx w W R cs) : rb ≠ gx := by
  have := h.2.2.2.2; omega
end
theorem least_z {R : RdS} {m : Int} (h : (R.num m).1 = 0) : R.least m = (0, (R.num m).2.fail 3) := by unfold RdS.least; rw [if_pos h]
theorem least_n {R : RdS} {m : Int} (h : (R.num m).1 ≠ 0) : R.least m = R.num m := by unfold RdS.least; rw [if_neg h]

set_option maxHeartbeats 12800000 in
set_option maxRecDepth 100000 in
theorem rfParse_00 (b : List UInt8) (w : World) (hl : b.length ≤ 1000000) (hk : ((RdS.mk b 0).num 4).1 = 0) (hj : ((pA1 b).2.num 72057594037927935).1 = 0) :
    Calls Tryz.prog 69 #[.string (mkB b)] w fun e w' => ∃ A n c, e = .returned (.tuple #[.agg #[.int .i64 (parseR b).kind, .int .i64 (parseR b).job, .int .i64 (parseR b).task, .int .i64 (parseR b).worker, .int .i64 (parseR b).sched, .int .i64 (parseR b).epoch, .slice A n c], .int .i64 (parseE b)]) ∧ Kd.str.slice.K w' (fun k => w.heap.size ≤ k) (parseR b).needs [.slice A n c] ∧ Below w.heap.size w w' := by
  obtain ⟨n1, h1⟩ : ∃ p, p = (RdS.mk b 0).num 4 := ⟨_, rfl⟩
  obtain ⟨p1, hp1⟩ : ∃ p : Int × RdS, p = (0, n1.2.fail 3) := ⟨_, rfl⟩
  have q1 : pA1 b = p1 := by unfold pA1; rw [least_z hk, hp1, h1]
  rw [← h1] at hk
  rw [q1] at hj
  obtain ⟨n2, h2⟩ : ∃ p, p = p1.2.num 72057594037927935 := ⟨_, rfl⟩
  obtain ⟨p2, hp2⟩ : ∃ p : Int × RdS, p = (0, n2.2.fail 3) := ⟨_, rfl⟩
  have q2 : pA2 b = p2 := by unfold pA2; rw [q1, least_z hj, hp2, h2]
  rw [← h2] at hj
  have hl1 : n1.2.b.length ≤ 1000000 := by have := (RdS.mk b 0).num_len 4; rw [← h1] at this; exact Nat.le_trans this hl
  have hl1' : p1.2.b.length ≤ 1000000 := by rw [hp1]; show (n1.2.fail 3).b.length ≤ _; rw [RdS.fail_len]; exact hl1
  have hl2 : n2.2.b.length ≤ 1000000 := by have := p1.2.num_len 72057594037927935; rw [← h2] at this; exact Nat.le_trans this hl1'
  have hl2' : p2.2.b.length ≤ 1000000 := by rw [hp2]; show (n2.2.fail 3).b.length ≤ _; rw [RdS.fail_len]; exact hl2
  obtain ⟨K, hK⟩ : ∃ K, K = n1.1 := ⟨_, rfl⟩
  have hKp : p1.1 = K := by rw [hp1]; rw [hK, hk]
  obtain ⟨p3, h3⟩ : ∃ p : Int × RdS, p = p2.2.opt (hasF K 1) 15 := ⟨_, rfl⟩
  have q3 : pA3 b = p3 := by unfold pA3; rw [q1, hKp, q2]; exact h3.symm
  have hl3 : p3.2.b.length ≤ 1000000 := by have := p2.2.opt_len (hasF K 1) 15; rw [← h3] at this; exact Nat.le_trans this hl2'
  obtain ⟨p4, h4⟩ : ∃ p : Int × RdS, p = p3.2.opt (hasF K 2) 63 := ⟨_, rfl⟩
  have q4 : pA4 b = p4 := by unfold pA4; rw [q1, hKp, q3]; exact h4.symm
  have hl4 : p4.2.b.length ≤ 1000000 := by have := p3.2.opt_len (hasF K 2) 63; rw [← h4] at this; exact Nat.le_trans this hl3
  obtain ⟨p5, h5⟩ : ∃ p : Int × RdS, p = p4.2.opt (hasF K 4) 7 := ⟨_, rfl⟩
  have q5 : pA5 b = p5 := by unfold pA5; rw [q1, hKp, q4]; exact h5.symm
  have hl5 : p5.2.b.length ≤ 1000000 := by have := p4.2.opt_len (hasF K 4) 7; rw [← h5] at this; exact Nat.le_trans this hl4
  obtain ⟨p6, h6⟩ : ∃ p : Int × RdS, p = p5.2.optLeast (hasF K 8) 9 := ⟨_, rfl⟩
  have q6 : pA6 b = p6 := by unfold pA6; rw [q1, hKp, q5]; exact h6.symm
  have hl6 : p6.2.b.length ≤ 1000000 := by have := p5.2.optLeast_len (hasF K 8) 9; rw [← h6] at this; exact Nat.le_trans this hl5
  obtain ⟨p7, h7⟩ : ∃ p : Int × RdS, p = p6.2.optLeast (hasF K 16) 16 := ⟨_, rfl⟩
  have q7 : pA7 b = p7 := by unfold pA7; rw [q1, hKp, q6]; exact h7.symm
  have hl7 : p7.2.b.length ≤ 1000000 := by have := p6.2.optLeast_len (hasF K 16) 16; rw [← h7] at this; exact Nat.le_trans this hl6
  have hb7 := p6.2.optLeast_0 (hasF K 16) 16
  rw [← h7] at hb7
  obtain ⟨N, hN⟩ : ∃ N, N = p7.1.toNat := ⟨_, rfl⟩
  have hNp : p7.1 = (N : Int) := by omega
  have hN16 : N ≤ 16 := by omega
  have q8 : pA8 b = p7.2.texts N := by unfold pA8; rw [q7, hN]
  have HX := hid (show parseX b = ⟨K, p2.1, p3.1, p4.1, p5.1, p6.1, (p7.2.texts N).1⟩ by unfold parseX; rw [q1, hKp, q2, q3, q4, q5, q6, q8])
  have HE := hid (show parseE b = (p7.2.texts N).2.fin by unfold parseE; rw [q8])
  have HNP := hid hNp
  have HTL := hid (fun m => p7.2.texts_len m)
  have HL := hid hl
  have HP1 := hid hp1
  have HP2 := hid hp2
  have H1 := hid h1
  have H2 := hid h2
  have H3 := hid h3
  have H4 := hid h4
  have H5 := hid h5
  have H6 := hid h6
  have H7 := hid h7
  have HLL := hid (And.intro hl1 (And.intro hl1' (And.intro hl2 (And.intro hl2' (And.intro hl3 (And.intro hl4 (And.intro hl5 (And.intro hl6 hl7))))))))
  have HK := hid hK
  obtain ⟨J, hJ⟩ : ∃ J, J = n2.1 := ⟨_, rfl⟩
  have HJ := hid hJ
  rw [← hK] at hk
  rw [← hJ] at hj
  have hJp : p2.1 = J := by rw [hp2]; rw [hj]
  have HJP := hid hJp
  have k0 : (K == (0 : Int)) = true := by rw [beq_iff_eq]; exact hk
  have j0 : (J == (0 : Int)) = true := by rw [beq_iff_eq]; exact hj
  clear hk hj hKp hJp hK hJ h1 h2 h3 h4 h5 h6 h7 hp1 hp2 q1 q2 q3 q4 q5 q6 q7 q8 hN hNp hb7 hl hl1 hl1' hl2 hl2' hl3 hl4 hl5 hl6 hl7
  go_enter Tryz.func69, Tryz.ntmps69
  go_wp2_with fail
  have R0 := hid (show RfAt ((w.alloc (.cells zRec 46)).alloc (.cells #[.string (mkB b), .int .i64 0] 141)) (w.heap.size + 1) ⟨b, 0⟩ from heap_at (by simp))
  refine (rfNum_calls (w.heap.size + 1) ⟨b, 0⟩ 4 _ R0.out HL.out).mono ?_
  rintro e w2 ⟨rfl, hA2, hM2⟩
  rw [← H1.out] at hA2 ⊢
  rw [← HK.out]
  have I0 : PfI w.heap.size (w.heap.size + 1) w2.heap.size w (w2.alloc (.cells #[.int .i64 (K), .int .i64 (0), .int .i64 (0), .int .i64 (0), .int .i64 (0), .int .i64 (0), .slice none 0 0] 46)) n1.2 #[.int .i64 (K), .int .i64 (0), .int .i64 (0), .int .i64 (0), .int .i64 (0), .int .i64 (0), .slice none 0 0] := by
    have s2 := hM2.size
    simp at s2
    have hrb : w2.heap[w.heap.size]? = some (.cells zRec 46 (0, 0)) := (hM2.block _ (by simp; omega) (by omega)).trans (heap_old (by simp) (heap_at rfl))
    exact ⟨heap_old (by omega) hrb, hA2.below ((Below.refl _ _).alloc (Nat.le_refl _) _), heap_alloc_new w2 _, ((bAlloc (bAlloc (Below.refl _ _) _) _).trans (hM2.below (fun k _ hk => by subst hk; omega) (by simp; omega))).alloc (by omega) _, by omega, by omega⟩
  have I0h := hid I0
  have x0 := I0.cell 0 (.int .i64 K) rfl
  clear I0 hA2 hM2 R0
  go_wp2_with fail
  refine (rfFail_calls _ n1.2 3 _ I0h.out.rd).mono ?_
  rintro e w3 ⟨rfl, hA3, hM3⟩
  rw [show n1.2.fail 3 = p1.2 by rw [HP1.out]] at hA3
  have I1h := hid (I0h.out.call hA3 hM3)
  have x101 := I1h.out.cell 0 (.int .i64 K) rfl
  clear hA3 hM3
  go_wp2_with fail
  refine (rfNum_calls _ p1.2 72057594037927935 _ I1h.out.rd HLL.out.2.1).mono ?_
  rintro e w4 ⟨rfl, hA4, hM4⟩
  rw [← H2.out] at hA4 ⊢
  rw [← HJ.out]
  have I2 := I1h.out.call hA4 hM4
  have y2 := I2.cell 1 (.int .i64 0) rfl
  have f2 := I2.froz 1
  have l2 := I2.lt
  have I2h := hid (show PfI w.heap.size (w.heap.size + 1) w2.heap.size w _ n2.2 #[.int .i64 (K), .int .i64 (J), .int .i64 (0), .int .i64 (0), .int .i64 (0), .int .i64 (0), .slice none 0 0] from I2.set 1 (.int .i64 J))
  have u2 := I2h.out.cell 0 (.int .i64 K) rfl
  have v2 := I2h.out.cell 1 (.int .i64 J) rfl
  clear I2 hA4 hM4
  go_wp2_with fail
  refine (rfFail_calls _ n2.2 3 _ I2h.out.rd).mono ?_
  rintro e w5 ⟨rfl, hA5, hM5⟩
  rw [show n2.2.fail 3 = p2.2 by rw [HP2.out]] at hA5
  have I3h := hid (I2h.out.call hA5 hM5)
  have u3 := I3h.out.cell 0 (.int .i64 K) rfl
  clear hA5 hM5
  go_wp2_with fail
  refine (rfField0_calls _ p2.2 K 0 1 15 _ I3h.out.rd HLL.out.2.2.2.1 (by decide) (by decide)).mono ?_
  rintro e w6 ⟨rfl, hA6, hM6⟩
  rw [show p2.2.opt (hasF K (2 ^ 0)) 15 = p3 from H3.out.symm] at hA6 ⊢
  have I4 := I3h.out.call hA6 hM6
  have y4 := I4.cell 2 (.int .i64 0) rfl
  have f4 := I4.froz 2
  have l4 := I4.lt
  have I4h := hid (show PfI w.heap.size (w.heap.size + 1) w2.heap.size w _ p3.2 #[.int .i64 (K), .int .i64 (J), .int .i64 (p3.1), .int .i64 (0), .int .i64 (0), .int .i64 (0), .slice none 0 0] from I4.set 2 (.int .i64 p3.1))
  have u4 := I4h.out.cell 0 (.int .i64 K) rfl
  have v4 := I4h.out.cell 1 (.int .i64 J) rfl
  clear I4 hA6 hM6
  go_wp2_with fail
  refine (rfField0_calls _ p3.2 K 1 2 63 _ I4h.out.rd HLL.out.2.2.2.2.1 (by decide) (by decide)).mono ?_
  rintro e w7 ⟨rfl, hA7, hM7⟩
  rw [show p3.2.opt (hasF K (2 ^ 1)) 63 = p4 from H4.out.symm] at hA7 ⊢
  have I5 := I4h.out.call hA7 hM7
  have y5 := I5.cell 3 (.int .i64 0) rfl
  have f5 := I5.froz 3
  have l5 := I5.lt
  have I5h := hid (show PfI w.heap.size (w.heap.size + 1) w2.heap.size w _ p4.2 #[.int .i64 (K), .int .i64 (J), .int .i64 (p3.1), .int .i64 (p4.1), .int .i64 (0), .int .i64 (0), .slice none 0 0] from I5.set 3 (.int .i64 p4.1))
  have u5 := I5h.out.cell 0 (.int .i64 K) rfl
  have v5 := I5h.out.cell 1 (.int .i64 J) rfl
  clear I5 hA7 hM7
  go_wp2_with fail
  refine (rfField0_calls _ p4.2 K 2 3 7 _ I5h.out.rd HLL.out.2.2.2.2.2.1 (by decide) (by decide)).mono ?_
  rintro e w8 ⟨rfl, hA8, hM8⟩
  rw [show p4.2.opt (hasF K (2 ^ 2)) 7 = p5 from H5.out.symm] at hA8 ⊢
  have I6 := I5h.out.call hA8 hM8
  have y6 := I6.cell 4 (.int .i64 0) rfl
  have f6 := I6.froz 4
  have l6 := I6.lt
  have I6h := hid (show PfI w.heap.size (w.heap.size + 1) w2.heap.size w _ p5.2 #[.int .i64 (K), .int .i64 (J), .int .i64 (p3.1), .int .i64 (p4.1), .int .i64 (p5.1), .int .i64 (0), .slice none 0 0] from I6.set 4 (.int .i64 p5.1))
  have u6 := I6h.out.cell 0 (.int .i64 K) rfl
  have v6 := I6h.out.cell 1 (.int .i64 J) rfl
  clear I6 hA8 hM8
  go_wp2_with fail
  refine (rfField1_calls _ p5.2 K 3 4 9 _ I6h.out.rd HLL.out.2.2.2.2.2.2.1 (by decide) (by decide)).mono ?_
  rintro e w9 ⟨rfl, hA9, hM9⟩
  rw [show p5.2.optLeast (hasF K (2 ^ 3)) 9 = p6 from H6.out.symm] at hA9 ⊢
  have I7 := I6h.out.call hA9 hM9
  have y7 := I7.cell 5 (.int .i64 0) rfl
  have f7 := I7.froz 5
  have l7 := I7.lt
  have I7h := hid (show PfI w.heap.size (w.heap.size + 1) w2.heap.size w _ p6.2 #[.int .i64 (K), .int .i64 (J), .int .i64 (p3.1), .int .i64 (p4.1), .int .i64 (p5.1), .int .i64 (p6.1), .slice none 0 0] from I7.set 5 (.int .i64 p6.1))
  have u7 := I7h.out.cell 0 (.int .i64 K) rfl
  have v7 := I7h.out.cell 1 (.int .i64 J) rfl
  clear I7 hA9 hM9
  go_wp2_with fail
  refine (rfField1_calls _ p6.2 K 4 5 16 _ I7h.out.rd HLL.out.2.2.2.2.2.2.2.1 (by decide) (by decide)).mono ?_
  rintro e w10 ⟨rfl, hA10, hM10⟩
  rw [show p6.2.optLeast (hasF K (2 ^ 4)) 16 = p7 from H7.out.symm] at hA10 ⊢
  rw [HNP.out]
  have I8h := hid (I7h.out.call hA10 hM10)
  clear hA10 hM10
  go_wp2_with fail
  go_loopw [7] (fun nv wr => ∃ (m : Nat) (A : Option Addr) (n c : Nat), m ≤ N ∧ nv = .int .i64 m ∧ Hid (PfI w.heap.size (w.heap.size + 1) w2.heap.size w wr (p7.2.texts m).2 #[.int .i64 (K), .int .i64 (J), .int .i64 (p3.1), .int .i64 (p4.1), .int .i64 (p5.1), .int .i64 (p6.1), .slice A n c]) ∧ Hid (Own Kd.str 9 wr (w2.heap.size + 1) NoT (.slice A n c) (p7.2.texts m).1)) (fun nv _ => N - (intOf nv).toNat)
  case atStart => exact ⟨0, none, 0, 0, by omega, rfl, I8h, Own.nil _ _ _ _ _⟩
  case round =>
    obtain ⟨m, A, n, c, hm, rfl, HI, HO⟩ := hrel
    by_cases hlt : m < N
    · have x6 := HI.out.cell 6 (.slice A n c) rfl
      have l6 := HI.out.lt
      have HLN := hid (HTL.out m).2
      have HLB := hid (Nat.le_trans (HTL.out m).1 HLL.out.2.2.2.2.2.2.2.2)
      go_wp2_with fail
      go_region_law (first
        | (refine appends_step Kd.str (w2.heap.size + 1) rfl _ _ 44 9 _ 16 rfl Tryz.underlying44 Tryz.infoStrP rfl (by decide) (by decide) (.slice A n c) (p7.2.texts m).1 [mkB ((p7.2.texts m).2.text 200).1] (some ⟨w9.heap.size, 0, none⟩) 1 1 NoT (fun k => k = w9.heap.size) NoT rfl rfl rfl (row_one (d := Kd.str) (te := 9) (fr := (0, 0)) (cs := [.string (mkB ((p7.2.texts m).2.text 200).1)]) (heap_at rfl) (fun _ => rfl)) (fun _ _ h => h) (fun _ h => h.elim) (O4.out.below (bAlloc (Below.refl _ _) _)) (by have := I4.out.lt; simp; omega) (by rw [HLN.out]; omega) ?_; intro v1 w7 hO1 hg1 hat; obtain ⟨A1, m1, c1, rfl, hm1, hc1⟩ := hO1.shape'; have I5 := hid (I4.out.above ((Below.refl _ _).alloc (Nat.succ_le_of_lt I4.out.lt) _ |>.grown hg1 (by have := I4.out.lt; simp; omega) (fun k hk => (O4.out.lt k hk).1))); have O5 := hid hO1; have y8 := I5.out.cell 6 (.slice A n c) rfl; have f8 := I5.out.froz 6; have l8 := I5.out.lt; clear hO1 hg1 hat hm1 hc1)
        | (go_simp; refine (rfText_calls _ (p7.2.texts m).2 200 _ (HI.out.above (Below.refl _ _).drew).rd HLB.out).mono ?_; rintro e w9 ⟨rfl, hA6, hM6⟩; have I4 := hid ((HI.out.above (Below.refl _ _).drew).call hA6 hM6); have O4 := hid ((HO.out.below (Below.refl _ _).drew).move (w1 := w9) (fun b hb hl => hM6.block b hl (by rcases hb with hb | hb; exact hb.elim; have := (HO.out.lt b hb).1; have := HI.out.2.2.2.2; omega)) (fun _ h _ => h)); have y6 := I4.out.cell 6 (.slice A n c) rfl; have y7 := fun o => (I4.out.above ((Below.refl _ _).alloc (Nat.succ_le_of_lt I4.out.lt) o)).cell 6 (.slice A n c) rfl; clear hA6 hM6)
        | fail)
      all_goals
        go_wp2
        go_roundw
        case rel => exact ⟨m + 1, _, _, _, by omega, by go_num, I5.out.set 6 _, O5.out.setCell (p := ⟨w2.heap.size, 6, none⟩) (fun h => h) (fun e => by have := (O5.out.lt _ e).1; simp at this; omega) _⟩
        case measure => simp [intOf]; omega
    · obtain rfl : N = m := by omega
      have HLB := hid (Nat.le_trans (HTL.out N).1 HLL.out.2.2.2.2.2.2.2.2)
      go_wp2_with fail
      refine (rfEnd_calls _ _ _ HI.out.rd HLB.out).mono ?_
      rintro e w' ⟨rfl, rfl⟩
      rw [← HE.out]
      obtain ⟨E, hE⟩ : ∃ E, E = parseE b := ⟨_, rfl⟩
      rw [← hE]
      have HEE := hid hE

      have r0 := HI.out.rcell 0 (.int .i64 0) rfl
      have r1 := HI.out.rcell 1 (.int .i64 0) rfl
      have r2 := HI.out.rcell 2 (.int .i64 0) rfl
      have r3 := HI.out.rcell 3 (.int .i64 0) rfl
      have r4 := HI.out.rcell 4 (.int .i64 0) rfl
      have r5 := HI.out.rcell 5 (.int .i64 0) rfl
      have r6 := HI.out.rcell 6 (.slice none 0 0) rfl
      have s0 := HI.out.rfroz 0
      have s1 := HI.out.rfroz 1
      have s2 := HI.out.rfroz 2
      have s3 := HI.out.rfroz 3
      have s4 := HI.out.rfroz 4
      have s5 := HI.out.rfroz 5
      have s6 := HI.out.rfroz 6
      have z0 := HI.out.cell 0 (.int .i64 (K)) rfl
      have z1 := HI.out.cell 1 (.int .i64 (J)) rfl
      have z2 := HI.out.cell 2 (.int .i64 (p3.1)) rfl
      have z3 := HI.out.cell 3 (.int .i64 (p4.1)) rfl
      have z4 := HI.out.cell 4 (.int .i64 (p5.1)) rfl
      have z5 := HI.out.cell 5 (.int .i64 (p6.1)) rfl
      have z6 := HI.out.cell 6 (.slice A n c) rfl
      have rl := HI.out.rlt
      have hbw := hid HI.out.2.2.2.1
      have hne := HI.out.ne
      by_cases hz : E = 0
      · have e0 : (E == (0 : Int)) = true := by rw [beq_iff_eq]; exact hz
        have e1 : (E != (0 : Int)) = false := by rw [bne_eq_false_iff_eq]; exact hz
        have HP := hid (show parseR b = ⟨K, p2.1, p3.1, p4.1, p5.1, p6.1, (p7.2.texts N).1⟩ by unfold parseR; rw [if_pos (by rw [← hE]; exact hz)]; exact HX.out)
        have HZ := hid hz
        clear hz hE
        obtain ⟨W', hW, T0, T1, T2, T3, T4, T5, T6, TB, TN⟩ := set7 HI.out.1 (.int .i64 (K)) (.int .i64 (J)) (.int .i64 (p3.1)) (.int .i64 (p4.1)) (.int .i64 (p5.1)) (.int .i64 (p6.1)) (.slice A n c)
        have TB2 := hid (hbw.out.trans TB)
        have TK := hid (Own.K (HO.out.move (w1 := W') (fun k hk hl => TN k (by rcases hk with hk | hk; exact hk.elim; have := (HO.out.lt k hk).1; have := HI.out.2.2.2.2; omega)) (fun _ h _ => h)))
        have HG := hid HI.out.2.2.2.2
        clear TB TN
        go_wp2
        rw [← hW]
        refine bodyPost_ret (by simp [results, Tryz.results69, go_sem, T0, T1, T2, T3, T4, T5, T6]; try rfl) rfl ?_
        rw [HP.out]
        exact ⟨A, n, c, by rw [← HEE.out, HZ.out, HJP.out], Kd.mono _ (fun k hk _ => by rcases hk with hk | hk; exact hk.elim; have := HG.out; omega) TK.out, TB2.out⟩
      · have e0 : (E == (0 : Int)) = false := by rw [beq_eq_false_iff_ne]; exact hz
        have e1 : (E != (0 : Int)) = true := by rw [bne_iff_ne]; exact hz
        have HP := hid (show parseR b = ⟨0, 0, 0, 0, 0, 0, []⟩ by unfold parseR; rw [if_neg (by rw [← hE]; exact hz)]; rfl)
        clear hz hE
        obtain ⟨W', hW, T0, T1, T2, T3, T4, T5, T6, TB, TN⟩ := set7 HI.out.1 (.int .i64 0) (.int .i64 0) (.int .i64 0) (.int .i64 0) (.int .i64 0) (.int .i64 0) (.slice none 0 0)
        have TB2 := hid (hbw.out.trans TB)
        clear TB TN
        go_wp2
        rw [← hW]
        refine bodyPost_ret (by simp [results, Tryz.results69, go_sem, T0, T1, T2, T3, T4, T5, T6]; try rfl) rfl ?_
        rw [HP.out]
        exact ⟨none, 0, 0, by rw [← HEE.out], ⟨none, 0, rfl, by simp, by simp, Kd.Row.nil⟩, TB2.out⟩

set_option maxHeartbeats 12800000 in
set_option maxRecDepth 100000 in
theorem rfParse_01 (b : List UInt8) (w : World) (hl : b.length ≤ 1000000) (hk : ((RdS.mk b 0).num 4).1 = 0) (hj : ((pA1 b).2.num 72057594037927935).1 ≠ 0) :
    Calls Tryz.prog 69 #[.string (mkB b)] w fun e w' => ∃ A n c, e = .returned (.tuple #[.agg #[.int .i64 (parseR b).kind, .int .i64 (parseR b).job, .int .i64 (parseR b).task, .int .i64 (parseR b).worker, .int .i64 (parseR b).sched, .int .i64 (parseR b).epoch, .slice A n c], .int .i64 (parseE b)]) ∧ Kd.str.slice.K w' (fun k => w.heap.size ≤ k) (parseR b).needs [.slice A n c] ∧ Below w.heap.size w w' := by
  obtain ⟨n1, h1⟩ : ∃ p, p = (RdS.mk b 0).num 4 := ⟨_, rfl⟩
  obtain ⟨p1, hp1⟩ : ∃ p : Int × RdS, p = (0, n1.2.fail 3) := ⟨_, rfl⟩
  have q1 : pA1 b = p1 := by unfold pA1; rw [least_z hk, hp1, h1]
  rw [← h1] at hk
  rw [q1] at hj
  obtain ⟨n2, h2⟩ : ∃ p, p = p1.2.num 72057594037927935 := ⟨_, rfl⟩
  obtain ⟨p2, hp2⟩ : ∃ p : Int × RdS, p = n2 := ⟨_, rfl⟩
  have q2 : pA2 b = p2 := by unfold pA2; rw [q1, least_n hj, hp2, h2]
  rw [← h2] at hj
  have hl1 : n1.2.b.length ≤ 1000000 := by have := (RdS.mk b 0).num_len 4; rw [← h1] at this; exact Nat.le_trans this hl
  have hl1' : p1.2.b.length ≤ 1000000 := by rw [hp1]; show (n1.2.fail 3).b.length ≤ _; rw [RdS.fail_len]; exact hl1
  have hl2 : n2.2.b.length ≤ 1000000 := by have := p1.2.num_len 72057594037927935; rw [← h2] at this; exact Nat.le_trans this hl1'
  have hl2' : p2.2.b.length ≤ 1000000 := by rw [hp2]; exact hl2
  obtain ⟨K, hK⟩ : ∃ K, K = n1.1 := ⟨_, rfl⟩
  have hKp : p1.1 = K := by rw [hp1]; rw [hK, hk]
  obtain ⟨p3, h3⟩ : ∃ p : Int × RdS, p = p2.2.opt (hasF K 1) 15 := ⟨_, rfl⟩
  have q3 : pA3 b = p3 := by unfold pA3; rw [q1, hKp, q2]; exact h3.symm
  have hl3 : p3.2.b.length ≤ 1000000 := by have := p2.2.opt_len (hasF K 1) 15; rw [← h3] at this; exact Nat.le_trans this hl2'
  obtain ⟨p4, h4⟩ : ∃ p : Int × RdS, p = p3.2.opt (hasF K 2) 63 := ⟨_, rfl⟩
  have q4 : pA4 b = p4 := by unfold pA4; rw [q1, hKp, q3]; exact h4.symm
  have hl4 : p4.2.b.length ≤ 1000000 := by have := p3.2.opt_len (hasF K 2) 63; rw [← h4] at this; exact Nat.le_trans this hl3
  obtain ⟨p5, h5⟩ : ∃ p : Int × RdS, p = p4.2.opt (hasF K 4) 7 := ⟨_, rfl⟩
  have q5 : pA5 b = p5 := by unfold pA5; rw [q1, hKp, q4]; exact h5.symm
  have hl5 : p5.2.b.length ≤ 1000000 := by have := p4.2.opt_len (hasF K 4) 7; rw [← h5] at this; exact Nat.le_trans this hl4
  obtain ⟨p6, h6⟩ : ∃ p : Int × RdS, p = p5.2.optLeast (hasF K 8) 9 := ⟨_, rfl⟩
  have q6 : pA6 b = p6 := by unfold pA6; rw [q1, hKp, q5]; exact h6.symm
  have hl6 : p6.2.b.length ≤ 1000000 := by have := p5.2.optLeast_len (hasF K 8) 9; rw [← h6] at this; exact Nat.le_trans this hl5
  obtain ⟨p7, h7⟩ : ∃ p : Int × RdS, p = p6.2.optLeast (hasF K 16) 16 := ⟨_, rfl⟩
  have q7 : pA7 b = p7 := by unfold pA7; rw [q1, hKp, q6]; exact h7.symm
  have hl7 : p7.2.b.length ≤ 1000000 := by have := p6.2.optLeast_len (hasF K 16) 16; rw [← h7] at this; exact Nat.le_trans this hl6
  have hb7 := p6.2.optLeast_0 (hasF K 16) 16
  rw [← h7] at hb7
  obtain ⟨N, hN⟩ : ∃ N, N = p7.1.toNat := ⟨_, rfl⟩
  have hNp : p7.1 = (N : Int) := by omega
  have hN16 : N ≤ 16 := by omega
  have q8 : pA8 b = p7.2.texts N := by unfold pA8; rw [q7, hN]
  have HX := hid (show parseX b = ⟨K, p2.1, p3.1, p4.1, p5.1, p6.1, (p7.2.texts N).1⟩ by unfold parseX; rw [q1, hKp, q2, q3, q4, q5, q6, q8])
  have HE := hid (show parseE b = (p7.2.texts N).2.fin by unfold parseE; rw [q8])
  have HNP := hid hNp
  have HTL := hid (fun m => p7.2.texts_len m)
  have HL := hid hl
  have HP1 := hid hp1
  have HP2 := hid hp2
  have H1 := hid h1
  have H2 := hid h2
  have H3 := hid h3
  have H4 := hid h4
  have H5 := hid h5
  have H6 := hid h6
  have H7 := hid h7
  have HLL := hid (And.intro hl1 (And.intro hl1' (And.intro hl2 (And.intro hl2' (And.intro hl3 (And.intro hl4 (And.intro hl5 (And.intro hl6 hl7))))))))
  have HK := hid hK
  obtain ⟨J, hJ⟩ : ∃ J, J = n2.1 := ⟨_, rfl⟩
  have HJ := hid hJ
  rw [← hK] at hk
  rw [← hJ] at hj
  have hJp : p2.1 = J := by rw [hp2, hJ]
  have HJP := hid hJp
  have k0 : (K == (0 : Int)) = true := by rw [beq_iff_eq]; exact hk
  have j0 : (J == (0 : Int)) = false := by rw [beq_eq_false_iff_ne]; exact hj
  clear hk hj hKp hJp hK hJ h1 h2 h3 h4 h5 h6 h7 hp1 hp2 q1 q2 q3 q4 q5 q6 q7 q8 hN hNp hb7 hl hl1 hl1' hl2 hl2' hl3 hl4 hl5 hl6 hl7
  go_enter Tryz.func69, Tryz.ntmps69
  go_wp2_with fail
  have R0 := hid (show RfAt ((w.alloc (.cells zRec 46)).alloc (.cells #[.string (mkB b), .int .i64 0] 141)) (w.heap.size + 1) ⟨b, 0⟩ from heap_at (by simp))
  refine (rfNum_calls (w.heap.size + 1) ⟨b, 0⟩ 4 _ R0.out HL.out).mono ?_
  rintro e w2 ⟨rfl, hA2, hM2⟩
  rw [← H1.out] at hA2 ⊢
  rw [← HK.out]
  have I0 : PfI w.heap.size (w.heap.size + 1) w2.heap.size w (w2.alloc (.cells #[.int .i64 (K), .int .i64 (0), .int .i64 (0), .int .i64 (0), .int .i64 (0), .int .i64 (0), .slice none 0 0] 46)) n1.2 #[.int .i64 (K), .int .i64 (0), .int .i64 (0), .int .i64 (0), .int .i64 (0), .int .i64 (0), .slice none 0 0] := by
    have s2 := hM2.size
    simp at s2
    have hrb : w2.heap[w.heap.size]? = some (.cells zRec 46 (0, 0)) := (hM2.block _ (by simp; omega) (by omega)).trans (heap_old (by simp) (heap_at rfl))
    exact ⟨heap_old (by omega) hrb, hA2.below ((Below.refl _ _).alloc (Nat.le_refl _) _), heap_alloc_new w2 _, ((bAlloc (bAlloc (Below.refl _ _) _) _).trans (hM2.below (fun k _ hk => by subst hk; omega) (by simp; omega))).alloc (by omega) _, by omega, by omega⟩
  have I0h := hid I0
  have x0 := I0.cell 0 (.int .i64 K) rfl
  clear I0 hA2 hM2 R0
  go_wp2_with fail
  refine (rfFail_calls _ n1.2 3 _ I0h.out.rd).mono ?_
  rintro e w3 ⟨rfl, hA3, hM3⟩
  rw [show n1.2.fail 3 = p1.2 by rw [HP1.out]] at hA3
  have I1h := hid (I0h.out.call hA3 hM3)
  have x101 := I1h.out.cell 0 (.int .i64 K) rfl
  clear hA3 hM3
  go_wp2_with fail
  refine (rfNum_calls _ p1.2 72057594037927935 _ I1h.out.rd HLL.out.2.1).mono ?_
  rintro e w4 ⟨rfl, hA4, hM4⟩
  rw [← H2.out] at hA4 ⊢
  rw [← HJ.out]
  have I2 := I1h.out.call hA4 hM4
  have y2 := I2.cell 1 (.int .i64 0) rfl
  have f2 := I2.froz 1
  have l2 := I2.lt
  have I2h := hid (show PfI w.heap.size (w.heap.size + 1) w2.heap.size w _ n2.2 #[.int .i64 (K), .int .i64 (J), .int .i64 (0), .int .i64 (0), .int .i64 (0), .int .i64 (0), .slice none 0 0] from I2.set 1 (.int .i64 J))
  have u2 := I2h.out.cell 0 (.int .i64 K) rfl
  have v2 := I2h.out.cell 1 (.int .i64 J) rfl
  clear I2 hA4 hM4
  rw [show n2.2 = p2.2 by rw [HP2.out]] at I2h
  go_wp2_with fail
  refine (rfField0_calls _ p2.2 K 0 1 15 _ I2h.out.rd HLL.out.2.2.2.1 (by decide) (by decide)).mono ?_
  rintro e w5 ⟨rfl, hA5, hM5⟩
  rw [show p2.2.opt (hasF K (2 ^ 0)) 15 = p3 from H3.out.symm] at hA5 ⊢
  have I3 := I2h.out.call hA5 hM5
  have y3 := I3.cell 2 (.int .i64 0) rfl
  have f3 := I3.froz 2
  have l3 := I3.lt
  have I3h := hid (show PfI w.heap.size (w.heap.size + 1) w2.heap.size w _ p3.2 #[.int .i64 (K), .int .i64 (J), .int .i64 (p3.1), .int .i64 (0), .int .i64 (0), .int .i64 (0), .slice none 0 0] from I3.set 2 (.int .i64 p3.1))
  have u3 := I3h.out.cell 0 (.int .i64 K) rfl
  have v3 := I3h.out.cell 1 (.int .i64 J) rfl
  clear I3 hA5 hM5
  go_wp2_with fail
  refine (rfField0_calls _ p3.2 K 1 2 63 _ I3h.out.rd HLL.out.2.2.2.2.1 (by decide) (by decide)).mono ?_
  rintro e w6 ⟨rfl, hA6, hM6⟩
  rw [show p3.2.opt (hasF K (2 ^ 1)) 63 = p4 from H4.out.symm] at hA6 ⊢
  have I4 := I3h.out.call hA6 hM6
  have y4 := I4.cell 3 (.int .i64 0) rfl
  have f4 := I4.froz 3
  have l4 := I4.lt
  have I4h := hid (show PfI w.heap.size (w.heap.size + 1) w2.heap.size w _ p4.2 #[.int .i64 (K), .int .i64 (J), .int .i64 (p3.1), .int .i64 (p4.1), .int .i64 (0), .int .i64 (0), .slice none 0 0] from I4.set 3 (.int .i64 p4.1))
  have u4 := I4h.out.cell 0 (.int .i64 K) rfl
  have v4 := I4h.out.cell 1 (.int .i64 J) rfl
  clear I4 hA6 hM6
  go_wp2_with fail
  refine (rfField0_calls _ p4.2 K 2 3 7 _ I4h.out.rd HLL.out.2.2.2.2.2.1 (by decide) (by decide)).mono ?_
  rintro e w7 ⟨rfl, hA7, hM7⟩
  rw [show p4.2.opt (hasF K (2 ^ 2)) 7 = p5 from H5.out.symm] at hA7 ⊢
  have I5 := I4h.out.call hA7 hM7
  have y5 := I5.cell 4 (.int .i64 0) rfl
  have f5 := I5.froz 4
  have l5 := I5.lt
  have I5h := hid (show PfI w.heap.size (w.heap.size + 1) w2.heap.size w _ p5.2 #[.int .i64 (K), .int .i64 (J), .int .i64 (p3.1), .int .i64 (p4.1), .int .i64 (p5.1), .int .i64 (0), .slice none 0 0] from I5.set 4 (.int .i64 p5.1))
  have u5 := I5h.out.cell 0 (.int .i64 K) rfl
  have v5 := I5h.out.cell 1 (.int .i64 J) rfl
  clear I5 hA7 hM7
  go_wp2_with fail
  refine (rfField1_calls _ p5.2 K 3 4 9 _ I5h.out.rd HLL.out.2.2.2.2.2.2.1 (by decide) (by decide)).mono ?_
  rintro e w8 ⟨rfl, hA8, hM8⟩
  rw [show p5.2.optLeast (hasF K (2 ^ 3)) 9 = p6 from H6.out.symm] at hA8 ⊢
  have I6 := I5h.out.call hA8 hM8
  have y6 := I6.cell 5 (.int .i64 0) rfl
  have f6 := I6.froz 5
  have l6 := I6.lt
  have I6h := hid (show PfI w.heap.size (w.heap.size + 1) w2.heap.size w _ p6.2 #[.int .i64 (K), .int .i64 (J), .int .i64 (p3.1), .int .i64 (p4.1), .int .i64 (p5.1), .int .i64 (p6.1), .slice none 0 0] from I6.set 5 (.int .i64 p6.1))
  have u6 := I6h.out.cell 0 (.int .i64 K) rfl
  have v6 := I6h.out.cell 1 (.int .i64 J) rfl
  clear I6 hA8 hM8
  go_wp2_with fail
  refine (rfField1_calls _ p6.2 K 4 5 16 _ I6h.out.rd HLL.out.2.2.2.2.2.2.2.1 (by decide) (by decide)).mono ?_
  rintro e w9 ⟨rfl, hA9, hM9⟩
  rw [show p6.2.optLeast (hasF K (2 ^ 4)) 16 = p7 from H7.out.symm] at hA9 ⊢
  rw [HNP.out]
  have I7h := hid (I6h.out.call hA9 hM9)
  clear hA9 hM9
  go_wp2_with fail
  go_loopw [7] (fun nv wr => ∃ (m : Nat) (A : Option Addr) (n c : Nat), m ≤ N ∧ nv = .int .i64 m ∧ Hid (PfI w.heap.size (w.heap.size + 1) w2.heap.size w wr (p7.2.texts m).2 #[.int .i64 (K), .int .i64 (J), .int .i64 (p3.1), .int .i64 (p4.1), .int .i64 (p5.1), .int .i64 (p6.1), .slice A n c]) ∧ Hid (Own Kd.str 9 wr (w2.heap.size + 1) NoT (.slice A n c) (p7.2.texts m).1)) (fun nv _ => N - (intOf nv).toNat)
  case atStart => exact ⟨0, none, 0, 0, by omega, rfl, I7h, Own.nil _ _ _ _ _⟩
  case round =>
    obtain ⟨m, A, n, c, hm, rfl, HI, HO⟩ := hrel
    by_cases hlt : m < N
    · have x6 := HI.out.cell 6 (.slice A n c) rfl
      have l6 := HI.out.lt
      have HLN := hid (HTL.out m).2
      have HLB := hid (Nat.le_trans (HTL.out m).1 HLL.out.2.2.2.2.2.2.2.2)
      go_wp2_with fail
      go_region_law (first
        | (refine appends_step Kd.str (w2.heap.size + 1) rfl _ _ 44 9 _ 16 rfl Tryz.underlying44 Tryz.infoStrP rfl (by decide) (by decide) (.slice A n c) (p7.2.texts m).1 [mkB ((p7.2.texts m).2.text 200).1] (some ⟨w9.heap.size, 0, none⟩) 1 1 NoT (fun k => k = w9.heap.size) NoT rfl rfl rfl (row_one (d := Kd.str) (te := 9) (fr := (0, 0)) (cs := [.string (mkB ((p7.2.texts m).2.text 200).1)]) (heap_at rfl) (fun _ => rfl)) (fun _ _ h => h) (fun _ h => h.elim) (O4.out.below (bAlloc (Below.refl _ _) _)) (by have := I4.out.lt; simp; omega) (by rw [HLN.out]; omega) ?_; intro v1 w7 hO1 hg1 hat; obtain ⟨A1, m1, c1, rfl, hm1, hc1⟩ := hO1.shape'; have I5 := hid (I4.out.above ((Below.refl _ _).alloc (Nat.succ_le_of_lt I4.out.lt) _ |>.grown hg1 (by have := I4.out.lt; simp; omega) (fun k hk => (O4.out.lt k hk).1))); have O5 := hid hO1; have y8 := I5.out.cell 6 (.slice A n c) rfl; have f8 := I5.out.froz 6; have l8 := I5.out.lt; clear hO1 hg1 hat hm1 hc1)
        | (go_simp; refine (rfText_calls _ (p7.2.texts m).2 200 _ (HI.out.above (Below.refl _ _).drew).rd HLB.out).mono ?_; rintro e w9 ⟨rfl, hA6, hM6⟩; have I4 := hid ((HI.out.above (Below.refl _ _).drew).call hA6 hM6); have O4 := hid ((HO.out.below (Below.refl _ _).drew).move (w1 := w9) (fun b hb hl => hM6.block b hl (by rcases hb with hb | hb; exact hb.elim; have := (HO.out.lt b hb).1; have := HI.out.2.2.2.2; omega)) (fun _ h _ => h)); have y6 := I4.out.cell 6 (.slice A n c) rfl; have y7 := fun o => (I4.out.above ((Below.refl _ _).alloc (Nat.succ_le_of_lt I4.out.lt) o)).cell 6 (.slice A n c) rfl; clear hA6 hM6)
        | fail)
      all_goals
        go_wp2
        go_roundw
        case rel => exact ⟨m + 1, _, _, _, by omega, by go_num, I5.out.set 6 _, O5.out.setCell (p := ⟨w2.heap.size, 6, none⟩) (fun h => h) (fun e => by have := (O5.out.lt _ e).1; simp at this; omega) _⟩
        case measure => simp [intOf]; omega
    · obtain rfl : N = m := by omega
      have HLB := hid (Nat.le_trans (HTL.out N).1 HLL.out.2.2.2.2.2.2.2.2)
      go_wp2_with fail
      refine (rfEnd_calls _ _ _ HI.out.rd HLB.out).mono ?_
      rintro e w' ⟨rfl, rfl⟩
      rw [← HE.out]
      obtain ⟨E, hE⟩ : ∃ E, E = parseE b := ⟨_, rfl⟩
      rw [← hE]
      have HEE := hid hE

      have r0 := HI.out.rcell 0 (.int .i64 0) rfl
      have r1 := HI.out.rcell 1 (.int .i64 0) rfl
      have r2 := HI.out.rcell 2 (.int .i64 0) rfl
      have r3 := HI.out.rcell 3 (.int .i64 0) rfl
      have r4 := HI.out.rcell 4 (.int .i64 0) rfl
      have r5 := HI.out.rcell 5 (.int .i64 0) rfl
      have r6 := HI.out.rcell 6 (.slice none 0 0) rfl
      have s0 := HI.out.rfroz 0
      have s1 := HI.out.rfroz 1
      have s2 := HI.out.rfroz 2
      have s3 := HI.out.rfroz 3
      have s4 := HI.out.rfroz 4
      have s5 := HI.out.rfroz 5
      have s6 := HI.out.rfroz 6
      have z0 := HI.out.cell 0 (.int .i64 (K)) rfl
      have z1 := HI.out.cell 1 (.int .i64 (J)) rfl
      have z2 := HI.out.cell 2 (.int .i64 (p3.1)) rfl
      have z3 := HI.out.cell 3 (.int .i64 (p4.1)) rfl
      have z4 := HI.out.cell 4 (.int .i64 (p5.1)) rfl
      have z5 := HI.out.cell 5 (.int .i64 (p6.1)) rfl
      have z6 := HI.out.cell 6 (.slice A n c) rfl
      have rl := HI.out.rlt
      have hbw := hid HI.out.2.2.2.1
      have hne := HI.out.ne
      by_cases hz : E = 0
      · have e0 : (E == (0 : Int)) = true := by rw [beq_iff_eq]; exact hz
        have e1 : (E != (0 : Int)) = false := by rw [bne_eq_false_iff_eq]; exact hz
        have HP := hid (show parseR b = ⟨K, p2.1, p3.1, p4.1, p5.1, p6.1, (p7.2.texts N).1⟩ by unfold parseR; rw [if_pos (by rw [← hE]; exact hz)]; exact HX.out)
        have HZ := hid hz
        clear hz hE
        obtain ⟨W', hW, T0, T1, T2, T3, T4, T5, T6, TB, TN⟩ := set7 HI.out.1 (.int .i64 (K)) (.int .i64 (J)) (.int .i64 (p3.1)) (.int .i64 (p4.1)) (.int .i64 (p5.1)) (.int .i64 (p6.1)) (.slice A n c)
        have TB2 := hid (hbw.out.trans TB)
        have TK := hid (Own.K (HO.out.move (w1 := W') (fun k hk hl => TN k (by rcases hk with hk | hk; exact hk.elim; have := (HO.out.lt k hk).1; have := HI.out.2.2.2.2; omega)) (fun _ h _ => h)))
        have HG := hid HI.out.2.2.2.2
        clear TB TN
        go_wp2
        rw [← hW]
        refine bodyPost_ret (by simp [results, Tryz.results69, go_sem, T0, T1, T2, T3, T4, T5, T6]; try rfl) rfl ?_
        rw [HP.out]
        exact ⟨A, n, c, by rw [← HEE.out, HZ.out, HJP.out], Kd.mono _ (fun k hk _ => by rcases hk with hk | hk; exact hk.elim; have := HG.out; omega) TK.out, TB2.out⟩
      · have e0 : (E == (0 : Int)) = false := by rw [beq_eq_false_iff_ne]; exact hz
        have e1 : (E != (0 : Int)) = true := by rw [bne_iff_ne]; exact hz
        have HP := hid (show parseR b = ⟨0, 0, 0, 0, 0, 0, []⟩ by unfold parseR; rw [if_neg (by rw [← hE]; exact hz)]; rfl)
        clear hz hE
        obtain ⟨W', hW, T0, T1, T2, T3, T4, T5, T6, TB, TN⟩ := set7 HI.out.1 (.int .i64 0) (.int .i64 0) (.int .i64 0) (.int .i64 0) (.int .i64 0) (.int .i64 0) (.slice none 0 0)
        have TB2 := hid (hbw.out.trans TB)
        clear TB TN
        go_wp2
        rw [← hW]
        refine bodyPost_ret (by simp [results, Tryz.results69, go_sem, T0, T1, T2, T3, T4, T5, T6]; try rfl) rfl ?_
        rw [HP.out]
        exact ⟨none, 0, 0, by rw [← HEE.out], ⟨none, 0, rfl, by simp, by simp, Kd.Row.nil⟩, TB2.out⟩

set_option maxHeartbeats 12800000 in
set_option maxRecDepth 100000 in
theorem rfParse_10 (b : List UInt8) (w : World) (hl : b.length ≤ 1000000) (hk : ((RdS.mk b 0).num 4).1 ≠ 0) (hj : ((pA1 b).2.num 72057594037927935).1 = 0) :
    Calls Tryz.prog 69 #[.string (mkB b)] w fun e w' => ∃ A n c, e = .returned (.tuple #[.agg #[.int .i64 (parseR b).kind, .int .i64 (parseR b).job, .int .i64 (parseR b).task, .int .i64 (parseR b).worker, .int .i64 (parseR b).sched, .int .i64 (parseR b).epoch, .slice A n c], .int .i64 (parseE b)]) ∧ Kd.str.slice.K w' (fun k => w.heap.size ≤ k) (parseR b).needs [.slice A n c] ∧ Below w.heap.size w w' := by
  obtain ⟨n1, h1⟩ : ∃ p, p = (RdS.mk b 0).num 4 := ⟨_, rfl⟩
  obtain ⟨p1, hp1⟩ : ∃ p : Int × RdS, p = n1 := ⟨_, rfl⟩
  have q1 : pA1 b = p1 := by unfold pA1; rw [least_n hk, hp1, h1]
  rw [← h1] at hk
  rw [q1] at hj
  obtain ⟨n2, h2⟩ : ∃ p, p = p1.2.num 72057594037927935 := ⟨_, rfl⟩
  obtain ⟨p2, hp2⟩ : ∃ p : Int × RdS, p = (0, n2.2.fail 3) := ⟨_, rfl⟩
  have q2 : pA2 b = p2 := by unfold pA2; rw [q1, least_z hj, hp2, h2]
  rw [← h2] at hj
  have hl1 : n1.2.b.length ≤ 1000000 := by have := (RdS.mk b 0).num_len 4; rw [← h1] at this; exact Nat.le_trans this hl
  have hl1' : p1.2.b.length ≤ 1000000 := by rw [hp1]; exact hl1
  have hl2 : n2.2.b.length ≤ 1000000 := by have := p1.2.num_len 72057594037927935; rw [← h2] at this; exact Nat.le_trans this hl1'
  have hl2' : p2.2.b.length ≤ 1000000 := by rw [hp2]; show (n2.2.fail 3).b.length ≤ _; rw [RdS.fail_len]; exact hl2
  obtain ⟨K, hK⟩ : ∃ K, K = n1.1 := ⟨_, rfl⟩
  have hKp : p1.1 = K := by rw [hp1, hK]
  obtain ⟨p3, h3⟩ : ∃ p : Int × RdS, p = p2.2.opt (hasF K 1) 15 := ⟨_, rfl⟩
  have q3 : pA3 b = p3 := by unfold pA3; rw [q1, hKp, q2]; exact h3.symm
  have hl3 : p3.2.b.length ≤ 1000000 := by have := p2.2.opt_len (hasF K 1) 15; rw [← h3] at this; exact Nat.le_trans this hl2'
  obtain ⟨p4, h4⟩ : ∃ p : Int × RdS, p = p3.2.opt (hasF K 2) 63 := ⟨_, rfl⟩
  have q4 : pA4 b = p4 := by unfold pA4; rw [q1, hKp, q3]; exact h4.symm
  have hl4 : p4.2.b.length ≤ 1000000 := by have := p3.2.opt_len (hasF K 2) 63; rw [← h4] at this; exact Nat.le_trans this hl3
  obtain ⟨p5, h5⟩ : ∃ p : Int × RdS, p = p4.2.opt (hasF K 4) 7 := ⟨_, rfl⟩
  have q5 : pA5 b = p5 := by unfold pA5; rw [q1, hKp, q4]; exact h5.symm
  have hl5 : p5.2.b.length ≤ 1000000 := by have := p4.2.opt_len (hasF K 4) 7; rw [← h5] at this; exact Nat.le_trans this hl4
  obtain ⟨p6, h6⟩ : ∃ p : Int × RdS, p = p5.2.optLeast (hasF K 8) 9 := ⟨_, rfl⟩
  have q6 : pA6 b = p6 := by unfold pA6; rw [q1, hKp, q5]; exact h6.symm
  have hl6 : p6.2.b.length ≤ 1000000 := by have := p5.2.optLeast_len (hasF K 8) 9; rw [← h6] at this; exact Nat.le_trans this hl5
  obtain ⟨p7, h7⟩ : ∃ p : Int × RdS, p = p6.2.optLeast (hasF K 16) 16 := ⟨_, rfl⟩
  have q7 : pA7 b = p7 := by unfold pA7; rw [q1, hKp, q6]; exact h7.symm
  have hl7 : p7.2.b.length ≤ 1000000 := by have := p6.2.optLeast_len (hasF K 16) 16; rw [← h7] at this; exact Nat.le_trans this hl6
  have hb7 := p6.2.optLeast_0 (hasF K 16) 16
  rw [← h7] at hb7
  obtain ⟨N, hN⟩ : ∃ N, N = p7.1.toNat := ⟨_, rfl⟩
  have hNp : p7.1 = (N : Int) := by omega
  have hN16 : N ≤ 16 := by omega
  have q8 : pA8 b = p7.2.texts N := by unfold pA8; rw [q7, hN]
  have HX := hid (show parseX b = ⟨K, p2.1, p3.1, p4.1, p5.1, p6.1, (p7.2.texts N).1⟩ by unfold parseX; rw [q1, hKp, q2, q3, q4, q5, q6, q8])
  have HE := hid (show parseE b = (p7.2.texts N).2.fin by unfold parseE; rw [q8])
  have HNP := hid hNp
  have HTL := hid (fun m => p7.2.texts_len m)
  have HL := hid hl
  have HP1 := hid hp1
  have HP2 := hid hp2
  have H1 := hid h1
  have H2 := hid h2
  have H3 := hid h3
  have H4 := hid h4
  have H5 := hid h5
  have H6 := hid h6
  have H7 := hid h7
  have HLL := hid (And.intro hl1 (And.intro hl1' (And.intro hl2 (And.intro hl2' (And.intro hl3 (And.intro hl4 (And.intro hl5 (And.intro hl6 hl7))))))))
  have HK := hid hK
  obtain ⟨J, hJ⟩ : ∃ J, J = n2.1 := ⟨_, rfl⟩
  have HJ := hid hJ
  rw [← hK] at hk
  rw [← hJ] at hj
  have hJp : p2.1 = J := by rw [hp2]; rw [hj]
  have HJP := hid hJp
  have k0 : (K == (0 : Int)) = false := by rw [beq_eq_false_iff_ne]; exact hk
  have j0 : (J == (0 : Int)) = true := by rw [beq_iff_eq]; exact hj
  clear hk hj hKp hJp hK hJ h1 h2 h3 h4 h5 h6 h7 hp1 hp2 q1 q2 q3 q4 q5 q6 q7 q8 hN hNp hb7 hl hl1 hl1' hl2 hl2' hl3 hl4 hl5 hl6 hl7
  go_enter Tryz.func69, Tryz.ntmps69
  go_wp2_with fail
  have R0 := hid (show RfAt ((w.alloc (.cells zRec 46)).alloc (.cells #[.string (mkB b), .int .i64 0] 141)) (w.heap.size + 1) ⟨b, 0⟩ from heap_at (by simp))
  refine (rfNum_calls (w.heap.size + 1) ⟨b, 0⟩ 4 _ R0.out HL.out).mono ?_
  rintro e w2 ⟨rfl, hA2, hM2⟩
  rw [← H1.out] at hA2 ⊢
  rw [← HK.out]
  have I0 : PfI w.heap.size (w.heap.size + 1) w2.heap.size w (w2.alloc (.cells #[.int .i64 (K), .int .i64 (0), .int .i64 (0), .int .i64 (0), .int .i64 (0), .int .i64 (0), .slice none 0 0] 46)) n1.2 #[.int .i64 (K), .int .i64 (0), .int .i64 (0), .int .i64 (0), .int .i64 (0), .int .i64 (0), .slice none 0 0] := by
    have s2 := hM2.size
    simp at s2
    have hrb : w2.heap[w.heap.size]? = some (.cells zRec 46 (0, 0)) := (hM2.block _ (by simp; omega) (by omega)).trans (heap_old (by simp) (heap_at rfl))
    exact ⟨heap_old (by omega) hrb, hA2.below ((Below.refl _ _).alloc (Nat.le_refl _) _), heap_alloc_new w2 _, ((bAlloc (bAlloc (Below.refl _ _) _) _).trans (hM2.below (fun k _ hk => by subst hk; omega) (by simp; omega))).alloc (by omega) _, by omega, by omega⟩
  have I0h := hid I0
  have x0 := I0.cell 0 (.int .i64 K) rfl
  clear I0 hA2 hM2 R0
  rw [show n1.2 = p1.2 by rw [HP1.out]] at I0h
  go_wp2_with fail
  refine (rfNum_calls _ p1.2 72057594037927935 _ I0h.out.rd HLL.out.2.1).mono ?_
  rintro e w3 ⟨rfl, hA3, hM3⟩
  rw [← H2.out] at hA3 ⊢
  rw [← HJ.out]
  have I1 := I0h.out.call hA3 hM3
  have y1 := I1.cell 1 (.int .i64 0) rfl
  have f1 := I1.froz 1
  have l1 := I1.lt
  have I1h := hid (show PfI w.heap.size (w.heap.size + 1) w2.heap.size w _ n2.2 #[.int .i64 (K), .int .i64 (J), .int .i64 (0), .int .i64 (0), .int .i64 (0), .int .i64 (0), .slice none 0 0] from I1.set 1 (.int .i64 J))
  have u1 := I1h.out.cell 0 (.int .i64 K) rfl
  have v1 := I1h.out.cell 1 (.int .i64 J) rfl
  clear I1 hA3 hM3
  go_wp2_with fail
  refine (rfFail_calls _ n2.2 3 _ I1h.out.rd).mono ?_
  rintro e w4 ⟨rfl, hA4, hM4⟩
  rw [show n2.2.fail 3 = p2.2 by rw [HP2.out]] at hA4
  have I2h := hid (I1h.out.call hA4 hM4)
  have u2 := I2h.out.cell 0 (.int .i64 K) rfl
  clear hA4 hM4
  go_wp2_with fail
  refine (rfField0_calls _ p2.2 K 0 1 15 _ I2h.out.rd HLL.out.2.2.2.1 (by decide) (by decide)).mono ?_
  rintro e w5 ⟨rfl, hA5, hM5⟩
  rw [show p2.2.opt (hasF K (2 ^ 0)) 15 = p3 from H3.out.symm] at hA5 ⊢
  have I3 := I2h.out.call hA5 hM5
  have y3 := I3.cell 2 (.int .i64 0) rfl
  have f3 := I3.froz 2
  have l3 := I3.lt
  have I3h := hid (show PfI w.heap.size (w.heap.size + 1) w2.heap.size w _ p3.2 #[.int .i64 (K), .int .i64 (J), .int .i64 (p3.1), .int .i64 (0), .int .i64 (0), .int .i64 (0), .slice none 0 0] from I3.set 2 (.int .i64 p3.1))
  have u3 := I3h.out.cell 0 (.int .i64 K) rfl
  have v3 := I3h.out.cell 1 (.int .i64 J) rfl
  clear I3 hA5 hM5
  go_wp2_with fail
  refine (rfField0_calls _ p3.2 K 1 2 63 _ I3h.out.rd HLL.out.2.2.2.2.1 (by decide) (by decide)).mono ?_
  rintro e w6 ⟨rfl, hA6, hM6⟩
  rw [show p3.2.opt (hasF K (2 ^ 1)) 63 = p4 from H4.out.symm] at hA6 ⊢
  have I4 := I3h.out.call hA6 hM6
  have y4 := I4.cell 3 (.int .i64 0) rfl
  have f4 := I4.froz 3
  have l4 := I4.lt
  have I4h := hid (show PfI w.heap.size (w.heap.size + 1) w2.heap.size w _ p4.2 #[.int .i64 (K), .int .i64 (J), .int .i64 (p3.1), .int .i64 (p4.1), .int .i64 (0), .int .i64 (0), .slice none 0 0] from I4.set 3 (.int .i64 p4.1))
  have u4 := I4h.out.cell 0 (.int .i64 K) rfl
  have v4 := I4h.out.cell 1 (.int .i64 J) rfl
  clear I4 hA6 hM6
  go_wp2_with fail
  refine (rfField0_calls _ p4.2 K 2 3 7 _ I4h.out.rd HLL.out.2.2.2.2.2.1 (by decide) (by decide)).mono ?_
  rintro e w7 ⟨rfl, hA7, hM7⟩
  rw [show p4.2.opt (hasF K (2 ^ 2)) 7 = p5 from H5.out.symm] at hA7 ⊢
  have I5 := I4h.out.call hA7 hM7
  have y5 := I5.cell 4 (.int .i64 0) rfl
  have f5 := I5.froz 4
  have l5 := I5.lt
  have I5h := hid (show PfI w.heap.size (w.heap.size + 1) w2.heap.size w _ p5.2 #[.int .i64 (K), .int .i64 (J), .int .i64 (p3.1), .int .i64 (p4.1), .int .i64 (p5.1), .int .i64 (0), .slice none 0 0] from I5.set 4 (.int .i64 p5.1))
  have u5 := I5h.out.cell 0 (.int .i64 K) rfl
  have v5 := I5h.out.cell 1 (.int .i64 J) rfl
  clear I5 hA7 hM7
  go_wp2_with fail
  refine (rfField1_calls _ p5.2 K 3 4 9 _ I5h.out.rd HLL.out.2.2.2.2.2.2.1 (by decide) (by decide)).mono ?_
  rintro e w8 ⟨rfl, hA8, hM8⟩
  rw [show p5.2.optLeast (hasF K (2 ^ 3)) 9 = p6 from H6.out.symm] at hA8 ⊢
  have I6 := I5h.out.call hA8 hM8
  have y6 := I6.cell 5 (.int .i64 0) rfl
  have f6 := I6.froz 5
  have l6 := I6.lt
  have I6h := hid (show PfI w.heap.size (w.heap.size + 1) w2.heap.size w _ p6.2 #[.int .i64 (K), .int .i64 (J), .int .i64 (p3.1), .int .i64 (p4.1), .int .i64 (p5.1), .int .i64 (p6.1), .slice none 0 0] from I6.set 5 (.int .i64 p6.1))
  have u6 := I6h.out.cell 0 (.int .i64 K) rfl
  have v6 := I6h.out.cell 1 (.int .i64 J) rfl
  clear I6 hA8 hM8
  go_wp2_with fail
  refine (rfField1_calls _ p6.2 K 4 5 16 _ I6h.out.rd HLL.out.2.2.2.2.2.2.2.1 (by decide) (by decide)).mono ?_
  rintro e w9 ⟨rfl, hA9, hM9⟩
  rw [show p6.2.optLeast (hasF K (2 ^ 4)) 16 = p7 from H7.out.symm] at hA9 ⊢
  rw [HNP.out]
  have I7h := hid (I6h.out.call hA9 hM9)
  clear hA9 hM9
  go_wp2_with fail
  go_loopw [7] (fun nv wr => ∃ (m : Nat) (A : Option Addr) (n c : Nat), m ≤ N ∧ nv = .int .i64 m ∧ Hid (PfI w.heap.size (w.heap.size + 1) w2.heap.size w wr (p7.2.texts m).2 #[.int .i64 (K), .int .i64 (J), .int .i64 (p3.1), .int .i64 (p4.1), .int .i64 (p5.1), .int .i64 (p6.1), .slice A n c]) ∧ Hid (Own Kd.str 9 wr (w2.heap.size + 1) NoT (.slice A n c) (p7.2.texts m).1)) (fun nv _ => N - (intOf nv).toNat)
  case atStart => exact ⟨0, none, 0, 0, by omega, rfl, I7h, Own.nil _ _ _ _ _⟩
  case round =>
    obtain ⟨m, A, n, c, hm, rfl, HI, HO⟩ := hrel
    by_cases hlt : m < N
    · have x6 := HI.out.cell 6 (.slice A n c) rfl
      have l6 := HI.out.lt
      have HLN := hid (HTL.out m).2
      have HLB := hid (Nat.le_trans (HTL.out m).1 HLL.out.2.2.2.2.2.2.2.2)
      go_wp2_with fail
      go_region_law (first
        | (refine appends_step Kd.str (w2.heap.size + 1) rfl _ _ 44 9 _ 16 rfl Tryz.underlying44 Tryz.infoStrP rfl (by decide) (by decide) (.slice A n c) (p7.2.texts m).1 [mkB ((p7.2.texts m).2.text 200).1] (some ⟨w9.heap.size, 0, none⟩) 1 1 NoT (fun k => k = w9.heap.size) NoT rfl rfl rfl (row_one (d := Kd.str) (te := 9) (fr := (0, 0)) (cs := [.string (mkB ((p7.2.texts m).2.text 200).1)]) (heap_at rfl) (fun _ => rfl)) (fun _ _ h => h) (fun _ h => h.elim) (O4.out.below (bAlloc (Below.refl _ _) _)) (by have := I4.out.lt; simp; omega) (by rw [HLN.out]; omega) ?_; intro v1 w7 hO1 hg1 hat; obtain ⟨A1, m1, c1, rfl, hm1, hc1⟩ := hO1.shape'; have I5 := hid (I4.out.above ((Below.refl _ _).alloc (Nat.succ_le_of_lt I4.out.lt) _ |>.grown hg1 (by have := I4.out.lt; simp; omega) (fun k hk => (O4.out.lt k hk).1))); have O5 := hid hO1; have y8 := I5.out.cell 6 (.slice A n c) rfl; have f8 := I5.out.froz 6; have l8 := I5.out.lt; clear hO1 hg1 hat hm1 hc1)
        | (go_simp; refine (rfText_calls _ (p7.2.texts m).2 200 _ (HI.out.above (Below.refl _ _).drew).rd HLB.out).mono ?_; rintro e w9 ⟨rfl, hA6, hM6⟩; have I4 := hid ((HI.out.above (Below.refl _ _).drew).call hA6 hM6); have O4 := hid ((HO.out.below (Below.refl _ _).drew).move (w1 := w9) (fun b hb hl => hM6.block b hl (by rcases hb with hb | hb; exact hb.elim; have := (HO.out.lt b hb).1; have := HI.out.2.2.2.2; omega)) (fun _ h _ => h)); have y6 := I4.out.cell 6 (.slice A n c) rfl; have y7 := fun o => (I4.out.above ((Below.refl _ _).alloc (Nat.succ_le_of_lt I4.out.lt) o)).cell 6 (.slice A n c) rfl; clear hA6 hM6)
        | fail)
      all_goals
        go_wp2
        go_roundw
        case rel => exact ⟨m + 1, _, _, _, by omega, by go_num, I5.out.set 6 _, O5.out.setCell (p := ⟨w2.heap.size, 6, none⟩) (fun h => h) (fun e => by have := (O5.out.lt _ e).1; simp at this; omega) _⟩
        case measure => simp [intOf]; omega
    · obtain rfl : N = m := by omega
      have HLB := hid (Nat.le_trans (HTL.out N).1 HLL.out.2.2.2.2.2.2.2.2)
      go_wp2_with fail
      refine (rfEnd_calls _ _ _ HI.out.rd HLB.out).mono ?_
      rintro e w' ⟨rfl, rfl⟩
      rw [← HE.out]
      obtain ⟨E, hE⟩ : ∃ E, E = parseE b := ⟨_, rfl⟩
      rw [← hE]
      have HEE := hid hE

      have r0 := HI.out.rcell 0 (.int .i64 0) rfl
      have r1 := HI.out.rcell 1 (.int .i64 0) rfl
      have r2 := HI.out.rcell 2 (.int .i64 0) rfl
      have r3 := HI.out.rcell 3 (.int .i64 0) rfl
      have r4 := HI.out.rcell 4 (.int .i64 0) rfl
      have r5 := HI.out.rcell 5 (.int .i64 0) rfl
      have r6 := HI.out.rcell 6 (.slice none 0 0) rfl
      have s0 := HI.out.rfroz 0
      have s1 := HI.out.rfroz 1
      have s2 := HI.out.rfroz 2
      have s3 := HI.out.rfroz 3
      have s4 := HI.out.rfroz 4
      have s5 := HI.out.rfroz 5
      have s6 := HI.out.rfroz 6
      have z0 := HI.out.cell 0 (.int .i64 (K)) rfl
      have z1 := HI.out.cell 1 (.int .i64 (J)) rfl
      have z2 := HI.out.cell 2 (.int .i64 (p3.1)) rfl
      have z3 := HI.out.cell 3 (.int .i64 (p4.1)) rfl
      have z4 := HI.out.cell 4 (.int .i64 (p5.1)) rfl
      have z5 := HI.out.cell 5 (.int .i64 (p6.1)) rfl
      have z6 := HI.out.cell 6 (.slice A n c) rfl
      have rl := HI.out.rlt
      have hbw := hid HI.out.2.2.2.1
      have hne := HI.out.ne
      by_cases hz : E = 0
      · have e0 : (E == (0 : Int)) = true := by rw [beq_iff_eq]; exact hz
        have e1 : (E != (0 : Int)) = false := by rw [bne_eq_false_iff_eq]; exact hz
        have HP := hid (show parseR b = ⟨K, p2.1, p3.1, p4.1, p5.1, p6.1, (p7.2.texts N).1⟩ by unfold parseR; rw [if_pos (by rw [← hE]; exact hz)]; exact HX.out)
        have HZ := hid hz
        clear hz hE
        obtain ⟨W', hW, T0, T1, T2, T3, T4, T5, T6, TB, TN⟩ := set7 HI.out.1 (.int .i64 (K)) (.int .i64 (J)) (.int .i64 (p3.1)) (.int .i64 (p4.1)) (.int .i64 (p5.1)) (.int .i64 (p6.1)) (.slice A n c)
        have TB2 := hid (hbw.out.trans TB)
        have TK := hid (Own.K (HO.out.move (w1 := W') (fun k hk hl => TN k (by rcases hk with hk | hk; exact hk.elim; have := (HO.out.lt k hk).1; have := HI.out.2.2.2.2; omega)) (fun _ h _ => h)))
        have HG := hid HI.out.2.2.2.2
        clear TB TN
        go_wp2
        rw [← hW]
        refine bodyPost_ret (by simp [results, Tryz.results69, go_sem, T0, T1, T2, T3, T4, T5, T6]; try rfl) rfl ?_
        rw [HP.out]
        exact ⟨A, n, c, by rw [← HEE.out, HZ.out, HJP.out], Kd.mono _ (fun k hk _ => by rcases hk with hk | hk; exact hk.elim; have := HG.out; omega) TK.out, TB2.out⟩
      · have e0 : (E == (0 : Int)) = false := by rw [beq_eq_false_iff_ne]; exact hz
        have e1 : (E != (0 : Int)) = true := by rw [bne_iff_ne]; exact hz
        have HP := hid (show parseR b = ⟨0, 0, 0, 0, 0, 0, []⟩ by unfold parseR; rw [if_neg (by rw [← hE]; exact hz)]; rfl)
        clear hz hE
        obtain ⟨W', hW, T0, T1, T2, T3, T4, T5, T6, TB, TN⟩ := set7 HI.out.1 (.int .i64 0) (.int .i64 0) (.int .i64 0) (.int .i64 0) (.int .i64 0) (.int .i64 0) (.slice none 0 0)
        have TB2 := hid (hbw.out.trans TB)
        clear TB TN
        go_wp2
        rw [← hW]
        refine bodyPost_ret (by simp [results, Tryz.results69, go_sem, T0, T1, T2, T3, T4, T5, T6]; try rfl) rfl ?_
        rw [HP.out]
        exact ⟨none, 0, 0, by rw [← HEE.out], ⟨none, 0, rfl, by simp, by simp, Kd.Row.nil⟩, TB2.out⟩

set_option maxHeartbeats 12800000 in
set_option maxRecDepth 100000 in
theorem rfParse_11 (b : List UInt8) (w : World) (hl : b.length ≤ 1000000) (hk : ((RdS.mk b 0).num 4).1 ≠ 0) (hj : ((pA1 b).2.num 72057594037927935).1 ≠ 0) :
    Calls Tryz.prog 69 #[.string (mkB b)] w fun e w' => ∃ A n c, e = .returned (.tuple #[.agg #[.int .i64 (parseR b).kind, .int .i64 (parseR b).job, .int .i64 (parseR b).task, .int .i64 (parseR b).worker, .int .i64 (parseR b).sched, .int .i64 (parseR b).epoch, .slice A n c], .int .i64 (parseE b)]) ∧ Kd.str.slice.K w' (fun k => w.heap.size ≤ k) (parseR b).needs [.slice A n c] ∧ Below w.heap.size w w' := by
  obtain ⟨n1, h1⟩ : ∃ p, p = (RdS.mk b 0).num 4 := ⟨_, rfl⟩
  obtain ⟨p1, hp1⟩ : ∃ p : Int × RdS, p = n1 := ⟨_, rfl⟩
  have q1 : pA1 b = p1 := by unfold pA1; rw [least_n hk, hp1, h1]
  rw [← h1] at hk
  rw [q1] at hj
  obtain ⟨n2, h2⟩ : ∃ p, p = p1.2.num 72057594037927935 := ⟨_, rfl⟩
  obtain ⟨p2, hp2⟩ : ∃ p : Int × RdS, p = n2 := ⟨_, rfl⟩
  have q2 : pA2 b = p2 := by unfold pA2; rw [q1, least_n hj, hp2, h2]
  rw [← h2] at hj
  have hl1 : n1.2.b.length ≤ 1000000 := by have := (RdS.mk b 0).num_len 4; rw [← h1] at this; exact Nat.le_trans this hl
  have hl1' : p1.2.b.length ≤ 1000000 := by rw [hp1]; exact hl1
  have hl2 : n2.2.b.length ≤ 1000000 := by have := p1.2.num_len 72057594037927935; rw [← h2] at this; exact Nat.le_trans this hl1'
  have hl2' : p2.2.b.length ≤ 1000000 := by rw [hp2]; exact hl2
  obtain ⟨K, hK⟩ : ∃ K, K = n1.1 := ⟨_, rfl⟩
  have hKp : p1.1 = K := by rw [hp1, hK]
  obtain ⟨p3, h3⟩ : ∃ p : Int × RdS, p = p2.2.opt (hasF K 1) 15 := ⟨_, rfl⟩
  have q3 : pA3 b = p3 := by unfold pA3; rw [q1, hKp, q2]; exact h3.symm
  have hl3 : p3.2.b.length ≤ 1000000 := by have := p2.2.opt_len (hasF K 1) 15; rw [← h3] at this; exact Nat.le_trans this hl2'
  obtain ⟨p4, h4⟩ : ∃ p : Int × RdS, p = p3.2.opt (hasF K 2) 63 := ⟨_, rfl⟩
  have q4 : pA4 b = p4 := by unfold pA4; rw [q1, hKp, q3]; exact h4.symm
  have hl4 : p4.2.b.length ≤ 1000000 := by have := p3.2.opt_len (hasF K 2) 63; rw [← h4] at this; exact Nat.le_trans this hl3
  obtain ⟨p5, h5⟩ : ∃ p : Int × RdS, p = p4.2.opt (hasF K 4) 7 := ⟨_, rfl⟩
  have q5 : pA5 b = p5 := by unfold pA5; rw [q1, hKp, q4]; exact h5.symm
  have hl5 : p5.2.b.length ≤ 1000000 := by have := p4.2.opt_len (hasF K 4) 7; rw [← h5] at this; exact Nat.le_trans this hl4
  obtain ⟨p6, h6⟩ : ∃ p : Int × RdS, p = p5.2.optLeast (hasF K 8) 9 := ⟨_, rfl⟩
  have q6 : pA6 b = p6 := by unfold pA6; rw [q1, hKp, q5]; exact h6.symm
  have hl6 : p6.2.b.length ≤ 1000000 := by have := p5.2.optLeast_len (hasF K 8) 9; rw [← h6] at this; exact Nat.le_trans this hl5
  obtain ⟨p7, h7⟩ : ∃ p : Int × RdS, p = p6.2.optLeast (hasF K 16) 16 := ⟨_, rfl⟩
  have q7 : pA7 b = p7 := by unfold pA7; rw [q1, hKp, q6]; exact h7.symm
  have hl7 : p7.2.b.length ≤ 1000000 := by have := p6.2.optLeast_len (hasF K 16) 16; rw [← h7] at this; exact Nat.le_trans this hl6
  have hb7 := p6.2.optLeast_0 (hasF K 16) 16
  rw [← h7] at hb7
  obtain ⟨N, hN⟩ : ∃ N, N = p7.1.toNat := ⟨_, rfl⟩
  have hNp : p7.1 = (N : Int) := by omega
  have hN16 : N ≤ 16 := by omega
  have q8 : pA8 b = p7.2.texts N := by unfold pA8; rw [q7, hN]
  have HX := hid (show parseX b = ⟨K, p2.1, p3.1, p4.1, p5.1, p6.1, (p7.2.texts N).1⟩ by unfold parseX; rw [q1, hKp, q2, q3, q4, q5, q6, q8])
  have HE := hid (show parseE b = (p7.2.texts N).2.fin by unfold parseE; rw [q8])
  have HNP := hid hNp
  have HTL := hid (fun m => p7.2.texts_len m)
  have HL := hid hl
  have HP1 := hid hp1
  have HP2 := hid hp2
  have H1 := hid h1
  have H2 := hid h2
  have H3 := hid h3
  have H4 := hid h4
  have H5 := hid h5
  have H6 := hid h6
  have H7 := hid h7
  have HLL := hid (And.intro hl1 (And.intro hl1' (And.intro hl2 (And.intro hl2' (And.intro hl3 (And.intro hl4 (And.intro hl5 (And.intro hl6 hl7))))))))
  have HK := hid hK
  obtain ⟨J, hJ⟩ : ∃ J, J = n2.1 := ⟨_, rfl⟩
  have HJ := hid hJ
  rw [← hK] at hk
  rw [← hJ] at hj
  have hJp : p2.1 = J := by rw [hp2, hJ]
  have HJP := hid hJp
  have k0 : (K == (0 : Int)) = false := by rw [beq_eq_false_iff_ne]; exact hk
  have j0 : (J == (0 : Int)) = false := by rw [beq_eq_false_iff_ne]; exact hj
  clear hk hj hKp hJp hK hJ h1 h2 h3 h4 h5 h6 h7 hp1 hp2 q1 q2 q3 q4 q5 q6 q7 q8 hN hNp hb7 hl hl1 hl1' hl2 hl2' hl3 hl4 hl5 hl6 hl7
  go_enter Tryz.func69, Tryz.ntmps69
  go_wp2_with fail
  have R0 := hid (show RfAt ((w.alloc (.cells zRec 46)).alloc (.cells #[.string (mkB b), .int .i64 0] 141)) (w.heap.size + 1) ⟨b, 0⟩ from heap_at (by simp))
  refine (rfNum_calls (w.heap.size + 1) ⟨b, 0⟩ 4 _ R0.out HL.out).mono ?_
  rintro e w2 ⟨rfl, hA2, hM2⟩
  rw [← H1.out] at hA2 ⊢
  rw [← HK.out]
  have I0 : PfI w.heap.size (w.heap.size + 1) w2.heap.size w (w2.alloc (.cells #[.int .i64 (K), .int .i64 (0), .int .i64 (0), .int .i64 (0), .int .i64 (0), .int .i64 (0), .slice none 0 0] 46)) n1.2 #[.int .i64 (K), .int .i64 (0), .int .i64 (0), .int .i64 (0), .int .i64 (0), .int .i64 (0), .slice none 0 0] := by
    have s2 := hM2.size
    simp at s2
    have hrb : w2.heap[w.heap.size]? = some (.cells zRec 46 (0, 0)) := (hM2.block _ (by simp; omega) (by omega)).trans (heap_old (by simp) (heap_at rfl))
    exact ⟨heap_old (by omega) hrb, hA2.below ((Below.refl _ _).alloc (Nat.le_refl _) _), heap_alloc_new w2 _, ((bAlloc (bAlloc (Below.refl _ _) _) _).trans (hM2.below (fun k _ hk => by subst hk; omega) (by simp; omega))).alloc (by omega) _, by omega, by omega⟩
  have I0h := hid I0
  have x0 := I0.cell 0 (.int .i64 K) rfl
  clear I0 hA2 hM2 R0
  rw [show n1.2 = p1.2 by rw [HP1.out]] at I0h
  go_wp2_with fail
  refine (rfNum_calls _ p1.2 72057594037927935 _ I0h.out.rd HLL.out.2.1).mono ?_
  rintro e w3 ⟨rfl, hA3, hM3⟩
  rw [← H2.out] at hA3 ⊢
  rw [← HJ.out]
  have I1 := I0h.out.call hA3 hM3
  have y1 := I1.cell 1 (.int .i64 0) rfl
  have f1 := I1.froz 1
  have l1 := I1.lt
  have I1h := hid (show PfI w.heap.size (w.heap.size + 1) w2.heap.size w _ n2.2 #[.int .i64 (K), .int .i64 (J), .int .i64 (0), .int .i64 (0), .int .i64 (0), .int .i64 (0), .slice none 0 0] from I1.set 1 (.int .i64 J))
  have u1 := I1h.out.cell 0 (.int .i64 K) rfl
  have v1 := I1h.out.cell 1 (.int .i64 J) rfl
  clear I1 hA3 hM3
  rw [show n2.2 = p2.2 by rw [HP2.out]] at I1h
  go_wp2_with fail
  refine (rfField0_calls _ p2.2 K 0 1 15 _ I1h.out.rd HLL.out.2.2.2.1 (by decide) (by decide)).mono ?_
  rintro e w4 ⟨rfl, hA4, hM4⟩
  rw [show p2.2.opt (hasF K (2 ^ 0)) 15 = p3 from H3.out.symm] at hA4 ⊢
  have I2 := I1h.out.call hA4 hM4
  have y2 := I2.cell 2 (.int .i64 0) rfl
  have f2 := I2.froz 2
  have l2 := I2.lt
  have I2h := hid (show PfI w.heap.size (w.heap.size + 1) w2.heap.size w _ p3.2 #[.int .i64 (K), .int .i64 (J), .int .i64 (p3.1), .int .i64 (0), .int .i64 (0), .int .i64 (0), .slice none 0 0] from I2.set 2 (.int .i64 p3.1))
  have u2 := I2h.out.cell 0 (.int .i64 K) rfl
  have v2 := I2h.out.cell 1 (.int .i64 J) rfl
  clear I2 hA4 hM4
  go_wp2_with fail
  refine (rfField0_calls _ p3.2 K 1 2 63 _ I2h.out.rd HLL.out.2.2.2.2.1 (by decide) (by decide)).mono ?_
  rintro e w5 ⟨rfl, hA5, hM5⟩
  rw [show p3.2.opt (hasF K (2 ^ 1)) 63 = p4 from H4.out.symm] at hA5 ⊢
  have I3 := I2h.out.call hA5 hM5
  have y3 := I3.cell 3 (.int .i64 0) rfl
  have f3 := I3.froz 3
  have l3 := I3.lt
  have I3h := hid (show PfI w.heap.size (w.heap.size + 1) w2.heap.size w _ p4.2 #[.int .i64 (K), .int .i64 (J), .int .i64 (p3.1), .int .i64 (p4.1), .int .i64 (0), .int .i64 (0), .slice none 0 0] from I3.set 3 (.int .i64 p4.1))
  have u3 := I3h.out.cell 0 (.int .i64 K) rfl
  have v3 := I3h.out.cell 1 (.int .i64 J) rfl
  clear I3 hA5 hM5
  go_wp2_with fail
  refine (rfField0_calls _ p4.2 K 2 3 7 _ I3h.out.rd HLL.out.2.2.2.2.2.1 (by decide) (by decide)).mono ?_
  rintro e w6 ⟨rfl, hA6, hM6⟩
  rw [show p4.2.opt (hasF K (2 ^ 2)) 7 = p5 from H5.out.symm] at hA6 ⊢
  have I4 := I3h.out.call hA6 hM6
  have y4 := I4.cell 4 (.int .i64 0) rfl
  have f4 := I4.froz 4
  have l4 := I4.lt
  have I4h := hid (show PfI w.heap.size (w.heap.size + 1) w2.heap.size w _ p5.2 #[.int .i64 (K), .int .i64 (J), .int .i64 (p3.1), .int .i64 (p4.1), .int .i64 (p5.1), .int .i64 (0), .slice none 0 0] from I4.set 4 (.int .i64 p5.1))
  have u4 := I4h.out.cell 0 (.int .i64 K) rfl
  have v4 := I4h.out.cell 1 (.int .i64 J) rfl
  clear I4 hA6 hM6
  go_wp2_with fail
  refine (rfField1_calls _ p5.2 K 3 4 9 _ I4h.out.rd HLL.out.2.2.2.2.2.2.1 (by decide) (by decide)).mono ?_
  rintro e w7 ⟨rfl, hA7, hM7⟩
  rw [show p5.2.optLeast (hasF K (2 ^ 3)) 9 = p6 from H6.out.symm] at hA7 ⊢
  have I5 := I4h.out.call hA7 hM7
  have y5 := I5.cell 5 (.int .i64 0) rfl
  have f5 := I5.froz 5
  have l5 := I5.lt
  have I5h := hid (show PfI w.heap.size (w.heap.size + 1) w2.heap.size w _ p6.2 #[.int .i64 (K), .int .i64 (J), .int .i64 (p3.1), .int .i64 (p4.1), .int .i64 (p5.1), .int .i64 (p6.1), .slice none 0 0] from I5.set 5 (.int .i64 p6.1))
  have u5 := I5h.out.cell 0 (.int .i64 K) rfl
  have v5 := I5h.out.cell 1 (.int .i64 J) rfl
  clear I5 hA7 hM7
  go_wp2_with fail
  refine (rfField1_calls _ p6.2 K 4 5 16 _ I5h.out.rd HLL.out.2.2.2.2.2.2.2.1 (by decide) (by decide)).mono ?_
  rintro e w8 ⟨rfl, hA8, hM8⟩
  rw [show p6.2.optLeast (hasF K (2 ^ 4)) 16 = p7 from H7.out.symm] at hA8 ⊢
  rw [HNP.out]
  have I6h := hid (I5h.out.call hA8 hM8)
  clear hA8 hM8
  go_wp2_with fail
  go_loopw [7] (fun nv wr => ∃ (m : Nat) (A : Option Addr) (n c : Nat), m ≤ N ∧ nv = .int .i64 m ∧ Hid (PfI w.heap.size (w.heap.size + 1) w2.heap.size w wr (p7.2.texts m).2 #[.int .i64 (K), .int .i64 (J), .int .i64 (p3.1), .int .i64 (p4.1), .int .i64 (p5.1), .int .i64 (p6.1), .slice A n c]) ∧ Hid (Own Kd.str 9 wr (w2.heap.size + 1) NoT (.slice A n c) (p7.2.texts m).1)) (fun nv _ => N - (intOf nv).toNat)
  case atStart => exact ⟨0, none, 0, 0, by omega, rfl, I6h, Own.nil _ _ _ _ _⟩
  case round =>
    obtain ⟨m, A, n, c, hm, rfl, HI, HO⟩ := hrel
    by_cases hlt : m < N
    · have x6 := HI.out.cell 6 (.slice A n c) rfl
      have l6 := HI.out.lt
      have HLN := hid (HTL.out m).2
      have HLB := hid (Nat.le_trans (HTL.out m).1 HLL.out.2.2.2.2.2.2.2.2)
      go_wp2_with fail
      go_region_law (first
        | (refine appends_step Kd.str (w2.heap.size + 1) rfl _ _ 44 9 _ 16 rfl Tryz.underlying44 Tryz.infoStrP rfl (by decide) (by decide) (.slice A n c) (p7.2.texts m).1 [mkB ((p7.2.texts m).2.text 200).1] (some ⟨w9.heap.size, 0, none⟩) 1 1 NoT (fun k => k = w9.heap.size) NoT rfl rfl rfl (row_one (d := Kd.str) (te := 9) (fr := (0, 0)) (cs := [.string (mkB ((p7.2.texts m).2.text 200).1)]) (heap_at rfl) (fun _ => rfl)) (fun _ _ h => h) (fun _ h => h.elim) (O4.out.below (bAlloc (Below.refl _ _) _)) (by have := I4.out.lt; simp; omega) (by rw [HLN.out]; omega) ?_; intro v1 w7 hO1 hg1 hat; obtain ⟨A1, m1, c1, rfl, hm1, hc1⟩ := hO1.shape'; have I5 := hid (I4.out.above ((Below.refl _ _).alloc (Nat.succ_le_of_lt I4.out.lt) _ |>.grown hg1 (by have := I4.out.lt; simp; omega) (fun k hk => (O4.out.lt k hk).1))); have O5 := hid hO1; have y8 := I5.out.cell 6 (.slice A n c) rfl; have f8 := I5.out.froz 6; have l8 := I5.out.lt; clear hO1 hg1 hat hm1 hc1)
        | (go_simp; refine (rfText_calls _ (p7.2.texts m).2 200 _ (HI.out.above (Below.refl _ _).drew).rd HLB.out).mono ?_; rintro e w9 ⟨rfl, hA6, hM6⟩; have I4 := hid ((HI.out.above (Below.refl _ _).drew).call hA6 hM6); have O4 := hid ((HO.out.below (Below.refl _ _).drew).move (w1 := w9) (fun b hb hl => hM6.block b hl (by rcases hb with hb | hb; exact hb.elim; have := (HO.out.lt b hb).1; have := HI.out.2.2.2.2; omega)) (fun _ h _ => h)); have y6 := I4.out.cell 6 (.slice A n c) rfl; have y7 := fun o => (I4.out.above ((Below.refl _ _).alloc (Nat.succ_le_of_lt I4.out.lt) o)).cell 6 (.slice A n c) rfl; clear hA6 hM6)
        | fail)
      all_goals
        go_wp2
        go_roundw
        case rel => exact ⟨m + 1, _, _, _, by omega, by go_num, I5.out.set 6 _, O5.out.setCell (p := ⟨w2.heap.size, 6, none⟩) (fun h => h) (fun e => by have := (O5.out.lt _ e).1; simp at this; omega) _⟩
        case measure => simp [intOf]; omega
    · obtain rfl : N = m := by omega
      have HLB := hid (Nat.le_trans (HTL.out N).1 HLL.out.2.2.2.2.2.2.2.2)
      go_wp2_with fail
      refine (rfEnd_calls _ _ _ HI.out.rd HLB.out).mono ?_
      rintro e w' ⟨rfl, rfl⟩
      rw [← HE.out]
      obtain ⟨E, hE⟩ : ∃ E, E = parseE b := ⟨_, rfl⟩
      rw [← hE]
      have HEE := hid hE

      have r0 := HI.out.rcell 0 (.int .i64 0) rfl
      have r1 := HI.out.rcell 1 (.int .i64 0) rfl
      have r2 := HI.out.rcell 2 (.int .i64 0) rfl
      have r3 := HI.out.rcell 3 (.int .i64 0) rfl
      have r4 := HI.out.rcell 4 (.int .i64 0) rfl
      have r5 := HI.out.rcell 5 (.int .i64 0) rfl
      have r6 := HI.out.rcell 6 (.slice none 0 0) rfl
      have s0 := HI.out.rfroz 0
      have s1 := HI.out.rfroz 1
      have s2 := HI.out.rfroz 2
      have s3 := HI.out.rfroz 3
      have s4 := HI.out.rfroz 4
      have s5 := HI.out.rfroz 5
      have s6 := HI.out.rfroz 6
      have z0 := HI.out.cell 0 (.int .i64 (K)) rfl
      have z1 := HI.out.cell 1 (.int .i64 (J)) rfl
      have z2 := HI.out.cell 2 (.int .i64 (p3.1)) rfl
      have z3 := HI.out.cell 3 (.int .i64 (p4.1)) rfl
      have z4 := HI.out.cell 4 (.int .i64 (p5.1)) rfl
      have z5 := HI.out.cell 5 (.int .i64 (p6.1)) rfl
      have z6 := HI.out.cell 6 (.slice A n c) rfl
      have rl := HI.out.rlt
      have hbw := hid HI.out.2.2.2.1
      have hne := HI.out.ne
      by_cases hz : E = 0
      · have e0 : (E == (0 : Int)) = true := by rw [beq_iff_eq]; exact hz
        have e1 : (E != (0 : Int)) = false := by rw [bne_eq_false_iff_eq]; exact hz
        have HP := hid (show parseR b = ⟨K, p2.1, p3.1, p4.1, p5.1, p6.1, (p7.2.texts N).1⟩ by unfold parseR; rw [if_pos (by rw [← hE]; exact hz)]; exact HX.out)
        have HZ := hid hz
        clear hz hE
        obtain ⟨W', hW, T0, T1, T2, T3, T4, T5, T6, TB, TN⟩ := set7 HI.out.1 (.int .i64 (K)) (.int .i64 (J)) (.int .i64 (p3.1)) (.int .i64 (p4.1)) (.int .i64 (p5.1)) (.int .i64 (p6.1)) (.slice A n c)
        have TB2 := hid (hbw.out.trans TB)
        have TK := hid (Own.K (HO.out.move (w1 := W') (fun k hk hl => TN k (by rcases hk with hk | hk; exact hk.elim; have := (HO.out.lt k hk).1; have := HI.out.2.2.2.2; omega)) (fun _ h _ => h)))
        have HG := hid HI.out.2.2.2.2
        clear TB TN
        go_wp2
        rw [← hW]
        refine bodyPost_ret (by simp [results, Tryz.results69, go_sem, T0, T1, T2, T3, T4, T5, T6]; try rfl) rfl ?_
        rw [HP.out]
        exact ⟨A, n, c, by rw [← HEE.out, HZ.out, HJP.out], Kd.mono _ (fun k hk _ => by rcases hk with hk | hk; exact hk.elim; have := HG.out; omega) TK.out, TB2.out⟩
      · have e0 : (E == (0 : Int)) = false := by rw [beq_eq_false_iff_ne]; exact hz
        have e1 : (E != (0 : Int)) = true := by rw [bne_iff_ne]; exact hz
        have HP := hid (show parseR b = ⟨0, 0, 0, 0, 0, 0, []⟩ by unfold parseR; rw [if_neg (by rw [← hE]; exact hz)]; rfl)
        clear hz hE
        obtain ⟨W', hW, T0, T1, T2, T3, T4, T5, T6, TB, TN⟩ := set7 HI.out.1 (.int .i64 0) (.int .i64 0) (.int .i64 0) (.int .i64 0) (.int .i64 0) (.int .i64 0) (.slice none 0 0)
        have TB2 := hid (hbw.out.trans TB)
        clear TB TN
        go_wp2
        rw [← hW]
        refine bodyPost_ret (by simp [results, Tryz.results69, go_sem, T0, T1, T2, T3, T4, T5, T6]; try rfl) rfl ?_
        rw [HP.out]
        exact ⟨none, 0, 0, by rw [← HEE.out], ⟨none, 0, rfl, by simp, by simp, Kd.Row.nil⟩, TB2.out⟩

theorem rfParse_calls (b : List UInt8) (w : World) (hl : b.length ≤ 1000000) :
    Calls Tryz.prog 69 #[.string (mkB b)] w fun e w' => ∃ A n c, e = .returned (.tuple #[.agg #[.int .i64 (parseR b).kind, .int .i64 (parseR b).job, .int .i64 (parseR b).task, .int .i64 (parseR b).worker, .int .i64 (parseR b).sched, .int .i64 (parseR b).epoch, .slice A n c], .int .i64 (parseE b)]) ∧ Kd.str.slice.K w' (fun k => w.heap.size ≤ k) (parseR b).needs [.slice A n c] ∧ Below w.heap.size w w' := by
  by_cases hk : ((RdS.mk b 0).num 4).1 = 0 <;> by_cases hj : ((pA1 b).2.num 72057594037927935).1 = 0
  · exact rfParse_00 b w hl hk hj
  · exact rfParse_01 b w hl hk hj
  · exact rfParse_10 b w hl hk hj
  · exact rfParse_11 b w hl hk hj
end Go.Proofs.YtkjncmmombkllaaGreat
