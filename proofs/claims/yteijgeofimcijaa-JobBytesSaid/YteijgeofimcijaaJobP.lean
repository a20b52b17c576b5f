/- job.Parse; siskinref15.Parse. Printed by gen_jobp.py. -/
import Derived.Test.YteijgeofimcijaaRdA
import Derived.Test.YteijgeofimcijaaConfK
import Derived.Deep.RegionLaw
namespace Go.Proofs.Yteijgeofimcijaa
open Go.RowKit

def jA1 (b : List UInt8) : Int × RdS := (RdS.mk b 0).num 72057594037927935
def jA1' (b : List UInt8) : RdS := if (jA1 b).1 = 0 then (jA1 b).2.fail 3 else (jA1 b).2
def jA2 (b : List UInt8) : Int × RdS := (jA1' b).num 16
def jA3 (b : List UInt8) : List ByteArray × RdS := (jA2 b).2.texts (jA2 b).1.toNat
def jparseX (b : List UInt8) : JobS := ⟨(jA1 b).1, (jA3 b).1⟩
def jparseE (b : List UInt8) : Int := (jA3 b).2.fin
def jparseJ (b : List UInt8) : JobS := if jparseE b = 0 then jparseX b else ⟨0, []⟩
theorem Try.infoStrJ : (Try.prog.info? 9).map (fun i => (i.zero, i.size, i.bytes)) = some (some (.string ⟨#[]⟩), 1, 16) := by kernel_rfl
set_option maxHeartbeats 12800000 in
set_option maxRecDepth 100000 in
theorem jobParse_0 (b : List UInt8) (v : Value) (w : World) (hb : Kd.u8.slice.K w Any b [v]) (hl : b.length ≤ 1000000) (hk : (jA1 b).1 = 0) :
    Calls Try.prog 69 #[v] w fun e w' => ∃ A n c, e = .returned (.tuple #[.agg #[.int .i64 (jparseJ b).id, .slice A n c], .int .i64 (jparseE b)]) ∧ Kd.str.slice.K w' (fun k => w.heap.size ≤ k) (jparseJ b).needs [.slice A n c] ∧ Below w.heap.size w w' := by
  have HB := hid hb
  clear hb
  obtain ⟨p1, h1⟩ : ∃ p, p = jA1 b := ⟨_, rfl⟩
  rw [← h1] at hk
  obtain ⟨R1, hR1⟩ : ∃ R, R = jA1' b := ⟨_, rfl⟩
  obtain ⟨p2, h2⟩ : ∃ p : Int × RdS, p = R1.num 16 := ⟨_, rfl⟩
  have q2 : jA2 b = p2 := by unfold jA2; rw [← hR1]; exact h2.symm
  have hb2 := R1.num_0 16
  rw [← h2] at hb2
  obtain ⟨N, hN⟩ : ∃ N, N = p2.1.toNat := ⟨_, rfl⟩
  have hNp : p2.1 = (N : Int) := by omega
  have hN16 : N ≤ 16 := by omega
  have q3 : jA3 b = p2.2.texts N := by unfold jA3; rw [q2, hN]
  have HR1 := hid (show R1 = p1.2.fail 3 by rw [hR1]; unfold jA1'; rw [← h1]; exact if_pos hk)
  have hl1 : p1.2.b.length ≤ b.length := by have := (RdS.mk b 0).num_len 72057594037927935; rw [h1]; exact this
  have hl2 : R1.b.length ≤ 1000000 := by rw [HR1.out]; rw [RdS.fail_len]; omega
  have hl3 : p2.2.b.length ≤ 1000000 := by have := R1.num_len 16; rw [← h2] at this; omega
  have HL1 := hid (show p1.2.b.length ≤ 1000000 by omega)
  have HL2 := hid hl2
  have HL3 := hid hl3
  have HX := hid (show jparseX b = ⟨0, (p2.2.texts N).1⟩ by unfold jparseX; rw [← h1, q3, hk])
  have HE := hid (show jparseE b = (p2.2.texts N).2.fin by unfold jparseE; rw [q3])
  have H1 := hid h1
  have HK := hid hk
  have H2 := hid h2
  have HNP := hid hNp
  have HTL := hid (fun m => p2.2.texts_len m)
  clear h1 hk h2 hR1 q2 q3 hN hNp hb2 hl1 hl2 hl3
  go_enter Try.func69, Try.ntmps69
  go_wp2_with fail
  refine (rdNew_calls b v _ (Kd.below HB.out (bAlloc (Below.refl _ _) _)) hl).mono ?_
  rintro e w1 ⟨g, rfl, hA, hb1⟩
  have HA := hid hA
  have HB1 := hid hb1
  clear hA hb1
  go_wp2_with fail
  refine (rdNum_calls (fun k => w.heap.size < k ∧ k < w1.heap.size) g ⟨b, 0⟩ 72057594037927935 _ (HA.out.mono (fun k hk h => ⟨by simp at h; omega, hk⟩))).mono ?_
  rintro e w2 ⟨rfl, hA2, hM2⟩
  rw [show (RdS.mk b 0).num 72057594037927935 = p1 from H1.out.symm] at hA2 ⊢
  rw [HK.out]
  have I0 : RI #[.int .i64 0, .slice none 0 0] 58 w.heap.size w1.heap.size g w2.heap.size w (w2.alloc (.cells #[.int .i64 0, .slice none 0 0] 58)) p1.2 #[.int .i64 0, .slice none 0 0] := by
    have hg := HA.out.1
    simp at hg
    have s1 := HB1.out.size
    simp at s1
    have s2 := hM2.size
    have hrb : w2.heap[w.heap.size]? = some (.cells #[.int .i64 0, .slice none 0 0] 58 (0, 0)) := (hM2.block _ (by omega) (by omega)).trans ((HB1.out.block _ (by simp)).trans (heap_at rfl))
    exact ⟨heap_old (by omega) hrb, hA2.below ((Below.refl _ _).alloc (Nat.le_refl _) _), heap_alloc_new w2 _, (((bThen (bAlloc (Below.refl _ _) _) HB1.out)).trans (hM2.below (fun k _ hk => by subst hk; omega) (by omega))).alloc (by omega) _, s2⟩
  have I0h := hid I0
  have HG : Hid (w.heap.size < g ∧ g < w1.heap.size ∧ w1.heap.size ≤ w2.heap.size) := ⟨I0.2.1.1.1, I0.2.1.1.2, I0.2.2.2.2⟩
  have y0 := I0.cell 0 (.int .i64 0) rfl
  have l0 := I0.lt
  clear I0 hA2 hM2
  go_wp2_with fail
  refine (rdFail_calls _ g p1.2 3 _ I0h.out.rd).mono ?_
  rintro e w3 ⟨rfl, hA3, hM3⟩
  rw [← HR1.out] at hA3
  have I1h := hid (I0h.out.call hA3 hM3)
  clear y0 l0 hA3 hM3
  go_wp2_with fail
  refine (rdNum_calls _ g R1 16 _ I1h.out.rd).mono ?_
  rintro e w4 ⟨rfl, hA4, hM4⟩
  rw [← H2.out] at hA4 ⊢
  rw [HNP.out]
  have I3 := hid (I1h.out.call hA4 hM4)
  clear hA4 hM4
  go_wp2_with fail
  go_loopw [6] (fun nv wr => ∃ (m : Nat) (A : Option Addr) (n c : Nat), m ≤ N ∧ nv = .int .i64 ((N : Int) - m) ∧ Hid (RI #[.int .i64 0, .slice none 0 0] 58 w.heap.size w1.heap.size g w2.heap.size w wr (p2.2.texts m).2 #[.int .i64 0, .slice A n c]) ∧ Hid (Own Kd.str 9 wr (w2.heap.size + 1) NoT (.slice A n c) (p2.2.texts m).1)) (fun nv _ => (intOf nv).toNat)
  case atStart => exact ⟨0, none, 0, 0, by omega, by simp, I3, Own.nil _ _ _ _ _⟩
  case round =>
    obtain ⟨m, A, n, c, hm, rfl, HI, HO⟩ := hrel
    by_cases hlt : m < N
    · have hgt : (0 : Int) < (N : Int) - m := by omega
      have hwr : IntKind.i64.wrap ((N : Int) - m - 1) = (N : Int) - m - 1 := IntWalk.i64_in _ (by omega)
      have x6 := HI.out.cell 1 (.slice A n c) rfl
      have l6 := HI.out.lt
      have HLN := hid (HTL.out m).2
      go_wp2_with fail
      go_region_law (first
        | (refine appends_step Kd.str (w2.heap.size + 1) rfl _ _ 22 9 _ 16 rfl Try.underlying22 Try.infoStrJ rfl (by decide) (by decide) (.slice A n c) (p2.2.texts m).1 [mkB ((p2.2.texts m).2.text 200).1] (some ⟨w6.heap.size, 0, none⟩) 1 1 NoT (fun k => k = w6.heap.size) NoT rfl rfl rfl (row_one (d := Kd.str) (te := 9) (fr := (0, 0)) (cs := [.string (mkB ((p2.2.texts m).2.text 200).1)]) (heap_at rfl) (fun _ => rfl)) (fun _ _ h => h) (fun _ h => h.elim) (O4.out.below (bAlloc (Below.refl _ _) _)) (by have := I4.out.lt; simp; omega) (by rw [HLN.out]; omega) ?_; intro v1 w7 hO1 hg1 hat; obtain ⟨A1, m1, c1, rfl, hm1, hc1⟩ := hO1.shape'; have I5 := hid (I4.out.above ((Below.refl _ _).alloc (Nat.succ_le_of_lt I4.out.lt) _ |>.grown hg1 (by have := I4.out.lt; simp; omega) (fun k hk => (O4.out.lt k hk).1))); have O5 := hid hO1; have y8 := I5.out.cell 1 (.slice A n c) rfl; have f8 := I5.out.froz 1; have l8 := I5.out.lt; clear hO1 hg1 hat hm1 hc1)
        | (go_simp; refine (rdText_calls _ g (p2.2.texts m).2 200 _ (HI.out.above (Below.refl _ _).drew).rd).mono ?_; rintro e w6 ⟨rfl, hA6, hM6⟩; have I4 := hid ((HI.out.above (Below.refl _ _).drew).call hA6 hM6); have O4 := hid ((HO.out.below (Below.refl _ _).drew).move (w1 := w6) (fun b hb hl => hM6.block b hl (by rcases hb with hb | hb; exact hb.elim; have := (HO.out.lt b hb).1; have := HG.out; omega)) (fun _ h _ => h)); have y6 := I4.out.cell 1 (.slice A n c) rfl; have y7 := fun o => (I4.out.above ((Below.refl _ _).alloc (Nat.succ_le_of_lt I4.out.lt) o)).cell 1 (.slice A n c) rfl; clear hA6 hM6)
        | fail)
      all_goals
        go_wp2
        go_roundw
        case rel => exact ⟨m + 1, _, _, _, by omega, congrArg (Value.int .i64) (by omega), I5.out.set 1 _, O5.out.setCell (p := ⟨w2.heap.size, 1, none⟩) (fun h => h) (fun e => by have := (O5.out.lt _ e).1; simp at this; omega) _⟩
        case measure => simp [intOf]; omega
    · obtain rfl : N = m := by omega
      have hgt : ¬ (0 : Int) < (N : Int) - N := by omega
      go_wp2_with fail
      refine (rdEnd_calls _ g _ _ HI.out.rd).mono ?_
      rintro e w' ⟨rfl, rfl⟩
      rw [← HE.out]
      obtain ⟨E, hE⟩ : ∃ E, E = jparseE b := ⟨_, rfl⟩
      rw [← hE]
      have HEE := hid hE
      have r0 := HI.out.rcell 0 (.int .i64 0) rfl
      have r1 := HI.out.rcell 1 (.slice none 0 0) rfl
      have s0 := HI.out.rfroz 0
      have s1 := HI.out.rfroz 1
      have z0 := HI.out.cell 0 (.int .i64 (0)) rfl
      have z1 := HI.out.cell 1 (.slice A n c) rfl
      have rl := HI.out.rlt
      have hbw := hid HI.out.bel
      have hne := HI.out.ne
      have HG2 := hid HG.out
      by_cases hz : E = 0
      · have e0 : (E == (0 : Int)) = true := by rw [beq_iff_eq]; exact hz
        have e1 : (E != (0 : Int)) = false := by rw [bne_eq_false_iff_eq]; exact hz
        have HP := hid (show jparseJ b = ⟨0, (p2.2.texts N).1⟩ by unfold jparseJ; rw [if_pos (by rw [← hE]; exact hz)]; exact HX.out)
        have HZ := hid hz
        clear hz hE
        obtain ⟨W', hW, T0, T1, TB, TN⟩ := set2 HI.out.1 (.int .i64 (0)) (.slice A n c)
        have TB2 := hid (hbw.out.trans TB)
        have TK := hid (Own.K (HO.out.move (w1 := W') (fun k hk hl => TN k (by rcases hk with hk | hk; exact hk.elim; have := (HO.out.lt k hk).1; have := HG2.out; omega)) (fun _ h _ => h)))
        clear TB TN
        go_wp2
        rw [← hW]
        refine bodyPost_ret (by simp [results, Try.results69, go_sem, T0, T1]; try rfl) rfl ?_
        rw [HP.out]
        exact ⟨A, n, c, by rw [← HEE.out, HZ.out], Kd.mono _ (fun k hk _ => by rcases hk with hk | hk; exact hk.elim; have := HG2.out; omega) TK.out, TB2.out⟩
      · have e0 : (E == (0 : Int)) = false := by rw [beq_eq_false_iff_ne]; exact hz
        have e1 : (E != (0 : Int)) = true := by rw [bne_iff_ne]; exact hz
        have HP := hid (show jparseJ b = ⟨0, []⟩ by unfold jparseJ; rw [if_neg (by rw [← hE]; exact hz)])
        clear hz hE
        obtain ⟨W', hW, T0, T1, TB, TN⟩ := set2 HI.out.1 (.int .i64 0) (.slice none 0 0)
        have TB2 := hid (hbw.out.trans TB)
        clear TB TN
        go_wp2
        rw [← hW]
        refine bodyPost_ret (by simp [results, Try.results69, go_sem, T0, T1]; try rfl) rfl ?_
        rw [HP.out]
        exact ⟨none, 0, 0, by rw [← HEE.out], ⟨none, 0, rfl, by simp, by simp, Kd.Row.nil⟩, TB2.out⟩
set_option maxHeartbeats 12800000 in
set_option maxRecDepth 100000 in
theorem jobParse_1 (b : List UInt8) (v : Value) (w : World) (hb : Kd.u8.slice.K w Any b [v]) (hl : b.length ≤ 1000000) (hk : (jA1 b).1 ≠ 0) :
    Calls Try.prog 69 #[v] w fun e w' => ∃ A n c, e = .returned (.tuple #[.agg #[.int .i64 (jparseJ b).id, .slice A n c], .int .i64 (jparseE b)]) ∧ Kd.str.slice.K w' (fun k => w.heap.size ≤ k) (jparseJ b).needs [.slice A n c] ∧ Below w.heap.size w w' := by
  have HB := hid hb
  clear hb
  obtain ⟨p1, h1⟩ : ∃ p, p = jA1 b := ⟨_, rfl⟩
  rw [← h1] at hk
  obtain ⟨R1, hR1⟩ : ∃ R, R = jA1' b := ⟨_, rfl⟩
  obtain ⟨p2, h2⟩ : ∃ p : Int × RdS, p = R1.num 16 := ⟨_, rfl⟩
  have q2 : jA2 b = p2 := by unfold jA2; rw [← hR1]; exact h2.symm
  have hb2 := R1.num_0 16
  rw [← h2] at hb2
  obtain ⟨N, hN⟩ : ∃ N, N = p2.1.toNat := ⟨_, rfl⟩
  have hNp : p2.1 = (N : Int) := by omega
  have hN16 : N ≤ 16 := by omega
  have q3 : jA3 b = p2.2.texts N := by unfold jA3; rw [q2, hN]
  have HR1 := hid (show R1 = p1.2 by rw [hR1]; unfold jA1'; rw [← h1]; exact if_neg hk)
  have hl1 : p1.2.b.length ≤ b.length := by have := (RdS.mk b 0).num_len 72057594037927935; rw [h1]; exact this
  have hl2 : R1.b.length ≤ 1000000 := by rw [HR1.out]; omega
  have hl3 : p2.2.b.length ≤ 1000000 := by have := R1.num_len 16; rw [← h2] at this; omega
  have HL1 := hid (show p1.2.b.length ≤ 1000000 by omega)
  have HL2 := hid hl2
  have HL3 := hid hl3
  have HX := hid (show jparseX b = ⟨p1.1, (p2.2.texts N).1⟩ by unfold jparseX; rw [← h1, q3])
  have HE := hid (show jparseE b = (p2.2.texts N).2.fin by unfold jparseE; rw [q3])
  have H1 := hid h1
  have HK := hid hk
  have H2 := hid h2
  have HNP := hid hNp
  have HTL := hid (fun m => p2.2.texts_len m)
  have hj0 : (p1.1 == (0 : Int)) = false := by rw [beq_eq_false_iff_ne]; exact hk
  clear h1 hk h2 hR1 q2 q3 hN hNp hb2 hl1 hl2 hl3
  go_enter Try.func69, Try.ntmps69
  go_wp2_with fail
  refine (rdNew_calls b v _ (Kd.below HB.out (bAlloc (Below.refl _ _) _)) hl).mono ?_
  rintro e w1 ⟨g, rfl, hA, hb1⟩
  have HA := hid hA
  have HB1 := hid hb1
  clear hA hb1
  go_wp2_with fail
  refine (rdNum_calls (fun k => w.heap.size < k ∧ k < w1.heap.size) g ⟨b, 0⟩ 72057594037927935 _ (HA.out.mono (fun k hk h => ⟨by simp at h; omega, hk⟩))).mono ?_
  rintro e w2 ⟨rfl, hA2, hM2⟩
  rw [show (RdS.mk b 0).num 72057594037927935 = p1 from H1.out.symm] at hA2 ⊢
  have I0 : RI #[.int .i64 0, .slice none 0 0] 58 w.heap.size w1.heap.size g w2.heap.size w (w2.alloc (.cells #[.int .i64 p1.1, .slice none 0 0] 58)) p1.2 #[.int .i64 p1.1, .slice none 0 0] := by
    have hg := HA.out.1
    simp at hg
    have s1 := HB1.out.size
    simp at s1
    have s2 := hM2.size
    have hrb : w2.heap[w.heap.size]? = some (.cells #[.int .i64 0, .slice none 0 0] 58 (0, 0)) := (hM2.block _ (by omega) (by omega)).trans ((HB1.out.block _ (by simp)).trans (heap_at rfl))
    exact ⟨heap_old (by omega) hrb, hA2.below ((Below.refl _ _).alloc (Nat.le_refl _) _), heap_alloc_new w2 _, (((bThen (bAlloc (Below.refl _ _) _) HB1.out)).trans (hM2.below (fun k _ hk => by subst hk; omega) (by omega))).alloc (by omega) _, s2⟩
  have I0h := hid I0
  have HG : Hid (w.heap.size < g ∧ g < w1.heap.size ∧ w1.heap.size ≤ w2.heap.size) := ⟨I0.2.1.1.1, I0.2.1.1.2, I0.2.2.2.2⟩
  have y0 := I0.cell 0 (.int .i64 p1.1) rfl
  have l0 := I0.lt
  clear I0 hA2 hM2
  go_wp2_with fail
  rw [← HR1.out] at I0h
  clear y0 l0
  refine (rdNum_calls _ g R1 16 _ I0h.out.rd).mono ?_
  rintro e w4 ⟨rfl, hA4, hM4⟩
  rw [← H2.out] at hA4 ⊢
  rw [HNP.out]
  have I3 := hid (I0h.out.call hA4 hM4)
  clear hA4 hM4
  go_wp2_with fail
  go_loopw [6] (fun nv wr => ∃ (m : Nat) (A : Option Addr) (n c : Nat), m ≤ N ∧ nv = .int .i64 ((N : Int) - m) ∧ Hid (RI #[.int .i64 0, .slice none 0 0] 58 w.heap.size w1.heap.size g w2.heap.size w wr (p2.2.texts m).2 #[.int .i64 p1.1, .slice A n c]) ∧ Hid (Own Kd.str 9 wr (w2.heap.size + 1) NoT (.slice A n c) (p2.2.texts m).1)) (fun nv _ => (intOf nv).toNat)
  case atStart => exact ⟨0, none, 0, 0, by omega, by simp, I3, Own.nil _ _ _ _ _⟩
  case round =>
    obtain ⟨m, A, n, c, hm, rfl, HI, HO⟩ := hrel
    by_cases hlt : m < N
    · have hgt : (0 : Int) < (N : Int) - m := by omega
      have hwr : IntKind.i64.wrap ((N : Int) - m - 1) = (N : Int) - m - 1 := IntWalk.i64_in _ (by omega)
      have x6 := HI.out.cell 1 (.slice A n c) rfl
      have l6 := HI.out.lt
      have HLN := hid (HTL.out m).2
      go_wp2_with fail
      go_region_law (first
        | (refine appends_step Kd.str (w2.heap.size + 1) rfl _ _ 22 9 _ 16 rfl Try.underlying22 Try.infoStrJ rfl (by decide) (by decide) (.slice A n c) (p2.2.texts m).1 [mkB ((p2.2.texts m).2.text 200).1] (some ⟨w6.heap.size, 0, none⟩) 1 1 NoT (fun k => k = w6.heap.size) NoT rfl rfl rfl (row_one (d := Kd.str) (te := 9) (fr := (0, 0)) (cs := [.string (mkB ((p2.2.texts m).2.text 200).1)]) (heap_at rfl) (fun _ => rfl)) (fun _ _ h => h) (fun _ h => h.elim) (O4.out.below (bAlloc (Below.refl _ _) _)) (by have := I4.out.lt; simp; omega) (by rw [HLN.out]; omega) ?_; intro v1 w7 hO1 hg1 hat; obtain ⟨A1, m1, c1, rfl, hm1, hc1⟩ := hO1.shape'; have I5 := hid (I4.out.above ((Below.refl _ _).alloc (Nat.succ_le_of_lt I4.out.lt) _ |>.grown hg1 (by have := I4.out.lt; simp; omega) (fun k hk => (O4.out.lt k hk).1))); have O5 := hid hO1; have y8 := I5.out.cell 1 (.slice A n c) rfl; have f8 := I5.out.froz 1; have l8 := I5.out.lt; clear hO1 hg1 hat hm1 hc1)
        | (go_simp; refine (rdText_calls _ g (p2.2.texts m).2 200 _ (HI.out.above (Below.refl _ _).drew).rd).mono ?_; rintro e w6 ⟨rfl, hA6, hM6⟩; have I4 := hid ((HI.out.above (Below.refl _ _).drew).call hA6 hM6); have O4 := hid ((HO.out.below (Below.refl _ _).drew).move (w1 := w6) (fun b hb hl => hM6.block b hl (by rcases hb with hb | hb; exact hb.elim; have := (HO.out.lt b hb).1; have := HG.out; omega)) (fun _ h _ => h)); have y6 := I4.out.cell 1 (.slice A n c) rfl; have y7 := fun o => (I4.out.above ((Below.refl _ _).alloc (Nat.succ_le_of_lt I4.out.lt) o)).cell 1 (.slice A n c) rfl; clear hA6 hM6)
        | fail)
      all_goals
        go_wp2
        go_roundw
        case rel => exact ⟨m + 1, _, _, _, by omega, congrArg (Value.int .i64) (by omega), I5.out.set 1 _, O5.out.setCell (p := ⟨w2.heap.size, 1, none⟩) (fun h => h) (fun e => by have := (O5.out.lt _ e).1; simp at this; omega) _⟩
        case measure => simp [intOf]; omega
    · obtain rfl : N = m := by omega
      have hgt : ¬ (0 : Int) < (N : Int) - N := by omega
      go_wp2_with fail
      refine (rdEnd_calls _ g _ _ HI.out.rd).mono ?_
      rintro e w' ⟨rfl, rfl⟩
      rw [← HE.out]
      obtain ⟨E, hE⟩ : ∃ E, E = jparseE b := ⟨_, rfl⟩
      rw [← hE]
      have HEE := hid hE
      have r0 := HI.out.rcell 0 (.int .i64 0) rfl
      have r1 := HI.out.rcell 1 (.slice none 0 0) rfl
      have s0 := HI.out.rfroz 0
      have s1 := HI.out.rfroz 1
      have z0 := HI.out.cell 0 (.int .i64 (p1.1)) rfl
      have z1 := HI.out.cell 1 (.slice A n c) rfl
      have rl := HI.out.rlt
      have hbw := hid HI.out.bel
      have hne := HI.out.ne
      have HG2 := hid HG.out
      by_cases hz : E = 0
      · have e0 : (E == (0 : Int)) = true := by rw [beq_iff_eq]; exact hz
        have e1 : (E != (0 : Int)) = false := by rw [bne_eq_false_iff_eq]; exact hz
        have HP := hid (show jparseJ b = ⟨p1.1, (p2.2.texts N).1⟩ by unfold jparseJ; rw [if_pos (by rw [← hE]; exact hz)]; exact HX.out)
        have HZ := hid hz
        clear hz hE
        obtain ⟨W', hW, T0, T1, TB, TN⟩ := set2 HI.out.1 (.int .i64 (p1.1)) (.slice A n c)
        have TB2 := hid (hbw.out.trans TB)
        have TK := hid (Own.K (HO.out.move (w1 := W') (fun k hk hl => TN k (by rcases hk with hk | hk; exact hk.elim; have := (HO.out.lt k hk).1; have := HG2.out; omega)) (fun _ h _ => h)))
        clear TB TN
        go_wp2
        rw [← hW]
        refine bodyPost_ret (by simp [results, Try.results69, go_sem, T0, T1]; try rfl) rfl ?_
        rw [HP.out]
        exact ⟨A, n, c, by rw [← HEE.out, HZ.out], Kd.mono _ (fun k hk _ => by rcases hk with hk | hk; exact hk.elim; have := HG2.out; omega) TK.out, TB2.out⟩
      · have e0 : (E == (0 : Int)) = false := by rw [beq_eq_false_iff_ne]; exact hz
        have e1 : (E != (0 : Int)) = true := by rw [bne_iff_ne]; exact hz
        have HP := hid (show jparseJ b = ⟨0, []⟩ by unfold jparseJ; rw [if_neg (by rw [← hE]; exact hz)])
        clear hz hE
        obtain ⟨W', hW, T0, T1, TB, TN⟩ := set2 HI.out.1 (.int .i64 0) (.slice none 0 0)
        have TB2 := hid (hbw.out.trans TB)
        clear TB TN
        go_wp2
        rw [← hW]
        refine bodyPost_ret (by simp [results, Try.results69, go_sem, T0, T1]; try rfl) rfl ?_
        rw [HP.out]
        exact ⟨none, 0, 0, by rw [← HEE.out], ⟨none, 0, rfl, by simp, by simp, Kd.Row.nil⟩, TB2.out⟩
set_option maxHeartbeats 12800000 in
set_option maxRecDepth 100000 in
theorem rjobParse_0 (b : List UInt8) (w : World) (hl : b.length ≤ 1000000) (hk : (jA1 b).1 = 0) :
    Calls Try.prog 70 #[.string (mkB b)] w fun e w' => ∃ A n c, e = .returned (.tuple #[.agg #[.int .i64 (jparseJ b).id, .slice A n c], .int .i64 (jparseE b)]) ∧ Kd.str.slice.K w' (fun k => w.heap.size ≤ k) (jparseJ b).needs [.slice A n c] ∧ Below w.heap.size w w' := by
  obtain ⟨p1, h1⟩ : ∃ p, p = jA1 b := ⟨_, rfl⟩
  rw [← h1] at hk
  obtain ⟨R1, hR1⟩ : ∃ R, R = jA1' b := ⟨_, rfl⟩
  obtain ⟨p2, h2⟩ : ∃ p : Int × RdS, p = R1.num 16 := ⟨_, rfl⟩
  have q2 : jA2 b = p2 := by unfold jA2; rw [← hR1]; exact h2.symm
  have hb2 := R1.num_0 16
  rw [← h2] at hb2
  obtain ⟨N, hN⟩ : ∃ N, N = p2.1.toNat := ⟨_, rfl⟩
  have hNp : p2.1 = (N : Int) := by omega
  have hN16 : N ≤ 16 := by omega
  have q3 : jA3 b = p2.2.texts N := by unfold jA3; rw [q2, hN]
  have HR1 := hid (show R1 = p1.2.fail 3 by rw [hR1]; unfold jA1'; rw [← h1]; exact if_pos hk)
  have hl1 : p1.2.b.length ≤ b.length := by have := (RdS.mk b 0).num_len 72057594037927935; rw [h1]; exact this
  have hl2 : R1.b.length ≤ 1000000 := by rw [HR1.out]; rw [RdS.fail_len]; omega
  have hl3 : p2.2.b.length ≤ 1000000 := by have := R1.num_len 16; rw [← h2] at this; omega
  have HL1 := hid (show p1.2.b.length ≤ 1000000 by omega)
  have HL2 := hid hl2
  have HL3 := hid hl3
  have HX := hid (show jparseX b = ⟨0, (p2.2.texts N).1⟩ by unfold jparseX; rw [← h1, q3, hk])
  have HE := hid (show jparseE b = (p2.2.texts N).2.fin by unfold jparseE; rw [q3])
  have H1 := hid h1
  have HK := hid hk
  have H2 := hid h2
  have HNP := hid hNp
  have HTL := hid (fun m => p2.2.texts_len m)
  clear h1 hk h2 hR1 q2 q3 hN hNp hb2 hl1 hl2 hl3
  go_enter Try.func70, Try.ntmps70
  go_wp2_with fail
  refine (rfNum_calls (w.heap.size + 1) ⟨b, 0⟩ 72057594037927935 _ (show RfAt ((w.alloc (.cells #[.int .i64 0, .slice none 0 0] 58)).alloc (.cells #[.string (mkB b), .int .i64 0] 182)) (w.heap.size + 1) ⟨b, 0⟩ from heap_at (by simp)) hl).mono ?_
  rintro e w2 ⟨rfl, hA2, hM2⟩
  rw [show (RdS.mk b 0).num 72057594037927935 = p1 from H1.out.symm] at hA2 ⊢
  rw [HK.out]
  have I0 : FI #[.int .i64 0, .slice none 0 0] 58 w.heap.size (w.heap.size + 1) w2.heap.size w (w2.alloc (.cells #[.int .i64 0, .slice none 0 0] 58)) p1.2 #[.int .i64 0, .slice none 0 0] := by
    have s2 := hM2.size
    simp at s2
    have hrb : w2.heap[w.heap.size]? = some (.cells #[.int .i64 0, .slice none 0 0] 58 (0, 0)) := (hM2.block _ (by simp; omega) (by omega)).trans (heap_old (by simp) (heap_at rfl))
    exact ⟨heap_old (by omega) hrb, hA2.below ((Below.refl _ _).alloc (Nat.le_refl _) _), heap_alloc_new w2 _, ((bAlloc (bAlloc (Below.refl _ _) _) _).trans (hM2.below (fun k _ hk => by subst hk; omega) (by simp; omega))).alloc (by omega) _, by omega, by omega⟩
  have I0h := hid I0
  have y0 := I0.cell 0 (.int .i64 0) rfl
  have l0 := I0.lt
  clear I0 hA2 hM2
  go_wp2_with fail
  refine (rfFail_calls _ p1.2 3 _ I0h.out.rd).mono ?_
  rintro e w3 ⟨rfl, hA3, hM3⟩
  rw [← HR1.out] at hA3
  have I1h := hid (I0h.out.call hA3 hM3)
  clear y0 l0 hA3 hM3
  go_wp2_with fail
  refine (rfNum_calls _ R1 16 _ I1h.out.rd HL2.out).mono ?_
  rintro e w4 ⟨rfl, hA4, hM4⟩
  rw [← H2.out] at hA4 ⊢
  rw [HNP.out]
  have I3 := hid (I1h.out.call hA4 hM4)
  clear hA4 hM4
  go_wp2_with fail
  go_loopw [7] (fun nv wr => ∃ (m : Nat) (A : Option Addr) (n c : Nat), m ≤ N ∧ nv = .int .i64 (m) ∧ Hid (FI #[.int .i64 0, .slice none 0 0] 58 w.heap.size (w.heap.size + 1) w2.heap.size w wr (p2.2.texts m).2 #[.int .i64 0, .slice A n c]) ∧ Hid (Own Kd.str 9 wr (w2.heap.size + 1) NoT (.slice A n c) (p2.2.texts m).1)) (fun nv _ => N - (intOf nv).toNat)
  case atStart => exact ⟨0, none, 0, 0, by omega, by simp, I3, Own.nil _ _ _ _ _⟩
  case round =>
    obtain ⟨m, A, n, c, hm, rfl, HI, HO⟩ := hrel
    by_cases hlt : m < N
    · have HLB := hid (Nat.le_trans (HTL.out m).1 HL3.out)
      have x6 := HI.out.cell 1 (.slice A n c) rfl
      have l6 := HI.out.lt
      have HLN := hid (HTL.out m).2
      go_wp2_with fail
      go_region_law (first
        | (refine appends_step Kd.str (w2.heap.size + 1) rfl _ _ 22 9 _ 16 rfl Try.underlying22 Try.infoStrJ rfl (by decide) (by decide) (.slice A n c) (p2.2.texts m).1 [mkB ((p2.2.texts m).2.text 200).1] (some ⟨w6.heap.size, 0, none⟩) 1 1 NoT (fun k => k = w6.heap.size) NoT rfl rfl rfl (row_one (d := Kd.str) (te := 9) (fr := (0, 0)) (cs := [.string (mkB ((p2.2.texts m).2.text 200).1)]) (heap_at rfl) (fun _ => rfl)) (fun _ _ h => h) (fun _ h => h.elim) (O4.out.below (bAlloc (Below.refl _ _) _)) (by have := I4.out.lt; simp; omega) (by rw [HLN.out]; omega) ?_; intro v1 w7 hO1 hg1 hat; obtain ⟨A1, m1, c1, rfl, hm1, hc1⟩ := hO1.shape'; have I5 := hid (I4.out.above ((Below.refl _ _).alloc (Nat.succ_le_of_lt I4.out.lt) _ |>.grown hg1 (by have := I4.out.lt; simp; omega) (fun k hk => (O4.out.lt k hk).1))); have O5 := hid hO1; have y8 := I5.out.cell 1 (.slice A n c) rfl; have f8 := I5.out.froz 1; have l8 := I5.out.lt; clear hO1 hg1 hat hm1 hc1)
        | (go_simp; refine (rfText_calls _ (p2.2.texts m).2 200 _ (HI.out.above (Below.refl _ _).drew).rd HLB.out).mono ?_; rintro e w6 ⟨rfl, hA6, hM6⟩; have I4 := hid ((HI.out.above (Below.refl _ _).drew).call hA6 hM6); have O4 := hid ((HO.out.below (Below.refl _ _).drew).move (w1 := w6) (fun b hb hl => hM6.block b hl (by rcases hb with hb | hb; exact hb.elim; have := (HO.out.lt b hb).1; have := HI.out.2.2.2.2; omega)) (fun _ h _ => h)); have y6 := I4.out.cell 1 (.slice A n c) rfl; have y7 := fun o => (I4.out.above ((Below.refl _ _).alloc (Nat.succ_le_of_lt I4.out.lt) o)).cell 1 (.slice A n c) rfl; clear hA6 hM6)
        | fail)
      all_goals
        go_wp2
        go_roundw
        case rel => exact ⟨m + 1, _, _, _, by omega, by go_num, I5.out.set 1 _, O5.out.setCell (p := ⟨w2.heap.size, 1, none⟩) (fun h => h) (fun e => by have := (O5.out.lt _ e).1; simp at this; omega) _⟩
        case measure => simp [intOf]; omega
    · obtain rfl : N = m := by omega
      have HLB := hid (Nat.le_trans (HTL.out N).1 HL3.out)
      go_wp2_with fail
      refine (rfEnd_calls _ _ _ HI.out.rd HLB.out).mono ?_
      rintro e w' ⟨rfl, rfl⟩
      rw [← HE.out]
      obtain ⟨E, hE⟩ : ∃ E, E = jparseE b := ⟨_, rfl⟩
      rw [← hE]
      have HEE := hid hE
      have r0 := HI.out.rcell 0 (.int .i64 0) rfl
      have r1 := HI.out.rcell 1 (.slice none 0 0) rfl
      have s0 := HI.out.rfroz 0
      have s1 := HI.out.rfroz 1
      have z0 := HI.out.cell 0 (.int .i64 (0)) rfl
      have z1 := HI.out.cell 1 (.slice A n c) rfl
      have rl := HI.out.rlt
      have hbw := hid HI.out.bel
      have hne := HI.out.ne
      have HG2 := hid HI.out.2.2.2.2
      by_cases hz : E = 0
      · have e0 : (E == (0 : Int)) = true := by rw [beq_iff_eq]; exact hz
        have e1 : (E != (0 : Int)) = false := by rw [bne_eq_false_iff_eq]; exact hz
        have HP := hid (show jparseJ b = ⟨0, (p2.2.texts N).1⟩ by unfold jparseJ; rw [if_pos (by rw [← hE]; exact hz)]; exact HX.out)
        have HZ := hid hz
        clear hz hE
        obtain ⟨W', hW, T0, T1, TB, TN⟩ := set2 HI.out.1 (.int .i64 (0)) (.slice A n c)
        have TB2 := hid (hbw.out.trans TB)
        have TK := hid (Own.K (HO.out.move (w1 := W') (fun k hk hl => TN k (by rcases hk with hk | hk; exact hk.elim; have := (HO.out.lt k hk).1; have := HG2.out; omega)) (fun _ h _ => h)))
        clear TB TN
        go_wp2
        rw [← hW]
        refine bodyPost_ret (by simp [results, Try.results70, go_sem, T0, T1]; try rfl) rfl ?_
        rw [HP.out]
        exact ⟨A, n, c, by rw [← HEE.out, HZ.out], Kd.mono _ (fun k hk _ => by rcases hk with hk | hk; exact hk.elim; have := HG2.out; omega) TK.out, TB2.out⟩
      · have e0 : (E == (0 : Int)) = false := by rw [beq_eq_false_iff_ne]; exact hz
        have e1 : (E != (0 : Int)) = true := by rw [bne_iff_ne]; exact hz
        have HP := hid (show jparseJ b = ⟨0, []⟩ by unfold jparseJ; rw [if_neg (by rw [← hE]; exact hz)])
        clear hz hE
        obtain ⟨W', hW, T0, T1, TB, TN⟩ := set2 HI.out.1 (.int .i64 0) (.slice none 0 0)
        have TB2 := hid (hbw.out.trans TB)
        clear TB TN
        go_wp2
        rw [← hW]
        refine bodyPost_ret (by simp [results, Try.results70, go_sem, T0, T1]; try rfl) rfl ?_
        rw [HP.out]
        exact ⟨none, 0, 0, by rw [← HEE.out], ⟨none, 0, rfl, by simp, by simp, Kd.Row.nil⟩, TB2.out⟩
set_option maxHeartbeats 12800000 in
set_option maxRecDepth 100000 in
theorem rjobParse_1 (b : List UInt8) (w : World) (hl : b.length ≤ 1000000) (hk : (jA1 b).1 ≠ 0) :
    Calls Try.prog 70 #[.string (mkB b)] w fun e w' => ∃ A n c, e = .returned (.tuple #[.agg #[.int .i64 (jparseJ b).id, .slice A n c], .int .i64 (jparseE b)]) ∧ Kd.str.slice.K w' (fun k => w.heap.size ≤ k) (jparseJ b).needs [.slice A n c] ∧ Below w.heap.size w w' := by
  obtain ⟨p1, h1⟩ : ∃ p, p = jA1 b := ⟨_, rfl⟩
  rw [← h1] at hk
  obtain ⟨R1, hR1⟩ : ∃ R, R = jA1' b := ⟨_, rfl⟩
  obtain ⟨p2, h2⟩ : ∃ p : Int × RdS, p = R1.num 16 := ⟨_, rfl⟩
  have q2 : jA2 b = p2 := by unfold jA2; rw [← hR1]; exact h2.symm
  have hb2 := R1.num_0 16
  rw [← h2] at hb2
  obtain ⟨N, hN⟩ : ∃ N, N = p2.1.toNat := ⟨_, rfl⟩
  have hNp : p2.1 = (N : Int) := by omega
  have hN16 : N ≤ 16 := by omega
  have q3 : jA3 b = p2.2.texts N := by unfold jA3; rw [q2, hN]
  have HR1 := hid (show R1 = p1.2 by rw [hR1]; unfold jA1'; rw [← h1]; exact if_neg hk)
  have hl1 : p1.2.b.length ≤ b.length := by have := (RdS.mk b 0).num_len 72057594037927935; rw [h1]; exact this
  have hl2 : R1.b.length ≤ 1000000 := by rw [HR1.out]; omega
  have hl3 : p2.2.b.length ≤ 1000000 := by have := R1.num_len 16; rw [← h2] at this; omega
  have HL1 := hid (show p1.2.b.length ≤ 1000000 by omega)
  have HL2 := hid hl2
  have HL3 := hid hl3
  have HX := hid (show jparseX b = ⟨p1.1, (p2.2.texts N).1⟩ by unfold jparseX; rw [← h1, q3])
  have HE := hid (show jparseE b = (p2.2.texts N).2.fin by unfold jparseE; rw [q3])
  have H1 := hid h1
  have HK := hid hk
  have H2 := hid h2
  have HNP := hid hNp
  have HTL := hid (fun m => p2.2.texts_len m)
  have hj0 : (p1.1 == (0 : Int)) = false := by rw [beq_eq_false_iff_ne]; exact hk
  clear h1 hk h2 hR1 q2 q3 hN hNp hb2 hl1 hl2 hl3
  go_enter Try.func70, Try.ntmps70
  go_wp2_with fail
  refine (rfNum_calls (w.heap.size + 1) ⟨b, 0⟩ 72057594037927935 _ (show RfAt ((w.alloc (.cells #[.int .i64 0, .slice none 0 0] 58)).alloc (.cells #[.string (mkB b), .int .i64 0] 182)) (w.heap.size + 1) ⟨b, 0⟩ from heap_at (by simp)) hl).mono ?_
  rintro e w2 ⟨rfl, hA2, hM2⟩
  rw [show (RdS.mk b 0).num 72057594037927935 = p1 from H1.out.symm] at hA2 ⊢
  have I0 : FI #[.int .i64 0, .slice none 0 0] 58 w.heap.size (w.heap.size + 1) w2.heap.size w (w2.alloc (.cells #[.int .i64 p1.1, .slice none 0 0] 58)) p1.2 #[.int .i64 p1.1, .slice none 0 0] := by
    have s2 := hM2.size
    simp at s2
    have hrb : w2.heap[w.heap.size]? = some (.cells #[.int .i64 0, .slice none 0 0] 58 (0, 0)) := (hM2.block _ (by simp; omega) (by omega)).trans (heap_old (by simp) (heap_at rfl))
    exact ⟨heap_old (by omega) hrb, hA2.below ((Below.refl _ _).alloc (Nat.le_refl _) _), heap_alloc_new w2 _, ((bAlloc (bAlloc (Below.refl _ _) _) _).trans (hM2.below (fun k _ hk => by subst hk; omega) (by simp; omega))).alloc (by omega) _, by omega, by omega⟩
  have I0h := hid I0
  have y0 := I0.cell 0 (.int .i64 p1.1) rfl
  have l0 := I0.lt
  clear I0 hA2 hM2
  go_wp2_with fail
  rw [← HR1.out] at I0h
  clear y0 l0
  refine (rfNum_calls _ R1 16 _ I0h.out.rd HL2.out).mono ?_
  rintro e w4 ⟨rfl, hA4, hM4⟩
  rw [← H2.out] at hA4 ⊢
  rw [HNP.out]
  have I3 := hid (I0h.out.call hA4 hM4)
  clear hA4 hM4
  go_wp2_with fail
  go_loopw [7] (fun nv wr => ∃ (m : Nat) (A : Option Addr) (n c : Nat), m ≤ N ∧ nv = .int .i64 (m) ∧ Hid (FI #[.int .i64 0, .slice none 0 0] 58 w.heap.size (w.heap.size + 1) w2.heap.size w wr (p2.2.texts m).2 #[.int .i64 p1.1, .slice A n c]) ∧ Hid (Own Kd.str 9 wr (w2.heap.size + 1) NoT (.slice A n c) (p2.2.texts m).1)) (fun nv _ => N - (intOf nv).toNat)
  case atStart => exact ⟨0, none, 0, 0, by omega, by simp, I3, Own.nil _ _ _ _ _⟩
  case round =>
    obtain ⟨m, A, n, c, hm, rfl, HI, HO⟩ := hrel
    by_cases hlt : m < N
    · have HLB := hid (Nat.le_trans (HTL.out m).1 HL3.out)
      have x6 := HI.out.cell 1 (.slice A n c) rfl
      have l6 := HI.out.lt
      have HLN := hid (HTL.out m).2
      go_wp2_with fail
      go_region_law (first
        | (refine appends_step Kd.str (w2.heap.size + 1) rfl _ _ 22 9 _ 16 rfl Try.underlying22 Try.infoStrJ rfl (by decide) (by decide) (.slice A n c) (p2.2.texts m).1 [mkB ((p2.2.texts m).2.text 200).1] (some ⟨w6.heap.size, 0, none⟩) 1 1 NoT (fun k => k = w6.heap.size) NoT rfl rfl rfl (row_one (d := Kd.str) (te := 9) (fr := (0, 0)) (cs := [.string (mkB ((p2.2.texts m).2.text 200).1)]) (heap_at rfl) (fun _ => rfl)) (fun _ _ h => h) (fun _ h => h.elim) (O4.out.below (bAlloc (Below.refl _ _) _)) (by have := I4.out.lt; simp; omega) (by rw [HLN.out]; omega) ?_; intro v1 w7 hO1 hg1 hat; obtain ⟨A1, m1, c1, rfl, hm1, hc1⟩ := hO1.shape'; have I5 := hid (I4.out.above ((Below.refl _ _).alloc (Nat.succ_le_of_lt I4.out.lt) _ |>.grown hg1 (by have := I4.out.lt; simp; omega) (fun k hk => (O4.out.lt k hk).1))); have O5 := hid hO1; have y8 := I5.out.cell 1 (.slice A n c) rfl; have f8 := I5.out.froz 1; have l8 := I5.out.lt; clear hO1 hg1 hat hm1 hc1)
        | (go_simp; refine (rfText_calls _ (p2.2.texts m).2 200 _ (HI.out.above (Below.refl _ _).drew).rd HLB.out).mono ?_; rintro e w6 ⟨rfl, hA6, hM6⟩; have I4 := hid ((HI.out.above (Below.refl _ _).drew).call hA6 hM6); have O4 := hid ((HO.out.below (Below.refl _ _).drew).move (w1 := w6) (fun b hb hl => hM6.block b hl (by rcases hb with hb | hb; exact hb.elim; have := (HO.out.lt b hb).1; have := HI.out.2.2.2.2; omega)) (fun _ h _ => h)); have y6 := I4.out.cell 1 (.slice A n c) rfl; have y7 := fun o => (I4.out.above ((Below.refl _ _).alloc (Nat.succ_le_of_lt I4.out.lt) o)).cell 1 (.slice A n c) rfl; clear hA6 hM6)
        | fail)
      all_goals
        go_wp2
        go_roundw
        case rel => exact ⟨m + 1, _, _, _, by omega, by go_num, I5.out.set 1 _, O5.out.setCell (p := ⟨w2.heap.size, 1, none⟩) (fun h => h) (fun e => by have := (O5.out.lt _ e).1; simp at this; omega) _⟩
        case measure => simp [intOf]; omega
    · obtain rfl : N = m := by omega
      have HLB := hid (Nat.le_trans (HTL.out N).1 HL3.out)
      go_wp2_with fail
      refine (rfEnd_calls _ _ _ HI.out.rd HLB.out).mono ?_
      rintro e w' ⟨rfl, rfl⟩
      rw [← HE.out]
      obtain ⟨E, hE⟩ : ∃ E, E = jparseE b := ⟨_, rfl⟩
      rw [← hE]
      have HEE := hid hE
      have r0 := HI.out.rcell 0 (.int .i64 0) rfl
      have r1 := HI.out.rcell 1 (.slice none 0 0) rfl
      have s0 := HI.out.rfroz 0
      have s1 := HI.out.rfroz 1
      have z0 := HI.out.cell 0 (.int .i64 (p1.1)) rfl
      have z1 := HI.out.cell 1 (.slice A n c) rfl
      have rl := HI.out.rlt
      have hbw := hid HI.out.bel
      have hne := HI.out.ne
      have HG2 := hid HI.out.2.2.2.2
      by_cases hz : E = 0
      · have e0 : (E == (0 : Int)) = true := by rw [beq_iff_eq]; exact hz
        have e1 : (E != (0 : Int)) = false := by rw [bne_eq_false_iff_eq]; exact hz
        have HP := hid (show jparseJ b = ⟨p1.1, (p2.2.texts N).1⟩ by unfold jparseJ; rw [if_pos (by rw [← hE]; exact hz)]; exact HX.out)
        have HZ := hid hz
        clear hz hE
        obtain ⟨W', hW, T0, T1, TB, TN⟩ := set2 HI.out.1 (.int .i64 (p1.1)) (.slice A n c)
        have TB2 := hid (hbw.out.trans TB)
        have TK := hid (Own.K (HO.out.move (w1 := W') (fun k hk hl => TN k (by rcases hk with hk | hk; exact hk.elim; have := (HO.out.lt k hk).1; have := HG2.out; omega)) (fun _ h _ => h)))
        clear TB TN
        go_wp2
        rw [← hW]
        refine bodyPost_ret (by simp [results, Try.results70, go_sem, T0, T1]; try rfl) rfl ?_
        rw [HP.out]
        exact ⟨A, n, c, by rw [← HEE.out, HZ.out], Kd.mono _ (fun k hk _ => by rcases hk with hk | hk; exact hk.elim; have := HG2.out; omega) TK.out, TB2.out⟩
      · have e0 : (E == (0 : Int)) = false := by rw [beq_eq_false_iff_ne]; exact hz
        have e1 : (E != (0 : Int)) = true := by rw [bne_iff_ne]; exact hz
        have HP := hid (show jparseJ b = ⟨0, []⟩ by unfold jparseJ; rw [if_neg (by rw [← hE]; exact hz)])
        clear hz hE
        obtain ⟨W', hW, T0, T1, TB, TN⟩ := set2 HI.out.1 (.int .i64 0) (.slice none 0 0)
        have TB2 := hid (hbw.out.trans TB)
        clear TB TN
        go_wp2
        rw [← hW]
        refine bodyPost_ret (by simp [results, Try.results70, go_sem, T0, T1]; try rfl) rfl ?_
        rw [HP.out]
        exact ⟨none, 0, 0, by rw [← HEE.out], ⟨none, 0, rfl, by simp, by simp, Kd.Row.nil⟩, TB2.out⟩
theorem jobParse_calls (b : List UInt8) (v : Value) (w : World) (hb : Kd.u8.slice.K w Any b [v]) (hl : b.length ≤ 1000000) :
    Calls Try.prog 69 #[v] w fun e w' => ∃ A n c, e = .returned (.tuple #[.agg #[.int .i64 (jparseJ b).id, .slice A n c], .int .i64 (jparseE b)]) ∧ Kd.str.slice.K w' (fun k => w.heap.size ≤ k) (jparseJ b).needs [.slice A n c] ∧ Below w.heap.size w w' := by
  by_cases h : (jA1 b).1 = 0
  · exact jobParse_0 b v w hb hl h
  · exact jobParse_1 b v w hb hl h
theorem rjobParse_calls (b : List UInt8) (w : World) (hl : b.length ≤ 1000000) :
    Calls Try.prog 70 #[.string (mkB b)] w fun e w' => ∃ A n c, e = .returned (.tuple #[.agg #[.int .i64 (jparseJ b).id, .slice A n c], .int .i64 (jparseE b)]) ∧ Kd.str.slice.K w' (fun k => w.heap.size ≤ k) (jparseJ b).needs [.slice A n c] ∧ Below w.heap.size w w' := by
  by_cases h : (jA1 b).1 = 0
  · exact rjobParse_0 b w hl h
  · exact rjobParse_1 b w hl h
end Go.Proofs.Yteijgeofimcijaa
