import Derived.Test.YtolckkckheiceaaRdA
import Derived.Test.YtolckkckheiceaaConfK
import Derived.Deep.RegionLaw
import Derived.Test.YtolckkckheiceaaAt8N
import Derived.Test.YtolckkckheiceaaR01
import Derived.Test.YtolckkckheiceaaRef03L
import Derived.Test.YtolckkckheiceaaNamesS
import Derived.Test.YtolckkckheiceaaBoxW
import Derived.Deep.RegionHeld3
/- job.Parse; siskinref15.Parse. Printed by gen_jobp.py. -/
namespace Go.Proofs.Ytolckkckheiceaa
open Go.RowKit

def jA1 (b : List UInt8) : Int × RdS := (RdS.mk b 0).num 72057594037927935
def jA1' (b : List UInt8) : RdS := if (jA1 b).1 = 0 then (jA1 b).2.fail 3 else (jA1 b).2
def jA2 (b : List UInt8) : Int × RdS := (jA1' b).num 16
def jA3 (b : List UInt8) : List ByteArray × RdS := (jA2 b).2.texts (jA2 b).1.toNat
def jparseX (b : List UInt8) : JobS := ⟨(jA1 b).1, (jA3 b).1⟩
def jparseE (b : List UInt8) : Int := (jA3 b).2.fin
def jparseJ (b : List UInt8) : JobS := if jparseE b = 0 then jparseX b else ⟨0, []⟩
theorem Try.infoStrJ : (Try.prog.info? 9).map (fun i => (i.zero, i.size, i.bytes)) = some (some (.string ⟨#[]⟩), 1, 16) := by kernel_rfl
set_option maxHeartbeats 12800000 in
set_option maxRecDepth 100000 in
theorem jobParse_0 (b : List UInt8) (v : Value) (w : World) (hb : Kd.u8.slice.K w Any b [v]) (hl : b.length ≤ 1000000) (hk : (jA1 b).1 = 0) :
    Calls Try.prog 42 #[v] w fun e w' => ∃ A n c, e = .returned (.tuple #[.agg #[.int .i64 (jparseJ b).id, .slice A n c], .int .i64 (jparseE b)]) ∧ Kd.str.slice.K w' (fun k => w.heap.size ≤ k) (jparseJ b).needs [.slice A n c] ∧ Below w.heap.size w w' := by
  have HB := hid hb
  clear hb
  obtain ⟨p1, h1⟩ : ∃ p, p = jA1 b := ⟨_, rfl⟩
  rw [← h1] at hk
  obtain ⟨R1, hR1⟩ : ∃ R, R = jA1' b := ⟨_, rfl⟩
  obtain ⟨p2, h2⟩ : ∃ p : Int × RdS, p = R1.num 16 := ⟨_, rfl⟩
  have q2 : jA2 b = p2 := by unfold jA2; rw [← hR1]; exact h2.symm
  have hb2 := R1.num_0 16
  rw [← h2] at hb2
  obtain ⟨N, hN⟩ : ∃ N, N = p2.1.toNat := ⟨_, rfl⟩
  have hNp : p2.1 = (N : Int) := by omega
  have hN16 : N ≤ 16 := by omega
  have q3 : jA3 b = p2.2.texts N := by unfold jA3; rw [q2, hN]
  have HR1 := hid (show R1 = p1.2.fail 3 by rw [hR1]; unfold jA1'; rw [← h1]; exact if_pos hk)
  have hl1 : p1.2.b.length ≤ b.length := by have := (RdS.mk b 0).num_len 72057594037927935; rw [h1]; exact this
  have hl2 : R1.b.length ≤ 1000000 := by rw [HR1.out]; rw [RdS.fail_len]; omega
  have hl3 : p2.2.b.length ≤ 1000000 := by have := R1.num_len 16; rw [← h2] at this; omega
  have HL1 := hid (show p1.2.b.length ≤ 1000000 by omega)
  have HL2 := hid hl2
  have HL3 := hid hl3
  have HX := hid (show jparseX b = ⟨0, (p2.2.texts N).1⟩ by unfold jparseX; rw [← h1, q3, hk])
  have HE := hid (show jparseE b = (p2.2.texts N).2.fin by unfold jparseE; rw [q3])
  have H1 := hid h1
  have HK := hid hk
  have H2 := hid h2
  have HNP := hid hNp
  have HTL := hid (fun m => p2.2.texts_len m)
  clear h1 hk h2 hR1 q2 q3 hN hNp hb2 hl1 hl2 hl3
  go_enter Try.func42, Try.ntmps42
  go_wp2_with fail
  refine (rdNew_calls b v _ (Kd.below HB.out (bAlloc (Below.refl _ _) _)) hl).mono ?_
  rintro e w1 ⟨g, rfl, hA, hb1⟩
  have HA := hid hA
  have HB1 := hid hb1
  clear hA hb1
  go_wp2_with fail
  refine (rdNum_calls (fun k => w.heap.size < k ∧ k < w1.heap.size) g ⟨b, 0⟩ 72057594037927935 _ (HA.out.mono (fun k hk h => ⟨by simp at h; omega, hk⟩))).mono ?_
  rintro e w2 ⟨rfl, hA2, hM2⟩
  rw [show (RdS.mk b 0).num 72057594037927935 = p1 from H1.out.symm] at hA2 ⊢
  rw [HK.out]
  have I0 : RI #[.int .i64 0, .slice none 0 0] 67 w.heap.size w1.heap.size g w2.heap.size w (w2.alloc (.cells #[.int .i64 0, .slice none 0 0] 67)) p1.2 #[.int .i64 0, .slice none 0 0] := by
    have hg := HA.out.1
    simp at hg
    have s1 := HB1.out.size
    simp at s1
    have s2 := hM2.size
    have hrb : w2.heap[w.heap.size]? = some (.cells #[.int .i64 0, .slice none 0 0] 67 (0, 0)) := (hM2.block _ (by omega) (by omega)).trans ((HB1.out.block _ (by simp)).trans (heap_at rfl))
    exact ⟨heap_old (by omega) hrb, hA2.below ((Below.refl _ _).alloc (Nat.le_refl _) _), heap_alloc_new w2 _, (((bThen (bAlloc (Below.refl _ _) _) HB1.out)).trans (hM2.below (fun k _ hk => by subst hk; omega) (by omega))).alloc (by omega) _, s2⟩
  have I0h := hid I0
  have HG : Hid (w.heap.size < g ∧ g < w1.heap.size ∧ w1.heap.size ≤ w2.heap.size) := ⟨I0.2.1.1.1, I0.2.1.1.2, I0.2.2.2.2⟩
  have y0 := I0.cell 0 (.int .i64 0) rfl
  have l0 := I0.lt
  clear I0 hA2 hM2
  go_wp2_with fail
  refine (rdFail_calls _ g p1.2 3 _ I0h.out.rd).mono ?_
  rintro e w3 ⟨rfl, hA3, hM3⟩
  rw [← HR1.out] at hA3
  have I1h := hid (I0h.out.call hA3 hM3)
  clear y0 l0 hA3 hM3
  go_wp2_with fail
  refine (rdNum_calls _ g R1 16 _ I1h.out.rd).mono ?_
  rintro e w4 ⟨rfl, hA4, hM4⟩
  rw [← H2.out] at hA4 ⊢
  rw [HNP.out]
  have I3 := hid (I1h.out.call hA4 hM4)
  clear hA4 hM4
  go_wp2_with fail
  go_loopw [6] (fun nv wr => ∃ (m : Nat) (A : Option Addr) (n c : Nat), m ≤ N ∧ nv = .int .i64 ((N : Int) - m) ∧ Hid (RI #[.int .i64 0, .slice none 0 0] 67 w.heap.size w1.heap.size g w2.heap.size w wr (p2.2.texts m).2 #[.int .i64 0, .slice A n c]) ∧ Hid (Own Kd.str 9 wr (w2.heap.size + 1) NoT (.slice A n c) (p2.2.texts m).1)) (fun nv _ => (intOf nv).toNat)
  case atStart => exact ⟨0, none, 0, 0, by omega, by simp, I3, Own.nil _ _ _ _ _⟩
  case round =>
    obtain ⟨m, A, n, c, hm, rfl, HI, HO⟩ := hrel
    by_cases hlt : m < N
    · have hgt : (0 : Int) < (N : Int) - m := by omega
      have hwr : IntKind.i64.wrap ((N : Int) - m - 1) = (N : Int) - m - 1 := IntWalk.i64_in _ (by omega)
      have x6 := HI.out.cell 1 (.slice A n c) rfl
      have l6 := HI.out.lt
      have HLN := hid (HTL.out m).2
      go_wp2_with fail
      go_region_law (first
        | (refine appends_step Kd.str (w2.heap.size + 1) rfl _ _ 22 9 _ 16 rfl Try.underlying22 Try.infoStrJ rfl (by decide) (by decide) (.slice A n c) (p2.2.texts m).1 [mkB ((p2.2.texts m).2.text 200).1] (some ⟨w6.heap.size, 0, none⟩) 1 1 NoT (fun k => k = w6.heap.size) NoT rfl rfl rfl (row_one (d := Kd.str) (te := 9) (fr := (0, 0)) (cs := [.string (mkB ((p2.2.texts m).2.text 200).1)]) (heap_at rfl) (fun _ => rfl)) (fun _ _ h => h) (fun _ h => h.elim) (O4.out.below (bAlloc (Below.refl _ _) _)) (by have := I4.out.lt; simp; omega) (by rw [HLN.out]; omega) ?_; intro v1 w7 hO1 hg1 hat; obtain ⟨A1, m1, c1, rfl, hm1, hc1⟩ := hO1.shape'; have I5 := hid (I4.out.above ((Below.refl _ _).alloc (Nat.succ_le_of_lt I4.out.lt) _ |>.grown hg1 (by have := I4.out.lt; simp; omega) (fun k hk => (O4.out.lt k hk).1))); have O5 := hid hO1; have y8 := I5.out.cell 1 (.slice A n c) rfl; have f8 := I5.out.froz 1; have l8 := I5.out.lt; clear hO1 hg1 hat hm1 hc1)
        | (go_simp; refine (rdText_calls _ g (p2.2.texts m).2 200 _ (HI.out.above (Below.refl _ _).drew).rd).mono ?_; rintro e w6 ⟨rfl, hA6, hM6⟩; have I4 := hid ((HI.out.above (Below.refl _ _).drew).call hA6 hM6); have O4 := hid ((HO.out.below (Below.refl _ _).drew).move (w1 := w6) (fun b hb hl => hM6.block b hl (by rcases hb with hb | hb; exact hb.elim; have := (HO.out.lt b hb).1; have := HG.out; omega)) (fun _ h _ => h)); have y6 := I4.out.cell 1 (.slice A n c) rfl; have y7 := fun o => (I4.out.above ((Below.refl _ _).alloc (Nat.succ_le_of_lt I4.out.lt) o)).cell 1 (.slice A n c) rfl; clear hA6 hM6)
        | fail)
      all_goals
        go_wp2
        go_roundw
        case rel => exact ⟨m + 1, _, _, _, by omega, congrArg (Value.int .i64) (by omega), I5.out.set 1 _, O5.out.setCell (p := ⟨w2.heap.size, 1, none⟩) (fun h => h) (fun e => by have := (O5.out.lt _ e).1; simp at this; omega) _⟩
        case measure => simp [intOf]; omega
    · obtain rfl : N = m := by omega
      have hgt : ¬ (0 : Int) < (N : Int) - N := by omega
      go_wp2_with fail
      refine (rdEnd_calls _ g _ _ HI.out.rd).mono ?_
      rintro e w' ⟨rfl, rfl⟩
      rw [← HE.out]
      obtain ⟨E, hE⟩ : ∃ E, E = jparseE b := ⟨_, rfl⟩
      rw [← hE]
      have HEE := hid hE
      have r0 := HI.out.rcell 0 (.int .i64 0) rfl
      have r1 := HI.out.rcell 1 (.slice none 0 0) rfl
      have s0 := HI.out.rfroz 0
      have s1 := HI.out.rfroz 1
      have z0 := HI.out.cell 0 (.int .i64 (0)) rfl
      have z1 := HI.out.cell 1 (.slice A n c) rfl
      have rl := HI.out.rlt
      have hbw := hid HI.out.bel
      have hne := HI.out.ne
      have HG2 := hid HG.out
      by_cases hz : E = 0
      · have e0 : (E == (0 : Int)) = true := by rw [beq_iff_eq]; exact hz
        have e1 : (E != (0 : Int)) = false := by rw [bne_eq_false_iff_eq]; exact hz
        have HP := hid (show jparseJ b = ⟨0, (p2.2.texts N).1⟩ by unfold jparseJ; rw [if_pos (by rw [← hE]; exact hz)]; exact HX.out)
        have HZ := hid hz
        clear hz hE
        obtain ⟨W', hW, T0, T1, TB, TN⟩ := set2 HI.out.1 (.int .i64 (0)) (.slice A n c)
        have TB2 := hid (hbw.out.trans TB)
        have TK := hid (Own.K (HO.out.move (w1 := W') (fun k hk hl => TN k (by rcases hk with hk | hk; exact hk.elim; have := (HO.out.lt k hk).1; have := HG2.out; omega)) (fun _ h _ => h)))
        clear TB TN
        go_wp2
        rw [← hW]
        refine bodyPost_ret (by simp [results, Try.results42, go_sem, T0, T1]; try rfl) rfl ?_
        rw [HP.out]
        exact ⟨A, n, c, by rw [← HEE.out, HZ.out], Kd.mono _ (fun k hk _ => by rcases hk with hk | hk; exact hk.elim; have := HG2.out; omega) TK.out, TB2.out⟩
      · have e0 : (E == (0 : Int)) = false := by rw [beq_eq_false_iff_ne]; exact hz
        have e1 : (E != (0 : Int)) = true := by rw [bne_iff_ne]; exact hz
        have HP := hid (show jparseJ b = ⟨0, []⟩ by unfold jparseJ; rw [if_neg (by rw [← hE]; exact hz)])
        clear hz hE
        obtain ⟨W', hW, T0, T1, TB, TN⟩ := set2 HI.out.1 (.int .i64 0) (.slice none 0 0)
        have TB2 := hid (hbw.out.trans TB)
        clear TB TN
        go_wp2
        rw [← hW]
        refine bodyPost_ret (by simp [results, Try.results42, go_sem, T0, T1]; try rfl) rfl ?_
        rw [HP.out]
        exact ⟨none, 0, 0, by rw [← HEE.out], ⟨none, 0, rfl, by simp, by simp, Kd.Row.nil⟩, TB2.out⟩
set_option maxHeartbeats 12800000 in
set_option maxRecDepth 100000 in
theorem jobParse_1 (b : List UInt8) (v : Value) (w : World) (hb : Kd.u8.slice.K w Any b [v]) (hl : b.length ≤ 1000000) (hk : (jA1 b).1 ≠ 0) :
    Calls Try.prog 42 #[v] w fun e w' => ∃ A n c, e = .returned (.tuple #[.agg #[.int .i64 (jparseJ b).id, .slice A n c], .int .i64 (jparseE b)]) ∧ Kd.str.slice.K w' (fun k => w.heap.size ≤ k) (jparseJ b).needs [.slice A n c] ∧ Below w.heap.size w w' := by
  have HB := hid hb
  clear hb
  obtain ⟨p1, h1⟩ : ∃ p, p = jA1 b := ⟨_, rfl⟩
  rw [← h1] at hk
  obtain ⟨R1, hR1⟩ : ∃ R, R = jA1' b := ⟨_, rfl⟩
  obtain ⟨p2, h2⟩ : ∃ p : Int × RdS, p = R1.num 16 := ⟨_, rfl⟩
  have q2 : jA2 b = p2 := by unfold jA2; rw [← hR1]; exact h2.symm
  have hb2 := R1.num_0 16
  rw [← h2] at hb2
  obtain ⟨N, hN⟩ : ∃ N, N = p2.1.toNat := ⟨_, rfl⟩
  have hNp : p2.1 = (N : Int) := by omega
  have hN16 : N ≤ 16 := by omega
  have q3 : jA3 b = p2.2.texts N := by unfold jA3; rw [q2, hN]
  have HR1 := hid (show R1 = p1.2 by rw [hR1]; unfold jA1'; rw [← h1]; exact if_neg hk)
  have hl1 : p1.2.b.length ≤ b.length := by have := (RdS.mk b 0).num_len 72057594037927935; rw [h1]; exact this
  have hl2 : R1.b.length ≤ 1000000 := by rw [HR1.out]; omega
  have hl3 : p2.2.b.length ≤ 1000000 := by have := R1.num_len 16; rw [← h2] at this; omega
  have HL1 := hid (show p1.2.b.length ≤ 1000000 by omega)
  have HL2 := hid hl2
  have HL3 := hid hl3
  have HX := hid (show jparseX b = ⟨p1.1, (p2.2.texts N).1⟩ by unfold jparseX; rw [← h1, q3])
  have HE := hid (show jparseE b = (p2.2.texts N).2.fin by unfold jparseE; rw [q3])
  have H1 := hid h1
  have HK := hid hk
  have H2 := hid h2
  have HNP := hid hNp
  have HTL := hid (fun m => p2.2.texts_len m)
  have hj0 : (p1.1 == (0 : Int)) = false := by rw [beq_eq_false_iff_ne]; exact hk
  clear h1 hk h2 hR1 q2 q3 hN hNp hb2 hl1 hl2 hl3
  go_enter Try.func42, Try.ntmps42
  go_wp2_with fail
  refine (rdNew_calls b v _ (Kd.below HB.out (bAlloc (Below.refl _ _) _)) hl).mono ?_
  rintro e w1 ⟨g, rfl, hA, hb1⟩
  have HA := hid hA
  have HB1 := hid hb1
  clear hA hb1
  go_wp2_with fail
  refine (rdNum_calls (fun k => w.heap.size < k ∧ k < w1.heap.size) g ⟨b, 0⟩ 72057594037927935 _ (HA.out.mono (fun k hk h => ⟨by simp at h; omega, hk⟩))).mono ?_
  rintro e w2 ⟨rfl, hA2, hM2⟩
  rw [show (RdS.mk b 0).num 72057594037927935 = p1 from H1.out.symm] at hA2 ⊢
  have I0 : RI #[.int .i64 0, .slice none 0 0] 67 w.heap.size w1.heap.size g w2.heap.size w (w2.alloc (.cells #[.int .i64 p1.1, .slice none 0 0] 67)) p1.2 #[.int .i64 p1.1, .slice none 0 0] := by
    have hg := HA.out.1
    simp at hg
    have s1 := HB1.out.size
    simp at s1
    have s2 := hM2.size
    have hrb : w2.heap[w.heap.size]? = some (.cells #[.int .i64 0, .slice none 0 0] 67 (0, 0)) := (hM2.block _ (by omega) (by omega)).trans ((HB1.out.block _ (by simp)).trans (heap_at rfl))
    exact ⟨heap_old (by omega) hrb, hA2.below ((Below.refl _ _).alloc (Nat.le_refl _) _), heap_alloc_new w2 _, (((bThen (bAlloc (Below.refl _ _) _) HB1.out)).trans (hM2.below (fun k _ hk => by subst hk; omega) (by omega))).alloc (by omega) _, s2⟩
  have I0h := hid I0
  have HG : Hid (w.heap.size < g ∧ g < w1.heap.size ∧ w1.heap.size ≤ w2.heap.size) := ⟨I0.2.1.1.1, I0.2.1.1.2, I0.2.2.2.2⟩
  have y0 := I0.cell 0 (.int .i64 p1.1) rfl
  have l0 := I0.lt
  clear I0 hA2 hM2
  go_wp2_with fail
  rw [← HR1.out] at I0h
  clear y0 l0
  refine (rdNum_calls _ g R1 16 _ I0h.out.rd).mono ?_
  rintro e w4 ⟨rfl, hA4, hM4⟩
  rw [← H2.out] at hA4 ⊢
  rw [HNP.out]
  have I3 := hid (I0h.out.call hA4 hM4)
  clear hA4 hM4
  go_wp2_with fail
  go_loopw [6] (fun nv wr => ∃ (m : Nat) (A : Option Addr) (n c : Nat), m ≤ N ∧ nv = .int .i64 ((N : Int) - m) ∧ Hid (RI #[.int .i64 0, .slice none 0 0] 67 w.heap.size w1.heap.size g w2.heap.size w wr (p2.2.texts m).2 #[.int .i64 p1.1, .slice A n c]) ∧ Hid (Own Kd.str 9 wr (w2.heap.size + 1) NoT (.slice A n c) (p2.2.texts m).1)) (fun nv _ => (intOf nv).toNat)
  case atStart => exact ⟨0, none, 0, 0, by omega, by simp, I3, Own.nil _ _ _ _ _⟩
  case round =>
    obtain ⟨m, A, n, c, hm, rfl, HI, HO⟩ := hrel
    by_cases hlt : m < N
    · have hgt : (0 : Int) < (N : Int) - m := by omega
      have hwr : IntKind.i64.wrap ((N : Int) - m - 1) = (N : Int) - m - 1 := IntWalk.i64_in _ (by omega)
      have x6 := HI.out.cell 1 (.slice A n c) rfl
      have l6 := HI.out.lt
      have HLN := hid (HTL.out m).2
      go_wp2_with fail
      go_region_law (first
        | (refine appends_step Kd.str (w2.heap.size + 1) rfl _ _ 22 9 _ 16 rfl Try.underlying22 Try.infoStrJ rfl (by decide) (by decide) (.slice A n c) (p2.2.texts m).1 [mkB ((p2.2.texts m).2.text 200).1] (some ⟨w6.heap.size, 0, none⟩) 1 1 NoT (fun k => k = w6.heap.size) NoT rfl rfl rfl (row_one (d := Kd.str) (te := 9) (fr := (0, 0)) (cs := [.string (mkB ((p2.2.texts m).2.text 200).1)]) (heap_at rfl) (fun _ => rfl)) (fun _ _ h => h) (fun _ h => h.elim) (O4.out.below (bAlloc (Below.refl _ _) _)) (by have := I4.out.lt; simp; omega) (by rw [HLN.out]; omega) ?_; intro v1 w7 hO1 hg1 hat; obtain ⟨A1, m1, c1, rfl, hm1, hc1⟩ := hO1.shape'; have I5 := hid (I4.out.above ((Below.refl _ _).alloc (Nat.succ_le_of_lt I4.out.lt) _ |>.grown hg1 (by have := I4.out.lt; simp; omega) (fun k hk => (O4.out.lt k hk).1))); have O5 := hid hO1; have y8 := I5.out.cell 1 (.slice A n c) rfl; have f8 := I5.out.froz 1; have l8 := I5.out.lt; clear hO1 hg1 hat hm1 hc1)
        | (go_simp; refine (rdText_calls _ g (p2.2.texts m).2 200 _ (HI.out.above (Below.refl _ _).drew).rd).mono ?_; rintro e w6 ⟨rfl, hA6, hM6⟩; have I4 := hid ((HI.out.above (Below.refl _ _).drew).call hA6 hM6); have O4 := hid ((HO.out.below (Below.refl _ _).drew).move (w1 := w6) (fun b hb hl => hM6.block b hl (by rcases hb with hb | hb; exact hb.elim; have := (HO.out.lt b hb).1; have := HG.out; omega)) (fun _ h _ => h)); have y6 := I4.out.cell 1 (.slice A n c) rfl; have y7 := fun o => (I4.out.above ((Below.refl _ _).alloc (Nat.succ_le_of_lt I4.out.lt) o)).cell 1 (.slice A n c) rfl; clear hA6 hM6)
        | fail)
      all_goals
        go_wp2
        go_roundw
        case rel => exact ⟨m + 1, _, _, _, by omega, congrArg (Value.int .i64) (by omega), I5.out.set 1 _, O5.out.setCell (p := ⟨w2.heap.size, 1, none⟩) (fun h => h) (fun e => by have := (O5.out.lt _ e).1; simp at this; omega) _⟩
        case measure => simp [intOf]; omega
    · obtain rfl : N = m := by omega
      have hgt : ¬ (0 : Int) < (N : Int) - N := by omega
      go_wp2_with fail
      refine (rdEnd_calls _ g _ _ HI.out.rd).mono ?_
      rintro e w' ⟨rfl, rfl⟩
      rw [← HE.out]
      obtain ⟨E, hE⟩ : ∃ E, E = jparseE b := ⟨_, rfl⟩
      rw [← hE]
      have HEE := hid hE
      have r0 := HI.out.rcell 0 (.int .i64 0) rfl
      have r1 := HI.out.rcell 1 (.slice none 0 0) rfl
      have s0 := HI.out.rfroz 0
      have s1 := HI.out.rfroz 1
      have z0 := HI.out.cell 0 (.int .i64 (p1.1)) rfl
      have z1 := HI.out.cell 1 (.slice A n c) rfl
      have rl := HI.out.rlt
      have hbw := hid HI.out.bel
      have hne := HI.out.ne
      have HG2 := hid HG.out
      by_cases hz : E = 0
      · have e0 : (E == (0 : Int)) = true := by rw [beq_iff_eq]; exact hz
        have e1 : (E != (0 : Int)) = false := by rw [bne_eq_false_iff_eq]; exact hz
        have HP := hid (show jparseJ b = ⟨p1.1, (p2.2.texts N).1⟩ by unfold jparseJ; rw [if_pos (by rw [← hE]; exact hz)]; exact HX.out)
        have HZ := hid hz
        clear hz hE
        obtain ⟨W', hW, T0, T1, TB, TN⟩ := set2 HI.out.1 (.int .i64 (p1.1)) (.slice A n c)
        have TB2 := hid (hbw.out.trans TB)
        have TK := hid (Own.K (HO.out.move (w1 := W') (fun k hk hl => TN k (by rcases hk with hk | hk; exact hk.elim; have := (HO.out.lt k hk).1; have := HG2.out; omega)) (fun _ h _ => h)))
        clear TB TN
        go_wp2
        rw [← hW]
        refine bodyPost_ret (by simp [results, Try.results42, go_sem, T0, T1]; try rfl) rfl ?_
        rw [HP.out]
        exact ⟨A, n, c, by rw [← HEE.out, HZ.out], Kd.mono _ (fun k hk _ => by rcases hk with hk | hk; exact hk.elim; have := HG2.out; omega) TK.out, TB2.out⟩
      · have e0 : (E == (0 : Int)) = false := by rw [beq_eq_false_iff_ne]; exact hz
        have e1 : (E != (0 : Int)) = true := by rw [bne_iff_ne]; exact hz
        have HP := hid (show jparseJ b = ⟨0, []⟩ by unfold jparseJ; rw [if_neg (by rw [← hE]; exact hz)])
        clear hz hE
        obtain ⟨W', hW, T0, T1, TB, TN⟩ := set2 HI.out.1 (.int .i64 0) (.slice none 0 0)
        have TB2 := hid (hbw.out.trans TB)
        clear TB TN
        go_wp2
        rw [← hW]
        refine bodyPost_ret (by simp [results, Try.results42, go_sem, T0, T1]; try rfl) rfl ?_
        rw [HP.out]
        exact ⟨none, 0, 0, by rw [← HEE.out], ⟨none, 0, rfl, by simp, by simp, Kd.Row.nil⟩, TB2.out⟩
theorem jobParse_calls (b : List UInt8) (v : Value) (w : World) (hb : Kd.u8.slice.K w Any b [v]) (hl : b.length ≤ 1000000) :
    Calls Try.prog 42 #[v] w fun e w' => ∃ A n c, e = .returned (.tuple #[.agg #[.int .i64 (jparseJ b).id, .slice A n c], .int .i64 (jparseE b)]) ∧ Kd.str.slice.K w' (fun k => w.heap.size ≤ k) (jparseJ b).needs [.slice A n c] ∧ Below w.heap.size w w' := by
  by_cases h : (jA1 b).1 = 0
  · exact jobParse_0 b v w hb hl h
  · exact jobParse_1 b v w hb hl h
end Go.Proofs.Ytolckkckheiceaa
/- job.plain, Bytes, Same; siskinref15.Plain, Bytes, Same. -/
namespace Go.Proofs.Ytolckkckheiceaa
open Go.RowKit

def plainJ (J : JobS) : Bool := decide (1 ≤ J.id) && (decide (J.id ≤ 72057594037927935) && !longB J.needs 16 200)
def jobHead (J : JobS) : List UInt8 := numL (clampN J.id) ++ numL (clampN (J.needs.length : Int))
def jobL (J : JobS) : List UInt8 := if plainJ J then jobHead J ++ J.needs.flatMap (fun s => textL s.data.toList) else []
theorem plainJ_yes {J : JobS} (h : plainJ J = true) : (1 ≤ J.id ∧ J.id ≤ 72057594037927935) ∧ (∀ s ∈ J.needs, s.size ≤ 200) ∧ J.needs.length ≤ 16 := by
  unfold plainJ at h
  simp only [Bool.and_eq_true, decide_eq_true_eq, Bool.not_eq_true'] at h
  obtain ⟨h1, h2, h3⟩ := h
  obtain ⟨h4, h5⟩ := long_no h3
  exact ⟨⟨h1, h2⟩, fun s hs => by have := h4 s hs; omega, by omega⟩
theorem jobHead_len (J : JobS) : (jobHead J).length ≤ 16 := by
  have h1 := numL_len_le (clampN_le J.id)
  have h2 := numL_len_le (clampN_le (J.needs.length : Int))
  unfold jobHead; rw [List.length_append]; omega
set_option maxHeartbeats 1600000 in
set_option maxRecDepth 100000 in
theorem plain_calls (J : JobS) (A : Option Addr) (c : Nat) (w : World) (hn : Kd.str.slice.K w Any J.needs [.slice A J.needs.length c]) :
    Calls Try.prog 78 #[.agg #[.int .i64 J.id, .slice A J.needs.length c]] w fun e w' => e = .returned (.bool (plainJ J)) ∧ Below w.heap.size w w' := by
  obtain ⟨_, _, he, hc, hm, hr⟩ := hn
  injection he with he _
  injection he with he1 he2 he3
  subst he1; subst he3
  clear he2
  obtain ⟨q, hq⟩ : ∃ q, J.needs.length = q := ⟨_, rfl⟩
  have HQ := hid hq
  have HR := hid hr
  rw [hq] at hc hm ⊢
  clear hr hq
  go_enter Try.func78, Try.ntmps78
  have HB0 := hid (bAlloc (Below.refl w.heap.size w) (.cells #[.int .i64 J.id, .slice A q c] 67))
  go_wp2_with fail
  go_loop [8] (fun i => ∃ k : Nat, k ≤ q ∧ i = .int .i64 k ∧ Hid (∀ s ∈ J.needs.take k, s.size ≤ 200)) (fun i => q - (intOf i).toNat)
  case atStart => exact ⟨0, by omega, rfl, fun s hs => by simp at hs⟩
  case round =>
    obtain ⟨k, hkm, rfl, HF⟩ := hrel
    by_cases hlt : k < q
    · obtain ⟨a, x, rfl, hx, hcx⟩ := Kd.Row.at_str (HR.out.below HB0.out) k (by rw [HQ.out]; exact hlt)
      have HX := hid hx
      clear hx
      by_cases hs : (x.size : Int) > 200
      · go_wp2
        go_ret
        refine ⟨?_, bAlloc (Below.refl _ _) _⟩
        have : longB J.needs 16 200 = true := by
          unfold longB
          rw [List.any_eq_true.2 ⟨x, List.mem_of_getElem? HX.out, by simpa using hs⟩]; rfl
        simp [plainJ, this]
      · go_wp2
        go_round
        case rel => exact ⟨k + 1, by omega, by go_num, fun s h => by rw [take_snoc HX.out] at h; rcases List.mem_append.1 h with h | h; exact HF.out s h; rw [List.mem_singleton.1 h]; omega⟩
        case measure => simp [intOf]; omega
    · have HG : Hid (longB J.needs 16 200 = decide ((q : Int) > 16)) := by
        have h2 : J.needs.take k = J.needs := List.take_of_length_le (by rw [HQ.out]; omega)
        have h3 := HF.out
        rw [h2] at h3
        show longB J.needs 16 200 = decide ((q : Int) > 16)
        unfold longB
        rw [List.any_eq_false.2 (fun s hs => by have := h3 s hs; simp; omega), HQ.out, Bool.false_or]
      have HP : Hid (plainJ J = (decide (1 ≤ J.id) && (decide (J.id ≤ 72057594037927935) && decide (q ≤ 16)))) := by
        show plainJ J = _
        unfold plainJ
        rw [HG.out]
        congr 2
        by_cases h : (q : Int) > 16
        · rw [decide_eq_true h, decide_eq_false (by omega)]; rfl
        · rw [decide_eq_false h, decide_eq_true (by omega)]; rfl
      clear HF
      by_cases a1 : 1 ≤ J.id
      · by_cases a2 : J.id ≤ 72057594037927935
        · by_cases a3 : (q : Int) ≤ 16
          · go_wp2
            go_ret
            exact ⟨by rw [HP.out, decide_eq_true a1, decide_eq_true a2, decide_eq_true (by omega)]; rfl, bAlloc (Below.refl _ _) _⟩
          · go_wp2
            go_ret
            exact ⟨by rw [HP.out, decide_eq_true a1, decide_eq_true a2, decide_eq_false (by omega)]; rfl, bAlloc (Below.refl _ _) _⟩
        · go_wp2
          go_ret
          exact ⟨by rw [HP.out, decide_eq_false (by omega : ¬ J.id ≤ 72057594037927935)]; simp, bAlloc (Below.refl _ _) _⟩
      · go_wp2
        go_ret
        exact ⟨by rw [HP.out, decide_eq_false (by omega : ¬ 1 ≤ J.id)]; rfl, bAlloc (Below.refl _ _) _⟩
set_option maxHeartbeats 1600000 in
set_option maxRecDepth 100000 in
theorem rplain_calls (J : JobS) (A : Option Addr) (c : Nat) (w : World) (hn : Kd.str.slice.K w Any J.needs [.slice A J.needs.length c]) :
    Calls Try.prog 41 #[.agg #[.int .i64 J.id, .slice A J.needs.length c]] w fun e w' => e = .returned (.bool (plainJ J)) ∧ Below w.heap.size w w' := by
  have HK := hid hn
  clear hn
  go_enter Try.func41, Try.ntmps41
  by_cases a1 : 1 ≤ J.id
  · by_cases a2 : J.id ≤ 72057594037927935
    · go_wp2_with fail
      refine (long_calls J.needs 16 200 _ _ (Kd.below HK.out (bAlloc (Below.refl _ _) _))).mono ?_
      rintro e w1 ⟨rfl, rfl⟩
      obtain ⟨B, hB⟩ : ∃ B, B = longB J.needs 16 200 := ⟨_, rfl⟩
      have HP := hid (show plainJ J = !B by unfold plainJ; rw [decide_eq_true a1, decide_eq_true a2, hB]; rfl)
      rw [← hB]
      clear hB
      cases B <;>
      · go_wp2
        go_ret
        exact ⟨by rw [HP.out]; rfl, bAlloc (Below.refl _ _) _⟩
    · go_wp2
      go_ret
      exact ⟨by unfold plainJ; rw [decide_eq_false (by omega : ¬ J.id ≤ 72057594037927935)]; simp, bAlloc (Below.refl _ _) _⟩
  · go_wp2
    go_ret
    exact ⟨by unfold plainJ; rw [decide_eq_false (by omega : ¬ 1 ≤ J.id)]; rfl, bAlloc (Below.refl _ _) _⟩
set_option maxHeartbeats 6400000 in
set_option maxRecDepth 100000 in
theorem jobBytes_calls (J : JobS) (A : Option Addr) (c : Nat) (w : World) (hn : Kd.str.slice.K w Any J.needs [.slice A J.needs.length c]) :
    Calls Try.prog 40 #[.agg #[.int .i64 J.id, .slice A J.needs.length c]] w fun e w' => ∃ A m c, e = .returned (.slice A m c) ∧ Own Kd.u8 5 w' w.heap.size NoT (.slice A m c) (jobL J) ∧ Below w.heap.size w w' := by
  have HK := hid hn
  cases hok : plainJ J
  · have HV := hid (show jobL J = [] by unfold jobL; rw [hok]; rfl)
    have HOK := hid hok
    clear hn hok
    go_enter Try.func40, Try.ntmps40
    go_wp2_with fail
    refine (plain_calls J A c _ (Kd.below HK.out (bAlloc (Below.refl _ _) _))).mono ?_
    rintro e w1 ⟨rfl, hb1⟩
    rw [HOK.out]
    go_wp2
    go_ret
    exact ⟨none, 0, 0, rfl, by rw [HV.out]; exact Own.nil _ _ _ _ _, bThen (bAlloc (Below.refl _ _) _) hb1⟩
  obtain ⟨_, hn200, hn16⟩ := plainJ_yes hok
  have HL := hid (show jobL J = jobHead J ++ J.needs.flatMap (fun s => textL s.data.toList) by unfold jobL; rw [if_pos hok])
  obtain ⟨_, _, he, hc, hm, hr⟩ := hn
  injection he with he _
  injection he with he1 he2 he3
  subst he1; subst he3
  clear he2
  obtain ⟨q, hq⟩ : ∃ q, J.needs.length = q := ⟨_, rfl⟩
  have HH := hid (show jobHead J = numL (clampN J.id) ++ numL (clampN (q : Int)) by unfold jobHead; rw [hq])
  have HQ := hid hq
  have HR := hid hr
  have HN2 := hid hn200
  have HOK := hid hok
  have HPC := fun w h => plain_calls J A c w h
  rw [hq] at hc hm hn16 HK HPC ⊢
  clear hr hq hn200 hok
  go_enter Try.func40, Try.ntmps40
  go_wp2_with fail
  refine (HPC _ (Kd.below HK.out (bAlloc (Below.refl _ _) _))).mono ?_
  rintro e w1 ⟨rfl, hb1⟩
  rw [HOK.out]
  have HB1 := hid (bThen (bAlloc (Below.refl _ _) _) hb1)
  have hx1 : w1.heap[w.heap.size]? = some (.cells #[.int .i64 J.id, .slice A q c] 67 (0, 0)) := (hb1.block _ (by simp)).trans (heap_at rfl)
  have HX1 := hid hx1
  have hs1 : w.heap.size < w1.heap.size := (Array.getElem?_eq_some_iff.1 hx1).1
  have x0 := (cells_of_block hx1).1 0 _ rfl
  have x1 := (cells_of_block hx1).1 1 _ rfl
  clear hx1 hb1 HPC
  have HK0 : Hid (∀ w, Kd.u8.slice.K w Any [] [.slice none 0 0]) := fun w => ⟨none, 0, rfl, by simp, by simp, Kd.Row.nil⟩
  have h8 : ([] : List UInt8).length ≤ 1000000000 := by simp
  have h9 : ([] ++ numL (clampN J.id)).length ≤ 1000000000 := by have := numL_len_le (clampN_le J.id); simp; omega
  go_wp2_with fail
  go_region_held3 (fun w' => w'.cell? ⟨w.heap.size, 0, none⟩ = some (.int .i64 J.id) ∧ w'.cell? ⟨w.heap.size, 1, none⟩ = some (.slice A q c)) (first | exact ⟨x0, x1⟩ | exact ⟨d0, d1⟩ | exact ⟨e0, e1⟩ | go_keep) (first
    | ((with_reducible refine (num_calls [] (.slice none 0 0) J.id _ (HK0.out _) h8).mono ?_); rintro e w4 ⟨A4, m4, c4, rfl, hO4, hb4⟩; have d0 := cell_keep hb4 x0; have d1 := cell_keep hb4 x1; have HO4 := hid hO4; clear hO4)
    | ((with_reducible refine (num_calls ([] ++ numL (clampN J.id)) (.slice A4 m4 c4) (q : Int) _ (Kd.any (Own.K HO4.out)) h9).mono ?_); rintro e w5 ⟨A5, m5, c5, rfl, hO5, hb5⟩; have e0 := cell_keep hb5 d0; have e1 := cell_keep hb5 d1; have HO5 := hid hO5; clear hO5)
    | fail)
  have HB5 := hid (bThen (bThen (Below.refl _ _).drew hb4) hb5 : Below w1.heap.size w1 w5)
  have HO0 : Hid (Own Kd.u8 5 w5 w.heap.size NoT (.slice A5 m5 c5) (jobHead J)) := by
    have hd : w1.drew.heap.size = w1.heap.size := rfl
    have h1 : Own Kd.u8 5 w5 w.heap.size NoT (.slice A5 m5 c5) ([] ++ numL (clampN J.id) ++ numL (clampN (q : Int))) := HO5.out.lower (by have := HB1.out.size; have := hb4.size; omega)
    show Own _ _ _ _ _ _ _
    rw [HH.out]; simpa using h1
  clear x0 x1 d0 d1 e0 e1 hb4 hb5 HO4 HO5
  have k1 := (cells_of_block ((HB5.out.block _ hs1).trans HX1.out)).1 1 _ rfl
  go_wp2_with fail
  clear k1
  go_loopw [3, 19] (fun b i wr => ∃ k : Nat, k ≤ q ∧ i = .int .i64 k ∧ Hid (Own Kd.u8 5 wr w.heap.size NoT b (jobHead J ++ (J.needs.take k).flatMap (fun s => textL s.data.toList))) ∧ Hid (Below w1.heap.size w1 wr)) (fun _ i _ => q - (intOf i).toNat)
  case atStart => exact ⟨0, by omega, rfl, hid (by simpa using HO0.out), HB5⟩
  case round =>
    obtain ⟨k, hk, rfl, HO, HB⟩ := hrel
    have hbs : w.heap.size ≤ wr.heap.size := by have := HB.out.size; omega
    by_cases hlt : k < q
    · obtain ⟨a, s, rfl, hs, hcs⟩ := Kd.Row.at_str (HR.out.below (bThen HB1.out HB.out)) k (by rw [HQ.out]; exact hlt)
      have HS := hid hs
      have hsz := HN2.out s (List.mem_of_getElem? hs)
      have hll := needs_len (l := J.needs.take k) (fun s hs => HN2.out s (List.mem_of_mem_take hs))
      have htl : (J.needs.take k).length ≤ k := List.length_take_le _ _
      have hhl := jobHead_len J
      have hlen : (jobHead J ++ (J.needs.take k).flatMap (fun s => textL s.data.toList)).length ≤ 1000000000 := by rw [List.length_append]; omega
      clear hs hll htl hhl
      go_wp2_with fail
      refine (text_calls _ _ s _ (Kd.any (Own.K HO.out)) hlen (by omega)).mono ?_
      rintro e wd ⟨A6, m6, c6, rfl, hO6, hb6⟩
      have HA := hid (show (J.needs.take (k + 1)).flatMap (fun s => textL s.data.toList) = (J.needs.take k).flatMap (fun s => textL s.data.toList) ++ textL s.data.toList by rw [take_snoc HS.out]; simp)
      have HO6 : Hid (Own Kd.u8 5 wd w.heap.size NoT (.slice A6 m6 c6) (jobHead J ++ (J.needs.take (k + 1)).flatMap (fun s => textL s.data.toList))) := by
        have h := hO6.lower hbs
        show Own _ _ _ _ _ _ _
        rw [HA.out, ← List.append_assoc]; exact h
      have HBD := hid (bThen HB.out hb6)
      clear hO6 hb6 hcs
      go_wp2
      go_roundw
      case rel => exact ⟨k + 1, by omega, by go_num, HO6, HBD⟩
      case measure => simp [intOf]; omega
    · obtain rfl : k = q := by omega
      obtain ⟨A6, m6, c6, rfl, hq1, hq2⟩ := HO.out.shape'
      clear hq1 hq2
      have HFIN := hid (show jobL J = jobHead J ++ (J.needs.take k).flatMap (fun s => textL s.data.toList) by rw [HL.out, show J.needs.take k = J.needs by rw [← HQ.out]; exact List.take_length])
      go_wp2
      go_ret
      exact ⟨_, _, _, rfl, by rw [HFIN.out]; exact HO.out, bThen HB1.out HB.out⟩
def sameJ (J K : JobS) : Bool := J.id == K.id && decide (J.needs = K.needs)
set_option maxHeartbeats 1600000 in
set_option maxRecDepth 100000 in
theorem rjobSame_calls (J K : JobS) (A B : Option Addr) (n c m d : Nat) (w : World) (hj : Kd.str.slice.K w Any J.needs [.slice A n c]) (hk : Kd.str.slice.K w Any K.needs [.slice B m d]) :
    Calls Try.prog 43 #[.agg #[.int .i64 J.id, .slice A n c], .agg #[.int .i64 K.id, .slice B m d]] w fun e w' => e = .returned (.bool (sameJ J K)) ∧ Below w.heap.size w w' := by
  have HJ := hid hj
  have HK := hid hk
  clear hj hk
  by_cases h : J.id = K.id
  · have HV := hid (show sameJ J K = decide (J.needs = K.needs) by unfold sameJ; rw [h, beq_self_eq_true, Bool.true_and])
    have h1 : (J.id == K.id) = true := by rw [h, beq_self_eq_true]
    clear h
    go_enter Try.func43, Try.ntmps43
    go_wp2_with fail
    refine (same_calls J.needs K.needs _ _ _ (Kd.below HJ.out (bAlloc (bAlloc (Below.refl _ _) _) _)) (Kd.below HK.out (bAlloc (bAlloc (Below.refl _ _) _) _))).mono ?_
    rintro e w1 ⟨rfl, hb1⟩
    rw [← HV.out]
    go_wp2
    go_ret
    exact ⟨rfl, bThen (bAlloc (bAlloc (Below.refl _ _) _) _) hb1⟩
  · have h1 : (J.id == K.id) = false := by rw [beq_eq_false_iff_ne]; exact h
    have HV := hid (show sameJ J K = false by unfold sameJ; rw [h1]; rfl)
    clear h
    go_enter Try.func43, Try.ntmps43
    go_wp2
    go_ret
    exact ⟨by rw [HV.out]; rfl, bAlloc (bAlloc (Below.refl _ _) _) _⟩
end Go.Proofs.Ytolckkckheiceaa
