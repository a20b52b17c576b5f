import Derived.Test.YtkjncmmombkllaaGreatFrame
import Derived.Test.YtkjncmmombkllaaGreatBase
import Derived.Handy
import Derived.Test.YtkjncmmombkllaaGreatRds
import Derived.Test.YtkjncmmombkllaaGreatPrp
import Derived.Test.YtkjncmmombkllaaGreatRfs
import Derived.OwnWalk
import Derived.Deep.RegionHeld3
namespace Go.Proofs.YtkjncmmombkllaaGreat
open Go.RowKit

/-- Do the last four bytes seal those ahead of them? -/
def sealB (bs : List UInt8) : Bool := decide (4 ≤ bs.length) && decide (bs.drop (bs.length - 4) = four (crcOf (bs.take (bs.length - 4))))
theorem own_new0 (W : World) (e : TypeId) : Own Kd.u8 e (W.alloc (.cells #[] e)) W.heap.size NoT (.slice (some ⟨W.heap.size, 0, none⟩) 0 0) [] :=
  ⟨by simp, [], ⟨by simp, .inr ⟨W.heap.size, 0, #[], rfl, Nat.le_refl _, heap_alloc_new W _, Nat.le_refl _, by decide, by simp, by simp⟩⟩, rfl⟩

theorem ret_ub {u : Value} {t t' : Bool} (h : t = t') : Ending.returned (.tuple #[u, .bool t]) = .returned (.tuple #[u, .bool t']) := by rw [h]
set_option maxHeartbeats 3200000 in
set_option maxRecDepth 100000 in
theorem open_calls (bs : List UInt8) (v : Value) (w : World) (hb : Kd.u8.slice.K w Any bs [v]) (hlen : bs.length ≤ 1000000000) :
    Calls Tryz.prog 103 #[v] w fun e w' => ∃ u, e = .returned (.tuple #[u, .bool (sealB bs)]) ∧ Below w.heap.size w w' := by
  have HB := hid hb
  obtain ⟨B, d, he, hd1, hd2, hr⟩ := hb
  cases he
  by_cases hsh : bs.length < 4
  · have HV := hid (show sealB bs = false by unfold sealB; rw [decide_eq_false (by omega), Bool.false_and])
    have h1 : (bs.length : Int) - 4 < 0 := by omega
    clear hr
    go_enter Tryz.func103, Tryz.ntmps103
    go_wp2
    go_ret2
    exact ⟨_, ret_ub HV.out.symm, Below.refl _ _⟩
  · obtain ⟨q, hq⟩ : ∃ q, bs.length = q + 4 := ⟨bs.length - 4, by omega⟩
    have HQ := hid hq
    have hrt := hr.take q
    have hlt : (bs.take q).length = q := by rw [List.length_take]; omega
    have HT := hid (show Kd.u8.slice.K w Any (bs.take q) [.slice B q d] from ⟨B, d, by rw [hlt], by omega, by omega, hrt⟩)
    have HRT := hid hrt
    have HTL := hid hlt
    obtain ⟨s, hs⟩ : ∃ s, s = crcOf (bs.take q) := ⟨_, rfl⟩
    have hsl : s < 4294967296 := by rw [hs]; exact crcMore_lt (by decide) _
    have HS := hid hs
    have HV := hid (show sealB bs = decide (bs.drop q = four s) by
      unfold sealB
      rw [decide_eq_true (by omega), Bool.true_and, hq, Nat.add_sub_cancel, hs])
    have HRW : Hid (∀ k, k < 4 → ∃ a y, B = some a ∧ bs[q + k]? = some y ∧ w.cell? (a.add (q + k)) = some (.int .u8 y.toNat)) := fun k hk => hr.at_u8 (q + k) (by omega)
    rw [hq] at hd1 hd2 hlen HB ⊢
    have h1 : ((q + 4 : Nat) : Int) - 4 = q := by omega
    have h2 : ¬ ((q : Int) < 0) := by omega
    have h3 : q ≤ d := by omega
    have h4 : (q : Int) ≤ d := by omega
    clear hr hq hs hrt hlt hsh
    go_enter Tryz.func103, Tryz.ntmps103
    go_wp2_with fail
    refine (crcOf_calls (bs.take q) _ _ HT.out).mono ?_
    rintro e w0 ⟨rfl, rfl⟩
    rw [← HS.out]
    go_wp2_with fail
    go_loopw [16] (fun i wr => ∃ k n : Nat, k ≤ 4 ∧ i = .int .i64 k ∧ wr = w.drewN n ∧ Hid (∀ j, j < k → bs[q + j]? = (four s)[j]?)) (fun i _ => 4 - (intOf i).toNat)
    case atStart => exact ⟨0, 0, by omega, rfl, rfl, hid (fun j hj => absurd hj (by omega))⟩
    case round =>
      obtain ⟨k, n, hk, rfl, rfl, HJ⟩ := hrel
      by_cases hlt : k < 4
      · obtain ⟨a, y, rfl, hy, hya⟩ := HRW.out k hlt
        obtain ⟨z, hz⟩ : ∃ z : UInt8, z = UInt8.ofNat (s / 256 ^ k) := ⟨_, rfl⟩
        have hyy := shr_byte s k
        rw [← hz] at hyy
        have HF := hid (show (four s)[k]? = some z by rw [hz]; exact four_at s k hlt)
        have HY := hid hy
        have hw1 : IntKind.i64.wrap ((q : Int) + k) = (q : Int) + k := IntWalk.i64_in _ (by omega)
        have hw2 : (0 : Int) ≤ (q : Int) + k := by omega
        have hw3 : (q : Int) + k < ((q + 4 : Nat) : Int) := by omega
        have hw3' : (q : Int) + k < (q : Int) + 4 := by omega
        have hw4 : ((q : Int) + k).toNat = q + k := by omega
        have hya2 : ∀ m, (w.drewN m).cell? (a.add (q + k)) = some (.int .u8 y.toNat) := fun m => hya
        clear hz hy
        by_cases he : y = z
        · subst he
          go_wp2_with fail
          go_quiet (fail)
          go_wp2
          go_roundw
          case rel =>
            exact ⟨k + 1, _, by omega, by go_num, rfl, hid (fun j hj => by
              by_cases hjk : j = k
              · subst hjk; rw [HY.out, HF.out]
              · exact HJ.out j (by omega))⟩
          case measure => simp [intOf]; omega
        · have he1 : ((y.toNat : Int) == (z.toNat : Int)) = false := by
            rw [beq_eq_false_iff_ne]; intro h; exact he (UInt8.toNat.inj (by omega))
          have he2 : ((y.toNat : Int) != (z.toNat : Int)) = true := by
            rw [bne_iff_ne]; intro h; exact he (UInt8.toNat.inj (by omega))
          have HN := hid he
          clear he
          go_wp2_with fail
          go_quiet (fail)
          go_wp2
          go_ret2
          exact ⟨_, ret_ub (HV.out.trans (decide_eq_false (fun h => HN.out (by
            have h5 := HY.out
            rw [← List.getElem?_drop, h, HF.out] at h5
            injection h5 with h5
            exact h5.symm)))).symm, below_drewN (below_drewN (Below.refl _ _) _) _⟩
      · obtain rfl : k = 4 := by omega
        have HE := hid (show sealB bs = true by
          rw [HV.out, decide_eq_true_iff]
          apply List.ext_getElem?
          intro j
          rw [List.getElem?_drop]
          by_cases hj : j < 4
          · exact HJ.out j hj
          · rw [List.getElem?_eq_none (by rw [HQ.out]; omega), List.getElem?_eq_none (by simp [four]; omega)])
        go_wp2_with (at_builtin; go_must (refine appends_arm Kd.u8 (w0 := (w.drewN n).alloc (.cells #[] 5)) (w.drewN n).heap.size rfl _ _ 23 5 _ 1 rfl Tryz.underlying23 Tryz.infoU8 rfl (by decide) (by decide) (.slice (some ⟨(w.drewN n).heap.size, 0, none⟩) 0 0) [] (bs.take q) B q d NoT Any NoT rfl rfl HTL.out ((HRT.out.below (below_drewN (Below.refl _ _) n)).below (bAlloc (Below.refl _ _) _)) (fun _ _ h => h) (fun _ h => h.elim) (own_new0 _ _) (Below.refl _ _) (by simp) (by simp; omega) ?_))
        intro v2 w2 hO2 hb2 _ _
        obtain ⟨A2, n2, c2, rfl, _, _⟩ := hO2.shape'
        have HB2 := hid hb2
        clear hO2 hb2
        go_wp2
        go_ret2
        exact ⟨_, ret_ub HE.out.symm, (bAlloc (below_drewN (Below.refl _ _) n) _).trans HB2.out⟩
end Go.Proofs.YtkjncmmombkllaaGreat
/- What is cut off as a frame: plain. -/
namespace Go.Proofs.YtkjncmmombkllaaGreat
open Go.RowKit

theorem nextN_take (b : List UInt8) (m : Nat) (hm : 8 ≤ m) (most : Int) : nextN (b.take m) most = nextN b most := by
  cases b with
  | nil => simp
  | cons x r =>
    obtain ⟨m, rfl⟩ : ∃ k, m = k + 1 := ⟨m - 1, by omega⟩
    have hx := x.toNat_lt
    rw [List.take_succ_cons]
    unfold nextN
    simp only
    split
    · rfl
    · split
      · rfl
      · rename_i h1 h2
        have e1 : (r.take m).take (x.toNat - 247) = r.take (x.toNat - 247) := by rw [List.take_take, Nat.min_eq_left (by omega)]
        rw [e1]
        by_cases h3 : r.length < x.toNat - 247
        · rw [if_pos (by rw [List.length_take]; omega), if_pos h3]
        · rw [if_neg (by rw [List.length_take]; omega), if_neg h3]
/-- A text's bytes, all in all. -/
theorem text_used {b : List UInt8} {most : Int} (h : ((RdS.mk b 0).text most).2.e = 0) : ∃ k, k ≤ b.length ∧ ((RdS.mk b 0).text most).2.b = b.drop k := by
  unfold RdS.text at h ⊢
  rw [if_neg (by simp)] at h ⊢
  split at h
  · rename_i h1; exact absurd h h1
  · rename_i h1
    rw [if_neg h1]
    split at h
    · exact absurd h (by simp)
    · rename_i h2
      rw [if_neg h2]
      have h3 : ¬ b.length < (nextN b most).2.2 + (nextN b most).2.1 := h2
      exact ⟨(nextN b most).2.2 + (nextN b most).2.1, by omega, rfl⟩
theorem text_take (b : List UInt8) : ((RdS.mk (b.take (min b.length 4112)) 0).text 4096).1 = ((RdS.mk b 0).text 4096).1 ∧ ((RdS.mk (b.take (min b.length 4112)) 0).text 4096).2.e = ((RdS.mk b 0).text 4096).2.e ∧
    (((RdS.mk b 0).text 4096).2.e = 0 → min b.length 4112 - ((RdS.mk (b.take (min b.length 4112)) 0).text 4096).2.b.length = b.length - ((RdS.mk b 0).text 4096).2.b.length) := by
  have hT : b.take (min b.length 4112) = b.take 4112 := by
    rcases Nat.le_total b.length 4112 with h | h
    · rw [Nat.min_eq_left h, List.take_of_length_le (Nat.le_refl _), List.take_of_length_le h]
    · rw [Nat.min_eq_right h]
  rw [hT]
  have hN := nextN_take b 4112 (by decide) 4096
  unfold RdS.text
  simp only [hN]
  by_cases h1 : (nextN b 4096).1 = 0
  · obtain ⟨_, n2, n3, _, n5⟩ := nextN_ok h1
    have hl : (b.take 4112).length = min 4112 b.length := List.length_take
    by_cases h2 : b.length < (nextN b 4096).2.2 + (nextN b 4096).2.1
    · rw [if_neg (by simp), if_neg (by simp [h1]), if_pos (by rw [hl]; omega), if_neg (by simp), if_neg (by simp [h1]), if_pos h2]
      simp
    · have h3 : ((b.take 4112).drop (nextN b 4096).2.2).take (nextN b 4096).2.1 = (b.drop (nextN b 4096).2.2).take (nextN b 4096).2.1 := by
        rw [List.drop_take, List.take_take, Nat.min_eq_left (by omega)]
      rw [if_neg (by simp), if_neg (by simp [h1]), if_neg (by rw [hl]; omega), if_neg (by simp), if_neg (by simp [h1]), if_neg h2]
      refine ⟨h3, rfl, fun _ => ?_⟩
      simp only [List.length_drop, hl]
      omega
  · rw [if_neg (by simp), if_pos h1, if_neg (by simp), if_pos h1]
    exact ⟨rfl, rfl, fun h => absurd h h1⟩

def cutS (b : List UInt8) : List UInt8 × Nat × Int :=
  if ((RdS.mk b 0).text 4096).2.e ≠ 0 then ([], 0, ((RdS.mk b 0).text 4096).2.e)
  else if b.length < (b.length - ((RdS.mk b 0).text 4096).2.b.length) + 4 then ([], 0, 2)
  else if sealB (b.take ((b.length - ((RdS.mk b 0).text 4096).2.b.length) + 4)) then (((RdS.mk b 0).text 4096).1, (b.length - ((RdS.mk b 0).text 4096).2.b.length) + 4, 0)
  else ([], 0, 16)
theorem openB_seal {b : List UInt8} {n : Nat} (h : n + 4 ≤ b.length) : sealB (b.take (n + 4)) = decide (sealL (b.take n) = b.take (n + 4)) := by
  have hl : (b.take (n + 4)).length = n + 4 := by rw [List.length_take]; omega
  unfold sealB
  rw [hl, decide_eq_true (by omega), Bool.true_and, Nat.add_sub_cancel, List.take_take, Nat.min_eq_left (by omega), decide_eq_decide]
  unfold sealL
  have e1 : b.take (n + 4) = b.take n ++ (b.take (n + 4)).drop n := by
    have := (List.take_append_drop n (b.take (n + 4))).symm
    rwa [List.take_take, Nat.min_eq_left (by omega)] at this
  constructor
  · intro h2; rw [← h2]; exact e1.symm
  · intro h2; rw [← h2]; rw [List.drop_left' (by rw [List.length_take]; omega)]
theorem cutS_ok {b : List UInt8} (h : (cutS b).2.2 = 0) : 4 ≤ (cutS b).2.1 ∧ (cutS b).2.1 ≤ b.length ∧ (cutS b).1.length ≤ b.length := by
  unfold cutS at h ⊢
  split at h
  · rename_i h1; exact absurd h h1
  · rename_i h1
    rw [if_neg h1]
    split at h
    · simp at h
    · rename_i h2
      rw [if_neg h2]
      split at h
      · rename_i h3
        rw [if_pos h3]
        have := ((RdS.mk b 0).text_len 4096).2
        simp only at this ⊢
        omega
      · simp at h
theorem cutS_len (b : List UInt8) : (cutS b).2.1 ≤ b.length ∧ (cutS b).1.length ≤ b.length := by
  by_cases h : (cutS b).2.2 = 0
  · exact (cutS_ok h).2
  · unfold cutS at h ⊢
    split
    · simp
    · split
      · simp
      · split
        · rename_i h1 h2 h3; rw [if_neg h1, if_neg h2, if_pos h3] at h; exact absurd rfl h
        · simp
end Go.Proofs.YtkjncmmombkllaaGreat
namespace Go.Proofs.YtkjncmmombkllaaGreat
open Go.RowKit

set_option maxHeartbeats 800000 in
set_option maxRecDepth 100000 in
theorem rdLeft_calls (T : Nat → Prop) (g : Nat) (R : RdS) (w : World) (hd : RdAt w T g R) : Calls Tryz.prog 101 #[.pointer (some ⟨g, 0, none⟩)] w fun en w' => en = .returned (.int .i64 R.b.length) ∧ w = w' := by
  obtain ⟨hT, hg, A, c, hc, hm, c0, c1, f0, f1, hh, hr⟩ := hd.cells
  clear hd
  go_enter Tryz.func101, Tryz.ntmps101
  go_wp2
  go_ret
  exact ⟨rfl, rfl⟩

def cutV (b : List UInt8) : Value := .tuple #[.string (mkB (cutS b).1), .int .i64 (cutS b).2.1, .int .i64 (cutS b).2.2]

set_option maxHeartbeats 3200000 in
set_option maxRecDepth 100000 in
theorem frCut_calls (b : List UInt8) (v : Value) (w : World) (hb : Kd.u8.slice.K w Any b [v]) (hl : b.length ≤ 1000000) :
    Calls Tryz.prog 84 #[v] w fun en w' => en = .returned (cutV b) ∧ Below w.heap.size w w' := by
  have HB := hid hb
  obtain ⟨B, d, he, hd1, hd2, hr⟩ := hb
  cases he
  obtain ⟨m, hm⟩ : ∃ m, m = min b.length 4112 := ⟨_, rfl⟩
  have hmi : min (b.length : Int) 4112 = (m : Int) := by omega
  have hml : m ≤ b.length := by omega
  have hmd : m ≤ d := by omega
  have hlt : (b.take m).length = m := by rw [List.length_take]; omega
  have HT := hid (show Kd.u8.slice.K w Any (b.take m) [.slice B m d] from ⟨B, d, by rw [hlt], by omega, by omega, hr.take m⟩)
  have hHL := hid (show (b.take m).length ≤ 1000000 by omega)
  obtain ⟨P, hP⟩ : ∃ P, P = (RdS.mk b 0).text 4096 := ⟨_, rfl⟩
  obtain ⟨p, hp⟩ : ∃ p, p = (RdS.mk (b.take m) 0).text 4096 := ⟨_, rfl⟩
  obtain ⟨t1, t2, t3⟩ := text_take b
  rw [← hm, ← hp, ← hP] at t1 t2 t3
  have hpl : p.2.b.length ≤ m := by
    have := ((RdS.mk (b.take m) 0).text_len 4096).1
    rw [← hp] at this
    simp only [hlt] at this
    exact this
  have HC := hid (show cutS b = if P.2.e ≠ 0 then ([], 0, P.2.e) else if b.length < (b.length - P.2.b.length) + 4 then ([], 0, 2) else if sealB (b.take ((b.length - P.2.b.length) + 4)) then (P.1, (b.length - P.2.b.length) + 4, 0) else ([], 0, 16) by unfold cutS; rw [← hP])
  have HP := hid hp
  by_cases he : p.2.e = 0
  · have e1 : (p.2.e == (0 : Int)) = true := by rw [beq_iff_eq]; exact he
    have e2 : (p.2.e != (0 : Int)) = false := by rw [bne_eq_false_iff_eq]; exact he
    obtain ⟨n, hn⟩ : ∃ n, n = m - p.2.b.length := ⟨_, rfl⟩
    have hnP : b.length - P.2.b.length = n := by rw [hn, t3 (by rw [← t2]; exact he)]
    have hni : (m : Int) - (p.2.b.length : Int) = n := by omega
    have hnm : n ≤ m := by omega
    rw [hnP, if_neg (by rw [← t2, he]; simp), ← t1] at HC
    obtain ⟨L, hL⟩ : ∃ L, L = p.2.b.length := ⟨_, rfl⟩
    rw [← hL] at hni
    have HL := hid hL
    by_cases hs : b.length < n + 4
    · rw [if_pos hs] at HC
      have hs1 : (b.length : Int) - n < 4 := by omega
      clear hr hP hp t1 t2 t3 hn hnP hm hlt hL hpl
      go_enter Tryz.func84, Tryz.ntmps84
      go_wp2_with fail
      refine (rdNew_calls (b.take m) _ _ HT.out hHL.out).mono ?_
      rintro e w1 ⟨g, rfl, hA1, hb1⟩
      have A1 := hid hA1
      have B1 := hid hb1
      clear hA1 hb1
      go_wp2_with fail
      refine (rdText_calls _ g _ 4096 _ A1.out).mono ?_
      rintro e w2 ⟨rfl, hA2, hM2⟩
      rw [← HP.out] at hA2 ⊢
      have A2 := hid hA2
      have B2 := hid (below_mod B1.out hM2 (fun i hi => by subst hi; exact A1.out.1) B1.out.size)
      clear hA2 hM2
      go_wp2_with fail
      refine (rdLeft_calls _ g p.2 _ A2.out).mono ?_
      rintro e w3 ⟨rfl, rfl⟩
      rw [← HL.out]
      go_wp2_with fail
      refine (rdErr_calls _ g p.2 _ A2.out).mono ?_
      rintro e w3 ⟨rfl, rfl⟩
      go_wp2
      go_ret3
      exact ⟨congrArg Ending.returned (show _ = cutV b by unfold cutV; rw [HC.out]; rfl), B2.out⟩
    · rw [if_neg hs] at HC
      have hs1 : ¬ (b.length : Int) - n < 4 := by omega
      have hw1 : IntKind.i64.wrap ((n : Int) + 4) = (n : Int) + 4 := IntWalk.i64_in _ (by omega)
      have hw2 : (0 : Int) ≤ (n : Int) + 4 := by omega
      have hw3 : ((n : Int) + 4).toNat = n + 4 := by omega
      have hw4 : (n : Int) + 4 ≤ d := by omega
      have hw5 : n + 4 ≤ d := by omega
      have hlt2 : (b.take (n + 4)).length = n + 4 := by rw [List.length_take]; omega
      have HT2 := hid (show Kd.u8.slice.K w Any (b.take (n + 4)) [.slice B (n + 4) d] from ⟨B, d, by rw [hlt2], by omega, by omega, hr.take (n + 4)⟩)
      have HL2 := hid (show (b.take (n + 4)).length ≤ 1000000000 by omega)
      obtain ⟨t, ht⟩ : ∃ t, t = sealB (b.take (n + 4)) := ⟨_, rfl⟩
      have HTT := hid ht
      rw [← ht] at HC
      clear hr hP hp t1 t2 t3 hn hnP hm hlt hL hpl hlt2 ht
      cases t
      · rw [if_neg (by simp)] at HC
        go_enter Tryz.func84, Tryz.ntmps84
        go_wp2_with fail
        refine (rdNew_calls (b.take m) _ _ HT.out hHL.out).mono ?_
        rintro e w1 ⟨g, rfl, hA1, hb1⟩
        have A1 := hid hA1
        have B1 := hid hb1
        clear hA1 hb1
        go_wp2_with fail
        refine (rdText_calls _ g _ 4096 _ A1.out).mono ?_
        rintro e w2 ⟨rfl, hA2, hM2⟩
        rw [← HP.out] at hA2 ⊢
        have A2 := hid hA2
        have B2 := hid (below_mod B1.out hM2 (fun i hi => by subst hi; exact A1.out.1) B1.out.size)
        clear hA2 hM2
        go_wp2_with fail
        refine (rdLeft_calls _ g p.2 _ A2.out).mono ?_
        rintro e w3 ⟨rfl, rfl⟩
        rw [← HL.out]
        go_wp2_with fail
        refine (rdErr_calls _ g p.2 _ A2.out).mono ?_
        rintro e w3 ⟨rfl, rfl⟩
        go_wp2_with fail
        refine (open_calls (b.take (n + 4)) _ _ (Kd.below HT2.out B2.out) HL2.out).mono ?_
        rintro e w4 ⟨u, rfl, hb4⟩
        rw [← HTT.out]
        have B4 := hid (bThen B2.out hb4)
        clear hb4
        go_wp2
        go_ret3
        exact ⟨congrArg Ending.returned (show _ = cutV b by unfold cutV; rw [HC.out]; rfl), B4.out⟩
      · rw [if_pos rfl] at HC
        go_enter Tryz.func84, Tryz.ntmps84
        go_wp2_with fail
        refine (rdNew_calls (b.take m) _ _ HT.out hHL.out).mono ?_
        rintro e w1 ⟨g, rfl, hA1, hb1⟩
        have A1 := hid hA1
        have B1 := hid hb1
        clear hA1 hb1
        go_wp2_with fail
        refine (rdText_calls _ g _ 4096 _ A1.out).mono ?_
        rintro e w2 ⟨rfl, hA2, hM2⟩
        rw [← HP.out] at hA2 ⊢
        have A2 := hid hA2
        have B2 := hid (below_mod B1.out hM2 (fun i hi => by subst hi; exact A1.out.1) B1.out.size)
        clear hA2 hM2
        go_wp2_with fail
        refine (rdLeft_calls _ g p.2 _ A2.out).mono ?_
        rintro e w3 ⟨rfl, rfl⟩
        rw [← HL.out]
        go_wp2_with fail
        refine (rdErr_calls _ g p.2 _ A2.out).mono ?_
        rintro e w3 ⟨rfl, rfl⟩
        go_wp2_with fail
        refine (open_calls (b.take (n + 4)) _ _ (Kd.below HT2.out B2.out) HL2.out).mono ?_
        rintro e w4 ⟨u, rfl, hb4⟩
        rw [← HTT.out]
        have B4 := hid (bThen B2.out hb4)
        clear hb4
        go_wp2
        go_ret3
        exact ⟨congrArg Ending.returned (show _ = cutV b by unfold cutV; rw [HC.out]; rfl), B4.out⟩
  · have e1 : (p.2.e == (0 : Int)) = false := by rw [beq_eq_false_iff_ne]; exact he
    have e2 : (p.2.e != (0 : Int)) = true := by rw [bne_iff_ne]; exact he
    rw [if_pos (by rw [← t2]; exact he), ← t2] at HC
    obtain ⟨L, hL⟩ : ∃ L, L = p.2.b.length := ⟨_, rfl⟩
    have hLm : L ≤ m := by omega
    have HL := hid hL
    clear hr hP hp t1 t2 t3 hm hlt hL hpl he
    go_enter Tryz.func84, Tryz.ntmps84
    go_wp2_with fail
    refine (rdNew_calls (b.take m) _ _ HT.out hHL.out).mono ?_
    rintro e w1 ⟨g, rfl, hA1, hb1⟩
    have A1 := hid hA1
    have B1 := hid hb1
    clear hA1 hb1
    go_wp2_with fail
    refine (rdText_calls _ g _ 4096 _ A1.out).mono ?_
    rintro e w2 ⟨rfl, hA2, hM2⟩
    rw [← HP.out] at hA2 ⊢
    have A2 := hid hA2
    have B2 := hid (below_mod B1.out hM2 (fun i hi => by subst hi; exact A1.out.1) B1.out.size)
    clear hA2 hM2
    go_wp2_with fail
    refine (rdLeft_calls _ g p.2 _ A2.out).mono ?_
    rintro e w3 ⟨rfl, rfl⟩
    rw [← HL.out]
    go_wp2_with fail
    refine (rdErr_calls _ g p.2 _ A2.out).mono ?_
    rintro e w3 ⟨rfl, rfl⟩
    go_wp2_with fail
    refine (rdErr_calls _ g p.2 _ A2.out).mono ?_
    rintro e w3 ⟨rfl, rfl⟩
    go_wp2
    go_ret3
    exact ⟨congrArg Ending.returned (show _ = cutV b by unfold cutV; rw [HC.out]; rfl), B2.out⟩
end Go.Proofs.YtkjncmmombkllaaGreat
namespace Go.Proofs.YtkjncmmombkllaaGreat
open Go.RowKit

set_option maxHeartbeats 3200000 in
set_option maxRecDepth 100000 in
theorem rfCut_calls (b : List UInt8) (w : World) (hl : b.length ≤ 1000000) :
    Calls Tryz.prog 68 #[.string (mkB b)] w fun en w' => en = .returned (cutV b) ∧ Below w.heap.size w w' := by
  obtain ⟨p, hp⟩ : ∃ p, p = (RdS.mk b 0).text 4096 := ⟨_, rfl⟩
  have hpl : p.2.b.length ≤ b.length := by
    have := ((RdS.mk b 0).text_len 4096).1
    rw [← hp] at this
    exact this
  have HC := hid (show cutS b = if p.2.e ≠ 0 then ([], 0, p.2.e) else if b.length < (b.length - p.2.b.length) + 4 then ([], 0, 2) else if sealB (b.take ((b.length - p.2.b.length) + 4)) then (p.1, (b.length - p.2.b.length) + 4, 0) else ([], 0, 16) by unfold cutS; rw [← hp])
  have HP := hid hp
  have HL := hid hl
  have s1 := mkB_size b
  have R0 := hid (show RfAt (w.alloc (.cells #[.string (mkB b), .int .i64 0] 141)) w.heap.size ⟨b, 0⟩ from heap_at rfl)
  by_cases he : p.2.e = 0
  · have e1 : (p.2.e == (0 : Int)) = true := by rw [beq_iff_eq]; exact he
    have e2 : (p.2.e != (0 : Int)) = false := by rw [bne_eq_false_iff_eq]; exact he
    rw [if_neg (by rw [he]; simp)] at HC
    obtain ⟨n, hn⟩ : ∃ n, n = b.length - p.2.b.length := ⟨_, rfl⟩
    rw [← hn] at HC
    obtain ⟨L, hL⟩ : ∃ L, L = p.2.b.length := ⟨_, rfl⟩
    have hni : (b.length : Int) - (L : Int) = n := by omega
    have hsz : (mkB p.2.b).size = L := by rw [hL]; rfl
    have hnl : n ≤ b.length := by omega
    by_cases hs : b.length < n + 4
    · rw [if_pos hs] at HC
      have hs1 : (b.length : Int) < n + 4 := by omega
      clear hp hn hL hpl he
      go_enter Tryz.func68, Tryz.ntmps68
      go_wp2_with fail
      refine (rfText_calls _ ⟨b, 0⟩ 4096 _ R0.out HL.out).mono ?_
      rintro e w2 ⟨rfl, hA2, hM2⟩
      rw [← HP.out] at hA2 ⊢
      obtain ⟨c0, c1, _, _, hg⟩ := hA2.cells
      have B2 := hid (below_mod (bAlloc (Below.refl _ _) _) hM2 (fun i hi => by subst hi; exact Nat.le_refl _) (by simp))
      clear hA2 hM2
      go_wp2
      go_ret3
      exact ⟨congrArg Ending.returned (show _ = cutV b by unfold cutV; rw [HC.out]; rfl), B2.out⟩
    · rw [if_neg hs] at HC
      have hs1 : ¬ (b.length : Int) < n + 4 := by omega
      have hw1 : IntKind.i64.wrap ((n : Int) + 4) = (n : Int) + 4 := IntWalk.i64_in _ (by omega)
      have hw2 : (0 : Int) ≤ (n : Int) + 4 := by omega
      have hw3 : ((n : Int) + 4).toNat = n + 4 := by omega
      have hw4 : (n : Int) + 4 ≤ b.length := by omega
      have hw5 : n + 4 ≤ b.length := by omega
      have hw6 : (n : Int) ≤ b.length := by omega
      have HO := hid (openB_seal hw5)
      have hx1 : (mkB b).extract 0 n = mkB (b.take n) := by rw [mkB_extract]; simp
      have hx2 : (mkB b).extract 0 (n + 4) = mkB (b.take (n + 4)) := by rw [mkB_extract]; simp
      obtain ⟨s, hsv⟩ : ∃ s, s = mkB b := ⟨_, rfl⟩
      have CS := hid (show ∀ w, Calls Tryz.prog 81 #[.string (mkB (b.take n))] w fun e w' => e = .returned (.string (mkB (sealL (b.take n)))) ∧ Below w.heap.size w w' from fun w => by
        have := rseal_calls (mkB (b.take n)) w (by rw [mkB_size, List.length_take]; omega)
        rw [mkB_data] at this
        exact this)
      obtain ⟨z, hz⟩ : ∃ z, z = mkB (sealL (b.take n)) := ⟨_, rfl⟩
      obtain ⟨y, hy⟩ : ∃ y, y = mkB (b.take (n + 4)) := ⟨_, rfl⟩
      have HYZ : Hid (sealB (b.take (n + 4)) = decide (z = y)) := hid (by
        rw [HO.out, decide_eq_decide, hz, hy]
        exact ⟨fun h => by rw [h], fun h => mkB_inj h⟩)
      rw [← hsv] at hx1 hx2 s1 R0 ⊢
      rw [← hz] at CS
      rw [← hy] at hx2
      obtain ⟨u, hu⟩ : ∃ u, u = mkB (b.take n) := ⟨_, rfl⟩
      rw [← hu] at hx1 CS
      clear hp hn hL hpl he hsv hz hy hu
      by_cases hzy : z = y
      · have k1 : (z.toList == y.toList) = true := by simp [hzy]
        have k2 : (z.toList != y.toList) = false := by simp [bne, k1]
        rw [HYZ.out, if_pos (by rw [decide_eq_true hzy])] at HC
        clear hzy
        go_enter Tryz.func68, Tryz.ntmps68
        go_wp2_with fail
        refine (rfText_calls _ ⟨b, 0⟩ 4096 _ R0.out HL.out).mono ?_
        rintro e w2 ⟨rfl, hA2, hM2⟩
        rw [← HP.out] at hA2 ⊢
        obtain ⟨c0, c1, _, _, hg⟩ := hA2.cells
        have B2 := hid (below_mod (bAlloc (Below.refl _ _) _) hM2 (fun i hi => by subst hi; exact Nat.le_refl _) (by simp))
        clear hA2 hM2
        go_wp2_with fail
        go_region_held3 (fun _ => True) (trivial) (first | (refine (CS.out _).mono ?_; rintro e w3 ⟨rfl, hb3⟩; have B3 := hid (bThen B2.out (bThen (Below.refl _ _).drew hb3)); clear hb3) | fail)
        go_wp2
        go_ret3
        exact ⟨congrArg Ending.returned (show _ = cutV b by unfold cutV; rw [HC.out]; rfl), B3.out⟩
      · have k1 : (z.toList == y.toList) = false := by rw [streq]; simp [hzy]
        have k2 : (z.toList != y.toList) = true := by simp [bne, k1]
        rw [HYZ.out, if_neg (by rw [decide_eq_false hzy]; simp)] at HC
        clear hzy
        go_enter Tryz.func68, Tryz.ntmps68
        go_wp2_with fail
        refine (rfText_calls _ ⟨b, 0⟩ 4096 _ R0.out HL.out).mono ?_
        rintro e w2 ⟨rfl, hA2, hM2⟩
        rw [← HP.out] at hA2 ⊢
        obtain ⟨c0, c1, _, _, hg⟩ := hA2.cells
        have B2 := hid (below_mod (bAlloc (Below.refl _ _) _) hM2 (fun i hi => by subst hi; exact Nat.le_refl _) (by simp))
        clear hA2 hM2
        go_wp2_with fail
        go_region_held3 (fun _ => True) (trivial) (first | (refine (CS.out _).mono ?_; rintro e w3 ⟨rfl, hb3⟩; have B3 := hid (bThen B2.out (bThen (Below.refl _ _).drew hb3)); clear hb3) | fail)
        go_wp2
        go_ret3
        exact ⟨congrArg Ending.returned (show _ = cutV b by unfold cutV; rw [HC.out]; rfl), B3.out⟩
  · have e1 : (p.2.e == (0 : Int)) = false := by rw [beq_eq_false_iff_ne]; exact he
    have e2 : (p.2.e != (0 : Int)) = true := by rw [bne_iff_ne]; exact he
    rw [if_pos he] at HC
    clear hp hpl he
    go_enter Tryz.func68, Tryz.ntmps68
    go_wp2_with fail
    refine (rfText_calls _ ⟨b, 0⟩ 4096 _ R0.out HL.out).mono ?_
    rintro e w2 ⟨rfl, hA2, hM2⟩
    rw [← HP.out] at hA2 ⊢
    obtain ⟨c0, c1, _, _, hg⟩ := hA2.cells
    have d1 : ∀ n, (w2.drewN n).cell? ⟨w.heap.size, 1, none⟩ = some (.int .i64 p.2.e) := fun n => c1
    have B2 := hid (below_mod (bAlloc (Below.refl _ _) _) hM2 (fun i hi => by subst hi; exact Nat.le_refl _) (by simp))
    clear hA2 hM2
    go_wp2_with fail
    go_quiet (fail)
    go_wp2
    go_ret3
    exact ⟨congrArg Ending.returned (show _ = cutV b by unfold cutV; rw [HC.out]; rfl), below_drewN B2.out _⟩
end Go.Proofs.YtkjncmmombkllaaGreat
