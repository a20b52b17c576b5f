/- The law ProbeRounds. -/
import Derived.Test.YtolckkckheiceaaLaw33
import Derived.Deep.QuietTactic
import Derived.BigQuiet
namespace Go.Proofs.Ytolckkckheiceaa
open Go.RowKit

theorem longEs_one {E : EntryS} (h : longEs [E] = false) : E.needs.length ≤ 30 ∧ E.bound.length ≤ 30 ∧ E.done.length ≤ 30 ∧ ∀ s ∈ E.needs, s.size ≤ 300 := by
  have h3 : longE E = false := by
    cases hl : longE E with
    | false => rfl
    | true => simp [longEs, hl] at h
  unfold longE at h3
  rw [Bool.or_eq_false_iff, Bool.or_eq_false_iff] at h3
  obtain ⟨⟨h4, h5⟩, h6⟩ := h3
  obtain ⟨h7, h8⟩ := long_no h4
  have h9 := of_decide_eq_false h5
  have h10 := of_decide_eq_false h6
  exact ⟨by omega, by omega, by omega, fun s hs => by have := h7 s hs; omega⟩
theorem Try.opensN64 : Opens Try.prog 30 Kd.n64.slice (fun l => (∀ y ∈ l, y < 2 ^ 64) ∧ l.length * 8 ≤ 140737488351232) :=
  opens_slice Try.underlying30 (by kernel_rfl) (by kernel_rfl) (by decide) (by decide)
    (opens_mapO (d' := Kd.n64) (fun p : Int => p.toNat) (opens_int Try.underlying39)
      (fun w S x cs ho h => by
        have hr := u64_range ho
        cases h
        show [Value.int .u64 x] = [Value.int .u64 (x.toNat : Int)]
        rw [show ((x.toNat : Nat) : Int) = x by omega])
      (fun x ho => by
        have hr := u64_range ho
        show x.toNat < 2 ^ 64
        omega))
theorem someS_len : ∀ (f : Nat) (l : List Nat) (left : List Int) (k : Int) (out : List Int), (someS f l left k out).1.length ≤ out.length + f
  | 0, _, _, _, _ => Nat.le_refl _
  | f + 1, l, left, k, out => by
    unfold someS
    split
    · refine Nat.le_trans (someS_len f _ _ _ _) ?_
      simp; omega
    · simp
theorem entry_row {V : World} {E : EntryS} {EA EB ED : Option Addr} {ea eb ed : Nat} (hE : EAt V E EA EB ED ea eb ed) : Kd.entry.slice.K (V.alloc (.cells #[.int .i64 E.id, .int .i64 E.sched, .int .i64 E.epoch, .slice EA E.needs.length ea, .slice EB E.bound.length eb, .slice ED E.done.length ed] 29)) Any [E] [.slice (some ⟨V.heap.size, 0, none⟩) 1 1] := by
  have hbb := bAlloc (Below.refl V.heap.size V) (.cells #[.int .i64 E.id, .int .i64 E.sched, .int .i64 E.epoch, .slice EA E.needs.length ea, .slice EB E.bound.length eb, .slice ED E.done.length ed] 29)
  have hEE := hE.below hbb
  exact K_of_block (d := Kd.entry) 1 1 rfl (heap_alloc_new V _) trivial ⟨_, [], by simp; try rfl, entry_of E hEE.needs hEE.bound hEE.done, rfl⟩ (Nat.le_refl _) (show 1 ≤ 140737488355328 by decide)
set_option maxHeartbeats 4000000 in
set_option maxRecDepth 100000 in
theorem probeRoundsLaw (C : ConfS) (CA CB : Option Addr) (ca cb : Nat) (E : EntryS) (EA EB ED : Option Addr) (ea eb ed : Nat) (l : List Nat) (LA : Option Addr) (lc : Nat) (w : World) (hC : CAt w C CA CB ca cb) (hE : EAt w E EA EB ED ea eb ed) (hl : Kd.n64.slice.K w Any l [.slice LA l.length lc]) (hl64 : ∀ x ∈ l, x < 2 ^ 64) :
    Calls Try.prog 4 #[.agg #[.int .i64 C.scheds, .int .i64 C.lease, .int .i64 C.again, .int .i64 C.room, .int .i64 C.out, .slice CA C.names.length ca, .slice CB C.workers.length cb], .agg #[.int .i64 E.id, .int .i64 E.sched, .int .i64 E.epoch, .slice EA E.needs.length ea, .slice EB E.bound.length eb, .slice ED E.done.length ed], .slice LA l.length lc] w fun e w' => e = .returned (.bool true) ∧ Below w.heap.size w w' := by
  obtain ⟨V, hV⟩ : ∃ V, V = (w.alloc (.cells #[.int .i64 C.scheds, .int .i64 C.lease, .int .i64 C.again, .int .i64 C.room, .int .i64 C.out, .slice CA C.names.length ca, .slice CB C.workers.length cb] 25)).alloc (.cells #[.int .i64 E.id, .int .i64 E.sched, .int .i64 E.epoch, .slice EA E.needs.length ea, .slice EB E.bound.length eb, .slice ED E.done.length ed] 29) := ⟨_, rfl⟩
  obtain ⟨hb0, hbc, hbe⟩ := confEntry_new C CA CB ca cb E EA EB ED ea eb ed w V hV hC hE
  have HBV := hid hb0
  have HBC := hid hbc
  have HBE := hid hbe
  have HV := hid hV
  have HLL := hid (Kd.n64.slice.mono (S' := fun b => b < V.heap.size) (fun _ _ h => h) (Kd.below hl hb0))
  have HLT := hid hl64
  have HE0 := hid (fun (u : World) (hb : Below V.heap.size V u) => entry_row ((HBE.out.below hb).2.1))
  obtain ⟨q, hq⟩ : ∃ q, q = l.length := ⟨_, rfl⟩
  have HQ := hid hq
  rw [← hq] at HLL ⊢
  have HS := hid (fun (u : World) (hb : Below V.heap.size V u) => show ((u.cell? ⟨w.heap.size, 0, none⟩ = some (.int .i64 C.scheds) ∧ u.cell? ⟨w.heap.size, 1, none⟩ = some (.int .i64 C.lease) ∧ u.cell? ⟨w.heap.size, 2, none⟩ = some (.int .i64 C.again) ∧ u.cell? ⟨w.heap.size, 3, none⟩ = some (.int .i64 C.room) ∧ u.cell? ⟨w.heap.size, 4, none⟩ = some (.int .i64 C.out) ∧ u.cell? ⟨w.heap.size, 5, none⟩ = some (.slice CA C.names.length ca) ∧ u.cell? ⟨w.heap.size, 6, none⟩ = some (.slice CB C.workers.length cb)) ∧ (u.cell? ⟨w.heap.size + 1, 0, none⟩ = some (.int .i64 E.id) ∧ u.cell? ⟨w.heap.size + 1, 1, none⟩ = some (.int .i64 E.sched) ∧ u.cell? ⟨w.heap.size + 1, 2, none⟩ = some (.int .i64 E.epoch) ∧ u.cell? ⟨w.heap.size + 1, 3, none⟩ = some (.slice EA E.needs.length ea) ∧ u.cell? ⟨w.heap.size + 1, 4, none⟩ = some (.slice EB E.bound.length eb) ∧ u.cell? ⟨w.heap.size + 1, 5, none⟩ = some (.slice ED E.done.length ed))) from ⟨(HBC.out.below hb).1, (HBE.out.below hb).1⟩)
  have HCA := hid (fun (u : World) (hb : Below V.heap.size V u) => show CAt u C CA CB ca cb from (HBC.out.below hb).2.1)
  have HEA := hid (fun (u : World) (hb : Below V.heap.size V u) => show EAt u E EA EB ED ea eb ed from (HBE.out.below hb).2.1)
  obtain ⟨⟨c0, c1, c2, c3, c4, c5, c6⟩, d0, d1, d2, d3, d4, d5⟩ := HS.out V (Below.refl _ _)
  clear hV hE hC hl hb0 hbc hbe hl64 hq
  go_enter Try.func4, Try.ntmps4
  go_wp2_with fail
  rw [← HV.out]
  refine (rlong14_calls C CA CB ca cb _ HBC.out.2.1.names).mono ?_
  rintro e w1 ⟨rfl, hb1⟩
  have HB1 := hid hb1
  clear hb1 c0 c1 c2 c3 c4 c5 c6 d0 d1 d2 d3 d4 d5
  obtain ⟨⟨c0, c1, c2, c3, c4, c5, c6⟩, d0, d1, d2, d3, d4, d5⟩ := HS.out w1 HB1.out
  have HLG := hid (show longC C = (longB C.names 40 100 || decide (80 < C.workers.length)) from rfl)
  obtain ⟨lg, hlg⟩ : ∃ lg, lg = longC C := ⟨_, rfl⟩
  rw [← hlg] at HLG ⊢
  clear hlg
  cases lg
  case true =>
    go_wp2_with fail
    refine (works33_calls _).mono ?_
    rintro e w2 ⟨rfl, hb2⟩
    go_wp2
    go_ret
    exact ⟨rfl, bThen (bThen HBV.out HB1.out) hb2⟩
  have HWL := hid (show C.workers.length ≤ 1000 by
    have := HLG.out.symm
    rw [Bool.or_eq_false_iff] at this
    have := of_decide_eq_false this.2
    omega)
  go_wp2_with fail
  refine (rlong20_calls [E] _ _ (HE0.out w1 HB1.out)).mono ?_
  rintro e w2 ⟨rfl, rfl⟩
  have HB2 := hid (bAlloc HB1.out (.cells #[.int .i64 E.id, .int .i64 E.sched, .int .i64 E.epoch, .slice EA E.needs.length ea, .slice EB E.bound.length eb, .slice ED E.done.length ed] 29))
  obtain ⟨le, hle⟩ : ∃ le, le = longEs [E] := ⟨_, rfl⟩
  have HLE := hid hle
  rw [← hle]
  clear hle
  cases le
  case true =>
    go_wp2_with fail
    refine (works33_calls _).mono ?_
    rintro e w2 ⟨rfl, hb2⟩
    go_wp2
    go_ret
    exact ⟨rfl, bThen (bThen HBV.out HB2.out) hb2⟩
  by_cases h100 : 100 < q
  · have h100I : (100 : Int) < (q : Int) := by omega
    go_wp2_with fail
    refine (works33_calls _).mono ?_
    rintro e w2 ⟨rfl, hb2⟩
    go_wp2
    go_ret
    exact ⟨rfl, bThen (bThen HBV.out HB2.out) hb2⟩
  have h100I : ¬ (100 : Int) < (q : Int) := by omega
  obtain ⟨W2, hW2⟩ : ∃ W2, W2 = w1.alloc (.cells #[.int .i64 E.id, .int .i64 E.sched, .int .i64 E.epoch, .slice EA E.needs.length ea, .slice EB E.bound.length eb, .slice ED E.done.length ed] 29) := ⟨_, rfl⟩
  rw [← hW2] at HB2
  obtain ⟨hnl, hbl, _, hsz⟩ := longEs_one HLE.out.symm
  have HNS := hid (show ∀ s ∈ E.needs, s.size ≤ 140737488351232 from fun s hs => by have := hsz s hs; omega)
  have HNS2 := hid (show ∀ s ∈ E.needs, s.size ≤ 1000 from fun s hs => by have := hsz s hs; omega)
  have HNS3 := hid (show ∀ s ∈ openT E, s.size * 24 ≤ 140737488351232 from fun s hs => by have := hsz s (openT_mem hs); omega)
  have HBL := hid (show E.bound.length ≤ 1000 by omega)
  have HNL := hid (show E.needs.length ≤ 1000 by omega)
  have HTL := hid (show (openT E).length ≤ 1000 by unfold openT; rw [List.length_map]; have := openL_len E; omega)
  have HL2 := hid (show Kd.n64.slice.K W2 Any l [.slice LA q lc] from Kd.any (Kd.below HLL.out HB2.out))
  have HRL := hid (show (roundS C E l).1.length ≤ 64 from by have := someS_len 64 l (bitsN (anyS C.names C.workers (openT E)) 64) (2 * ((openL E).length : Nat)) []; simpa [roundS] using this)
  clear c0 c1 c2 c3 c4 c5 c6 d0 d1 d2 d3 d4 d5 hnl hbl hsz
  go_wp2_with fail
  rw [← hW2]
  refine (tnew_calls l _ W2 HL2.out (by rw [← HQ.out]; omega) HLT.out).mono ?_
  rintro e w3 ⟨g, rfl, hT3, hb3⟩
  have HT3 := hid (hT3.mono (T' := fun k => W2.heap.size ≤ k ∧ k < w3.heap.size) (fun k hk h => ⟨h, hk⟩))
  have HB3 := hid (bThen HB2.out hb3)
  have HGS := hid (show V.heap.size ≤ g from Nat.le_trans HB2.out.size HT3.out.len.1.1)
  obtain ⟨⟨c0, c1, c2, c3, c4, c5, c6⟩, d0, d1, d2, d3, d4, d5⟩ := HS.out w3 HB3.out
  clear hT3 hb3
  go_wp2_with fail
  refine (probeRound_calls _ g l C CA CB ca cb E EA EB ED ea eb ed w3 HT3.out (fun b hb => hb.2) (HCA.out w3 HB3.out) (HEA.out w3 HB3.out) HBL.out HNS.out).mono ?_
  rintro e w4 ⟨v4, rfl, hO4, hT4, hM4⟩
  have HB4 := hid (HB3.out.trans ⟨hM4.os, hM4.tape, hM4.output, hM4.size, fun b hb => hM4.block b (Nat.lt_of_lt_of_le hb HB3.out.size) (fun e => by have := HGS.out; omega)⟩)
  obtain ⟨A4, n4, c4', rfl, hq1, hq2⟩ := hO4.shape'
  have HO4 := hid (Kd.any hO4.K)
  have HT4 := hid hT4
  clear hO4 hT4 hM4 hq1 hq2 c0 c1 c2 c3 c4 c5 c6 d0 d1 d2 d3 d4 d5
  obtain ⟨⟨c0, c1, c2, c3, c4, c5, c6⟩, d0, d1, d2, d3, d4, d5⟩ := HS.out w4 HB4.out
  go_wp2_with fail
  refine (rround33_calls l _ C CA CB ca cb E EA EB ED ea eb ed w4 (Kd.any (Kd.below HLL.out HB4.out)) (HCA.out w4 HB4.out) (HEA.out w4 HB4.out) HBL.out HNL.out HWL.out HNS2.out).mono ?_
  rintro e w5 ⟨v5, A5, n5, c5', rfl, hO5, hK5, hb5⟩
  have HB5 := hid (bThen HB4.out hb5)
  obtain ⟨A6, n6, c6', rfl, hq1, hq2⟩ := hO5.shape'
  have HO5 := hid (Kd.any hO5.K)
  have HK5 := hid hK5
  have HO45 := hid (Kd.below HO4.out hb5)
  have HT5 := hid (TapeAt.below HT4.out hb5)
  clear hO5 hK5 hb5 hq1 hq2 c0 c1 c2 c3 c4 c5 c6 d0 d1 d2 d3 d4 d5
  obtain ⟨z, hz⟩ : ∃ z, z = anyS C.names C.workers (openT E) := ⟨_, rfl⟩
  have HZ := hid hz
  have hzz : ((z : Int) == (z : Int)) = true := beq_self_eq_true _
  clear hz
  go_wp2_with fail
  have c0 := HS.out w5.drew HB5.out.drew
  have U0 := hid HB5.out.drew
  have HO45d := hid (Kd.below HO45.out (Below.refl _ w5).drew)
  have HO5d := hid (Kd.below HO5.out (Below.refl _ w5).drew)
  have HK5d := hid (Kd.below HK5.out (Below.refl _ w5).drew)
  have HT5d := hid (TapeAt.below HT5.out (Below.refl _ w5).drew)
  refine wp_region_held_drew (S := fun w' => (w'.cell? ⟨w.heap.size, 0, none⟩ = some (.int .i64 C.scheds) ∧ w'.cell? ⟨w.heap.size, 1, none⟩ = some (.int .i64 C.lease) ∧ w'.cell? ⟨w.heap.size, 2, none⟩ = some (.int .i64 C.again) ∧ w'.cell? ⟨w.heap.size, 3, none⟩ = some (.int .i64 C.room) ∧ w'.cell? ⟨w.heap.size, 4, none⟩ = some (.int .i64 C.out) ∧ w'.cell? ⟨w.heap.size, 5, none⟩ = some (.slice CA C.names.length ca) ∧ w'.cell? ⟨w.heap.size, 6, none⟩ = some (.slice CB C.workers.length cb)) ∧ (w'.cell? ⟨w.heap.size + 1, 0, none⟩ = some (.int .i64 E.id) ∧ w'.cell? ⟨w.heap.size + 1, 1, none⟩ = some (.int .i64 E.sched) ∧ w'.cell? ⟨w.heap.size + 1, 2, none⟩ = some (.int .i64 E.epoch) ∧ w'.cell? ⟨w.heap.size + 1, 3, none⟩ = some (.slice EA E.needs.length ea) ∧ w'.cell? ⟨w.heap.size + 1, 4, none⟩ = some (.slice EB E.bound.length eb) ∧ w'.cell? ⟨w.heap.size + 1, 5, none⟩ = some (.slice ED E.done.length ed))) (by kernel_rfl) c0 (fun hHeld => ?_)
  refine anyH_take 0 (v := ?_) rfl (by kernel_rfl) (by kernel_rfl) (by kernel_rfl) (fun _ _ _ h => h) (by rfl) hHeld ?_ ?_
  rotate_left
  · (intro w hSw; (try dsimp only at hSw); go_split_ands; go_simp; try with_reducible rfl)
  (try simp only [Act.put, List.setIfInBounds_toArray, List.set_cons_zero, List.set_cons_succ])
  refine anyH_take 1 (v := ?_) rfl (by kernel_rfl) (by kernel_rfl) (by kernel_rfl) (fun _ _ _ h => h) (by rfl) hHeld ?_ ?_
  rotate_left
  · (intro w hSw; (try dsimp only at hSw); go_split_ands; go_simp; try with_reducible rfl)
  (try simp only [Act.put, List.setIfInBounds_toArray, List.set_cons_zero, List.set_cons_succ])
  refine anyH_one 2 rfl (by kernel_rfl) (fun K hK => ?_)
  go_simp
  refine (isame_calls (roundS C E l).1 _ _ w5.drew HO45d.out HO5d.out).mono ?_
  rintro e x1 ⟨rfl, n0, hx0⟩
  have hb0 : Below (w5.drew).heap.size (w5.drew) x1 := by rw [hx0]; exact below_drewN (Below.refl _ _) n0
  clear hx0
  have U1 := hid (bThen U0.out hb0)
  have M1 := hid (Kd.below HO5d.out (hb0))
  have M2 := hid (Kd.below HK5d.out (hb0))
  have M3 := hid (TapeAt.below HT5d.out (hb0))
  clear hb0
  go_simp
  refine hK.out _ _ (HS.out _ U1.out) (fun hHeld => ?_)
  clear hK K
  (try simp only [Act.put, List.setIfInBounds_toArray, List.set_cons_zero, List.set_cons_succ])
  refine anyH_take 3 (v := ?_) rfl (by kernel_rfl) (by kernel_rfl) (by kernel_rfl) (fun _ _ _ h => h) (by rfl) hHeld ?_ ?_
  rotate_left
  · (intro w hSw; (try dsimp only at hSw); go_split_ands; go_simp; try with_reducible rfl)
  (try simp only [Act.put, List.setIfInBounds_toArray, List.set_cons_zero, List.set_cons_succ])
  refine anyH_take 4 (v := ?_) rfl (by kernel_rfl) (by kernel_rfl) (by kernel_rfl) (fun _ _ _ h => h) (by rfl) hHeld ?_ ?_
  rotate_left
  · (intro w hSw; (try dsimp only at hSw); go_split_ands; go_simp; try with_reducible rfl)
  (try simp only [Act.put, List.setIfInBounds_toArray, List.set_cons_zero, List.set_cons_succ])
  refine anyH_take 6 (v := ?_) rfl (by kernel_rfl) (by kernel_rfl) (by kernel_rfl) (fun _ _ _ h => h) (by rfl) hHeld ?_ ?_
  rotate_left
  · (intro w hSw; (try dsimp only at hSw); go_split_ands; go_simp; try with_reducible rfl)
  (try simp only [Act.put, List.setIfInBounds_toArray, List.set_cons_zero, List.set_cons_succ])
  refine anyH_one 5 rfl (by kernel_rfl) (fun K hK => ?_)
  go_simp
  refine (tleft_calls _ g _ x1 M3.out).mono ?_
  rintro e x2 ⟨v1, rfl, hO1, hb1⟩
  have U2 := hid (bThen U1.out hb1)
  have HOL1 := hid (Kd.any hO1.K)
  have M4 := hid (Kd.below M1.out (hb1))
  have M5 := hid (Kd.below M2.out (hb1))
  clear hO1 hb1
  go_simp
  refine hK.out _ _ (HS.out _ U2.out) (fun hHeld => ?_)
  clear hK K
  (try simp only [Act.put, List.setIfInBounds_toArray, List.set_cons_zero, List.set_cons_succ])
  refine anyH_one 7 rfl (by kernel_rfl) (fun K hK => ?_)
  go_simp
  refine (dsame_calls (roundS C E l).2 _ _ x2 HOL1.out M5.out).mono ?_
  rintro e x3 ⟨rfl, n2, hx2⟩
  have hb2 : Below (x2).heap.size (x2) x3 := by rw [hx2]; exact below_drewN (Below.refl _ _) n2
  clear hx2
  have U3 := hid (bThen U2.out hb2)
  have M6 := hid (Kd.below M4.out (hb2))
  clear hb2
  go_simp
  refine hK.out _ _ (HS.out _ U3.out) (fun hHeld => ?_)
  clear hK K
  (try simp only [Act.put, List.setIfInBounds_toArray, List.set_cons_zero, List.set_cons_succ])
  refine anyH_take 8 (v := ?_) rfl (by kernel_rfl) (by kernel_rfl) (by kernel_rfl) (fun _ _ _ h => h) (by rfl) hHeld ?_ ?_
  rotate_left
  · (intro w hSw; (try dsimp only at hSw); go_split_ands; go_simp; try with_reducible rfl)
  (try simp only [Act.put, List.setIfInBounds_toArray, List.set_cons_zero, List.set_cons_succ])
  refine anyH_take 9 (v := ?_) rfl (by kernel_rfl) (by kernel_rfl) (by kernel_rfl) (fun _ _ _ h => h) (by rfl) hHeld ?_ ?_
  rotate_left
  · (intro w hSw; (try dsimp only at hSw); go_split_ands; go_simp; try with_reducible rfl)
  (try simp only [Act.put, List.setIfInBounds_toArray, List.set_cons_zero, List.set_cons_succ])
  refine anyH_take 10 (v := ?_) rfl (by kernel_rfl) (by kernel_rfl) (by kernel_rfl) (fun _ _ _ h => h) (by rfl) hHeld ?_ ?_
  rotate_left
  · (intro w hSw; (try dsimp only at hSw); go_split_ands; go_simp; try with_reducible rfl)
  (try simp only [Act.put, List.setIfInBounds_toArray, List.set_cons_zero, List.set_cons_succ])
  refine anyH_take 11 (v := ?_) rfl (by kernel_rfl) (by kernel_rfl) (by kernel_rfl) (fun _ _ _ h => h) (by rfl) hHeld ?_ ?_
  rotate_left
  · (intro w hSw; (try dsimp only at hSw); go_split_ands; go_simp; try with_reducible rfl)
  (try simp only [Act.put, List.setIfInBounds_toArray, List.set_cons_zero, List.set_cons_succ])
  refine anyH_take 13 (v := ?_) rfl (by kernel_rfl) (by kernel_rfl) (by kernel_rfl) (fun _ _ _ h => h) (by rfl) hHeld ?_ ?_
  rotate_left
  · (intro w hSw; (try dsimp only at hSw); go_split_ands; go_simp; try with_reducible rfl)
  (try simp only [Act.put, List.setIfInBounds_toArray, List.set_cons_zero, List.set_cons_succ])
  refine anyH_take 14 (v := ?_) rfl (by kernel_rfl) (by kernel_rfl) (by kernel_rfl) (fun _ _ _ h => h) (by rfl) hHeld ?_ ?_
  rotate_left
  · (intro w hSw; (try dsimp only at hSw); go_split_ands; go_simp; try with_reducible rfl)
  (try simp only [Act.put, List.setIfInBounds_toArray, List.set_cons_zero, List.set_cons_succ])
  refine anyH_one 12 rfl (by kernel_rfl) (fun K hK => ?_)
  go_simp
  refine (probeWorkers_calls C CA CB ca cb E EA EB ED ea eb ed x3 (HCA.out _ U3.out) (HEA.out _ U3.out) HBL.out HNS.out).mono ?_
  rintro e x4 ⟨rfl, hb3⟩
  have U4 := hid (bThen U3.out hb3)
  have M7 := hid (Kd.below M6.out (hb3))
  rw [← HZ.out]
  clear hb3
  go_simp
  refine hK.out _ _ (HS.out _ U4.out) (fun hHeld => ?_)
  clear hK K
  (try simp only [Act.put, List.setIfInBounds_toArray, List.set_cons_zero, List.set_cons_succ])
  refine anyH_one 15 rfl (by kernel_rfl) (fun K hK => ?_)
  go_simp
  refine (ropen33_calls E EA EB ED ea eb ed x4 (HEA.out _ U4.out) HBL.out).mono ?_
  rintro e x5 ⟨v4, rfl, hO4, hb4⟩
  have U5 := hid (bThen U4.out hb4)
  have M8 := hid (Kd.below M7.out (hb4))
  have HOP := hid (Kd.any hO4.K)
  clear hO4
  clear hb4
  go_simp
  refine hK.out _ _ (HS.out _ U5.out) (fun hHeld => ?_)
  clear hK K
  (try simp only [Act.put, List.setIfInBounds_toArray, List.set_cons_zero, List.set_cons_succ])
  refine anyH_one 16 rfl (by kernel_rfl) (fun K hK => ?_)
  go_simp
  refine (rany15_calls C.names C.workers (openT E) C.scheds C.lease C.again C.room C.out _ _ _ x5 (HCA.out _ U5.out).names (HCA.out _ U5.out).workers (HCA.out _ U5.out).attrs HOP.out HNS3.out (by have := HWL.out; omega) (by have := HTL.out; omega)).mono ?_
  rintro e x6 ⟨rfl, hb5⟩
  have U6 := hid (bThen U5.out hb5)
  have M9 := hid (Kd.below M8.out (hb5))
  rw [← HZ.out]
  clear hb5
  go_simp
  refine hK.out _ _ (HS.out _ U6.out) (fun hHeld => ?_)
  clear hK K
  (try simp only [Act.put, List.setIfInBounds_toArray, List.set_cons_zero, List.set_cons_succ])
  refine anyH_take 17 (v := ?_) rfl (by kernel_rfl) (by kernel_rfl) (by kernel_rfl) (fun _ _ _ h => h) (by rfl) hHeld ?_ ?_
  rotate_left
  · (intro w hSw; (try dsimp only at hSw); go_split_ands; go_simp; try with_reducible rfl)
  (try simp only [Act.put, List.setIfInBounds_toArray, List.set_cons_zero, List.set_cons_succ])
  refine anyH_take 18 (v := ?_) rfl (by kernel_rfl) (by kernel_rfl) (by kernel_rfl) (fun _ _ _ h => h) (by rfl) hHeld ?_ ?_
  rotate_left
  · (intro w hSw; (try dsimp only at hSw); go_split_ands; go_simp; try with_reducible rfl)
  (try simp only [Act.put, List.setIfInBounds_toArray, List.set_cons_zero, List.set_cons_succ])
  refine anyH_take 19 (v := ?_) rfl (by kernel_rfl) (by kernel_rfl) (by kernel_rfl) (fun _ _ _ h => h) (by rfl) hHeld ?_ ?_
  rotate_left
  · (intro w hSw; (try dsimp only at hSw); go_split_ands; go_simp; try with_reducible rfl)
  (try simp only [Act.put, List.setIfInBounds_toArray, List.set_cons_zero, List.set_cons_succ])
  refine anyH_take 20 (v := ?_) rfl (by kernel_rfl) (by kernel_rfl) (by kernel_rfl) (fun _ _ _ h => h) (by rfl) hHeld ?_ ?_
  rotate_left
  · (intro w hSw; (try dsimp only at hSw); go_split_ands; go_simp; try with_reducible rfl)
  (try simp only [Act.put, List.setIfInBounds_toArray, List.set_cons_zero, List.set_cons_succ])
  refine anyH_take 21 (v := ?_) rfl (by kernel_rfl) (by kernel_rfl) (by kernel_rfl) (fun _ _ _ h => h) (by rfl) hHeld ?_ ?_
  rotate_left
  · (intro w hSw; (try dsimp only at hSw); go_split_ands; go_simp; try with_reducible rfl)
  (try simp only [Act.put, List.setIfInBounds_toArray, List.set_cons_zero, List.set_cons_succ])
  refine anyH_take 23 (v := ?_) rfl (by kernel_rfl) (by kernel_rfl) (by kernel_rfl) (fun _ _ _ h => h) (by rfl) hHeld ?_ ?_
  rotate_left
  · (intro w hSw; (try dsimp only at hSw); go_split_ands; go_simp; try with_reducible rfl)
  (try simp only [Act.put, List.setIfInBounds_toArray, List.set_cons_zero, List.set_cons_succ])
  refine anyH_take 24 (v := ?_) rfl (by kernel_rfl) (by kernel_rfl) (by kernel_rfl) (fun _ _ _ h => h) (by rfl) hHeld ?_ ?_
  rotate_left
  · (intro w hSw; (try dsimp only at hSw); go_split_ands; go_simp; try with_reducible rfl)
  (try simp only [Act.put, List.setIfInBounds_toArray, List.set_cons_zero, List.set_cons_succ])
  refine anyH_one 22 rfl (by kernel_rfl) (fun K hK => ?_)
  go_simp
  refine (told_calls E EA EB ED ea eb ed (roundS C E l).1 _ x6 (HEA.out _ U6.out) M9.out (by have := HRL.out; omega)).mono ?_
  rintro e x7 ⟨v6, rfl, hO6, hb6⟩
  have U7 := hid (bThen U6.out hb6)
  have M10 := hid (Kd.below M9.out (hb6))
  have HOT6 := hid (Kd.any hO6.K)
  clear hO6
  clear hb6
  go_simp
  refine hK.out _ _ (HS.out _ U7.out) (fun hHeld => ?_)
  clear hK K
  (try simp only [Act.put, List.setIfInBounds_toArray, List.set_cons_zero, List.set_cons_succ])
  refine anyH_one 25 rfl (by kernel_rfl) (fun K hK => ?_)
  go_simp
  refine (rtold_calls E EA EB ED ea eb ed (roundS C E l).1 _ x7 (HEA.out _ U7.out) M10.out (by have := HRL.out; omega)).mono ?_
  rintro e x8 ⟨v7, rfl, hO7, hb7⟩
  have U8 := hid (bThen U7.out hb7)
  have M11 := hid (Kd.below M10.out (hb7))
  have M12 := hid (Kd.below HOT6.out (hb7))
  have HOT7 := hid (Kd.any hO7.K)
  clear hO7
  clear hb7
  go_simp
  refine hK.out _ _ (HS.out _ U8.out) (fun hHeld => ?_)
  clear hK K
  (try simp only [Act.put, List.setIfInBounds_toArray, List.set_cons_zero, List.set_cons_succ])
  refine anyH_one 26 rfl (by kernel_rfl) (fun K hK => ?_)
  go_simp
  refine (outs_calls (toldS E (roundS C E l).1) _ _ x8 M12.out HOT7.out).mono ?_
  rintro e x9 ⟨rfl, n8, hx8⟩
  have hb8 : Below (x8).heap.size (x8) x9 := by rw [hx8]; exact below_drewN (Below.refl _ _) n8
  clear hx8
  have U9 := hid (bThen U8.out hb8)
  clear hb8
  go_simp
  refine hK.out _ _ (HS.out _ U9.out) (fun hHeld => ?_)
  clear hK K
  (try simp only [Act.put, List.setIfInBounds_toArray, List.set_cons_zero, List.set_cons_succ])
  refine anyH_take 27 (v := ?_) rfl (by kernel_rfl) (by kernel_rfl) (by kernel_rfl) (fun _ _ _ h => h) (by rfl) hHeld ?_ ?_
  rotate_left
  · (intro w hSw; (try dsimp only at hSw); go_split_ands; go_simp; try with_reducible rfl)
  (try simp only [Act.put, List.setIfInBounds_toArray, List.set_cons_zero, List.set_cons_succ])
  refine anyH_take 28 (v := ?_) rfl (by kernel_rfl) (by kernel_rfl) (by kernel_rfl) (fun _ _ _ h => h) (by rfl) hHeld ?_ ?_
  rotate_left
  · (intro w hSw; (try dsimp only at hSw); go_split_ands; go_simp; try with_reducible rfl)
  (try simp only [Act.put, List.setIfInBounds_toArray, List.set_cons_zero, List.set_cons_succ])
  refine anyH_take 29 (v := ?_) rfl (by kernel_rfl) (by kernel_rfl) (by kernel_rfl) (fun _ _ _ h => h) (by rfl) hHeld ?_ ?_
  rotate_left
  · (intro w hSw; (try dsimp only at hSw); go_split_ands; go_simp; try with_reducible rfl)
  (try simp only [Act.put, List.setIfInBounds_toArray, List.set_cons_zero, List.set_cons_succ])
  refine anyH_take 32 (v := ?_) rfl (by kernel_rfl) (by kernel_rfl) (by kernel_rfl) (fun _ _ _ h => h) (by rfl) hHeld ?_ ?_
  rotate_left
  · (intro w hSw; (try dsimp only at hSw); go_split_ands; go_simp; try with_reducible rfl)
  (try simp only [Act.put, List.setIfInBounds_toArray, List.set_cons_zero, List.set_cons_succ])
  refine anyH_two 30 33 rfl rfl (by kernel_rfl) (fun K hK => ?_) (fun K hK => ?_)
  · go_simp
    have U10 := hid (bAlloc U9.out (.cells #[.int .i64 (-1), .int .i64 63, .int .i64 64, .int .i64 0] 3))
    have HW9 := hid (show I64.slice.K (x9.alloc (.cells #[.int .i64 (-1), .int .i64 63, .int .i64 64, .int .i64 0] 3)) Any [-1, 63, 64, 0] [.slice (some ⟨x9.heap.size, 0, none⟩) 4 4] from Kd.any (K_new (enc := fun x => [Value.int .i64 x]) (hl := fun _ => rfl) (h1 := fun x u hu => by rw [List.mem_singleton.1 hu]; rfl) x9 (x9.heap.size) (by first | rfl | simp) 3 [-1, 63, 64, 0] (by decide)))
    refine hK.out _ _ (HS.out _ U10.out) (fun hHeld => ?_)
    clear hK K
    (try simp only [Act.put, List.setIfInBounds_toArray, List.set_cons_zero, List.set_cons_succ])
    refine anyH_two 31 33 rfl rfl (by kernel_rfl) (fun K hK => ?_) (fun K hK => ?_)
    · go_simp
      refine (told_calls E EA EB ED ea eb ed [-1, 63, 64, 0] _ (x9.alloc (.cells #[.int .i64 (-1), .int .i64 63, .int .i64 64, .int .i64 0] 3)) (HEA.out _ U10.out) HW9.out (by decide)).mono ?_
      rintro e x11 ⟨v10, rfl, hO10, hb10⟩
      have U11 := hid (bThen U10.out hb10)
      have M13 := hid (Kd.below HW9.out (hb10))
      have HOT10 := hid (Kd.any hO10.K)
      clear hO10
      clear hb10
      go_simp
      refine hK.out _ _ (HS.out _ U11.out) (fun hHeld => ?_)
      clear hK K
      (try simp only [Act.put, List.setIfInBounds_toArray, List.set_cons_zero, List.set_cons_succ])
      refine anyH_one 33 rfl (by kernel_rfl) (fun K hK => ?_)
      go_simp
      have U12 := hid (bAlloc U11.out (.cells #[.int .i64 63, .int .i64 0] 3))
      have M14 := hid (Kd.below M13.out (bAlloc (Below.refl _ x11) (.cells #[.int .i64 63, .int .i64 0] 3)))
      have M15 := hid (Kd.below HOT10.out (bAlloc (Below.refl _ x11) (.cells #[.int .i64 63, .int .i64 0] 3)))
      have HW11 := hid (show I64.slice.K (x11.alloc (.cells #[.int .i64 63, .int .i64 0] 3)) Any [63, 0] [.slice (some ⟨x11.heap.size, 0, none⟩) 2 2] from Kd.any (K_new (enc := fun x => [Value.int .i64 x]) (hl := fun _ => rfl) (h1 := fun x u hu => by rw [List.mem_singleton.1 hu]; rfl) x11 (x11.heap.size) (by first | rfl | simp) 3 [63, 0] (by decide)))
      refine hK.out _ _ (HS.out _ U12.out) (fun hHeld => ?_)
      clear hK K
      (try simp only [Act.put, List.setIfInBounds_toArray, List.set_cons_zero, List.set_cons_succ])
      refine anyH_one 34 rfl (by kernel_rfl) (fun K hK => ?_)
      go_simp
      refine (rtold_calls E EA EB ED ea eb ed [63, 0] _ (x11.alloc (.cells #[.int .i64 63, .int .i64 0] 3)) (HEA.out _ U12.out) HW11.out (by decide)).mono ?_
      rintro e x13 ⟨v12, rfl, hO12, hb12⟩
      have U13 := hid (bThen U12.out hb12)
      have M16 := hid (Kd.below M14.out (hb12))
      have M17 := hid (Kd.below M15.out (hb12))
      have M18 := hid (Kd.below HW11.out (hb12))
      have HOT12 := hid (Kd.any hO12.K)
      clear hO12
      clear hb12
      go_simp
      refine hK.out _ _ (HS.out _ U13.out) (fun hHeld => ?_)
      clear hK K
      (try simp only [Act.put, List.setIfInBounds_toArray, List.set_cons_zero, List.set_cons_succ])
      refine anyH_one 35 rfl (by kernel_rfl) (fun K hK => ?_)
      go_simp
      refine (outs_calls (toldS E [63, 0]) _ _ x13 (show Kd.out.slice.K x13 Any (toldS E [63, 0]) _ from M17.out) HOT12.out).mono ?_
      rintro e x14 ⟨rfl, n13, hx13⟩
      have hb13 : Below (x13).heap.size (x13) x14 := by rw [hx13]; exact below_drewN (Below.refl _ _) n13
      clear hx13
      have U14 := hid (bThen U13.out hb13)
      have M19 := hid (Kd.below M16.out (hb13))
      have M20 := hid (Kd.below M18.out (hb13))
      clear hb13
      go_simp
      refine hK.out _ _ (HS.out _ U14.out) (fun hHeld => ?_)
      clear hK K
      (try simp only [Act.put, List.setIfInBounds_toArray, List.set_cons_zero, List.set_cons_succ])
      refine anyH_take 36 (v := ?_) rfl (by kernel_rfl) (by kernel_rfl) (by kernel_rfl) (fun _ _ _ h => h) (by rfl) hHeld ?_ ?_
      rotate_left
      · (intro w hSw; (try dsimp only at hSw); go_split_ands; go_simp; try with_reducible rfl)
      (try simp only [Act.put, List.setIfInBounds_toArray, List.set_cons_zero, List.set_cons_succ])
      refine anyH_take 37 (v := ?_) rfl (by kernel_rfl) (by kernel_rfl) (by kernel_rfl) (fun _ _ _ h => h) (by rfl) hHeld ?_ ?_
      rotate_left
      · (intro w hSw; (try dsimp only at hSw); go_split_ands; go_simp; try with_reducible rfl)
      (try simp only [Act.put, List.setIfInBounds_toArray, List.set_cons_zero, List.set_cons_succ])
      refine anyH_one 38 rfl (by kernel_rfl) (fun K hK => ?_)
      go_simp
      refine (works33_calls _).mono ?_
      rintro e x15 ⟨rfl, hb14⟩
      have U15 := hid (bThen U14.out hb14)
      have M21 := hid (Kd.below M19.out (hb14))
      have M22 := hid (Kd.below M20.out (hb14))
      clear hb14
      go_simp
      refine hK.out _ _ (HS.out _ U15.out) (fun hHeld => ?_)
      clear hK K
      (try simp only [Act.put, List.setIfInBounds_toArray, List.set_cons_zero, List.set_cons_succ])
      refine anyH_take 39 (v := ?_) rfl (by kernel_rfl) (by kernel_rfl) (by kernel_rfl) (fun _ _ _ h => h) (by rfl) hHeld ?_ ?_
      rotate_left
      · (intro w hSw; (try dsimp only at hSw); go_split_ands; go_simp; try with_reducible rfl)
      (try simp only [Act.put, List.setIfInBounds_toArray, List.set_cons_zero, List.set_cons_succ])
      refine anyH_take 40 (v := ?_) rfl (by kernel_rfl) (by kernel_rfl) (by kernel_rfl) (fun _ _ _ h => h) (by rfl) hHeld ?_ ?_
      rotate_left
      · (intro w hSw; (try dsimp only at hSw); go_split_ands; go_simp; try with_reducible rfl)
      (try simp only [Act.put, List.setIfInBounds_toArray, List.set_cons_zero, List.set_cons_succ])
      refine wpAnyH_done (by kernel_rfl) ?_ _
      go_wp2
      go_ret
      exact ⟨rfl, bThen HBV.out U15.out⟩
    · go_simp
      have U11 := hid (bAlloc U10.out (.cells #[.int .i64 63, .int .i64 0] 3))
      have M13 := hid (Kd.below HW9.out (bAlloc (Below.refl _ (x9.alloc (.cells #[.int .i64 (-1), .int .i64 63, .int .i64 64, .int .i64 0] 3))) (.cells #[.int .i64 63, .int .i64 0] 3)))
      have HW10 := hid (show I64.slice.K ((x9.alloc (.cells #[.int .i64 (-1), .int .i64 63, .int .i64 64, .int .i64 0] 3)).alloc (.cells #[.int .i64 63, .int .i64 0] 3)) Any [63, 0] [.slice (some ⟨x9.heap.size + 1, 0, none⟩) 2 2] from Kd.any (K_new (enc := fun x => [Value.int .i64 x]) (hl := fun _ => rfl) (h1 := fun x u hu => by rw [List.mem_singleton.1 hu]; rfl) (x9.alloc (.cells #[.int .i64 (-1), .int .i64 63, .int .i64 64, .int .i64 0] 3)) (x9.heap.size + 1) (by first | rfl | simp) 3 [63, 0] (by decide)))
      refine hK.out _ _ (HS.out _ U11.out) (fun hHeld => ?_)
      clear hK K
      (try simp only [Act.put, List.setIfInBounds_toArray, List.set_cons_zero, List.set_cons_succ])
      refine anyH_one 31 rfl (by kernel_rfl) (fun K hK => ?_)
      go_simp
      refine (told_calls E EA EB ED ea eb ed [-1, 63, 64, 0] _ ((x9.alloc (.cells #[.int .i64 (-1), .int .i64 63, .int .i64 64, .int .i64 0] 3)).alloc (.cells #[.int .i64 63, .int .i64 0] 3)) (HEA.out _ U11.out) M13.out (by decide)).mono ?_
      rintro e x12 ⟨v11, rfl, hO11, hb11⟩
      have U12 := hid (bThen U11.out hb11)
      have M14 := hid (Kd.below M13.out (hb11))
      have M15 := hid (Kd.below HW10.out (hb11))
      have HOT11 := hid (Kd.any hO11.K)
      clear hO11
      clear hb11
      go_simp
      refine hK.out _ _ (HS.out _ U12.out) (fun hHeld => ?_)
      clear hK K
      (try simp only [Act.put, List.setIfInBounds_toArray, List.set_cons_zero, List.set_cons_succ])
      refine anyH_one 34 rfl (by kernel_rfl) (fun K hK => ?_)
      go_simp
      refine (rtold_calls E EA EB ED ea eb ed [63, 0] _ x12 (HEA.out _ U12.out) M15.out (by decide)).mono ?_
      rintro e x13 ⟨v12, rfl, hO12, hb12⟩
      have U13 := hid (bThen U12.out hb12)
      have M16 := hid (Kd.below M14.out (hb12))
      have M17 := hid (Kd.below M15.out (hb12))
      have M18 := hid (Kd.below HOT11.out (hb12))
      have HOT12 := hid (Kd.any hO12.K)
      clear hO12
      clear hb12
      go_simp
      refine hK.out _ _ (HS.out _ U13.out) (fun hHeld => ?_)
      clear hK K
      (try simp only [Act.put, List.setIfInBounds_toArray, List.set_cons_zero, List.set_cons_succ])
      refine anyH_one 35 rfl (by kernel_rfl) (fun K hK => ?_)
      go_simp
      refine (outs_calls (toldS E [63, 0]) _ _ x13 (show Kd.out.slice.K x13 Any (toldS E [63, 0]) _ from M18.out) HOT12.out).mono ?_
      rintro e x14 ⟨rfl, n13, hx13⟩
      have hb13 : Below (x13).heap.size (x13) x14 := by rw [hx13]; exact below_drewN (Below.refl _ _) n13
      clear hx13
      have U14 := hid (bThen U13.out hb13)
      have M19 := hid (Kd.below M16.out (hb13))
      have M20 := hid (Kd.below M17.out (hb13))
      clear hb13
      go_simp
      refine hK.out _ _ (HS.out _ U14.out) (fun hHeld => ?_)
      clear hK K
      (try simp only [Act.put, List.setIfInBounds_toArray, List.set_cons_zero, List.set_cons_succ])
      refine anyH_take 36 (v := ?_) rfl (by kernel_rfl) (by kernel_rfl) (by kernel_rfl) (fun _ _ _ h => h) (by rfl) hHeld ?_ ?_
      rotate_left
      · (intro w hSw; (try dsimp only at hSw); go_split_ands; go_simp; try with_reducible rfl)
      (try simp only [Act.put, List.setIfInBounds_toArray, List.set_cons_zero, List.set_cons_succ])
      refine anyH_take 37 (v := ?_) rfl (by kernel_rfl) (by kernel_rfl) (by kernel_rfl) (fun _ _ _ h => h) (by rfl) hHeld ?_ ?_
      rotate_left
      · (intro w hSw; (try dsimp only at hSw); go_split_ands; go_simp; try with_reducible rfl)
      (try simp only [Act.put, List.setIfInBounds_toArray, List.set_cons_zero, List.set_cons_succ])
      refine anyH_one 38 rfl (by kernel_rfl) (fun K hK => ?_)
      go_simp
      refine (works33_calls _).mono ?_
      rintro e x15 ⟨rfl, hb14⟩
      have U15 := hid (bThen U14.out hb14)
      have M21 := hid (Kd.below M19.out (hb14))
      have M22 := hid (Kd.below M20.out (hb14))
      clear hb14
      go_simp
      refine hK.out _ _ (HS.out _ U15.out) (fun hHeld => ?_)
      clear hK K
      (try simp only [Act.put, List.setIfInBounds_toArray, List.set_cons_zero, List.set_cons_succ])
      refine anyH_take 39 (v := ?_) rfl (by kernel_rfl) (by kernel_rfl) (by kernel_rfl) (fun _ _ _ h => h) (by rfl) hHeld ?_ ?_
      rotate_left
      · (intro w hSw; (try dsimp only at hSw); go_split_ands; go_simp; try with_reducible rfl)
      (try simp only [Act.put, List.setIfInBounds_toArray, List.set_cons_zero, List.set_cons_succ])
      refine anyH_take 40 (v := ?_) rfl (by kernel_rfl) (by kernel_rfl) (by kernel_rfl) (fun _ _ _ h => h) (by rfl) hHeld ?_ ?_
      rotate_left
      · (intro w hSw; (try dsimp only at hSw); go_split_ands; go_simp; try with_reducible rfl)
      (try simp only [Act.put, List.setIfInBounds_toArray, List.set_cons_zero, List.set_cons_succ])
      refine wpAnyH_done (by kernel_rfl) ?_ _
      go_wp2
      go_ret
      exact ⟨rfl, bThen HBV.out U15.out⟩
  · go_simp
    have U10 := hid (bAlloc U9.out (.cells #[.int .i64 63, .int .i64 0] 3))
    have HW9 := hid (show I64.slice.K (x9.alloc (.cells #[.int .i64 63, .int .i64 0] 3)) Any [63, 0] [.slice (some ⟨x9.heap.size, 0, none⟩) 2 2] from Kd.any (K_new (enc := fun x => [Value.int .i64 x]) (hl := fun _ => rfl) (h1 := fun x u hu => by rw [List.mem_singleton.1 hu]; rfl) x9 (x9.heap.size) (by first | rfl | simp) 3 [63, 0] (by decide)))
    refine hK.out _ _ (HS.out _ U10.out) (fun hHeld => ?_)
    clear hK K
    (try simp only [Act.put, List.setIfInBounds_toArray, List.set_cons_zero, List.set_cons_succ])
    refine anyH_one 30 rfl (by kernel_rfl) (fun K hK => ?_)
    go_simp
    have U11 := hid (bAlloc U10.out (.cells #[.int .i64 (-1), .int .i64 63, .int .i64 64, .int .i64 0] 3))
    have M13 := hid (Kd.below HW9.out (bAlloc (Below.refl _ (x9.alloc (.cells #[.int .i64 63, .int .i64 0] 3))) (.cells #[.int .i64 (-1), .int .i64 63, .int .i64 64, .int .i64 0] 3)))
    have HW10 := hid (show I64.slice.K ((x9.alloc (.cells #[.int .i64 63, .int .i64 0] 3)).alloc (.cells #[.int .i64 (-1), .int .i64 63, .int .i64 64, .int .i64 0] 3)) Any [-1, 63, 64, 0] [.slice (some ⟨x9.heap.size + 1, 0, none⟩) 4 4] from Kd.any (K_new (enc := fun x => [Value.int .i64 x]) (hl := fun _ => rfl) (h1 := fun x u hu => by rw [List.mem_singleton.1 hu]; rfl) (x9.alloc (.cells #[.int .i64 63, .int .i64 0] 3)) (x9.heap.size + 1) (by first | rfl | simp) 3 [-1, 63, 64, 0] (by decide)))
    refine hK.out _ _ (HS.out _ U11.out) (fun hHeld => ?_)
    clear hK K
    (try simp only [Act.put, List.setIfInBounds_toArray, List.set_cons_zero, List.set_cons_succ])
    refine anyH_one 31 rfl (by kernel_rfl) (fun K hK => ?_)
    go_simp
    refine (told_calls E EA EB ED ea eb ed [-1, 63, 64, 0] _ ((x9.alloc (.cells #[.int .i64 63, .int .i64 0] 3)).alloc (.cells #[.int .i64 (-1), .int .i64 63, .int .i64 64, .int .i64 0] 3)) (HEA.out _ U11.out) HW10.out (by decide)).mono ?_
    rintro e x12 ⟨v11, rfl, hO11, hb11⟩
    have U12 := hid (bThen U11.out hb11)
    have M14 := hid (Kd.below M13.out (hb11))
    have M15 := hid (Kd.below HW10.out (hb11))
    have HOT11 := hid (Kd.any hO11.K)
    clear hO11
    clear hb11
    go_simp
    refine hK.out _ _ (HS.out _ U12.out) (fun hHeld => ?_)
    clear hK K
    (try simp only [Act.put, List.setIfInBounds_toArray, List.set_cons_zero, List.set_cons_succ])
    refine anyH_one 34 rfl (by kernel_rfl) (fun K hK => ?_)
    go_simp
    refine (rtold_calls E EA EB ED ea eb ed [63, 0] _ x12 (HEA.out _ U12.out) M14.out (by decide)).mono ?_
    rintro e x13 ⟨v12, rfl, hO12, hb12⟩
    have U13 := hid (bThen U12.out hb12)
    have M16 := hid (Kd.below M14.out (hb12))
    have M17 := hid (Kd.below M15.out (hb12))
    have M18 := hid (Kd.below HOT11.out (hb12))
    have HOT12 := hid (Kd.any hO12.K)
    clear hO12
    clear hb12
    go_simp
    refine hK.out _ _ (HS.out _ U13.out) (fun hHeld => ?_)
    clear hK K
    (try simp only [Act.put, List.setIfInBounds_toArray, List.set_cons_zero, List.set_cons_succ])
    refine anyH_one 35 rfl (by kernel_rfl) (fun K hK => ?_)
    go_simp
    refine (outs_calls (toldS E [63, 0]) _ _ x13 (show Kd.out.slice.K x13 Any (toldS E [63, 0]) _ from M18.out) HOT12.out).mono ?_
    rintro e x14 ⟨rfl, n13, hx13⟩
    have hb13 : Below (x13).heap.size (x13) x14 := by rw [hx13]; exact below_drewN (Below.refl _ _) n13
    clear hx13
    have U14 := hid (bThen U13.out hb13)
    have M19 := hid (Kd.below M16.out (hb13))
    have M20 := hid (Kd.below M17.out (hb13))
    clear hb13
    go_simp
    refine hK.out _ _ (HS.out _ U14.out) (fun hHeld => ?_)
    clear hK K
    (try simp only [Act.put, List.setIfInBounds_toArray, List.set_cons_zero, List.set_cons_succ])
    refine anyH_take 36 (v := ?_) rfl (by kernel_rfl) (by kernel_rfl) (by kernel_rfl) (fun _ _ _ h => h) (by rfl) hHeld ?_ ?_
    rotate_left
    · (intro w hSw; (try dsimp only at hSw); go_split_ands; go_simp; try with_reducible rfl)
    (try simp only [Act.put, List.setIfInBounds_toArray, List.set_cons_zero, List.set_cons_succ])
    refine anyH_take 37 (v := ?_) rfl (by kernel_rfl) (by kernel_rfl) (by kernel_rfl) (fun _ _ _ h => h) (by rfl) hHeld ?_ ?_
    rotate_left
    · (intro w hSw; (try dsimp only at hSw); go_split_ands; go_simp; try with_reducible rfl)
    (try simp only [Act.put, List.setIfInBounds_toArray, List.set_cons_zero, List.set_cons_succ])
    refine anyH_one 38 rfl (by kernel_rfl) (fun K hK => ?_)
    go_simp
    refine (works33_calls _).mono ?_
    rintro e x15 ⟨rfl, hb14⟩
    have U15 := hid (bThen U14.out hb14)
    have M21 := hid (Kd.below M19.out (hb14))
    have M22 := hid (Kd.below M20.out (hb14))
    clear hb14
    go_simp
    refine hK.out _ _ (HS.out _ U15.out) (fun hHeld => ?_)
    clear hK K
    (try simp only [Act.put, List.setIfInBounds_toArray, List.set_cons_zero, List.set_cons_succ])
    refine anyH_take 39 (v := ?_) rfl (by kernel_rfl) (by kernel_rfl) (by kernel_rfl) (fun _ _ _ h => h) (by rfl) hHeld ?_ ?_
    rotate_left
    · (intro w hSw; (try dsimp only at hSw); go_split_ands; go_simp; try with_reducible rfl)
    (try simp only [Act.put, List.setIfInBounds_toArray, List.set_cons_zero, List.set_cons_succ])
    refine anyH_take 40 (v := ?_) rfl (by kernel_rfl) (by kernel_rfl) (by kernel_rfl) (fun _ _ _ h => h) (by rfl) hHeld ?_ ?_
    rotate_left
    · (intro w hSw; (try dsimp only at hSw); go_split_ands; go_simp; try with_reducible rfl)
    (try simp only [Act.put, List.setIfInBounds_toArray, List.set_cons_zero, List.set_cons_succ])
    refine wpAnyH_done (by kernel_rfl) ?_ _
    go_wp2
    go_ret
    exact ⟨rfl, bThen HBV.out U15.out⟩
theorem probeRounds_walk (W : World) (C : ConfS) (cs : Array Value) (hC : Kd.conf.K W Any C cs.toList) (oC : okConf C) (E : EntryS) (es : Array Value) (hE : Kd.entry.K W Any E es.toList) (_oE : okEntry E) (l : List Nat) (v : Value) (hl : Kd.n64.slice.K W Any l [v]) (ol : (∀ y ∈ l, y < 2 ^ 64) ∧ l.length * 8 ≤ 140737488351232) :
    Calls Try.prog 4 #[.agg cs, .agg es, v] W fun e w' => e = .returned (.bool true) ∧ Below W.heap.size W w' := by
  obtain ⟨CA, ca, CB, cb, g0, g1, g2⟩ := conf_cells hC
  obtain ⟨EA, ea, EB, eb, ED, ed, h0, h1, h2, h3⟩ := entry_cells hE
  obtain rfl : cs = #[.int .i64 C.scheds, .int .i64 C.lease, .int .i64 C.again, .int .i64 C.room, .int .i64 C.out, .slice CA C.names.length ca, .slice CB C.workers.length cb] := by cases cs; simp_all
  obtain rfl : es = #[.int .i64 E.id, .int .i64 E.sched, .int .i64 E.epoch, .slice EA E.needs.length ea, .slice EB E.bound.length eb, .slice ED E.done.length ed] := by cases es; simp_all
  have hl' := hl
  obtain ⟨LA, lc, he, _⟩ := hl
  injection he with he _
  subst he
  exact probeRoundsLaw C CA CB ca cb E EA EB ED ea eb ed l LA lc W ⟨g1, g2, oC.2.1⟩ ⟨h1, h2, h3⟩ hl' ol.1
end Go.Proofs.Ytolckkckheiceaa
