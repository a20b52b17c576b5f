/- The law ProbeDistinct. -/
import Derived.Test.YtolckkckheiceaaLaw33
import Derived.Test.YtolckkckheiceaaLaw33P
import Derived.Deep.QuietTactic
import Derived.BigQuiet
namespace Go.Proofs.Ytolckkckheiceaa
open Go.RowKit

theorem erase_nodup : ∀ (l : List Int) (i : Nat) (x : Int), l.Nodup → l[i]? = some x → x ∉ l.eraseIdx i
  | [], _, _, _, h => by simp at h
  | a :: l, 0, x, hn, h => by
    simp only [List.getElem?_cons_zero, Option.some.injEq] at h
    subst h
    simpa using (List.nodup_cons.1 hn).1
  | a :: l, i + 1, x, hn, h => by
    rw [List.getElem?_cons_succ] at h
    rw [List.eraseIdx_cons_succ, List.mem_cons]
    rintro (rfl | h2)
    · exact (List.nodup_cons.1 hn).1 (List.mem_of_getElem? h)
    · exact erase_nodup l i x (List.nodup_cons.1 hn).2 h h2
theorem someS_spec : ∀ (f : Nat) (l : List Nat) (left : List Int) (k : Int) (out : List Int), left.Nodup → left.length ≤ f → 0 ≤ k - out.length →
    ∃ r, (someS f l left k out).1 = out ++ r ∧ r.Nodup ∧ (∀ x ∈ r, x ∈ left) ∧ (r.length : Int) = min (k - out.length) left.length
  | 0, l, left, k, out, hn, hf, hk => ⟨[], by simp [someS], List.nodup_nil, by simp, by
      have : left.length = 0 := by omega
      rw [this]; simp; omega⟩
  | f + 1, l, left, k, out, hn, hf, hk => by
    unfold someS
    split
    · rename_i h
      obtain ⟨h0, h1⟩ := h
      have hpos := List.length_pos_iff.2 h0
      have hi := drawB_lt (l := l) (n := left.length) (by omega)
      generalize (drawB l left.length).1 = i at hi
      generalize (drawB l left.length).2 = l2
      have hx : left[i]? = some (left.getD i 0) := by rw [List.getD_eq_getElem?_getD, List.getElem?_eq_getElem hi]; rfl
      generalize left.getD i 0 = x at hx
      have hl : (left.eraseIdx i).length = left.length - 1 := by rw [List.length_eraseIdx_of_lt hi]
      obtain ⟨r, e1, e2, e3, e4⟩ := someS_spec f l2 (left.eraseIdx i) k (out ++ [x]) (List.Nodup.sublist (List.eraseIdx_sublist _ _) hn) (by omega) (by simp; omega)
      refine ⟨x :: r, by rw [e1]; simp, List.nodup_cons.2 ⟨fun h => erase_nodup left i x hn hx (e3 x h), e2⟩, fun y hy => ?_, ?_⟩
      · rcases List.mem_cons.1 hy with rfl | hy
        · exact List.mem_of_getElem? hx
        · exact (List.eraseIdx_sublist _ _).subset (e3 y hy)
      · rw [List.length_append, hl] at e4
        simp only [List.length_cons, List.length_nil] at e4 ⊢
        omega
    · rename_i h
      refine ⟨[], by simp, List.nodup_nil, by simp, ?_⟩
      by_cases h0 : left = []
      · rw [h0]; simp; omega
      · have := List.length_pos_iff.2 h0
        have : ¬ (out.length : Int) < k := fun h1 => h ⟨h0, h1⟩
        simp; omega
theorem nodup_take : ∀ {l : List Int}, l.Nodup → ∀ {i : Nat} {x : Int}, l[i]? = some x → x ∉ l.take i
  | [], _, _, _, hx => by simp at hx
  | a :: l, h, 0, x, hx => by simp
  | a :: l, h, i + 1, x, hx => by
    rw [List.getElem?_cons_succ] at hx
    rw [List.take_succ_cons, List.mem_cons]
    rintro (rfl | h2)
    · exact (List.nodup_cons.1 h).1 (List.mem_of_getElem? hx)
    · exact nodup_take (List.nodup_cons.1 h).2 hx h2
theorem sorted_nodup {l : List Int} (h : l.Pairwise (· < ·)) : l.Nodup := List.Pairwise.imp (fun h => by omega) h
set_option maxHeartbeats 4000000 in
set_option maxRecDepth 100000 in
theorem probeDistinctLaw (C : ConfS) (CA CB : Option Addr) (ca cb : Nat) (E : EntryS) (EA EB ED : Option Addr) (ea eb ed : Nat) (l : List Nat) (LA : Option Addr) (lc : Nat) (w : World) (hC : CAt w C CA CB ca cb) (hE : EAt w E EA EB ED ea eb ed) (hl : Kd.n64.slice.K w Any l [.slice LA l.length lc]) (hl64 : ∀ x ∈ l, x < 2 ^ 64) :
    Calls Try.prog 3 #[.agg #[.int .i64 C.scheds, .int .i64 C.lease, .int .i64 C.again, .int .i64 C.room, .int .i64 C.out, .slice CA C.names.length ca, .slice CB C.workers.length cb], .agg #[.int .i64 E.id, .int .i64 E.sched, .int .i64 E.epoch, .slice EA E.needs.length ea, .slice EB E.bound.length eb, .slice ED E.done.length ed], .slice LA l.length lc] w fun e w' => e = .returned (.bool true) ∧ Below w.heap.size w w' := by
  obtain ⟨V, hV⟩ : ∃ V, V = (w.alloc (.cells #[.int .i64 C.scheds, .int .i64 C.lease, .int .i64 C.again, .int .i64 C.room, .int .i64 C.out, .slice CA C.names.length ca, .slice CB C.workers.length cb] 25)).alloc (.cells #[.int .i64 E.id, .int .i64 E.sched, .int .i64 E.epoch, .slice EA E.needs.length ea, .slice EB E.bound.length eb, .slice ED E.done.length ed] 29) := ⟨_, rfl⟩
  obtain ⟨hb0, hbc, hbe⟩ := confEntry_new C CA CB ca cb E EA EB ED ea eb ed w V hV hC hE
  have HBV := hid hb0
  have HBC := hid hbc
  have HBE := hid hbe
  have HV := hid hV
  have HLL := hid (Kd.n64.slice.mono (S' := fun b => b < V.heap.size) (fun _ _ h => h) (Kd.below hl hb0))
  have HLT := hid hl64
  have HE0 := hid (fun (u : World) (hb : Below V.heap.size V u) => entry_row ((HBE.out.below hb).2.1))
  obtain ⟨q, hq⟩ : ∃ q, q = l.length := ⟨_, rfl⟩
  have HQ := hid hq
  rw [← hq] at HLL ⊢
  have HS := hid (fun (u : World) (hb : Below V.heap.size V u) => show ((u.cell? ⟨w.heap.size, 0, none⟩ = some (.int .i64 C.scheds) ∧ u.cell? ⟨w.heap.size, 1, none⟩ = some (.int .i64 C.lease) ∧ u.cell? ⟨w.heap.size, 2, none⟩ = some (.int .i64 C.again) ∧ u.cell? ⟨w.heap.size, 3, none⟩ = some (.int .i64 C.room) ∧ u.cell? ⟨w.heap.size, 4, none⟩ = some (.int .i64 C.out) ∧ u.cell? ⟨w.heap.size, 5, none⟩ = some (.slice CA C.names.length ca) ∧ u.cell? ⟨w.heap.size, 6, none⟩ = some (.slice CB C.workers.length cb)) ∧ (u.cell? ⟨w.heap.size + 1, 0, none⟩ = some (.int .i64 E.id) ∧ u.cell? ⟨w.heap.size + 1, 1, none⟩ = some (.int .i64 E.sched) ∧ u.cell? ⟨w.heap.size + 1, 2, none⟩ = some (.int .i64 E.epoch) ∧ u.cell? ⟨w.heap.size + 1, 3, none⟩ = some (.slice EA E.needs.length ea) ∧ u.cell? ⟨w.heap.size + 1, 4, none⟩ = some (.slice EB E.bound.length eb) ∧ u.cell? ⟨w.heap.size + 1, 5, none⟩ = some (.slice ED E.done.length ed))) from ⟨(HBC.out.below hb).1, (HBE.out.below hb).1⟩)
  have HCA := hid (fun (u : World) (hb : Below V.heap.size V u) => show CAt u C CA CB ca cb from (HBC.out.below hb).2.1)
  have HEA := hid (fun (u : World) (hb : Below V.heap.size V u) => show EAt u E EA EB ED ea eb ed from (HBE.out.below hb).2.1)
  obtain ⟨⟨c0, c1, c2, c3, c4, c5, c6⟩, d0, d1, d2, d3, d4, d5⟩ := HS.out V (Below.refl _ _)
  clear hV hE hC hl hb0 hbc hbe hl64 hq
  go_enter Try.func3, Try.ntmps3
  go_wp2_with fail
  rw [← HV.out]
  refine (rlong14_calls C CA CB ca cb _ HBC.out.2.1.names).mono ?_
  rintro e w1 ⟨rfl, hb1⟩
  have HB1 := hid hb1
  clear hb1 c0 c1 c2 c3 c4 c5 c6 d0 d1 d2 d3 d4 d5
  obtain ⟨⟨c0, c1, c2, c3, c4, c5, c6⟩, d0, d1, d2, d3, d4, d5⟩ := HS.out w1 HB1.out
  have HLG := hid (show longC C = (longB C.names 40 100 || decide (80 < C.workers.length)) from rfl)
  obtain ⟨lg, hlg⟩ : ∃ lg, lg = longC C := ⟨_, rfl⟩
  rw [← hlg] at HLG ⊢
  clear hlg
  cases lg
  case true =>
    go_wp2_with fail
    refine (works33_calls _).mono ?_
    rintro e w2 ⟨rfl, hb2⟩
    go_wp2
    go_ret
    exact ⟨rfl, bThen (bThen HBV.out HB1.out) hb2⟩
  have HWL := hid (show C.workers.length ≤ 1000 by
    have := HLG.out.symm
    rw [Bool.or_eq_false_iff] at this
    have := of_decide_eq_false this.2
    omega)
  go_wp2_with fail
  refine (rlong20_calls [E] _ _ (HE0.out w1 HB1.out)).mono ?_
  rintro e w2 ⟨rfl, rfl⟩
  have HB2 := hid (bAlloc HB1.out (.cells #[.int .i64 E.id, .int .i64 E.sched, .int .i64 E.epoch, .slice EA E.needs.length ea, .slice EB E.bound.length eb, .slice ED E.done.length ed] 29))
  obtain ⟨le, hle⟩ : ∃ le, le = longEs [E] := ⟨_, rfl⟩
  have HLE := hid hle
  rw [← hle]
  clear hle
  cases le
  case true =>
    go_wp2_with fail
    refine (works33_calls _).mono ?_
    rintro e w2 ⟨rfl, hb2⟩
    go_wp2
    go_ret
    exact ⟨rfl, bThen (bThen HBV.out HB2.out) hb2⟩
  by_cases h100 : 100 < q
  · have h100I : (100 : Int) < (q : Int) := by omega
    go_wp2_with fail
    refine (works33_calls _).mono ?_
    rintro e w2 ⟨rfl, hb2⟩
    go_wp2
    go_ret
    exact ⟨rfl, bThen (bThen HBV.out HB2.out) hb2⟩
  have h100I : ¬ (100 : Int) < (q : Int) := by omega
  obtain ⟨W2, hW2⟩ : ∃ W2, W2 = w1.alloc (.cells #[.int .i64 E.id, .int .i64 E.sched, .int .i64 E.epoch, .slice EA E.needs.length ea, .slice EB E.bound.length eb, .slice ED E.done.length ed] 29) := ⟨_, rfl⟩
  rw [← hW2] at HB2
  obtain ⟨hnl, hbl, _, hsz⟩ := longEs_one HLE.out.symm
  have HNS := hid (show ∀ s ∈ E.needs, s.size ≤ 140737488351232 from fun s hs => by have := hsz s hs; omega)
  have HNS2 := hid (show ∀ s ∈ E.needs, s.size ≤ 1000 from fun s hs => by have := hsz s hs; omega)
  have HNS3 := hid (show ∀ s ∈ openT E, s.size * 24 ≤ 140737488351232 from fun s hs => by have := hsz s (openT_mem hs); omega)
  have HBL := hid (show E.bound.length ≤ 1000 by omega)
  have HNL := hid (show E.needs.length ≤ 1000 by omega)
  have HL2 := hid (show Kd.n64.slice.K W2 Any l [.slice LA q lc] from Kd.any (Kd.below HLL.out HB2.out))
  have HRL := hid (show (roundS C E l).1.length ≤ 64 from by have := someS_len 64 l (bitsN (anyS C.names C.workers (openT E)) 64) (2 * ((openL E).length : Nat)) []; simpa [roundS] using this)
  clear hnl hbl hsz
  clear c0 c1 c2 c3 c4 c5 c6 d0 d1 d2 d3 d4 d5
  have HW2 := hid hW2
  clear hW2
  go_wp2_with fail
  rw [← HW2.out]
  have c0 := HS.out W2.drew HB2.out.drew
  have U0 := hid HB2.out.drew
  have HL3 := hid (show Kd.n64.slice.K W2.drew Any l [.slice LA q lc] from Kd.below HL2.out (Below.refl _ W2).drew)
  refine wp_region_held_drew (S := fun w' => (w'.cell? ⟨w.heap.size, 0, none⟩ = some (.int .i64 C.scheds) ∧ w'.cell? ⟨w.heap.size, 1, none⟩ = some (.int .i64 C.lease) ∧ w'.cell? ⟨w.heap.size, 2, none⟩ = some (.int .i64 C.again) ∧ w'.cell? ⟨w.heap.size, 3, none⟩ = some (.int .i64 C.room) ∧ w'.cell? ⟨w.heap.size, 4, none⟩ = some (.int .i64 C.out) ∧ w'.cell? ⟨w.heap.size, 5, none⟩ = some (.slice CA C.names.length ca) ∧ w'.cell? ⟨w.heap.size, 6, none⟩ = some (.slice CB C.workers.length cb)) ∧ (w'.cell? ⟨w.heap.size + 1, 0, none⟩ = some (.int .i64 E.id) ∧ w'.cell? ⟨w.heap.size + 1, 1, none⟩ = some (.int .i64 E.sched) ∧ w'.cell? ⟨w.heap.size + 1, 2, none⟩ = some (.int .i64 E.epoch) ∧ w'.cell? ⟨w.heap.size + 1, 3, none⟩ = some (.slice EA E.needs.length ea) ∧ w'.cell? ⟨w.heap.size + 1, 4, none⟩ = some (.slice EB E.bound.length eb) ∧ w'.cell? ⟨w.heap.size + 1, 5, none⟩ = some (.slice ED E.done.length ed))) (by kernel_rfl) c0 (fun hHeld => ?_)
  refine anyH_take 0 (v := ?_) rfl (by kernel_rfl) (by kernel_rfl) (by kernel_rfl) (fun _ _ _ h => h) (by rfl) hHeld ?_ ?_
  rotate_left
  · (intro w hSw; (try dsimp only at hSw); go_split_ands; go_simp; try with_reducible rfl)
  (try simp only [Act.put, List.setIfInBounds_toArray, List.set_cons_zero, List.set_cons_succ])
  refine anyH_take 2 (v := ?_) rfl (by kernel_rfl) (by kernel_rfl) (by kernel_rfl) (fun _ _ _ h => h) (by rfl) hHeld ?_ ?_
  rotate_left
  · (intro w hSw; (try dsimp only at hSw); go_split_ands; go_simp; try with_reducible rfl)
  (try simp only [Act.put, List.setIfInBounds_toArray, List.set_cons_zero, List.set_cons_succ])
  refine anyH_take 3 (v := ?_) rfl (by kernel_rfl) (by kernel_rfl) (by kernel_rfl) (fun _ _ _ h => h) (by rfl) hHeld ?_ ?_
  rotate_left
  · (intro w hSw; (try dsimp only at hSw); go_split_ands; go_simp; try with_reducible rfl)
  (try simp only [Act.put, List.setIfInBounds_toArray, List.set_cons_zero, List.set_cons_succ])
  refine anyH_one 1 rfl (by kernel_rfl) (fun K hK => ?_)
  go_simp
  refine (tnew_calls l _ W2.drew HL3.out (by rw [← HQ.out]; omega) HLT.out).mono ?_
  rintro e w3 ⟨g, rfl, hT3, hb3⟩
  have HT3 := hid (hT3.mono (T' := fun k => W2.drew.heap.size ≤ k ∧ k < w3.heap.size) (fun k hk h => ⟨h, hk⟩))
  have U3 := hid (bThen U0.out hb3)
  have HGS := hid (show V.heap.size ≤ g from Nat.le_trans U0.out.size HT3.out.len.1.1)
  have c3 := HS.out w3 U3.out
  clear hT3 hb3
  go_simp
  refine hK.out _ _ c3 (fun hHeld => ?_)
  clear hK K
  (try simp only [Act.put, List.setIfInBounds_toArray, List.set_cons_zero, List.set_cons_succ])
  refine anyH_one 4 rfl (by kernel_rfl) (fun K hK => ?_)
  go_simp
  refine (probeRound_calls _ g l C CA CB ca cb E EA EB ED ea eb ed w3 HT3.out (fun b hb => hb.2) (HCA.out w3 U3.out) (HEA.out w3 U3.out) HBL.out HNS.out).mono ?_
  rintro e w4 ⟨v4, rfl, hO4, _, hM4⟩
  have U4 := hid (U3.out.trans ⟨hM4.os, hM4.tape, hM4.output, hM4.size, fun b hb => hM4.block b (Nat.lt_of_lt_of_le hb U3.out.size) (fun e => by have := HGS.out; omega)⟩)
  obtain ⟨A4, n4, c4', rfl, hn4, hq2⟩ := hO4.shape'
  have HO4 := hid (Kd.any hO4.K)
  have HN4 := hid hn4
  have c4 := HS.out w4 U4.out
  clear hO4 hM4 hn4 hq2
  go_simp
  refine hK.out _ _ c4 (fun hHeld => ?_)
  clear hK K
  (try simp only [Act.put, List.setIfInBounds_toArray, List.set_cons_zero, List.set_cons_succ])
  refine anyH_take 5 (v := ?_) rfl (by kernel_rfl) (by kernel_rfl) (by kernel_rfl) (fun _ _ _ h => h) (by rfl) hHeld ?_ ?_
  rotate_left
  · (intro w hSw; (try dsimp only at hSw); go_split_ands; go_simp; try with_reducible rfl)
  (try simp only [Act.put, List.setIfInBounds_toArray, List.set_cons_zero, List.set_cons_succ])
  refine wpAnyH_done (by kernel_rfl) ?_ _
  clear c0 c3 c4
  obtain ⟨⟨c0, c1, c2, c3, c4, c5, c6⟩, d0, d1, d2, d3, d4, d5⟩ := HS.out w4 U4.out
  go_wp2_with fail
  refine (ropen_calls E EA EB ED ea eb ed w4 (HEA.out w4 U4.out) HBL.out).mono ?_
  rintro e w5 ⟨v5, rfl, hO5, hb5⟩
  obtain ⟨A5, n5, c5', rfl, hn5, hq2⟩ := hO5.shape'
  have HO5 := hid (Kd.any hO5.K)
  have U5 := hid (bThen U4.out hb5)
  have HO45 := hid (Kd.below HO4.out hb5)
  have HN5 := hid hn5
  have hn5k : n5 ≤ 1000 := by have := openL_len E; have := HBL.out; omega
  clear hO5 hb5 hn5 hq2 c0 c1 c2 c3 c4 c5 c6 d0 d1 d2 d3 d4 d5
  obtain ⟨R, hR⟩ : ∃ R, R = roundS C E l := ⟨_, rfl⟩
  have HR := hid hR
  rw [← hR] at HO45 HN4 HRL
  clear hR
  have hn4k : n4 ≤ 64 := by have := HRL.out; have := HN4.out; omega
  go_wp2
  go_loopw [9, 10] (fun m i wr => ∃ k t : Nat, k ≤ n5 ∧ i = .int .i64 k ∧ m = .int .u64 t ∧ t < 2 ^ 64 ∧ Hid (t = anyS C.names C.workers (openTk E k)) ∧ Hid (Below V.heap.size V wr) ∧ Hid (I64.slice.K wr Any R.1 [.slice A4 n4 c4']) ∧ Hid (I64.slice.K wr Any (openL E) [.slice A5 n5 c5'])) (fun _ i _ => n5 - (intOf i).toNat)
  case atStart => exact ⟨0, 0, by omega, rfl, rfl, by decide, hid (by simp [openTk, anyS]), U5, HO45, HO5⟩
  case round =>
    obtain ⟨k, t, hk, rfl, rfl, ht, HTT, HB, HG, HO⟩ := hrel
    by_cases hlt : k < n5
    · have hltI : (k : Int) < (n5 : Int) := by omega
      obtain ⟨x, hx⟩ : ∃ x, (openL E)[k]? = some x := ⟨_, List.getElem?_eq_getElem (by rw [← HN5.out]; exact hlt)⟩
      obtain ⟨j, s, rfl, hjn, hs, hna⟩ := openL_get hx
      have HN := hid (openT_snoc hx)
      rw [hna] at HN
      have HSZ := hid (HNS2.out s (List.mem_of_getElem? hs))
      have HX := hid hx
      have HSS := hid hs
      obtain ⟨an, han⟩ : ∃ an, EA = some an := by
        obtain ⟨rb, _⟩ := K_row HBE.out.2.1.needs
        obtain ⟨an, _, h, _⟩ := rb.at_str j hjn
        exact ⟨an, h⟩
      obtain ⟨al, hal⟩ : ∃ al, A5 = some al := by
        obtain ⟨al, _, h, _⟩ := (K_row HO.out).1.at_int k (by rw [← HN5.out]; exact hlt)
        exact ⟨al, h⟩
      subst han
      subst hal
      have HQ2 := hid (fun (u : World) (hb : Below wr.heap.size wr u) => show ((u.cell? ⟨w.heap.size, 0, none⟩ = some (.int .i64 C.scheds) ∧ u.cell? ⟨w.heap.size, 1, none⟩ = some (.int .i64 C.lease) ∧ u.cell? ⟨w.heap.size, 2, none⟩ = some (.int .i64 C.again) ∧ u.cell? ⟨w.heap.size, 3, none⟩ = some (.int .i64 C.room) ∧ u.cell? ⟨w.heap.size, 4, none⟩ = some (.int .i64 C.out) ∧ u.cell? ⟨w.heap.size, 5, none⟩ = some (.slice CA C.names.length ca) ∧ u.cell? ⟨w.heap.size, 6, none⟩ = some (.slice CB C.workers.length cb)) ∧ u.cell? ⟨w.heap.size + 1, 3, none⟩ = some (.slice (some an) E.needs.length ea) ∧ u.cell? (al.add k) = some (.int .i64 j) ∧ u.cell? (an.add j) = some (.string s)) from by
        obtain ⟨⟨x0, x1, x2, x3, x4, x5, x6⟩, _, _, _, y3, _, _⟩ := HS.out u (bThen HB.out hb)
        obtain ⟨a, x, ha, hx, r0⟩ := (K_row (Kd.below HO.out hb)).1.at_int k (by rw [← HN5.out]; exact hlt)
        cases ha
        rw [HX.out] at hx
        obtain rfl := Option.some.inj hx
        obtain ⟨a2, s2, ha2, hs2, r1⟩ := (K_row (HEA.out u (bThen HB.out hb)).needs).1.at_str j hjn
        cases ha2
        rw [HSS.out] at hs2
        obtain rfl := Option.some.inj hs2
        exact ⟨⟨x0, x1, x2, x3, x4, x5, x6⟩, y3, r0, r1⟩)
      have hk0 : (0 : Int) ≤ (k : Int) := by omega
      have hjI : (j : Int) < (E.needs.length : Int) := by omega
      have hj0 : (0 : Int) ≤ (j : Int) := by omega
      have hor := or_num ht (setS_lt C.names C.workers s)
      have HN2 := hid (show t ||| setS C.names C.workers s = anyS C.names C.workers (openTk E (k + 1)) by rw [HN.out, anyS_snoc, ← HTT.out])
      have hlt2 : t ||| setS C.names C.workers s < 2 ^ 64 := Nat.or_lt_two_pow ht (setS_lt _ _ _)
      have q0 := HQ2.out wr.drew (Below.refl _ _).drew
      clear hx hs hna
      go_wp2_with fail
      refine wp_region_held_drew (S := fun w' => (w'.cell? ⟨w.heap.size, 0, none⟩ = some (.int .i64 C.scheds) ∧ w'.cell? ⟨w.heap.size, 1, none⟩ = some (.int .i64 C.lease) ∧ w'.cell? ⟨w.heap.size, 2, none⟩ = some (.int .i64 C.again) ∧ w'.cell? ⟨w.heap.size, 3, none⟩ = some (.int .i64 C.room) ∧ w'.cell? ⟨w.heap.size, 4, none⟩ = some (.int .i64 C.out) ∧ w'.cell? ⟨w.heap.size, 5, none⟩ = some (.slice CA C.names.length ca) ∧ w'.cell? ⟨w.heap.size, 6, none⟩ = some (.slice CB C.workers.length cb)) ∧ w'.cell? ⟨w.heap.size + 1, 3, none⟩ = some (.slice (some an) E.needs.length ea) ∧ w'.cell? (al.add k) = some (.int .i64 j) ∧ w'.cell? (an.add j) = some (.string s)) (by kernel_rfl) q0 (fun hHeld => ?_)
      refine anyH_take 0 (v := ?_) rfl (by kernel_rfl) (by kernel_rfl) (by kernel_rfl) (fun _ _ _ h => h) (by rfl) hHeld ?_ ?_
      rotate_left
      · (intro w hSw; (try dsimp only at hSw); go_split_ands; go_simp; try with_reducible rfl)
      (try simp only [Act.put, List.setIfInBounds_toArray, List.set_cons_zero, List.set_cons_succ])
      refine anyH_take 1 (v := ?_) rfl (by kernel_rfl) (by kernel_rfl) (by kernel_rfl) (fun _ _ _ h => h) (by rfl) hHeld ?_ ?_
      rotate_left
      · (intro w hSw; (try dsimp only at hSw); go_split_ands; go_simp; try with_reducible rfl)
      (try simp only [Act.put, List.setIfInBounds_toArray, List.set_cons_zero, List.set_cons_succ])
      refine anyH_take 2 (v := ?_) rfl (by kernel_rfl) (by kernel_rfl) (by kernel_rfl) (fun _ _ _ h => h) (by rfl) hHeld ?_ ?_
      rotate_left
      · (intro w hSw; (try dsimp only at hSw); go_split_ands; go_simp; try with_reducible rfl)
      (try simp only [Act.put, List.setIfInBounds_toArray, List.set_cons_zero, List.set_cons_succ])
      refine anyH_take 3 (v := ?_) rfl (by kernel_rfl) (by kernel_rfl) (by kernel_rfl) (fun _ _ _ h => h) (by rfl) hHeld ?_ ?_
      rotate_left
      · (intro w hSw; (try dsimp only at hSw); go_split_ands; go_simp; try with_reducible rfl)
      (try simp only [Act.put, List.setIfInBounds_toArray, List.set_cons_zero, List.set_cons_succ])
      refine anyH_take 4 (v := ?_) rfl (by kernel_rfl) (by kernel_rfl) (by kernel_rfl) (fun _ _ _ h => h) (by rfl) hHeld ?_ ?_
      rotate_left
      · (intro w hSw; (try dsimp only at hSw); go_split_ands; go_simp; try with_reducible rfl)
      (try simp only [Act.put, List.setIfInBounds_toArray, List.set_cons_zero, List.set_cons_succ])
      refine anyH_take 5 (v := ?_) rfl (by kernel_rfl) (by kernel_rfl) (by kernel_rfl) (fun _ _ _ h => h) (by rfl) hHeld ?_ ?_
      rotate_left
      · (intro w hSw; (try dsimp only at hSw); go_split_ands; go_simp; try with_reducible rfl)
      (try simp only [Act.put, List.setIfInBounds_toArray, List.set_cons_zero, List.set_cons_succ])
      refine anyH_take 6 (v := ?_) rfl (by kernel_rfl) (by kernel_rfl) (by kernel_rfl) (fun _ _ _ h => h) (by rfl) hHeld ?_ ?_
      rotate_left
      · (intro w hSw; (try dsimp only at hSw); go_split_ands; go_simp; try with_reducible rfl)
      (try simp only [Act.put, List.setIfInBounds_toArray, List.set_cons_zero, List.set_cons_succ])
      refine anyH_take 7 (v := ?_) rfl (by kernel_rfl) (by kernel_rfl) (by kernel_rfl) (fun _ _ _ h => h) (by rfl) hHeld ?_ ?_
      rotate_left
      · (intro w hSw; (try dsimp only at hSw); go_split_ands; go_simp; try with_reducible rfl)
      (try simp only [Act.put, List.setIfInBounds_toArray, List.set_cons_zero, List.set_cons_succ])
      refine anyH_take 8 (v := ?_) rfl (by kernel_rfl) (by kernel_rfl) (by kernel_rfl) (fun _ _ _ h => h) (by rfl) hHeld ?_ ?_
      rotate_left
      · (intro w hSw; (try dsimp only at hSw); go_split_ands; go_simp; try with_reducible rfl)
      (try simp only [Act.put, List.setIfInBounds_toArray, List.set_cons_zero, List.set_cons_succ])
      refine anyH_take 9 (v := ?_) rfl (by kernel_rfl) (by kernel_rfl) (by kernel_rfl) (fun _ _ _ h => h) (by rfl) hHeld ?_ ?_
      rotate_left
      · (intro w hSw; (try dsimp only at hSw); go_split_ands; go_simp; try with_reducible rfl)
      (try simp only [Act.put, List.setIfInBounds_toArray, List.set_cons_zero, List.set_cons_succ])
      refine anyH_one 10 rfl (by kernel_rfl) (fun K hK => ?_)
      go_simp
      have HCW := hid (HCA.out wr.drew HB.out.drew)
      refine (rset15_calls C.names C.workers s C.scheds C.lease C.again C.room C.out _ _ wr.drew HCW.out.names HCW.out.workers HCW.out.attrs (by have := HSZ.out; omega) (by have := HWL.out; omega)).mono ?_
      rintro e w6 ⟨rfl, hb6⟩
      have hbd := (Below.refl wr.heap.size wr).drew.trans hb6
      have UB := hid (bThen HB.out hbd)
      have HG6 := hid (Kd.below HG.out hbd)
      have HO6 := hid (Kd.below HO.out hbd)
      have q1 := HQ2.out w6 hbd
      generalize setS C.names C.workers s = z at *
      clear hb6 hbd
      go_simp
      refine hK.out _ _ q1 (fun hHeld => ?_)
      clear hK K
      (try simp only [Act.put, List.setIfInBounds_toArray, List.set_cons_zero, List.set_cons_succ])
      refine anyH_take 11 (v := ?_) rfl (by kernel_rfl) (by kernel_rfl) (by kernel_rfl) (fun _ _ _ h => h) (by rfl) hHeld ?_ ?_
      rotate_left
      · (intro w hSw; (try dsimp only at hSw); go_split_ands; go_simp; try with_reducible rfl)
      (try simp only [Act.put, List.setIfInBounds_toArray, List.set_cons_zero, List.set_cons_succ])
      refine anyH_take 12 (v := ?_) rfl (by kernel_rfl) (by kernel_rfl) (by kernel_rfl) (fun _ _ _ h => h) (by rfl) hHeld ?_ ?_
      rotate_left
      · (intro w hSw; (try dsimp only at hSw); go_split_ands; go_simp; try with_reducible rfl)
      (try simp only [Act.put, List.setIfInBounds_toArray, List.set_cons_zero, List.set_cons_succ])
      refine wpAnyH_done (by kernel_rfl) ?_ _
      go_wp2
      go_roundw
      case rel => first | exact ⟨k + 1, t ||| z, by omega, by go_num, rfl, hlt2, HN2, UB, HG6, HO6⟩ | ((repeat apply Exists.intro); exact ⟨⟨k + 1, t ||| z, by omega, by go_num, rfl, hlt2, HN2, UB, HG6, HO6⟩, rfl⟩)
      case measure => simp [intOf]; omega
    · obtain rfl : k = n5 := by omega
      have HTE := hid (show t = anyS C.names C.workers (openT E) by rw [HTT.out]; unfold openTk openT; rw [List.take_of_length_le (by rw [← HN5.out]; exact Nat.le_refl _)])
      obtain ⟨r, e1, e2, e3, e4⟩ := someS_spec 64 l (bitsN t 64) (2 * ((openL E).length : Nat)) [] (sorted_nodup (bitsN_sorted t 64)) (bitsN_len t 64) (by simp; omega)
      have HR1 := hid (show R.1 = r by rw [HR.out, roundS, ← HTE.out, e1]; simp)
      rw [HR1.out] at HG HN4
      have HE2 := hid e2
      have HE3 := hid e3
      have HE4 := hid e4
      clear e1 e2 e3 e4
      go_wp2
      go_loopw [11] (fun i wr => ∃ k : Nat, k ≤ n4 ∧ i = .int .i64 k ∧ Hid (Below V.heap.size V wr) ∧ Hid (I64.slice.K wr Any r [.slice A4 n4 c4'])) (fun i _ => n4 - (intOf i).toNat)
      case atStart => exact ⟨0, by omega, rfl, HB, HG⟩
      case round =>
        obtain ⟨i, hi, rfl, HBi, HGi⟩ := hrel
        by_cases hlt : i < n4
        · have hltI : (i : Int) < (n4 : Int) := by omega
          have hi0 : (0 : Int) ≤ (i : Int) := by omega
          obtain ⟨a, x, rfl, hx, r0⟩ := (K_row HGi.out).1.at_int i (by rw [← HN4.out]; exact hlt)
          have HX := hid hx
          have HIN := hid (decide_eq_false (nodup_take HE2.out hx))
          have HHAS := hid (show hasB t x = true from by
            have := (bitsN_mem t x 64).1 (HE3.out x (List.mem_of_getElem? hx))
            obtain ⟨j, rfl⟩ : ∃ j : Nat, x = (j : Int) := ⟨x.toNat, by omega⟩
            rw [← hasB_tree, hasB_nat t j (by omega)]
            simpa using this.2.2)
          have hcc := (K_row HGi.out).2
          rw [← HN4.out] at hcc
          have hcI : (i : Int) ≤ (c4' : Int) := by omega
          have hwi : IntKind.i64.wrap (i : Int) = i := IntWalk.i64_in _ (by omega)
          have HTK := hid (show ∀ u : World, Below wr.heap.size wr u → I64.slice.K u Any (r.take i) [.slice (some a) i c4'] from by
            intro u hb
            have h1 := (K_row (Kd.below HGi.out hb)).1.take i
            have hl : (r.take i).length = i := by rw [List.length_take]; have := HN4.out; omega
            exact ⟨some a, c4', by rw [hl], by rw [hl]; omega, by rw [hl]; omega, h1⟩)
          have HRC := hid (fun (u : World) (hb : Below wr.heap.size wr u) => show u.cell? (a.add i) = some (.int .i64 x) from by
            obtain ⟨a', x', ha, hx', r0⟩ := (K_row (Kd.below HGi.out hb)).1.at_int i (by rw [← HN4.out]; exact hlt)
            cases ha
            rw [HX.out] at hx'
            obtain rfl := Option.some.inj hx'
            exact r0)
          have q0 := HRC.out wr.drew (Below.refl _ _).drew
          clear hx
          go_wp2_with fail
          refine wp_region_held_drew (S := fun w' => w'.cell? (a.add i) = some (.int .i64 x)) (by kernel_rfl) q0 (fun hHeld => ?_)
          refine anyH_take 0 (v := ?_) rfl (by kernel_rfl) (by kernel_rfl) (by kernel_rfl) (fun _ _ _ h => h) (by rfl) hHeld ?_ ?_
          rotate_left
          · (intro w hSw; (try dsimp only at hSw); go_split_ands; go_simp; try with_reducible rfl)
          (try simp only [Act.put, List.setIfInBounds_toArray, List.set_cons_zero, List.set_cons_succ])
          refine anyH_take 1 (v := ?_) rfl (by kernel_rfl) (by kernel_rfl) (by kernel_rfl) (fun _ _ _ h => h) (by rfl) hHeld ?_ ?_
          rotate_left
          · (intro w hSw; (try dsimp only at hSw); go_split_ands; go_simp; try with_reducible rfl)
          (try simp only [Act.put, List.setIfInBounds_toArray, List.set_cons_zero, List.set_cons_succ])
          refine anyH_take 2 (v := ?_) rfl (by kernel_rfl) (by kernel_rfl) (by kernel_rfl) (fun _ _ _ h => h) (by rfl) hHeld ?_ ?_
          rotate_left
          · (intro w hSw; (try dsimp only at hSw); go_split_ands; go_simp; try with_reducible rfl)
          (try simp only [Act.put, List.setIfInBounds_toArray, List.set_cons_zero, List.set_cons_succ])
          refine anyH_take 3 (v := ?_) rfl (by kernel_rfl) (by kernel_rfl) (by kernel_rfl) (fun _ _ _ h => h) (by rfl) hHeld ?_ ?_
          rotate_left
          · (intro w hSw; (try dsimp only at hSw); go_split_ands; go_simp; try with_reducible rfl)
          (try simp only [Act.put, List.setIfInBounds_toArray, List.set_cons_zero, List.set_cons_succ])
          refine anyH_take 4 (v := ?_) rfl (by kernel_rfl) (by kernel_rfl) (by kernel_rfl) (fun _ _ _ h => h) (by rfl) hHeld ?_ ?_
          rotate_left
          · (intro w hSw; (try dsimp only at hSw); go_split_ands; go_simp; try with_reducible rfl)
          (try simp only [Act.put, List.setIfInBounds_toArray, List.set_cons_zero, List.set_cons_succ])
          refine anyH_one 5 rfl (by kernel_rfl) (fun K hK => ?_)
          go_simp
          refine (rhas_calls t x wr.drew ht).mono ?_
          rintro e w6 ⟨rfl, hw6⟩
          subst hw6
          rw [HHAS.out]
          go_simp
          refine hK.out _ _ q0 (fun hHeld => ?_)
          clear hK K
          (try simp only [Act.put, List.setIfInBounds_toArray, List.set_cons_zero, List.set_cons_succ])
          refine anyH_take 6 (v := ?_) rfl (by kernel_rfl) (by kernel_rfl) (by kernel_rfl) (fun _ _ _ h => h) (by rfl) hHeld ?_ ?_
          rotate_left
          · (intro w hSw; (try dsimp only at hSw); go_split_ands; go_simp; try with_reducible rfl)
          (try simp only [Act.put, List.setIfInBounds_toArray, List.set_cons_zero, List.set_cons_succ])
          refine anyH_take 7 (v := ?_) rfl (by kernel_rfl) (by kernel_rfl) (by kernel_rfl) (fun _ _ _ h => h) (by rfl) hHeld ?_ ?_
          rotate_left
          · (intro w hSw; (try dsimp only at hSw); go_split_ands; go_simp; try with_reducible rfl)
          (try simp only [Act.put, List.setIfInBounds_toArray, List.set_cons_zero, List.set_cons_succ])
          refine anyH_take 8 (v := ?_) rfl (by kernel_rfl) (by kernel_rfl) (by kernel_rfl) (fun _ _ _ h => h) (by rfl) hHeld ?_ ?_
          rotate_left
          · (intro w hSw; (try dsimp only at hSw); go_split_ands; go_simp; try with_reducible rfl)
          (try simp only [Act.put, List.setIfInBounds_toArray, List.set_cons_zero, List.set_cons_succ])
          refine anyH_take 9 (v := ?_) rfl (by kernel_rfl) (by kernel_rfl) (by kernel_rfl) (fun _ _ _ h => h) (by rfl) hHeld ?_ ?_
          rotate_left
          · (intro w hSw; (try dsimp only at hSw); go_split_ands; go_simp; try with_reducible rfl)
          (try simp only [Act.put, List.setIfInBounds_toArray, List.set_cons_zero, List.set_cons_succ])
          refine anyH_take 10 (v := ?_) rfl (by kernel_rfl) (by kernel_rfl) (by kernel_rfl) (fun _ _ _ h => h) (by rfl) hHeld ?_ ?_
          rotate_left
          · (intro w hSw; (try dsimp only at hSw); go_split_ands; go_simp; try with_reducible rfl)
          (try simp only [Act.put, List.setIfInBounds_toArray, List.set_cons_zero, List.set_cons_succ])
          refine anyH_take 11 (v := ?_) rfl (by kernel_rfl) (by kernel_rfl) (by kernel_rfl) (fun _ _ _ h => h) (by rfl) hHeld ?_ ?_
          rotate_left
          · (intro w hSw; (try dsimp only at hSw); go_split_ands; go_simp; try with_reducible rfl)
          (try simp only [Act.put, List.setIfInBounds_toArray, List.set_cons_zero, List.set_cons_succ])
          refine anyH_take 12 (v := ?_) rfl (by kernel_rfl) (by kernel_rfl) (by kernel_rfl) (fun _ _ _ h => h) (by rfl) hHeld ?_ ?_
          rotate_left
          · (intro w hSw; (try dsimp only at hSw); go_split_ands; go_simp; try with_reducible rfl)
          (try simp only [Act.put, List.setIfInBounds_toArray, List.set_cons_zero, List.set_cons_succ])
          refine anyH_take 13 (v := ?_) rfl (by kernel_rfl) (by kernel_rfl) (by kernel_rfl) (fun _ _ _ h => h) (by rfl) hHeld ?_ ?_
          rotate_left
          · (intro w hSw; (try dsimp only at hSw); go_split_ands; go_simp; try with_reducible rfl)
          (try simp only [Act.put, List.setIfInBounds_toArray, List.set_cons_zero, List.set_cons_succ])
          refine anyH_take 14 (v := ?_) rfl (by kernel_rfl) (by kernel_rfl) (by kernel_rfl) (fun _ _ _ h => h) (by rfl) hHeld ?_ ?_
          rotate_left
          · (intro w hSw; (try dsimp only at hSw); go_split_ands; go_simp; try with_reducible rfl)
          (try simp only [Act.put, List.setIfInBounds_toArray, List.set_cons_zero, List.set_cons_succ])
          refine anyH_one 15 rfl (by kernel_rfl) (fun K hK => ?_)
          go_simp
          refine (rin_calls (r.take i) x _ wr.drew (HTK.out wr.drew (Below.refl _ _).drew)).mono ?_
          rintro e w6 ⟨rfl, hw6⟩
          subst hw6
          rw [HIN.out]
          go_simp
          refine hK.out _ _ q0 (fun hHeld => ?_)
          clear hK K
          (try simp only [Act.put, List.setIfInBounds_toArray, List.set_cons_zero, List.set_cons_succ])
          refine anyH_take 16 (v := ?_) rfl (by kernel_rfl) (by kernel_rfl) (by kernel_rfl) (fun _ _ _ h => h) (by rfl) hHeld ?_ ?_
          rotate_left
          · (intro w hSw; (try dsimp only at hSw); go_split_ands; go_simp; try with_reducible rfl)
          (try simp only [Act.put, List.setIfInBounds_toArray, List.set_cons_zero, List.set_cons_succ])
          refine wpAnyH_done (by kernel_rfl) ?_ _
          go_wp2
          go_roundw
          case rel => first | exact ⟨i + 1, by omega, by go_num, hid HBi.out.drew, hid (Kd.below HGi.out (Below.refl _ _).drew)⟩ | ((repeat apply Exists.intro); exact ⟨⟨i + 1, by omega, by go_num, hid HBi.out.drew, hid (Kd.below HGi.out (Below.refl _ _).drew)⟩, rfl⟩)
          case measure => simp [intOf]; omega
        · obtain rfl : i = n4 := by omega
          have hw2 : IntKind.i64.wrap (2 * (k : Int)) = 2 * (k : Int) := IntWalk.i64_in _ (by omega)
          obtain ⟨p, hp⟩ : ∃ p, p = (bitsN t 64).length := ⟨_, rfl⟩
          have hmin : min (2 * (k : Int)) (p : Int) = (i : Int) := by
            have := HE4.out
            rw [← HN4.out, ← HN5.out, ← hp] at this
            simp at this; omega
          have hii : ((i : Int) == (i : Int)) = true := beq_self_eq_true _
          have HP := hid hp
          clear hp
          go_wp2_with fail
          refine (rlist_calls t wr ht).mono ?_
          rintro e w6 ⟨v6, rfl, hO6, hb6⟩
          obtain ⟨A6, n6, c6', rfl, hn6, hq6⟩ := hO6.shape'
          have hnp : (n6 : Int) = (p : Int) := by rw [hn6, HP.out]
          have HB6 := hid (bThen HBi.out hb6)
          clear hO6 hb6 hn6 hq6
          rw [← hnp] at hmin
          clear hnp
          go_wp2_with fail
          refine (works33_calls _).mono ?_
          rintro e w7 ⟨rfl, hb7⟩
          go_wp2
          go_ret
          exact ⟨rfl, bThen (bThen HBV.out HB6.out) hb7⟩
theorem probeDistinct_walk (W : World) (C : ConfS) (cs : Array Value) (hC : Kd.conf.K W Any C cs.toList) (oC : okConf C) (E : EntryS) (es : Array Value) (hE : Kd.entry.K W Any E es.toList) (_oE : okEntry E) (l : List Nat) (v : Value) (hl : Kd.n64.slice.K W Any l [v]) (ol : (∀ y ∈ l, y < 2 ^ 64) ∧ l.length * 8 ≤ 140737488351232) :
    Calls Try.prog 3 #[.agg cs, .agg es, v] W fun e w' => e = .returned (.bool true) ∧ Below W.heap.size W w' := by
  obtain ⟨CA, ca, CB, cb, g0, g1, g2⟩ := conf_cells hC
  obtain ⟨EA, ea, EB, eb, ED, ed, h0, h1, h2, h3⟩ := entry_cells hE
  obtain rfl : cs = #[.int .i64 C.scheds, .int .i64 C.lease, .int .i64 C.again, .int .i64 C.room, .int .i64 C.out, .slice CA C.names.length ca, .slice CB C.workers.length cb] := by cases cs; simp_all
  obtain rfl : es = #[.int .i64 E.id, .int .i64 E.sched, .int .i64 E.epoch, .slice EA E.needs.length ea, .slice EB E.bound.length eb, .slice ED E.done.length ed] := by cases es; simp_all
  have hl' := hl
  obtain ⟨LA, lc, he, _⟩ := hl
  injection he with he _
  subst he
  exact probeDistinctLaw C CA CB ca cb E EA EB ED ea eb ed l LA lc W ⟨g1, g2, oC.2.1⟩ ⟨h1, h2, h3⟩ hl' ol.1
end Go.Proofs.Ytolckkckheiceaa
