/- siskinref34.Pending, May, Pick, All; siskinref32.Outs; siskinref06.Same. -/
import Derived.Test.YteijgeofimcijaaRef34
namespace Go.Proofs.Yteijgeofimcijaa
open Go.RowKit

theorem pend_left {E : EntryS} {wk : Int} {had : List Bool} {k : Nat} {x : Int} (hx : E.bound[k]? = some x) (h0 : 0 ≤ x) : pendB E wk had k = (leftB E had k && decide (x - 1 = wk)) := by
  unfold pendB leftB
  rw [hx]
  simp only [Option.getD_some]
  rw [Bool.eq_iff_iff]
  simp only [Bool.and_eq_true, decide_eq_true_iff]
  constructor
  · rintro ⟨⟨⟨h1, h2⟩, h3⟩, h4⟩; exact ⟨⟨⟨by omega, h3⟩, h4⟩, h2⟩
  · rintro ⟨⟨⟨h1, h2⟩, h3⟩, h4⟩; exact ⟨⟨⟨by omega, h4⟩, h2⟩, h3⟩
set_option maxHeartbeats 4000000 in
set_option maxRecDepth 100000 in
theorem rpending_calls (E : EntryS) (EA EB ED : Option Addr) (ea eb ed : Nat) (wk : Int) (had : List Bool) (hv : Value) (w : World) (hE : EAt w E EA EB ED ea eb ed) (hh : Kd.bool.slice.K w Any had [hv]) (hbl : E.bound.length ≤ 1000) (hbd : BoundOk E) :
    Calls Try.prog 51 #[.agg #[.int .i64 E.id, .int .i64 E.sched, .int .i64 E.epoch, .slice EA E.needs.length ea, .slice EB E.bound.length eb, .slice ED E.done.length ed], .int .i64 wk, hv] w fun e w' => ∃ v, e = .returned v ∧ Own I64 3 w' w.heap.size NoT v (pendL E wk had) ∧ Below w.heap.size w w' := by
  obtain ⟨V, hV⟩ : ∃ V, V = w.alloc (.cells #[.int .i64 E.id, .int .i64 E.sched, .int .i64 E.epoch, .slice EA E.needs.length ea, .slice EB E.bound.length eb, .slice ED E.done.length ed] 74) := ⟨_, rfl⟩
  obtain ⟨hb0, hbx⟩ := rowBox w E EA EB ED ea eb ed V hV hE
  have HBV := hid hb0
  have HBX := hid hbx
  have HV := hid hV
  have HBD := hid hbd
  have HHD := hid (Kd.below hh hb0)
  have htl := tasks_le E hbl
  obtain ⟨Ah, ch, he, _, _, _⟩ := hh
  injection he with he _
  subst he
  obtain ⟨n, hn⟩ : ∃ n, n = tasksN E := ⟨_, rfl⟩
  have HNN := hid hn
  rw [← hn] at htl
  have HRB := hid (K_row HBX.out.2.1.bound).1
  clear hV hE hb0 hn hbx hbd
  go_enter Try.func51, Try.ntmps51
  go_wp2
  rw [← HV.out]
  go_loopw [7, 8] (fun o i wr => ∃ k : Nat, k ≤ n ∧ i = .int .i64 k ∧ Hid (Own I64 3 wr V.heap.size NoT o (whereN (pendB E wk had) k)) ∧ Hid (Below V.heap.size V wr)) (fun _ i _ => n - (intOf i).toNat)
  case atStart => exact ⟨0, by omega, rfl, Own.nil _ _ _ _ _, Below.refl _ _⟩
  case round =>
    obtain ⟨k, hk, rfl, HO, HB⟩ := hrel
    obtain ⟨A3, n3, c3', rfl, hq1, hq2⟩ := HO.out.shape'
    obtain ⟨⟨d0, d1, d2, d3, d4, d5⟩, dE, _⟩ := HBX.out.below HB.out
    have HDE := hid dE
    clear hq1 hq2 dE
    go_wp2_with fail
    refine (rtasks_calls E EA EB ED ea eb ed wr).mono ?_
    rintro e w1 ⟨rfl, hb1⟩
    rw [← HNN.out]
    have HB1 := hid (bThen HB.out hb1)
    have HO1 := hid (HO.out.below hb1)
    have HDE1 := hid (HDE.out.below hb1)
    obtain ⟨⟨g0, g1, g2, g3, g4, g5⟩, _, _⟩ := HBX.out.below HB1.out
    clear hb1 d0 d1 d2 d3 d4 d5
    by_cases hlt : k < n
    · have hltI : (k : Int) < (n : Int) := by omega
      have hkt : k < tasksN E := by rw [← HNN.out]; exact hlt
      obtain ⟨t1, t2, t3⟩ := tasks_lt hkt
      have HKT := hid hkt
      have HT2 := hid t2
      clear t1 t2 t3 hkt
      go_wp2_with fail
      refine (rleft_calls E EA EB ED ea eb ed had _ k w1 HDE1.out (Kd.below HHD.out HB1.out) HKT.out).mono ?_
      rintro e w2 ⟨rfl, hb2⟩
      have HB2 := hid (bThen HB1.out hb2)
      have HO2 := hid (HO1.out.below hb2)
      obtain ⟨⟨d0, d1, d2, d3, d4, d5⟩, _, _⟩ := HBX.out.below HB2.out
      clear hb2 g0 g1 g2 g3 g4 g5
      obtain ⟨a, x, rfl, hx, r0⟩ := (HRB.out.below HB2.out).at_int k HT2.out
      have hx64 := HBD.out x (List.mem_of_getElem? hx)
      have HPE := hid (pend_left (wk := wk) (had := had) hx hx64.1)
      have hwx : IntKind.i64.wrap (x - 1) = x - 1 := IntWalk.i64_in _ (by omega)
      have i2 : (k : Int) < (E.bound.length : Int) := by have := HT2.out; omega
      have hk0 : (0 : Int) ≤ (k : Int) := by omega
      have hln := whereN_len (pendB E wk had) k
      clear hx
      obtain ⟨lf, hlf⟩ : ∃ lf, lf = leftB E had k := ⟨_, rfl⟩
      rw [← hlf] at HPE ⊢
      clear hlf
      cases lf
      case false =>
        have HN := hid (show whereN (pendB E wk had) (k + 1) = whereN (pendB E wk had) k by rw [whereN, if_neg (by rw [HPE.out]; simp)])
        go_wp2
        go_roundw
        case rel => first | exact ⟨k + 1, by omega, by go_num, by rw [HN.out]; exact HO2.out, HB2.out⟩ | ((repeat apply Exists.intro); exact ⟨⟨k + 1, by omega, by go_num, by rw [HN.out]; exact HO2.out, HB2.out⟩, rfl⟩)
        case measure => simp [intOf]; omega
      by_cases hxw : x - 1 = wk
      · have hb : (x - 1 == wk) = true := by rw [beq_iff_eq]; exact hxw
        have HN := hid (show whereN (pendB E wk had) (k + 1) = whereN (pendB E wk had) k ++ [(k : Int)] by rw [whereN, if_pos (by rw [HPE.out, decide_eq_true hxw]; rfl)])
        clear hxw
        have hO := HO2.out
        have hB := HB2.out
        go_wp2_with (at_builtin; go_must (refine append_arm I64 (w0 := V) V.heap.size rfl _ _ 71 3 _ 8 rfl Try.underlying71 Try.infoInt rfl (by decide) (by decide) (.slice A3 n3 c3') (whereN (pendB E wk had) k) (k : Int) [.int .i64 k] NoT NoT rfl rfl rfl (fun _ h => h.elim) hO hB hB.size (by omega) ?_))
        intro v1 w3 hO1 hb1 _ _
        go_wp2
        go_roundw
        case rel => first | exact ⟨k + 1, by omega, by go_num, by rw [HN.out]; exact hO1, hb1⟩ | ((repeat apply Exists.intro); exact ⟨⟨k + 1, by omega, by go_num, by rw [HN.out]; exact hO1, hb1⟩, rfl⟩)
        case measure => simp [intOf]; omega
      · have hb : (x - 1 == wk) = false := by rw [beq_eq_false_iff_ne]; exact hxw
        have HN := hid (show whereN (pendB E wk had) (k + 1) = whereN (pendB E wk had) k by rw [whereN, if_neg (by rw [HPE.out, decide_eq_false hxw]; decide)])
        clear hxw
        go_wp2
        go_roundw
        case rel => first | exact ⟨k + 1, by omega, by go_num, by rw [HN.out]; exact HO2.out, HB2.out⟩ | ((repeat apply Exists.intro); exact ⟨⟨k + 1, by omega, by go_num, by rw [HN.out]; exact HO2.out, HB2.out⟩, rfl⟩)
        case measure => simp [intOf]; omega
    · obtain rfl : k = n := by omega
      have HF := hid (show whereN (pendB E wk had) k = pendL E wk had by unfold pendL; rw [← HNN.out])
      go_wp2
      go_ret
      exact ⟨_, rfl, by rw [← HF.out]; exact HO1.out.lower HBV.out.size, bThen HBV.out HB1.out⟩
set_option maxHeartbeats 4000000 in
set_option maxRecDepth 100000 in
theorem rmay34_calls (C : ConfS) (CA CB : Option Addr) (ca cb : Nat) (E : EntryS) (EA EB ED : Option Addr) (ea eb ed : Nat) (wk i : Int) (w : World) (hC : CAt w C CA CB ca cb) (hE : EAt w E EA EB ED ea eb ed) (hbl : E.bound.length ≤ 1000) (hns : ∀ s ∈ E.needs, s.size * 24 ≤ 140737488351232) (hwl : C.workers.length ≤ 1000000) :
    Calls Try.prog 49 #[.agg #[.int .i64 C.scheds, .int .i64 C.lease, .int .i64 C.again, .int .i64 C.room, .int .i64 C.out, .slice CA C.names.length ca, .slice CB C.workers.length cb], .agg #[.int .i64 E.id, .int .i64 E.sched, .int .i64 E.epoch, .slice EA E.needs.length ea, .slice EB E.bound.length eb, .slice ED E.done.length ed], .int .i64 wk, .int .i64 i] w fun e w' => e = .returned (.bool (mayB C E wk i)) ∧ Below w.heap.size w w' := by
  obtain ⟨V, hV⟩ : ∃ V, V = (w.alloc (.cells #[.int .i64 C.scheds, .int .i64 C.lease, .int .i64 C.again, .int .i64 C.room, .int .i64 C.out, .slice CA C.names.length ca, .slice CB C.workers.length cb] 56)).alloc (.cells #[.int .i64 E.id, .int .i64 E.sched, .int .i64 E.epoch, .slice EA E.needs.length ea, .slice EB E.bound.length eb, .slice ED E.done.length ed] 74) := ⟨_, rfl⟩
  have hb0 : Below w.heap.size w V := by rw [hV]; exact bAlloc (bAlloc (Below.refl _ _) _) _
  have HBV := hid hb0
  have HBC := hid (boxC_of (b := w.heap.size) (by rw [hV, Below.heap_alloc _ _ _ (by simp)]; exact heap_at rfl) (hC.below hb0))
  have HBE := hid (boxE_of (b := w.heap.size + 1) (by rw [hV]; exact heap_at (by simp)) (hE.below hb0))
  have HV := hid hV
  have HNS := hid hns
  clear hV hE hC hb0 hns
  have HSE := hid (fun (u : World) (hb : Below V.heap.size V u) => (HBE.out.below hb).1)
  by_cases hin : i ∈ openL E
  case neg =>
    have HF := hid (show mayB C E wk i = false by unfold mayB; rw [decide_eq_false hin]; rfl)
    have HIN := hid (decide_eq_false hin)
    clear hin
    go_enter Try.func49, Try.ntmps49
    go_wp2_with fail
    rw [← HV.out]
    have c0 := HSE.out V.drew (Below.refl _ _).drew
    have HEA := hid (HBE.out.below (Below.refl _ _).drew).2.1
    refine wp_region_held_drew (S := fun w' => w'.cell? ⟨w.heap.size + 1, 0, none⟩ = some (.int .i64 E.id) ∧ w'.cell? ⟨w.heap.size + 1, 1, none⟩ = some (.int .i64 E.sched) ∧ w'.cell? ⟨w.heap.size + 1, 2, none⟩ = some (.int .i64 E.epoch) ∧ w'.cell? ⟨w.heap.size + 1, 3, none⟩ = some (.slice EA E.needs.length ea) ∧ w'.cell? ⟨w.heap.size + 1, 4, none⟩ = some (.slice EB E.bound.length eb) ∧ w'.cell? ⟨w.heap.size + 1, 5, none⟩ = some (.slice ED E.done.length ed)) (by kernel_rfl) c0 (fun hHeld => ?_)
    refine anyH_take 0 (v := ?_) rfl (by kernel_rfl) (by kernel_rfl) (by kernel_rfl) (fun _ _ _ h => h) (by rfl) hHeld ?_ ?_
    rotate_left
    · (intro w hSw; (try dsimp only at hSw); go_split_ands; go_simp; try with_reducible rfl)
    (try simp only [Act.put, List.setIfInBounds_toArray, List.set_cons_zero, List.set_cons_succ])
    refine anyH_take 2 (v := ?_) rfl (by kernel_rfl) (by kernel_rfl) (by kernel_rfl) (fun _ _ _ h => h) (by rfl) hHeld ?_ ?_
    rotate_left
    · (intro w hSw; (try dsimp only at hSw); go_split_ands; go_simp; try with_reducible rfl)
    (try simp only [Act.put, List.setIfInBounds_toArray, List.set_cons_zero, List.set_cons_succ])
    refine anyH_one 1 rfl (by kernel_rfl) (fun K hK => ?_)
    go_simp
    refine (ropen_calls E EA EB ED ea eb ed V.drew HEA.out hbl).mono ?_
    rintro e w1 ⟨v1, rfl, hO, hb1⟩
    have U1 := hid (bThen (Below.refl V.heap.size V).drew hb1)
    have HO1 := hid (Kd.any hO.K)
    have c1 := HSE.out w1 U1.out
    clear hO hb1
    go_simp
    refine hK.out _ _ c1 (fun hHeld => ?_)
    clear hK K
    (try simp only [Act.put, List.setIfInBounds_toArray, List.set_cons_zero, List.set_cons_succ])
    refine anyH_one 3 rfl (by kernel_rfl) (fun K hK => ?_)
    go_simp
    refine (rin_calls (openL E) i _ w1 HO1.out).mono ?_
    rintro e w2 ⟨rfl, hw2⟩
    subst hw2
    rw [HIN.out]
    go_simp
    refine hK.out _ _ c1 (fun hHeld => ?_)
    clear hK K
    (try simp only [Act.put, List.setIfInBounds_toArray, List.set_cons_zero, List.set_cons_succ])
    refine anyH_take 4 (v := ?_) rfl (by kernel_rfl) (by kernel_rfl) (by kernel_rfl) (fun _ _ _ h => h) (by rfl) hHeld ?_ ?_
    rotate_left
    · (intro w hSw; (try dsimp only at hSw); go_split_ands; go_simp; try with_reducible rfl)
    (try simp only [Act.put, List.setIfInBounds_toArray, List.set_cons_zero, List.set_cons_succ])
    refine anyH_skip 5 rfl (by kernel_rfl) (by kernel_rfl) (by kernel_rfl) (fun _ _ _ h => h) (by rfl) hHeld ?_
    (try simp only [Act.put, List.setIfInBounds_toArray, List.set_cons_zero, List.set_cons_succ])
    refine anyH_skip 6 rfl (by kernel_rfl) (by kernel_rfl) (by kernel_rfl) (fun _ _ _ h => h) (by rfl) hHeld ?_
    (try simp only [Act.put, List.setIfInBounds_toArray, List.set_cons_zero, List.set_cons_succ])
    refine anyH_skip 7 rfl (by kernel_rfl) (by kernel_rfl) (by kernel_rfl) (fun _ _ _ h => h) (by rfl) hHeld ?_
    (try simp only [Act.put, List.setIfInBounds_toArray, List.set_cons_zero, List.set_cons_succ])
    refine anyH_skip 8 rfl (by kernel_rfl) (by kernel_rfl) (by kernel_rfl) (fun _ _ _ h => h) (by rfl) hHeld ?_
    (try simp only [Act.put, List.setIfInBounds_toArray, List.set_cons_zero, List.set_cons_succ])
    refine anyH_skip 9 rfl (by kernel_rfl) (by kernel_rfl) (by kernel_rfl) (fun _ _ _ h => h) (by rfl) hHeld ?_
    (try simp only [Act.put, List.setIfInBounds_toArray, List.set_cons_zero, List.set_cons_succ])
    refine anyH_skip 10 rfl (by kernel_rfl) (by kernel_rfl) (by kernel_rfl) (fun _ _ _ h => h) (by rfl) hHeld ?_
    (try simp only [Act.put, List.setIfInBounds_toArray, List.set_cons_zero, List.set_cons_succ])
    refine anyH_skip 12 rfl (by kernel_rfl) (by kernel_rfl) (by kernel_rfl) (fun _ _ _ h => h) (by rfl) hHeld ?_
    (try simp only [Act.put, List.setIfInBounds_toArray, List.set_cons_zero, List.set_cons_succ])
    refine anyH_skip 11 rfl (by kernel_rfl) (by kernel_rfl) (by kernel_rfl) (fun _ _ _ h => h) (by rfl) hHeld ?_
    (try simp only [Act.put, List.setIfInBounds_toArray, List.set_cons_zero, List.set_cons_succ])
    refine anyH_skip 13 rfl (by kernel_rfl) (by kernel_rfl) (by kernel_rfl) (fun _ _ _ h => h) (by rfl) hHeld ?_
    (try simp only [Act.put, List.setIfInBounds_toArray, List.set_cons_zero, List.set_cons_succ])
    refine anyH_take 14 (v := ?_) rfl (by kernel_rfl) (by kernel_rfl) (by kernel_rfl) (fun _ _ _ h => h) (by rfl) hHeld ?_ ?_
    rotate_left
    · (intro w hSw; (try dsimp only at hSw); go_split_ands; go_simp; try with_reducible rfl)
    (try simp only [Act.put, List.setIfInBounds_toArray, List.set_cons_zero, List.set_cons_succ])
    refine anyH_take 15 (v := ?_) rfl (by kernel_rfl) (by kernel_rfl) (by kernel_rfl) (fun _ _ _ h => h) (by rfl) hHeld ?_ ?_
    rotate_left
    · (intro w hSw; (try dsimp only at hSw); go_split_ands; go_simp; try with_reducible rfl)
    (try simp only [Act.put, List.setIfInBounds_toArray, List.set_cons_zero, List.set_cons_succ])
    refine wpAnyH_done (by kernel_rfl) ?_ _
    go_wp2
    go_ret
    rw [HF.out]
    exact ⟨rfl, bThen HBV.out U1.out⟩
  obtain ⟨j, hj, hjn, hjb, _⟩ := open_at hin
  obtain ⟨s, hs⟩ : ∃ s, E.needs[j]? = some s := ⟨E.needs[j]'hjn, List.getElem?_eq_getElem _⟩
  have HF := hid (show mayB C E wk i = hasB (setS C.names C.workers s) wk by unfold mayB; rw [decide_eq_true hin, hj, Int.toNat_natCast, hs]; rfl)
  have HIN := hid (decide_eq_true hin)
  have HSZ := hid (HNS.out s (List.mem_of_getElem? hs))
  have HLT := hid (setS_lt C.names C.workers s)
  have HSS := hid hs
  obtain ⟨an, han⟩ : ∃ an, EA = some an := by
    obtain ⟨rb, _⟩ := K_row HBE.out.2.1.needs
    obtain ⟨an, _, h, _⟩ := rb.at_str j hjn
    exact ⟨an, h⟩
  subst han
  subst hj
  have hjI : (j : Int) < (E.needs.length : Int) := by omega
  have hj0 : (0 : Int) ≤ (j : Int) := by omega
  have HS := hid (fun (u : World) (hb : Below V.heap.size V u) => show ((u.cell? ⟨w.heap.size, 0, none⟩ = some (.int .i64 C.scheds) ∧ u.cell? ⟨w.heap.size, 1, none⟩ = some (.int .i64 C.lease) ∧ u.cell? ⟨w.heap.size, 2, none⟩ = some (.int .i64 C.again) ∧ u.cell? ⟨w.heap.size, 3, none⟩ = some (.int .i64 C.room) ∧ u.cell? ⟨w.heap.size, 4, none⟩ = some (.int .i64 C.out) ∧ u.cell? ⟨w.heap.size, 5, none⟩ = some (.slice CA C.names.length ca) ∧ u.cell? ⟨w.heap.size, 6, none⟩ = some (.slice CB C.workers.length cb)) ∧ (u.cell? ⟨w.heap.size + 1, 0, none⟩ = some (.int .i64 E.id) ∧ u.cell? ⟨w.heap.size + 1, 1, none⟩ = some (.int .i64 E.sched) ∧ u.cell? ⟨w.heap.size + 1, 2, none⟩ = some (.int .i64 E.epoch) ∧ u.cell? ⟨w.heap.size + 1, 3, none⟩ = some (.slice (some an) E.needs.length ea) ∧ u.cell? ⟨w.heap.size + 1, 4, none⟩ = some (.slice EB E.bound.length eb) ∧ u.cell? ⟨w.heap.size + 1, 5, none⟩ = some (.slice ED E.done.length ed)) ∧ u.cell? (an.add j) = some (.string s)) from by
    obtain ⟨d, dE, _⟩ := HBE.out.below hb
    obtain ⟨rb, _⟩ := K_row dE.needs
    obtain ⟨a', x', ha', hx', r0'⟩ := rb.at_str j hjn
    cases ha'
    rw [HSS.out] at hx'
    obtain rfl := Option.some.inj hx'
    exact ⟨(HBC.out.below hb).1, d, r0'⟩)
  obtain ⟨z, hz⟩ : ∃ z, z = setS C.names C.workers s := ⟨_, rfl⟩
  have HZ := hid hz
  rw [← hz] at HF HLT
  clear hin hs hz hjb
  go_enter Try.func49, Try.ntmps49
  go_wp2_with fail
  rw [← HV.out]
  have HEA := hid (HBE.out.below (Below.refl _ _).drew).2.1
  have HCA := hid (fun (u : World) (hb : Below V.heap.size V u) => show CAt u C CA CB ca cb from (HBC.out.below hb).2.1)
  have c0 := HS.out V.drew (Below.refl _ _).drew
  go_region_held3 (fun w' => (w'.cell? ⟨w.heap.size, 0, none⟩ = some (.int .i64 C.scheds) ∧ w'.cell? ⟨w.heap.size, 1, none⟩ = some (.int .i64 C.lease) ∧ w'.cell? ⟨w.heap.size, 2, none⟩ = some (.int .i64 C.again) ∧ w'.cell? ⟨w.heap.size, 3, none⟩ = some (.int .i64 C.room) ∧ w'.cell? ⟨w.heap.size, 4, none⟩ = some (.int .i64 C.out) ∧ w'.cell? ⟨w.heap.size, 5, none⟩ = some (.slice CA C.names.length ca) ∧ w'.cell? ⟨w.heap.size, 6, none⟩ = some (.slice CB C.workers.length cb)) ∧ (w'.cell? ⟨w.heap.size + 1, 0, none⟩ = some (.int .i64 E.id) ∧ w'.cell? ⟨w.heap.size + 1, 1, none⟩ = some (.int .i64 E.sched) ∧ w'.cell? ⟨w.heap.size + 1, 2, none⟩ = some (.int .i64 E.epoch) ∧ w'.cell? ⟨w.heap.size + 1, 3, none⟩ = some (.slice (some an) E.needs.length ea) ∧ w'.cell? ⟨w.heap.size + 1, 4, none⟩ = some (.slice EB E.bound.length eb) ∧ w'.cell? ⟨w.heap.size + 1, 5, none⟩ = some (.slice ED E.done.length ed)) ∧ w'.cell? (an.add j) = some (.string s)) (first | exact c0 | exact c1 | exact c2 | exact c3 | exact c4 | fail) (first
    | ((with_reducible refine (ropen_calls E (some an) EB ED ea eb ed V.drew HEA.out hbl).mono ?_); rintro e w1 ⟨v1, rfl, hO, hb1⟩; have U1 := hid (bThen (Below.refl V.heap.size V).drew hb1); have HO1 := hid (Kd.any hO.K); have c1 := HS.out w1 U1.out; clear hO hb1)
    | ((with_reducible refine (rin_calls (openL E) j _ w1 HO1.out).mono ?_); rintro e w2 ⟨rfl, hw2⟩; subst hw2; rw [HIN.out]; have c2 := c1)
    | ((with_reducible refine (rset15_calls C.names C.workers s C.scheds C.lease C.again C.room C.out _ _ w1 (HCA.out w1 U1.out).names (HCA.out w1 U1.out).workers (HCA.out w1 U1.out).attrs HSZ.out hwl).mono ?_); rintro e w3 ⟨rfl, hb3⟩; rw [← HZ.out]; have U3 := hid (bThen U1.out hb3); have c3 := HS.out w3 U3.out; clear hb3)
    | ((with_reducible refine (rhas_calls z wk w3 HLT.out).mono ?_); rintro e w4 ⟨rfl, hw4⟩; subst hw4; have c4 := c3)
    | fail)
  go_wp2
  go_ret
  rw [HF.out]
  exact ⟨rfl, bThen HBV.out U3.out⟩
theorem whereN_none {p : Nat → Bool} {n : Nat} (h : ∀ k, k < n → p k = false) : whereN p n = [] := by
  induction n with
  | zero => rfl
  | succ n ih => rw [whereN, if_neg (by rw [h n (by omega)]; decide)]; exact ih (fun k hk => h k (by omega))
theorem whereN_first {p : Nat → Bool} {k n : Nat} (hk : k < n) (h : ∀ j, j < k → p j = false) (hp : p k = true) : ∃ r, whereN p n = (k : Int) :: r := by
  obtain ⟨r, hr⟩ := whereN_pre p (show k + 1 ≤ n from hk)
  exact ⟨r, by rw [hr, whereN, if_pos hp, whereN_none h]; rfl⟩
set_option maxHeartbeats 4000000 in
set_option maxRecDepth 100000 in
theorem rpick_calls (C : ConfS) (CA CB : Option Addr) (ca cb : Nat) (E : EntryS) (EA EB ED : Option Addr) (ea eb ed : Nat) (wk : Int) (had : List Bool) (hv : Value) (w : World) (hC : CAt w C CA CB ca cb) (hE : EAt w E EA EB ED ea eb ed) (hh : Kd.bool.slice.K w Any had [hv]) (hbl : E.bound.length ≤ 1000) (hnl : E.needs.length ≤ 1000) (hbd : BoundOk E) (hns : ∀ s ∈ E.needs, s.size * 24 ≤ 140737488351232) (hwl : C.workers.length ≤ 1000000) :
    Calls Try.prog 47 #[.agg #[.int .i64 C.scheds, .int .i64 C.lease, .int .i64 C.again, .int .i64 C.room, .int .i64 C.out, .slice CA C.names.length ca, .slice CB C.workers.length cb], .agg #[.int .i64 E.id, .int .i64 E.sched, .int .i64 E.epoch, .slice EA E.needs.length ea, .slice EB E.bound.length eb, .slice ED E.done.length ed], .int .i64 wk, hv] w fun e w' => e = .returned (.tuple #[.int .i64 (pickS C E wk had).1, .bool (pickS C E wk had).2.1]) ∧ Below w.heap.size w w' := by
  obtain ⟨V, hV⟩ : ∃ V, V = (w.alloc (.cells #[.int .i64 C.scheds, .int .i64 C.lease, .int .i64 C.again, .int .i64 C.room, .int .i64 C.out, .slice CA C.names.length ca, .slice CB C.workers.length cb] 56)).alloc (.cells #[.int .i64 E.id, .int .i64 E.sched, .int .i64 E.epoch, .slice EA E.needs.length ea, .slice EB E.bound.length eb, .slice ED E.done.length ed] 74) := ⟨_, rfl⟩
  have hb0 : Below w.heap.size w V := by rw [hV]; exact bAlloc (bAlloc (Below.refl _ _) _) _
  have HBV := hid hb0
  have HBC := hid (boxC_of (b := w.heap.size) (by rw [hV, Below.heap_alloc _ _ _ (by simp)]; exact heap_at rfl) (hC.below hb0))
  have HBE := hid (boxE_of (b := w.heap.size + 1) (by rw [hV]; exact heap_at (by simp)) (hE.below hb0))
  have HHD := hid (Kd.below hh hb0)
  have HV := hid hV
  have HBD := hid hbd
  have HNS := hid hns
  obtain ⟨Ah, ch, he, _, _, _⟩ := hh
  injection he with he _
  subst he
  obtain ⟨⟨c0, c1, c2, c3, c4, c5⟩, _, _⟩ := HBE.out
  have HPD := hid (show pickS C E wk had = match pendL E wk had with | x :: _ => (x, false, true) | [] => (match mayL C E wk with | x :: _ => (x, true, true) | [] => (-1, false, false)) from rfl)
  obtain ⟨pl, hpl⟩ : ∃ pl, pl = pendL E wk had := ⟨_, rfl⟩
  have HPL := hid hpl
  rw [← hpl] at HPD
  have HML := hid (show mayL C E wk = whereN (fun k => mayB C E wk k) E.needs.length from rfl)
  obtain ⟨n, hn⟩ : ∃ n, n = E.needs.length := ⟨_, rfl⟩
  rw [← hn] at HML
  have hnl2 : n ≤ 1000 := by omega
  have HNN := hid hn
  clear hV hE hC hbd hb0 hns hpl hn
  go_enter Try.func47, Try.ntmps47
  go_wp2_with fail
  rw [← HV.out]
  refine (rpending_calls E EA EB ED ea eb ed wk had _ V HBE.out.2.1 HHD.out hbl HBD.out).mono ?_
  rintro e w1 ⟨v1, rfl, hO, hb1⟩
  rw [← HPL.out] at hO
  have HB1 := hid hb1
  obtain ⟨A1, d1, he, _, _, hr1⟩ := Kd.any hO.K
  cases he
  have HR1 := hid hr1
  clear hO hb1 hr1 c0 c1 c2 c3 c4 c5
  cases pl with
  | cons x r =>
    obtain ⟨a, x', rfl, hx, r0⟩ := HR1.out.at_int 0 (by simp)
    obtain rfl : x' = x := (Option.some.inj hx).symm
    have r0' : w1.cell? a = some (.int .i64 x') := by have := r0; rwa [show a.add 0 = a from by unfold Addr.add; rw [if_pos rfl]] at this
    have HF := hid (show pickS C E wk had = (x', false, true) from HPD.out)
    obtain ⟨m, hm⟩ : ∃ m, (x' :: r).length = m + 1 := ⟨r.length, rfl⟩
    rw [hm]
    have hmI : (0 : Int) < ((m + 1 : Nat) : Int) := by omega
    clear hx r0 hm
    go_wp2
    go_ret2
    rw [HF.out]
    exact ⟨rfl, bThen HBV.out HB1.out⟩
  | nil =>
    go_wp2
    go_loopw [11] (fun i wr => ∃ k : Nat, k ≤ n ∧ i = .int .i64 k ∧ Hid (∀ j, j < k → mayB C E wk j = false) ∧ Hid (Below V.heap.size V wr)) (fun i _ => n - (intOf i).toNat)
    case atStart => exact ⟨0, by omega, rfl, (fun j h => by omega), HB1⟩
    case round =>
      obtain ⟨k, hk, rfl, HNO, HB⟩ := hrel
      obtain ⟨⟨d0, d1', d2, d3, d4, d5⟩, dE, _⟩ := HBE.out.below HB.out
      obtain ⟨⟨g0, g1, g2, g3, g4, g5, g6⟩, gC, _⟩ := HBC.out.below HB.out
      have d3' : wr.cell? ⟨w.heap.size + 1, 3, none⟩ = some (.slice EA n ea) := by rw [HNN.out]; exact d3
      have HDE := hid dE
      have HGC := hid gC
      clear dE gC
      by_cases hlt : k < n
      · have hltI : (k : Int) < (n : Int) := by omega
        have hltI2 : (k : Int) < (E.needs.length : Int) := by rw [← HNN.out]; exact hltI
        clear d3'
        go_wp2_with fail
        refine (rmay34_calls C CA CB ca cb E EA EB ED ea eb ed wk k wr HGC.out HDE.out hbl HNS.out hwl).mono ?_
        rintro e w2 ⟨rfl, hb2⟩
        have HB2 := hid (bThen HB.out hb2)
        clear hb2
        cases hmb : mayB C E wk k
        · have HNO2 := hid (show ∀ j : Nat, j < k + 1 → mayB C E wk j = false from fun j hj => by
            rcases Nat.lt_or_ge j k with h | h
            · exact HNO.out j h
            · rw [show j = k by omega]; exact hmb)
          clear hmb
          go_wp2
          go_roundw
          case rel => first | exact ⟨k + 1, by omega, by go_num, HNO2, HB2⟩ | ((repeat apply Exists.intro); exact ⟨⟨k + 1, by omega, by go_num, HNO2, HB2⟩, rfl⟩)
          case measure => simp [intOf]; omega
        · obtain ⟨r, hr⟩ := whereN_first (p := fun k => mayB C E wk k) hlt HNO.out hmb
          have HF := hid (show pickS C E wk had = ((k : Int), true, true) by rw [HPD.out, HML.out, hr])
          clear hmb hr
          go_wp2
          go_ret2
          rw [HF.out]
          exact ⟨rfl, bThen HBV.out HB2.out⟩
      · obtain rfl : k = n := by omega
        have hnI : ¬ (k : Int) < (E.needs.length : Int) := by rw [← HNN.out]; omega
        have HF := hid (show pickS C E wk had = (-1, false, false) by rw [HPD.out, HML.out, whereN_none HNO.out])
        clear d3'
        go_wp2
        go_ret2
        rw [HF.out]
        exact ⟨rfl, bThen HBV.out HB.out⟩
set_option maxHeartbeats 4000000 in
set_option maxRecDepth 100000 in
theorem rall_calls (E : EntryS) (EA EB ED : Option Addr) (ea eb ed : Nat) (had : List Bool) (hv : Value) (w : World) (hE : EAt w E EA EB ED ea eb ed) (hh : Kd.bool.slice.K w Any had [hv]) (hbl : E.bound.length ≤ 1000) (hbd : BoundOk E) :
    Calls Try.prog 54 #[.agg #[.int .i64 E.id, .int .i64 E.sched, .int .i64 E.epoch, .slice EA E.needs.length ea, .slice EB E.bound.length eb, .slice ED E.done.length ed], hv] w fun e w' => ∃ v, e = .returned v ∧ Own Kd.out 93 w' w.heap.size NoT v (allS E had) ∧ Below w.heap.size w w' := by
  obtain ⟨V, hV⟩ : ∃ V, V = w.alloc (.cells #[.int .i64 E.id, .int .i64 E.sched, .int .i64 E.epoch, .slice EA E.needs.length ea, .slice EB E.bound.length eb, .slice ED E.done.length ed] 74) := ⟨_, rfl⟩
  obtain ⟨hb0, hbx⟩ := rowBox w E EA EB ED ea eb ed V hV hE
  have HBV := hid hb0
  have HBX := hid hbx
  have HV := hid hV
  have HBD := hid hbd
  have HHD := hid (Kd.below hh hb0)
  have htl := tasks_le E hbl
  obtain ⟨Ah, ch, he, _, _, _⟩ := hh
  injection he with he _
  subst he
  obtain ⟨n, hn⟩ : ∃ n, n = tasksN E := ⟨_, rfl⟩
  have HNN := hid hn
  rw [← hn] at htl
  clear hV hE hb0 hn hbx hbd
  go_enter Try.func54, Try.ntmps54
  go_wp2
  rw [← HV.out]
  go_loopw [5, 6] (fun o i wr => ∃ k : Nat, k ≤ n ∧ i = .int .i64 k ∧ Hid (Own Kd.out 93 wr V.heap.size NoT o ((whereN (leftB E had) k).map (outOf E))) ∧ Hid (Below V.heap.size V wr)) (fun _ i _ => n - (intOf i).toNat)
  case atStart => exact ⟨0, by omega, rfl, Own.nil _ _ _ _ _, Below.refl _ _⟩
  case round =>
    obtain ⟨k, hk, rfl, HO, HB⟩ := hrel
    obtain ⟨A3, n3, c3', rfl, hq1, hq2⟩ := HO.out.shape'
    obtain ⟨⟨d0, d1, d2, d3, d4, d5⟩, dE, _⟩ := HBX.out.below HB.out
    have HDE := hid dE
    clear hq1 hq2 dE
    go_wp2_with fail
    refine (rtasks_calls E EA EB ED ea eb ed wr).mono ?_
    rintro e w1 ⟨rfl, hb1⟩
    rw [← HNN.out]
    have HB1 := hid (bThen HB.out hb1)
    have HO1 := hid (HO.out.below hb1)
    have HDE1 := hid (HDE.out.below hb1)
    obtain ⟨⟨g0, g1, g2, g3, g4, g5⟩, _, _⟩ := HBX.out.below HB1.out
    clear hb1 d0 d1 d2 d3 d4 d5
    by_cases hlt : k < n
    · have hltI : (k : Int) < (n : Int) := by omega
      have hkt : k < tasksN E := by rw [← HNN.out]; exact hlt
      have HKT := hid hkt
      clear hkt
      go_wp2_with fail
      refine (rleft_calls E EA EB ED ea eb ed had _ k w1 HDE1.out (Kd.below HHD.out HB1.out) HKT.out).mono ?_
      rintro e w2 ⟨rfl, hb2⟩
      have HB2 := hid (bThen HB1.out hb2)
      have HO2 := hid (HO1.out.below hb2)
      clear hb2 g0 g1 g2 g3 g4 g5
      cases hlf : leftB E had k
      case false =>
        have HN := hid (show whereN (leftB E had) (k + 1) = whereN (leftB E had) k by rw [whereN, if_neg (by rw [hlf]; decide)])
        clear hlf
        go_wp2
        go_roundw
        case rel => first | exact ⟨k + 1, by omega, by go_num, by rw [HN.out]; exact HO2.out, HB2.out⟩ | ((repeat apply Exists.intro); exact ⟨⟨k + 1, by omega, by go_num, by rw [HN.out]; exact HO2.out, HB2.out⟩, rfl⟩)
        case measure => simp [intOf]; omega
      obtain ⟨bv, hbj, hb0, hb64⟩ := left_at hlf HBD.out
      have hjb := (List.getElem?_eq_some_iff.1 hbj).1
      have HBJ := hid hbj
      have HN := hid (show (whereN (leftB E had) k).map (outOf E) ++ [⟨7 + bv, 4, E.id, k, E.epoch⟩] = (whereN (leftB E had) (k + 1)).map (outOf E) by
        rw [whereN, if_pos hlf, List.map_append]
        congr 1
        show [_] = [outOf E (k : Int)]
        unfold outOf
        rw [Int.toNat_natCast, hbj]; rfl)
      obtain ⟨ab, hab⟩ : ∃ ab, EB = some ab := by
        obtain ⟨rb, _⟩ := K_row HBX.out.2.1.bound
        obtain ⟨ab, _, h, _⟩ := rb.at_int k hjb
        exact ⟨ab, h⟩
      subst hab
      have HS := hid (fun (u : World) (hb : Below V.heap.size V u) => show (u.cell? ⟨w.heap.size, 0, none⟩ = some (.int .i64 E.id) ∧ u.cell? ⟨w.heap.size, 2, none⟩ = some (.int .i64 E.epoch) ∧ u.cell? ⟨w.heap.size, 4, none⟩ = some (.slice (some ab) E.bound.length eb) ∧ u.cell? (ab.add k) = some (.int .i64 bv)) from by
        obtain ⟨⟨d0, d1, d2, d3, d4, d5⟩, dE, _⟩ := HBX.out.below hb
        obtain ⟨rb, _⟩ := K_row dE.bound
        obtain ⟨a', x', ha', hx', r0'⟩ := rb.at_int k hjb
        cases ha'
        rw [HBJ.out] at hx'
        obtain rfl := Option.some.inj hx'
        exact ⟨d0, d2, d4, r0'⟩)
      have hk0 : (0 : Int) ≤ (k : Int) := by omega
      have hjI : (k : Int) < (E.bound.length : Int) := by omega
      have e1 : IntKind.i64.wrap (7 + bv) = 7 + bv := IntWalk.i64_in _ (by omega)
      have HLN := hid (show ((whereN (leftB E had) k).map (outOf E)).length ≤ k by rw [List.length_map]; exact whereN_len _ _)
      clear hlf hbj
      go_wp2_with fail
      refine wp_region_held_drew (S := fun w' => w'.cell? ⟨w.heap.size, 0, none⟩ = some (.int .i64 E.id) ∧ w'.cell? ⟨w.heap.size, 2, none⟩ = some (.int .i64 E.epoch) ∧ w'.cell? ⟨w.heap.size, 4, none⟩ = some (.slice (some ab) E.bound.length eb) ∧ w'.cell? (ab.add k) = some (.int .i64 bv)) (by kernel_rfl) (HS.out _ HB2.out.drew) (fun hHeld => ?_)
      refine anyH_take 0 (v := ?_) rfl (by kernel_rfl) (by kernel_rfl) (by kernel_rfl) (fun _ _ _ h => h) (by rfl) hHeld ?_ ?_
      rotate_left
      · (intro w hSw; (try dsimp only at hSw); go_split_ands; go_simp; try with_reducible rfl)
      (try simp only [Act.put, List.setIfInBounds_toArray, List.set_cons_zero, List.set_cons_succ])
      refine anyH_take 1 (v := ?_) rfl (by kernel_rfl) (by kernel_rfl) (by kernel_rfl) (fun _ _ _ h => h) (by rfl) hHeld ?_ ?_
      rotate_left
      · (intro w hSw; (try dsimp only at hSw); go_split_ands; go_simp; try with_reducible rfl)
      (try simp only [Act.put, List.setIfInBounds_toArray, List.set_cons_zero, List.set_cons_succ])
      refine anyH_take 2 (v := ?_) rfl (by kernel_rfl) (by kernel_rfl) (by kernel_rfl) (fun _ _ _ h => h) (by rfl) hHeld ?_ ?_
      rotate_left
      · (intro w hSw; (try dsimp only at hSw); go_split_ands; go_simp; try with_reducible rfl)
      (try simp only [Act.put, List.setIfInBounds_toArray, List.set_cons_zero, List.set_cons_succ])
      refine anyH_take 3 (v := ?_) rfl (by kernel_rfl) (by kernel_rfl) (by kernel_rfl) (fun _ _ _ h => h) (by rfl) hHeld ?_ ?_
      rotate_left
      · (intro w hSw; (try dsimp only at hSw); go_split_ands; go_simp; try with_reducible rfl)
      (try simp only [Act.put, List.setIfInBounds_toArray, List.set_cons_zero, List.set_cons_succ])
      refine anyH_take 4 (v := ?_) rfl (by kernel_rfl) (by kernel_rfl) (by kernel_rfl) (fun _ _ _ h => h) (by rfl) hHeld ?_ ?_
      rotate_left
      · (intro w hSw; (try dsimp only at hSw); go_split_ands; go_simp; try with_reducible rfl)
      (try simp only [Act.put, List.setIfInBounds_toArray, List.set_cons_zero, List.set_cons_succ])
      refine anyH_take 5 (v := ?_) rfl (by kernel_rfl) (by kernel_rfl) (by kernel_rfl) (fun _ _ _ h => h) (by rfl) hHeld ?_ ?_
      rotate_left
      · (intro w hSw; (try dsimp only at hSw); go_split_ands; go_simp; try with_reducible rfl)
      (try simp only [Act.put, List.setIfInBounds_toArray, List.set_cons_zero, List.set_cons_succ])
      refine anyH_take 6 (v := ?_) rfl (by kernel_rfl) (by kernel_rfl) (by kernel_rfl) (fun _ _ _ h => h) (by rfl) hHeld ?_ ?_
      rotate_left
      · (intro w hSw; (try dsimp only at hSw); go_split_ands; go_simp; try with_reducible rfl)
      (try simp only [Act.put, List.setIfInBounds_toArray, List.set_cons_zero, List.set_cons_succ])
      refine anyH_take 7 (v := ?_) rfl (by kernel_rfl) (by kernel_rfl) (by kernel_rfl) (fun _ _ _ h => h) (by rfl) hHeld ?_ ?_
      rotate_left
      · (intro w hSw; (try dsimp only at hSw); go_split_ands; go_simp; try with_reducible rfl)
      (try simp only [Act.put, List.setIfInBounds_toArray, List.set_cons_zero, List.set_cons_succ])
      refine anyH_take 8 (v := ?_) rfl (by kernel_rfl) (by kernel_rfl) (by kernel_rfl) (fun _ _ _ h => h) (by rfl) hHeld ?_ ?_
      rotate_left
      · (intro w hSw; (try dsimp only at hSw); go_split_ands; go_simp; try with_reducible rfl)
      (try simp only [Act.put, List.setIfInBounds_toArray, List.set_cons_zero, List.set_cons_succ])
      refine anyH_take 9 (v := ?_) rfl (by kernel_rfl) (by kernel_rfl) (by kernel_rfl) (fun _ _ _ h => h) (by rfl) hHeld ?_ ?_
      rotate_left
      · (intro w hSw; (try dsimp only at hSw); go_split_ands; go_simp; try with_reducible rfl)
      (try simp only [Act.put, List.setIfInBounds_toArray, List.set_cons_zero, List.set_cons_succ])
      refine anyH_take 10 (v := ?_) rfl (by kernel_rfl) (by kernel_rfl) (by kernel_rfl) (fun _ _ _ h => h) (by rfl) hHeld ?_ ?_
      rotate_left
      · (intro w hSw; (try dsimp only at hSw); go_split_ands; go_simp; try with_reducible rfl)
      (try simp only [Act.put, List.setIfInBounds_toArray, List.set_cons_zero, List.set_cons_succ])
      refine anyH_take 11 (v := ?_) rfl (by kernel_rfl) (by kernel_rfl) (by kernel_rfl) (fun _ _ _ h => h) (by rfl) hHeld ?_ ?_
      rotate_left
      · (intro w hSw; (try dsimp only at hSw); go_split_ands; go_simp; try with_reducible rfl)
      (try simp only [Act.put, List.setIfInBounds_toArray, List.set_cons_zero, List.set_cons_succ])
      refine anyH_take 12 (v := ?_) rfl (by kernel_rfl) (by kernel_rfl) (by kernel_rfl) (fun _ _ _ h => h) (by rfl) hHeld ?_ ?_
      rotate_left
      · (intro w hSw; (try dsimp only at hSw); go_split_ands; go_simp; try with_reducible rfl)
      (try simp only [Act.put, List.setIfInBounds_toArray, List.set_cons_zero, List.set_cons_succ])
      refine anyH_take 13 (v := ?_) rfl (by kernel_rfl) (by kernel_rfl) (by kernel_rfl) (fun _ _ _ h => h) (by rfl) hHeld ?_ ?_
      rotate_left
      · (intro w hSw; (try dsimp only at hSw); go_split_ands; go_simp; try with_reducible rfl)
      (try simp only [Act.put, List.setIfInBounds_toArray, List.set_cons_zero, List.set_cons_succ])
      refine anyH_one 14 rfl (by kernel_rfl) (fun K hK => ?_)
      go_simp
      have HAL := hid (show Below w2.heap.size w2 (w2.drew.alloc (.cells #[.int .i64 (7 + bv), .int .i64 4, .int .i64 E.id, .int .i64 k, .int .i64 E.epoch] 93)) from (Below.refl w2.heap.size w2).drew.alloc (Nat.le_refl _) _)
      refine hK.out _ _ (HS.out _ (bThen HB2.out HAL.out)) (fun hHeld => ?_)
      clear hK K
      (try simp only [Act.put, List.setIfInBounds_toArray, List.set_cons_zero, List.set_cons_succ])
      refine anyH_one 15 rfl (by kernel_rfl) (fun K hK => ?_)
      refine appends_step Kd.out V.heap.size rfl _ _ 88 93 _ 40 rfl Try.underlying88 Try.infoOut rfl (by decide) (by decide) (.slice A3 n3 c3') ((whereN (leftB E had) k).map (outOf E)) [⟨7 + bv, 4, E.id, k, E.epoch⟩] (some ⟨w2.heap.size, 0, none⟩) 1 1 NoT Any NoT rfl rfl rfl (K_row (Kd.any (K_new (enc := fun (x : OutS) => [.int .i64 x.to, .int .i64 x.kind, .int .i64 x.job, .int .i64 x.task, .int .i64 x.epoch]) (hl := fun _ => rfl) (h1 := fun x u hu => by simp at hu; rcases hu with rfl | rfl | rfl | rfl | rfl <;> rfl) w2.drew w2.heap.size rfl 93 [⟨7 + bv, 4, E.id, k, E.epoch⟩] (by simp)))).1 (fun _ _ h => h) (fun _ h => h.elim) (HO2.out.below HAL.out) (bThen HB2.out HAL.out).size (by have := HLN.out; omega) ?_
      intro v1 w4 hO4 hg4 _
      have HB4 := hid ((bThen HB2.out HAL.out).grown hg4 (bThen HB2.out HAL.out).size (fun k hk => ((HO2.out.below HAL.out).lt k hk).1))
      refine hK.out _ _ (HS.out _ HB4.out) (fun hHeld => ?_)
      clear hK K
      (try simp only [Act.put, List.setIfInBounds_toArray, List.set_cons_zero, List.set_cons_succ])
      refine anyH_take 16 (v := ?_) rfl (by kernel_rfl) (by kernel_rfl) (by kernel_rfl) (fun _ _ _ h => h) (by rfl) hHeld ?_ ?_
      rotate_left
      · (intro w hSw; (try dsimp only at hSw); go_split_ands; go_simp; try with_reducible rfl)
      (try simp only [Act.put, List.setIfInBounds_toArray, List.set_cons_zero, List.set_cons_succ])
      refine wpAnyH_done (by kernel_rfl) ?_ _
      go_wp2
      go_roundw
      case rel => first | exact ⟨k + 1, by omega, by go_num, by rw [← HN.out]; exact hO4, HB4⟩ | ((repeat apply Exists.intro); exact ⟨⟨k + 1, by omega, by go_num, by rw [← HN.out]; exact hO4, HB4⟩, rfl⟩)
      case measure => simp [intOf]; omega
    · obtain rfl : k = n := by omega
      have HE := hid (show (whereN (leftB E had) k).map (outOf E) = allS E had by unfold allS; rw [← HNN.out])
      go_wp2
      go_ret
      exact ⟨_, rfl, by rw [← HE.out]; exact HO1.out.lower HBV.out.size, bThen HBV.out HB1.out⟩
set_option maxHeartbeats 4000000 in
set_option maxRecDepth 100000 in
theorem isame_calls (l : List Int) (v1 v2 : Value) (w : World) (h1 : I64.slice.K w Any l [v1]) (h2 : I64.slice.K w Any l [v2]) :
    Calls Try.prog 50 #[v1, v2] w fun e w' => e = .returned (.bool true) ∧ ∃ n, w' = w.drewN n := by
  obtain ⟨A, c, he, hc, hm, hr⟩ := h1
  cases he
  obtain ⟨B, d, he, hd, _, hr2⟩ := h2
  cases he
  obtain ⟨q, hq⟩ : ∃ q, l.length = q := ⟨_, rfl⟩
  have HQ := hid hq
  have HR := hid hr
  have HR2 := hid hr2
  rw [hq] at hc hm hd ⊢
  have hqq : ((q : Int) == (q : Int)) = true := beq_self_eq_true _
  have hqn : ((q : Int) != (q : Int)) = false := bne_self_eq_false _
  clear hr hr2 hq
  go_enter Try.func50, Try.ntmps50
  go_wp2
  go_loopw [5] (fun i wr => ∃ k n : Nat, k ≤ q ∧ i = .int .i64 k ∧ wr = w.drewN n) (fun i _ => q - (intOf i).toNat)
  case atStart => exact ⟨0, 0, by omega, rfl, rfl⟩
  case round =>
    obtain ⟨k, n, hk, rfl, rfl⟩ := hrel
    by_cases hlt : k < q
    · obtain ⟨a, x, rfl, hx, r0⟩ := HR.out.at_int k (by rw [HQ.out]; exact hlt)
      obtain ⟨b, x', rfl, hx', s0⟩ := HR2.out.at_int k (by rw [HQ.out]; exact hlt)
      rw [hx] at hx'
      obtain rfl := Option.some.inj hx'
      have e2 : (x != x) = false := bne_self_eq_false _
      have hltI : (k : Int) < (q : Int) := by omega
      have hk0 : (0 : Int) ≤ (k : Int) := by omega
      clear hx hx'
      go_wp2
      go_quiet (fail)
      go_wp2
      go_roundw
      case rel => first | exact ⟨k + 1, _, by omega, by go_num, rfl⟩ | ((repeat apply Exists.intro); exact ⟨⟨k + 1, _, by omega, by go_num, rfl⟩, rfl⟩)
      case measure => simp [intOf]; omega
    · obtain rfl : k = q := by omega
      go_wp2
      go_ret
      exact ⟨rfl, n, rfl⟩
theorem Kd.Row.at_out2 {w : World} {S : Nat → Prop} {A : Option Addr} {xs : List OutS} (h : Kd.out.Row w S A xs) (i : Nat) (hi : i < xs.length) :
    ∃ a x, A = some a ∧ xs[i]? = some x ∧ w.cell? (a.add (i * 5)) = some (.int .i64 x.to) ∧ w.cell? ⟨(a.add (i * 5)).block, (a.add (i * 5)).off + 1, none⟩ = some (.int .i64 x.kind) ∧ w.cell? ⟨(a.add (i * 5)).block, (a.add (i * 5)).off + 2, none⟩ = some (.int .i64 x.job) ∧ w.cell? ⟨(a.add (i * 5)).block, (a.add (i * 5)).off + 3, none⟩ = some (.int .i64 x.task) ∧ w.cell? ⟨(a.add (i * 5)).block, (a.add (i * 5)).off + 4, none⟩ = some (.int .i64 x.epoch) := by
  obtain ⟨a, cs, h1, _, _, h4, h5⟩ := h i xs[i] (List.getElem?_eq_getElem hi)
  cases h4
  have key : ∀ (j : Nat) (u : Value), 0 < j → ([.int .i64 xs[i].to, .int .i64 xs[i].kind, .int .i64 xs[i].job, .int .i64 xs[i].task, .int .i64 xs[i].epoch] : List Value)[j]? = some u → w.cell? ⟨(a.add (i * 5)).block, (a.add (i * 5)).off + j, none⟩ = some u := by
    intro j u hj hu
    have := h5 j u hu
    rwa [show i * Kd.out.sz + j = i * 5 + j from rfl, ← Kd.add_add, Kd.add_lit (a.add (i * 5)) j hj] at this
  exact ⟨a, xs[i], h1, List.getElem?_eq_getElem hi, h5 0 _ rfl, key 1 _ (by decide) rfl, key 2 _ (by decide) rfl, key 3 _ (by decide) rfl, key 4 _ (by decide) rfl⟩
set_option maxHeartbeats 4000000 in
set_option maxRecDepth 100000 in
theorem outs_calls (l : List OutS) (v1 v2 : Value) (w : World) (h1 : Kd.out.slice.K w Any l [v1]) (h2 : Kd.out.slice.K w Any l [v2]) :
    Calls Try.prog 52 #[v1, v2] w fun e w' => e = .returned (.bool true) ∧ ∃ n, w' = w.drewN n := by
  obtain ⟨A, c, he, hc, hm, hr⟩ := h1
  cases he
  obtain ⟨B, d, he, hd, _, hr2⟩ := h2
  cases he
  obtain ⟨q, hq⟩ : ∃ q, l.length = q := ⟨_, rfl⟩
  have HQ := hid hq
  have HR := hid hr
  have HR2 := hid hr2
  rw [hq] at hc hm hd ⊢
  have hqq : ((q : Int) == (q : Int)) = true := beq_self_eq_true _
  have hqn : ((q : Int) != (q : Int)) = false := bne_self_eq_false _
  clear hr hr2 hq
  go_enter Try.func52, Try.ntmps52
  go_wp2
  go_loopw [5] (fun i wr => ∃ k n : Nat, k ≤ q ∧ i = .int .i64 k ∧ wr = w.drewN n) (fun i _ => q - (intOf i).toNat)
  case atStart => exact ⟨0, 0, by omega, rfl, rfl⟩
  case round =>
    obtain ⟨k, n, hk, rfl, rfl⟩ := hrel
    by_cases hlt : k < q
    · obtain ⟨a, x, rfl, hx, r0, r1, r2, r3, r4⟩ := HR.out.at_out2 k (by rw [HQ.out]; exact hlt)
      obtain ⟨b, x', rfl, hx', s0, s1, s2, s3, s4⟩ := HR2.out.at_out2 k (by rw [HQ.out]; exact hlt)
      rw [hx] at hx'
      obtain rfl := Option.some.inj hx'
      have hltI : (k : Int) < (q : Int) := by omega
      have hk0 : (0 : Int) ≤ (k : Int) := by omega
      clear hx hx'
      go_wp2
      go_quiet (fail)
      go_wp2
      go_roundw
      case rel => first | exact ⟨k + 1, _, by omega, by go_num, rfl⟩ | ((repeat apply Exists.intro); exact ⟨⟨k + 1, _, by omega, by go_num, rfl⟩, rfl⟩)
      case measure => simp [intOf]; omega
    · obtain rfl : k = q := by omega
      go_wp2
      go_ret
      exact ⟨rfl, n, rfl⟩
end Go.Proofs.Yteijgeofimcijaa
