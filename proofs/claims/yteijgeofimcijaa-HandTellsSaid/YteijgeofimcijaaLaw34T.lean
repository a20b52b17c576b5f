/- The law HandTells. -/
import Derived.Test.YteijgeofimcijaaLaw34W
import Derived.Deep.QuietTactic
import Derived.BigQuiet
namespace Go.Proofs.Yteijgeofimcijaa
open Go.RowKit

theorem Kd.Row.at_out {w : World} {S : Nat → Prop} {A : Option Addr} {xs : List OutS} (h : Kd.out.Row w S A xs) (i : Nat) (x : OutS) (hx : xs[i]? = some x) :
    ∃ a, A = some a ∧ w.cell? (a.add (i * 5)) = some (.int .i64 x.to) ∧ w.cell? ⟨(a.add (i * 5)).block, (a.add (i * 5)).off + 1, none⟩ = some (.int .i64 x.kind) ∧ w.cell? ⟨(a.add (i * 5)).block, (a.add (i * 5)).off + 2, none⟩ = some (.int .i64 x.job) ∧ w.cell? ⟨(a.add (i * 5)).block, (a.add (i * 5)).off + 3, none⟩ = some (.int .i64 x.task) ∧ w.cell? ⟨(a.add (i * 5)).block, (a.add (i * 5)).off + 4, none⟩ = some (.int .i64 x.epoch) := by
  obtain ⟨a, cs, h1, _, _, h4, h5⟩ := h i x hx
  cases h4
  have key : ∀ (j : Nat) (u : Value), 0 < j → ([.int .i64 x.to, .int .i64 x.kind, .int .i64 x.job, .int .i64 x.task, .int .i64 x.epoch] : List Value)[j]? = some u → w.cell? ⟨(a.add (i * 5)).block, (a.add (i * 5)).off + j, none⟩ = some u := by
    intro j u hj hu
    have := h5 j u hu
    rwa [show i * Kd.out.sz + j = i * 5 + j from rfl, ← Kd.add_add, Kd.add_lit (a.add (i * 5)) j hj] at this
  exact ⟨a, h1, h5 0 _ rfl, key 1 _ (by decide) rfl, key 2 _ (by decide) rfl, key 3 _ (by decide) rfl, key 4 _ (by decide) rfl⟩
set_option maxHeartbeats 4000000 in
set_option maxRecDepth 100000 in
theorem handTellsLaw (E : EntryS) (EA EB ED : Option Addr) (ea eb ed : Nat) (had : List Bool) (hv : Value) (w : World) (hE : EAt w E EA EB ED ea eb ed) (hh : Kd.bool.slice.K w Any had [hv]) :
    Calls Try.prog 11 #[.agg #[.int .i64 E.id, .int .i64 E.sched, .int .i64 E.epoch, .slice EA E.needs.length ea, .slice EB E.bound.length eb, .slice ED E.done.length ed], hv] w fun e w' => e = .returned (.bool true) ∧ Below w.heap.size w w' := by
  obtain ⟨V, hV⟩ : ∃ V, V = w.alloc (.cells #[.int .i64 E.id, .int .i64 E.sched, .int .i64 E.epoch, .slice EA E.needs.length ea, .slice EB E.bound.length eb, .slice ED E.done.length ed] 74) := ⟨_, rfl⟩
  have hb0 : Below w.heap.size w V := by rw [hV]; exact bAlloc (Below.refl _ _) _
  have HBV := hid hb0
  have HBX := hid (boxE_of (b := w.heap.size) (by rw [hV]; exact heap_at rfl) (hE.below hb0))
  obtain ⟨⟨c0, c1, c2, c3, c4, c5⟩, _, _⟩ := HBX.out
  have HV := hid hV
  have HHD := hid (Kd.below hh hb0)
  obtain ⟨Ah, ch, he, _, _, _⟩ := hh
  injection he with he _
  subst he
  clear hV hE hb0
  go_enter Try.func11, Try.ntmps11
  go_wp2_with fail
  rw [← HV.out]
  refine (bound_calls E EA EB ED ea eb ed V HBX.out.2.1).mono ?_
  rintro e w1 ⟨rfl, hb1⟩
  have HB1 := hid hb1
  obtain ⟨⟨d0, d1, d2, d3, d4, d5⟩, _, _⟩ := HBX.out.below hb1
  clear hb1
  cases hbb : boundB E
  case false =>
    go_wp2_with fail
    refine (works34_calls _).mono ?_
    rintro e w2 ⟨rfl, hb2⟩
    go_wp2
    go_ret
    exact ⟨rfl, bThen (bThen HBV.out HB1.out) hb2⟩
  obtain ⟨hbd, hl1, hl2, hl3, hsz⟩ := boundB_ok hbb
  have HBD := hid hbd
  clear hbd hsz hbb
  go_wp2_with fail
  refine (all_calls E EA EB ED ea eb ed had _ w1 (HBX.out.below HB1.out).2.1 (Kd.below HHD.out HB1.out) (by omega) HBD.out).mono ?_
  rintro e w2 ⟨v2, rfl, hO, hb2⟩
  have HB2 := hid (bThen HB1.out hb2)
  obtain ⟨A, c, he, hcc, hmm, hrr⟩ := Kd.any hO.K
  cases he
  have HRL := hid hrr
  obtain ⟨n, hn⟩ : ∃ n, n = tasksN E := ⟨_, rfl⟩
  have HALL := hid (show allS E had = (whereN (leftB E had) n).map (outOf E) by rw [hn]; rfl)
  obtain ⟨q, hq⟩ : ∃ q, (allS E had).length = q := ⟨_, rfl⟩
  have HQ := hid (show (whereN (leftB E had) n).length = q by rw [← hq, HALL.out, List.length_map])
  rw [hq] at hcc hmm ⊢
  have hn2 : n = min (min E.needs.length E.bound.length) E.done.length := hn
  have hqn : q ≤ n := by rw [← HQ.out]; exact whereN_len _ _
  have HBQ := hid (fun (u : World) (hb : Below w2.heap.size w2 u) => HBX.out.below (bThen HB2.out hb))
  obtain ⟨⟨g0, g1, g2, g3, g4, g5⟩, gE, _⟩ := HBQ.out w2 (Below.refl _ _)
  obtain ⟨rb, cb⟩ := K_row gE.bound
  obtain ⟨rd, cd⟩ := K_row gE.done
  obtain ⟨rh, chh⟩ := K_row (Kd.below HHD.out HB2.out)
  have HRB := hid rb
  have HRD := hid rd
  have HRH := hid rh
  obtain ⟨n1, hn1⟩ : ∃ n1, n1 = E.needs.length := ⟨_, rfl⟩
  obtain ⟨n2, hn2'⟩ : ∃ n2, n2 = E.bound.length := ⟨_, rfl⟩
  obtain ⟨n3, hn3⟩ : ∃ n3, n3 = E.done.length := ⟨_, rfl⟩
  obtain ⟨n4, hn4⟩ : ∃ n4, n4 = had.length := ⟨_, rfl⟩
  have H1 := hid hn1
  have H2 := hid hn2'
  have H3 := hid hn3
  have H4 := hid hn4
  rw [← hn1] at g3 hn2 hl1
  rw [← hn2'] at g4 hn2 hl2
  rw [← hn3] at g5 hn2 hl3
  rw [← hn4]
  have hn1' : n ≤ n1 := by omega
  have hn2a : n ≤ n2 := by omega
  have hn3' : n ≤ n3 := by omega
  have HNM := hid hn2
  clear hO hb2 hrr hq hn d0 d1 d2 d3 d4 d5 c0 c1 c2 c3 c4 c5 rb rd rh hn1 hn2' hn3 hn4 gE hn2 cb cd chh
  go_wp2
  go_loopw [6, 7] (fun t i wr => ∃ k m nd : Nat, k ≤ n ∧ i = .int .i64 k ∧ t = .int .i64 m ∧ m ≤ k ∧ Hid (m = (whereN (leftB E had) k).length) ∧ wr = w2.drewN nd) (fun _ i _ => n - (intOf i).toNat)
  case atStart => exact ⟨0, 0, 0, by omega, rfl, rfl, by omega, rfl, rfl⟩
  case round =>
    obtain ⟨k, m, nd, hk, rfl, rfl, hmk, HM, rfl⟩ := hrel
    by_cases hlt : k < n
    · obtain ⟨a, x, rfl, hx, r0⟩ := HRB.out.at_int k (by rw [← H2.out]; omega)
      obtain ⟨a2, y, rfl, hy, r1⟩ := HRD.out.at_bool k (by rw [← H3.out]; omega)
      have hx64 := HBD.out x (List.mem_of_getElem? hx)
      have HF := hid (show leftB E had k = (decide (0 < x) && !y && !notedB had k) by unfold leftB; rw [hx, hy]; rfl)
      have HXX := hid hx
      have i1 : (k : Int) < (n1 : Int) := by omega
      have i2 : (k : Int) < (n2 : Int) := by omega
      have i3 : (k : Int) < (n3 : Int) := by omega
      have hk0 : (0 : Int) ≤ (k : Int) := by omega
      have HSKIP := hid (fun h : leftB E had k = false => show m = (whereN (leftB E had) (k + 1)).length by rw [whereN, if_neg (by rw [h]; decide)]; exact HM.out)
      clear hx hy
      by_cases hx0 : x = 0
      · have hb : (x == 0) = true := by rw [beq_iff_eq]; exact hx0
        have HN := hid (HSKIP.out (by rw [HF.out, hx0]; rfl))
        clear hx0
        go_wp2
        go_roundw
        case rel => exact ⟨k + 1, m, nd, by omega, by go_num, rfl, by omega, HN, rfl⟩
        case measure => simp [intOf]; omega
      have hb : (x == 0) = false := by rw [beq_eq_false_iff_ne]; exact hx0
      cases y
      case true =>
        have HN := hid (HSKIP.out (by rw [HF.out]; simp))
        clear hx0
        go_wp2
        go_roundw
        case rel => exact ⟨k + 1, m, nd, by omega, by go_num, rfl, by omega, HN, rfl⟩
        case measure => simp [intOf]; omega
      have DONE : ∀ (hnb : notedB had k = false), Hid (leftB E had k = true ∧ m < q ∧ (allS E had)[m]? = some ⟨8 + x - 1, 4, E.id, k, E.epoch⟩ ∧ m + 1 = (whereN (leftB E had) (k + 1)).length) := by
        intro hnb
        have hl : leftB E had k = true := by rw [HF.out, hnb, decide_eq_true (by omega)]; rfl
        have hg := whereN_get (leftB E had) hlt hl
        rw [← HM.out] at hg
        refine ⟨hl, by rw [← HQ.out]; exact (List.getElem?_eq_some_iff.1 hg).1, ?_, ?_⟩
        · rw [HALL.out, List.getElem?_map, hg]
          show some (outOf E (k : Int)) = _
          unfold outOf
          rw [Int.toNat_natCast, HXX.out]
          simp only [Option.getD_some]
          rw [show 7 + x = 8 + x - 1 by omega]
        · rw [whereN, if_pos hl, List.length_append, ← HM.out]; rfl
      have FIN : Hid (∀ (hnb : notedB had k = false), ∃ a3, A = some a3 ∧ m < q ∧ m + 1 = (whereN (leftB E had) (k + 1)).length ∧ w2.cell? (a3.add (m * 5)) = some (.int .i64 (8 + x - 1)) ∧ w2.cell? ⟨(a3.add (m * 5)).block, (a3.add (m * 5)).off + 1, none⟩ = some (.int .i64 4) ∧ w2.cell? ⟨(a3.add (m * 5)).block, (a3.add (m * 5)).off + 2, none⟩ = some (.int .i64 E.id) ∧ w2.cell? ⟨(a3.add (m * 5)).block, (a3.add (m * 5)).off + 3, none⟩ = some (.int .i64 k) ∧ w2.cell? ⟨(a3.add (m * 5)).block, (a3.add (m * 5)).off + 4, none⟩ = some (.int .i64 E.epoch)) := by
        intro hnb
        obtain ⟨_, h2, h3, h4⟩ := (DONE hnb).out
        obtain ⟨a3, ha3, q0, q1, q2, q3, q4⟩ := HRL.out.at_out m _ h3
        exact ⟨a3, ha3, h2, h4, q0, q1, q2, q3, q4⟩
      have e1 : IntKind.i64.wrap (8 + x) = 8 + x := IntWalk.i64_in _ (by omega)
      have e2 : IntKind.i64.wrap (8 + x - 1) = 8 + x - 1 := IntWalk.i64_in _ (by omega)
      have HX0 := hid hx0
      clear DONE hx0
      by_cases hkn : k < n4
      · obtain ⟨ah, nb, rfl, hnb, rn⟩ := HRH.out.at_bool k (by rw [← H4.out]; exact hkn)
        have i4 : (k : Int) < (n4 : Int) := by omega
        cases nb
        case true =>
          have HN := hid (HSKIP.out (by rw [HF.out]; unfold notedB; rw [hnb]; simp))
          clear hnb
          go_wp2
          go_roundw
          case rel => exact ⟨k + 1, m, nd, by omega, by go_num, rfl, by omega, HN, rfl⟩
          case measure => simp [intOf]; omega
        obtain ⟨a3, rfl, hmq, hm1, q0, q1, q2, q3, q4⟩ := FIN.out (by unfold notedB; rw [hnb]; rfl)
        have HN := hid hm1
        have hmI : (m : Int) < (q : Int) := by omega
        have hmI2 : ¬ (q : Int) ≤ (m : Int) := by omega
        have hm0 : (0 : Int) ≤ (m : Int) := by omega
        have b1 : (8 + x - 1 != 8 + x - 1) = false := bne_self_eq_false _
        clear hnb hm1
        go_wp2_with fail
        go_quiet (fail)
        go_wp2
        go_roundw
        case rel => exact ⟨k + 1, m + 1, _, by omega, by go_num, by go_num, by omega, HN, rfl⟩
        case measure => simp [intOf]; omega
      · have i4 : ¬ (k : Int) < (n4 : Int) := by omega
        obtain ⟨a3, rfl, hmq, hm1, q0, q1, q2, q3, q4⟩ := FIN.out (by unfold notedB; rw [List.getElem?_eq_none (by rw [← H4.out]; omega)]; rfl)
        have HN := hid hm1
        have hmI : (m : Int) < (q : Int) := by omega
        have hmI2 : ¬ (q : Int) ≤ (m : Int) := by omega
        have hm0 : (0 : Int) ≤ (m : Int) := by omega
        have b1 : (8 + x - 1 != 8 + x - 1) = false := bne_self_eq_false _
        clear hm1
        go_wp2_with fail
        go_quiet (fail)
        go_wp2
        go_roundw
        case rel => exact ⟨k + 1, m + 1, _, by omega, by go_num, by go_num, by omega, HN, rfl⟩
        case measure => simp [intOf]; omega
    · obtain rfl : k = n := by omega
      have hmq : m = q := by rw [HM.out]; exact HQ.out
      subst hmq
      have hbq : ((m : Int) == (m : Int)) = true := beq_self_eq_true _
      have hnm := HNM.out
      by_cases z1 : k < n1
      · have i1 : (k : Int) < (n1 : Int) := by omega
        by_cases z2 : k < n2
        · have i2 : (k : Int) < (n2 : Int) := by omega
          have i3 : ¬ (k : Int) < (n3 : Int) := by omega
          clear hnm
          go_wp2_with fail
          refine (works34_calls _).mono ?_
          rintro e w3 ⟨rfl, hb3⟩
          go_wp2
          go_ret
          exact ⟨rfl, bThen (below_drewN (bThen HBV.out HB2.out) nd) hb3⟩
        · have i2 : ¬ (k : Int) < (n2 : Int) := by omega
          clear hnm
          go_wp2_with fail
          refine (works34_calls _).mono ?_
          rintro e w3 ⟨rfl, hb3⟩
          go_wp2
          go_ret
          exact ⟨rfl, bThen (below_drewN (bThen HBV.out HB2.out) nd) hb3⟩
      · have i1 : ¬ (k : Int) < (n1 : Int) := by omega
        clear hnm
        go_wp2_with fail
        refine (works34_calls _).mono ?_
        rintro e w3 ⟨rfl, hb3⟩
        go_wp2
        go_ret
        exact ⟨rfl, bThen (below_drewN (bThen HBV.out HB2.out) nd) hb3⟩
theorem handTells_walk (W : World) (E : EntryS) (cs : Array Value) (hE : Kd.entry.K W Any E cs.toList) (_oE : okEntry E) (had : List Bool) (hv : Value) (hh : Kd.bool.slice.K W Any had [hv]) (_oh : (∀ y ∈ had, True) ∧ had.length * 1 ≤ 140737488351232) :
    Calls Try.prog 11 #[.agg cs, hv] W fun e w' => e = .returned (.bool true) ∧ Below W.heap.size W w' := by
  obtain ⟨EA, ea, EB, eb, ED, ed, h0, h1, h2, h3⟩ := entry_cells hE
  obtain rfl : cs = #[.int .i64 E.id, .int .i64 E.sched, .int .i64 E.epoch, .slice EA E.needs.length ea, .slice EB E.bound.length eb, .slice ED E.done.length ed] := by cases cs; simp_all
  exact handTellsLaw E EA EB ED ea eb ed had hv W ⟨h1, h2, h3⟩ hh
end Go.Proofs.Yteijgeofimcijaa
