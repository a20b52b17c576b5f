import Derived.Test.YtkjncmmombkllaaGreatBook2
import Derived.Test.YtkjncmmombkllaaGreatBase
import Derived.BigQuiet
/- What a record does to a book: plain. -/
namespace Go.Proofs.YtkjncmmombkllaaGreat
open Go.RowKit

theorem recOk_parts {x : RecS} (h : recOk x = true) : (1 ≤ x.kind ∧ x.kind ≤ 4) ∧ inB (hasF x.kind 1) x.task 0 15 = true ∧ inB (hasF x.kind 2) x.worker 0 63 = true ∧ inB (hasF x.kind 4) x.sched 0 7 = true ∧ inB (hasF x.kind 8) x.epoch 1 9 = true ∧ inB (hasF x.kind 16) x.needs.length 1 16 = true ∧ fieldsOk x.kind = true := by
  unfold recOk at h
  simp only [Bool.and_eq_true] at h
  obtain ⟨⟨⟨⟨⟨⟨⟨h1, _⟩, h2⟩, h3⟩, h4⟩, h5⟩, h6⟩, _⟩ := h
  exact ⟨by unfold fieldsOk at h1; exact of_decide_eq_true h1, h2, h3, h4, h5, h6, h1⟩
theorem inB_true {n lo hi : Int} (h : inB true n lo hi = true) : lo ≤ n ∧ n ≤ hi := of_decide_eq_true h
theorem recOk_accept {x : RecS} (h : recOk x = true) (hk : x.kind = 1) : 1 ≤ x.needs.length ∧ x.needs.length ≤ 16 ∧ 0 ≤ x.sched ∧ x.sched ≤ 7 := by
  obtain ⟨_, _, _, h4, _, h6, _⟩ := recOk_parts h
  rw [hk] at h4 h6
  have e4 : hasF 1 4 = true := by decide +kernel
  have e6 : hasF 1 16 = true := by decide +kernel
  rw [e4] at h4
  rw [e6] at h6
  have := inB_true h4
  have := inB_true h6
  omega
theorem recOk_task {x : RecS} (h : recOk x = true) (hk : x.kind = 2 ∨ x.kind = 3) : 0 ≤ x.task ∧ x.task ≤ 15 := by
  obtain ⟨_, h2, _⟩ := recOk_parts h
  have e2 : hasF 2 1 = true := by decide +kernel
  have e3 : hasF 3 1 = true := by decide +kernel
  rcases hk with hk | hk
  · rw [hk, e2] at h2
    exact inB_true h2
  · rw [hk, e3] at h2
    exact inB_true h2
theorem recOk_own {x : RecS} (h : recOk x = true) (hk : x.kind = 4) : 1 ≤ x.epoch ∧ x.epoch ≤ 9 := by
  obtain ⟨_, _, _, _, h5, _⟩ := recOk_parts h
  have e5 : hasF 4 8 = true := by decide +kernel
  rw [hk, e5] at h5
  exact inB_true h5
theorem acceptR_ok {x : RecS} (h : recOk x = true) (hk : x.kind = 1) : EOk (acceptR x) :=
  ⟨⟨show (1 : Int) ≤ 1 by decide, show (1 : Int) ≤ 9 by decide⟩, (recOk_accept h hk).2.1, by simp [acceptR], by simp [acceptR]⟩
theorem doneE_ok {E : EntryS} {x : RecS} (he : EOk E) (h : recOk x = true) : EOk (doneE E x) := by
  unfold doneE
  split
  · rename_i hk
    exact ⟨recOk_own h hk, he.nl, he.bl, he.dl⟩
  · split
    · exact ⟨he.ep, he.nl, by show (E.bound.set _ _).length = _; rw [List.length_set]; exact he.bl, he.dl⟩
    · exact ⟨he.ep, he.nl, he.bl, by show (E.done.set _ _).length = _; rw [List.length_set]; exact he.dl⟩
theorem whyB_rec {b : List EntryS} {x : RecS} (h : whyB b x = 0) : recOk x = true := by
  unfold whyB at h
  split at h
  · exact absurd h (by decide)
  · rename_i hr
    cases hv : recOk x
    · exact absurd hv hr
    · rfl
theorem findE_mem {b : List EntryS} {j : Int} {E : EntryS} (h : findE b j = some E) : E ∈ b := by
  unfold findE at h
  split at h
  · exact List.mem_of_getElem? h
  · cases h
/-- A book that records have made. -/
def BOk (b : List EntryS) : Prop := (∀ E ∈ b, EOk E) ∧ b.length ≤ 40
theorem BOk.nil : BOk [] := ⟨fun E h => (by simp at h), by decide⟩
theorem nextB_ok {b : List EntryS} {x : RecS} (hb : BOk b) : BOk (nextB b x) := by
  unfold nextB
  split
  · exact BOk.nil
  · rename_i h0
    have h0 : whyB b x = 0 := by omega
    have hr := whyB_rec h0
    split
    · rename_i hk
      refine ⟨fun E hE => ?_, ?_⟩
      · rcases List.mem_append.1 hE with h | h
        · exact hb.1 E h
        · rw [List.mem_singleton.1 h]; exact acceptR_ok hr hk
      · unfold whyB at h0
        rw [if_neg (by rw [hr]; decide), if_pos hk] at h0
        split at h0
        · exact absurd h0 (by decide)
        · split at h0
          · exact absurd h0 (by decide)
          · simp; omega
    · split
      · exact BOk.nil
      · rename_i E hf
        refine ⟨fun E' hE => ?_, by rw [List.length_set]; exact hb.2⟩
        rcases List.mem_or_eq_of_mem_set hE with h | h
        · exact hb.1 E' h
        · rw [h]; exact doneE_ok (hb.1 E (findE_mem hf)) hr
/-- The book of records, and how many of them it took. -/
def foldB : List RecS → List EntryS → Nat → List EntryS × Nat
  | [], b, n => (b, n)
  | x :: r, b, n => if whyB b x ≠ 0 then (b, n) else foldB r (nextB b x) (n + 1)
theorem foldB_ok : ∀ (l : List RecS) (b : List EntryS) (n : Nat), BOk b → BOk (foldB l b n).1
  | [], _, _, h => h
  | x :: r, b, n, h => by
    unfold foldB
    split
    · exact h
    · exact foldB_ok r _ _ (nextB_ok h)
end Go.Proofs.YtkjncmmombkllaaGreat
/- siskinref20.Find. -/
namespace Go.Proofs.YtkjncmmombkllaaGreat
open Go.RowKit

set_option maxHeartbeats 4000000 in
set_option maxRecDepth 100000 in
theorem rfind20_calls (b : List EntryS) (j : Int) (v : Value) (w : World) (hb : Kd.entry.slice.K w Any b [v]) :
    Calls Tryz.prog 17 #[v, .int .i64 j] w fun e w' => ∃ FA FB FD fa fb fd, e = .returned (.tuple #[.agg #[.int .i64 ((findE b j).getD zeroE).id, .int .i64 ((findE b j).getD zeroE).sched, .int .i64 ((findE b j).getD zeroE).epoch, .slice FA ((findE b j).getD zeroE).needs.length fa, .slice FB ((findE b j).getD zeroE).bound.length fb, .slice FD ((findE b j).getD zeroE).done.length fd], .bool (findE b j).isSome]) ∧ EAt w' ((findE b j).getD zeroE) FA FB FD fa fb fd ∧ Below w.heap.size w w' := by
  obtain ⟨W0, hW0⟩ : ∃ W0, W0 = w.alloc (.cells #[.int .i64 0, .int .i64 0, .int .i64 0, .slice none 0 0, .slice none 0 0, .slice none 0 0] 55) := ⟨_, rfl⟩
  have b0 := hid (show Below w.heap.size w W0 by rw [hW0]; exact bAlloc (Below.refl _ _) _)
  have HZ0 := hid (show W0.heap[w.heap.size]? = some (.cells #[.int .i64 0, .int .i64 0, .int .i64 0, .slice none 0 0, .slice none 0 0, .slice none 0 0] 55 (0, 0)) by rw [hW0]; exact heap_at rfl)
  have HK := hid (Kd.entry.slice.move (w1 := W0) (fun k hk _ => b0.out.block k hk) (Kd.entry.slice.mono (S' := fun k => k < w.heap.size) (fun _ _ h => h) hb))
  obtain ⟨A, c, he, hc, hm, _⟩ := hb
  injection he with he _
  subst he
  have hEq := hW0.symm
  obtain ⟨q, hq⟩ : ∃ q, q = b.length := ⟨_, rfl⟩
  have HQ := hid hq
  rw [← hq] at hc hm HK ⊢
  clear hW0 hq
  go_enter Tryz.func17, Tryz.ntmps17
  go_wp2_with fail
  refine (rplace_calls20 b j _ W0 (Kd.any HK.out)).mono ?_
  rintro e w1 ⟨rfl, rfl⟩
  by_cases hp : 0 ≤ placeE b j
  · obtain ⟨k, E, hpk, hx, _, hkl⟩ := idxE_some hp
    have hpk' : placeE b j = k := hpk
    have HFE := hid (findE_some hpk' hx)
    rw [hpk']
    have hk0 : (0 : Int) ≤ (k : Int) := by omega
    have hkq : (k : Int) < (q : Int) := by rw [HQ.out]; omega
    obtain ⟨a, E', EA, EB, ED, ea, eb, ed, rfl, hx', k1, k2, k3, r0, r1, r2, r3, r4, r5⟩ := (K_row HK.out).1.at_entry k hkl
    rw [hx] at hx'
    obtain rfl := Option.some.inj hx'
    obtain ⟨W', hW', _, T0, T1, T2, T3, T4, T5, TB, TN, _⟩ := set6 HZ0.out (.int .i64 E.id) (.int .i64 E.sched) (.int .i64 E.epoch) (.slice EA E.needs.length ea) (.slice EB E.bound.length eb) (.slice ED E.done.length ed)
    obtain ⟨p5, g5, l5⟩ := cells_of_block HZ0.out
    have q0 := p5 0 _ rfl
    have q1 := p5 1 _ rfl
    have q2 := p5 2 _ rfl
    have q3 := p5 3 _ rfl
    have q4 := p5 4 _ rfl
    have q5 := p5 5 _ rfl
    have u0 := g5 0
    have u1 := g5 1
    have u2 := g5 2
    have u3 := g5 3
    have u4 := g5 4
    have u5 := g5 5
    have B4 := hid (show Below w.heap.size w W' from b0.out.trans TB)
    have M1 := hid (Kd.str.slice.move (w1 := W') (fun k (hk : k < w.heap.size) _ => TN k (by omega)) k1)
    have M2 := hid (I64.slice.move (w1 := W') (fun k (hk : k < w.heap.size) _ => TN k (by omega)) k2)
    have M3 := hid (Kd.bool.slice.move (w1 := W') (fun k (hk : k < w.heap.size) _ => TN k (by omega)) k3)
    clear p5 g5 TB TN k1 k2 k3 hpk hx hp hpk' hx'
    go_wp2
    rw [← hW']
    refine bodyPost_ret (by simp [results, Tryz.results17, go_sem, T0, T1, T2, T3, T4, T5]; try rfl) rfl ?_
    rw [HFE.out]
    simp only [Option.getD_some, Option.isSome_some]
    exact ⟨EA, EB, ED, ea, eb, ed, rfl, ⟨Kd.any M1.out, Kd.any M2.out, Kd.any M3.out⟩, B4.out⟩
  · have HFE := hid (findE_none hp)
    have hpn : placeE b j = -1 := idxE_neg hp
    rw [hpn]
    obtain ⟨W', hW', _, T0, T1, T2, T3, T4, T5, TB, TN, _⟩ := set6 HZ0.out (.int .i64 0) (.int .i64 0) (.int .i64 0) (.slice none 0 0) (.slice none 0 0) (.slice none 0 0)
    obtain ⟨p5, g5, l5⟩ := cells_of_block HZ0.out
    have q0 := p5 0 _ rfl
    have q1 := p5 1 _ rfl
    have q2 := p5 2 _ rfl
    have q3 := p5 3 _ rfl
    have q4 := p5 4 _ rfl
    have q5 := p5 5 _ rfl
    have u0 := g5 0
    have u1 := g5 1
    have u2 := g5 2
    have u3 := g5 3
    have u4 := g5 4
    have u5 := g5 5
    have B4 := hid (show Below w.heap.size w W' from b0.out.trans TB)
    clear p5 g5 TB TN hp hpn
    go_wp2
    rw [← hW']
    refine bodyPost_ret (by simp [results, Tryz.results17, go_sem, T0, T1, T2, T3, T4, T5]; try rfl) rfl ?_
    rw [HFE.out]
    exact ⟨none, none, none, 0, 0, 0, rfl, ⟨⟨none, 0, rfl, Nat.le_refl _, by decide, Kd.Row.nil⟩, ⟨none, 0, rfl, Nat.le_refl _, by decide, Kd.Row.nil⟩, ⟨none, 0, rfl, Nat.le_refl _, by decide, Kd.Row.nil⟩⟩, B4.out⟩
end Go.Proofs.YtkjncmmombkllaaGreat
/- siskinref20.One of equal entries. -/
namespace Go.Proofs.YtkjncmmombkllaaGreat
open Go.RowKit

set_option maxHeartbeats 4000000 in
set_option maxRecDepth 100000 in
theorem one20_calls (E : EntryS) (EA EB ED : Option Addr) (ea eb ed : Nat) (FA FB FD : Option Addr) (fa fb fd : Nat) (w : World) (h1 : EAt w E EA EB ED ea eb ed) (h2 : EAt w E FA FB FD fa fb fd) :
    Calls Tryz.prog 18 #[.agg #[.int .i64 E.id, .int .i64 E.sched, .int .i64 E.epoch, .slice EA E.needs.length ea, .slice EB E.bound.length eb, .slice ED E.done.length ed], .agg #[.int .i64 E.id, .int .i64 E.sched, .int .i64 E.epoch, .slice FA E.needs.length fa, .slice FB E.bound.length fb, .slice FD E.done.length fd]] w fun e w' => e = .returned (.bool true) ∧ Below w.heap.size w w' := by
  obtain ⟨V, hV⟩ : ∃ V, V = (w.alloc (.cells #[.int .i64 E.id, .int .i64 E.sched, .int .i64 E.epoch, .slice EA E.needs.length ea, .slice EB E.bound.length eb, .slice ED E.done.length ed] 55)).alloc (.cells #[.int .i64 E.id, .int .i64 E.sched, .int .i64 E.epoch, .slice FA E.needs.length fa, .slice FB E.bound.length fb, .slice FD E.done.length fd] 55) := ⟨_, rfl⟩
  have hb0 : Below w.heap.size w V := by rw [hV]; exact bAlloc (bAlloc (Below.refl _ _) _) _
  have hz1 : V.heap[w.heap.size]? = some (.cells #[.int .i64 E.id, .int .i64 E.sched, .int .i64 E.epoch, .slice EA E.needs.length ea, .slice EB E.bound.length eb, .slice ED E.done.length ed] 55 (0, 0)) := by rw [hV, Below.heap_alloc _ _ _ (by simp)]; exact heap_at rfl
  have hz2 : V.heap[w.heap.size + 1]? = some (.cells #[.int .i64 E.id, .int .i64 E.sched, .int .i64 E.epoch, .slice FA E.needs.length fa, .slice FB E.bound.length fb, .slice FD E.done.length fd] 55 (0, 0)) := by rw [hV]; exact heap_at (by simp)
  have HZ1 := hid hz1
  have HZ2 := hid hz2
  have HBV := hid hb0
  have H1 := hid (show EAt V E EA EB ED ea eb ed from ⟨Kd.below h1.needs hb0, Kd.below h1.bound hb0, Kd.below h1.done hb0⟩)
  have H2 := hid (show EAt V E FA FB FD fa fb fd from ⟨Kd.below h2.needs hb0, Kd.below h2.bound hb0, Kd.below h2.done hb0⟩)
  have hEq := hV.symm
  obtain ⟨n, hn⟩ : ∃ n, n = E.done.length := ⟨_, rfl⟩
  have HN := hid hn
  rw [← hn] at HZ1 HZ2 hEq ⊢
  clear hV h1 h2 hb0 hz1 hz2 hn
  have HC1 := hid (fun (u : World) (h : Below V.heap.size V u) => (cells_of_block ((h.block w.heap.size (Array.getElem?_eq_some_iff.1 HZ1.out).1).trans HZ1.out)).1)
  have HC2 := hid (fun (u : World) (h : Below V.heap.size V u) => (cells_of_block ((h.block (w.heap.size + 1) (Array.getElem?_eq_some_iff.1 HZ2.out).1).trans HZ2.out)).1)
  have x0 := HC1.out V (Below.refl _ _) 0 _ rfl
  have x1 := HC1.out V (Below.refl _ _) 1 _ rfl
  have x2 := HC1.out V (Below.refl _ _) 2 _ rfl
  have x3 := HC1.out V (Below.refl _ _) 3 _ rfl
  have y0 := HC2.out V (Below.refl _ _) 0 _ rfl
  have y1 := HC2.out V (Below.refl _ _) 1 _ rfl
  have y2 := HC2.out V (Below.refl _ _) 2 _ rfl
  have y3 := HC2.out V (Below.refl _ _) 3 _ rfl
  go_enter Tryz.func18, Tryz.ntmps18
  go_wp2_with fail
  refine (same_calls E.needs E.needs _ _ V H1.out.needs H2.out.needs).mono ?_
  rintro e w1 ⟨rfl, hb1⟩
  rw [decide_eq_true (rfl : E.needs = E.needs)]
  have HB1 := hid hb1
  clear hb1 hEq x0 x1 x2 x3 y0 y1 y2 y3
  have x4 := HC1.out w1 HB1.out 4 _ rfl
  have y4 := HC2.out w1 HB1.out 4 _ rfl
  go_wp2_with fail
  refine (isame_calls E.bound _ _ w1 (Kd.below H1.out.bound HB1.out) (Kd.below H2.out.bound HB1.out)).mono ?_
  rintro e w2 ⟨rfl, n2, hd⟩
  have HB2 := hid (show Below V.heap.size V w2 by rw [hd]; exact below_drewN HB1.out n2)
  clear hd x4 y4
  have x5 := HC1.out w2 HB2.out 5 _ rfl
  have y5 := HC2.out w2 HB2.out 5 _ rfl
  go_wp2
  go_loopw [5] (fun i wr => ∃ k : Nat, k ≤ n ∧ i = .int .i64 k ∧ Hid (Below V.heap.size V wr)) (fun i _ => n - (intOf i).toNat)
  case atStart => exact ⟨0, by omega, rfl, HB2⟩
  case round =>
    obtain ⟨k, hk, rfl, HB⟩ := hrel
    have x5 := HC1.out wr HB.out 5 _ rfl
    have y5 := HC2.out wr HB.out 5 _ rfl
    by_cases hlt : k < n
    · obtain ⟨a, b1, rfl, hx, r0⟩ := (K_row (Kd.below H1.out.done HB.out)).1.at_bool k (by rw [← HN.out]; exact hlt)
      obtain ⟨a', b2, rfl, hx', r1⟩ := (K_row (Kd.below H2.out.done HB.out)).1.at_bool k (by rw [← HN.out]; exact hlt)
      rw [hx] at hx'
      obtain rfl := Option.some.inj hx'
      have hltI : (k : Int) < (n : Int) := by omega
      have hk0 : (0 : Int) ≤ (k : Int) := by omega
      clear hx hx'
      have HBn := hid (fun nq => below_drewN HB.out nq)
      have hmx : n ≤ 140737488355328 := by
        obtain ⟨_, _, _, _, hm, _⟩ := H1.out.done
        rw [HN.out]; exact hm
      have hw : IntKind.i64.wrap ((k : Int) + 1) = (k : Int) + 1 := IntWalk.i64_in _ (by omega)
      have e1 : (b1 != b1) = false := by simp
      have e2 : (b1 == b1) = true := by simp
      go_wp2_with fail
      go_quiet (fail)
      go_wp2
      go_roundw
      case rel => exact ⟨k + 1, by omega, by go_num, hid (HBn.out _)⟩
      case measure => simp [intOf]; omega
    · obtain rfl : k = n := by omega
      go_wp2
      go_ret
      exact ⟨rfl, bThen HBV.out HB.out⟩
set_option maxHeartbeats 4000000 in
set_option maxRecDepth 100000 in
theorem same20_calls (b : List EntryS) (v u : Value) (w : World) (h1 : Kd.entry.slice.K w Any b [v]) (h2 : Kd.entry.slice.K w Any b [u]) :
    Calls Tryz.prog 19 #[v, u] w fun e w' => e = .returned (.bool true) ∧ Below w.heap.size w w' := by
  have H1 := hid h1
  have H2 := hid h2
  obtain ⟨A, c, he, hc, hm, _⟩ := h1
  injection he with he _
  subst he
  obtain ⟨A', c', he, hc', _, _⟩ := h2
  injection he with he _
  subst he
  obtain ⟨n, hn⟩ : ∃ n, n = b.length := ⟨_, rfl⟩
  have HN := hid hn
  rw [← hn] at hm hc hc' H1 H2 ⊢
  clear hn
  go_enter Tryz.func19, Tryz.ntmps19
  go_wp2
  go_loopw [5] (fun i wr => ∃ k : Nat, k ≤ n ∧ i = .int .i64 k ∧ Hid (Below w.heap.size w wr)) (fun i _ => n - (intOf i).toNat)
  case atStart => exact ⟨0, by omega, rfl, hid (Below.refl _ _)⟩
  case round =>
    obtain ⟨k, hk, rfl, HB⟩ := hrel
    by_cases hlt : k < n
    · obtain ⟨a, E, EA, EB, ED, ea, eb, ed, rfl, hx, k1, k2, k3, r0, r1, r2, r3, r4, r5⟩ := (K_row (Kd.below H1.out HB.out)).1.at_entry k (by rw [← HN.out]; exact hlt)
      obtain ⟨a', E', FA, FB, FD, fa, fb, fd, rfl, hx', g1, g2, g3, s0, s1, s2, s3, s4, s5⟩ := (K_row (Kd.below H2.out HB.out)).1.at_entry k (by rw [← HN.out]; exact hlt)
      rw [hx] at hx'
      obtain rfl := Option.some.inj hx'
      have hltI : (k : Int) < (n : Int) := by omega
      have hk0 : (0 : Int) ≤ (k : Int) := by omega
      have hw : IntKind.i64.wrap ((k : Int) + 1) = (k : Int) + 1 := IntWalk.i64_in _ (by omega)
      have U0 := hid (Below.refl wr.heap.size wr).drew
      have HE1 := hid (show EAt wr.drew E EA EB ED ea eb ed from ⟨Kd.below k1 U0.out, Kd.below k2 U0.out, Kd.below k3 U0.out⟩)
      have HE2 := hid (show EAt wr.drew E FA FB FD fa fb fd from ⟨Kd.below g1 U0.out, Kd.below g2 U0.out, Kd.below g3 U0.out⟩)
      have HS := hid (fun (w' : World) (hb : Below wr.heap.size wr w') => show ((w'.cell? (a.add (k * 6)) = some (.int .i64 E.id) ∧ w'.cell? ⟨(a.add (k * 6)).block, (a.add (k * 6)).off + 1, none⟩ = some (.int .i64 E.sched) ∧ w'.cell? ⟨(a.add (k * 6)).block, (a.add (k * 6)).off + 2, none⟩ = some (.int .i64 E.epoch) ∧ w'.cell? ⟨(a.add (k * 6)).block, (a.add (k * 6)).off + 3, none⟩ = some (.slice EA E.needs.length ea) ∧ w'.cell? ⟨(a.add (k * 6)).block, (a.add (k * 6)).off + 4, none⟩ = some (.slice EB E.bound.length eb) ∧ w'.cell? ⟨(a.add (k * 6)).block, (a.add (k * 6)).off + 5, none⟩ = some (.slice ED E.done.length ed)) ∧ w'.cell? (a'.add (k * 6)) = some (.int .i64 E.id) ∧ w'.cell? ⟨(a'.add (k * 6)).block, (a'.add (k * 6)).off + 1, none⟩ = some (.int .i64 E.sched) ∧ w'.cell? ⟨(a'.add (k * 6)).block, (a'.add (k * 6)).off + 2, none⟩ = some (.int .i64 E.epoch) ∧ w'.cell? ⟨(a'.add (k * 6)).block, (a'.add (k * 6)).off + 3, none⟩ = some (.slice FA E.needs.length fa) ∧ w'.cell? ⟨(a'.add (k * 6)).block, (a'.add (k * 6)).off + 4, none⟩ = some (.slice FB E.bound.length fb) ∧ w'.cell? ⟨(a'.add (k * 6)).block, (a'.add (k * 6)).off + 5, none⟩ = some (.slice FD E.done.length fd)) from
        ⟨⟨(hb.cell (World.block_lt_of_cell? _ _ r0)).trans r0, (hb.cell (World.block_lt_of_cell? _ _ r1)).trans r1, (hb.cell (World.block_lt_of_cell? _ _ r2)).trans r2, (hb.cell (World.block_lt_of_cell? _ _ r3)).trans r3, (hb.cell (World.block_lt_of_cell? _ _ r4)).trans r4, (hb.cell (World.block_lt_of_cell? _ _ r5)).trans r5⟩, (hb.cell (World.block_lt_of_cell? _ _ s0)).trans s0, (hb.cell (World.block_lt_of_cell? _ _ s1)).trans s1, (hb.cell (World.block_lt_of_cell? _ _ s2)).trans s2, (hb.cell (World.block_lt_of_cell? _ _ s3)).trans s3, (hb.cell (World.block_lt_of_cell? _ _ s4)).trans s4, (hb.cell (World.block_lt_of_cell? _ _ s5)).trans s5⟩)
      have q0 := HS.out wr.drew U0.out
      clear hx hx' k1 k2 k3 g1 g2 g3 r0 r1 r2 r3 r4 r5 s0 s1 s2 s3 s4 s5
      go_wp2_with fail
      refine wp_region_held_drew (S := fun w' => (w'.cell? (a.add (k * 6)) = some (.int .i64 E.id) ∧ w'.cell? ⟨(a.add (k * 6)).block, (a.add (k * 6)).off + 1, none⟩ = some (.int .i64 E.sched) ∧ w'.cell? ⟨(a.add (k * 6)).block, (a.add (k * 6)).off + 2, none⟩ = some (.int .i64 E.epoch) ∧ w'.cell? ⟨(a.add (k * 6)).block, (a.add (k * 6)).off + 3, none⟩ = some (.slice EA E.needs.length ea) ∧ w'.cell? ⟨(a.add (k * 6)).block, (a.add (k * 6)).off + 4, none⟩ = some (.slice EB E.bound.length eb) ∧ w'.cell? ⟨(a.add (k * 6)).block, (a.add (k * 6)).off + 5, none⟩ = some (.slice ED E.done.length ed)) ∧ w'.cell? (a'.add (k * 6)) = some (.int .i64 E.id) ∧ w'.cell? ⟨(a'.add (k * 6)).block, (a'.add (k * 6)).off + 1, none⟩ = some (.int .i64 E.sched) ∧ w'.cell? ⟨(a'.add (k * 6)).block, (a'.add (k * 6)).off + 2, none⟩ = some (.int .i64 E.epoch) ∧ w'.cell? ⟨(a'.add (k * 6)).block, (a'.add (k * 6)).off + 3, none⟩ = some (.slice FA E.needs.length fa) ∧ w'.cell? ⟨(a'.add (k * 6)).block, (a'.add (k * 6)).off + 4, none⟩ = some (.slice FB E.bound.length fb) ∧ w'.cell? ⟨(a'.add (k * 6)).block, (a'.add (k * 6)).off + 5, none⟩ = some (.slice FD E.done.length fd)) (by kernel_rfl) q0 (fun hHeld => ?_)
      refine anyH_take 0 (v := ?_) rfl (by kernel_rfl) (by kernel_rfl) (by kernel_rfl) (fun _ _ _ h => h) (by rfl) hHeld ?_ ?_
      rotate_left
      · (intro w hSw; (try dsimp only at hSw); go_split_ands; go_simp; try with_reducible rfl)
      (try simp only [Act.put, List.setIfInBounds_toArray, List.set_cons_zero, List.set_cons_succ])
      refine anyH_take 1 (v := ?_) rfl (by kernel_rfl) (by kernel_rfl) (by kernel_rfl) (fun _ _ _ h => h) (by rfl) hHeld ?_ ?_
      rotate_left
      · (intro w hSw; (try dsimp only at hSw); go_split_ands; go_simp; try with_reducible rfl)
      (try simp only [Act.put, List.setIfInBounds_toArray, List.set_cons_zero, List.set_cons_succ])
      refine anyH_take 2 (v := ?_) rfl (by kernel_rfl) (by kernel_rfl) (by kernel_rfl) (fun _ _ _ h => h) (by rfl) hHeld ?_ ?_
      rotate_left
      · (intro w hSw; (try dsimp only at hSw); go_split_ands; go_simp; try with_reducible rfl)
      (try simp only [Act.put, List.setIfInBounds_toArray, List.set_cons_zero, List.set_cons_succ])
      refine anyH_take 3 (v := ?_) rfl (by kernel_rfl) (by kernel_rfl) (by kernel_rfl) (fun _ _ _ h => h) (by rfl) hHeld ?_ ?_
      rotate_left
      · (intro w hSw; (try dsimp only at hSw); go_split_ands; go_simp; try with_reducible rfl)
      (try simp only [Act.put, List.setIfInBounds_toArray, List.set_cons_zero, List.set_cons_succ])
      refine anyH_take 4 (v := ?_) rfl (by kernel_rfl) (by kernel_rfl) (by kernel_rfl) (fun _ _ _ h => h) (by rfl) hHeld ?_ ?_
      rotate_left
      · (intro w hSw; (try dsimp only at hSw); go_split_ands; go_simp; try with_reducible rfl)
      (try simp only [Act.put, List.setIfInBounds_toArray, List.set_cons_zero, List.set_cons_succ])
      refine anyH_take 5 (v := ?_) rfl (by kernel_rfl) (by kernel_rfl) (by kernel_rfl) (fun _ _ _ h => h) (by rfl) hHeld ?_ ?_
      rotate_left
      · (intro w hSw; (try dsimp only at hSw); go_split_ands; go_simp; try with_reducible rfl)
      (try simp only [Act.put, List.setIfInBounds_toArray, List.set_cons_zero, List.set_cons_succ])
      refine anyH_take 6 (v := ?_) rfl (by kernel_rfl) (by kernel_rfl) (by kernel_rfl) (fun _ _ _ h => h) (by rfl) hHeld ?_ ?_
      rotate_left
      · (intro w hSw; (try dsimp only at hSw); go_split_ands; go_simp; try with_reducible rfl)
      (try simp only [Act.put, List.setIfInBounds_toArray, List.set_cons_zero, List.set_cons_succ])
      refine anyH_take 7 (v := ?_) rfl (by kernel_rfl) (by kernel_rfl) (by kernel_rfl) (fun _ _ _ h => h) (by rfl) hHeld ?_ ?_
      rotate_left
      · (intro w hSw; (try dsimp only at hSw); go_split_ands; go_simp; try with_reducible rfl)
      (try simp only [Act.put, List.setIfInBounds_toArray, List.set_cons_zero, List.set_cons_succ])
      refine anyH_one 8 rfl (by kernel_rfl) (fun K hK => ?_)
      go_simp
      refine (one20_calls E EA EB ED ea eb ed FA FB FD fa fb fd wr.drew HE1.out HE2.out).mono ?_
      rintro e w1 ⟨rfl, hb1⟩
      have U1 := hid (bThen U0.out hb1)
      clear hb1
      go_simp
      refine hK.out _ _ (HS.out _ U1.out) (fun hHeld => ?_)
      clear hK K
      (try simp only [Act.put, List.setIfInBounds_toArray, List.set_cons_zero, List.set_cons_succ])
      refine anyH_take 9 (v := ?_) rfl (by kernel_rfl) (by kernel_rfl) (by kernel_rfl) (fun _ _ _ h => h) (by rfl) hHeld ?_ ?_
      rotate_left
      · (intro w hSw; (try dsimp only at hSw); go_split_ands; go_simp; try with_reducible rfl)
      (try simp only [Act.put, List.setIfInBounds_toArray, List.set_cons_zero, List.set_cons_succ])
      refine wpAnyH_done (by kernel_rfl) ?_ _
      go_wp2
      go_roundw
      case rel => exact ⟨k + 1, by omega, by go_num, hid (bThen HB.out U1.out)⟩
      case measure => simp [intOf]; omega
    · obtain rfl : k = n := by omega
      go_wp2
      go_ret
      exact ⟨rfl, HB.out⟩
end Go.Proofs.YtkjncmmombkllaaGreat
/- book.stepped. -/
namespace Go.Proofs.YtkjncmmombkllaaGreat
open Go.RowKit

/-! ### plain -/
/-- What becomes of an entry: as it was, where the record is refused. -/
def stepE (E : EntryS) (x : RecS) : EntryS := if whyE E x = 0 then doneE E x else E
theorem stepE_no {E : EntryS} {x : RecS} (h : whyE E x ≠ 0) : stepE E x = E := if_neg h
theorem stepE_yes {E : EntryS} {x : RecS} (h : whyE E x = 0) : stepE E x = doneE E x := if_pos h
theorem whyE_own {E : EntryS} {x : RecS} (hk : x.kind = 4) : whyE E x = if x.epoch = E.epoch + 1 then 0 else 12 := if_pos hk
theorem whyE_task {E : EntryS} {x : RecS} (hk : ¬ x.kind = 4) (h : (tasksE E : Int) ≤ x.task) : whyE E x = 8 := by unfold whyE; rw [if_neg hk, if_pos h]
theorem whyE_bind {E : EntryS} {x : RecS} (hk : x.kind = 2) (h : ¬ (tasksE E : Int) ≤ x.task) : whyE E x = if x.epoch ≠ E.epoch then 12 else if E.bound.getD x.task.toNat 0 ≠ 0 then 13 else 0 := by unfold whyE; rw [if_neg (by rw [hk]; decide), if_neg h, if_pos hk]
theorem whyE_end {E : EntryS} {x : RecS} (hk : x.kind = 3) (h : ¬ (tasksE E : Int) ≤ x.task) : whyE E x = if E.bound.getD x.task.toNat 0 = 0 then 1 else if E.done.getD x.task.toNat false then 9 else 0 := by unfold whyE; rw [if_neg (by rw [hk]; decide), if_neg h, if_neg (by rw [hk]; decide)]
theorem doneE_own {E : EntryS} {x : RecS} (hk : x.kind = 4) : doneE E x = ⟨E.id, x.sched, x.epoch, E.needs, E.bound, E.done⟩ := if_pos hk
theorem doneE_bind {E : EntryS} {x : RecS} (hk : x.kind = 2) : doneE E x = ⟨E.id, E.sched, E.epoch, E.needs, E.bound.set x.task.toNat (x.worker + 1), E.done⟩ := by unfold doneE; rw [if_neg (by rw [hk]; decide), if_pos hk]
theorem doneE_end {E : EntryS} {x : RecS} (hk : x.kind = 3) : doneE E x = ⟨E.id, E.sched, E.epoch, E.needs, E.bound, E.done.set x.task.toNat true⟩ := by unfold doneE; rw [if_neg (by rw [hk]; decide), if_neg (by rw [hk]; decide)]
theorem recOk_worker {x : RecS} (h : recOk x = true) (hk : x.kind = 2) : 0 ≤ x.worker ∧ x.worker ≤ 63 := by
  obtain ⟨_, _, h3, _⟩ := recOk_parts h
  have e2 : hasF 2 2 = true := by decide +kernel
  rw [hk, e2] at h3
  exact inB_true h3
theorem EOwn.below {w w1 : World} {B : Nat} {E : EntryS} {EA EB ED : Option Addr} {ea eb ed : Nat} (h : EOwn w B E EA EB ED ea eb ed) (hb : Below w.heap.size w w1) : EOwn w1 B E EA EB ED ea eb ed := ⟨h.needs.below hb, h.bound.below hb, h.done.below hb⟩
theorem EOwn.any {w : World} {B : Nat} {E : EntryS} {EA EB ED : Option Addr} {ea eb ed : Nat} (h : EOwn w B E EA EB ED ea eb ed) : EAt w E EA EB ED ea eb ed := ⟨Kd.any h.needs.K, Kd.any h.bound.K, Kd.any h.done.K⟩
theorem EOwn.lower {w : World} {B B' : Nat} {E : EntryS} {EA EB ED : Option Addr} {ea eb ed : Nat} (h : EOwn w B E EA EB ED ea eb ed) (hb : B' ≤ B) : EOwn w B' E EA EB ED ea eb ed := ⟨h.needs.lower hb, h.bound.lower hb, h.done.lower hb⟩
theorem Mod.of_box {F : Nat → Prop} {w w1 w2 : World} {rb : Nat} (h : Mod F w w1) (hb : Below rb w1 w2) (hr : w.heap.size ≤ rb) : Mod F w w2 :=
  h.trans (F' := fun k => rb ≤ k) ⟨hb.os, hb.tape, hb.output, hb.size, fun k _ hn => hb.block k (by omega)⟩ (fun k hk h => by omega)
theorem setCell_comm (W : World) (b i j : Nat) (u v : Value) (h : i ≠ j) : (W.setCell ⟨b, i, none⟩ u).setCell ⟨b, j, none⟩ v = (W.setCell ⟨b, j, none⟩ v).setCell ⟨b, i, none⟩ u := by
  unfold World.setCell
  congr 1
  apply Array.ext_getElem?
  intro k
  simp only [Array.getElem?_modify]
  by_cases hk : b = k
  · subst hk
    cases hw : W.heap[b]? with
    | none => simp
    | some o => cases o <;> simp [Array.setIfInBounds_comm _ _ h]
  · simp [hk]
/-- Where block k (not its own) alone is written. -/
theorem EOwn.away {w w1 : World} {B k : Nat} {E : EntryS} {EA EB ED : Option Addr} {ea eb ed : Nat} (h : EOwn w B E EA EB ED ea eb ed) (hN : ∀ j, j ≠ k → w1.heap[j]? = w.heap[j]?) (hk : ∀ v : Value, v = .slice EA E.needs.length ea ∨ v = .slice EB E.bound.length eb ∨ v = .slice ED E.done.length ed → v.ownBlock ≠ some k) : EOwn w1 B E EA EB ED ea eb ed :=
  ⟨h.needs.move (fun j hj _ => hN j (fun e => hj.elim id (fun hj => hk _ (.inl rfl) (by rw [← e]; exact hj)))) (fun _ h _ => h),
   h.bound.move (fun j hj _ => hN j (fun e => hj.elim id (fun hj => hk _ (.inr (.inl rfl)) (by rw [← e]; exact hj)))) (fun _ h _ => h),
   h.done.move (fun j hj _ => hN j (fun e => hj.elim id (fun hj => hk _ (.inr (.inr rfl)) (by rw [← e]; exact hj)))) (fun _ h _ => h)⟩
theorem EOwn.lt {w : World} {B : Nat} {E : EntryS} {EA EB ED : Option Addr} {ea eb ed : Nat} (h : EOwn w B E EA EB ED ea eb ed) (v : Value) (hv : v = .slice EA E.needs.length ea ∨ v = .slice EB E.bound.length eb ∨ v = .slice ED E.done.length ed) : ∀ k, v.ownBlock = some k → B ≤ k ∧ k < w.heap.size := by
  rcases hv with rfl | rfl | rfl
  · exact h.needs.lt
  · exact h.bound.lt
  · exact h.done.lt
set_option maxHeartbeats 4000000 in
set_option maxRecDepth 100000 in
theorem bstepped_own (E : EntryS) (EA EB ED : Option Addr) (ea eb ed : Nat) (x : RecS) (XA : Option Addr) (xc : Nat) (B : Nat) (w : World) (hE : EOwn w B E EA EB ED ea eb ed) (hB : B ≤ w.heap.size) (hep : EOk E) (hk : x.kind = 4) :
    Calls Tryz.prog 55 #[.agg #[.int .i64 E.id, .int .i64 E.sched, .int .i64 E.epoch, .slice EA E.needs.length ea, .slice EB E.bound.length eb, .slice ED E.done.length ed], .agg #[.int .i64 x.kind, .int .i64 x.job, .int .i64 x.task, .int .i64 x.worker, .int .i64 x.sched, .int .i64 x.epoch, .slice XA x.needs.length xc]] w fun e w' => e = .returned (.tuple #[.agg #[.int .i64 (stepE E x).id, .int .i64 (stepE E x).sched, .int .i64 (stepE E x).epoch, .slice EA (stepE E x).needs.length ea, .slice EB (stepE E x).bound.length eb, .slice ED (stepE E x).done.length ed], .int .i64 (whyE E x)]) ∧ EOwn w' B (stepE E x) EA EB ED ea eb ed ∧ Mod (fun j => (Value.slice EB E.bound.length eb).ownBlock = some j ∨ (Value.slice ED E.done.length ed).ownBlock = some j) w w' := by
  obtain ⟨V, hV⟩ : ∃ V, V = ((w.alloc (.cells #[.int .i64 E.id, .int .i64 E.sched, .int .i64 E.epoch, .slice EA E.needs.length ea, .slice EB E.bound.length eb, .slice ED E.done.length ed] 55)).alloc (.cells #[.int .i64 x.kind, .int .i64 x.job, .int .i64 x.task, .int .i64 x.worker, .int .i64 x.sched, .int .i64 x.epoch, .slice XA x.needs.length xc] 46)).alloc (.cells #[.int .i64 0, .int .i64 0, .int .i64 0, .slice none 0 0, .slice none 0 0, .slice none 0 0] 55) := ⟨_, rfl⟩
  have hb0 : Below w.heap.size w V := by rw [hV]; exact bAlloc (bAlloc (bAlloc (Below.refl _ _) _) _) _
  have HZ1 := hid (show V.heap[w.heap.size]? = some (.cells #[.int .i64 E.id, .int .i64 E.sched, .int .i64 E.epoch, .slice EA E.needs.length ea, .slice EB E.bound.length eb, .slice ED E.done.length ed] 55 (0, 0)) by rw [hV, Below.heap_alloc _ _ _ (by simp; omega), Below.heap_alloc _ _ _ (by simp)]; exact heap_at rfl)
  have HZ2 := hid (show V.heap[w.heap.size + 1]? = some (.cells #[.int .i64 x.kind, .int .i64 x.job, .int .i64 x.task, .int .i64 x.worker, .int .i64 x.sched, .int .i64 x.epoch, .slice XA x.needs.length xc] 46 (0, 0)) by rw [hV, Below.heap_alloc _ _ _ (by simp)]; exact heap_at (by simp))
  have HZ3 := hid (show V.heap[w.heap.size + 2]? = some (.cells #[.int .i64 0, .int .i64 0, .int .i64 0, .slice none 0 0, .slice none 0 0, .slice none 0 0] 55 (0, 0)) by rw [hV]; exact heap_at (by simp))
  have HVS := hid (show V.heap.size = w.heap.size + 3 by rw [hV]; simp)
  have HBV := hid hb0
  have HE := hid (hE.below hb0)
  have HLT := hid hE.lt
  have HEP := hid hep
  have HBW := hid hB
  have hw1 : IntKind.i64.wrap (E.epoch + 1) = E.epoch + 1 := IntWalk.i64_in _ (by have := hep.ep; omega)
  have HWH := hid (whyE_own (E := E) hk)
  have HDN := hid (doneE_own (E := E) hk)
  have hEq := hV.symm
  obtain ⟨id, sched, epoch, needs, bound, done⟩ := E
  dsimp only at *
  obtain ⟨n1, hn1⟩ : ∃ n, n = needs.length := ⟨_, rfl⟩
  obtain ⟨n2, hn2⟩ : ∃ n, n = bound.length := ⟨_, rfl⟩
  obtain ⟨n3, hn3⟩ : ∃ n, n = done.length := ⟨_, rfl⟩
  have HN := hid (And.intro hn1 (And.intro hn2 hn3))
  rw [← hn1, ← hn2, ← hn3] at HZ1 hEq HLT ⊢
  clear hV hb0 hE hep hB hn1 hn2 hn3
  obtain ⟨p1, g1, l1⟩ := cells_of_block HZ1.out
  obtain ⟨p2, g2, l2⟩ := cells_of_block HZ2.out
  have x0 := p2 0 _ rfl
  have x4 := p2 4 _ rfl
  have x5 := p2 5 _ rfl
  have y0 := p1 0 _ rfl
  have y1 := p1 1 _ rfl
  have y2 := p1 2 _ rfl
  have y3 := p1 3 _ rfl
  have y4 := p1 4 _ rfl
  have y5 := p1 5 _ rfl
  have yf1 := g1 1
  have yf2 := g1 2
  clear p1 g1 p2 g2
  rw [hk]
  rw [hk] at hEq x0
  by_cases hq : x.epoch = epoch + 1
  case neg =>
    have hne : (x.epoch != epoch + 1) = true := by rw [bne_iff_ne]; exact hq
    have hWY := HWH.out
    rw [if_neg hq] at hWY
    have HW := hid hWY
    have HS := hid (stepE_no (E := ⟨id, sched, epoch, needs, bound, done⟩) (x := x) (by rw [hWY]; decide))
    obtain ⟨W', hW', _, T0, T1, T2, T3, T4, T5, TB, TN, _⟩ := set6 HZ3.out (.int .i64 id) (.int .i64 sched) (.int .i64 epoch) (.slice EA n1 ea) (.slice EB n2 eb) (.slice ED n3 ed)
    obtain ⟨p5, g5, l5⟩ := cells_of_block HZ3.out
    have q0 := p5 0 _ rfl
    have q1 := p5 1 _ rfl
    have q2 := p5 2 _ rfl
    have q3 := p5 3 _ rfl
    have q4 := p5 4 _ rfl
    have q5 := p5 5 _ rfl
    have u0 := g5 0
    have u1 := g5 1
    have u2 := g5 2
    have u3 := g5 3
    have u4 := g5 4
    have u5 := g5 5
    have B4 := hid (show Below w.heap.size w W' from HBV.out.trans (TB.mono (by omega)))
    have K := hid (HE.out.away (k := w.heap.size + 2) TN (fun v hv hj => by have := (HE.out.lt v hv _ hj).1; rw [← HN.out.1, ← HN.out.2.1, ← HN.out.2.2] at hv; have := (HLT.out v hv _ hj).2; omega))
    clear p5 g5 TB TN hWY HWH hq
    go_enter Tryz.func55, Tryz.ntmps55
    go_wp2
    rw [← hW']
    refine bodyPost_ret (by simp [results, Tryz.results55, go_sem, T0, T1, T2, T3, T4, T5]; try rfl) rfl ?_
    rw [HS.out, HW.out]
    exact ⟨by rw [HN.out.1, HN.out.2.1, HN.out.2.2], K.out, Mod.of_below B4.out⟩
  have hne : (x.epoch != epoch + 1) = false := by rw [hq]; simp
  have hWY := HWH.out
  rw [if_pos hq] at hWY
  have HW := hid hWY
  have HS := hid ((stepE_yes (E := ⟨id, sched, epoch, needs, bound, done⟩) (x := x) hWY).trans HDN.out)
  obtain ⟨W1, hW1⟩ : ∃ W, W = ((V.setCell ⟨w.heap.size, 2, none⟩ (.int .i64 x.epoch)).setCell ⟨w.heap.size, 1, none⟩ (.int .i64 x.sched)).drew := ⟨_, rfl⟩
  have hW1b : ((V.setCell ⟨w.heap.size, 1, none⟩ (.int .i64 x.sched)).setCell ⟨w.heap.size, 2, none⟩ (.int .i64 x.epoch)).drew = W1 := by rw [hW1, setCell_comm _ _ _ _ _ _ (by decide)]
  have HZ1b := hid (show W1.heap[w.heap.size]? = some (.cells #[.int .i64 id, .int .i64 x.sched, .int .i64 x.epoch, .slice EA n1 ea, .slice EB n2 eb, .slice ED n3 ed] 55 (0, 0)) by
    rw [hW1]
    have h := heap_set (heap_set HZ1.out 2 (.int .i64 x.epoch)) 1 (.int .i64 x.sched)
    exact (show ((V.setCell ⟨w.heap.size, 2, none⟩ (.int .i64 x.epoch)).setCell ⟨w.heap.size, 1, none⟩ (.int .i64 x.sched)).heap[w.heap.size]? = _ by simpa using h))
  have HN1 := hid (show ∀ k, k ≠ w.heap.size → W1.heap[k]? = V.heap[k]? from fun k hk => by
    rw [hW1]
    exact (Below.heap_setCell _ _ _ _ hk).trans (Below.heap_setCell _ _ _ _ hk))
  have HB1 := hid (show Below w.heap.size V W1 by rw [hW1]; exact (((Below.refl _ _).setCell (p := ⟨w.heap.size, 2, none⟩) (Nat.le_refl _) _).setCell (p := ⟨w.heap.size, 1, none⟩) (Nat.le_refl _) _).drew)
  have HZ3b := hid ((HN1.out (w.heap.size + 2) (by omega)).trans HZ3.out)
  obtain ⟨p7, _, _⟩ := cells_of_block ((HN1.out (w.heap.size + 1) (by omega)).trans HZ2.out)
  have x4b := p7 4 _ rfl
  have x5b := p7 5 _ rfl
  have HE1 := hid (HE.out.away (k := w.heap.size) HN1.out (fun v hv hj => by have := (HE.out.lt v hv _ hj).1; rw [← HN.out.1, ← HN.out.2.1, ← HN.out.2.2] at hv; have := (HLT.out v hv _ hj).2; omega))
  obtain ⟨W', hW', _, T0, T1, T2, T3, T4, T5, TB, TN, _⟩ := set6 HZ3b.out (.int .i64 id) (.int .i64 x.sched) (.int .i64 x.epoch) (.slice EA n1 ea) (.slice EB n2 eb) (.slice ED n3 ed)
  obtain ⟨p5, g5, l5⟩ := cells_of_block HZ3b.out
  have q0 := p5 0 _ rfl
  have q1 := p5 1 _ rfl
  have q2 := p5 2 _ rfl
  have q3 := p5 3 _ rfl
  have q4 := p5 4 _ rfl
  have q5 := p5 5 _ rfl
  have u0 := g5 0
  have u1 := g5 1
  have u2 := g5 2
  have u3 := g5 3
  have u4 := g5 4
  have u5 := g5 5
  obtain ⟨p6, _, _⟩ := cells_of_block HZ1b.out
  have z0 := p6 0 _ rfl
  have z1 := p6 1 _ rfl
  have z2 := p6 2 _ rfl
  have z3 := p6 3 _ rfl
  have z4 := p6 4 _ rfl
  have z5 := p6 5 _ rfl
  have B4 := hid (show Below w.heap.size w W' from (HBV.out.trans HB1.out).trans (TB.mono (by omega)))
  have K := hid (HE1.out.away (k := w.heap.size + 2) TN (fun v hv hj => by rw [← HN.out.1, ← HN.out.2.1, ← HN.out.2.2] at hv; have := (HLT.out v hv _ hj).2; omega))
  have KE := hid (show EOwn W' B ⟨id, x.sched, x.epoch, needs, bound, done⟩ EA EB ED ea eb ed from ⟨K.out.needs, K.out.bound, K.out.done⟩)
  have hW1a := hW1.symm
  clear p5 g5 TB TN hWY HWH hq p6 K hW1 p7
  go_enter Tryz.func55, Tryz.ntmps55
  go_wp2_with fail
  go_region_held3 (fun w' => w'.cell? ⟨w.heap.size + 1, 4, none⟩ = some (.int .i64 x.sched) ∧ w'.cell? ⟨w.heap.size + 1, 5, none⟩ = some (.int .i64 x.epoch)) (first | exact ⟨x4, x5⟩ | exact ⟨x4b, x5b⟩ | go_keep) (fail)
  all_goals
    go_wp2
    rw [← hW']
    refine bodyPost_ret (by simp [results, Tryz.results55, go_sem, T0, T1, T2, T3, T4, T5]; try rfl) rfl ?_
    rw [HS.out, HW.out]
    exact ⟨by rw [HN.out.1, HN.out.2.1, HN.out.2.2], KE.out, Mod.of_below B4.out⟩
end Go.Proofs.YtkjncmmombkllaaGreat
