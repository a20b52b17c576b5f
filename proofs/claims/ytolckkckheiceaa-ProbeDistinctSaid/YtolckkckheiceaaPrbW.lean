import Derived.Test.YtolckkckheiceaaBookA
import Derived.Test.YtolckkckheiceaaNames
import Derived.Test.YtolckkckheiceaaDrawW
/- probe.open; siskinref33.Open. -/
namespace Go.Proofs.Ytolckkckheiceaa
open Go.RowKit

def needAt (E : EntryS) (i : Int) : ByteArray := E.needs[i.toNat]?.getD ⟨#[]⟩
def openT (E : EntryS) : List ByteArray := (openL E).map (needAt E)
theorem openL_len (E : EntryS) : (openL E).length ≤ E.bound.length := Nat.le_trans (whereN_len _ _) (Nat.min_le_right _ _)
theorem openL_get {E : EntryS} {k : Nat} {x : Int} (h : (openL E)[k]? = some x) : ∃ (j : Nat) (s : ByteArray), x = j ∧ j < E.needs.length ∧ E.needs[j]? = some s ∧ needAt E x = s := by
  obtain ⟨j, rfl, hj, _⟩ := (whereN_mem (openB E) x _).1 (List.mem_of_getElem? h)
  have hj2 : j < E.needs.length := Nat.lt_of_lt_of_le hj (Nat.min_le_left _ _)
  refine ⟨j, E.needs[j], rfl, hj2, List.getElem?_eq_getElem hj2, ?_⟩
  unfold needAt
  rw [Int.toNat_natCast, List.getElem?_eq_getElem hj2]; rfl
def openTk (E : EntryS) (k : Nat) : List ByteArray := ((openL E).take k).map (needAt E)
theorem openTk_len (E : EntryS) (k : Nat) : (openTk E k).length ≤ k := by unfold openTk; simp; omega
theorem openT_snoc {E : EntryS} {k : Nat} {x : Int} (h : (openL E)[k]? = some x) : openTk E (k + 1) = openTk E k ++ [needAt E x] := by
  unfold openTk
  rw [take_snoc h, List.map_append]; rfl
theorem openT_mem {E : EntryS} {s : ByteArray} (h : s ∈ openT E) : s ∈ E.needs := by
  obtain ⟨i, hi, rfl⟩ := List.mem_map.1 h
  obtain ⟨k, hk⟩ := List.getElem?_of_mem hi
  obtain ⟨j, s, _, _, h1, h2⟩ := openL_get hk
  rw [h2]; exact List.mem_of_getElem? h1
set_option maxHeartbeats 4000000 in
set_option maxRecDepth 100000 in
theorem probeOpen_calls (E : EntryS) (EA EB ED : Option Addr) (ea eb ed : Nat) (w : World) (hE : EAt w E EA EB ED ea eb ed) (hbl : E.bound.length ≤ 1000) :
    Calls Try.prog 66 #[.agg #[.int .i64 E.id, .int .i64 E.sched, .int .i64 E.epoch, .slice EA E.needs.length ea, .slice EB E.bound.length eb, .slice ED E.done.length ed]] w fun e w' => ∃ v, e = .returned v ∧ Own Kd.str 9 w' w.heap.size NoT v (openT E) ∧ Below w.heap.size w w' := by
  obtain ⟨V, hV⟩ : ∃ V, V = w.alloc (.cells #[.int .i64 E.id, .int .i64 E.sched, .int .i64 E.epoch, .slice EA E.needs.length ea, .slice EB E.bound.length eb, .slice ED E.done.length ed] 29) := ⟨_, rfl⟩
  obtain ⟨hb0, hbx⟩ := rowBox w E EA EB ED ea eb ed V hV hE
  have HBV := hid hb0
  have HBX := hid hbx
  obtain ⟨⟨c0, c1, c2, c3, c4, c5⟩, _, _⟩ := hbx
  have HV := hid hV
  have HOL := hid (openL_len E)
  have HBL := hid hbl
  clear hV hE hb0 hbl
  go_enter Try.func66, Try.ntmps66
  go_wp2_with fail
  rw [← HV.out]
  refine (bookOpen_calls E EA EB ED ea eb ed V HBX.out.2.1 HBL.out).mono ?_
  rintro e w1 ⟨v1, rfl, hO, hb1⟩
  obtain ⟨A1, n1, c1', rfl, hn1, hq2⟩ := hO.shape'
  have HO1 := hid hO
  have HB1 := hid hb1
  have HN1 := hid hn1
  have hn1k : n1 ≤ 1000 := by have := HOL.out; have := HBL.out; omega
  clear hO hb1 hq2 hn1
  go_wp2_with fail
  go_loopw [3, 9] (fun o i wr => ∃ k : Nat, k ≤ n1 ∧ i = .int .i64 k ∧ Hid (Own Kd.str 9 wr w1.heap.size NoT o (openTk E k)) ∧ Hid (Below w1.heap.size w1 wr)) (fun _ i _ => n1 - (intOf i).toNat)
  case atStart => exact ⟨0, by omega, rfl, hid (by simpa [openTk] using Own.nil _ _ _ _ _), hid (Below.refl _ _)⟩
  case round =>
    obtain ⟨k, hk, rfl, HO, HB⟩ := hrel
    obtain ⟨A3, n3, c3', rfl, hq1, hq2⟩ := HO.out.shape'
    have hn3 : n3 ≤ k := by rw [hq1]; exact openTk_len E k
    clear hq1 hq2
    by_cases hlt : k < n1
    · have hB1 := bThen HB1.out HB.out
      obtain ⟨⟨d0, d1, d2, d3, d4, d5⟩, dE, _⟩ := HBX.out.below hB1
      obtain ⟨a, x, rfl, hx, r0⟩ := (K_row (HO1.out.below HB.out).K).1.at_int k (by rw [← HN1.out]; exact hlt)
      obtain ⟨j, s, rfl, hjn, hs, hna⟩ := openL_get hx
      obtain ⟨a2, s2, rfl, hs2, r1⟩ := (K_row dE.needs).1.at_str j hjn
      rw [hs] at hs2
      obtain rfl := Option.some.inj hs2
      have HN := hid (openT_snoc hx)
      rw [hna] at HN
      have hltI : (k : Int) < (n1 : Int) := by omega
      have hk0 : (0 : Int) ≤ (k : Int) := by omega
      have hjI : (j : Int) < (E.needs.length : Int) := by omega
      have hj0 : (0 : Int) ≤ (j : Int) := by omega
      have hln := openTk_len E k
      clear hx hs hna hs2 dE hB1 d0 d1 d2 d4 d5
      have hO := HO.out
      have hB := HB.out
      go_wp2_with (at_builtin; go_must (refine append_arm Kd.str w1.heap.size rfl _ _ 22 9 _ 16 rfl Try.underlying22 Try.infoStr rfl (by decide) (by decide) (.slice A3 n3 c3') _ s [.string s] NoT NoT rfl rfl rfl (fun _ h => h.elim) hO hB hB.size (by omega) ?_))
      intro v1 w2 hO1 hb1 _ _
      go_wp2
      go_roundw
      case rel => exact ⟨k + 1, by omega, by go_num, by rw [HN.out]; exact hO1, hb1⟩
      case measure => simp [intOf]; omega
    · obtain rfl : k = n1 := by omega
      have HF := hid (show openTk E k = openT E by unfold openTk; rw [List.take_of_length_le (by rw [← HN1.out]; exact Nat.le_refl _)]; rfl)
      go_wp2
      go_ret
      exact ⟨_, rfl, by rw [← HF.out]; exact HO.out.lower (Nat.le_trans HBV.out.size HB1.out.size), bThen (bThen HBV.out HB1.out) HB.out⟩
set_option maxHeartbeats 4000000 in
set_option maxRecDepth 100000 in
theorem ropen33_calls (E : EntryS) (EA EB ED : Option Addr) (ea eb ed : Nat) (w : World) (hE : EAt w E EA EB ED ea eb ed) (hbl : E.bound.length ≤ 1000) :
    Calls Try.prog 26 #[.agg #[.int .i64 E.id, .int .i64 E.sched, .int .i64 E.epoch, .slice EA E.needs.length ea, .slice EB E.bound.length eb, .slice ED E.done.length ed]] w fun e w' => ∃ v, e = .returned v ∧ Own Kd.str 9 w' w.heap.size NoT v (openT E) ∧ Below w.heap.size w w' := by
  obtain ⟨V, hV⟩ : ∃ V, V = w.alloc (.cells #[.int .i64 E.id, .int .i64 E.sched, .int .i64 E.epoch, .slice EA E.needs.length ea, .slice EB E.bound.length eb, .slice ED E.done.length ed] 29) := ⟨_, rfl⟩
  obtain ⟨hb0, hbx⟩ := rowBox w E EA EB ED ea eb ed V hV hE
  have HBV := hid hb0
  have HBX := hid hbx
  obtain ⟨⟨c0, c1, c2, c3, c4, c5⟩, _, _⟩ := hbx
  have HV := hid hV
  have HOL := hid (openL_len E)
  have HBL := hid hbl
  clear hV hE hb0 hbl
  go_enter Try.func26, Try.ntmps26
  go_wp2_with fail
  rw [← HV.out]
  refine (ropen_calls E EA EB ED ea eb ed V HBX.out.2.1 HBL.out).mono ?_
  rintro e w1 ⟨v1, rfl, hO, hb1⟩
  obtain ⟨A1, n1, c1', rfl, hn1, hq2⟩ := hO.shape'
  have HO1 := hid hO
  have HB1 := hid hb1
  have HN1 := hid hn1
  have hn1k : n1 ≤ 1000 := by have := HOL.out; have := HBL.out; omega
  clear hO hb1 hq2 hn1
  go_wp2_with fail
  go_loopw [3, 5] (fun o i wr => ∃ k : Nat, k ≤ n1 ∧ i = .int .i64 k ∧ Hid (Own Kd.str 9 wr w1.heap.size NoT o (openTk E k)) ∧ Hid (Below w1.heap.size w1 wr)) (fun _ i _ => n1 - (intOf i).toNat)
  case atStart => exact ⟨0, by omega, rfl, hid (by simpa [openTk] using Own.nil _ _ _ _ _), hid (Below.refl _ _)⟩
  case round =>
    obtain ⟨k, hk, rfl, HO, HB⟩ := hrel
    obtain ⟨A3, n3, c3', rfl, hq1, hq2⟩ := HO.out.shape'
    have hn3 : n3 ≤ k := by rw [hq1]; exact openTk_len E k
    clear hq1 hq2
    by_cases hlt : k < n1
    · have hltI : (k : Int) < (n1 : Int) := by omega
      obtain ⟨x, hx⟩ : ∃ x, (openL E)[k]? = some x := ⟨_, List.getElem?_eq_getElem (by rw [← HN1.out]; exact hlt)⟩
      obtain ⟨j, s, rfl, hjn, hs, hna⟩ := openL_get hx
      have HN := hid (openT_snoc hx)
      rw [hna] at HN
      have HX := hid hx
      have HSS := hid hs
      obtain ⟨an, han⟩ : ∃ an, EA = some an := by
        obtain ⟨rb, _⟩ := K_row HBX.out.2.1.needs
        obtain ⟨an, _, h, _⟩ := rb.at_str j hjn
        exact ⟨an, h⟩
      obtain ⟨al, hal⟩ : ∃ al, A1 = some al := by
        obtain ⟨al, _, h, _⟩ := (K_row HO1.out.K).1.at_int k (by rw [← HN1.out]; exact hlt)
        exact ⟨al, h⟩
      subst han
      subst hal
      have HS := hid (fun (u : World) (hb : Below w1.heap.size w1 u) => show (u.cell? ⟨w.heap.size, 3, none⟩ = some (.slice (some an) E.needs.length ea) ∧ u.cell? (al.add k) = some (.int .i64 j) ∧ u.cell? (an.add j) = some (.string s)) from by
        obtain ⟨⟨_, _, _, d3, _, _⟩, dE, _⟩ := HBX.out.below (bThen HB1.out hb)
        obtain ⟨a, x, ha, hx, r0⟩ := (K_row (HO1.out.below hb).K).1.at_int k (by rw [← HN1.out]; exact hlt)
        cases ha
        rw [HX.out] at hx
        obtain rfl := Option.some.inj hx
        obtain ⟨a2, s2, ha2, hs2, r1⟩ := (K_row dE.needs).1.at_str j hjn
        cases ha2
        rw [HSS.out] at hs2
        obtain rfl := Option.some.inj hs2
        exact ⟨d3, r0, r1⟩)
      have hk0 : (0 : Int) ≤ (k : Int) := by omega
      have hjI : (j : Int) < (E.needs.length : Int) := by omega
      have hj0 : (0 : Int) ≤ (j : Int) := by omega
      have hln := openTk_len E k
      clear hx hs hna
      go_wp2_with fail
      refine wp_region_held_drew (S := fun w' => w'.cell? ⟨w.heap.size, 3, none⟩ = some (.slice (some an) E.needs.length ea) ∧ w'.cell? (al.add k) = some (.int .i64 j) ∧ w'.cell? (an.add j) = some (.string s)) (by kernel_rfl) (HS.out _ HB.out.drew) (fun hHeld => ?_)
      refine anyH_take 0 (v := ?_) rfl (by kernel_rfl) (by kernel_rfl) (by kernel_rfl) (fun _ _ _ h => h) (by rfl) hHeld ?_ ?_
      rotate_left
      · (intro w hSw; (try dsimp only at hSw); go_split_ands; go_simp; try with_reducible rfl)
      (try simp only [Act.put, List.setIfInBounds_toArray, List.set_cons_zero, List.set_cons_succ])
      refine anyH_take 1 (v := ?_) rfl (by kernel_rfl) (by kernel_rfl) (by kernel_rfl) (fun _ _ _ h => h) (by rfl) hHeld ?_ ?_
      rotate_left
      · (intro w hSw; (try dsimp only at hSw); go_split_ands; go_simp; try with_reducible rfl)
      (try simp only [Act.put, List.setIfInBounds_toArray, List.set_cons_zero, List.set_cons_succ])
      refine anyH_take 2 (v := ?_) rfl (by kernel_rfl) (by kernel_rfl) (by kernel_rfl) (fun _ _ _ h => h) (by rfl) hHeld ?_ ?_
      rotate_left
      · (intro w hSw; (try dsimp only at hSw); go_split_ands; go_simp; try with_reducible rfl)
      (try simp only [Act.put, List.setIfInBounds_toArray, List.set_cons_zero, List.set_cons_succ])
      refine anyH_take 3 (v := ?_) rfl (by kernel_rfl) (by kernel_rfl) (by kernel_rfl) (fun _ _ _ h => h) (by rfl) hHeld ?_ ?_
      rotate_left
      · (intro w hSw; (try dsimp only at hSw); go_split_ands; go_simp; try with_reducible rfl)
      (try simp only [Act.put, List.setIfInBounds_toArray, List.set_cons_zero, List.set_cons_succ])
      refine anyH_take 4 (v := ?_) rfl (by kernel_rfl) (by kernel_rfl) (by kernel_rfl) (fun _ _ _ h => h) (by rfl) hHeld ?_ ?_
      rotate_left
      · (intro w hSw; (try dsimp only at hSw); go_split_ands; go_simp; try with_reducible rfl)
      (try simp only [Act.put, List.setIfInBounds_toArray, List.set_cons_zero, List.set_cons_succ])
      refine anyH_take 5 (v := ?_) rfl (by kernel_rfl) (by kernel_rfl) (by kernel_rfl) (fun _ _ _ h => h) (by rfl) hHeld ?_ ?_
      rotate_left
      · (intro w hSw; (try dsimp only at hSw); go_split_ands; go_simp; try with_reducible rfl)
      (try simp only [Act.put, List.setIfInBounds_toArray, List.set_cons_zero, List.set_cons_succ])
      refine anyH_take 6 (v := ?_) rfl (by kernel_rfl) (by kernel_rfl) (by kernel_rfl) (fun _ _ _ h => h) (by rfl) hHeld ?_ ?_
      rotate_left
      · (intro w hSw; (try dsimp only at hSw); go_split_ands; go_simp; try with_reducible rfl)
      (try simp only [Act.put, List.setIfInBounds_toArray, List.set_cons_zero, List.set_cons_succ])
      refine anyH_take 7 (v := ?_) rfl (by kernel_rfl) (by kernel_rfl) (by kernel_rfl) (fun _ _ _ h => h) (by rfl) hHeld ?_ ?_
      rotate_left
      · (intro w hSw; (try dsimp only at hSw); go_split_ands; go_simp; try with_reducible rfl)
      (try simp only [Act.put, List.setIfInBounds_toArray, List.set_cons_zero, List.set_cons_succ])
      refine anyH_take 8 (v := ?_) rfl (by kernel_rfl) (by kernel_rfl) (by kernel_rfl) (fun _ _ _ h => h) (by rfl) hHeld ?_ ?_
      rotate_left
      · (intro w hSw; (try dsimp only at hSw); go_split_ands; go_simp; try with_reducible rfl)
      (try simp only [Act.put, List.setIfInBounds_toArray, List.set_cons_zero, List.set_cons_succ])
      refine anyH_one 9 rfl (by kernel_rfl) (fun K hK => ?_)
      go_simp
      have HAL := hid (show Below wr.heap.size wr (wr.drew.alloc (.cells #[.string s] 9)) from (Below.refl wr.heap.size wr).drew.alloc (Nat.le_refl _) _)
      refine hK.out _ _ (HS.out _ (bThen HB.out HAL.out)) (fun hHeld => ?_)
      clear hK K
      (try simp only [Act.put, List.setIfInBounds_toArray, List.set_cons_zero, List.set_cons_succ])
      refine anyH_one 10 rfl (by kernel_rfl) (fun K hK => ?_)
      refine appends_step Kd.str w1.heap.size rfl _ _ 22 9 _ 16 rfl Try.underlying22 Try.infoStr rfl (by decide) (by decide) (.slice A3 n3 c3') (openTk E k) [s] (some ⟨wr.heap.size, 0, none⟩) 1 1 NoT Any NoT rfl rfl rfl (K_row (Kd.any (K_newS wr.drew wr.heap.size rfl 9 [s] (by simp)))).1 (fun _ _ h => h) (fun _ h => h.elim) (HO.out.below HAL.out) (bThen HB.out HAL.out).size (by omega) ?_
      intro v1 w4 hO4 hg4 _
      have HB4 := hid ((bThen HB.out HAL.out).grown hg4 (bThen HB.out HAL.out).size (fun k hk => ((HO.out.below HAL.out).lt k hk).1))
      refine hK.out _ _ (HS.out _ HB4.out) (fun hHeld => ?_)
      clear hK K
      (try simp only [Act.put, List.setIfInBounds_toArray, List.set_cons_zero, List.set_cons_succ])
      refine anyH_take 11 (v := ?_) rfl (by kernel_rfl) (by kernel_rfl) (by kernel_rfl) (fun _ _ _ h => h) (by rfl) hHeld ?_ ?_
      rotate_left
      · (intro w hSw; (try dsimp only at hSw); go_split_ands; go_simp; try with_reducible rfl)
      (try simp only [Act.put, List.setIfInBounds_toArray, List.set_cons_zero, List.set_cons_succ])
      refine wpAnyH_done (by kernel_rfl) ?_ _
      go_wp2
      go_roundw
      case rel => first | exact ⟨k + 1, by omega, by go_num, by rw [HN.out]; exact hO4, HB4⟩ | ((repeat apply Exists.intro); exact ⟨⟨k + 1, by omega, by go_num, by rw [HN.out]; exact hO4, HB4⟩, rfl⟩)
      case measure => simp [intOf]; omega
    · obtain rfl : k = n1 := by omega
      have HF := hid (show openTk E k = openT E by unfold openTk; rw [List.take_of_length_le (by rw [← HN1.out]; exact Nat.le_refl _)]; rfl)
      go_wp2
      go_ret
      exact ⟨_, rfl, by rw [← HF.out]; exact HO.out.lower (Nat.le_trans HBV.out.size HB1.out.size), bThen (bThen HBV.out HB1.out) HB.out⟩
end Go.Proofs.Ytolckkckheiceaa
/- probe.Told; siskinref33.Told. -/
namespace Go.Proofs.Ytolckkckheiceaa
open Go.RowKit

def okW (x : Int) : Bool := decide (0 ≤ x) && decide (x < 64)
def toldOf (E : EntryS) (x : Int) : OutS := ⟨8 + x, 1, E.id, 0, E.epoch⟩
def toldS (E : EntryS) (ws : List Int) : List OutS := (ws.filter okW).map (toldOf E)
theorem toldS_snoc (E : EntryS) {ws : List Int} {k : Nat} {x : Int} (h : ws[k]? = some x) : toldS E (ws.take (k + 1)) = toldS E (ws.take k) ++ (if okW x then [toldOf E x] else []) := by
  unfold toldS
  rw [take_snoc h, List.filter_append, List.map_append, List.filter_cons]
  split <;> simp
theorem toldS_len (E : EntryS) (ws : List Int) (k : Nat) : (toldS E (ws.take k)).length ≤ k := by
  unfold toldS
  rw [List.length_map]
  exact Nat.le_trans (List.length_filter_le _ _) (by rw [List.length_take]; omega)
set_option maxHeartbeats 4000000 in
set_option maxRecDepth 100000 in
theorem told_calls (E : EntryS) (EA EB ED : Option Addr) (ea eb ed : Nat) (ws : List Int) (wv : Value) (w : World) (hE : EAt w E EA EB ED ea eb ed) (hw : I64.slice.K w Any ws [wv]) (hwl : ws.length ≤ 1000) :
    Calls Try.prog 28 #[.agg #[.int .i64 E.id, .int .i64 E.sched, .int .i64 E.epoch, .slice EA E.needs.length ea, .slice EB E.bound.length eb, .slice ED E.done.length ed], wv] w fun e w' => ∃ v, e = .returned v ∧ Own Kd.out 118 w' w.heap.size NoT v (toldS E ws) ∧ Below w.heap.size w w' := by
  obtain ⟨V, hV⟩ : ∃ V, V = w.alloc (.cells #[.int .i64 E.id, .int .i64 E.sched, .int .i64 E.epoch, .slice EA E.needs.length ea, .slice EB E.bound.length eb, .slice ED E.done.length ed] 29) := ⟨_, rfl⟩
  obtain ⟨hb0, hbx⟩ := rowBox w E EA EB ED ea eb ed V hV hE
  have HBV := hid hb0
  have HBX := hid hbx
  obtain ⟨⟨c0, c1, c2, c3, c4, c5⟩, _, _⟩ := hbx
  have HV := hid hV
  have HW := hid (Kd.below hw hb0)
  obtain ⟨WA, wc, he, hwc, _, _⟩ := hw
  injection he with he _
  subst he
  obtain ⟨q, hq⟩ : ∃ q, q = ws.length := ⟨_, rfl⟩
  have HQ := hid hq
  rw [← hq] at hwl ⊢
  clear hV hE hb0 hq hwc
  go_enter Try.func28, Try.ntmps28
  go_wp2
  rw [← HV.out]
  go_loopw [5, 10] (fun o i wr => ∃ k : Nat, k ≤ q ∧ i = .int .i64 k ∧ Hid (Own Kd.out 118 wr V.heap.size NoT o (toldS E (ws.take k))) ∧ Hid (Below V.heap.size V wr)) (fun _ i _ => q - (intOf i).toNat)
  case atStart => exact ⟨0, by omega, rfl, hid (by simpa [toldS] using Own.nil _ _ _ _ _), hid (Below.refl _ _)⟩
  case round =>
    obtain ⟨k, hk, rfl, HO, HB⟩ := hrel
    obtain ⟨A3, n3, c3', rfl, hq1, hq2⟩ := HO.out.shape'
    clear hq1 hq2
    by_cases hlt : k < q
    · obtain ⟨⟨d0, d1, d2, d3, d4, d5⟩, _, _⟩ := HBX.out.below HB.out
      obtain ⟨a, x, rfl, hx, r0⟩ := (K_row (Kd.below HW.out HB.out)).1.at_int k (by rw [← HQ.out]; exact hlt)
      have HN := hid (toldS_snoc E hx)
      have hltI : (k : Int) < (q : Int) := by omega
      have hk0 : (0 : Int) ≤ (k : Int) := by omega
      have hln := toldS_len E ws k
      clear hx d1 d3 d4 d5
      by_cases h0 : x < 0
      · have HN2 := hid (show toldS E (ws.take (k + 1)) = toldS E (ws.take k) by rw [HN.out, if_neg (by unfold okW; simp; omega), List.append_nil])
        go_wp2
        go_roundw
        case rel => exact ⟨k + 1, by omega, by go_num, by rw [HN2.out]; exact HO.out, HB.out⟩
        case measure => simp [intOf]; omega
      · by_cases h1 : 64 ≤ x
        · have HN2 := hid (show toldS E (ws.take (k + 1)) = toldS E (ws.take k) by rw [HN.out, if_neg (by unfold okW; simp; omega), List.append_nil])
          go_wp2
          go_roundw
          case rel => exact ⟨k + 1, by omega, by go_num, by rw [HN2.out]; exact HO.out, HB.out⟩
          case measure => simp [intOf]; omega
        · have HN2 := hid (show toldS E (ws.take (k + 1)) = toldS E (ws.take k) ++ [⟨8 + x, 1, E.id, 0, E.epoch⟩] by rw [HN.out, if_pos (by unfold okW; simp; omega)]; rfl)
          have e1 : IntKind.i64.wrap (8 + x) = 8 + x := IntWalk.i64_in _ (by omega)
          have hO := HO.out
          have hB := HB.out
          go_wp2_with (at_builtin; go_must (refine append_arm Kd.out V.heap.size rfl _ _ 54 118 _ 40 rfl Try.underlying54 Try.infoOut rfl (by decide) (by decide) (.slice A3 n3 c3') _ ⟨8 + x, 1, E.id, 0, E.epoch⟩ [.int .i64 (8 + x), .int .i64 1, .int .i64 E.id, .int .i64 0, .int .i64 E.epoch] NoT NoT rfl rfl rfl (fun _ h => h.elim) hO hB hB.size (by omega) ?_))
          intro v1 w2 hO1 hb1 _ _
          go_wp2
          go_roundw
          case rel => exact ⟨k + 1, by omega, by go_num, by rw [HN2.out]; exact hO1, hb1⟩
          case measure => simp [intOf]; omega
    · obtain rfl : k = q := by omega
      have HF := hid (show toldS E (ws.take k) = toldS E ws by rw [List.take_of_length_le (by rw [← HQ.out]; exact Nat.le_refl _)])
      go_wp2
      go_ret
      exact ⟨_, rfl, by rw [← HF.out]; exact HO.out.lower HBV.out.size, bThen HBV.out HB.out⟩
set_option maxHeartbeats 4000000 in
set_option maxRecDepth 100000 in
theorem rtold_calls (E : EntryS) (EA EB ED : Option Addr) (ea eb ed : Nat) (ws : List Int) (wv : Value) (w : World) (hE : EAt w E EA EB ED ea eb ed) (hw : I64.slice.K w Any ws [wv]) (hwl : ws.length ≤ 1000) :
    Calls Try.prog 29 #[.agg #[.int .i64 E.id, .int .i64 E.sched, .int .i64 E.epoch, .slice EA E.needs.length ea, .slice EB E.bound.length eb, .slice ED E.done.length ed], wv] w fun e w' => ∃ v, e = .returned v ∧ Own Kd.out 118 w' w.heap.size NoT v (toldS E ws) ∧ Below w.heap.size w w' := by
  obtain ⟨V, hV⟩ : ∃ V, V = w.alloc (.cells #[.int .i64 E.id, .int .i64 E.sched, .int .i64 E.epoch, .slice EA E.needs.length ea, .slice EB E.bound.length eb, .slice ED E.done.length ed] 29) := ⟨_, rfl⟩
  obtain ⟨hb0, hbx⟩ := rowBox w E EA EB ED ea eb ed V hV hE
  have HBV := hid hb0
  have HBX := hid hbx
  obtain ⟨⟨c0, c1, c2, c3, c4, c5⟩, _, _⟩ := hbx
  have HV := hid hV
  have HW := hid (Kd.below hw hb0)
  obtain ⟨WA, wc, he, hwc, _, _⟩ := hw
  injection he with he _
  subst he
  obtain ⟨q, hq⟩ : ∃ q, q = ws.length := ⟨_, rfl⟩
  have HQ := hid hq
  rw [← hq] at hwl ⊢
  clear hV hE hb0 hq hwc
  go_enter Try.func29, Try.ntmps29
  go_wp2
  rw [← HV.out]
  go_loopw [5, 6] (fun o i wr => ∃ k : Nat, k ≤ q ∧ i = .int .i64 k ∧ Hid (Own Kd.out 118 wr V.heap.size NoT o (toldS E (ws.take k))) ∧ Hid (Below V.heap.size V wr)) (fun _ i _ => q - (intOf i).toNat)
  case atStart => exact ⟨0, by omega, rfl, hid (by simpa [toldS] using Own.nil _ _ _ _ _), hid (Below.refl _ _)⟩
  case round =>
    obtain ⟨k, hk, rfl, HO, HB⟩ := hrel
    obtain ⟨A3, n3, c3', rfl, hq1, hq2⟩ := HO.out.shape'
    clear hq1 hq2
    by_cases hlt : k < q
    · obtain ⟨⟨d0, d1, d2, d3, d4, d5⟩, _, _⟩ := HBX.out.below HB.out
      obtain ⟨a, x, rfl, hx, r0⟩ := (K_row (Kd.below HW.out HB.out)).1.at_int k (by rw [← HQ.out]; exact hlt)
      have HX := hid hx
      have HN := hid (toldS_snoc E hx)
      have hltI : (k : Int) < (q : Int) := by omega
      have hk0 : (0 : Int) ≤ (k : Int) := by omega
      have hln := toldS_len E ws k
      clear hx d1 d3 d4 d5
      by_cases h0 : x < 0
      · have h0' : ¬ (0 ≤ x) := by omega
        have HN2 := hid (show toldS E (ws.take (k + 1)) = toldS E (ws.take k) by rw [HN.out, if_neg (by unfold okW; simp; omega), List.append_nil])
        go_wp2
        go_roundw
        case rel => exact ⟨k + 1, by omega, by go_num, by rw [HN2.out]; exact HO.out, HB.out⟩
        case measure => simp [intOf]; omega
      · have h0' : 0 ≤ x := by omega
        by_cases h1 : 64 ≤ x
        · have h1' : ¬ x < 64 := by omega
          have HN2 := hid (show toldS E (ws.take (k + 1)) = toldS E (ws.take k) by rw [HN.out, if_neg (by unfold okW; simp; omega), List.append_nil])
          go_wp2
          go_roundw
          case rel => exact ⟨k + 1, by omega, by go_num, by rw [HN2.out]; exact HO.out, HB.out⟩
          case measure => simp [intOf]; omega
        · have h1' : x < 64 := by omega
          have HN2 := hid (show toldS E (ws.take (k + 1)) = toldS E (ws.take k) ++ [⟨8 + x, 1, E.id, 0, E.epoch⟩] by rw [HN.out, if_pos (by unfold okW; simp; omega)]; rfl)
          have e1 : IntKind.i64.wrap (8 + x) = 8 + x := IntWalk.i64_in _ (by omega)
          have HS := hid (fun (u : World) (hb : Below V.heap.size V u) => show (u.cell? ⟨w.heap.size, 0, none⟩ = some (.int .i64 E.id) ∧ u.cell? ⟨w.heap.size, 2, none⟩ = some (.int .i64 E.epoch) ∧ u.cell? (a.add k) = some (.int .i64 x)) from by
            obtain ⟨⟨d0, _, d2, _, _, _⟩, _, _⟩ := HBX.out.below hb
            obtain ⟨a', x', ha', hx', r0'⟩ := (K_row (Kd.below HW.out hb)).1.at_int k (by rw [← HQ.out]; exact hlt)
            cases ha'
            rw [HX.out] at hx'
            obtain rfl := Option.some.inj hx'
            exact ⟨d0, d2, r0'⟩)
          go_wp2_with fail
          refine wp_region_held_drew (S := fun w' => w'.cell? ⟨w.heap.size, 0, none⟩ = some (.int .i64 E.id) ∧ w'.cell? ⟨w.heap.size, 2, none⟩ = some (.int .i64 E.epoch) ∧ w'.cell? (a.add k) = some (.int .i64 x)) (by kernel_rfl) (HS.out _ HB.out.drew) (fun hHeld => ?_)
          refine anyH_take 0 (v := ?_) rfl (by kernel_rfl) (by kernel_rfl) (by kernel_rfl) (fun _ _ _ h => h) (by rfl) hHeld ?_ ?_
          rotate_left
          · (intro w hSw; (try dsimp only at hSw); go_split_ands; go_simp; try with_reducible rfl)
          (try simp only [Act.put, List.setIfInBounds_toArray, List.set_cons_zero, List.set_cons_succ])
          refine anyH_take 1 (v := ?_) rfl (by kernel_rfl) (by kernel_rfl) (by kernel_rfl) (fun _ _ _ h => h) (by rfl) hHeld ?_ ?_
          rotate_left
          · (intro w hSw; (try dsimp only at hSw); go_split_ands; go_simp; try with_reducible rfl)
          (try simp only [Act.put, List.setIfInBounds_toArray, List.set_cons_zero, List.set_cons_succ])
          refine anyH_take 2 (v := ?_) rfl (by kernel_rfl) (by kernel_rfl) (by kernel_rfl) (fun _ _ _ h => h) (by rfl) hHeld ?_ ?_
          rotate_left
          · (intro w hSw; (try dsimp only at hSw); go_split_ands; go_simp; try with_reducible rfl)
          (try simp only [Act.put, List.setIfInBounds_toArray, List.set_cons_zero, List.set_cons_succ])
          refine anyH_take 3 (v := ?_) rfl (by kernel_rfl) (by kernel_rfl) (by kernel_rfl) (fun _ _ _ h => h) (by rfl) hHeld ?_ ?_
          rotate_left
          · (intro w hSw; (try dsimp only at hSw); go_split_ands; go_simp; try with_reducible rfl)
          (try simp only [Act.put, List.setIfInBounds_toArray, List.set_cons_zero, List.set_cons_succ])
          refine anyH_take 4 (v := ?_) rfl (by kernel_rfl) (by kernel_rfl) (by kernel_rfl) (fun _ _ _ h => h) (by rfl) hHeld ?_ ?_
          rotate_left
          · (intro w hSw; (try dsimp only at hSw); go_split_ands; go_simp; try with_reducible rfl)
          (try simp only [Act.put, List.setIfInBounds_toArray, List.set_cons_zero, List.set_cons_succ])
          refine anyH_take 5 (v := ?_) rfl (by kernel_rfl) (by kernel_rfl) (by kernel_rfl) (fun _ _ _ h => h) (by rfl) hHeld ?_ ?_
          rotate_left
          · (intro w hSw; (try dsimp only at hSw); go_split_ands; go_simp; try with_reducible rfl)
          (try simp only [Act.put, List.setIfInBounds_toArray, List.set_cons_zero, List.set_cons_succ])
          refine anyH_take 6 (v := ?_) rfl (by kernel_rfl) (by kernel_rfl) (by kernel_rfl) (fun _ _ _ h => h) (by rfl) hHeld ?_ ?_
          rotate_left
          · (intro w hSw; (try dsimp only at hSw); go_split_ands; go_simp; try with_reducible rfl)
          (try simp only [Act.put, List.setIfInBounds_toArray, List.set_cons_zero, List.set_cons_succ])
          refine anyH_take 7 (v := ?_) rfl (by kernel_rfl) (by kernel_rfl) (by kernel_rfl) (fun _ _ _ h => h) (by rfl) hHeld ?_ ?_
          rotate_left
          · (intro w hSw; (try dsimp only at hSw); go_split_ands; go_simp; try with_reducible rfl)
          (try simp only [Act.put, List.setIfInBounds_toArray, List.set_cons_zero, List.set_cons_succ])
          refine anyH_take 8 (v := ?_) rfl (by kernel_rfl) (by kernel_rfl) (by kernel_rfl) (fun _ _ _ h => h) (by rfl) hHeld ?_ ?_
          rotate_left
          · (intro w hSw; (try dsimp only at hSw); go_split_ands; go_simp; try with_reducible rfl)
          (try simp only [Act.put, List.setIfInBounds_toArray, List.set_cons_zero, List.set_cons_succ])
          refine anyH_take 9 (v := ?_) rfl (by kernel_rfl) (by kernel_rfl) (by kernel_rfl) (fun _ _ _ h => h) (by rfl) hHeld ?_ ?_
          rotate_left
          · (intro w hSw; (try dsimp only at hSw); go_split_ands; go_simp; try with_reducible rfl)
          (try simp only [Act.put, List.setIfInBounds_toArray, List.set_cons_zero, List.set_cons_succ])
          refine anyH_take 10 (v := ?_) rfl (by kernel_rfl) (by kernel_rfl) (by kernel_rfl) (fun _ _ _ h => h) (by rfl) hHeld ?_ ?_
          rotate_left
          · (intro w hSw; (try dsimp only at hSw); go_split_ands; go_simp; try with_reducible rfl)
          (try simp only [Act.put, List.setIfInBounds_toArray, List.set_cons_zero, List.set_cons_succ])
          refine anyH_take 11 (v := ?_) rfl (by kernel_rfl) (by kernel_rfl) (by kernel_rfl) (fun _ _ _ h => h) (by rfl) hHeld ?_ ?_
          rotate_left
          · (intro w hSw; (try dsimp only at hSw); go_split_ands; go_simp; try with_reducible rfl)
          (try simp only [Act.put, List.setIfInBounds_toArray, List.set_cons_zero, List.set_cons_succ])
          refine anyH_one 12 rfl (by kernel_rfl) (fun K hK => ?_)
          go_simp
          have HAL := hid (show Below wr.heap.size wr (wr.drew.alloc (.cells #[.int .i64 (8 + x), .int .i64 1, .int .i64 E.id, .int .i64 0, .int .i64 E.epoch] 118)) from (Below.refl wr.heap.size wr).drew.alloc (Nat.le_refl _) _)
          refine hK.out _ _ (HS.out _ (bThen HB.out HAL.out)) (fun hHeld => ?_)
          clear hK K
          (try simp only [Act.put, List.setIfInBounds_toArray, List.set_cons_zero, List.set_cons_succ])
          refine anyH_one 13 rfl (by kernel_rfl) (fun K hK => ?_)
          refine appends_step Kd.out V.heap.size rfl _ _ 54 118 _ 40 rfl Try.underlying54 Try.infoOut rfl (by decide) (by decide) (.slice A3 n3 c3') (toldS E (ws.take k)) [⟨8 + x, 1, E.id, 0, E.epoch⟩] (some ⟨wr.heap.size, 0, none⟩) 1 1 NoT Any NoT rfl rfl rfl (K_row (Kd.any (K_new (enc := fun (x : OutS) => [.int .i64 x.to, .int .i64 x.kind, .int .i64 x.job, .int .i64 x.task, .int .i64 x.epoch]) (hl := fun _ => rfl) (h1 := fun x u hu => by simp at hu; rcases hu with rfl | rfl | rfl | rfl | rfl <;> rfl) wr.drew wr.heap.size rfl 118 [⟨8 + x, 1, E.id, 0, E.epoch⟩] (by simp)))).1 (fun _ _ h => h) (fun _ h => h.elim) (HO.out.below HAL.out) (bThen HB.out HAL.out).size (by omega) ?_
          intro v1 w4 hO4 hg4 _
          have HB4 := hid ((bThen HB.out HAL.out).grown hg4 (bThen HB.out HAL.out).size (fun k hk => ((HO.out.below HAL.out).lt k hk).1))
          refine hK.out _ _ (HS.out _ HB4.out) (fun hHeld => ?_)
          clear hK K
          (try simp only [Act.put, List.setIfInBounds_toArray, List.set_cons_zero, List.set_cons_succ])
          refine anyH_take 14 (v := ?_) rfl (by kernel_rfl) (by kernel_rfl) (by kernel_rfl) (fun _ _ _ h => h) (by rfl) hHeld ?_ ?_
          rotate_left
          · (intro w hSw; (try dsimp only at hSw); go_split_ands; go_simp; try with_reducible rfl)
          (try simp only [Act.put, List.setIfInBounds_toArray, List.set_cons_zero, List.set_cons_succ])
          refine wpAnyH_done (by kernel_rfl) ?_ _
          go_wp2
          go_roundw
          case rel => first | exact ⟨k + 1, by omega, by go_num, by rw [HN2.out]; exact hO4, HB4⟩ | ((repeat apply Exists.intro); exact ⟨⟨k + 1, by omega, by go_num, by rw [HN2.out]; exact hO4, HB4⟩, rfl⟩)
          case measure => simp [intOf]; omega
    · obtain rfl : k = q := by omega
      have HF := hid (show toldS E (ws.take k) = toldS E ws by rw [List.take_of_length_le (by rw [← HQ.out]; exact Nat.le_refl _)])
      go_wp2
      go_ret
      exact ⟨_, rfl, by rw [← HF.out]; exact HO.out.lower HBV.out.size, bThen HBV.out HB.out⟩
end Go.Proofs.Ytolckkckheiceaa
/- probe.Workers, Round; siskinref33.Round. -/
namespace Go.Proofs.Ytolckkckheiceaa
open Go.RowKit

theorem confEntry_new (C : ConfS) (CA CB : Option Addr) (ca cb : Nat) (E : EntryS) (EA EB ED : Option Addr) (ea eb ed : Nat) (w V : World) (hV : V = (w.alloc (.cells #[.int .i64 C.scheds, .int .i64 C.lease, .int .i64 C.again, .int .i64 C.room, .int .i64 C.out, .slice CA C.names.length ca, .slice CB C.workers.length cb] 25)).alloc (.cells #[.int .i64 E.id, .int .i64 E.sched, .int .i64 E.epoch, .slice EA E.needs.length ea, .slice EB E.bound.length eb, .slice ED E.done.length ed] 29)) (hC : CAt w C CA CB ca cb) (hE : EAt w E EA EB ED ea eb ed) :
    Below w.heap.size w V ∧ BoxC V C CA CB ca cb w.heap.size ∧ BoxE V E EA EB ED ea eb ed (w.heap.size + 1) := by
  have hb0 : Below w.heap.size w V := by rw [hV]; exact bAlloc (bAlloc (Below.refl _ _) _) _
  exact ⟨hb0, boxC_of (by rw [hV, Below.heap_alloc _ _ _ (by simp)]; exact heap_at rfl) (hC.below hb0), boxE_of (by rw [hV]; exact heap_at (by simp)) (hE.below hb0)⟩
set_option maxHeartbeats 4000000 in
set_option maxRecDepth 100000 in
theorem probeWorkers_calls (C : ConfS) (CA CB : Option Addr) (ca cb : Nat) (E : EntryS) (EA EB ED : Option Addr) (ea eb ed : Nat) (w : World) (hC : CAt w C CA CB ca cb) (hE : EAt w E EA EB ED ea eb ed) (hbl : E.bound.length ≤ 1000) (hns : ∀ s ∈ E.needs, s.size ≤ 140737488351232) :
    Calls Try.prog 24 #[.agg #[.int .i64 C.scheds, .int .i64 C.lease, .int .i64 C.again, .int .i64 C.room, .int .i64 C.out, .slice CA C.names.length ca, .slice CB C.workers.length cb], .agg #[.int .i64 E.id, .int .i64 E.sched, .int .i64 E.epoch, .slice EA E.needs.length ea, .slice EB E.bound.length eb, .slice ED E.done.length ed]] w fun e w' => e = .returned (.int .u64 (anyS C.names C.workers (openT E) : Nat)) ∧ Below w.heap.size w w' := by
  obtain ⟨V, hV⟩ : ∃ V, V = (w.alloc (.cells #[.int .i64 C.scheds, .int .i64 C.lease, .int .i64 C.again, .int .i64 C.room, .int .i64 C.out, .slice CA C.names.length ca, .slice CB C.workers.length cb] 25)).alloc (.cells #[.int .i64 E.id, .int .i64 E.sched, .int .i64 E.epoch, .slice EA E.needs.length ea, .slice EB E.bound.length eb, .slice ED E.done.length ed] 29) := ⟨_, rfl⟩
  obtain ⟨hb0, hbc, hbe⟩ := confEntry_new C CA CB ca cb E EA EB ED ea eb ed w V hV hC hE
  have HBV := hid hb0
  have HBC := hid hbc
  have HBE := hid hbe
  have HV := hid hV
  have HNS := hid (fun s (h : s ∈ openT E) => hns s (openT_mem h))
  have HBL := hid hbl
  clear hV hE hC hb0 hbc hbe hns hbl
  have HS := hid (fun (u : World) (hb : Below V.heap.size V u) => show ((u.cell? ⟨w.heap.size, 0, none⟩ = some (.int .i64 C.scheds) ∧ u.cell? ⟨w.heap.size, 1, none⟩ = some (.int .i64 C.lease) ∧ u.cell? ⟨w.heap.size, 2, none⟩ = some (.int .i64 C.again) ∧ u.cell? ⟨w.heap.size, 3, none⟩ = some (.int .i64 C.room) ∧ u.cell? ⟨w.heap.size, 4, none⟩ = some (.int .i64 C.out) ∧ u.cell? ⟨w.heap.size, 5, none⟩ = some (.slice CA C.names.length ca) ∧ u.cell? ⟨w.heap.size, 6, none⟩ = some (.slice CB C.workers.length cb)) ∧ (u.cell? ⟨w.heap.size + 1, 0, none⟩ = some (.int .i64 E.id) ∧ u.cell? ⟨w.heap.size + 1, 1, none⟩ = some (.int .i64 E.sched) ∧ u.cell? ⟨w.heap.size + 1, 2, none⟩ = some (.int .i64 E.epoch) ∧ u.cell? ⟨w.heap.size + 1, 3, none⟩ = some (.slice EA E.needs.length ea) ∧ u.cell? ⟨w.heap.size + 1, 4, none⟩ = some (.slice EB E.bound.length eb) ∧ u.cell? ⟨w.heap.size + 1, 5, none⟩ = some (.slice ED E.done.length ed))) from ⟨(HBC.out.below hb).1, (HBE.out.below hb).1⟩)
  have HCA := hid (fun (u : World) (hb : Below V.heap.size V u) => show CAt u C CA CB ca cb from (HBC.out.below hb).2.1)
  have HEA := hid (HBE.out.below (Below.refl _ _).drew).2.1
  go_enter Try.func24, Try.ntmps24
  go_wp2_with fail
  rw [← HV.out]
  have c0 := HS.out V.drew (Below.refl _ _).drew
  go_region_held3 (fun w' => (w'.cell? ⟨w.heap.size, 0, none⟩ = some (.int .i64 C.scheds) ∧ w'.cell? ⟨w.heap.size, 1, none⟩ = some (.int .i64 C.lease) ∧ w'.cell? ⟨w.heap.size, 2, none⟩ = some (.int .i64 C.again) ∧ w'.cell? ⟨w.heap.size, 3, none⟩ = some (.int .i64 C.room) ∧ w'.cell? ⟨w.heap.size, 4, none⟩ = some (.int .i64 C.out) ∧ w'.cell? ⟨w.heap.size, 5, none⟩ = some (.slice CA C.names.length ca) ∧ w'.cell? ⟨w.heap.size, 6, none⟩ = some (.slice CB C.workers.length cb)) ∧ (w'.cell? ⟨w.heap.size + 1, 0, none⟩ = some (.int .i64 E.id) ∧ w'.cell? ⟨w.heap.size + 1, 1, none⟩ = some (.int .i64 E.sched) ∧ w'.cell? ⟨w.heap.size + 1, 2, none⟩ = some (.int .i64 E.epoch) ∧ w'.cell? ⟨w.heap.size + 1, 3, none⟩ = some (.slice EA E.needs.length ea) ∧ w'.cell? ⟨w.heap.size + 1, 4, none⟩ = some (.slice EB E.bound.length eb) ∧ w'.cell? ⟨w.heap.size + 1, 5, none⟩ = some (.slice ED E.done.length ed))) (first | exact c0 | exact c1 | exact c2 | fail) (first
    | ((with_reducible refine (probeOpen_calls E EA EB ED ea eb ed V.drew HEA.out HBL.out).mono ?_); rintro e w1 ⟨v1, rfl, hO, hb1⟩; have U1 := hid (bThen (Below.refl V.heap.size V).drew hb1); have HO1 := hid (Kd.any hO.K); have c1 := HS.out w1 U1.out; clear hO hb1)
    | ((with_reducible refine (jobAny_calls C.names C.workers (openT E) C.scheds C.lease C.again C.room C.out _ _ _ w1 (HCA.out w1 U1.out).names (HCA.out w1 U1.out).workers (HCA.out w1 U1.out).attrs HO1.out HNS.out).mono ?_); rintro e w2 ⟨rfl, hb2⟩; have U2 := hid (bThen U1.out hb2); have c2 := HS.out w2 U2.out; clear hb2)
    | fail)
  go_wp2
  go_ret
  exact ⟨rfl, bThen HBV.out U2.out⟩
def roundS (C : ConfS) (E : EntryS) (l : List Nat) : List Int × List Nat := someS 64 l (bitsN (anyS C.names C.workers (openT E)) 64) (2 * ((openL E).length : Nat)) []
set_option maxHeartbeats 4000000 in
set_option maxRecDepth 100000 in
theorem probeRound_calls (T : Nat → Prop) (g : Nat) (l : List Nat) (C : ConfS) (CA CB : Option Addr) (ca cb : Nat) (E : EntryS) (EA EB ED : Option Addr) (ea eb ed : Nat) (w : World) (hd : TapeAt w T g l) (hT : ∀ b, T b → b < w.heap.size) (hC : CAt w C CA CB ca cb) (hE : EAt w E EA EB ED ea eb ed) (hbl : E.bound.length ≤ 1000) (hns : ∀ s ∈ E.needs, s.size ≤ 140737488351232) :
    Calls Try.prog 13 #[.pointer (some ⟨g, 0, none⟩), .agg #[.int .i64 C.scheds, .int .i64 C.lease, .int .i64 C.again, .int .i64 C.room, .int .i64 C.out, .slice CA C.names.length ca, .slice CB C.workers.length cb], .agg #[.int .i64 E.id, .int .i64 E.sched, .int .i64 E.epoch, .slice EA E.needs.length ea, .slice EB E.bound.length eb, .slice ED E.done.length ed]] w fun e w' => ∃ v, e = .returned v ∧ Own (Kd.int .i64) 3 w' w.heap.size NoT v (roundS C E l).1 ∧ TapeAt w' T g (roundS C E l).2 ∧ Mod (fun b => b = g) w w' := by
  obtain ⟨V, hV⟩ : ∃ V, V = (w.alloc (.cells #[.int .i64 C.scheds, .int .i64 C.lease, .int .i64 C.again, .int .i64 C.room, .int .i64 C.out, .slice CA C.names.length ca, .slice CB C.workers.length cb] 25)).alloc (.cells #[.int .i64 E.id, .int .i64 E.sched, .int .i64 E.epoch, .slice EA E.needs.length ea, .slice EB E.bound.length eb, .slice ED E.done.length ed] 29) := ⟨_, rfl⟩
  obtain ⟨hb0, hbc, hbe⟩ := confEntry_new C CA CB ca cb E EA EB ED ea eb ed w V hV hC hE
  have HBV := hid hb0
  have HBC := hid hbc
  have HBE := hid hbe
  have HV := hid hV
  have HNS := hid hns
  have HBL := hid hbl
  have HLT := hid (anyS_lt C.names C.workers (openT E))
  have HR := hid (show roundS C E l = someS 64 l (bitsN (anyS C.names C.workers (openT E)) 64) (2 * ((openL E).length : Nat)) [] from rfl)
  have HTD := hid (hd.below hb0)
  have HT := hid hT
  clear hV hE hC hb0 hbc hbe hns hbl hd hT
  have HS := hid (fun (u : World) (hb : Below V.heap.size V u) => show ((u.cell? ⟨w.heap.size, 0, none⟩ = some (.int .i64 C.scheds) ∧ u.cell? ⟨w.heap.size, 1, none⟩ = some (.int .i64 C.lease) ∧ u.cell? ⟨w.heap.size, 2, none⟩ = some (.int .i64 C.again) ∧ u.cell? ⟨w.heap.size, 3, none⟩ = some (.int .i64 C.room) ∧ u.cell? ⟨w.heap.size, 4, none⟩ = some (.int .i64 C.out) ∧ u.cell? ⟨w.heap.size, 5, none⟩ = some (.slice CA C.names.length ca) ∧ u.cell? ⟨w.heap.size, 6, none⟩ = some (.slice CB C.workers.length cb)) ∧ (u.cell? ⟨w.heap.size + 1, 0, none⟩ = some (.int .i64 E.id) ∧ u.cell? ⟨w.heap.size + 1, 1, none⟩ = some (.int .i64 E.sched) ∧ u.cell? ⟨w.heap.size + 1, 2, none⟩ = some (.int .i64 E.epoch) ∧ u.cell? ⟨w.heap.size + 1, 3, none⟩ = some (.slice EA E.needs.length ea) ∧ u.cell? ⟨w.heap.size + 1, 4, none⟩ = some (.slice EB E.bound.length eb) ∧ u.cell? ⟨w.heap.size + 1, 5, none⟩ = some (.slice ED E.done.length ed))) from ⟨(HBC.out.below hb).1, (HBE.out.below hb).1⟩)
  have HCA := hid (fun (u : World) (hb : Below V.heap.size V u) => show CAt u C CA CB ca cb from (HBC.out.below hb).2.1)
  have HEA := hid (fun (u : World) (hb : Below V.heap.size V u) => show EAt u E EA EB ED ea eb ed from (HBE.out.below hb).2.1)
  have HQL := hid (openL_len E)
  go_enter Try.func13, Try.ntmps13
  go_wp2_with fail
  rw [← HV.out]
  have c0 := HS.out V.drew (Below.refl _ _).drew
  have U0 := hid (Below.refl V.heap.size V).drew
  refine wp_region_held_drew (S := fun w' => (w'.cell? ⟨w.heap.size, 0, none⟩ = some (.int .i64 C.scheds) ∧ w'.cell? ⟨w.heap.size, 1, none⟩ = some (.int .i64 C.lease) ∧ w'.cell? ⟨w.heap.size, 2, none⟩ = some (.int .i64 C.again) ∧ w'.cell? ⟨w.heap.size, 3, none⟩ = some (.int .i64 C.room) ∧ w'.cell? ⟨w.heap.size, 4, none⟩ = some (.int .i64 C.out) ∧ w'.cell? ⟨w.heap.size, 5, none⟩ = some (.slice CA C.names.length ca) ∧ w'.cell? ⟨w.heap.size, 6, none⟩ = some (.slice CB C.workers.length cb)) ∧ (w'.cell? ⟨w.heap.size + 1, 0, none⟩ = some (.int .i64 E.id) ∧ w'.cell? ⟨w.heap.size + 1, 1, none⟩ = some (.int .i64 E.sched) ∧ w'.cell? ⟨w.heap.size + 1, 2, none⟩ = some (.int .i64 E.epoch) ∧ w'.cell? ⟨w.heap.size + 1, 3, none⟩ = some (.slice EA E.needs.length ea) ∧ w'.cell? ⟨w.heap.size + 1, 4, none⟩ = some (.slice EB E.bound.length eb) ∧ w'.cell? ⟨w.heap.size + 1, 5, none⟩ = some (.slice ED E.done.length ed))) (by kernel_rfl) c0 (fun hHeld => ?_)
  refine anyH_take 0 (v := ?_) rfl (by kernel_rfl) (by kernel_rfl) (by kernel_rfl) (fun _ _ _ h => h) (by rfl) hHeld ?_ ?_
  rotate_left
  · (intro w hSw; (try dsimp only at hSw); go_split_ands; go_simp; try with_reducible rfl)
  (try simp only [Act.put, List.setIfInBounds_toArray, List.set_cons_zero, List.set_cons_succ])
  refine anyH_take 1 (v := ?_) rfl (by kernel_rfl) (by kernel_rfl) (by kernel_rfl) (fun _ _ _ h => h) (by rfl) hHeld ?_ ?_
  rotate_left
  · (intro w hSw; (try dsimp only at hSw); go_split_ands; go_simp; try with_reducible rfl)
  (try simp only [Act.put, List.setIfInBounds_toArray, List.set_cons_zero, List.set_cons_succ])
  refine anyH_take 2 (v := ?_) rfl (by kernel_rfl) (by kernel_rfl) (by kernel_rfl) (fun _ _ _ h => h) (by rfl) hHeld ?_ ?_
  rotate_left
  · (intro w hSw; (try dsimp only at hSw); go_split_ands; go_simp; try with_reducible rfl)
  (try simp only [Act.put, List.setIfInBounds_toArray, List.set_cons_zero, List.set_cons_succ])
  refine anyH_take 4 (v := ?_) rfl (by kernel_rfl) (by kernel_rfl) (by kernel_rfl) (fun _ _ _ h => h) (by rfl) hHeld ?_ ?_
  rotate_left
  · (intro w hSw; (try dsimp only at hSw); go_split_ands; go_simp; try with_reducible rfl)
  (try simp only [Act.put, List.setIfInBounds_toArray, List.set_cons_zero, List.set_cons_succ])
  refine anyH_one 3 rfl (by kernel_rfl) (fun K hK => ?_)
  go_simp
  refine (probeWorkers_calls C CA CB ca cb E EA EB ED ea eb ed V.drew (HCA.out _ U0.out) (HEA.out _ U0.out) HBL.out HNS.out).mono ?_
  rintro e w1 ⟨rfl, hb1⟩
  have U1 := hid (bThen U0.out hb1)
  have c1 := HS.out w1 U1.out
  clear hb1
  go_simp
  refine hK.out _ _ c1 (fun hHeld => ?_)
  clear hK K
  (try simp only [Act.put, List.setIfInBounds_toArray, List.set_cons_zero, List.set_cons_succ])
  refine anyH_one 5 rfl (by kernel_rfl) (fun K hK => ?_)
  go_simp
  refine (bookOpen_calls E EA EB ED ea eb ed w1 (HEA.out _ U1.out) HBL.out).mono ?_
  rintro e w2 ⟨v2, rfl, hO2, hb2⟩
  obtain ⟨A2, n2, c2', rfl, hn2, hq2⟩ := hO2.shape'
  have U2 := hid (bThen U1.out hb2)
  have hn2k : n2 ≤ 1000 := by have := HQL.out; have := HBL.out; omega
  have HN2 := hid hn2
  have ew : IntKind.i64.wrap (2 * (n2 : Int)) = 2 * (n2 : Int) := IntWalk.i64_in _ (by omega)
  have c2 := HS.out w2 U2.out
  clear hO2 hb2 hn2 hq2
  go_simp
  refine hK.out _ _ c2 (fun hHeld => ?_)
  clear hK K
  (try simp only [Act.put, List.setIfInBounds_toArray, List.set_cons_zero, List.set_cons_succ])
  refine anyH_take 6 (v := ?_) rfl (by kernel_rfl) (by kernel_rfl) (by kernel_rfl) (fun _ _ _ h => h) (by rfl) hHeld ?_ ?_
  rotate_left
  · (intro w hSw; (try dsimp only at hSw); go_split_ands; go_simp; try with_reducible rfl)
  (try simp only [Act.put, List.setIfInBounds_toArray, List.set_cons_zero, List.set_cons_succ])
  refine anyH_take 7 (v := ?_) rfl (by kernel_rfl) (by kernel_rfl) (by kernel_rfl) (fun _ _ _ h => h) (by rfl) hHeld ?_ ?_
  rotate_left
  · (intro w hSw; (try dsimp only at hSw); go_split_ands; go_simp; try with_reducible rfl)
  (try simp only [Act.put, List.setIfInBounds_toArray, List.set_cons_zero, List.set_cons_succ])
  refine anyH_one 8 rfl (by kernel_rfl) (fun K hK => ?_)
  go_simp
  refine (tsome_calls T g _ l (2 * (n2 : Int)) w2 HLT.out (HTD.out.below U2.out) (fun b hb => Nat.lt_of_lt_of_le (HT.out b hb) (bThen HBV.out U2.out).size)).mono ?_
  rintro e w3 ⟨v3, rfl, hO3, hA3, hM3⟩
  have HRR := hid (show someS 64 l (bitsN (anyS C.names C.workers (openT E)) 64) (2 * (n2 : Int)) [] = roundS C E l by rw [HR.out, HN2.out])
  rw [HRR.out] at hO3 hA3
  have HO3 := hid (hO3.lower (bThen HBV.out U2.out).size)
  have HA3 := hid hA3
  have HM3 := hid ((Mod.of_below (F := fun b => b = g) (bThen HBV.out U2.out)).trans hM3 (fun _ _ h => h))
  have hg := HTD.out.len
  have mv : ∀ (b o : Nat), b < w2.heap.size → b ≠ g → w3.cell? ⟨b, o, none⟩ = w2.cell? ⟨b, o, none⟩ := fun b o hb hn => World.cell?_of_block (hM3.block b hb hn)
  have hgw := HT.out g hg.1
  have hz1 := HBC.out.2.2
  have hz2 := HBE.out.2.2
  have hz3 := U2.out.size
  have c3 : (w3.cell? ⟨w.heap.size, 0, none⟩ = some (.int .i64 C.scheds) ∧ w3.cell? ⟨w.heap.size, 1, none⟩ = some (.int .i64 C.lease) ∧ w3.cell? ⟨w.heap.size, 2, none⟩ = some (.int .i64 C.again) ∧ w3.cell? ⟨w.heap.size, 3, none⟩ = some (.int .i64 C.room) ∧ w3.cell? ⟨w.heap.size, 4, none⟩ = some (.int .i64 C.out) ∧ w3.cell? ⟨w.heap.size, 5, none⟩ = some (.slice CA C.names.length ca) ∧ w3.cell? ⟨w.heap.size, 6, none⟩ = some (.slice CB C.workers.length cb)) ∧ (w3.cell? ⟨w.heap.size + 1, 0, none⟩ = some (.int .i64 E.id) ∧ w3.cell? ⟨w.heap.size + 1, 1, none⟩ = some (.int .i64 E.sched) ∧ w3.cell? ⟨w.heap.size + 1, 2, none⟩ = some (.int .i64 E.epoch) ∧ w3.cell? ⟨w.heap.size + 1, 3, none⟩ = some (.slice EA E.needs.length ea) ∧ w3.cell? ⟨w.heap.size + 1, 4, none⟩ = some (.slice EB E.bound.length eb) ∧ w3.cell? ⟨w.heap.size + 1, 5, none⟩ = some (.slice ED E.done.length ed)) := by
    obtain ⟨⟨x0, x1, x2, x3, x4, x5, x6⟩, y0, y1, y2, y3, y4, y5⟩ := c2
    have m1 := fun o => mv w.heap.size o (by omega) (by omega)
    have m2 := fun o => mv (w.heap.size + 1) o (by omega) (by omega)
    exact ⟨⟨(m1 _).trans x0, (m1 _).trans x1, (m1 _).trans x2, (m1 _).trans x3, (m1 _).trans x4, (m1 _).trans x5, (m1 _).trans x6⟩, (m2 _).trans y0, (m2 _).trans y1, (m2 _).trans y2, (m2 _).trans y3, (m2 _).trans y4, (m2 _).trans y5⟩
  clear hO3 hA3 hM3 mv
  go_simp
  refine hK.out _ _ c3 (fun hHeld => ?_)
  clear hK K
  (try simp only [Act.put, List.setIfInBounds_toArray, List.set_cons_zero, List.set_cons_succ])
  refine anyH_take 9 (v := ?_) rfl (by kernel_rfl) (by kernel_rfl) (by kernel_rfl) (fun _ _ _ h => h) (by rfl) hHeld ?_ ?_
  rotate_left
  · (intro w hSw; (try dsimp only at hSw); go_split_ands; go_simp; try with_reducible rfl)
  (try simp only [Act.put, List.setIfInBounds_toArray, List.set_cons_zero, List.set_cons_succ])
  refine wpAnyH_done (by kernel_rfl) ?_ _
  go_wp2
  go_ret
  exact ⟨_, rfl, HO3.out, HA3.out, HM3.out⟩
set_option maxHeartbeats 4000000 in
set_option maxRecDepth 100000 in
theorem rround33_calls (l : List Nat) (lv : Value) (C : ConfS) (CA CB : Option Addr) (ca cb : Nat) (E : EntryS) (EA EB ED : Option Addr) (ea eb ed : Nat) (w : World) (hl : Kd.n64.slice.K w Any l [lv]) (hC : CAt w C CA CB ca cb) (hE : EAt w E EA EB ED ea eb ed) (hbl : E.bound.length ≤ 1000) (hnl : E.needs.length ≤ 1000) (hwl : C.workers.length ≤ 1000) (hns : ∀ s ∈ E.needs, s.size ≤ 1000) :
    Calls Try.prog 20 #[lv, .agg #[.int .i64 C.scheds, .int .i64 C.lease, .int .i64 C.again, .int .i64 C.room, .int .i64 C.out, .slice CA C.names.length ca, .slice CB C.workers.length cb], .agg #[.int .i64 E.id, .int .i64 E.sched, .int .i64 E.epoch, .slice EA E.needs.length ea, .slice EB E.bound.length eb, .slice ED E.done.length ed]] w fun e w' => ∃ u A n c, e = .returned (.tuple #[u, .slice A n c]) ∧ Own (Kd.int .i64) 3 w' w.heap.size NoT u (roundS C E l).1 ∧ Kd.n64.slice.K w' Any (roundS C E l).2 [.slice A n c] ∧ Below w.heap.size w w' := by
  obtain ⟨V, hV⟩ : ∃ V, V = (w.alloc (.cells #[.int .i64 C.scheds, .int .i64 C.lease, .int .i64 C.again, .int .i64 C.room, .int .i64 C.out, .slice CA C.names.length ca, .slice CB C.workers.length cb] 25)).alloc (.cells #[.int .i64 E.id, .int .i64 E.sched, .int .i64 E.epoch, .slice EA E.needs.length ea, .slice EB E.bound.length eb, .slice ED E.done.length ed] 29) := ⟨_, rfl⟩
  obtain ⟨hb0, hbc, hbe⟩ := confEntry_new C CA CB ca cb E EA EB ED ea eb ed w V hV hC hE
  have HBV := hid hb0
  have HBC := hid hbc
  have HBE := hid hbe
  have HV := hid hV
  have HNS := hid (fun s (h : s ∈ openT E) => show s.size * 24 ≤ 140737488351232 by have := hns s (openT_mem h); omega)
  have HBL := hid hbl
  have HLT := hid (anyS_lt C.names C.workers (openT E))
  have HR := hid (show roundS C E l = someS 64 l (bitsN (anyS C.names C.workers (openT E)) 64) (2 * ((openL E).length : Nat)) [] from rfl)
  have HLL := hid (Kd.below hl hb0)
  have HQL := hid (openL_len E)
  have HTL := hid (show (openT E).length = (openL E).length by unfold openT; simp)
  have HWL := hid hwl
  obtain ⟨LA, lc, he, _, _, _⟩ := hl
  injection he with he _
  subst he
  clear hV hE hC hb0 hbc hbe hns hbl hnl hwl
  have HS := hid (fun (u : World) (hb : Below V.heap.size V u) => show ((u.cell? ⟨w.heap.size, 0, none⟩ = some (.int .i64 C.scheds) ∧ u.cell? ⟨w.heap.size, 1, none⟩ = some (.int .i64 C.lease) ∧ u.cell? ⟨w.heap.size, 2, none⟩ = some (.int .i64 C.again) ∧ u.cell? ⟨w.heap.size, 3, none⟩ = some (.int .i64 C.room) ∧ u.cell? ⟨w.heap.size, 4, none⟩ = some (.int .i64 C.out) ∧ u.cell? ⟨w.heap.size, 5, none⟩ = some (.slice CA C.names.length ca) ∧ u.cell? ⟨w.heap.size, 6, none⟩ = some (.slice CB C.workers.length cb)) ∧ (u.cell? ⟨w.heap.size + 1, 0, none⟩ = some (.int .i64 E.id) ∧ u.cell? ⟨w.heap.size + 1, 1, none⟩ = some (.int .i64 E.sched) ∧ u.cell? ⟨w.heap.size + 1, 2, none⟩ = some (.int .i64 E.epoch) ∧ u.cell? ⟨w.heap.size + 1, 3, none⟩ = some (.slice EA E.needs.length ea) ∧ u.cell? ⟨w.heap.size + 1, 4, none⟩ = some (.slice EB E.bound.length eb) ∧ u.cell? ⟨w.heap.size + 1, 5, none⟩ = some (.slice ED E.done.length ed))) from ⟨(HBC.out.below hb).1, (HBE.out.below hb).1⟩)
  have HCA := hid (fun (u : World) (hb : Below V.heap.size V u) => show CAt u C CA CB ca cb from (HBC.out.below hb).2.1)
  have HEA := hid (fun (u : World) (hb : Below V.heap.size V u) => show EAt u E EA EB ED ea eb ed from (HBE.out.below hb).2.1)
  go_enter Try.func20, Try.ntmps20
  go_wp2_with fail
  rw [← HV.out]
  have c0 := HS.out V.drew (Below.refl _ _).drew
  have U0 := hid (Below.refl V.heap.size V).drew
  refine wp_region_held_drew (S := fun w' => (w'.cell? ⟨w.heap.size, 0, none⟩ = some (.int .i64 C.scheds) ∧ w'.cell? ⟨w.heap.size, 1, none⟩ = some (.int .i64 C.lease) ∧ w'.cell? ⟨w.heap.size, 2, none⟩ = some (.int .i64 C.again) ∧ w'.cell? ⟨w.heap.size, 3, none⟩ = some (.int .i64 C.room) ∧ w'.cell? ⟨w.heap.size, 4, none⟩ = some (.int .i64 C.out) ∧ w'.cell? ⟨w.heap.size, 5, none⟩ = some (.slice CA C.names.length ca) ∧ w'.cell? ⟨w.heap.size, 6, none⟩ = some (.slice CB C.workers.length cb)) ∧ (w'.cell? ⟨w.heap.size + 1, 0, none⟩ = some (.int .i64 E.id) ∧ w'.cell? ⟨w.heap.size + 1, 1, none⟩ = some (.int .i64 E.sched) ∧ w'.cell? ⟨w.heap.size + 1, 2, none⟩ = some (.int .i64 E.epoch) ∧ w'.cell? ⟨w.heap.size + 1, 3, none⟩ = some (.slice EA E.needs.length ea) ∧ w'.cell? ⟨w.heap.size + 1, 4, none⟩ = some (.slice EB E.bound.length eb) ∧ w'.cell? ⟨w.heap.size + 1, 5, none⟩ = some (.slice ED E.done.length ed))) (by kernel_rfl) c0 (fun hHeld => ?_)
  refine anyH_take 0 (v := ?_) rfl (by kernel_rfl) (by kernel_rfl) (by kernel_rfl) (fun _ _ _ h => h) (by rfl) hHeld ?_ ?_
  rotate_left
  · (intro w hSw; (try dsimp only at hSw); go_split_ands; go_simp; try with_reducible rfl)
  (try simp only [Act.put, List.setIfInBounds_toArray, List.set_cons_zero, List.set_cons_succ])
  refine anyH_take 1 (v := ?_) rfl (by kernel_rfl) (by kernel_rfl) (by kernel_rfl) (fun _ _ _ h => h) (by rfl) hHeld ?_ ?_
  rotate_left
  · (intro w hSw; (try dsimp only at hSw); go_split_ands; go_simp; try with_reducible rfl)
  (try simp only [Act.put, List.setIfInBounds_toArray, List.set_cons_zero, List.set_cons_succ])
  refine anyH_take 2 (v := ?_) rfl (by kernel_rfl) (by kernel_rfl) (by kernel_rfl) (fun _ _ _ h => h) (by rfl) hHeld ?_ ?_
  rotate_left
  · (intro w hSw; (try dsimp only at hSw); go_split_ands; go_simp; try with_reducible rfl)
  (try simp only [Act.put, List.setIfInBounds_toArray, List.set_cons_zero, List.set_cons_succ])
  refine anyH_take 5 (v := ?_) rfl (by kernel_rfl) (by kernel_rfl) (by kernel_rfl) (fun _ _ _ h => h) (by rfl) hHeld ?_ ?_
  rotate_left
  · (intro w hSw; (try dsimp only at hSw); go_split_ands; go_simp; try with_reducible rfl)
  (try simp only [Act.put, List.setIfInBounds_toArray, List.set_cons_zero, List.set_cons_succ])
  refine anyH_one 3 rfl (by kernel_rfl) (fun K hK => ?_)
  go_simp
  refine (ropen33_calls E EA EB ED ea eb ed V.drew (HEA.out _ U0.out) HBL.out).mono ?_
  rintro e w1 ⟨v1, rfl, hO1, hb1⟩
  have U1 := hid (bThen U0.out hb1)
  have HO1 := hid (Kd.any hO1.K)
  have c1 := HS.out w1 U1.out
  clear hO1 hb1
  go_simp
  refine hK.out _ _ c1 (fun hHeld => ?_)
  clear hK K
  (try simp only [Act.put, List.setIfInBounds_toArray, List.set_cons_zero, List.set_cons_succ])
  refine anyH_one 4 rfl (by kernel_rfl) (fun K hK => ?_)
  go_simp
  refine (rany15_calls C.names C.workers (openT E) C.scheds C.lease C.again C.room C.out _ _ _ w1 (HCA.out w1 U1.out).names (HCA.out w1 U1.out).workers (HCA.out w1 U1.out).attrs HO1.out HNS.out (by have := HWL.out; omega) (by have := HTL.out; have := HQL.out; have := HBL.out; omega)).mono ?_
  rintro e w2 ⟨rfl, hb2⟩
  have U2 := hid (bThen U1.out hb2)
  have c2 := HS.out w2 U2.out
  clear hb2
  go_simp
  refine hK.out _ _ c2 (fun hHeld => ?_)
  clear hK K
  (try simp only [Act.put, List.setIfInBounds_toArray, List.set_cons_zero, List.set_cons_succ])
  refine anyH_one 6 rfl (by kernel_rfl) (fun K hK => ?_)
  go_simp
  refine (ropen33_calls E EA EB ED ea eb ed w2 (HEA.out _ U2.out) HBL.out).mono ?_
  rintro e w3 ⟨v3, rfl, hO3, hb3⟩
  obtain ⟨A3, n3, c3', rfl, hn3, hq3⟩ := hO3.shape'
  have U3 := hid (bThen U2.out hb3)
  have hn3k : n3 ≤ 1000 := by have := HTL.out; have := HQL.out; have := HBL.out; omega
  have HN3 := hid hn3
  have ew : IntKind.i64.wrap (2 * (n3 : Int)) = 2 * (n3 : Int) := IntWalk.i64_in _ (by omega)
  have c3 := HS.out w3 U3.out
  clear hO3 hb3 hn3 hq3
  go_simp
  refine hK.out _ _ c3 (fun hHeld => ?_)
  clear hK K
  (try simp only [Act.put, List.setIfInBounds_toArray, List.set_cons_zero, List.set_cons_succ])
  refine anyH_take 7 (v := ?_) rfl (by kernel_rfl) (by kernel_rfl) (by kernel_rfl) (fun _ _ _ h => h) (by rfl) hHeld ?_ ?_
  rotate_left
  · (intro w hSw; (try dsimp only at hSw); go_split_ands; go_simp; try with_reducible rfl)
  (try simp only [Act.put, List.setIfInBounds_toArray, List.set_cons_zero, List.set_cons_succ])
  refine anyH_take 8 (v := ?_) rfl (by kernel_rfl) (by kernel_rfl) (by kernel_rfl) (fun _ _ _ h => h) (by rfl) hHeld ?_ ?_
  rotate_left
  · (intro w hSw; (try dsimp only at hSw); go_split_ands; go_simp; try with_reducible rfl)
  (try simp only [Act.put, List.setIfInBounds_toArray, List.set_cons_zero, List.set_cons_succ])
  refine anyH_one 9 rfl (by kernel_rfl) (fun K hK => ?_)
  go_simp
  refine (rsome7_calls l _ (2 * (n3 : Int)) _ w3 HLT.out (Kd.below HLL.out U3.out)).mono ?_
  rintro e w4 ⟨v4, A4, n4, c4', rfl, hO4, hK4, hb4⟩
  have HRR := hid (show someS 64 l (bitsN (anyS C.names C.workers (openT E)) 64) (2 * (n3 : Int)) [] = roundS C E l by rw [HR.out, HN3.out, HTL.out])
  rw [HRR.out] at hO4 hK4
  have U4 := hid (bThen U3.out hb4)
  have HO4 := hid (hO4.lower (bThen HBV.out U3.out).size)
  have HK4 := hid hK4
  have c4 := HS.out w4 U4.out
  clear hO4 hK4 hb4
  go_simp
  refine hK.out _ _ c4 (fun hHeld => ?_)
  clear hK K
  (try simp only [Act.put, List.setIfInBounds_toArray, List.set_cons_zero, List.set_cons_succ])
  refine anyH_take 10 (v := ?_) rfl (by kernel_rfl) (by kernel_rfl) (by kernel_rfl) (fun _ _ _ h => h) (by rfl) hHeld ?_ ?_
  rotate_left
  · (intro w hSw; (try dsimp only at hSw); go_split_ands; go_simp; try with_reducible rfl)
  (try simp only [Act.put, List.setIfInBounds_toArray, List.set_cons_zero, List.set_cons_succ])
  refine anyH_take 11 (v := ?_) rfl (by kernel_rfl) (by kernel_rfl) (by kernel_rfl) (fun _ _ _ h => h) (by rfl) hHeld ?_ ?_
  rotate_left
  · (intro w hSw; (try dsimp only at hSw); go_split_ands; go_simp; try with_reducible rfl)
  (try simp only [Act.put, List.setIfInBounds_toArray, List.set_cons_zero, List.set_cons_succ])
  refine anyH_take 12 (v := ?_) rfl (by kernel_rfl) (by kernel_rfl) (by kernel_rfl) (fun _ _ _ h => h) (by rfl) hHeld ?_ ?_
  rotate_left
  · (intro w hSw; (try dsimp only at hSw); go_split_ands; go_simp; try with_reducible rfl)
  (try simp only [Act.put, List.setIfInBounds_toArray, List.set_cons_zero, List.set_cons_succ])
  refine anyH_take 13 (v := ?_) rfl (by kernel_rfl) (by kernel_rfl) (by kernel_rfl) (fun _ _ _ h => h) (by rfl) hHeld ?_ ?_
  rotate_left
  · (intro w hSw; (try dsimp only at hSw); go_split_ands; go_simp; try with_reducible rfl)
  (try simp only [Act.put, List.setIfInBounds_toArray, List.set_cons_zero, List.set_cons_succ])
  refine wpAnyH_done (by kernel_rfl) ?_ _
  go_wp2
  go_ret2
  exact ⟨_, _, _, _, rfl, HO4.out, HK4.out, bThen HBV.out U4.out⟩
end Go.Proofs.Ytolckkckheiceaa
