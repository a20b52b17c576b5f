/- siskinref39.Step, whatever the event; siskinref39.Run. -/
import Derived.Test.YtgedkcglkhleoaaGreatDoorRef39B
import Derived.Test.YtgedkcglkhleoaaGreatDoorBase
namespace Go.Proofs.YtgedkcglkhleoaaGreatDoor
open Go.RowKit

theorem short24_set {b : List EntryS} {i : Nat} {F : EntryS} (h : Short24B b) (hF : ∀ s ∈ F.needs, s.size * 24 ≤ 140737488351232) : Short24B (b.set i F) := fun E hE => by
  rcases List.mem_or_eq_of_mem_set hE with hE | rfl
  · exact h E hE
  · exact hF
theorem short24_step {C : ConfS} {js : List JobS} {b b' : List EntryS} {e : EvS} (hjs : Short24 js) (h : Short24B b) (hs : evStep C js b e = some b') : Short24B b' := by
  obtain ⟨kd, id, t, k⟩ := e
  by_cases hk : kd = 1
  · subst hk
    rw [ev_accept] at hs
    split at hs
    · rename_i hok
      obtain rfl := Option.some.inj hs
      unfold acceptS
      rw [if_pos hok]
      have hj : (findJ js id).isSome = true := by unfold okA at hok; simp only [Bool.and_eq_true] at hok; exact hok.2.1
      obtain ⟨J, hJ⟩ := Option.isSome_iff_exists.1 hj
      rw [hJ]
      intro E hE
      rcases List.mem_append.1 hE with hE | hE
      · exact h E hE
      · rw [List.mem_singleton] at hE
        subst hE
        exact hjs J (findJ_mem hJ)
    · cases hs
  · cases hf : findE b id with
    | none => rw [ev_none hk hf] at hs; cases hs
    | some E =>
      by_cases ht : 0 ≤ t ∧ t < tasksE E
      · obtain ⟨m, rfl⟩ := Int.eq_ofNat_of_zero_le ht.1
        have hg := h E (List.mem_of_getElem? (findE_at hf).1)
        rw [ev_in hk hf (by omega)] at hs
        split at hs
        · obtain rfl := Option.some.inj hs
          exact short24_set h hg
        · split at hs
          · obtain rfl := Option.some.inj hs
            exact short24_set h hg
          · cases hs
      · rw [ev_out hk hf ht] at hs; cases hs
set_option maxHeartbeats 4000000 in
set_option maxRecDepth 100000 in
theorem rstepA39_calls (C : ConfS) (CA CB : Option Addr) (ca cb : Nat) (js : List JobS) (JA0 : Option Addr) (jn jcap : Nat) (b : List EntryS) (v : Value) (id t k : Int) (w : World) (hC : CAt w C CA CB ca cb) (hj : Kd.job.slice.K w Any js [.slice JA0 jn jcap]) (hb : Kd.entry.slice.K w Any b [v]) (hl : b.length ≤ 1000) (hjs : JsOk js) (h24 : Short24 js) (hwl : C.workers.length ≤ 1000000) :
    Calls Tryz.prog 11 #[.agg #[.int .i64 C.scheds, .int .i64 C.lease, .int .i64 C.again, .int .i64 C.room, .int .i64 C.out, .slice CA C.names.length ca, .slice CB C.workers.length cb], .slice JA0 jn jcap, v, .agg #[.int .i64 1, .int .i64 id, .int .i64 t, .int .i64 k]] w fun e w' => ∃ o, e = .returned (.tuple #[o, .bool (okA C js b id t k)]) ∧ Kd.entry.slice.K w' Any (acceptS C js b id t k) [o] ∧ Below w.heap.size w w' := by
  obtain ⟨V, hV⟩ : ∃ V, V = (w.alloc (.cells #[.int .i64 C.scheds, .int .i64 C.lease, .int .i64 C.again, .int .i64 C.room, .int .i64 C.out, .slice CA C.names.length ca, .slice CB C.workers.length cb] 25)).alloc (.cells #[.int .i64 1, .int .i64 id, .int .i64 t, .int .i64 k] 31) := ⟨_, rfl⟩
  have hb0 : Below w.heap.size w V := by rw [hV]; exact bAlloc (bAlloc (Below.refl _ _) _) _
  have hz1 : V.heap[w.heap.size]? = some (.cells #[.int .i64 C.scheds, .int .i64 C.lease, .int .i64 C.again, .int .i64 C.room, .int .i64 C.out, .slice CA C.names.length ca, .slice CB C.workers.length cb] 25 (0, 0)) := by rw [hV, Below.heap_alloc _ _ _ (by simp)]; exact heap_at rfl
  have hz3 : V.heap[w.heap.size + 1]? = some (.cells #[.int .i64 1, .int .i64 id, .int .i64 t, .int .i64 k] 31 (0, 0)) := by rw [hV]; exact heap_at (by simp)
  have HBV := hid hb0
  have HC := hid (hC.below hb0)
  have HJ := hid (Kd.below hj hb0)
  have HBK := hid (Kd.below hb hb0)
  have HL := hid hl
  have HJS := hid hjs
  have H24 := hid h24
  have HWL := hid hwl
  have hEq := hV.symm
  obtain ⟨A, c, he, _, _, _⟩ := hb
  injection he with he _
  subst he
  obtain ⟨q, hq⟩ : ∃ q, q = b.length := ⟨_, rfl⟩
  rw [← hq] at HBK ⊢
  obtain ⟨c0, c1, c2, c3, c4, c5, c6⟩ := conf_box hz1 V (Below.refl _ _)
  obtain ⟨y0, _, _⟩ := cells_of_block hz3
  have x0 := y0 0 _ rfl
  have x1 := y0 1 _ rfl
  have x2 := y0 2 _ rfl
  have x3 := y0 3 _ rfl
  clear hV hC hj hb0 hz1 hz3 hl hjs h24 hwl hq y0
  go_enter Tryz.func11, Tryz.ntmps11
  go_wp2_with fail
  refine (raccept39_calls C CA CB ca cb js JA0 jn jcap b _ 1 id t k V HC.out HJ.out HBK.out HL.out HJS.out H24.out HWL.out).mono ?_
  rintro e w1 ⟨o, rfl, hO, hb1⟩
  have HO := hid hO
  have HB1 := hid hb1
  obtain ⟨Ao, co, he, _, _, _⟩ := hO
  injection he with he _
  subst he
  clear hb1
  go_wp2
  go_ret2
  exact ⟨_, rfl, HO.out, bThen HBV.out HB1.out⟩
theorem rstep39_calls (C : ConfS) (CA CB : Option Addr) (ca cb : Nat) (js : List JobS) (JA0 : Option Addr) (jn jcap : Nat) (b : List EntryS) (v : Value) (kd id t k : Int) (w : World) (hC : CAt w C CA CB ca cb) (hj : Kd.job.slice.K w Any js [.slice JA0 jn jcap]) (hb : Kd.entry.slice.K w Any b [v]) (hB : EvOk b) (hB24 : Short24B b) (hjs : JsOk js) (h24 : Short24 js) (hwl : C.workers.length ≤ 1000000) :
    Calls Tryz.prog 11 #[.agg #[.int .i64 C.scheds, .int .i64 C.lease, .int .i64 C.again, .int .i64 C.room, .int .i64 C.out, .slice CA C.names.length ca, .slice CB C.workers.length cb], .slice JA0 jn jcap, v, .agg #[.int .i64 kd, .int .i64 id, .int .i64 t, .int .i64 k]] w fun e w' => ∃ o, e = .returned (.tuple #[o, .bool (evStep C js b ⟨kd, id, t, k⟩).isSome]) ∧ Kd.entry.slice.K w' Any ((evStep C js b ⟨kd, id, t, k⟩).getD b) [o] ∧ Below w.heap.size w w' := by
  by_cases hk : kd = 1
  · subst hk
    rw [ev_accept1, ev_accept2]
    exact rstepA39_calls C CA CB ca cb js JA0 jn jcap b v id t k w hC hj hb hB.len hjs h24 hwl
  · exact rstepT39_calls C CA CB ca cb js JA0 jn jcap b v kd id t k w hk hC hb hB hB24 hwl
set_option maxHeartbeats 4000000 in
set_option maxRecDepth 100000 in
theorem rrun39_calls (C : ConfS) (CA CB : Option Addr) (ca cb : Nat) (js : List JobS) (JA0 : Option Addr) (jn jcap : Nat) (l : List EvS) (v : Value) (w : World) (hC : CAt w C CA CB ca cb) (hj : Kd.job.slice.K w Any js [.slice JA0 jn jcap]) (hl : Kd.event.slice.K w Any l [v]) (hjs : JsOk js) (h24 : Short24 js) (hwl : C.workers.length ≤ 1000000) (hn : l.length ≤ 1000) :
    Calls Tryz.prog 18 #[.agg #[.int .i64 C.scheds, .int .i64 C.lease, .int .i64 C.again, .int .i64 C.room, .int .i64 C.out, .slice CA C.names.length ca, .slice CB C.workers.length cb], .slice JA0 jn jcap, v] w fun e w' => ∃ o, e = .returned (.tuple #[o, .int .i64 ((evRun C js [] l).2 : Nat)]) ∧ Kd.entry.slice.K w' Any (evRun C js [] l).1 [o] ∧ Below w.heap.size w w' := by
  obtain ⟨V, hV⟩ : ∃ V, V = w.alloc (.cells #[.int .i64 C.scheds, .int .i64 C.lease, .int .i64 C.again, .int .i64 C.room, .int .i64 C.out, .slice CA C.names.length ca, .slice CB C.workers.length cb] 25) := ⟨_, rfl⟩
  have hb0 : Below w.heap.size w V := by rw [hV]; exact bAlloc (Below.refl _ _) _
  have HBV := hid hb0
  have HBC := hid (boxC_of (b := w.heap.size) (by rw [hV]; exact heap_at rfl) (hC.below hb0))
  have HJ := hid (Kd.below hj hb0)
  have HLV := hid (Kd.below hl hb0)
  have HJS := hid hjs
  have H24 := hid h24
  have HWL := hid hwl
  have HV := hid hV
  obtain ⟨A, c, he, hcc, hm, _⟩ := hl
  cases he
  have HR := hid (K_row HLV.out).1
  obtain ⟨q, hq⟩ : ∃ q, l.length = q := ⟨_, rfl⟩
  have HQ := hid hq
  rw [hq] at hcc hm hn ⊢
  have HN := hid hn
  have hEq := hV.symm
  clear hV hC hj hb0 hq hjs h24 hwl HLV
  go_enter Tryz.func18, Tryz.ntmps18
  go_wp2
  go_loopw [8, 9] (fun sv i wr => ∃ (k : Nat) (s : List EntryS), k ≤ q ∧ i = .int .i64 k ∧ Hid (evTo C js l k s) ∧ Hid (EvGood k s ∧ Short24B s) ∧ Hid (Kd.entry.slice.K wr Any s [sv]) ∧ Hid (Below V.heap.size V wr)) (fun _ i _ => q - (intOf i).toNat)
  case atStart => exact ⟨0, [], by omega, rfl, hid (evTo_zero C js l), hid ⟨evGood_nil, fun E h => by simp at h⟩, hid ⟨none, 0, rfl, Nat.le_refl _, by decide, Kd.Row.nil⟩, hid (Below.refl _ _)⟩
  case round =>
    obtain ⟨k, s, hk, rfl, HT, HG, HS, HB⟩ := hrel
    by_cases hlt : k < q
    · obtain ⟨a, x, rfl, hx, r0, r1, r2, r3⟩ := (HR.out.below HB.out).at_event k (by rw [HQ.out]; exact hlt)
      have HX := hid hx
      have hltI : (k : Int) < (q : Int) := by omega
      have hk0 : (0 : Int) ≤ (k : Int) := by omega
      obtain ⟨kd, id, t, wk⟩ := x
      have HSS := hid (fun (u : World) (hb : Below wr.heap.size wr u) => show ((u.cell? ⟨w.heap.size, 0, none⟩ = some (.int .i64 C.scheds) ∧ u.cell? ⟨w.heap.size, 1, none⟩ = some (.int .i64 C.lease) ∧ u.cell? ⟨w.heap.size, 2, none⟩ = some (.int .i64 C.again) ∧ u.cell? ⟨w.heap.size, 3, none⟩ = some (.int .i64 C.room) ∧ u.cell? ⟨w.heap.size, 4, none⟩ = some (.int .i64 C.out) ∧ u.cell? ⟨w.heap.size, 5, none⟩ = some (.slice CA C.names.length ca) ∧ u.cell? ⟨w.heap.size, 6, none⟩ = some (.slice CB C.workers.length cb)) ∧ u.cell? (a.add (k * 4)) = some (.int .i64 kd) ∧ u.cell? ⟨(a.add (k * 4)).block, (a.add (k * 4)).off + 1, none⟩ = some (.int .i64 id) ∧ u.cell? ⟨(a.add (k * 4)).block, (a.add (k * 4)).off + 2, none⟩ = some (.int .i64 t) ∧ u.cell? ⟨(a.add (k * 4)).block, (a.add (k * 4)).off + 3, none⟩ = some (.int .i64 wk)) from
        ⟨(HBC.out.below (HB.out.trans (hb.mono HB.out.size))).1, (hb.cell (World.block_lt_of_cell? _ _ r0)).trans r0, (hb.cell (World.block_lt_of_cell? _ _ r1)).trans r1, (hb.cell (World.block_lt_of_cell? _ _ r2)).trans r2, (hb.cell (World.block_lt_of_cell? _ _ r3)).trans r3⟩)
      have T0 := hid (Below.refl wr.heap.size wr).drew
      have U0 := hid (HB.out.trans (T0.out.mono HB.out.size))
      have q0 := HSS.out wr.drew T0.out
      have HS0 := hid (Kd.below HS.out T0.out)
      obtain ⟨As, cs, he, _, _, _⟩ := HS.out
      injection he with he _
      subst he
      obtain ⟨sl, hsl⟩ : ∃ n, n = s.length := ⟨_, rfl⟩
      rw [← hsl] at HS HS0 ⊢
      clear hx hsl
      go_wp2_with fail
      refine wp_region_held_drew (S := fun w' => (w'.cell? ⟨w.heap.size, 0, none⟩ = some (.int .i64 C.scheds) ∧ w'.cell? ⟨w.heap.size, 1, none⟩ = some (.int .i64 C.lease) ∧ w'.cell? ⟨w.heap.size, 2, none⟩ = some (.int .i64 C.again) ∧ w'.cell? ⟨w.heap.size, 3, none⟩ = some (.int .i64 C.room) ∧ w'.cell? ⟨w.heap.size, 4, none⟩ = some (.int .i64 C.out) ∧ w'.cell? ⟨w.heap.size, 5, none⟩ = some (.slice CA C.names.length ca) ∧ w'.cell? ⟨w.heap.size, 6, none⟩ = some (.slice CB C.workers.length cb)) ∧ w'.cell? (a.add (k * 4)) = some (.int .i64 kd) ∧ w'.cell? ⟨(a.add (k * 4)).block, (a.add (k * 4)).off + 1, none⟩ = some (.int .i64 id) ∧ w'.cell? ⟨(a.add (k * 4)).block, (a.add (k * 4)).off + 2, none⟩ = some (.int .i64 t) ∧ w'.cell? ⟨(a.add (k * 4)).block, (a.add (k * 4)).off + 3, none⟩ = some (.int .i64 wk)) (by kernel_rfl) q0 (fun hHeld => ?_)
      refine anyH_take 0 (v := ?_) rfl (by kernel_rfl) (by kernel_rfl) (by kernel_rfl) (fun _ _ _ h => h) (by rfl) hHeld ?_ ?_
      rotate_left
      · (intro w hSw; (try dsimp only at hSw); go_split_ands; go_simp; try with_reducible rfl)
      (try simp only [Act.put, List.setIfInBounds_toArray, List.set_cons_zero, List.set_cons_succ])
      refine anyH_take 1 (v := ?_) rfl (by kernel_rfl) (by kernel_rfl) (by kernel_rfl) (fun _ _ _ h => h) (by rfl) hHeld ?_ ?_
      rotate_left
      · (intro w hSw; (try dsimp only at hSw); go_split_ands; go_simp; try with_reducible rfl)
      (try simp only [Act.put, List.setIfInBounds_toArray, List.set_cons_zero, List.set_cons_succ])
      refine anyH_take 2 (v := ?_) rfl (by kernel_rfl) (by kernel_rfl) (by kernel_rfl) (fun _ _ _ h => h) (by rfl) hHeld ?_ ?_
      rotate_left
      · (intro w hSw; (try dsimp only at hSw); go_split_ands; go_simp; try with_reducible rfl)
      (try simp only [Act.put, List.setIfInBounds_toArray, List.set_cons_zero, List.set_cons_succ])
      refine anyH_take 3 (v := ?_) rfl (by kernel_rfl) (by kernel_rfl) (by kernel_rfl) (fun _ _ _ h => h) (by rfl) hHeld ?_ ?_
      rotate_left
      · (intro w hSw; (try dsimp only at hSw); go_split_ands; go_simp; try with_reducible rfl)
      (try simp only [Act.put, List.setIfInBounds_toArray, List.set_cons_zero, List.set_cons_succ])
      refine anyH_take 4 (v := ?_) rfl (by kernel_rfl) (by kernel_rfl) (by kernel_rfl) (fun _ _ _ h => h) (by rfl) hHeld ?_ ?_
      rotate_left
      · (intro w hSw; (try dsimp only at hSw); go_split_ands; go_simp; try with_reducible rfl)
      (try simp only [Act.put, List.setIfInBounds_toArray, List.set_cons_zero, List.set_cons_succ])
      refine anyH_take 5 (v := ?_) rfl (by kernel_rfl) (by kernel_rfl) (by kernel_rfl) (fun _ _ _ h => h) (by rfl) hHeld ?_ ?_
      rotate_left
      · (intro w hSw; (try dsimp only at hSw); go_split_ands; go_simp; try with_reducible rfl)
      (try simp only [Act.put, List.setIfInBounds_toArray, List.set_cons_zero, List.set_cons_succ])
      refine anyH_take 6 (v := ?_) rfl (by kernel_rfl) (by kernel_rfl) (by kernel_rfl) (fun _ _ _ h => h) (by rfl) hHeld ?_ ?_
      rotate_left
      · (intro w hSw; (try dsimp only at hSw); go_split_ands; go_simp; try with_reducible rfl)
      (try simp only [Act.put, List.setIfInBounds_toArray, List.set_cons_zero, List.set_cons_succ])
      refine anyH_one 7 rfl (by kernel_rfl) (fun K hK => ?_)
      go_simp
      refine (rstep39_calls C CA CB ca cb js JA0 jn jcap s _ kd id t wk wr.drew (HBC.out.below U0.out).2.1 (Kd.below HJ.out U0.out) HS0.out (HG.out.1.ok (by have := HN.out; omega)) HG.out.2 HJS.out H24.out HWL.out).mono ?_
      rintro e w1 ⟨o, rfl, hO, hb1⟩
      have HO := hid hO
      have T1 := hid (bThen T0.out hb1)
      clear hO hb1
      go_simp
      refine hK.out _ _ (HSS.out _ T1.out) (fun hHeld => ?_)
      clear hK K
      (try simp only [Act.put, List.setIfInBounds_toArray, List.set_cons_zero, List.set_cons_succ])
      refine anyH_take 8 (v := ?_) rfl (by kernel_rfl) (by kernel_rfl) (by kernel_rfl) (fun _ _ _ h => h) (by rfl) hHeld ?_ ?_
      rotate_left
      · (intro w hSw; (try dsimp only at hSw); go_split_ands; go_simp; try with_reducible rfl)
      (try simp only [Act.put, List.setIfInBounds_toArray, List.set_cons_zero, List.set_cons_succ])
      refine anyH_take 9 (v := ?_) rfl (by kernel_rfl) (by kernel_rfl) (by kernel_rfl) (fun _ _ _ h => h) (by rfl) hHeld ?_ ?_
      rotate_left
      · (intro w hSw; (try dsimp only at hSw); go_split_ands; go_simp; try with_reducible rfl)
      (try simp only [Act.put, List.setIfInBounds_toArray, List.set_cons_zero, List.set_cons_succ])
      refine anyH_take 10 (v := ?_) rfl (by kernel_rfl) (by kernel_rfl) (by kernel_rfl) (fun _ _ _ h => h) (by rfl) hHeld ?_ ?_
      rotate_left
      · (intro w hSw; (try dsimp only at hSw); go_split_ands; go_simp; try with_reducible rfl)
      (try simp only [Act.put, List.setIfInBounds_toArray, List.set_cons_zero, List.set_cons_succ])
      refine anyH_take 11 (v := ?_) rfl (by kernel_rfl) (by kernel_rfl) (by kernel_rfl) (fun _ _ _ h => h) (by rfl) hHeld ?_ ?_
      rotate_left
      · (intro w hSw; (try dsimp only at hSw); go_split_ands; go_simp; try with_reducible rfl)
      (try simp only [Act.put, List.setIfInBounds_toArray, List.set_cons_zero, List.set_cons_succ])
      refine anyH_take 12 (v := ?_) rfl (by kernel_rfl) (by kernel_rfl) (by kernel_rfl) (fun _ _ _ h => h) (by rfl) hHeld ?_ ?_
      rotate_left
      · (intro w hSw; (try dsimp only at hSw); go_split_ands; go_simp; try with_reducible rfl)
      (try simp only [Act.put, List.setIfInBounds_toArray, List.set_cons_zero, List.set_cons_succ])
      refine wpAnyH_done (by kernel_rfl) ?_ _
      have U2 := hid (HB.out.trans (T1.out.mono HB.out.size))
      have HS2 := hid (Kd.below HS.out T1.out)
      clear hHeld q0 r0 r1 r2 r3
      cases hst : evStep C js s ⟨kd, id, t, wk⟩ with
      | none =>
        have HF := hid (evTo_stop HT.out HX.out hst)
        clear hst
        go_wp2
        go_ret2
        rw [HF.out]
        exact ⟨_, rfl, HS2.out, bThen HBV.out U2.out⟩
      | some s' =>
        have HT2 := hid (evTo_step HT.out HX.out hst)
        have HG2 := hid (And.intro (evGood_step HJS.out HG.out.1 hst) (short24_step H24.out HG.out.2 hst))
        have HO2 := hid (show Kd.entry.slice.K w1 Any s' [o] from by have h := HO.out; rw [hst] at h; exact h)
        clear hst HO
        go_wp2
        go_roundw
        case rel => exact ⟨k + 1, s', by omega, by go_num, HT2, HG2, HO2, U2⟩
        case measure => simp [intOf]; omega
    · obtain rfl : k = q := by omega
      have HF := hid (show evRun C js [] l = (s, k) by rw [evTo_end (s := s) (by rw [HQ.out]; exact HT.out), HQ.out])
      go_wp2
      go_ret2
      rw [HF.out]
      exact ⟨_, rfl, HS.out, bThen HBV.out HB.out⟩
end Go.Proofs.YtgedkcglkhleoaaGreatDoor
