/- book.Step. -/
import Derived.Test.YtkjncmmombkllaaGreatBook7
import Derived.Test.YtkjncmmombkllaaGreatScans
import Derived.Test.YtkjncmmombkllaaGreatBase
namespace Go.Proofs.YtkjncmmombkllaaGreat
open Go.RowKit

theorem bstepped_calls (E : EntryS) (EA EB ED : Option Addr) (ea eb ed : Nat) (x : RecS) (XA : Option Addr) (xc : Nat) (B : Nat) (w : World) (hE : EOwn w B E EA EB ED ea eb ed) (hB : B ≤ w.heap.size) (hep : EOk E) (hx : recOk x = true) (hk : x.kind ≠ 1) :
    Calls Tryz.prog 55 #[.agg #[.int .i64 E.id, .int .i64 E.sched, .int .i64 E.epoch, .slice EA E.needs.length ea, .slice EB E.bound.length eb, .slice ED E.done.length ed], .agg #[.int .i64 x.kind, .int .i64 x.job, .int .i64 x.task, .int .i64 x.worker, .int .i64 x.sched, .int .i64 x.epoch, .slice XA x.needs.length xc]] w fun e w' => e = .returned (.tuple #[.agg #[.int .i64 (stepE E x).id, .int .i64 (stepE E x).sched, .int .i64 (stepE E x).epoch, .slice EA (stepE E x).needs.length ea, .slice EB (stepE E x).bound.length eb, .slice ED (stepE E x).done.length ed], .int .i64 (whyE E x)]) ∧ EOwn w' B (stepE E x) EA EB ED ea eb ed ∧ Mod (fun j => (Value.slice EB E.bound.length eb).ownBlock = some j ∨ (Value.slice ED E.done.length ed).ownBlock = some j) w w' := by
  have h := (recOk_parts hx).1
  by_cases h4 : x.kind = 4
  · exact bstepped_own E EA EB ED ea eb ed x XA xc B w hE hB hep h4
  · exact bstepped_task E EA EB ED ea eb ed x XA xc B w hE hB hep hx (by omega)
/-- An element of a row of the call's own, written anew. -/
theorem Own.put6 {w : World} {e : TypeId} {base g q c : Nat} {T : Nat → Prop} {b : List EntryS} (h : Own Kd.entry e w base T (.slice (some ⟨g, 0, none⟩) q c) b) (k : Nat) (hk : k < b.length) (y : EntryS) (v0 v1 v2 v3 v4 v5 : Value) (hK : Kd.entry.K w (fun j => T j ∧ j ≠ g) y [v0, v1, v2, v3, v4, v5]) :
    ∃ w1, w1 = (((((w.setCell ⟨g, k * 6, none⟩ v0).setCell ⟨g, k * 6 + 1, none⟩ v1).setCell ⟨g, k * 6 + 2, none⟩ v2).setCell ⟨g, k * 6 + 3, none⟩ v3).setCell ⟨g, k * 6 + 4, none⟩ v4).setCell ⟨g, k * 6 + 5, none⟩ v5 ∧ Kd.entry.slice.K w1 (fun j => T j ∨ base ≤ j) (b.set k y) [.slice (some ⟨g, 0, none⟩) q c] ∧ (∀ j, j ≠ g → w1.heap[j]? = w.heap[j]?) ∧ Below base w w1 := by
  obtain ⟨h0, cells, hown, hr⟩ := h
  rcases hown.2 with ⟨h1, _⟩ | ⟨g', cap, cur, h1, hg, hh, hnc, hcm, hcs, ht⟩
  · cases h1
  injection h1 with h1 h2 h3
  injection h1 with h1
  injection h1 with h1
  subst h1
  have e0 := heap_set hh (k * 6) v0
  have e1 := heap_set e0 (k * 6 + 1) v1
  have e2 := heap_set e1 (k * 6 + 2) v2
  have e3 := heap_set e2 (k * 6 + 3) v3
  have e4 := heap_set e3 (k * 6 + 4) v4
  have e5 := heap_set e4 (k * 6 + 5) v5
  obtain ⟨p, _, _⟩ := cells_of_block e5
  have hsz : k * 6 + 6 ≤ cur.size := by
    have : b.length * 6 ≤ cur.size := by
      have h6 : (6 : Nat) = Kd.entry.sz := rfl
      have : b.length ≤ cap := hnc
      have h7 : cap * 6 ≤ cur.size := hcs
      omega
    omega
  have hN : ∀ j, j ≠ g → ((((((w.setCell ⟨g, k * 6, none⟩ v0).setCell ⟨g, k * 6 + 1, none⟩ v1).setCell ⟨g, k * 6 + 2, none⟩ v2).setCell ⟨g, k * 6 + 3, none⟩ v3).setCell ⟨g, k * 6 + 4, none⟩ v4).setCell ⟨g, k * 6 + 5, none⟩ v5).heap[j]? = w.heap[j]? := fun j hj => by
    rw [Below.heap_setCell _ _ _ _ hj, Below.heap_setCell _ _ _ _ hj, Below.heap_setCell _ _ _ _ hj, Below.heap_setCell _ _ _ _ hj, Below.heap_setCell _ _ _ _ hj, Below.heap_setCell _ _ _ _ hj]
  refine ⟨_, rfl, ⟨some ⟨g, 0, none⟩, c, by rw [List.length_set, h2], by rw [List.length_set, h3]; exact hnc, by rw [List.length_set]; exact h0, fun i z hz => ?_⟩, hN, ?_⟩
  · by_cases hik : i = k
    · subst hik
      rw [List.getElem?_set_self hk] at hz
      obtain rfl := Option.some.inj hz
      refine ⟨⟨g, 0, none⟩, _, rfl, .inr hg, (Array.getElem?_eq_some_iff.1 e5).1, Kd.entry.move (fun j hj _ => hN j hj.2) (Kd.entry.mono (S' := fun j => (T j ∨ base ≤ j) ∧ j ≠ g) (fun j hj _ => ⟨.inl hj.1, hj.2⟩) hK) |> Kd.entry.mono (fun j hj _ => hj.1), fun j u hu => ?_⟩
      rw [add_lit0]
      refine p _ _ ?_
      show _ = some u
      have hj : j < 6 := (List.getElem?_eq_some_iff.1 hu).1
      have h6 : i * Kd.entry.sz = i * 6 := rfl
      rw [h6]
      simp only [Array.getElem?_setIfInBounds, Array.size_setIfInBounds]
      have : j = 0 ∨ j = 1 ∨ j = 2 ∨ j = 3 ∨ j = 4 ∨ j = 5 := by omega
      rcases this with rfl | rfl | rfl | rfl | rfl | rfl <;> (simp at hu; subst hu; simp; omega)
    · rw [List.getElem?_set_ne (fun h => hik h.symm)] at hz
      obtain ⟨cs, hkk, hcs2⟩ := hr.get i z hz
      refine ⟨⟨g, 0, none⟩, cs, rfl, .inr hg, (Array.getElem?_eq_some_iff.1 e5).1, Kd.entry.mono (fun j hj _ => .inl hj.1) (Kd.entry.move (fun j hj _ => hN j (fun e => hj.2 (by rw [e]; rfl))) hkk), fun j u hu => ?_⟩
      have hold := hown.cells (g := g) rfl _ u (hcs2 j u hu)
      rw [add_lit0] at hold ⊢
      have hj : j < 6 := by
        have := (List.getElem?_eq_some_iff.1 hu).1
        have h8 := Kd.entry.len hkk
        have h9 : Kd.entry.sz = 6 := rfl
        omega
      have h6 : i * Kd.entry.sz = i * 6 := rfl
      rw [h6] at hold ⊢
      refine p _ _ ?_
      rw [cell_of_row w g (i * 6 + j) cur e (0, 0) hh] at hold
      rw [Array.getElem?_setIfInBounds_ne (by omega), Array.getElem?_setIfInBounds_ne (by omega), Array.getElem?_setIfInBounds_ne (by omega), Array.getElem?_setIfInBounds_ne (by omega), Array.getElem?_setIfInBounds_ne (by omega), Array.getElem?_setIfInBounds_ne (by omega)]
      exact hold
  · exact (((((((Below.refl base w).setCell (p := ⟨g, k * 6, none⟩) hg v0).setCell (p := ⟨g, k * 6 + 1, none⟩) hg v1).setCell (p := ⟨g, k * 6 + 2, none⟩) hg v2).setCell (p := ⟨g, k * 6 + 3, none⟩) hg v3).setCell (p := ⟨g, k * 6 + 4, none⟩) hg v4).setCell (p := ⟨g, k * 6 + 5, none⟩) hg v5)
/-- A block of entries is none of an entry's lists. -/
theorem EOwn.apart {w : World} {B : Nat} {E : EntryS} {EA EB ED : Option Addr} {ea eb ed : Nat} (h : EOwn w B E EA EB ED ea eb ed) {R : Nat} {cs : Array Value} (hR : w.heap[R]? = some (.cells cs 55 (0, 0))) (v : Value) (hv : v = .slice EA E.needs.length ea ∨ v = .slice EB E.bound.length eb ∨ v = .slice ED E.done.length ed) : v.ownBlock ≠ some R := fun hj => by
  rcases hv with rfl | rfl | rfl
  · obtain ⟨c9, h9⟩ := h.needs.typed _ hj
    rw [hR] at h9; injection h9 with h9; injection h9 with _ h9 _; exact absurd h9 (by decide)
  · obtain ⟨c9, h9⟩ := h.bound.typed _ hj
    rw [hR] at h9; injection h9 with h9; injection h9 with _ h9 _; exact absurd h9 (by decide)
  · obtain ⟨c9, h9⟩ := h.done.typed _ hj
    rw [hR] at h9; injection h9 with h9; injection h9 with _ h9 _; exact absurd h9 (by decide)
theorem whyB_check {b : List EntryS} {x : RecS} (h : recOk x = false) : whyB b x = 1 := if_pos h
theorem whyB_accept {b : List EntryS} {x : RecS} (h : recOk x = true) (hk : x.kind = 1) : whyB b x = if 0 ≤ placeE b x.job then 9 else if 40 ≤ b.length then 7 else 0 := by unfold whyB; rw [if_neg (by rw [h]; decide), if_pos hk]
theorem whyB_none {b : List EntryS} {x : RecS} (h : recOk x = true) (hk : ¬ x.kind = 1) (hf : findE b x.job = none) : whyB b x = 8 := by unfold whyB; rw [if_neg (by rw [h]; decide), if_neg hk, hf]
theorem whyB_some {b : List EntryS} {x : RecS} {E : EntryS} (h : recOk x = true) (hk : ¬ x.kind = 1) (hf : findE b x.job = some E) : whyB b x = whyE E x := by unfold whyB; rw [if_neg (by rw [h]; decide), if_neg hk, hf]
theorem nextB_no {b : List EntryS} {x : RecS} (h : whyB b x ≠ 0) : nextB b x = [] := if_pos h
theorem nextB_accept {b : List EntryS} {x : RecS} (h : whyB b x = 0) (hk : x.kind = 1) : nextB b x = b ++ [acceptR x] := by unfold nextB; rw [if_neg (fun h2 => h2 h), if_pos hk]
theorem nextB_some {b : List EntryS} {x : RecS} {E : EntryS} (h : whyB b x = 0) (hk : ¬ x.kind = 1) (hf : findE b x.job = some E) : nextB b x = b.set (placeE b x.job).toNat (doneE E x) := by unfold nextB; rw [if_neg (fun h2 => h2 h), if_neg hk, hf]
theorem nilKE (w : World) (S : Nat → Prop) : Kd.entry.slice.K w S [] [.slice none 0 0] := ⟨none, 0, rfl, Nat.le_refl _, by decide, Kd.Row.nil⟩
set_option maxHeartbeats 4000000 in
set_option maxRecDepth 100000 in
theorem bstep_calls (b : List EntryS) (v : Value) (x : RecS) (XA : Option Addr) (xc : Nat) (w : World) (hb : Kd.entry.slice.K w Any b [v]) (hx : Kd.str.slice.K w Any x.needs [.slice XA x.needs.length xc]) (hB : BOk b) :
    Calls Tryz.prog 33 #[v, .agg #[.int .i64 x.kind, .int .i64 x.job, .int .i64 x.task, .int .i64 x.worker, .int .i64 x.sched, .int .i64 x.epoch, .slice XA x.needs.length xc]] w fun e w' => ∃ o, e = .returned (.tuple #[o, .int .i64 (whyB b x)]) ∧ Kd.entry.slice.K w' (fun k => w.heap.size ≤ k) (nextB b x) [o] ∧ Below w.heap.size w w' := by
  obtain ⟨V, hV⟩ : ∃ V, V = w.alloc (.cells #[.int .i64 x.kind, .int .i64 x.job, .int .i64 x.task, .int .i64 x.worker, .int .i64 x.sched, .int .i64 x.epoch, .slice XA x.needs.length xc] 46) := ⟨_, rfl⟩
  have hb0 : Below w.heap.size w V := by rw [hV]; exact bAlloc (Below.refl _ _) _
  have HZ := hid (show V.heap[w.heap.size]? = some (.cells #[.int .i64 x.kind, .int .i64 x.job, .int .i64 x.task, .int .i64 x.worker, .int .i64 x.sched, .int .i64 x.epoch, .slice XA x.needs.length xc] 46 (0, 0)) by rw [hV]; exact heap_at rfl)
  have HVS := hid (show V.heap.size = w.heap.size + 1 by rw [hV]; simp)
  have HBV := hid hb0
  have HB := hid (Kd.below hb hb0)
  have HX := hid (Kd.below hx hb0)
  have HBO := hid hB
  have hEq := hV.symm
  obtain ⟨A, c, he, _, _, _⟩ := hb
  injection he with he _
  subst he
  obtain ⟨q, hq⟩ : ∃ q, q = b.length := ⟨_, rfl⟩
  have HQ := hid hq
  rw [← hq] at HB ⊢
  obtain ⟨n, hn⟩ : ∃ n, n = x.needs.length := ⟨_, rfl⟩
  have HN := hid hn
  rw [← hn] at HX HZ hEq ⊢
  have HR := hid (fun (u : World) (h : Below V.heap.size V u) => rec_cells (x := x) (A := XA) (n := n) (c := xc) ((h.block w.heap.size (Array.getElem?_eq_some_iff.1 HZ.out).1).trans HZ.out))
  clear hV hb0 hx hB hq hn
  obtain ⟨x0, x1, x2, x3, x4, x5, x6⟩ := HR.out V (Below.refl _ _)
  cases hok : recOk x
  case false =>
    have HW := hid (whyB_check (b := b) hok)
    have HNX := hid (nextB_no (b := b) (x := x) (by rw [HW.out]; decide))
    go_enter Tryz.func33, Tryz.ntmps33
    go_wp2_with fail
    refine (recCheck_calls x XA n xc V HX.out).mono ?_
    rintro e w1 ⟨rfl, hb1⟩
    rw [hok]
    have B1 := hid (bThen HBV.out hb1)
    clear hb1 hok
    go_wp2
    go_ret2
    rw [HNX.out, HW.out]
    exact ⟨_, rfl, nilKE _ _, B1.out⟩
  have HOK := hid hok
  go_enter Tryz.func33, Tryz.ntmps33
  go_wp2_with fail
  refine (recCheck_calls x XA n xc V HX.out).mono ?_
  rintro e w1 ⟨rfl, hb1⟩
  rw [hok]
  have HB1 := hid hb1
  clear hb1 hok x0 x1 x2 x3 x4 x5 x6
  obtain ⟨x0, x1, x2, x3, x4, x5, x6⟩ := HR.out w1 HB1.out
  go_wp2_with fail
  refine (place_calls20 b x.job _ w1 (Kd.below HB.out HB1.out)).mono ?_
  rintro e w2 ⟨rfl, hb2⟩
  have HB2 := hid (bThen HB1.out hb2)
  clear hb2 x0 x1 x2 x3 x4 x5 x6 hEq
  obtain ⟨x0, x1, x2, x3, x4, x5, x6⟩ := HR.out w2 HB2.out
  by_cases hk : x.kind = 1
  · have HW0 := hid (whyB_accept (b := b) HOK.out hk)
    have HKD := hid hk
    have hk1 : (x.kind == (1 : Int)) = true := by rw [hk]; decide
    by_cases hp : 0 ≤ placeE b x.job
    · have HW := hid (HW0.out.trans (if_pos hp))
      have HNX := hid (nextB_no (b := b) (x := x) (by rw [HW.out]; decide))
      obtain ⟨i, E, hpk, _, _, _⟩ := idxE_some hp
      have hpk' : placeE b x.job = i := hpk
      rw [hpk']
      clear hp hk hpk hpk'
      have hk0 : (0 : Int) ≤ (i : Int) := by omega
      go_wp2
      go_ret2
      rw [HNX.out, HW.out]
      exact ⟨_, rfl, nilKE _ _, bThen HBV.out HB2.out⟩
    have HW1 := hid (HW0.out.trans (if_neg hp))
    have hpn : placeE b x.job = -1 := idxE_neg hp
    rw [hpn]
    clear hp hk hpn
    by_cases hl : 40 ≤ q
    · have HW := hid (HW1.out.trans (if_pos (by rw [← HQ.out]; exact hl)))
      have HNX := hid (nextB_no (b := b) (x := x) (by rw [HW.out]; decide))
      have hlI : (40 : Int) ≤ (q : Int) := by omega
      go_wp2
      go_ret2
      rw [HNX.out, HW.out]
      exact ⟨_, rfl, nilKE _ _, bThen HBV.out HB2.out⟩
    have HW := hid (HW1.out.trans (if_neg (by rw [← HQ.out]; exact hl)))
    have HNX := hid (nextB_accept HW.out HKD.out)
    have hlI : ¬ (40 : Int) ≤ (q : Int) := by omega
    have HL := hid (show b.length ≤ 40 by rw [← HQ.out]; omega)
    have HF := hid (show ∀ E ∈ b, Fits E from fun E hE => (HBO.out.1 E hE).fits)
    have HBK2 := hid (Kd.below HB.out HB2.out)
    have HX2 := hid (Kd.below HX.out HB2.out)
    have HNL := hid (show n ≤ 16 by rw [HN.out]; exact (recOk_accept HOK.out HKD.out).2.1)
    have U0 := hid (Below.refl w2.heap.size w2).drew
    have HS := hid (fun (u : World) (h : Below w2.heap.size w2 u) => HR.out u (bThen HB2.out h))
    have q0 := HS.out w2.drew U0.out
    have HBW := hid (bThen HBV.out HB2.out)
    clear hl HW0 HW1
    go_wp2_with fail
    refine wp_region_held_drew (S := fun w' => w'.cell? ⟨w.heap.size, 0, none⟩ = some (.int .i64 x.kind) ∧ w'.cell? ⟨w.heap.size, 1, none⟩ = some (.int .i64 x.job) ∧ w'.cell? ⟨w.heap.size, 2, none⟩ = some (.int .i64 x.task) ∧ w'.cell? ⟨w.heap.size, 3, none⟩ = some (.int .i64 x.worker) ∧ w'.cell? ⟨w.heap.size, 4, none⟩ = some (.int .i64 x.sched) ∧ w'.cell? ⟨w.heap.size, 5, none⟩ = some (.int .i64 x.epoch) ∧ w'.cell? ⟨w.heap.size, 6, none⟩ = some (.slice XA n xc)) (by kernel_rfl) q0 (fun hHeld => ?_)
    obtain ⟨y0, hy0⟩ : ∃ y, y = w2.drew := ⟨_, rfl⟩
    rw [← hy0] at U0 q0 hHeld ⊢
    clear hy0
    refine anyH_take 0 (v := ?_) rfl (by kernel_rfl) (by kernel_rfl) (by kernel_rfl) (fun _ _ _ h => h) (by rfl) hHeld ?_ ?_
    rotate_left
    · (intro w hSw; (try dsimp only at hSw); go_split_ands; go_simp; try with_reducible rfl)
    (try simp only [Act.put, List.setIfInBounds_toArray, List.set_cons_zero, List.set_cons_succ])
    refine anyH_take 2 (v := ?_) rfl (by kernel_rfl) (by kernel_rfl) (by kernel_rfl) (fun _ _ _ h => h) (by rfl) hHeld ?_ ?_
    rotate_left
    · (intro w hSw; (try dsimp only at hSw); go_split_ands; go_simp; try with_reducible rfl)
    (try simp only [Act.put, List.setIfInBounds_toArray, List.set_cons_zero, List.set_cons_succ])
    refine anyH_one 1 rfl (by kernel_rfl) (fun K hK => ?_)
    go_simp
    refine (bclone_calls b _ y0 (Kd.below HBK2.out U0.out) HF.out (by have := HL.out; omega)).mono ?_
    rintro e y1 ⟨o, rfl, hO, hb⟩
    have U1 := hid (bThen U0.out hb)
    have z1 : y0.heap.size ≤ y1.heap.size := hb.size
    have O1 := hid ((hO.move (T' := fun k => y0.heap.size ≤ k) (fun _ _ _ => rfl) (fun k h _ => (show y0.heap.size ≤ k by have : y0.heap.size ≤ k := h; omega))).lower (show y0.heap.size ≤ y0.heap.size by omega))
    obtain ⟨Ao, no, co, rfl, hno, _⟩ := hO.shape'
    have HRO := hid (fun j (h : (Value.slice Ao no co).ownBlock = some j) => (show y0.heap.size ≤ j ∧ j < y1.heap.size from hO.lt j h))
    clear hO hb hno
    go_simp
    refine hK.out _ _ (HS.out _ U1.out) (fun hHeld => ?_)
    clear hK K
    (try simp only [Act.put, List.setIfInBounds_toArray, List.set_cons_zero, List.set_cons_succ])
    refine anyH_one 3 rfl (by kernel_rfl) (fun K hK => ?_)
    go_simp
    have hac := baccepted_calls x XA xc y1 (by rw [← HN.out]; exact Kd.below HX2.out U1.out) (by rw [← HN.out]; have := HNL.out; omega)
    rw [← HN.out] at hac
    refine hac.mono ?_
    clear hac
    rintro e y2 ⟨FA, FB, FD, fa, fb, fd, rfl, hK, hb⟩
    have U2 := hid (bThen U1.out hb)
    have z2 : y1.heap.size ≤ y2.heap.size := hb.size
    have O2 := hid (O1.out.below hb)
    have E2 := hid (Kd.entry.mono (S' := fun j => y0.heap.size ≤ j ∧ some j ≠ (Value.slice Ao no co).ownBlock) (fun j h hl => ⟨by have : y1.heap.size ≤ j := h; omega, fun e => by have := HRO.out j e.symm; have : y1.heap.size ≤ j := h; omega⟩) hK)
    clear hK hb
    go_simp
    refine hK.out _ _ (HS.out _ U2.out) (fun hHeld => ?_)
    clear hK K
    (try simp only [Act.put, List.setIfInBounds_toArray, List.set_cons_zero, List.set_cons_succ])
    refine anyH_one 4 rfl (by kernel_rfl) (fun K hK => ?_)
    go_simp
    obtain ⟨y3, hy⟩ : ∃ y, y = y2.alloc (.cells #[.int .i64 x.job, .int .i64 x.sched, .int .i64 1, .slice FA n fa, .slice FB n fb, .slice FD n fd] 55) := ⟨_, rfl⟩
    rw [← hy]
    have hb : Below y2.heap.size y2 y3 := by rw [hy]; exact bAlloc (Below.refl _ _) _
    have U3 := hid (bThen U2.out hb)
    have z3 : y2.heap.size ≤ y3.heap.size := hb.size
    have O3 := hid (O2.out.below hb)
    have E3 := hid (Kd.below E2.out hb)
    have R3 := hid (show y3.heap[y2.heap.size]? = some (.cells #[.int .i64 x.job, .int .i64 x.sched, .int .i64 1, .slice FA n fa, .slice FB n fb, .slice FD n fd] 55 (0, 0)) by rw [hy]; exact heap_at rfl)
    clear hb hy
    refine hK.out _ _ (HS.out _ U3.out) (fun hHeld => ?_)
    clear hK K
    (try simp only [Act.put, List.setIfInBounds_toArray, List.set_cons_zero, List.set_cons_succ])
    refine anyH_one 5 rfl (by kernel_rfl) (fun K hK => ?_)
    have HRR := hid (show Kd.entry.slice.K y3 (fun j => y0.heap.size ≤ j ∧ some j ≠ (Value.slice Ao no co).ownBlock) [acceptR x] [.slice (some ⟨y2.heap.size, 0, none⟩) 1 1] from K_of_block (d := Kd.entry) 1 1 rfl R3.out ⟨by omega, fun e => by have := HRO.out _ e.symm; omega⟩ ⟨_, [], by simp, E3.out, rfl⟩ (Nat.le_refl _) (show 1 ≤ 140737488355328 by decide))
    refine appendsG_step Kd.entry y0.heap.size rfl _ _ 60 55 _ 96 rfl Tryz.underlying60 Tryz.infoEntry rfl (by decide) (by decide) (.slice Ao no co) b [acceptR x] (some ⟨y2.heap.size, 0, none⟩) 1 1 (fun k => y0.heap.size ≤ k) (fun j => y0.heap.size ≤ j ∧ some j ≠ (Value.slice Ao no co).ownBlock) (fun j => y0.heap.size ≤ j ∧ some j ≠ (Value.slice Ao no co).ownBlock) rfl rfl rfl (K_row HRR.out).1 (fun _ _ h => h) (fun _ h _ => h) O3.out (by omega) (by have := HL.out; omega) ?_
    intro vb y4 hOb hgb _
    have HOb := hid (Kd.entry.slice.mono (S' := fun j => y0.heap.size ≤ j) (fun j h _ => h.elim (fun h => h) (fun h => h)) hOb.K)
    have U4 := hid (U3.out.trans ⟨hgb.os, hgb.tape, hgb.output, hgb.size, fun k hk => hgb.block k (Nat.lt_of_lt_of_le hk U3.out.size) (fun e => by have h1 := HRO.out k e.symm; have := U0.out.size; omega)⟩)
    clear hOb hgb
    refine hK.out _ _ (HS.out _ U4.out) (fun hHeld => ?_)
    clear hK K
    (try simp only [Act.put, List.setIfInBounds_toArray, List.set_cons_zero, List.set_cons_succ])
    refine anyH_take 6 (v := ?_) rfl (by kernel_rfl) (by kernel_rfl) (by kernel_rfl) (fun _ _ _ h => h) (by rfl) hHeld ?_ ?_
    rotate_left
    · (intro w hSw; (try dsimp only at hSw); go_split_ands; go_simp; try with_reducible rfl)
    (try simp only [Act.put, List.setIfInBounds_toArray, List.set_cons_zero, List.set_cons_succ])
    refine anyH_take 7 (v := ?_) rfl (by kernel_rfl) (by kernel_rfl) (by kernel_rfl) (fun _ _ _ h => h) (by rfl) hHeld ?_ ?_
    rotate_left
    · (intro w hSw; (try dsimp only at hSw); go_split_ands; go_simp; try with_reducible rfl)
    (try simp only [Act.put, List.setIfInBounds_toArray, List.set_cons_zero, List.set_cons_succ])
    refine wpAnyH_done (by kernel_rfl) ?_ _
    go_wp2
    go_ret2
    rw [HNX.out, HW.out]
    exact ⟨_, rfl, Kd.entry.slice.mono (fun j h _ => Nat.le_trans (Nat.le_trans HBW.out.size U0.out.size) h) HOb.out, bThen HBW.out U4.out⟩
  have hk1 : (x.kind == (1 : Int)) = false := by rw [beq_eq_false_iff_ne]; exact hk
  have HKD := hid hk
  by_cases hp : 0 ≤ placeE b x.job
  case neg =>
    have HW := hid (whyB_none (b := b) HOK.out HKD.out (findE_none hp))
    have HNX := hid (nextB_no (b := b) (x := x) (by rw [HW.out]; decide))
    have hpn : placeE b x.job = -1 := idxE_neg hp
    rw [hpn]
    clear hp hk hpn
    go_wp2
    go_ret2
    rw [HNX.out, HW.out]
    exact ⟨_, rfl, nilKE _ _, bThen HBV.out HB2.out⟩
  obtain ⟨k, E, hpk, hxe, _, hkl⟩ := idxE_some hp
  have hpk' : placeE b x.job = k := hpk
  have HFE := hid (findE_some hpk' hxe)
  have HPK := hid hpk'
  have HWB := hid (whyB_some HOK.out HKD.out HFE.out)
  have HKL := hid hkl
  rw [hpk']
  have hk0 : (0 : Int) ≤ (k : Int) := by omega
  have hkq : (k : Int) < (q : Int) := by rw [HQ.out]; omega
  have HEO := hid (HBO.out.1 E (List.mem_of_getElem? hxe))
  obtain ⟨a, E', EA, EB, ED, ea, eb, ed, rfl, hx', k1, k2, k3, r0, r1, r2, r3, r4, r5⟩ := (K_row (Kd.below HB.out HB2.out)).1.at_entry k hkl
  rw [hxe] at hx'
  obtain rfl := Option.some.inj hx'
  have HEA := hid (EAt.mk k1 k2 k3)
  have HBK2 := hid (Kd.below HB.out HB2.out)
  have HX2 := hid (Kd.below HX.out HB2.out)
  have HL := hid (show b.length ≤ 40 from HBO.out.2)
  have HF := hid (show ∀ E ∈ b, Fits E from fun E hE => (HBO.out.1 E hE).fits)
  have HBW := hid (bThen HBV.out HB2.out)
  have U0 := hid (Below.refl w2.heap.size w2).drew
  have HS := hid (fun (u : World) (h : Below w2.heap.size w2 u) => show ((u.cell? (a.add (k * 6)) = some (.int .i64 E.id) ∧ u.cell? ⟨(a.add (k * 6)).block, (a.add (k * 6)).off + 1, none⟩ = some (.int .i64 E.sched) ∧ u.cell? ⟨(a.add (k * 6)).block, (a.add (k * 6)).off + 2, none⟩ = some (.int .i64 E.epoch) ∧ u.cell? ⟨(a.add (k * 6)).block, (a.add (k * 6)).off + 3, none⟩ = some (.slice EA E.needs.length ea) ∧ u.cell? ⟨(a.add (k * 6)).block, (a.add (k * 6)).off + 4, none⟩ = some (.slice EB E.bound.length eb) ∧ u.cell? ⟨(a.add (k * 6)).block, (a.add (k * 6)).off + 5, none⟩ = some (.slice ED E.done.length ed)) ∧ u.cell? ⟨w.heap.size, 0, none⟩ = some (.int .i64 x.kind) ∧ u.cell? ⟨w.heap.size, 1, none⟩ = some (.int .i64 x.job) ∧ u.cell? ⟨w.heap.size, 2, none⟩ = some (.int .i64 x.task) ∧ u.cell? ⟨w.heap.size, 3, none⟩ = some (.int .i64 x.worker) ∧ u.cell? ⟨w.heap.size, 4, none⟩ = some (.int .i64 x.sched) ∧ u.cell? ⟨w.heap.size, 5, none⟩ = some (.int .i64 x.epoch) ∧ u.cell? ⟨w.heap.size, 6, none⟩ = some (.slice XA n xc)) from
    ⟨⟨(h.cell (World.block_lt_of_cell? _ _ r0)).trans r0, (h.cell (World.block_lt_of_cell? _ _ r1)).trans r1, (h.cell (World.block_lt_of_cell? _ _ r2)).trans r2, (h.cell (World.block_lt_of_cell? _ _ r3)).trans r3, (h.cell (World.block_lt_of_cell? _ _ r4)).trans r4, (h.cell (World.block_lt_of_cell? _ _ r5)).trans r5⟩, HR.out u (bThen HB2.out h)⟩)
  have q0 := HS.out w2.drew U0.out
  clear hp hk hpk hpk' hxe hx' hkl k1 k2 k3 r0 r1 r2 r3 r4 r5
  go_wp2_with fail
  refine wp_region_held_drew (S := fun w' => (w'.cell? (a.add (k * 6)) = some (.int .i64 E.id) ∧ w'.cell? ⟨(a.add (k * 6)).block, (a.add (k * 6)).off + 1, none⟩ = some (.int .i64 E.sched) ∧ w'.cell? ⟨(a.add (k * 6)).block, (a.add (k * 6)).off + 2, none⟩ = some (.int .i64 E.epoch) ∧ w'.cell? ⟨(a.add (k * 6)).block, (a.add (k * 6)).off + 3, none⟩ = some (.slice EA E.needs.length ea) ∧ w'.cell? ⟨(a.add (k * 6)).block, (a.add (k * 6)).off + 4, none⟩ = some (.slice EB E.bound.length eb) ∧ w'.cell? ⟨(a.add (k * 6)).block, (a.add (k * 6)).off + 5, none⟩ = some (.slice ED E.done.length ed)) ∧ w'.cell? ⟨w.heap.size, 0, none⟩ = some (.int .i64 x.kind) ∧ w'.cell? ⟨w.heap.size, 1, none⟩ = some (.int .i64 x.job) ∧ w'.cell? ⟨w.heap.size, 2, none⟩ = some (.int .i64 x.task) ∧ w'.cell? ⟨w.heap.size, 3, none⟩ = some (.int .i64 x.worker) ∧ w'.cell? ⟨w.heap.size, 4, none⟩ = some (.int .i64 x.sched) ∧ w'.cell? ⟨w.heap.size, 5, none⟩ = some (.int .i64 x.epoch) ∧ w'.cell? ⟨w.heap.size, 6, none⟩ = some (.slice XA n xc)) (by kernel_rfl) q0 (fun hHeld => ?_)
  obtain ⟨y0, hy0⟩ : ∃ y, y = w2.drew := ⟨_, rfl⟩
  rw [← hy0] at U0 q0 hHeld ⊢
  clear hy0
  refine anyH_take 0 (v := ?_) rfl (by kernel_rfl) (by kernel_rfl) (by kernel_rfl) (fun _ _ _ h => h) (by rfl) hHeld ?_ ?_
  rotate_left
  · (intro w hSw; (try dsimp only at hSw); go_split_ands; go_simp; try with_reducible rfl)
  (try simp only [Act.put, List.setIfInBounds_toArray, List.set_cons_zero, List.set_cons_succ])
  refine anyH_take 1 (v := ?_) rfl (by kernel_rfl) (by kernel_rfl) (by kernel_rfl) (fun _ _ _ h => h) (by rfl) hHeld ?_ ?_
  rotate_left
  · (intro w hSw; (try dsimp only at hSw); go_split_ands; go_simp; try with_reducible rfl)
  (try simp only [Act.put, List.setIfInBounds_toArray, List.set_cons_zero, List.set_cons_succ])
  refine anyH_take 2 (v := ?_) rfl (by kernel_rfl) (by kernel_rfl) (by kernel_rfl) (fun _ _ _ h => h) (by rfl) hHeld ?_ ?_
  rotate_left
  · (intro w hSw; (try dsimp only at hSw); go_split_ands; go_simp; try with_reducible rfl)
  (try simp only [Act.put, List.setIfInBounds_toArray, List.set_cons_zero, List.set_cons_succ])
  refine anyH_take 3 (v := ?_) rfl (by kernel_rfl) (by kernel_rfl) (by kernel_rfl) (fun _ _ _ h => h) (by rfl) hHeld ?_ ?_
  rotate_left
  · (intro w hSw; (try dsimp only at hSw); go_split_ands; go_simp; try with_reducible rfl)
  (try simp only [Act.put, List.setIfInBounds_toArray, List.set_cons_zero, List.set_cons_succ])
  refine anyH_take 5 (v := ?_) rfl (by kernel_rfl) (by kernel_rfl) (by kernel_rfl) (fun _ _ _ h => h) (by rfl) hHeld ?_ ?_
  rotate_left
  · (intro w hSw; (try dsimp only at hSw); go_split_ands; go_simp; try with_reducible rfl)
  (try simp only [Act.put, List.setIfInBounds_toArray, List.set_cons_zero, List.set_cons_succ])
  refine anyH_two 4 10 rfl rfl (by kernel_rfl) (fun K hK => ?_) (fun K hK => ?_)
  · go_simp
    refine (bcopiedO_calls E EA EB ED ea eb ed y0 (HEA.out.below U0.out) HEO.out.fits).mono ?_
    rintro e y1 ⟨FA, FB, FD, fa, fb, fd, rfl, hO, hb⟩
    have U1 := hid (bThen U0.out hb)
    have z1 : y0.heap.size ≤ y1.heap.size := hb.size
    have O1 := hid hO
    have HOB : y0.heap.size ≤ y1.heap.size := hb.size
    clear hO hb
    go_simp
    refine hK.out _ _ (HS.out _ U1.out) (fun hHeld => ?_)
    clear hK K
    (try simp only [Act.put, List.setIfInBounds_toArray, List.set_cons_zero, List.set_cons_succ])
    refine anyH_two 6 10 rfl rfl (by kernel_rfl) (fun K hK => ?_) (fun K hK => ?_)
    · go_simp
      have hst := bstepped_calls E FA FB FD fa fb fd x XA xc y0.heap.size y1 O1.out (by omega) HEO.out HOK.out HKD.out
      rw [← HN.out] at hst
      refine hst.mono ?_
      clear hst
      rintro e y2 ⟨rfl, hO, hM⟩
      have hlo : ∀ j, ((Value.slice FB E.bound.length fb).ownBlock = some j ∨ (Value.slice FD E.done.length fd).ownBlock = some j) → y0.heap.size ≤ j ∧ j < y1.heap.size := fun j hj => hj.elim (fun h => O1.out.bound.lt j h) (fun h => O1.out.done.lt j h)
      have U2 := hid (show Below w2.heap.size w2 y2 from U1.out.trans (hM.below (fun j _ hj => by have := (hlo j hj).1; have := U0.out.size; omega) (U1.out.size)))
      have z2 : y1.heap.size ≤ y2.heap.size := hM.size
      have P2 := hid hO
      clear hO hM hlo
      go_simp
      refine hK.out _ _ (HS.out _ U2.out) (fun hHeld => ?_)
      clear hK K
      (try simp only [Act.put, List.setIfInBounds_toArray, List.set_cons_zero, List.set_cons_succ])
      refine anyH_take 7 (v := ?_) rfl (by kernel_rfl) (by kernel_rfl) (by kernel_rfl) (fun _ _ _ h => h) (by rfl) hHeld ?_ ?_
      rotate_left
      · (intro w hSw; (try dsimp only at hSw); go_split_ands; go_simp; try with_reducible rfl)
      (try simp only [Act.put, List.setIfInBounds_toArray, List.set_cons_zero, List.set_cons_succ])
      refine anyH_take 8 (v := ?_) rfl (by kernel_rfl) (by kernel_rfl) (by kernel_rfl) (fun _ _ _ h => h) (by rfl) hHeld ?_ ?_
      rotate_left
      · (intro w hSw; (try dsimp only at hSw); go_split_ands; go_simp; try with_reducible rfl)
      (try simp only [Act.put, List.setIfInBounds_toArray, List.set_cons_zero, List.set_cons_succ])
      refine anyH_take 9 (v := ?_) rfl (by kernel_rfl) (by kernel_rfl) (by kernel_rfl) (fun _ _ _ h => h) (by rfl) hHeld ?_ ?_
      rotate_left
      · (intro w hSw; (try dsimp only at hSw); go_split_ands; go_simp; try with_reducible rfl)
      (try simp only [Act.put, List.setIfInBounds_toArray, List.set_cons_zero, List.set_cons_succ])
      refine anyH_one 10 rfl (by kernel_rfl) (fun K hK => ?_)
      go_simp
      obtain ⟨y3, hy⟩ : ∃ y, y = y2.alloc (.cells #[.int .i64 0, .int .i64 0, .int .i64 0, .slice none 0 0, .slice none 0 0, .slice none 0 0] 55) := ⟨_, rfl⟩
      rw [← hy]
      have hb : Below y2.heap.size y2 y3 := by rw [hy]; exact bAlloc (Below.refl _ _) _
      have U3 := hid (bThen U2.out hb)
      have z3 : y2.heap.size ≤ y3.heap.size := hb.size
      have P3 := hid (P2.out.below hb)
      have R3 := hid (show y3.heap[y2.heap.size]? = some (.cells #[.int .i64 0, .int .i64 0, .int .i64 0, .slice none 0 0, .slice none 0 0, .slice none 0 0] 55 (0, 0)) by rw [hy]; exact heap_at rfl)
      clear hb hy
      refine hK.out _ _ (HS.out _ U3.out) (fun hHeld => ?_)
      clear hK K
      (try simp only [Act.put, List.setIfInBounds_toArray, List.set_cons_zero, List.set_cons_succ])
      refine anyH_one 11 rfl (by kernel_rfl) (fun K hK => ?_)
      go_simp
      obtain ⟨y4, hy, HR6, T0, T1, T2, T3, T4, T5, TB, TN, hs6⟩ := set6 R3.out (.int .i64 (stepE E x).id) (.int .i64 (stepE E x).sched) (.int .i64 (stepE E x).epoch) (.slice FA (stepE E x).needs.length fa) (.slice FB (stepE E x).bound.length fb) (.slice FD (stepE E x).done.length fd)
      obtain ⟨p5, g5, l5⟩ := cells_of_block R3.out
      have v0 := p5 0 _ rfl
      have v1 := p5 1 _ rfl
      have v2 := p5 2 _ rfl
      have v3 := p5 3 _ rfl
      have v4 := p5 4 _ rfl
      have v5 := p5 5 _ rfl
      have f0 := g5 0
      have f1 := g5 1
      have f2 := g5 2
      have f3 := g5 3
      have f4 := g5 4
      have f5 := g5 5
      clear p5 g5
      go_simp
      rw [← hy]
      have U4 := hid (show Below w2.heap.size w2 y4 from U3.out.trans (TB.mono (by have := U0.out.size; omega)))
      have HP := hid (P3.out.away (k := y2.heap.size) TN (fun v hv => P3.out.apart R3.out v hv))
      have HX6 := hid HR6
      clear hy HR6 TB TN T0 T1 T2 T3 T4 T5 v0 v1 v2 v3 v4 v5 f0 f1 f2 f3 f4 f5
      refine hK.out _ _ (HS.out _ U4.out) (fun hHeld => ?_)
      clear hK K
      (try simp only [Act.put, List.setIfInBounds_toArray, List.set_cons_zero, List.set_cons_succ])
      refine anyH_take 12 (v := ?_) rfl (by kernel_rfl) (by kernel_rfl) (by kernel_rfl) (fun _ _ _ h => h) (by rfl) hHeld ?_ ?_
      rotate_left
      · (intro w hSw; (try dsimp only at hSw); go_split_ands; go_simp; try with_reducible rfl)
      (try simp only [Act.put, List.setIfInBounds_toArray, List.set_cons_zero, List.set_cons_succ])
      refine wpAnyH_done (by kernel_rfl) ?_ _
      have HPA := hid HP.out.any
      clear hHeld
      by_cases hwh : whyE E x = 0
      case neg =>
        have hne : (whyE E x != 0) = true := by rw [bne_iff_ne]; exact hwh
        have HNX := hid (nextB_no (b := b) (x := x) (by rw [HWB.out]; exact hwh))
        go_wp2
        go_ret2
        rw [HNX.out, HWB.out]
        exact ⟨_, rfl, nilKE _ _, bThen HBW.out U4.out⟩
      have HSE := hid (stepE_yes hwh)
      have HNX := hid ((nextB_some (b := b) (HWB.out.trans hwh) HKD.out HFE.out).trans (by rw [HPK.out, Int.toNat_natCast, ← HSE.out]))
      rw [hwh]
      go_wp2_with fail
      refine (bclone_calls b _ y4 (Kd.below HBK2.out U4.out) HF.out (by have := HL.out; omega)).mono ?_
      rintro e wz ⟨o, rfl, hO, hbz⟩
      obtain ⟨Ao, no, co, rfl, hno, _⟩ := hO.shape'
      obtain ⟨g, rfl, hgl⟩ := hO.first (by have := HKL.out; omega)
      have hgb := (hO.lt g rfl).1
      have HZX := hid ((hbz.block _ (Array.getElem?_eq_some_iff.1 HX6.out).1).trans HX6.out)
      have K1 := Kd.below (Kd.str.slice.mono (S' := fun j => y0.heap.size ≤ j ∧ j ≠ g) (fun j hj hl => ⟨by rcases hj with hj | hj; exact hj.elim; have : y0.heap.size ≤ j := hj; omega, by omega⟩) HP.out.needs.K) hbz
      have K2 := Kd.below (I64.slice.mono (S' := fun j => y0.heap.size ≤ j ∧ j ≠ g) (fun j hj hl => ⟨by rcases hj with hj | hj; exact hj.elim; have : y0.heap.size ≤ j := hj; omega, by omega⟩) HP.out.bound.K) hbz
      have K3 := Kd.below (Kd.bool.slice.mono (S' := fun j => y0.heap.size ≤ j ∧ j ≠ g) (fun j hj hl => ⟨by rcases hj with hj | hj; exact hj.elim; have : y0.heap.size ≤ j := hj; omega, by omega⟩) HP.out.done.K) hbz
      have hO2 := (hO.move (T' := fun k => y0.heap.size ≤ k) (fun _ _ _ => rfl) (fun k h _ => (show y0.heap.size ≤ k by have : y4.heap.size ≤ k := h; omega))).lower (show y0.heap.size ≤ y4.heap.size by omega)
      obtain ⟨wf, hwf, HKF, HNF, HBF⟩ := hO2.put6 k HKL.out (stepE E x) (.int .i64 (stepE E x).id) (.int .i64 (stepE E x).sched) (.int .i64 (stepE E x).epoch) (.slice FA (stepE E x).needs.length fa) (.slice FB (stepE E x).bound.length fb) (.slice FD (stepE E x).done.length fd) (entry_of (stepE E x) K1 K2 K3)
      obtain ⟨a9, E9, GA, GB, GD, ga, gb, gd, ha9, _, _, _, _, s0, s1, s2, s3, s4, s5⟩ := (K_row (Kd.any hO2.K)).1.at_entry k HKL.out
      injection ha9 with ha9
      subst ha9
      rw [add_lit0] at s0 s1 s2 s3 s4 s5
      have hfr := hO2.free.2.2
      have t0 := hfr (k * 6)
      have t1 := hfr (k * 6 + 1)
      have t2 := hfr (k * 6 + 2)
      have t3 := hfr (k * 6 + 3)
      have t4 := hfr (k * 6 + 4)
      have t5 := hfr (k * 6 + 5)
      have hkn : (k : Int) < (no : Int) := by have := HKL.out; omega
      obtain ⟨p5, _, _⟩ := cells_of_block HZX.out
      have v0 := p5 0 _ rfl
      have v1 := p5 1 _ rfl
      have v2 := p5 2 _ rfl
      have v3 := p5 3 _ rfl
      have v4 := p5 4 _ rfl
      have v5 := p5 5 _ rfl
      have HKF := hid (show Kd.entry.slice.K wf (fun j => w.heap.size ≤ j) (b.set k (stepE E x)) [.slice (some ⟨g, 0, none⟩) no co] from by refine Kd.entry.slice.mono (fun j h _ => ?_) HKF; have := HBW.out.size; have := U0.out.size; rcases h with h | h <;> (have h : y0.heap.size ≤ j := h; omega))
      have HBF := hid (show Below w2.heap.size w2 wf from (bThen U4.out hbz).trans (HBF.mono U0.out.size))
      clear hO hO2 HNF hfr p5 K1 K2 K3 hbz hno
      go_wp2
      rw [← hwf]
      go_ret2
      rw [HNX.out, HWB.out, hwh]
      exact ⟨_, rfl, HKF.out, bThen HBW.out HBF.out⟩
    · go_simp
      obtain ⟨y2, hy⟩ : ∃ y, y = y1.alloc (.cells #[.int .i64 0, .int .i64 0, .int .i64 0, .slice none 0 0, .slice none 0 0, .slice none 0 0] 55) := ⟨_, rfl⟩
      rw [← hy]
      have hb : Below y1.heap.size y1 y2 := by rw [hy]; exact bAlloc (Below.refl _ _) _
      have U2 := hid (bThen U1.out hb)
      have z2 : y1.heap.size ≤ y2.heap.size := hb.size
      have O2 := hid (O1.out.below hb)
      have R2 := hid (show y2.heap[y1.heap.size]? = some (.cells #[.int .i64 0, .int .i64 0, .int .i64 0, .slice none 0 0, .slice none 0 0, .slice none 0 0] 55 (0, 0)) by rw [hy]; exact heap_at rfl)
      clear hb hy
      refine hK.out _ _ (HS.out _ U2.out) (fun hHeld => ?_)
      clear hK K
      (try simp only [Act.put, List.setIfInBounds_toArray, List.set_cons_zero, List.set_cons_succ])
      refine anyH_one 6 rfl (by kernel_rfl) (fun K hK => ?_)
      go_simp
      have hst := bstepped_calls E FA FB FD fa fb fd x XA xc y0.heap.size y2 O2.out (by omega) HEO.out HOK.out HKD.out
      rw [← HN.out] at hst
      refine hst.mono ?_
      clear hst
      rintro e y3 ⟨rfl, hO, hM⟩
      have hlo : ∀ j, ((Value.slice FB E.bound.length fb).ownBlock = some j ∨ (Value.slice FD E.done.length fd).ownBlock = some j) → y0.heap.size ≤ j ∧ j < y2.heap.size := fun j hj => hj.elim (fun h => O2.out.bound.lt j h) (fun h => O2.out.done.lt j h)
      have U3 := hid (show Below w2.heap.size w2 y3 from U2.out.trans (hM.below (fun j _ hj => by have := (hlo j hj).1; have := U0.out.size; omega) (U2.out.size)))
      have z3 : y2.heap.size ≤ y3.heap.size := hM.size
      have R3 := hid ((hM.block _ (Array.getElem?_eq_some_iff.1 R2.out).1 (fun hj => hj.elim (O2.out.apart R2.out _ (.inr (.inl rfl))) (O2.out.apart R2.out _ (.inr (.inr rfl))))).trans R2.out)
      have P3 := hid hO
      clear hO hM hlo
      go_simp
      refine hK.out _ _ (HS.out _ U3.out) (fun hHeld => ?_)
      clear hK K
      (try simp only [Act.put, List.setIfInBounds_toArray, List.set_cons_zero, List.set_cons_succ])
      refine anyH_take 7 (v := ?_) rfl (by kernel_rfl) (by kernel_rfl) (by kernel_rfl) (fun _ _ _ h => h) (by rfl) hHeld ?_ ?_
      rotate_left
      · (intro w hSw; (try dsimp only at hSw); go_split_ands; go_simp; try with_reducible rfl)
      (try simp only [Act.put, List.setIfInBounds_toArray, List.set_cons_zero, List.set_cons_succ])
      refine anyH_take 8 (v := ?_) rfl (by kernel_rfl) (by kernel_rfl) (by kernel_rfl) (fun _ _ _ h => h) (by rfl) hHeld ?_ ?_
      rotate_left
      · (intro w hSw; (try dsimp only at hSw); go_split_ands; go_simp; try with_reducible rfl)
      (try simp only [Act.put, List.setIfInBounds_toArray, List.set_cons_zero, List.set_cons_succ])
      refine anyH_take 9 (v := ?_) rfl (by kernel_rfl) (by kernel_rfl) (by kernel_rfl) (fun _ _ _ h => h) (by rfl) hHeld ?_ ?_
      rotate_left
      · (intro w hSw; (try dsimp only at hSw); go_split_ands; go_simp; try with_reducible rfl)
      (try simp only [Act.put, List.setIfInBounds_toArray, List.set_cons_zero, List.set_cons_succ])
      refine anyH_one 11 rfl (by kernel_rfl) (fun K hK => ?_)
      go_simp
      obtain ⟨y4, hy, HR6, T0, T1, T2, T3, T4, T5, TB, TN, hs6⟩ := set6 R3.out (.int .i64 (stepE E x).id) (.int .i64 (stepE E x).sched) (.int .i64 (stepE E x).epoch) (.slice FA (stepE E x).needs.length fa) (.slice FB (stepE E x).bound.length fb) (.slice FD (stepE E x).done.length fd)
      obtain ⟨p5, g5, l5⟩ := cells_of_block R3.out
      have v0 := p5 0 _ rfl
      have v1 := p5 1 _ rfl
      have v2 := p5 2 _ rfl
      have v3 := p5 3 _ rfl
      have v4 := p5 4 _ rfl
      have v5 := p5 5 _ rfl
      have f0 := g5 0
      have f1 := g5 1
      have f2 := g5 2
      have f3 := g5 3
      have f4 := g5 4
      have f5 := g5 5
      clear p5 g5
      go_simp
      rw [← hy]
      have U4 := hid (show Below w2.heap.size w2 y4 from U3.out.trans (TB.mono (by have := U0.out.size; omega)))
      have HP := hid (P3.out.away (k := y1.heap.size) TN (fun v hv => P3.out.apart R3.out v hv))
      have HX6 := hid HR6
      clear hy HR6 TB TN T0 T1 T2 T3 T4 T5 v0 v1 v2 v3 v4 v5 f0 f1 f2 f3 f4 f5
      refine hK.out _ _ (HS.out _ U4.out) (fun hHeld => ?_)
      clear hK K
      (try simp only [Act.put, List.setIfInBounds_toArray, List.set_cons_zero, List.set_cons_succ])
      refine anyH_take 12 (v := ?_) rfl (by kernel_rfl) (by kernel_rfl) (by kernel_rfl) (fun _ _ _ h => h) (by rfl) hHeld ?_ ?_
      rotate_left
      · (intro w hSw; (try dsimp only at hSw); go_split_ands; go_simp; try with_reducible rfl)
      (try simp only [Act.put, List.setIfInBounds_toArray, List.set_cons_zero, List.set_cons_succ])
      refine wpAnyH_done (by kernel_rfl) ?_ _
      have HPA := hid HP.out.any
      clear hHeld
      by_cases hwh : whyE E x = 0
      case neg =>
        have hne : (whyE E x != 0) = true := by rw [bne_iff_ne]; exact hwh
        have HNX := hid (nextB_no (b := b) (x := x) (by rw [HWB.out]; exact hwh))
        go_wp2
        go_ret2
        rw [HNX.out, HWB.out]
        exact ⟨_, rfl, nilKE _ _, bThen HBW.out U4.out⟩
      have HSE := hid (stepE_yes hwh)
      have HNX := hid ((nextB_some (b := b) (HWB.out.trans hwh) HKD.out HFE.out).trans (by rw [HPK.out, Int.toNat_natCast, ← HSE.out]))
      rw [hwh]
      go_wp2_with fail
      refine (bclone_calls b _ y4 (Kd.below HBK2.out U4.out) HF.out (by have := HL.out; omega)).mono ?_
      rintro e wz ⟨o, rfl, hO, hbz⟩
      obtain ⟨Ao, no, co, rfl, hno, _⟩ := hO.shape'
      obtain ⟨g, rfl, hgl⟩ := hO.first (by have := HKL.out; omega)
      have hgb := (hO.lt g rfl).1
      have HZX := hid ((hbz.block _ (Array.getElem?_eq_some_iff.1 HX6.out).1).trans HX6.out)
      have K1 := Kd.below (Kd.str.slice.mono (S' := fun j => y0.heap.size ≤ j ∧ j ≠ g) (fun j hj hl => ⟨by rcases hj with hj | hj; exact hj.elim; have : y0.heap.size ≤ j := hj; omega, by omega⟩) HP.out.needs.K) hbz
      have K2 := Kd.below (I64.slice.mono (S' := fun j => y0.heap.size ≤ j ∧ j ≠ g) (fun j hj hl => ⟨by rcases hj with hj | hj; exact hj.elim; have : y0.heap.size ≤ j := hj; omega, by omega⟩) HP.out.bound.K) hbz
      have K3 := Kd.below (Kd.bool.slice.mono (S' := fun j => y0.heap.size ≤ j ∧ j ≠ g) (fun j hj hl => ⟨by rcases hj with hj | hj; exact hj.elim; have : y0.heap.size ≤ j := hj; omega, by omega⟩) HP.out.done.K) hbz
      have hO2 := (hO.move (T' := fun k => y0.heap.size ≤ k) (fun _ _ _ => rfl) (fun k h _ => (show y0.heap.size ≤ k by have : y4.heap.size ≤ k := h; omega))).lower (show y0.heap.size ≤ y4.heap.size by omega)
      obtain ⟨wf, hwf, HKF, HNF, HBF⟩ := hO2.put6 k HKL.out (stepE E x) (.int .i64 (stepE E x).id) (.int .i64 (stepE E x).sched) (.int .i64 (stepE E x).epoch) (.slice FA (stepE E x).needs.length fa) (.slice FB (stepE E x).bound.length fb) (.slice FD (stepE E x).done.length fd) (entry_of (stepE E x) K1 K2 K3)
      obtain ⟨a9, E9, GA, GB, GD, ga, gb, gd, ha9, _, _, _, _, s0, s1, s2, s3, s4, s5⟩ := (K_row (Kd.any hO2.K)).1.at_entry k HKL.out
      injection ha9 with ha9
      subst ha9
      rw [add_lit0] at s0 s1 s2 s3 s4 s5
      have hfr := hO2.free.2.2
      have t0 := hfr (k * 6)
      have t1 := hfr (k * 6 + 1)
      have t2 := hfr (k * 6 + 2)
      have t3 := hfr (k * 6 + 3)
      have t4 := hfr (k * 6 + 4)
      have t5 := hfr (k * 6 + 5)
      have hkn : (k : Int) < (no : Int) := by have := HKL.out; omega
      obtain ⟨p5, _, _⟩ := cells_of_block HZX.out
      have v0 := p5 0 _ rfl
      have v1 := p5 1 _ rfl
      have v2 := p5 2 _ rfl
      have v3 := p5 3 _ rfl
      have v4 := p5 4 _ rfl
      have v5 := p5 5 _ rfl
      have HKF := hid (show Kd.entry.slice.K wf (fun j => w.heap.size ≤ j) (b.set k (stepE E x)) [.slice (some ⟨g, 0, none⟩) no co] from by refine Kd.entry.slice.mono (fun j h _ => ?_) HKF; have := HBW.out.size; have := U0.out.size; rcases h with h | h <;> (have h : y0.heap.size ≤ j := h; omega))
      have HBF := hid (show Below w2.heap.size w2 wf from (bThen U4.out hbz).trans (HBF.mono U0.out.size))
      clear hO hO2 HNF hfr p5 K1 K2 K3 hbz hno
      go_wp2
      rw [← hwf]
      go_ret2
      rw [HNX.out, HWB.out, hwh]
      exact ⟨_, rfl, HKF.out, bThen HBW.out HBF.out⟩
  · go_simp
    obtain ⟨y1, hy⟩ : ∃ y, y = y0.alloc (.cells #[.int .i64 0, .int .i64 0, .int .i64 0, .slice none 0 0, .slice none 0 0, .slice none 0 0] 55) := ⟨_, rfl⟩
    rw [← hy]
    have hb : Below y0.heap.size y0 y1 := by rw [hy]; exact bAlloc (Below.refl _ _) _
    have U1 := hid (bThen U0.out hb)
    have z1 : y0.heap.size ≤ y1.heap.size := hb.size
    have R1 := hid (show y1.heap[y0.heap.size]? = some (.cells #[.int .i64 0, .int .i64 0, .int .i64 0, .slice none 0 0, .slice none 0 0, .slice none 0 0] 55 (0, 0)) by rw [hy]; exact heap_at rfl)
    clear hb hy
    refine hK.out _ _ (HS.out _ U1.out) (fun hHeld => ?_)
    clear hK K
    (try simp only [Act.put, List.setIfInBounds_toArray, List.set_cons_zero, List.set_cons_succ])
    refine anyH_one 4 rfl (by kernel_rfl) (fun K hK => ?_)
    go_simp
    refine (bcopiedO_calls E EA EB ED ea eb ed y1 (HEA.out.below U1.out) HEO.out.fits).mono ?_
    rintro e y2 ⟨FA, FB, FD, fa, fb, fd, rfl, hO, hb⟩
    have U2 := hid (bThen U1.out hb)
    have z2 : y1.heap.size ≤ y2.heap.size := hb.size
    have R2 := hid ((hb.block _ (Array.getElem?_eq_some_iff.1 R1.out).1).trans R1.out)
    have O2 := hid hO
    have HOB : y1.heap.size ≤ y2.heap.size := hb.size
    clear hO hb
    go_simp
    refine hK.out _ _ (HS.out _ U2.out) (fun hHeld => ?_)
    clear hK K
    (try simp only [Act.put, List.setIfInBounds_toArray, List.set_cons_zero, List.set_cons_succ])
    refine anyH_one 6 rfl (by kernel_rfl) (fun K hK => ?_)
    go_simp
    have hst := bstepped_calls E FA FB FD fa fb fd x XA xc y1.heap.size y2 O2.out (by omega) HEO.out HOK.out HKD.out
    rw [← HN.out] at hst
    refine hst.mono ?_
    clear hst
    rintro e y3 ⟨rfl, hO, hM⟩
    have hlo : ∀ j, ((Value.slice FB E.bound.length fb).ownBlock = some j ∨ (Value.slice FD E.done.length fd).ownBlock = some j) → y1.heap.size ≤ j ∧ j < y2.heap.size := fun j hj => hj.elim (fun h => O2.out.bound.lt j h) (fun h => O2.out.done.lt j h)
    have U3 := hid (show Below w2.heap.size w2 y3 from U2.out.trans (hM.below (fun j _ hj => by have := (hlo j hj).1; have := U0.out.size; omega) (U2.out.size)))
    have z3 : y2.heap.size ≤ y3.heap.size := hM.size
    have R3 := hid ((hM.block _ (Array.getElem?_eq_some_iff.1 R2.out).1 (fun hj => hj.elim (O2.out.apart R2.out _ (.inr (.inl rfl))) (O2.out.apart R2.out _ (.inr (.inr rfl))))).trans R2.out)
    have P3 := hid hO
    clear hO hM hlo
    go_simp
    refine hK.out _ _ (HS.out _ U3.out) (fun hHeld => ?_)
    clear hK K
    (try simp only [Act.put, List.setIfInBounds_toArray, List.set_cons_zero, List.set_cons_succ])
    refine anyH_take 7 (v := ?_) rfl (by kernel_rfl) (by kernel_rfl) (by kernel_rfl) (fun _ _ _ h => h) (by rfl) hHeld ?_ ?_
    rotate_left
    · (intro w hSw; (try dsimp only at hSw); go_split_ands; go_simp; try with_reducible rfl)
    (try simp only [Act.put, List.setIfInBounds_toArray, List.set_cons_zero, List.set_cons_succ])
    refine anyH_take 8 (v := ?_) rfl (by kernel_rfl) (by kernel_rfl) (by kernel_rfl) (fun _ _ _ h => h) (by rfl) hHeld ?_ ?_
    rotate_left
    · (intro w hSw; (try dsimp only at hSw); go_split_ands; go_simp; try with_reducible rfl)
    (try simp only [Act.put, List.setIfInBounds_toArray, List.set_cons_zero, List.set_cons_succ])
    refine anyH_take 9 (v := ?_) rfl (by kernel_rfl) (by kernel_rfl) (by kernel_rfl) (fun _ _ _ h => h) (by rfl) hHeld ?_ ?_
    rotate_left
    · (intro w hSw; (try dsimp only at hSw); go_split_ands; go_simp; try with_reducible rfl)
    (try simp only [Act.put, List.setIfInBounds_toArray, List.set_cons_zero, List.set_cons_succ])
    refine anyH_one 11 rfl (by kernel_rfl) (fun K hK => ?_)
    go_simp
    obtain ⟨y4, hy, HR6, T0, T1, T2, T3, T4, T5, TB, TN, hs6⟩ := set6 R3.out (.int .i64 (stepE E x).id) (.int .i64 (stepE E x).sched) (.int .i64 (stepE E x).epoch) (.slice FA (stepE E x).needs.length fa) (.slice FB (stepE E x).bound.length fb) (.slice FD (stepE E x).done.length fd)
    obtain ⟨p5, g5, l5⟩ := cells_of_block R3.out
    have v0 := p5 0 _ rfl
    have v1 := p5 1 _ rfl
    have v2 := p5 2 _ rfl
    have v3 := p5 3 _ rfl
    have v4 := p5 4 _ rfl
    have v5 := p5 5 _ rfl
    have f0 := g5 0
    have f1 := g5 1
    have f2 := g5 2
    have f3 := g5 3
    have f4 := g5 4
    have f5 := g5 5
    clear p5 g5
    go_simp
    rw [← hy]
    have U4 := hid (show Below w2.heap.size w2 y4 from U3.out.trans (TB.mono (by have := U0.out.size; omega)))
    have HP := hid (P3.out.away (k := y0.heap.size) TN (fun v hv => P3.out.apart R3.out v hv))
    have HX6 := hid HR6
    clear hy HR6 TB TN T0 T1 T2 T3 T4 T5 v0 v1 v2 v3 v4 v5 f0 f1 f2 f3 f4 f5
    refine hK.out _ _ (HS.out _ U4.out) (fun hHeld => ?_)
    clear hK K
    (try simp only [Act.put, List.setIfInBounds_toArray, List.set_cons_zero, List.set_cons_succ])
    refine anyH_take 12 (v := ?_) rfl (by kernel_rfl) (by kernel_rfl) (by kernel_rfl) (fun _ _ _ h => h) (by rfl) hHeld ?_ ?_
    rotate_left
    · (intro w hSw; (try dsimp only at hSw); go_split_ands; go_simp; try with_reducible rfl)
    (try simp only [Act.put, List.setIfInBounds_toArray, List.set_cons_zero, List.set_cons_succ])
    refine wpAnyH_done (by kernel_rfl) ?_ _
    have HPA := hid HP.out.any
    clear hHeld
    by_cases hwh : whyE E x = 0
    case neg =>
      have hne : (whyE E x != 0) = true := by rw [bne_iff_ne]; exact hwh
      have HNX := hid (nextB_no (b := b) (x := x) (by rw [HWB.out]; exact hwh))
      go_wp2
      go_ret2
      rw [HNX.out, HWB.out]
      exact ⟨_, rfl, nilKE _ _, bThen HBW.out U4.out⟩
    have HSE := hid (stepE_yes hwh)
    have HNX := hid ((nextB_some (b := b) (HWB.out.trans hwh) HKD.out HFE.out).trans (by rw [HPK.out, Int.toNat_natCast, ← HSE.out]))
    rw [hwh]
    go_wp2_with fail
    refine (bclone_calls b _ y4 (Kd.below HBK2.out U4.out) HF.out (by have := HL.out; omega)).mono ?_
    rintro e wz ⟨o, rfl, hO, hbz⟩
    obtain ⟨Ao, no, co, rfl, hno, _⟩ := hO.shape'
    obtain ⟨g, rfl, hgl⟩ := hO.first (by have := HKL.out; omega)
    have hgb := (hO.lt g rfl).1
    have HZX := hid ((hbz.block _ (Array.getElem?_eq_some_iff.1 HX6.out).1).trans HX6.out)
    have K1 := Kd.below (Kd.str.slice.mono (S' := fun j => y0.heap.size ≤ j ∧ j ≠ g) (fun j hj hl => ⟨by rcases hj with hj | hj; exact hj.elim; have : y1.heap.size ≤ j := hj; omega, by omega⟩) HP.out.needs.K) hbz
    have K2 := Kd.below (I64.slice.mono (S' := fun j => y0.heap.size ≤ j ∧ j ≠ g) (fun j hj hl => ⟨by rcases hj with hj | hj; exact hj.elim; have : y1.heap.size ≤ j := hj; omega, by omega⟩) HP.out.bound.K) hbz
    have K3 := Kd.below (Kd.bool.slice.mono (S' := fun j => y0.heap.size ≤ j ∧ j ≠ g) (fun j hj hl => ⟨by rcases hj with hj | hj; exact hj.elim; have : y1.heap.size ≤ j := hj; omega, by omega⟩) HP.out.done.K) hbz
    have hO2 := (hO.move (T' := fun k => y0.heap.size ≤ k) (fun _ _ _ => rfl) (fun k h _ => (show y0.heap.size ≤ k by have : y4.heap.size ≤ k := h; omega))).lower (show y0.heap.size ≤ y4.heap.size by omega)
    obtain ⟨wf, hwf, HKF, HNF, HBF⟩ := hO2.put6 k HKL.out (stepE E x) (.int .i64 (stepE E x).id) (.int .i64 (stepE E x).sched) (.int .i64 (stepE E x).epoch) (.slice FA (stepE E x).needs.length fa) (.slice FB (stepE E x).bound.length fb) (.slice FD (stepE E x).done.length fd) (entry_of (stepE E x) K1 K2 K3)
    obtain ⟨a9, E9, GA, GB, GD, ga, gb, gd, ha9, _, _, _, _, s0, s1, s2, s3, s4, s5⟩ := (K_row (Kd.any hO2.K)).1.at_entry k HKL.out
    injection ha9 with ha9
    subst ha9
    rw [add_lit0] at s0 s1 s2 s3 s4 s5
    have hfr := hO2.free.2.2
    have t0 := hfr (k * 6)
    have t1 := hfr (k * 6 + 1)
    have t2 := hfr (k * 6 + 2)
    have t3 := hfr (k * 6 + 3)
    have t4 := hfr (k * 6 + 4)
    have t5 := hfr (k * 6 + 5)
    have hkn : (k : Int) < (no : Int) := by have := HKL.out; omega
    obtain ⟨p5, _, _⟩ := cells_of_block HZX.out
    have v0 := p5 0 _ rfl
    have v1 := p5 1 _ rfl
    have v2 := p5 2 _ rfl
    have v3 := p5 3 _ rfl
    have v4 := p5 4 _ rfl
    have v5 := p5 5 _ rfl
    have HKF := hid (show Kd.entry.slice.K wf (fun j => w.heap.size ≤ j) (b.set k (stepE E x)) [.slice (some ⟨g, 0, none⟩) no co] from by refine Kd.entry.slice.mono (fun j h _ => ?_) HKF; have := HBW.out.size; have := U0.out.size; rcases h with h | h <;> (have h : y0.heap.size ≤ j := h; omega))
    have HBF := hid (show Below w2.heap.size w2 wf from (bThen U4.out hbz).trans (HBF.mono U0.out.size))
    clear hO hO2 HNF hfr p5 K1 K2 K3 hbz hno
    go_wp2
    rw [← hwf]
    go_ret2
    rw [HNX.out, HWB.out, hwh]
    exact ⟨_, rfl, HKF.out, bThen HBW.out HBF.out⟩
end Go.Proofs.YtkjncmmombkllaaGreat
