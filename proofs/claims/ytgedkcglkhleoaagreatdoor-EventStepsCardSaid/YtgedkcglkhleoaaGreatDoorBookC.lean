/- slices.Clone of strings; book.Clone; made rows; three or four ready operations. -/
import Derived.Test.YtgedkcglkhleoaaGreatDoorBook1
import Derived.Test.YtgedkcglkhleoaaGreatDoorBase
namespace Go.Proofs.YtgedkcglkhleoaaGreatDoor
open Go.RowKit


/-- Three or four numbers may come up. -/
theorem anyH_three {P : Program} {md : Region.Mode} {l : List Oper} {Q : Exit → Act → World → Prop} {S : World → Prop} {oi oj ok : Oper} {fuel : Nat} {listed : Array Bool} {a : Act} {w : World} (i j k : Nat) (hoi : l[i]? = some oi) (hoj : l[j]? = some oj) (hok : l[k]? = some ok)
    (hr : Region.ready md l.toArray listed = [i, j, k])
    (hi : ∀ K' : Act → World → Prop, Shut (∀ a w, S w → (S w → wpAnyH P md l.toArray Q S fuel (listed.setIfInBounds i true) a w) → K' a w) → if Region.wanted oi (yielded l.toArray a.tmps) = true then Oper.wp P oi a w K' Q else K' (a.put oi.dst undef) w)
    (hj : ∀ K' : Act → World → Prop, Shut (∀ a w, S w → (S w → wpAnyH P md l.toArray Q S fuel (listed.setIfInBounds j true) a w) → K' a w) → if Region.wanted oj (yielded l.toArray a.tmps) = true then Oper.wp P oj a w K' Q else K' (a.put oj.dst undef) w)
    (hk : ∀ K' : Act → World → Prop, Shut (∀ a w, S w → (S w → wpAnyH P md l.toArray Q S fuel (listed.setIfInBounds k true) a w) → K' a w) → if Region.wanted ok (yielded l.toArray a.tmps) = true then Oper.wp P ok a w K' Q else K' (a.put ok.dst undef) w) :
    wpAnyH P md l.toArray Q S (fuel + 1) listed a w := wpAnyH_ready (rs := [i, j, k]) hr (by simp) (AllReadyH.cons (by simpa using hoi) hi (AllReadyH.cons (by simpa using hoj) hj (AllReadyH.cons (by simpa using hok) hk (AllReadyH.nil))))
theorem anyH_four {P : Program} {md : Region.Mode} {l : List Oper} {Q : Exit → Act → World → Prop} {S : World → Prop} {oi oj ok og : Oper} {fuel : Nat} {listed : Array Bool} {a : Act} {w : World} (i j k g : Nat) (hoi : l[i]? = some oi) (hoj : l[j]? = some oj) (hok : l[k]? = some ok) (hog : l[g]? = some og)
    (hr : Region.ready md l.toArray listed = [i, j, k, g])
    (hi : ∀ K' : Act → World → Prop, Shut (∀ a w, S w → (S w → wpAnyH P md l.toArray Q S fuel (listed.setIfInBounds i true) a w) → K' a w) → if Region.wanted oi (yielded l.toArray a.tmps) = true then Oper.wp P oi a w K' Q else K' (a.put oi.dst undef) w)
    (hj : ∀ K' : Act → World → Prop, Shut (∀ a w, S w → (S w → wpAnyH P md l.toArray Q S fuel (listed.setIfInBounds j true) a w) → K' a w) → if Region.wanted oj (yielded l.toArray a.tmps) = true then Oper.wp P oj a w K' Q else K' (a.put oj.dst undef) w)
    (hk : ∀ K' : Act → World → Prop, Shut (∀ a w, S w → (S w → wpAnyH P md l.toArray Q S fuel (listed.setIfInBounds k true) a w) → K' a w) → if Region.wanted ok (yielded l.toArray a.tmps) = true then Oper.wp P ok a w K' Q else K' (a.put ok.dst undef) w)
    (hg : ∀ K' : Act → World → Prop, Shut (∀ a w, S w → (S w → wpAnyH P md l.toArray Q S fuel (listed.setIfInBounds g true) a w) → K' a w) → if Region.wanted og (yielded l.toArray a.tmps) = true then Oper.wp P og a w K' Q else K' (a.put og.dst undef) w) :
    wpAnyH P md l.toArray Q S (fuel + 1) listed a w := wpAnyH_ready (rs := [i, j, k, g]) hr (by simp) (AllReadyH.cons (by simpa using hoi) hi (AllReadyH.cons (by simpa using hoj) hj (AllReadyH.cons (by simpa using hok) hk (AllReadyH.cons (by simpa using hog) hg (AllReadyH.nil)))))
theorem made1 (z : Value) (n : Nat) : madeCells #[z] n = (List.replicate n z).toArray := by
  apply Array.ext
  · simp [madeCells]
  · intro i h1 h2
    simp [madeCells, Nat.mod_one]
theorem cells_rep {α : Type} {d : Kd α} {w : World} {S : Nat → Prop} {zv : Value} {z : α} (hz : d.K w S z [zv]) (n : Nat) : Cells d w S (List.replicate n z) (madeCells #[zv] n).toList := by
  rw [made1]
  show Cells d w S (List.replicate n z) (List.replicate n zv)
  induction n with
  | zero => rfl
  | succ n ih => rw [List.replicate_succ, List.replicate_succ]; exact ⟨_, _, rfl, hz, ih⟩
theorem run_make_i (n : Nat) (hn : n ≤ 100000) (W : World) : (Instr.makeSlice 42 (.int .i64 (n : Int)) (.int .i64 (n : Int))).run Tryz.prog W = .ok (.slice (some ⟨W.heap.size, 0, none⟩) n n) (W.alloc (.cells (madeCells #[.int .i64 0] n) 3)) := by
  obtain ⟨i, hi, hz0, hz1, hz2⟩ := info_parts Tryz.infoInt
  have h := run_make (P := Tryz.prog) W 42 3 i (.int .i64 0) Tryz.underlying42 hi hz0 .i64 .i64 n n (by omega) (Int.le_refl _) (by rw [hz2]; omega) (by omega)
  rw [hz1, Int.toNat_natCast, Nat.mul_one] at h
  exact h
theorem run_make_b (n : Nat) (hn : n ≤ 100000) (W : World) : (Instr.makeSlice 43 (.int .i64 (n : Int)) (.int .i64 (n : Int))).run Tryz.prog W = .ok (.slice (some ⟨W.heap.size, 0, none⟩) n n) (W.alloc (.cells (madeCells #[.bool false] n) 4)) := by
  obtain ⟨i, hi, hz0, hz1, hz2⟩ := info_parts Tryz.infoBool
  have h := run_make (P := Tryz.prog) W 43 4 i (.bool false) Tryz.underlying43 hi hz0 .i64 .i64 n n (by omega) (Int.le_refl _) (by rw [hz2]; omega) (by omega)
  rw [hz1, Int.toNat_natCast, Nat.mul_one] at h
  exact h
/-! ### a copy of strings -/
set_option maxHeartbeats 4000000 in
set_option maxRecDepth 100000 in
theorem sclone_calls (l : List ByteArray) (A : Option Addr) (c : Nat) (w : World) (hb : Kd.str.slice.K w Any l [.slice A l.length c]) (hl : l.length ≤ 1000000) :
    Calls Tryz.prog 38 #[.slice A l.length c] w fun e w' => ∃ F f, e = .returned (.slice F l.length f) ∧ Kd.str.slice.K w' (fun k => w.heap.size ≤ k) l [.slice F l.length f] ∧ Below w.heap.size w w' := by
  cases A with
  | none =>
    have hl0 : l = [] := by
      cases l with
      | nil => rfl
      | cons x xs => obtain ⟨a, cs, h1, _⟩ := (K_row hb).1 0 x rfl; cases h1
    subst hl0
    clear hb
    simp only [List.length_nil]
    have hnil : ∀ W, Sem.run Tryz.prog (binOp BinOp.eql 22 (Value.slice none 0 c) (Value.slice none 0 0)) W = .ok (.bool true) W := fun W => by kernel_rfl
    go_enter Tryz.func38, Tryz.ntmps38
    go_wp2
    go_ret
    exact ⟨none, 0, rfl, ⟨none, 0, rfl, Nat.le_refl _, by decide, Kd.Row.nil⟩, Below.refl _ _⟩
  | some a =>
    obtain ⟨W0, hW0⟩ : ∃ W0, W0 = w.alloc (.cells #[] 9) := ⟨_, rfl⟩
    have b0 := hid (show Below w.heap.size w W0 by rw [hW0]; exact bAlloc (Below.refl _ _) _)
    have HZ0 := hid (show W0.heap[w.heap.size]? = some (.cells #[] 9 (0, 0)) by rw [hW0]; exact heap_at rfl)
    have HS0 := hid (show W0.heap.size = w.heap.size + 1 by rw [hW0]; simp)
    obtain ⟨n, hn⟩ : ∃ n, n = l.length := ⟨_, rfl⟩
    have HN := hid hn
    rw [← hn] at hb hl ⊢
    have R1 := hid (K_row (Kd.str.slice.move (w1 := W0) (fun b hb _ => b0.out.block b hb) (Kd.str.slice.mono (S' := fun k => k < w.heap.size) (fun _ _ h => h) hb)))
    have hO0 := hid (own_emptyE (d := Kd.str) (T := NoT) HZ0.out (Nat.le_refl _))
    have hEq := hW0.symm
    have hnil : ∀ W, Sem.run Tryz.prog (binOp BinOp.eql 22 (Value.slice (some a) n c) (Value.slice none 0 0)) W = .ok (.bool false) W := fun W => by kernel_rfl
    clear hW0 hn hb
    go_enter Tryz.func38, Tryz.ntmps38
    go_wp2_with (at_builtin; go_must (refine appends_arm Kd.str (w0 := w) w.heap.size rfl _ _ 22 9 _ 16 rfl Tryz.underlying22 Tryz.infoStr rfl (by decide) (by decide) (.slice (some ⟨w.heap.size, 0, none⟩) 0 0) [] l (some a) n c NoT (fun b => b < w.heap.size) NoT rfl rfl HN.out.symm R1.out.1 (fun _ _ h => h) (fun _ h => h.elim) hO0.out b0.out b0.out.size (by simp; omega) ?_))
    intro v1 V1 hO1 hb1 _ _
    try rw [List.nil_append] at hO1
    have HO1 := hid hO1
    obtain ⟨A1, m1, c1, rfl, hm1, _⟩ := hO1.shape'
    have hmn1 : m1 = n := by rw [hm1, HN.out]
    subst hmn1
    have HB1 := hid hb1
    clear hO1 hb1 hm1
    go_wp2
    go_ret
    exact ⟨A1, c1, rfl, Kd.str.slice.mono (fun k hk _ => hk.elim (fun h => h.elim) id) HO1.out.K, HB1.out⟩
/-! ### a copy of a book -/
set_option maxHeartbeats 4000000 in
set_option maxRecDepth 100000 in
theorem bclone_calls (b : List EntryS) (v : Value) (w : World) (hb : Kd.entry.slice.K w Any b [v]) (hF : ∀ E ∈ b, Fits E) (hl : b.length ≤ 1000000) :
    Calls Tryz.prog 9 #[v] w fun e w' => ∃ o, e = .returned o ∧ Own Kd.entry 45 w' w.heap.size (fun k => w.heap.size ≤ k) o b ∧ Below w.heap.size w w' := by
  obtain ⟨A, c, he, hc, hm, hr⟩ := hb
  cases he
  have HR := hid hr
  have HF := hid hF
  obtain ⟨q, hq⟩ : ∃ q, b.length = q := ⟨_, rfl⟩
  have HQ := hid hq
  rw [hq] at hc hm hl ⊢
  clear hr hq hF
  go_enter Tryz.func9, Tryz.ntmps9
  go_wp2
  go_loopw [3, 8] (fun o i wr => ∃ k : Nat, k ≤ q ∧ i = .int .i64 k ∧ Hid (Own Kd.entry 45 wr w.heap.size (fun k => w.heap.size ≤ k) o (b.take k)) ∧ Hid (Below w.heap.size w wr)) (fun _ i _ => q - (intOf i).toNat)
  case atStart => exact ⟨0, by omega, rfl, hid (by simpa using Own.nil _ _ _ _ _), hid (Below.refl _ _)⟩
  case round =>
    obtain ⟨k, hk, rfl, HO, HB⟩ := hrel
    obtain ⟨A3, n3, c3', rfl, hq1, hq2⟩ := HO.out.shape'
    clear hq1 hq2
    by_cases hlt : k < q
    · obtain ⟨a, E, EA, EB, ED, ea, eb, ed, rfl, hx, k1, k2, k3, r0, r1, r2, r3, r4, r5⟩ := (HR.out.below HB.out).at_entry k (by rw [HQ.out]; exact hlt)
      have HTS := hid (show b.take (k + 1) = b.take k ++ [E] from take_snoc hx)
      have HLT := hid (show (b.take k).length ≤ q from by rw [← HQ.out]; exact List.length_take_le' _ _)
      have HFE := hid (HF.out E (List.mem_of_getElem? hx))
      have hltI : (k : Int) < (q : Int) := by omega
      have hk0 : (0 : Int) ≤ (k : Int) := by omega
      obtain ⟨Wa, hWa⟩ : ∃ Wa, Wa = wr.alloc (.cells #[.int .i64 E.id, .int .i64 E.sched, .int .i64 E.epoch, .slice EA E.needs.length ea, .slice EB E.bound.length eb, .slice ED E.done.length ed] 45) := ⟨_, rfl⟩
      have HBa := hid (show Below wr.heap.size wr Wa by rw [hWa]; exact bAlloc (Below.refl _ _) _)
      obtain ⟨y1, _, _⟩ := cells_of_block (show Wa.heap[wr.heap.size]? = some (.cells #[.int .i64 E.id, .int .i64 E.sched, .int .i64 E.epoch, .slice EA E.needs.length ea, .slice EB E.bound.length eb, .slice ED E.done.length ed] 45 (0, 0)) by rw [hWa]; exact heap_at rfl)
      have z0 := y1 0 _ rfl
      have z1 := y1 1 _ rfl
      have z2 := y1 2 _ rfl
      have z3 := y1 3 _ rfl
      have z4 := y1 4 _ rfl
      have z5 := y1 5 _ rfl
      have HEA := hid (show EAt Wa E EA EB ED ea eb ed from ⟨Kd.below k1 HBa.out, Kd.below k2 HBa.out, Kd.below k3 HBa.out⟩)
      have hEqa := hWa.symm
      clear hx k1 k2 k3 y1 hWa
      go_wp2_with fail
      refine (bcopied_calls E EA EB ED ea eb ed Wa HEA.out HFE.out).mono ?_
      rintro e w1 ⟨FA, FB, FD, fa, fb, fd, rfl, hN, hb1⟩
      have hO := HO.out.below (bThen HBa.out hb1)
      have HN := hid hN
      have hB := HB.out.trans ((bThen HBa.out hb1).mono HB.out.size)
      have hlt' := fun j h => (HO.out.lt j h).2
      have hsz := HB.out.size
      have hsa := HBa.out.size
      have hll := HLT.out
      clear hN hb1 z0 z1 z2 z3 z4 z5 r0 r1 r2 r3 r4 r5
      go_wp2_with (at_builtin; go_must (refine append_arm Kd.entry w.heap.size rfl _ _ 29 45 _ 96 rfl Tryz.underlying29 Tryz.infoEntry rfl (by decide) (by decide) (.slice A3 n3 c3') (b.take k) E [.int .i64 E.id, .int .i64 E.sched, .int .i64 E.epoch, .slice FA E.needs.length fa, .slice FB E.bound.length fb, .slice FD E.done.length fd] (fun k => w.heap.size ≤ k) (fun k => Wa.heap.size ≤ k) rfl rfl (entry_of E HN.out.needs HN.out.bound HN.out.done) (fun j h _ => ⟨by omega, fun e => by have := hlt' j e.symm; omega⟩) hO hB hB.size (by omega) ?_))
      intro v1 w2 hO1 hb1 _ _
      have HO1 := hid (show Own Kd.entry 45 w2 w.heap.size (fun k => w.heap.size ≤ k) v1 (b.take (k + 1)) by rw [HTS.out]; exact hO1)
      have HB1 := hid hb1
      clear hO1 hb1 hO hB hlt'
      go_wp2
      go_roundw
      case rel => exact ⟨k + 1, by omega, by go_num, HO1, HB1⟩
      case measure => simp [intOf]; omega
    · obtain rfl : k = q := by omega
      have HF := hid (show b.take k = b by rw [List.take_of_length_le (by rw [HQ.out]; exact Nat.le_refl _)])
      go_wp2
      go_ret
      exact ⟨_, rfl, by rw [HF.out] at HO; exact HO.out, HB.out⟩
end Go.Proofs.YtgedkcglkhleoaaGreatDoor
