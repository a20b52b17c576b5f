/- event.find; slices.Clone of strings; book.Clone. -/
import Derived.Test.YtolckkckheiceaaSpec2
import Derived.Test.YtolckkckheiceaaBase
namespace Go.Proofs.Ytolckkckheiceaa
open Go.RowKit

/-! ### a job of a list -/
def zeroJ : JobS := ⟨0, []⟩
def findJ (js : List JobS) (id : Int) : Option JobS := js.find? (fun J => J.id == id)
theorem findJ_at {js : List JobS} {id : Int} {k : Nat} {J : JobS} (hx : js[k]? = some J) (hp : (J.id == id) = true) (hn : ∀ (j : Nat) J', j < k → js[j]? = some J' → (J'.id == id) = false) : findJ js id = some J := by
  obtain ⟨hk, rfl⟩ := List.getElem?_eq_some_iff.1 hx
  unfold findJ
  rw [List.find?_eq_some_iff_getElem]
  exact ⟨hp, k, hk, rfl, fun j hj => by rw [hn j js[j] hj (List.getElem?_eq_getElem _)]; rfl⟩
theorem findJ_none {js : List JobS} {id : Int} (hn : ∀ (j : Nat) J', j < js.length → js[j]? = some J' → (J'.id == id) = false) : findJ js id = none := by
  unfold findJ
  rw [List.find?_eq_none]
  intro J hJ
  obtain ⟨j, hj⟩ := List.getElem?_of_mem hJ
  rw [hn j J (List.getElem?_eq_some_iff.1 hj).1 hj]
  exact Bool.false_ne_true
theorem Kd.Row.at_job {w : World} {S : Nat → Prop} {A : Option Addr} {xs : List JobS} (h : Kd.job.Row w S A xs) (i : Nat) (hi : i < xs.length) :
    ∃ a J JA jc, A = some a ∧ xs[i]? = some J ∧ Kd.str.slice.K w S J.needs [.slice JA J.needs.length jc] ∧
      w.cell? (a.add (i * 2)) = some (.int .i64 J.id) ∧ w.cell? ⟨(a.add (i * 2)).block, (a.add (i * 2)).off + 1, none⟩ = some (.slice JA J.needs.length jc) := by
  obtain ⟨a, cs, h1, _, _, h4, h5⟩ := h i xs[i] (List.getElem?_eq_getElem hi)
  obtain ⟨JA, jc, rfl, k1⟩ := job_cells h4
  have key : ∀ (j : Nat) (u : Value), 0 < j → ([.int .i64 xs[i].id, .slice JA xs[i].needs.length jc] : List Value)[j]? = some u → w.cell? ⟨(a.add (i * 2)).block, (a.add (i * 2)).off + j, none⟩ = some u := by
    intro j u hj hu
    have := h5 j u hu
    rwa [show i * Kd.job.sz + j = i * 2 + j from rfl, ← Kd.add_add, Kd.add_lit (a.add (i * 2)) j hj] at this
  exact ⟨a, xs[i], JA, jc, h1, List.getElem?_eq_getElem hi, k1, h5 0 _ rfl, key 1 _ (by decide) rfl⟩
theorem setJ2 {W : World} {rb : Nat} {t : TypeId} {z0 z1 : Value} (h : W.heap[rb]? = some (.cells #[z0, z1] t (0, 0))) (v0 v1 : Value) :
    ∃ W', W' = ((W.setCell ⟨rb, 0, none⟩ v0).setCell ⟨rb, 1, none⟩ v1) ∧ W'.heap[rb]? = some (.cells #[v0, v1] t (0, 0)) ∧
      W'.cell? ⟨rb, 0, none⟩ = some v0 ∧ W'.cell? ⟨rb, 1, none⟩ = some v1 ∧ Below rb W W' ∧ (∀ k, k ≠ rb → W'.heap[k]? = W.heap[k]?) ∧ W'.heap.size = W.heap.size := by
  have g0 := heap_set h 0 v0
  have g1 := heap_set g0 1 v1
  have e : (#[z0, z1].setIfInBounds 0 v0).setIfInBounds 1 v1 = #[v0, v1] := by simp
  rw [e] at g1
  have b0 := (Below.refl rb W).setCell (p := ⟨rb, 0, none⟩) (Nat.le_refl _) v0
  have b1 := b0.setCell (p := ⟨rb, 1, none⟩) (Nat.le_refl _) v1
  obtain ⟨q, _, _⟩ := cells_of_block g1
  refine ⟨_, rfl, g1, q 0 v0 rfl, q 1 v1 rfl, b1, fun k hk => ?_, by simp⟩
  rw [Below.heap_setCell _ _ _ _ (by simpa using hk), Below.heap_setCell _ _ _ _ (by simpa using hk)]
set_option maxHeartbeats 4000000 in
set_option maxRecDepth 100000 in
theorem efind_calls (js : List JobS) (id : Int) (v : Value) (w : World) (hb : Kd.job.slice.K w Any js [v]) :
    Calls Try.prog 154 #[v, .int .i64 id] w fun e w' => ∃ FA fa, e = .returned (.tuple #[.agg #[.int .i64 ((findJ js id).getD zeroJ).id, .slice FA ((findJ js id).getD zeroJ).needs.length fa], .bool (findJ js id).isSome]) ∧ Kd.str.slice.K w' Any ((findJ js id).getD zeroJ).needs [.slice FA ((findJ js id).getD zeroJ).needs.length fa] ∧ Below w.heap.size w w' := by
  obtain ⟨W0, hW0⟩ : ∃ W0, W0 = w.alloc (.cells #[.int .i64 0, .slice none 0 0] 67) := ⟨_, rfl⟩
  have b0 := hid (show Below w.heap.size w W0 by rw [hW0]; exact bAlloc (Below.refl _ _) _)
  have HZ0 := hid (show W0.heap[w.heap.size]? = some (.cells #[.int .i64 0, .slice none 0 0] 67 (0, 0)) by rw [hW0]; exact heap_at rfl)
  have HS0 := hid (show w.heap.size < W0.heap.size by rw [hW0]; simp)
  have HK := hid (Kd.job.slice.move (w1 := W0) (fun k hk _ => b0.out.block k hk) (Kd.job.slice.mono (S' := fun k => k < w.heap.size) (fun _ _ h => h) hb))
  obtain ⟨A, c, he, hc, hm, _⟩ := hb
  injection he with he _
  subst he
  have hEq := hW0.symm
  obtain ⟨q, hq⟩ : ∃ q, q = js.length := ⟨_, rfl⟩
  have HQ := hid hq
  rw [← hq] at hc hm HK ⊢
  clear hW0 hq
  go_enter Try.func154, Try.ntmps154
  go_wp2
  go_loopw [10] (fun i wr => ∃ k : Nat, k ≤ q ∧ i = .int .i64 k ∧ Hid (∀ (j : Nat) J', j < k → js[j]? = some J' → (J'.id == id) = false) ∧ Hid (Below W0.heap.size W0 wr)) (fun i _ => q - (intOf i).toNat)
  case atStart => exact ⟨0, by omega, rfl, hid (fun j E' h => by omega), hid (Below.refl _ _)⟩
  case round =>
    obtain ⟨k, hk, rfl, HN, HB⟩ := hrel
    have HKR := hid (Kd.job.slice.move (w1 := wr) (fun k _ hl => HB.out.block k hl) HK.out)
    by_cases hlt : k < q
    · obtain ⟨a, J, JA, jc, rfl, hx, k1, r0, r1⟩ := (K_row HKR.out).1.at_job k (by rw [← HQ.out]; exact hlt)
      have HX := hid hx
      have hltI : (k : Int) < (q : Int) := by omega
      have hk0 : (0 : Int) ≤ (k : Int) := by omega
      have HK1 := hid k1
      clear hx k1
      cases hpe : J.id == id
      case true =>
        have HF := hid (findJ_at HX.out hpe HN.out)
        obtain ⟨Wa, hWa⟩ : ∃ Wa, Wa = wr.alloc (.cells #[.int .i64 J.id, .slice JA J.needs.length jc] 67) := ⟨_, rfl⟩
        have HBa := hid (show Below wr.heap.size wr Wa by rw [hWa]; exact bAlloc (Below.refl _ _) _)
        have HZa := hid (show Wa.heap[w.heap.size]? = some (.cells #[.int .i64 0, .slice none 0 0] 67 (0, 0)) from (HBa.out.block _ (Nat.lt_of_lt_of_le HS0.out HB.out.size)).trans ((HB.out.block _ HS0.out).trans HZ0.out))
        obtain ⟨y1, _, _⟩ := cells_of_block (show Wa.heap[wr.heap.size]? = some (.cells #[.int .i64 J.id, .slice JA J.needs.length jc] 67 (0, 0)) by rw [hWa]; exact heap_at rfl)
        have y10 := y1 0 _ rfl
        have y11 := y1 1 _ rfl
        obtain ⟨W', hW', _, T0, T1, TB, TN, _⟩ := setJ2 HZa.out (.int .i64 J.id) (.slice JA J.needs.length jc)
        obtain ⟨p5, g5, l5⟩ := cells_of_block HZa.out
        have q0 := p5 0 _ rfl
        have q1 := p5 1 _ rfl
        have u0 := g5 0
        have u1 := g5 1
        have B4 := hid (show Below w.heap.size w W' from ((bThen (bThen b0.out (HB.out)) HBa.out)).trans TB)
        have M1 := hid (Kd.str.slice.move (w1 := W') (fun k (hk : k < w.heap.size) hl => (TN k (by omega)).trans (HBa.out.block k hl)) HK1.out)
        have hEqa := hWa.symm
        clear p5 g5 TB TN y1 hWa
        go_wp2
        rw [← hW']
        refine bodyPost_ret (by simp [results, Try.results154, go_sem, T0, T1]; try rfl) rfl ?_
        rw [HF.out]
        simp only [Option.getD_some, Option.isSome_some]
        exact ⟨JA, jc, rfl, Kd.any M1.out, B4.out⟩
      have HN2 := hid (show ∀ (i : Nat) E', i < k + 1 → js[i]? = some E' → (E'.id == id) = false from fun i E' hj hx => by
        rcases Nat.lt_or_ge i k with h | h
        · exact HN.out i E' h hx
        · rw [show i = k by omega, HX.out] at hx
          rw [← Option.some.inj hx]; exact hpe)
      have HB1 := hid (bAlloc HB.out (.cells #[.int .i64 J.id, .slice JA J.needs.length jc] 67))
      go_wp2
      go_roundw
      case rel => exact ⟨k + 1, by omega, by go_num, HN2, HB1⟩
      case measure => simp [intOf]; omega
    · obtain rfl : k = q := by omega
      have HFE := hid (findJ_none (id := id) (js := js) (fun i E' hj hx => HN.out i E' (by rw [HQ.out]; exact hj) hx))
      have HZa := hid ((HB.out.block _ HS0.out).trans HZ0.out)
      obtain ⟨W', hW', _, T0, T1, TB, TN, _⟩ := setJ2 HZa.out (.int .i64 0) (.slice none 0 0)
      obtain ⟨p5, g5, l5⟩ := cells_of_block HZa.out
      have q0 := p5 0 _ rfl
      have q1 := p5 1 _ rfl
      have u0 := g5 0
      have u1 := g5 1
      have B4 := hid (show Below w.heap.size w W' from (bThen b0.out HB.out).trans TB)
      clear p5 g5 TB TN
      go_wp2
      rw [← hW']
      refine bodyPost_ret (by simp [results, Try.results154, go_sem, T0, T1]; try rfl) rfl ?_
      rw [HFE.out]
      exact ⟨none, 0, rfl, ⟨none, 0, rfl, Nat.le_refl _, by decide, Kd.Row.nil⟩, B4.out⟩
/-! ### a copy of strings -/
set_option maxHeartbeats 4000000 in
set_option maxRecDepth 100000 in
theorem sclone_calls (l : List ByteArray) (A : Option Addr) (c : Nat) (w : World) (hb : Kd.str.slice.K w Any l [.slice A l.length c]) (hl : l.length ≤ 1000000) :
    Calls Try.prog 155 #[.slice A l.length c] w fun e w' => ∃ F f, e = .returned (.slice F l.length f) ∧ Kd.str.slice.K w' (fun k => w.heap.size ≤ k) l [.slice F l.length f] ∧ Below w.heap.size w w' := by
  cases A with
  | none =>
    have hl0 : l = [] := by
      cases l with
      | nil => rfl
      | cons x xs => obtain ⟨a, cs, h1, _⟩ := (K_row hb).1 0 x rfl; cases h1
    subst hl0
    clear hb
    simp only [List.length_nil]
    have hnil : ∀ W, Sem.run Try.prog (binOp BinOp.eql 22 (Value.slice none 0 c) (Value.slice none 0 0)) W = .ok (.bool true) W := fun W => by kernel_rfl
    go_enter Try.func155, Try.ntmps155
    go_wp2
    go_ret
    exact ⟨none, 0, rfl, ⟨none, 0, rfl, Nat.le_refl _, by decide, Kd.Row.nil⟩, Below.refl _ _⟩
  | some a =>
    obtain ⟨W0, hW0⟩ : ∃ W0, W0 = w.alloc (.cells #[] 9) := ⟨_, rfl⟩
    have b0 := hid (show Below w.heap.size w W0 by rw [hW0]; exact bAlloc (Below.refl _ _) _)
    have HZ0 := hid (show W0.heap[w.heap.size]? = some (.cells #[] 9 (0, 0)) by rw [hW0]; exact heap_at rfl)
    have HS0 := hid (show W0.heap.size = w.heap.size + 1 by rw [hW0]; simp)
    obtain ⟨n, hn⟩ : ∃ n, n = l.length := ⟨_, rfl⟩
    have HN := hid hn
    rw [← hn] at hb hl ⊢
    have R1 := hid (K_row (Kd.str.slice.move (w1 := W0) (fun b hb _ => b0.out.block b hb) (Kd.str.slice.mono (S' := fun k => k < w.heap.size) (fun _ _ h => h) hb)))
    have hO0 := hid (own_emptyE (d := Kd.str) (T := NoT) HZ0.out (Nat.le_refl _))
    have hEq := hW0.symm
    have hnil : ∀ W, Sem.run Try.prog (binOp BinOp.eql 22 (Value.slice (some a) n c) (Value.slice none 0 0)) W = .ok (.bool false) W := fun W => by kernel_rfl
    clear hW0 hn hb
    go_enter Try.func155, Try.ntmps155
    go_wp2_with (at_builtin; go_must (refine appends_arm Kd.str (w0 := w) w.heap.size rfl _ _ 22 9 _ 16 rfl Try.underlying22 Try.infoStr rfl (by decide) (by decide) (.slice (some ⟨w.heap.size, 0, none⟩) 0 0) [] l (some a) n c NoT (fun b => b < w.heap.size) NoT rfl rfl HN.out.symm R1.out.1 (fun _ _ h => h) (fun _ h => h.elim) hO0.out b0.out b0.out.size (by simp; omega) ?_))
    intro v1 V1 hO1 hb1 _ _
    try rw [List.nil_append] at hO1
    have HO1 := hid hO1
    obtain ⟨A1, m1, c1, rfl, hm1, _⟩ := hO1.shape'
    have hmn1 : m1 = n := by rw [hm1, HN.out]
    subst hmn1
    have HB1 := hid hb1
    clear hO1 hb1 hm1
    go_wp2
    go_ret
    exact ⟨A1, c1, rfl, Kd.str.slice.mono (fun k hk _ => hk.elim (fun h => h.elim) id) HO1.out.K, HB1.out⟩
/-! ### a copy of a book -/
set_option maxHeartbeats 4000000 in
set_option maxRecDepth 100000 in
theorem bclone_calls (b : List EntryS) (v : Value) (w : World) (hb : Kd.entry.slice.K w Any b [v]) (hF : ∀ E ∈ b, Fits E) (hl : b.length ≤ 1000000) :
    Calls Try.prog 95 #[v] w fun e w' => ∃ o, e = .returned o ∧ Own Kd.entry 29 w' w.heap.size (fun k => w.heap.size ≤ k) o b ∧ Below w.heap.size w w' := by
  obtain ⟨A, c, he, hc, hm, hr⟩ := hb
  cases he
  have HR := hid hr
  have HF := hid hF
  obtain ⟨q, hq⟩ : ∃ q, b.length = q := ⟨_, rfl⟩
  have HQ := hid hq
  rw [hq] at hc hm hl ⊢
  clear hr hq hF
  go_enter Try.func95, Try.ntmps95
  go_wp2
  go_loopw [3, 8] (fun o i wr => ∃ k : Nat, k ≤ q ∧ i = .int .i64 k ∧ Hid (Own Kd.entry 29 wr w.heap.size (fun k => w.heap.size ≤ k) o (b.take k)) ∧ Hid (Below w.heap.size w wr)) (fun _ i _ => q - (intOf i).toNat)
  case atStart => exact ⟨0, by omega, rfl, hid (by simpa using Own.nil _ _ _ _ _), hid (Below.refl _ _)⟩
  case round =>
    obtain ⟨k, hk, rfl, HO, HB⟩ := hrel
    obtain ⟨A3, n3, c3', rfl, hq1, hq2⟩ := HO.out.shape'
    clear hq1 hq2
    by_cases hlt : k < q
    · obtain ⟨a, E, EA, EB, ED, ea, eb, ed, rfl, hx, k1, k2, k3, r0, r1, r2, r3, r4, r5⟩ := (HR.out.below HB.out).at_entry k (by rw [HQ.out]; exact hlt)
      have HTS := hid (show b.take (k + 1) = b.take k ++ [E] from take_snoc hx)
      have HLT := hid (show (b.take k).length ≤ q from by rw [← HQ.out]; exact List.length_take_le' _ _)
      have HFE := hid (HF.out E (List.mem_of_getElem? hx))
      have hltI : (k : Int) < (q : Int) := by omega
      have hk0 : (0 : Int) ≤ (k : Int) := by omega
      obtain ⟨Wa, hWa⟩ : ∃ Wa, Wa = wr.alloc (.cells #[.int .i64 E.id, .int .i64 E.sched, .int .i64 E.epoch, .slice EA E.needs.length ea, .slice EB E.bound.length eb, .slice ED E.done.length ed] 29) := ⟨_, rfl⟩
      have HBa := hid (show Below wr.heap.size wr Wa by rw [hWa]; exact bAlloc (Below.refl _ _) _)
      obtain ⟨y1, _, _⟩ := cells_of_block (show Wa.heap[wr.heap.size]? = some (.cells #[.int .i64 E.id, .int .i64 E.sched, .int .i64 E.epoch, .slice EA E.needs.length ea, .slice EB E.bound.length eb, .slice ED E.done.length ed] 29 (0, 0)) by rw [hWa]; exact heap_at rfl)
      have z0 := y1 0 _ rfl
      have z1 := y1 1 _ rfl
      have z2 := y1 2 _ rfl
      have z3 := y1 3 _ rfl
      have z4 := y1 4 _ rfl
      have z5 := y1 5 _ rfl
      have HEA := hid (show EAt Wa E EA EB ED ea eb ed from ⟨Kd.below k1 HBa.out, Kd.below k2 HBa.out, Kd.below k3 HBa.out⟩)
      have hEqa := hWa.symm
      clear hx k1 k2 k3 y1 hWa
      go_wp2_with fail
      refine (bcopied_calls E EA EB ED ea eb ed Wa HEA.out HFE.out).mono ?_
      rintro e w1 ⟨FA, FB, FD, fa, fb, fd, rfl, hN, hb1⟩
      have hO := HO.out.below (bThen HBa.out hb1)
      have HN := hid hN
      have hB := HB.out.trans ((bThen HBa.out hb1).mono HB.out.size)
      have hlt' := fun j h => (HO.out.lt j h).2
      have hsz := HB.out.size
      have hsa := HBa.out.size
      have hll := HLT.out
      clear hN hb1 z0 z1 z2 z3 z4 z5 r0 r1 r2 r3 r4 r5
      go_wp2_with (at_builtin; go_must (refine append_arm Kd.entry w.heap.size rfl _ _ 33 29 _ 96 rfl Try.underlying33 Try.infoEntry rfl (by decide) (by decide) (.slice A3 n3 c3') (b.take k) E [.int .i64 E.id, .int .i64 E.sched, .int .i64 E.epoch, .slice FA E.needs.length fa, .slice FB E.bound.length fb, .slice FD E.done.length fd] (fun k => w.heap.size ≤ k) (fun k => Wa.heap.size ≤ k) rfl rfl (entry_of E HN.out.needs HN.out.bound HN.out.done) (fun j h _ => ⟨by omega, fun e => by have := hlt' j e.symm; omega⟩) hO hB hB.size (by omega) ?_))
      intro v1 w2 hO1 hb1 _ _
      have HO1 := hid (show Own Kd.entry 29 w2 w.heap.size (fun k => w.heap.size ≤ k) v1 (b.take (k + 1)) by rw [HTS.out]; exact hO1)
      have HB1 := hid hb1
      clear hO1 hb1 hO hB hlt'
      go_wp2
      go_roundw
      case rel => exact ⟨k + 1, by omega, by go_num, HO1, HB1⟩
      case measure => simp [intOf]; omega
    · obtain rfl : k = q := by omega
      have HF := hid (show b.take k = b by rw [List.take_of_length_le (by rw [HQ.out]; exact Nat.le_refl _)])
      go_wp2
      go_ret
      exact ⟨_, rfl, by rw [HF.out] at HO; exact HO.out, HB.out⟩
end Go.Proofs.Ytolckkckheiceaa
