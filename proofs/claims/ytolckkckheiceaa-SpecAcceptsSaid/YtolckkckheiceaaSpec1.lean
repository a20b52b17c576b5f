/- spec.Kept, Free, Answer; siskinref40.Kept, Answer. -/
import Derived.Test.YtolckkckheiceaaBook1
import Derived.Test.YtolckkckheiceaaJobCW
import Derived.Test.YtolckkckheiceaaR17B
import Derived.Test.YtolckkckheiceaaLaw17B
namespace Go.Proofs.Ytolckkckheiceaa
open Go.RowKit

theorem mostR_bound (job sched : Int) (l : List ByteArray) : 0 ≤ mostR job sched l ∧ mostR job sched l ≤ 45000 + 10000 * (l.length : Nat) := by
  unfold mostR
  have h1 := sizeR_bound ⟨1, job, 0, 0, sched, 0, l⟩
  have h2 := sizeR_bound ⟨2, job, 0, 0, 0, 1, []⟩
  have h3 := sizeR_bound ⟨3, job, 0, 0, 0, 0, []⟩
  have h4 := sizeR_bound ⟨4, job, 0, 0, 0, 1, []⟩
  split
  · omega
  · generalize sizeR ⟨2, job, 0, 0, 0, 1, []⟩ = p2 at *
    generalize sizeR ⟨3, job, 0, 0, 0, 0, []⟩ = p3 at *
    have h5 : 0 ≤ (l.length : Int) * (p2 + p3) := Int.mul_nonneg (by omega) (by omega)
    have h6 : (l.length : Int) * (p2 + p3) ≤ (l.length : Int) * 10000 := Int.mul_le_mul_of_nonneg_left (by omega) (by omega)
    omega
def keptS (b : List EntryS) : Int := b.foldl (fun n E => n + mostR E.id 0 E.needs) 0
theorem keptS_snoc (b : List EntryS) (E : EntryS) : keptS (b ++ [E]) = keptS b + mostR E.id 0 E.needs := by
  unfold keptS
  rw [List.foldl_append]; rfl
theorem keptS_bound (b : List EntryS) (h : ∀ E ∈ b, E.needs.length ≤ 1000) : ∀ k, k ≤ b.length → 0 ≤ keptS (b.take k) ∧ keptS (b.take k) ≤ k * 11000000
  | 0, _ => by simp [keptS]
  | k + 1, hk => by
    obtain ⟨h1, h2⟩ := keptS_bound b h k (by omega)
    have hx : b[k]? = some b[k] := List.getElem?_eq_getElem (by omega)
    rw [take_snoc hx, keptS_snoc]
    have h3 := mostR_bound b[k].id 0 b[k].needs
    have h4 := h b[k] (List.getElem_mem _)
    omega
set_option maxHeartbeats 4000000 in
set_option maxRecDepth 100000 in
theorem kept_calls (b : List EntryS) (v : Value) (w : World) (hb : Kd.entry.slice.K w Any b [v]) (hn : ∀ E ∈ b, E.needs.length ≤ 1000) (hl : b.length ≤ 1000) :
    Calls Try.prog 111 #[v] w fun e w' => e = .returned (.int .i64 (keptS b)) ∧ Below w.heap.size w w' := by
  obtain ⟨A, c, he, hc, hm, hr⟩ := hb
  cases he
  have HR := hid hr
  have HN := hid hn
  have HBD := hid (keptS_bound b hn)
  obtain ⟨q, hq⟩ : ∃ q, b.length = q := ⟨_, rfl⟩
  have HQ := hid hq
  rw [hq] at hc hm hl ⊢
  clear hr hq hn
  go_enter Try.func111, Try.ntmps111
  go_wp2
  go_loopw [3, 8] (fun n i wr => ∃ (k : Nat) (s : Int), k ≤ q ∧ i = .int .i64 k ∧ n = .int .i64 s ∧ Hid (s = keptS (b.take k)) ∧ Hid (Below w.heap.size w wr)) (fun _ i _ => q - (intOf i).toNat)
  case atStart => exact ⟨0, 0, by omega, rfl, rfl, hid (by simp [keptS]), hid (Below.refl _ _)⟩
  case round =>
    obtain ⟨k, s, hk, rfl, rfl, HSS, HB⟩ := hrel
    by_cases hlt : k < q
    · obtain ⟨a, E, EA, EB, ED, ea, eb, ed, rfl, hx, k1, k2, k3, r0, r1, r2, r3, r4, r5⟩ := (HR.out.below HB.out).at_entry k (by rw [HQ.out]; exact hlt)
      have hltI : (k : Int) < (q : Int) := by omega
      have hk0 : (0 : Int) ≤ (k : Int) := by omega
      have HKN := hid (Kd.below k1 (bAlloc (Below.refl wr.heap.size wr) (.cells #[.int .i64 E.id, .int .i64 E.sched, .int .i64 E.epoch, .slice EA E.needs.length ea, .slice EB E.bound.length eb, .slice ED E.done.length ed] 29)))
      have HNE := hid (HN.out E (List.mem_of_getElem? hx))
      have hbd := HBD.out (k + 1) (by rw [HQ.out]; omega)
      have HST := hid (show keptS (b.take (k + 1)) = s + mostR E.id 0 E.needs by rw [take_snoc hx, keptS_snoc, HSS.out])
      rw [HST.out] at hbd
      clear hx k1 k2 k3
      go_wp2_with fail
      refine (recMost_calls E.id 0 E.needs EA E.needs.length ea _ HKN.out (by have := HNE.out; omega)).mono ?_
      rintro e w1 ⟨rfl, hb1⟩
      have HB1 := hid (bThen (bAlloc HB.out (.cells #[.int .i64 E.id, .int .i64 E.sched, .int .i64 E.epoch, .slice EA E.needs.length ea, .slice EB E.bound.length eb, .slice ED E.done.length ed] 29)) hb1)
      have HST2 := hid (HST.out.symm)
      generalize mostR E.id 0 E.needs = m at *
      have hw : IntKind.i64.wrap (s + m) = s + m := IntWalk.i64_in _ (by omega)
      clear hb1 r0 r1 r2 r3 r4 r5 hbd
      go_wp2
      go_roundw
      case rel => exact ⟨k + 1, s + m, by omega, by go_num, rfl, HST2, HB1⟩
      case measure => simp [intOf]; omega
    · obtain rfl : k = q := by omega
      have HF := hid (show s = keptS b by rw [HSS.out, List.take_of_length_le (by rw [HQ.out]; exact Nat.le_refl _)])
      go_wp2
      go_ret
      rw [← HF.out]
      exact ⟨rfl, HB.out⟩
def freeS (C : ConfS) (b : List EntryS) : Int := max (IntKind.i64.wrap (C.room - keptS b)) 0
/-- What the looks of an answer stand on. -/
structure AnsBox (w : World) (C : ConfS) (CA CB : Option Addr) (ca cb : Nat) (b : List EntryS) (v : Value) (J : JobS) (JA : Option Addr) (jc : Nat) (bc bt bj : Nat) : Prop where
  conf : w.cell? ⟨bc, 0, none⟩ = some (.int .i64 C.scheds) ∧ w.cell? ⟨bc, 1, none⟩ = some (.int .i64 C.lease) ∧ w.cell? ⟨bc, 2, none⟩ = some (.int .i64 C.again) ∧ w.cell? ⟨bc, 3, none⟩ = some (.int .i64 C.room) ∧ w.cell? ⟨bc, 4, none⟩ = some (.int .i64 C.out) ∧ w.cell? ⟨bc, 5, none⟩ = some (.slice CA C.names.length ca) ∧ w.cell? ⟨bc, 6, none⟩ = some (.slice CB C.workers.length cb)
  book : w.cell? ⟨bt, 0, none⟩ = some v
  job0 : w.cell? ⟨bj, 0, none⟩ = some (.int .i64 J.id)
  job1 : w.cell? ⟨bj, 1, none⟩ = some (.slice JA J.needs.length jc)
  cat : CAt w C CA CB ca cb
  bk : Kd.entry.slice.K w Any b [v]
  nd : Kd.str.slice.K w Any J.needs [.slice JA J.needs.length jc]
theorem AnsBox.below {w w1 : World} {C : ConfS} {CA CB : Option Addr} {ca cb : Nat} {b : List EntryS} {v : Value} {J : JobS} {JA : Option Addr} {jc bc bt bj : Nat} (h : AnsBox w C CA CB ca cb b v J JA jc bc bt bj) (hb : Below w.heap.size w w1) : AnsBox w1 C CA CB ca cb b v J JA jc bc bt bj := by
  have m : ∀ (p : Addr) (u : Value), w.cell? p = some u → w1.cell? p = some u := fun p u hu => (hb.cell (World.block_lt_of_cell? w p hu)).trans hu
  obtain ⟨⟨x0, x1, x2, x3, x4, x5, x6⟩, h1, h2, h3, h4, h5, h6⟩ := h
  exact ⟨⟨m _ _ x0, m _ _ x1, m _ _ x2, m _ _ x3, m _ _ x4, m _ _ x5, m _ _ x6⟩, m _ _ h1, m _ _ h2, m _ _ h3, h4.below hb, Kd.below h5 hb, Kd.below h6 hb⟩
structure AnsOk (b : List EntryS) (J : JobS) : Prop where
  sz : ∀ s ∈ J.needs, s.size ≤ 1000
  nl : J.needs.length ≤ 1000
  fit : ∀ E ∈ b, Fits E
  en : ∀ E ∈ b, E.needs.length ≤ 1000
  bl : b.length ≤ 1000
def ans1 (C : ConfS) (J : JobS) : Int := (checkJ C.names C.workers J.id J.needs).2.2
def ans2 (b : List EntryS) (J : JobS) : Int := if 0 ≤ placeE b J.id then 9 else 0
def ans3 (C : ConfS) (b : List EntryS) (J : JobS) : Int := if 40 ≤ b.length ∨ C.room < keptS b + mostR J.id 0 J.needs then 7 else 0
def answerS (C : ConfS) (b : List EntryS) (J : JobS) : Int := if ans1 C J ≠ 0 then ans1 C J else if ans2 b J ≠ 0 then ans2 b J else ans3 C b J
set_option maxHeartbeats 4000000 in
set_option maxRecDepth 100000 in
theorem ans1_calls (w : World) (C : ConfS) (CA CB : Option Addr) (ca cb : Nat) (b : List EntryS) (v : Value) (J : JobS) (JA : Option Addr) (jc bc bt bj : Nat) (h : AnsBox w C CA CB ca cb b v J JA jc bc bt bj) (ho : AnsOk b J) :
    Calls Try.prog 107 #[.pointer (some ⟨bc, 0, none⟩), .pointer (some ⟨bj, 0, none⟩)] w fun e w' => e = .returned (.int .i64 (ans1 C J)) ∧ Below w.heap.size w w' := by
  obtain ⟨⟨x0, x1, x2, x3, x4, x5, x6⟩, h1, h2, h3, h4, h5, h6⟩ := h
  have H4 := hid h4
  have H6 := hid h6
  have HSZ := hid (show ∀ s ∈ J.needs, s.size ≤ 140737488351232 from fun s hs => by have := ho.sz s hs; omega)
  have HD := hid (show ans1 C J = (checkJ C.names C.workers J.id J.needs).2.2 from rfl)
  clear h1 h4 h5 h6 ho
  go_enter Try.func107, Try.ntmps107
  go_wp2_with fail
  refine (jobCheck_calls C.names C.workers J.id J.needs C.scheds C.lease C.again C.room C.out _ _ _ w H4.out.names H4.out.workers H4.out.attrs H6.out HSZ.out).mono ?_
  rintro e w2 ⟨rfl, hb2⟩
  go_wp2
  go_ret
  rw [HD.out]
  exact ⟨rfl, hb2⟩
set_option maxHeartbeats 4000000 in
set_option maxRecDepth 100000 in
theorem ans2_calls (w : World) (C : ConfS) (CA CB : Option Addr) (ca cb : Nat) (b : List EntryS) (v : Value) (J : JobS) (JA : Option Addr) (jc bc bt bj : Nat) (h : AnsBox w C CA CB ca cb b v J JA jc bc bt bj) (ho : AnsOk b J) :
    Calls Try.prog 108 #[.pointer (some ⟨bt, 0, none⟩), .pointer (some ⟨bj, 0, none⟩)] w fun e w' => e = .returned (.int .i64 (ans2 b J)) ∧ Below w.heap.size w w' := by
  obtain ⟨_, h1, h2, h3, h4, h5, h6⟩ := h
  have H5 := hid h5
  have HF := hid ho.fit
  have HI := hid (findE_place b J.id)
  have HD := hid (show ans2 b J = if 0 ≤ placeE b J.id then 9 else 0 from rfl)
  obtain ⟨A, c, he, _, _, _⟩ := h5
  injection he with he _
  subst he
  clear h3 h4 h6 ho
  go_enter Try.func108, Try.ntmps108
  go_wp2_with fail
  refine (bfind_calls b J.id _ w H5.out HF.out).mono ?_
  rintro e w2 ⟨FA, FB, FD, fa, fb, fd, rfl, _, hb2⟩
  rw [HI.out]
  have HB2 := hid hb2
  clear hb2
  by_cases hp : 0 ≤ placeE b J.id
  · rw [decide_eq_true hp]
    have HV := hid (show ans2 b J = 9 by rw [HD.out, if_pos hp])
    clear hp
    go_wp2
    go_ret
    rw [HV.out]
    exact ⟨rfl, bAlloc HB2.out _⟩
  · rw [decide_eq_false hp]
    have HV := hid (show ans2 b J = 0 by rw [HD.out, if_neg hp])
    clear hp
    go_wp2
    go_ret
    rw [HV.out]
    exact ⟨rfl, bAlloc HB2.out _⟩
set_option maxHeartbeats 4000000 in
set_option maxRecDepth 100000 in
theorem ans3_calls (w : World) (C : ConfS) (CA CB : Option Addr) (ca cb : Nat) (b : List EntryS) (v : Value) (J : JobS) (JA : Option Addr) (jc bc bt bj : Nat) (h : AnsBox w C CA CB ca cb b v J JA jc bc bt bj) (ho : AnsOk b J) :
    Calls Try.prog 110 #[.pointer (some ⟨bt, 0, none⟩), .pointer (some ⟨bj, 0, none⟩), .pointer (some ⟨bc, 0, none⟩)] w fun e w' => e = .returned (.int .i64 (ans3 C b J)) ∧ Below w.heap.size w w' := by
  have HX := hid h
  have HN := hid ho.en
  have HL := hid ho.bl
  have HNL := hid ho.nl
  have HBD := hid (keptS_bound b ho.en b.length (Nat.le_refl _))
  have HMB := hid (mostR_bound J.id 0 J.needs)
  have HD := hid (show ans3 C b J = if 40 ≤ b.length ∨ C.room < keptS b + mostR J.id 0 J.needs then 7 else 0 from rfl)
  obtain ⟨A, c, he, _, _, _⟩ := h.bk
  injection he with he _
  subst he
  obtain ⟨q, hq⟩ : ∃ q, q = b.length := ⟨_, rfl⟩
  have HQ := hid hq
  rw [← hq] at HX HD HL HBD
  clear h ho hq
  have HS := hid (fun (u : World) (hb : Below w.heap.size w u) => show (u.cell? ⟨bt, 0, none⟩ = some (.slice A q c) ∧ u.cell? ⟨bj, 0, none⟩ = some (.int .i64 J.id) ∧ u.cell? ⟨bj, 1, none⟩ = some (.slice JA J.needs.length jc) ∧ u.cell? ⟨bc, 3, none⟩ = some (.int .i64 C.room)) from
    ⟨(HX.out.below hb).book, (HX.out.below hb).job0, (HX.out.below hb).job1, (HX.out.below hb).conf.2.2.2.1⟩)
  have q0 := HS.out w.drew (Below.refl _ _).drew
  by_cases h40 : 40 ≤ q
  · have h40I : (40 : Int) ≤ (q : Int) := by omega
    have h40d : decide ((40 : Int) ≤ (q : Int)) = true := decide_eq_true h40I
    have HV := hid (show ans3 C b J = 7 by rw [HD.out, if_pos (.inl h40)])
    go_enter Try.func110, Try.ntmps110
    go_wp2_with fail
    refine wp_region_held_drew (S := fun w' => w'.cell? ⟨bt, 0, none⟩ = some (.slice A q c) ∧ w'.cell? ⟨bj, 0, none⟩ = some (.int .i64 J.id) ∧ w'.cell? ⟨bj, 1, none⟩ = some (.slice JA J.needs.length jc) ∧ w'.cell? ⟨bc, 3, none⟩ = some (.int .i64 C.room)) (by kernel_rfl) q0 (fun hHeld => ?_)
    refine anyH_take 0 (v := ?_) rfl (by kernel_rfl) (by kernel_rfl) (by kernel_rfl) (fun _ _ _ h => h) (by rfl) hHeld ?_ ?_
    rotate_left
    · (intro w hSw; (try dsimp only at hSw); go_split_ands; go_simp; try with_reducible rfl)
    (try simp only [Act.put, List.setIfInBounds_toArray, List.set_cons_zero, List.set_cons_succ])
    refine anyH_take 1 (v := ?_) rfl (by kernel_rfl) (by kernel_rfl) (by kernel_rfl) (fun _ _ _ h => h) (by rfl) hHeld ?_ ?_
    rotate_left
    · (intro w hSw; (try dsimp only at hSw); go_split_ands; go_simp; try with_reducible rfl)
    (try simp only [Act.put, List.setIfInBounds_toArray, List.set_cons_zero, List.set_cons_succ])
    refine anyH_take 2 (v := ?_) rfl (by kernel_rfl) (by kernel_rfl) (by kernel_rfl) (fun _ _ _ h => h) (by rfl) hHeld ?_ ?_
    rotate_left
    · (intro w hSw; (try dsimp only at hSw); go_split_ands; go_simp; try with_reducible rfl)
    (try simp only [Act.put, List.setIfInBounds_toArray, List.set_cons_zero, List.set_cons_succ])
    refine anyH_take 3 (v := ?_) rfl (by kernel_rfl) (by kernel_rfl) (by kernel_rfl) (fun _ _ _ h => h) (by rfl) hHeld ?_ ?_
    rotate_left
    · (intro w hSw; (try dsimp only at hSw); go_split_ands; go_simp; try with_reducible rfl)
    (try simp only [Act.put, List.setIfInBounds_toArray, List.set_cons_zero, List.set_cons_succ])
    refine anyH_skip 4 rfl (by kernel_rfl) (by kernel_rfl) (by kernel_rfl) (fun _ _ _ h => h) (by rfl) hHeld ?_
    (try simp only [Act.put, List.setIfInBounds_toArray, List.set_cons_zero, List.set_cons_succ])
    refine anyH_skip 6 rfl (by kernel_rfl) (by kernel_rfl) (by kernel_rfl) (fun _ _ _ h => h) (by rfl) hHeld ?_
    (try simp only [Act.put, List.setIfInBounds_toArray, List.set_cons_zero, List.set_cons_succ])
    refine anyH_skip 7 rfl (by kernel_rfl) (by kernel_rfl) (by kernel_rfl) (fun _ _ _ h => h) (by rfl) hHeld ?_
    (try simp only [Act.put, List.setIfInBounds_toArray, List.set_cons_zero, List.set_cons_succ])
    refine anyH_skip 8 rfl (by kernel_rfl) (by kernel_rfl) (by kernel_rfl) (fun _ _ _ h => h) (by rfl) hHeld ?_
    (try simp only [Act.put, List.setIfInBounds_toArray, List.set_cons_zero, List.set_cons_succ])
    refine anyH_skip 9 rfl (by kernel_rfl) (by kernel_rfl) (by kernel_rfl) (fun _ _ _ h => h) (by rfl) hHeld ?_
    (try simp only [Act.put, List.setIfInBounds_toArray, List.set_cons_zero, List.set_cons_succ])
    refine anyH_skip 12 rfl (by kernel_rfl) (by kernel_rfl) (by kernel_rfl) (fun _ _ _ h => h) (by rfl) hHeld ?_
    (try simp only [Act.put, List.setIfInBounds_toArray, List.set_cons_zero, List.set_cons_succ])
    refine anyH_skip 13 rfl (by kernel_rfl) (by kernel_rfl) (by kernel_rfl) (fun _ _ _ h => h) (by rfl) hHeld ?_
    (try simp only [Act.put, List.setIfInBounds_toArray, List.set_cons_zero, List.set_cons_succ])
    refine anyH_skip 5 rfl (by kernel_rfl) (by kernel_rfl) (by kernel_rfl) (fun _ _ _ h => h) (by rfl) hHeld ?_
    (try simp only [Act.put, List.setIfInBounds_toArray, List.set_cons_zero, List.set_cons_succ])
    refine anyH_skip 10 rfl (by kernel_rfl) (by kernel_rfl) (by kernel_rfl) (fun _ _ _ h => h) (by rfl) hHeld ?_
    (try simp only [Act.put, List.setIfInBounds_toArray, List.set_cons_zero, List.set_cons_succ])
    refine anyH_skip 11 rfl (by kernel_rfl) (by kernel_rfl) (by kernel_rfl) (fun _ _ _ h => h) (by rfl) hHeld ?_
    (try simp only [Act.put, List.setIfInBounds_toArray, List.set_cons_zero, List.set_cons_succ])
    refine anyH_skip 14 rfl (by kernel_rfl) (by kernel_rfl) (by kernel_rfl) (fun _ _ _ h => h) (by rfl) hHeld ?_
    (try simp only [Act.put, List.setIfInBounds_toArray, List.set_cons_zero, List.set_cons_succ])
    refine anyH_take 15 (v := ?_) rfl (by kernel_rfl) (by kernel_rfl) (by kernel_rfl) (fun _ _ _ h => h) (by rfl) hHeld ?_ ?_
    rotate_left
    · (intro w hSw; (try dsimp only at hSw); go_split_ands; go_simp; try with_reducible rfl)
    (try simp only [Act.put, List.setIfInBounds_toArray, List.set_cons_zero, List.set_cons_succ])
    refine wpAnyH_done (by kernel_rfl) ?_ _
    go_wp2
    go_ret
    rw [HV.out]
    exact ⟨rfl, (Below.refl _ _).drew⟩
  have h40I : ¬ (40 : Int) ≤ (q : Int) := by omega
  have h40d : decide ((40 : Int) ≤ (q : Int)) = false := decide_eq_false h40I
  clear h40I
  have KEEP : ∀ (t : Bool), Hid (decide (C.room < keptS b + mostR J.id 0 J.needs) = t) → Hid (ans3 C b J = if t then 7 else 0) := fun t ht => by
    rw [HD.out, ← ht.out]
    by_cases h1 : C.room < keptS b + mostR J.id 0 J.needs
    · rw [if_pos (.inr h1), decide_eq_true h1]; rfl
    · rw [if_neg (by omega), decide_eq_false h1]; rfl
  obtain ⟨m, hm⟩ : ∃ m, m = mostR J.id 0 J.needs := ⟨_, rfl⟩
  obtain ⟨s, hs⟩ : ∃ s, s = keptS b := ⟨_, rfl⟩
  have HM := hid hm
  have HSS := hid hs
  rw [← hm, ← hs] at KEEP
  have KEEP := hid KEEP
  rw [← hm] at HMB
  have hsb : 0 ≤ s ∧ s ≤ 11000000000 := by
    have := HBD.out
    rw [HQ.out, List.take_length, ← hs] at this
    have := HL.out
    have := HQ.out
    omega
  have hmb : 0 ≤ m ∧ m ≤ 100000000 := by have := HMB.out; have := HNL.out; omega
  have hw : IntKind.i64.wrap (s + m) = s + m := IntWalk.i64_in _ (by omega)
  have h40N : q < 40 := by omega
  clear hm hs h40
  by_cases hr : C.room < s + m
  · have HV := hid (KEEP.out true (hid (decide_eq_true hr))).out
    go_enter Try.func110, Try.ntmps110
    go_wp2_with fail
    refine wp_region_held_drew (S := fun w' => w'.cell? ⟨bt, 0, none⟩ = some (.slice A q c) ∧ w'.cell? ⟨bj, 0, none⟩ = some (.int .i64 J.id) ∧ w'.cell? ⟨bj, 1, none⟩ = some (.slice JA J.needs.length jc) ∧ w'.cell? ⟨bc, 3, none⟩ = some (.int .i64 C.room)) (by kernel_rfl) q0 (fun hHeld => ?_)
    refine anyH_take 0 (v := ?_) rfl (by kernel_rfl) (by kernel_rfl) (by kernel_rfl) (fun _ _ _ h => h) (by rfl) hHeld ?_ ?_
    rotate_left
    · (intro w hSw; (try dsimp only at hSw); go_split_ands; go_simp; try with_reducible rfl)
    (try simp only [Act.put, List.setIfInBounds_toArray, List.set_cons_zero, List.set_cons_succ])
    refine anyH_take 1 (v := ?_) rfl (by kernel_rfl) (by kernel_rfl) (by kernel_rfl) (fun _ _ _ h => h) (by rfl) hHeld ?_ ?_
    rotate_left
    · (intro w hSw; (try dsimp only at hSw); go_split_ands; go_simp; try with_reducible rfl)
    (try simp only [Act.put, List.setIfInBounds_toArray, List.set_cons_zero, List.set_cons_succ])
    refine anyH_take 2 (v := ?_) rfl (by kernel_rfl) (by kernel_rfl) (by kernel_rfl) (fun _ _ _ h => h) (by rfl) hHeld ?_ ?_
    rotate_left
    · (intro w hSw; (try dsimp only at hSw); go_split_ands; go_simp; try with_reducible rfl)
    (try simp only [Act.put, List.setIfInBounds_toArray, List.set_cons_zero, List.set_cons_succ])
    refine anyH_take 3 (v := ?_) rfl (by kernel_rfl) (by kernel_rfl) (by kernel_rfl) (fun _ _ _ h => h) (by rfl) hHeld ?_ ?_
    rotate_left
    · (intro w hSw; (try dsimp only at hSw); go_split_ands; go_simp; try with_reducible rfl)
    (try simp only [Act.put, List.setIfInBounds_toArray, List.set_cons_zero, List.set_cons_succ])
    refine anyH_take 4 (v := ?_) rfl (by kernel_rfl) (by kernel_rfl) (by kernel_rfl) (fun _ _ _ h => h) (by rfl) hHeld ?_ ?_
    rotate_left
    · (intro w hSw; (try dsimp only at hSw); go_split_ands; go_simp; try with_reducible rfl)
    (try simp only [Act.put, List.setIfInBounds_toArray, List.set_cons_zero, List.set_cons_succ])
    refine anyH_take 6 (v := ?_) rfl (by kernel_rfl) (by kernel_rfl) (by kernel_rfl) (fun _ _ _ h => h) (by rfl) hHeld ?_ ?_
    rotate_left
    · (intro w hSw; (try dsimp only at hSw); go_split_ands; go_simp; try with_reducible rfl)
    (try simp only [Act.put, List.setIfInBounds_toArray, List.set_cons_zero, List.set_cons_succ])
    refine anyH_take 7 (v := ?_) rfl (by kernel_rfl) (by kernel_rfl) (by kernel_rfl) (fun _ _ _ h => h) (by rfl) hHeld ?_ ?_
    rotate_left
    · (intro w hSw; (try dsimp only at hSw); go_split_ands; go_simp; try with_reducible rfl)
    (try simp only [Act.put, List.setIfInBounds_toArray, List.set_cons_zero, List.set_cons_succ])
    refine anyH_take 8 (v := ?_) rfl (by kernel_rfl) (by kernel_rfl) (by kernel_rfl) (fun _ _ _ h => h) (by rfl) hHeld ?_ ?_
    rotate_left
    · (intro w hSw; (try dsimp only at hSw); go_split_ands; go_simp; try with_reducible rfl)
    (try simp only [Act.put, List.setIfInBounds_toArray, List.set_cons_zero, List.set_cons_succ])
    refine anyH_take 9 (v := ?_) rfl (by kernel_rfl) (by kernel_rfl) (by kernel_rfl) (fun _ _ _ h => h) (by rfl) hHeld ?_ ?_
    rotate_left
    · (intro w hSw; (try dsimp only at hSw); go_split_ands; go_simp; try with_reducible rfl)
    (try simp only [Act.put, List.setIfInBounds_toArray, List.set_cons_zero, List.set_cons_succ])
    refine anyH_take 12 (v := ?_) rfl (by kernel_rfl) (by kernel_rfl) (by kernel_rfl) (fun _ _ _ h => h) (by rfl) hHeld ?_ ?_
    rotate_left
    · (intro w hSw; (try dsimp only at hSw); go_split_ands; go_simp; try with_reducible rfl)
    (try simp only [Act.put, List.setIfInBounds_toArray, List.set_cons_zero, List.set_cons_succ])
    refine anyH_take 13 (v := ?_) rfl (by kernel_rfl) (by kernel_rfl) (by kernel_rfl) (fun _ _ _ h => h) (by rfl) hHeld ?_ ?_
    rotate_left
    · (intro w hSw; (try dsimp only at hSw); go_split_ands; go_simp; try with_reducible rfl)
    (try simp only [Act.put, List.setIfInBounds_toArray, List.set_cons_zero, List.set_cons_succ])
    refine anyH_one 5 rfl (by kernel_rfl) (fun K hK => ?_)
    go_simp
    refine (kept_calls b _ w.drew (HX.out.below (Below.refl _ _).drew).bk HN.out (by rw [← HQ.out]; omega)).mono ?_
    rintro e w1 ⟨rfl, hb1⟩
    rw [← HSS.out]
    have U1 := hid ((Below.refl w.heap.size w).drew.trans hb1)
    have q1 := HS.out w1 U1.out
    go_simp
    refine hK.out _ _ q1 (fun hHeld => ?_)
    clear hK K
    (try simp only [Act.put, List.setIfInBounds_toArray, List.set_cons_zero, List.set_cons_succ])
    refine anyH_one 10 rfl (by kernel_rfl) (fun K hK => ?_)
    go_simp
    refine (recMost_calls J.id 0 J.needs JA J.needs.length jc w1 (HX.out.below U1.out).nd (by have := HNL.out; omega)).mono ?_
    rintro e w2 ⟨rfl, hb2⟩
    rw [← HM.out]
    have U2 := hid (bThen U1.out hb2)
    have q2 := HS.out w2 U2.out
    go_simp
    refine hK.out _ _ q2 (fun hHeld => ?_)
    clear hK K
    (try simp only [Act.put, List.setIfInBounds_toArray, List.set_cons_zero, List.set_cons_succ])
    refine anyH_take 11 (v := ?_) rfl (by kernel_rfl) (by kernel_rfl) (by kernel_rfl) (fun _ _ _ h => h) (by rfl) hHeld ?_ ?_
    rotate_left
    · (intro w hSw; (try dsimp only at hSw); go_split_ands; go_simp; try with_reducible rfl)
    (try simp only [Act.put, List.setIfInBounds_toArray, List.set_cons_zero, List.set_cons_succ])
    refine anyH_take 14 (v := ?_) rfl (by kernel_rfl) (by kernel_rfl) (by kernel_rfl) (fun _ _ _ h => h) (by rfl) hHeld ?_ ?_
    rotate_left
    · (intro w hSw; (try dsimp only at hSw); go_split_ands; go_simp; try with_reducible rfl)
    (try simp only [Act.put, List.setIfInBounds_toArray, List.set_cons_zero, List.set_cons_succ])
    refine anyH_take 15 (v := ?_) rfl (by kernel_rfl) (by kernel_rfl) (by kernel_rfl) (fun _ _ _ h => h) (by rfl) hHeld ?_ ?_
    rotate_left
    · (intro w hSw; (try dsimp only at hSw); go_split_ands; go_simp; try with_reducible rfl)
    (try simp only [Act.put, List.setIfInBounds_toArray, List.set_cons_zero, List.set_cons_succ])
    refine wpAnyH_done (by kernel_rfl) ?_ _
    go_wp2
    go_ret
    rw [HV.out]
    exact ⟨rfl, U2.out⟩
  · have HV := hid (KEEP.out false (hid (decide_eq_false hr))).out
    go_enter Try.func110, Try.ntmps110
    go_wp2_with fail
    refine wp_region_held_drew (S := fun w' => w'.cell? ⟨bt, 0, none⟩ = some (.slice A q c) ∧ w'.cell? ⟨bj, 0, none⟩ = some (.int .i64 J.id) ∧ w'.cell? ⟨bj, 1, none⟩ = some (.slice JA J.needs.length jc) ∧ w'.cell? ⟨bc, 3, none⟩ = some (.int .i64 C.room)) (by kernel_rfl) q0 (fun hHeld => ?_)
    refine anyH_take 0 (v := ?_) rfl (by kernel_rfl) (by kernel_rfl) (by kernel_rfl) (fun _ _ _ h => h) (by rfl) hHeld ?_ ?_
    rotate_left
    · (intro w hSw; (try dsimp only at hSw); go_split_ands; go_simp; try with_reducible rfl)
    (try simp only [Act.put, List.setIfInBounds_toArray, List.set_cons_zero, List.set_cons_succ])
    refine anyH_take 1 (v := ?_) rfl (by kernel_rfl) (by kernel_rfl) (by kernel_rfl) (fun _ _ _ h => h) (by rfl) hHeld ?_ ?_
    rotate_left
    · (intro w hSw; (try dsimp only at hSw); go_split_ands; go_simp; try with_reducible rfl)
    (try simp only [Act.put, List.setIfInBounds_toArray, List.set_cons_zero, List.set_cons_succ])
    refine anyH_take 2 (v := ?_) rfl (by kernel_rfl) (by kernel_rfl) (by kernel_rfl) (fun _ _ _ h => h) (by rfl) hHeld ?_ ?_
    rotate_left
    · (intro w hSw; (try dsimp only at hSw); go_split_ands; go_simp; try with_reducible rfl)
    (try simp only [Act.put, List.setIfInBounds_toArray, List.set_cons_zero, List.set_cons_succ])
    refine anyH_take 3 (v := ?_) rfl (by kernel_rfl) (by kernel_rfl) (by kernel_rfl) (fun _ _ _ h => h) (by rfl) hHeld ?_ ?_
    rotate_left
    · (intro w hSw; (try dsimp only at hSw); go_split_ands; go_simp; try with_reducible rfl)
    (try simp only [Act.put, List.setIfInBounds_toArray, List.set_cons_zero, List.set_cons_succ])
    refine anyH_take 4 (v := ?_) rfl (by kernel_rfl) (by kernel_rfl) (by kernel_rfl) (fun _ _ _ h => h) (by rfl) hHeld ?_ ?_
    rotate_left
    · (intro w hSw; (try dsimp only at hSw); go_split_ands; go_simp; try with_reducible rfl)
    (try simp only [Act.put, List.setIfInBounds_toArray, List.set_cons_zero, List.set_cons_succ])
    refine anyH_take 6 (v := ?_) rfl (by kernel_rfl) (by kernel_rfl) (by kernel_rfl) (fun _ _ _ h => h) (by rfl) hHeld ?_ ?_
    rotate_left
    · (intro w hSw; (try dsimp only at hSw); go_split_ands; go_simp; try with_reducible rfl)
    (try simp only [Act.put, List.setIfInBounds_toArray, List.set_cons_zero, List.set_cons_succ])
    refine anyH_take 7 (v := ?_) rfl (by kernel_rfl) (by kernel_rfl) (by kernel_rfl) (fun _ _ _ h => h) (by rfl) hHeld ?_ ?_
    rotate_left
    · (intro w hSw; (try dsimp only at hSw); go_split_ands; go_simp; try with_reducible rfl)
    (try simp only [Act.put, List.setIfInBounds_toArray, List.set_cons_zero, List.set_cons_succ])
    refine anyH_take 8 (v := ?_) rfl (by kernel_rfl) (by kernel_rfl) (by kernel_rfl) (fun _ _ _ h => h) (by rfl) hHeld ?_ ?_
    rotate_left
    · (intro w hSw; (try dsimp only at hSw); go_split_ands; go_simp; try with_reducible rfl)
    (try simp only [Act.put, List.setIfInBounds_toArray, List.set_cons_zero, List.set_cons_succ])
    refine anyH_take 9 (v := ?_) rfl (by kernel_rfl) (by kernel_rfl) (by kernel_rfl) (fun _ _ _ h => h) (by rfl) hHeld ?_ ?_
    rotate_left
    · (intro w hSw; (try dsimp only at hSw); go_split_ands; go_simp; try with_reducible rfl)
    (try simp only [Act.put, List.setIfInBounds_toArray, List.set_cons_zero, List.set_cons_succ])
    refine anyH_take 12 (v := ?_) rfl (by kernel_rfl) (by kernel_rfl) (by kernel_rfl) (fun _ _ _ h => h) (by rfl) hHeld ?_ ?_
    rotate_left
    · (intro w hSw; (try dsimp only at hSw); go_split_ands; go_simp; try with_reducible rfl)
    (try simp only [Act.put, List.setIfInBounds_toArray, List.set_cons_zero, List.set_cons_succ])
    refine anyH_take 13 (v := ?_) rfl (by kernel_rfl) (by kernel_rfl) (by kernel_rfl) (fun _ _ _ h => h) (by rfl) hHeld ?_ ?_
    rotate_left
    · (intro w hSw; (try dsimp only at hSw); go_split_ands; go_simp; try with_reducible rfl)
    (try simp only [Act.put, List.setIfInBounds_toArray, List.set_cons_zero, List.set_cons_succ])
    refine anyH_one 5 rfl (by kernel_rfl) (fun K hK => ?_)
    go_simp
    refine (kept_calls b _ w.drew (HX.out.below (Below.refl _ _).drew).bk HN.out (by rw [← HQ.out]; omega)).mono ?_
    rintro e w1 ⟨rfl, hb1⟩
    rw [← HSS.out]
    have U1 := hid ((Below.refl w.heap.size w).drew.trans hb1)
    have q1 := HS.out w1 U1.out
    go_simp
    refine hK.out _ _ q1 (fun hHeld => ?_)
    clear hK K
    (try simp only [Act.put, List.setIfInBounds_toArray, List.set_cons_zero, List.set_cons_succ])
    refine anyH_one 10 rfl (by kernel_rfl) (fun K hK => ?_)
    go_simp
    refine (recMost_calls J.id 0 J.needs JA J.needs.length jc w1 (HX.out.below U1.out).nd (by have := HNL.out; omega)).mono ?_
    rintro e w2 ⟨rfl, hb2⟩
    rw [← HM.out]
    have U2 := hid (bThen U1.out hb2)
    have q2 := HS.out w2 U2.out
    go_simp
    refine hK.out _ _ q2 (fun hHeld => ?_)
    clear hK K
    (try simp only [Act.put, List.setIfInBounds_toArray, List.set_cons_zero, List.set_cons_succ])
    refine anyH_take 11 (v := ?_) rfl (by kernel_rfl) (by kernel_rfl) (by kernel_rfl) (fun _ _ _ h => h) (by rfl) hHeld ?_ ?_
    rotate_left
    · (intro w hSw; (try dsimp only at hSw); go_split_ands; go_simp; try with_reducible rfl)
    (try simp only [Act.put, List.setIfInBounds_toArray, List.set_cons_zero, List.set_cons_succ])
    refine anyH_take 14 (v := ?_) rfl (by kernel_rfl) (by kernel_rfl) (by kernel_rfl) (fun _ _ _ h => h) (by rfl) hHeld ?_ ?_
    rotate_left
    · (intro w hSw; (try dsimp only at hSw); go_split_ands; go_simp; try with_reducible rfl)
    (try simp only [Act.put, List.setIfInBounds_toArray, List.set_cons_zero, List.set_cons_succ])
    refine anyH_take 15 (v := ?_) rfl (by kernel_rfl) (by kernel_rfl) (by kernel_rfl) (fun _ _ _ h => h) (by rfl) hHeld ?_ ?_
    rotate_left
    · (intro w hSw; (try dsimp only at hSw); go_split_ands; go_simp; try with_reducible rfl)
    (try simp only [Act.put, List.setIfInBounds_toArray, List.set_cons_zero, List.set_cons_succ])
    refine wpAnyH_done (by kernel_rfl) ?_ _
    go_wp2
    go_ret
    rw [HV.out]
    exact ⟨rfl, U2.out⟩
end Go.Proofs.Ytolckkckheiceaa
