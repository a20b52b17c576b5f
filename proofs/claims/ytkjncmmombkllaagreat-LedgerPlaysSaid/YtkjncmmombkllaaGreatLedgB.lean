import Derived.Test.YtkjncmmombkllaaGreatLedgA
import Derived.Test.YtkjncmmombkllaaGreatLaw17S
import Derived.Test.YtkjncmmombkllaaGreatLaw17B
import Derived.Test.YtkjncmmombkllaaGreatBase
/- A ledger's room, and its records: plain. -/
namespace Go.Proofs.YtkjncmmombkllaaGreat
open Go.RowKit Go.Lib

/-- As many bytes an entry's records have taken. -/
def usedE (E : EntryS) : Int := sizeR ⟨1, E.id, 0, 0, 0, 0, E.needs⟩ + (E.bound.countP (fun v => v != 0) : Nat) * sizeR ⟨2, E.id, 0, 0, 0, 1, []⟩ + (E.done.countP (fun v => v) : Nat) * sizeR ⟨3, E.id, 0, 0, 0, 0, []⟩ + (E.epoch - 1) * sizeR ⟨4, E.id, 0, 0, 0, 1, []⟩
def usedL : List EntryS → Int
  | [] => 0
  | E :: r => usedE E + usedL r
theorem usedL_snoc (b : List EntryS) (E : EntryS) : usedL (b ++ [E]) = usedL b + usedE E := by
  induction b with
  | nil => simp [usedL]
  | cons x r ih => simp only [List.cons_append, usedL, ih]; omega
theorem usedL_set : ∀ (b : List EntryS) (k : Nat) (E E' : EntryS), b[k]? = some E → usedL (b.set k E') = usedL b - usedE E + usedE E'
  | [], k, E, E', h => by simp at h
  | x :: r, 0, E, E', h => by
    obtain rfl : x = E := by simpa using h
    simp only [List.set_cons_zero, usedL]; omega
  | x :: r, k + 1, E, E', h => by
    have := usedL_set r k E E' (by simpa using h)
    simp only [List.set_cons_succ, usedL, this]; omega
theorem keptL_set : ∀ (b : List EntryS) (k : Nat) (E E' : EntryS), b[k]? = some E → mostR E'.id 0 E'.needs = mostR E.id 0 E.needs → keptL (b.set k E') = keptL b
  | [], k, E, E', h, _ => by simp at h
  | x :: r, 0, E, E', h, h2 => by
    obtain rfl : x = E := by simpa using h
    simp only [List.set_cons_zero, keptL, h2]
  | x :: r, k + 1, E, E', h, h2 => by
    simp only [List.set_cons_succ, keptL, keptL_set r k E E' (by simpa using h) h2]
/-- An entry of a record that may be. -/
structure EGood (E : EntryS) : Prop extends EOk E where
  acc : sizeR ⟨1, E.id, 0, 0, 0, 0, E.needs⟩ ≠ 0
theorem usedE_most {E : EntryS} (h : EGood E) : usedE E ≤ mostR E.id 0 E.needs := by
  unfold usedE mostR
  rw [if_neg h.acc]
  have s2 := sizeR_bound ⟨2, E.id, 0, 0, 0, 1, []⟩
  have s3 := sizeR_bound ⟨3, E.id, 0, 0, 0, 0, []⟩
  have s4 := sizeR_bound ⟨4, E.id, 0, 0, 0, 1, []⟩
  have c1 : E.bound.countP (fun v => v != 0) ≤ E.needs.length := by rw [← h.bl]; exact List.countP_le_length
  have c2 : E.done.countP (fun v => v) ≤ E.needs.length := by rw [← h.dl]; exact List.countP_le_length
  have c3 := h.ep
  generalize sizeR ⟨2, E.id, 0, 0, 0, 1, []⟩ = z2 at *
  generalize sizeR ⟨3, E.id, 0, 0, 0, 0, []⟩ = z3 at *
  generalize sizeR ⟨4, E.id, 0, 0, 0, 1, []⟩ = z4 at *
  have m1 : ((E.bound.countP (fun v => v != 0) : Nat) : Int) * z2 ≤ (E.needs.length : Int) * z2 := Int.mul_le_mul_of_nonneg_right (by omega) s2.1
  have m2 : ((E.done.countP (fun v => v) : Nat) : Int) * z3 ≤ (E.needs.length : Int) * z3 := Int.mul_le_mul_of_nonneg_right (by omega) s3.1
  have m3 : (E.epoch - 1) * z4 ≤ 8 * z4 := Int.mul_le_mul_of_nonneg_right (by omega) s4.1
  rw [Int.mul_add]
  omega
theorem usedL_kept : ∀ (b : List EntryS), (∀ E ∈ b, EGood E) → usedL b ≤ keptL b
  | [], _ => by simp [usedL, keptL]
  | E :: r, h => by
    have h1 := usedE_most (h E (by simp))
    have h2 := usedL_kept r (fun E hE => h E (by simp [hE]))
    simp only [usedL, keptL]
    omega
theorem recOk_zero {x : RecS} (h : recOk x = true) (hk : x.kind = 1) : x.task = 0 ∧ x.worker = 0 ∧ x.epoch = 0 := by
  obtain ⟨_, h2, h3, _, h5, _⟩ := recOk_parts h
  rw [hk] at h2 h3 h5
  have e1 : hasF 1 1 = false := by decide +kernel
  have e2 : hasF 1 2 = false := by decide +kernel
  have e3 : hasF 1 8 = false := by decide +kernel
  rw [e1] at h2
  rw [e2] at h3
  rw [e3] at h5
  exact ⟨of_decide_eq_true h2, of_decide_eq_true h3, of_decide_eq_true h5⟩
theorem recOk_sched {x : RecS} (h : recOk x = true) (hk : x.kind = 1) : recOk ⟨1, x.job, 0, 0, 0, 0, x.needs⟩ = true := by
  obtain ⟨hz1, hz2, hz3⟩ := recOk_zero h hk
  have h' := h
  unfold recOk at h'
  simp only [Bool.and_eq_true] at h'
  obtain ⟨⟨⟨⟨⟨⟨⟨h1, h2⟩, h3⟩, h4⟩, h5⟩, h6⟩, h7⟩, h8⟩ := h'
  rw [hk] at h7
  have e4 : inB (hasF 1 1) 0 0 15 = true := by decide +kernel
  have e5 : inB (hasF 1 2) 0 0 63 = true := by decide +kernel
  have e6 : inB (hasF 1 4) 0 0 7 = true := by decide +kernel
  have e7 : inB (hasF 1 8) 0 1 9 = true := by decide +kernel
  unfold recOk
  simp only [Bool.and_eq_true]
  exact ⟨⟨⟨⟨⟨⟨⟨by decide, h2⟩, e4⟩, e5⟩, e6⟩, e7⟩, h7⟩, h8⟩
theorem sizeR_sched {x : RecS} (h : recOk x = true) (hk : x.kind = 1) : sizeR ⟨1, x.job, 0, 0, 0, 0, x.needs⟩ = sizeR x := by
  have h0 := recOk_sched h hk
  obtain ⟨hz1, hz2, hz3⟩ := recOk_zero h hk
  obtain ⟨_, _, _, h4, _⟩ := recOk_parts h
  unfold sizeR
  rw [if_pos h0, if_pos h]
  rw [putL_same]
  unfold recL
  rw [if_pos h0, if_pos h]
  unfold recHead
  have o1 := optL_one h4 (by decide) (by decide)
  have e6 : inB (hasF 1 4) 0 0 7 = true := by decide +kernel
  have o2 := optL_one e6 (by decide) (by decide)
  rw [hk] at o1
  simp only [List.length_append, hk, hz1, hz2, hz3, o1, o2]
theorem sizeR_put {x : RecS} (h : recOk x = true) : sizeR x = (putL (recL x)).length := if_pos h
theorem sizeR_pos {x : RecS} (h : recOk x = true) : 4 ≤ sizeR x := by
  rw [sizeR_put h]
  have hl := recL_len (x := x)
  unfold putL
  rw [if_neg (by omega)]
  simp [sealL, textL, four]
  omega
/-- What holds of a ledger on a disk of its room, from its first record on. -/
structure RoomOk (D : DiskS) (l : List RecS) (b : List EntryS) (room : Int) : Prop where
  droom : D.room = room
  bytes : D.b = bytesS l
  recs : ∀ x ∈ l, recOk x = true
  fold : foldB l [] 0 = (b, l.length)
  used : (D.b.length : Int) = usedL b
  ents : ∀ E ∈ b, EGood E
  len : b.length ≤ 40
  kept : keptL b ≤ room
theorem RoomOk.book {D : DiskS} {l : List RecS} {b : List EntryS} {room : Int} (h : RoomOk D l b room) : BOk b := ⟨fun E hE => (h.ents E hE).toEOk, h.len⟩
theorem foldB_snoc : ∀ (l : List RecS) (b : List EntryS) (n : Nat) (x : RecS), (foldB l b n).2 = n + l.length → foldB (l ++ [x]) b n = if whyB (foldB l b n).1 x ≠ 0 then foldB l b n else (nextB (foldB l b n).1 x, n + l.length + 1)
  | [], b, n, x, _ => by
    rw [List.nil_append]
    by_cases h0 : whyB b x ≠ 0
    · show foldB [x] b n = if whyB b x ≠ 0 then (b, n) else (nextB b x, n + 0 + 1)
      rw [foldB, if_pos h0, if_pos h0]
    · show foldB [x] b n = if whyB b x ≠ 0 then (b, n) else (nextB b x, n + 0 + 1)
      rw [foldB, if_neg h0, if_neg h0]; rfl
  | y :: r, b, n, x, h => by
    rw [List.cons_append]
    rw [foldB] at h ⊢
    split at h
    · simp at h <;> omega
    · rename_i h0
      rw [if_neg h0]
      have h' : (foldB r (nextB b y) (n + 1)).2 = n + 1 + r.length := by rw [h]; simp; omega
      rw [foldB_snoc r _ _ x h']
      rw [foldB, if_neg h0]
      simp only [List.length_cons]
      congr 2
      omega
theorem findE_parts {b : List EntryS} {j : Int} {E : EntryS} (h : findE b j = some E) : ∃ k : Nat, placeE b j = k ∧ b[k]? = some E ∧ E.id = j := by
  unfold findE at h
  split at h
  · rename_i h0
    obtain ⟨k, E', h1, h2, h3, _⟩ := idxE_some h0
    have h1 : placeE b j = k := h1
    rw [h1, Int.toNat_natCast, h2] at h
    obtain rfl := Option.some.inj h
    exact ⟨k, h1, h2, by simpa using h3⟩
  · cases h
theorem usedE_done {E : EntryS} {x : RecS} (hE : EGood E) (hx : recOk x = true) (hj : E.id = x.job) (hk : x.kind ≠ 1) (h : whyE E x = 0) : usedE (doneE E x) = usedE E + sizeR x ∧ EGood (doneE E x) ∧ (doneE E x).id = E.id ∧ (doneE E x).needs = E.needs := by
  have hK := (recOk_parts hx).1
  have hjob : 1 ≤ x.job ∧ x.job ≤ 72057594037927935 := job_ok (x := x) (by have := sizeR_pos hx; omega)
  have hj' : decide (1 ≤ x.job ∧ x.job ≤ 72057594037927935) = true := decide_eq_true hjob
  have hok := doneE_ok hE.toEOk hx
  have hc : x.kind = 2 ∨ x.kind = 3 ∨ x.kind = 4 := by omega
  rcases hc with hk | hk | hk
  · have k2 : recOk ⟨2, x.job, 0, 0, 0, 1, []⟩ = true := by unfold recOk; simp only [hj', Bool.and_true]; decide +kernel
    have hs : sizeR x = sizeR ⟨2, E.id, 0, 0, 0, 1, []⟩ := by rw [hj]; exact sizeR_same hx k2 hk rfl (by rw [hk]; decide)
    have ht := recOk_task hx (.inl hk)
    have hd := doneE_bind (E := E) hk
    by_cases h8 : (tasksE E : Int) ≤ x.task
    · rw [whyE_task (by rw [hk]; decide) h8] at h; exact absurd h (by decide)
    rw [whyE_bind hk h8] at h
    split at h
    · exact absurd h (by decide)
    split at h
    · exact absurd h (by decide)
    rename_i _ h0
    have h0 : E.bound.getD x.task.toNat 0 = 0 := by simpa using h0
    have hlt : x.task.toNat < E.bound.length := by rw [hE.tasks] at h8; rw [hE.bl]; omega
    have hw := recOk_worker hx hk
    have hcnt := List.countP_set (p := fun v : Int => v != 0) (l := E.bound) (i := x.task.toNat) (a := x.worker + 1) hlt
    have hg : E.bound[x.task.toNat] = 0 := by
      rw [List.getD_eq_getElem?_getD, List.getElem?_eq_getElem hlt] at h0
      exact h0
    rw [hg] at hcnt
    have e1 : ((0 : Int) != 0) = false := by decide
    have e2 : (x.worker + 1 != 0) = true := by rw [bne_iff_ne]; omega
    simp only [e1, e2, if_true, Bool.false_eq_true, if_false, Nat.sub_zero] at hcnt
    refine ⟨?_, ⟨hok, by rw [hd]; exact hE.acc⟩, by rw [hd], by rw [hd]⟩
    rw [hd, hs]
    unfold usedE
    dsimp only
    rw [hcnt]
    generalize sizeR ⟨2, E.id, 0, 0, 0, 1, []⟩ = z
    push_cast
    rw [Int.add_mul]
    omega
  · have k3 : recOk ⟨3, x.job, 0, 0, 0, 0, []⟩ = true := by unfold recOk; simp only [hj', Bool.and_true]; decide +kernel
    have hs : sizeR x = sizeR ⟨3, E.id, 0, 0, 0, 0, []⟩ := by rw [hj]; exact sizeR_same hx k3 hk rfl (by rw [hk]; decide)
    have ht := recOk_task hx (.inr hk)
    have hd := doneE_end (E := E) hk
    by_cases h8 : (tasksE E : Int) ≤ x.task
    · rw [whyE_task (by rw [hk]; decide) h8] at h; exact absurd h (by decide)
    rw [whyE_end hk h8] at h
    split at h
    · exact absurd h (by decide)
    split at h
    · exact absurd h (by decide)
    rename_i _ h0
    have hlt : x.task.toNat < E.done.length := by rw [hE.tasks] at h8; rw [hE.dl]; omega
    have hcnt := List.countP_set (p := fun v : Bool => v) (l := E.done) (i := x.task.toNat) (a := true) hlt
    have hg : E.done[x.task.toNat] = false := by
      rw [List.getD_eq_getElem?_getD, List.getElem?_eq_getElem hlt] at h0
      simpa using h0
    rw [hg] at hcnt
    simp only [if_true, Bool.false_eq_true, if_false, Nat.sub_zero] at hcnt
    refine ⟨?_, ⟨hok, by rw [hd]; exact hE.acc⟩, by rw [hd], by rw [hd]⟩
    rw [hd, hs]
    unfold usedE
    dsimp only
    rw [hcnt]
    generalize sizeR ⟨3, E.id, 0, 0, 0, 0, []⟩ = z
    push_cast
    rw [Int.add_mul]
    omega
  · have k4 : recOk ⟨4, x.job, 0, 0, 0, 1, []⟩ = true := by unfold recOk; simp only [hj', Bool.and_true]; decide +kernel
    have hs : sizeR x = sizeR ⟨4, E.id, 0, 0, 0, 1, []⟩ := by rw [hj]; exact sizeR_same hx k4 hk rfl (by rw [hk]; decide)
    have hd := doneE_own (E := E) hk
    rw [whyE_own hk] at h
    split at h
    · rename_i he
      refine ⟨?_, ⟨hok, by rw [hd]; exact hE.acc⟩, by rw [hd], by rw [hd]⟩
      rw [hd, hs]
      unfold usedE
      dsimp only
      rw [he]
      generalize sizeR ⟨4, E.id, 0, 0, 0, 1, []⟩ = z
      rw [show E.epoch + 1 - 1 = (E.epoch - 1) + 1 by omega, Int.add_mul]
      omega
    · exact absurd h (by decide)
theorem putG_no {D : DiskS} {l : List RecS} {b : List EntryS} {room : Int} {x : RecS} (h : whyB b x ≠ 0) : putG D l false b room x = ⟨D, l, false, b, whyB b x⟩ := by
  unfold putG
  rw [if_neg Bool.false_ne_true, if_pos h]
/-- A record that the book takes: the book behind it. -/
theorem next_ok {D : DiskS} {l : List RecS} {b : List EntryS} {room : Int} (h : RoomOk D l b room) {x : RecS} (hy : whyB b x = 0) (hr : ¬ (x.kind = 1 ∧ room < keptL b + mostR x.job 0 x.needs)) :
    usedL (nextB b x) = usedL b + sizeR x ∧ (∀ E ∈ nextB b x, EGood E) ∧ (nextB b x).length ≤ 40 ∧ keptL (nextB b x) ≤ room := by
  have hx := whyB_rec hy
  have hbo := nextB_ok (x := x) h.book
  by_cases hk : x.kind = 1
  · have hn := nextB_accept hy hk
    have hs := sizeR_sched hx hk
    rw [hn] at hbo ⊢
    have hg : EGood (acceptR x) := ⟨acceptR_ok hx hk, by show sizeR ⟨1, x.job, 0, 0, 0, 0, x.needs⟩ ≠ 0; rw [hs]; have := sizeR_pos hx; omega⟩
    refine ⟨?_, fun E hE => ?_, hbo.2, ?_⟩
    · rw [usedL_snoc]
      have : usedE (acceptR x) = sizeR x := by
        unfold usedE acceptR
        dsimp only
        rw [hs]
        simp [List.countP_replicate]
      rw [this]
    · rcases List.mem_append.1 hE with hE | hE
      · exact h.ents E hE
      · rw [List.mem_singleton.1 hE]; exact hg
    · rw [keptL_snoc]
      show keptL b + mostR x.job 0 x.needs ≤ room
      have : ¬ room < keptL b + mostR x.job 0 x.needs := fun h2 => hr ⟨hk, h2⟩
      omega
  · cases hf : findE b x.job with
    | none => rw [whyB_none hx hk hf] at hy; exact absurd hy (by decide)
    | some E =>
      rw [whyB_some hx hk hf] at hy
      obtain ⟨k, hp, hb, hid⟩ := findE_parts hf
      have hE := h.ents E (findE_mem hf)
      obtain ⟨d1, d2, d3, d4⟩ := usedE_done hE hx hid hk hy
      have hn : nextB b x = b.set k (doneE E x) := by rw [nextB_some (by rw [whyB_some hx hk hf]; exact hy) hk hf, hp, Int.toNat_natCast]
      rw [hn]
      refine ⟨?_, fun E' hE' => ?_, by rw [List.length_set]; exact h.len, ?_⟩
      · rw [usedL_set b k E _ hb, d1]; omega
      · rcases List.mem_or_eq_of_mem_set hE' with h2 | h2
        · exact h.ents E' h2
        · rw [h2]; exact d2
      · rw [keptL_set b k E _ hb (by rw [d3, d4])]; exact h.kept
theorem room_fits {D : DiskS} {l : List RecS} {b : List EntryS} {room : Int} (h : RoomOk D l b room) {x : RecS} (hy : whyB b x = 0) (hr : ¬ (x.kind = 1 ∧ room < keptL b + mostR x.job 0 x.needs)) : ¬ ((putL (recL x)).length : Int) > D.room - D.b.length := by
  obtain ⟨n1, n2, n3, n4⟩ := next_ok h hy hr
  have h1 := usedL_kept _ n2
  have h2 := sizeR_put (whyB_rec hy)
  have h3 := h.used
  rw [h.droom]
  omega
theorem room_step {D : DiskS} {l : List RecS} {b : List EntryS} {room : Int} (h : RoomOk D l b room) (hf : D.fuse < 0) (x : RecS) :
    RoomOk (putG D l false b room x).D (putG D l false b room x).l (putG D l false b room x).b room ∧ (putG D l false b room x).down = false ∧ (putG D l false b room x).D.fuse = D.fuse ∧ ((putG D l false b room x).e = 7 → x.kind = 1) ∧ (putG D l false b room x).l.length ≤ l.length + 1 := by
  by_cases hy : whyB b x = 0
  case neg =>
    rw [putG_no hy]
    refine ⟨h, rfl, rfl, fun h7 => ?_, Nat.le_add_right _ _⟩
    have h7 : whyB b x = 7 := h7
    by_cases hk : x.kind = 1
    · exact hk
    · exfalso
      cases hx : recOk x
      · rw [whyB_check hx] at h7; exact absurd h7 (by decide)
      · cases hf : findE b x.job with
        | none => rw [whyB_none hx hk hf] at h7; exact absurd h7 (by decide)
        | some E =>
          rw [whyB_some hx hk hf] at h7
          unfold whyE at h7
          repeat' split at h7
          all_goals exact absurd h7 (by decide)
  by_cases hr : x.kind = 1 ∧ room < keptL b + mostR x.job 0 x.needs
  · have : putG D l false b room x = ⟨D, l, false, b, 7⟩ := by unfold putG; rw [if_neg Bool.false_ne_true, if_neg (fun h2 => h2 hy), if_pos hr]
    rw [this]
    exact ⟨h, rfl, rfl, fun _ => hr.1, Nat.le_add_right _ _⟩
  have hx := whyB_rec hy
  have hfit := room_fits h hy hr
  obtain ⟨n1, n2, n3, n4⟩ := next_ok h hy hr
  have ha : D.append (putL (recL x)) = (⟨D.b ++ putL (recL x), D.room, D.fuse⟩, 0) := by
    unfold DiskS.append
    rw [if_neg hfit, if_neg (by omega)]
  have hp : anApp D l false x = (⟨D.b ++ putL (recL x), D.room, D.fuse⟩, l ++ [x], false, 0) := by
    unfold anApp
    rw [if_pos hx, if_neg Bool.false_ne_true, ha]
    rfl
  have hG : putG D l false b room x = ⟨⟨D.b ++ putL (recL x), D.room, D.fuse⟩, l ++ [x], false, nextB b x, 0⟩ := by
    unfold putG
    rw [if_neg Bool.false_ne_true, if_neg (fun h2 => h2 hy), if_neg hr, hp]
    rfl
  rw [hG]
  refine ⟨⟨h.droom, ?_, fun y hm => ?_, ?_, ?_, n2, n3, n4⟩, rfl, rfl, fun h7 => absurd h7 (by show ¬ (0 : Int) = 7; decide), by simp⟩
  · show D.b ++ putL (recL x) = _
    rw [bytesS_snoc, if_pos hx, h.bytes]
  · rcases List.mem_append.1 hm with hm | hm
    · exact h.recs y hm
    · rw [List.mem_singleton.1 hm]; exact hx
  · rw [foldB_snoc l [] 0 x (by rw [h.fold]; simp), h.fold]
    dsimp only
    rw [if_neg (fun h2 => h2 hy)]
    simp
  · show ((D.b ++ putL (recL x)).length : Int) = _
    have h2 := sizeR_put hx
    have h3 := h.used
    rw [List.length_append, n1]
    omega
theorem room_start {room : Int} (h0 : 0 ≤ room) : RoomOk ⟨[], room, -1⟩ [] [] room :=
  ⟨rfl, rfl, fun x hx => by simp at hx, rfl, rfl, fun E hE => by simp at hE, by decide, by show keptL [] ≤ room; simpa [keptL] using h0⟩
end Go.Proofs.YtkjncmmombkllaaGreat
/- siskinlaw21.works. -/
namespace Go.Proofs.YtkjncmmombkllaaGreat
open Go.RowKit Go.Lib

def xW21 : RecS := ⟨1, 1, 0, 0, 0, 0, [⟨#[42]⟩]⟩
theorem w21a : (putG ⟨[], 500, -1⟩ [] false [] 0 xW21).e = 7 := by decide +kernel
theorem w21b : (putG ⟨[], 500, -1⟩ [] false [] 500 xW21).e = 0 := by decide +kernel
theorem w21c : keptL (putG ⟨[], 500, -1⟩ [] false [] 500 xW21).b = 101 := by decide +kernel
theorem putG_bok {D : DiskS} {l : List RecS} {down : Bool} {b : List EntryS} {room : Int} {x : RecS} (h : BOk b) : BOk (putG D l down b room x).b := by
  unfold putG
  split
  · exact h
  · split
    · exact h
    · split
      · exact h
      · dsimp only
        split
        · exact nextB_ok h
        · exact h
/-- A ledger on a fresh disk. -/
theorem lopen_fresh {w : World} {TD : Nat → Prop} {gd : Nat} {r0 : Int} (hd : DiskAt w TD gd ⟨[], r0, -1⟩) (room : Int) (h0 : 0 ≤ room) (h1 : room ≤ 65536) :
    Calls Tryz.prog 10 #[.pointer (some ⟨gd, 0, none⟩), .int .i64 room] w fun e w' => ∃ gl ga, e = .returned (.tuple #[.pointer (some ⟨gl, 0, none⟩), .int .i64 0]) ∧ LgAt w' (fun k => TD k ∨ w.heap.size ≤ k) gl ga gd ⟨[], r0, -1⟩ [] false [] room ∧ Mod TD w w' := by
  refine (lopen_calls hd room h0 h1 [] 0 recsS_nil).mono ?_
  rintro e w' (⟨h, _⟩ | ⟨_, gl, ga, h2, _, h3, h4⟩)
  · exact absurd h (by decide)
  · exact ⟨gl, ga, h2, h3, h4⟩
set_option maxHeartbeats 4000000 in
set_option maxRecDepth 100000 in
theorem works21_calls (w : World) : Calls Tryz.prog 7 #[] w fun e w' => e = .returned (.bool true) ∧ Below w.heap.size w w' := by
  go_enter Tryz.func7, Tryz.ntmps7
  go_wp2_with fail
  refine (diskNew_yes 500 _ (by decide) (by decide)).mono ?_
  rintro e w1 ⟨rfl, hd1, hb1⟩
  have HD1 := hid (hd1.mono (T' := fun k => w.heap.size ≤ k ∧ k < w1.heap.size) (fun k a b => ⟨b, a⟩))
  have HB1 := hid hb1
  clear hd1 hb1
  go_wp2_with fail
  refine (lopen_fresh HD1.out 0 (by decide) (by decide)).mono ?_
  rintro e w2 ⟨gl, ga, rfl, hl2, hm2⟩
  have HL2 := hid (hl2.mono (F' := fun k => w.heap.size ≤ k ∧ k < w2.heap.size) (fun k hk h => ⟨h.elim (fun h => h.1) (fun h => Nat.le_trans HB1.out.size h), hk⟩))
  have HB2 := hid (HB1.out.trans (hm2.below (fun k _ h => h.1) HB1.out.size))
  clear hl2 hm2
  go_wp2_with fail
  refine (diskNew_yes 500 _ (by decide) (by decide)).mono ?_
  rintro e w3 ⟨rfl, hd3, hb3⟩
  have HD3 := hid (hd3.mono (T' := fun k => w2.heap.size ≤ k ∧ k < w3.heap.size) (fun k a b => ⟨b, a⟩))
  have HB3 := hid hb3
  clear hd3 hb3
  go_wp2_with fail
  refine (lopen_fresh HD3.out 500 (by decide) (by decide)).mono ?_
  rintro e w4 ⟨gm, gb, rfl, hl4, hm4⟩
  have HM4 := hid (hl4.mono (F' := fun k => w2.heap.size ≤ k ∧ k < w4.heap.size) (fun k hk h => ⟨h.elim (fun h => h.1) (fun h => Nat.le_trans HB3.out.size h), hk⟩))
  have HB4 := hid (show Below w2.heap.size w2 w4 from HB3.out.trans (hm4.below (fun k _ h => h.1) HB3.out.size))
  have HL4 := hid (HL2.out.below HB4.out)
  have HBW := hid (bThen HB2.out HB4.out)
  clear hl4 hm4
  obtain ⟨W5, hW5⟩ : ∃ W, W = (w4.alloc (.cells #[.string ⟨#[42]⟩] 9)).alloc (.cells #[.int .i64 1, .int .i64 1, .int .i64 0, .int .i64 0, .int .i64 0, .int .i64 0, .slice (some ⟨w4.heap.size, 0, none⟩) 1 1] 46) := ⟨_, rfl⟩
  have hb5 : Below w4.heap.size w4 W5 := by rw [hW5]; exact bAlloc (bAlloc (Below.refl _ _) _) _
  have hz5 : W5.heap[w4.heap.size]? = some (.cells #[.string ⟨#[42]⟩] 9 (0, 0)) := by rw [hW5]; exact heap_old (by simp) (heap_at rfl)
  obtain ⟨p5, _, _⟩ := cells_of_block (show W5.heap[w4.heap.size + 1]? = some (.cells #[.int .i64 1, .int .i64 1, .int .i64 0, .int .i64 0, .int .i64 0, .int .i64 0, .slice (some ⟨w4.heap.size, 0, none⟩) 1 1] 46 (0, 0)) by rw [hW5]; exact heap_at (by simp))
  have hz6 : W5.heap[w4.heap.size + 1]? = some (.cells #[.int .i64 1, .int .i64 1, .int .i64 0, .int .i64 0, .int .i64 0, .int .i64 0, .slice (some ⟨w4.heap.size, 0, none⟩) 1 1] 46 (0, 0)) := by rw [hW5]; exact heap_at (by simp)
  have HZ6 := hid hz6
  have HS5 := hid (show W5.heap.size = w4.heap.size + 2 by rw [hW5]; simp)
  have HB5 := hid hb5
  have HK5 := hid (show Kd.str.slice.K W5 (fun k => k = w4.heap.size) xW21.needs [.slice (some ⟨w4.heap.size, 0, none⟩) xW21.needs.length 1] from K_of_block 1 1 rfl hz5 rfl (cells_flat (n := 1) (enc := fun x => [Value.string x]) [⟨#[42]⟩]) (Nat.le_refl _) (by decide))
  have x0 := p5 0 _ rfl
  have x1 := p5 1 _ rfl
  have x2 := p5 2 _ rfl
  have x3 := p5 3 _ rfl
  have x4 := p5 4 _ rfl
  have x5 := p5 5 _ rfl
  have x6 := p5 6 _ rfl
  have hEq := hW5.symm
  clear p5 hz5 hz6 hb5 hW5
  go_wp2_with fail
  have hst := lput_calls (HL4.out.below HB5.out) BOk.nil xW21 (some ⟨w4.heap.size, 0, none⟩) 1 (Kd.mono _ (fun k hk _ h => by have h2 := h.2; have : k = w4.heap.size := hk; have := HB4.out.size; omega) HK5.out) (by decide)
  rw [w21a] at hst
  refine hst.mono ?_
  clear hst
  rintro e w6 ⟨rfl, _, hm6⟩
  have HM6 := hid hm6
  have hs2 := HB2.out.size
  have hs4 := HB4.out.size
  have hs5 := HS5.out
  have HZ7 := hid ((hm6.block (w4.heap.size + 1) (by omega) (fun h => by have := h.2; omega)).trans HZ6.out)
  have HK6 := hid (Kd.str.slice.move (w1 := w6) (fun j (hj : j = w4.heap.size) hl => hm6.block j hl (fun h => by have := h.2; omega)) HK5.out)
  have HL6 := hid ((HM4.out.below HB5.out).move (w1 := w6) (fun k hk h => hm6.block k hk (fun h2 => by have := h.1; have := h2.2; omega)))
  obtain ⟨p5, _, _⟩ := cells_of_block HZ7.out
  clear x0 x1 x2 x3 x4 x5 x6 hm6 hEq
  have x0 := p5 0 _ rfl
  have x1 := p5 1 _ rfl
  have x2 := p5 2 _ rfl
  have x3 := p5 3 _ rfl
  have x4 := p5 4 _ rfl
  have x5 := p5 5 _ rfl
  have x6 := p5 6 _ rfl
  clear p5
  go_wp2_with fail
  have hst := lput_calls HL6.out BOk.nil xW21 (some ⟨w4.heap.size, 0, none⟩) 1 (Kd.mono _ (fun k hk _ h => by have h2 := h.2; have : k = w4.heap.size := hk; omega) HK6.out) (by decide)
  rw [w21b] at hst
  refine hst.mono ?_
  clear hst
  rintro e w7 ⟨rfl, hl7, hm7⟩
  have HL7 := hid hl7
  have HM7 := hid hm7
  clear hl7 hm7 x0 x1 x2 x3 x4 x5 x6
  go_wp2_with fail
  have hst := lkept_calls HL7.out (putG_bok BOk.nil)
  rw [w21c] at hst
  refine hst.mono ?_
  clear hst
  rintro e w8 ⟨rfl, hb8⟩
  have HB8 := hid (show Below w.heap.size w w8 from by
    have a1 := (bThen HBW.out HB5.out)
    have a2 := a1.trans (HM6.out.below (fun k _ h => h.1) a1.size)
    have a3 := a2.trans (HM7.out.below (B := w.heap.size) (fun k _ h => by have := h.1; omega) a2.size)
    exact bThen a3 hb8)
  clear hb8
  go_wp2
  go_ret
  exact ⟨rfl, HB8.out⟩
end Go.Proofs.YtkjncmmombkllaaGreat
