/- Events, plain: what runs, what an event comes to, what many come to; each task is launched once (the law EventOnce's plain side). -/
import Derived.Test.YtgedkcglkhleoaaGreatDoorEvent2
import Derived.Test.YtgedkcglkhleoaaGreatDoorBase
namespace Go.Proofs.YtgedkcglkhleoaaGreatDoor
open Go.RowKit

theorem admitN_has (l : List NodeS) (ws : List WorkerS) (k : Nat) : ∀ n, (admitN l ws n).testBit k = true → k < ws.length
  | 0, h => by simp [admitN] at h
  | n + 1, h => by
    unfold admitN at h
    split at h
    · rename_i x hx
      split at h
      · unfold withS at h
        rw [Nat.testBit_or, Nat.one_shiftLeft, Nat.testBit_two_pow, Bool.or_eq_true, decide_eq_true_eq] at h
        rcases h with h | h
        · exact admitN_has l ws k n h
        · rw [← h]; exact (List.getElem?_eq_some_iff.1 hx).1
      · exact admitN_has l ws k n h
    · exact admitN_has l ws k n h
/-- What a need's set has is a worker of the cluster. -/
theorem setS_has (tab : List ByteArray) (ws : List WorkerS) (s : ByteArray) (k : Int) (h : hasB (setS tab ws s) k = true) : 0 ≤ k ∧ k.toNat < ws.length := by
  unfold hasB at h
  rw [Bool.and_eq_true, decide_eq_true_eq] at h
  refine ⟨h.1.1, ?_⟩
  have h2 := h.2
  unfold setS at h2
  split at h2
  · rw [Nat.zero_testBit] at h2; cases h2
  · exact admitN_has _ _ _ _ h2

structure EvS where
  kind : Int
  job : Int
  task : Int
  worker : Int

/-! ### what runs -/
/-- Does task i of an entry run at worker k? -/
def runsT (E : EntryS) (k : Int) (i : Nat) : Bool := decide (0 < E.bound.getD i 0) && (decide (E.bound.getD i 0 - 1 = k) && !E.done.getD i false)
def runE (E : EntryS) (k : Int) (n : Nat) : Nat := (List.range n).countP (runsT E k)
def runB (b : List EntryS) (k : Int) : Nat := (b.map (fun E => runE E k (tasksE E))).sum
theorem runE_succ (E : EntryS) (k : Int) (n : Nat) : runE E k (n + 1) = runE E k n + (if runsT E k n then 1 else 0) := by
  unfold runE
  rw [List.range_succ, List.countP_append]
  simp [List.countP_cons]
theorem runE_le (E : EntryS) (k : Int) : ∀ n, runE E k n ≤ n
  | 0 => by simp [runE]
  | n + 1 => by rw [runE_succ]; have := runE_le E k n; split <;> omega
theorem runB_take {b : List EntryS} {i : Nat} {E : EntryS} (h : b[i]? = some E) (k : Int) : runB (b.take (i + 1)) k = runB (b.take i) k + runE E k (tasksE E) := by
  unfold runB
  rw [List.take_add_one, h]
  simp
theorem runB_all {b : List EntryS} (k : Int) : runB (b.take b.length) k = runB b k := by rw [List.take_length]
theorem runE_congr {E F : EntryS} {k : Int} : ∀ {n : Nat}, (∀ i, i < n → runsT E k i = runsT F k i) → runE E k n = runE F k n
  | 0, _ => rfl
  | n + 1, h => by rw [runE_succ, runE_succ, runE_congr (fun i hi => h i (by omega)), h n (by omega)]
theorem runE_up {E F : EntryS} {k : Int} {t : Nat} (ht0 : runsT E k t = false) (ht1 : runsT F k t = true) : ∀ {n : Nat}, t < n → (∀ i, i < n → i ≠ t → runsT E k i = runsT F k i) → runE F k n = runE E k n + 1
  | 0, h, _ => by omega
  | n + 1, h, hh => by
    rw [runE_succ, runE_succ]
    by_cases hn : t = n
    · subst hn
      rw [runE_congr (F := F) (E := E) (fun i hi => hh i (by omega) (by omega)), ht0, ht1]
      simp
    · rw [runE_up ht0 ht1 (n := n) (by omega) (fun i hi hne => hh i (by omega) hne), hh n (by omega) (fun e => hn e.symm)]
      omega
theorem runB_set {b : List EntryS} {E F : EntryS} (k : Int) : ∀ {i : Nat} , b[i]? = some E → runB (b.set i F) k + runE E k (tasksE E) = runB b k + runE F k (tasksE F) := by
  induction b with
  | nil => intro i h; simp at h
  | cons x b ih =>
    intro i h
    cases i with
    | zero =>
      simp at h
      subst h
      simp only [runB, List.set_cons_zero, List.map_cons, List.sum_cons]
      omega
    | succ i =>
      simp only [List.getElem?_cons_succ] at h
      have := ih h
      simp only [runB, List.set_cons_succ, List.map_cons, List.sum_cons] at this ⊢
      omega
theorem runB_append (b : List EntryS) (x : EntryS) (k : Int) : runB (b ++ [x]) k = runB b k + runE x k (tasksE x) := by simp [runB]

/-! ### an event -/
def mayLaunch (C : ConfS) (b : List EntryS) (E : EntryS) (t : Nat) (k : Int) : Bool := decide (E.bound.getD t 0 = 0) && (hasB (setS C.names C.workers (E.needs.getD t ByteArray.empty)) k && decide ((runB b k : Int) < (C.workers.getD k.toNat ⟨0, 0, 0⟩).slots))
def evStep (C : ConfS) (js : List JobS) (b : List EntryS) (e : EvS) : Option (List EntryS) :=
  if e.kind = 1 then (if okA C js b e.job e.task e.worker then some (b ++ [acceptE ((findJ js e.job).getD zeroJ)]) else none)
  else match findE b e.job with
    | none => none
    | some E =>
      if 0 ≤ e.task ∧ e.task < tasksE E then
        (if e.kind = 2 ∧ mayLaunch C b E e.task.toNat e.worker = true then some (b.set (placeE b e.job).toNat { E with bound := E.bound.set e.task.toNat (e.worker + 1) })
        else if e.kind = 3 ∧ runsT E e.worker e.task.toNat = true then some (b.set (placeE b e.job).toNat { E with done := E.done.set e.task.toNat true })
        else none)
      else none
/-- What the events come to, up to the first that may not happen. -/
def evRun (C : ConfS) (js : List JobS) : List EntryS → List EvS → List EntryS × Nat
  | b, [] => (b, 0)
  | b, e :: l => match evStep C js b e with
    | none => (b, 0)
    | some b' => ((evRun C js b' l).1, (evRun C js b' l).2 + 1)
/-- All of the first k events happen, and come to s. -/
def evTo (C : ConfS) (js : List JobS) (l : List EvS) (k : Nat) (s : List EntryS) : Prop := k ≤ l.length ∧ evRun C js [] (l.take k) = (s, k)
theorem evRun_append (C : ConfS) (js : List JobS) (r : List EvS) : ∀ (l : List EvS) (b s : List EntryS), evRun C js b l = (s, l.length) → evRun C js b (l ++ r) = ((evRun C js s r).1, l.length + (evRun C js s r).2)
  | [], b, s, h => by
    simp only [evRun, Prod.mk.injEq] at h
    rw [h.1]
    simp
  | e :: l, b, s, h => by
    simp only [List.cons_append, evRun] at h ⊢
    cases hx : evStep C js b e with
    | none => rw [hx] at h; simp at h
    | some b' =>
      rw [hx] at h
      simp only [List.length_cons, Prod.mk.injEq, Nat.add_right_cancel_iff] at h ⊢
      rw [evRun_append C js r l b' s (Prod.ext h.1 h.2)]
      exact ⟨rfl, by dsimp only; omega⟩
theorem evTo_zero (C : ConfS) (js : List JobS) (l : List EvS) : evTo C js l 0 [] := ⟨Nat.zero_le _, by simp [evRun]⟩
theorem evTo_step {C : ConfS} {js : List JobS} {l : List EvS} {k : Nat} {s s' : List EntryS} {e : EvS} (h : evTo C js l k s) (he : l[k]? = some e) (hs : evStep C js s e = some s') : evTo C js l (k + 1) s' := by
  obtain ⟨hk, hr⟩ := h
  have hlt := (List.getElem?_eq_some_iff.1 he).1
  refine ⟨hlt, ?_⟩
  have hl : (l.take k).length = k := by rw [List.length_take]; omega
  rw [List.take_add_one, he]
  show evRun C js [] (l.take k ++ [e]) = _
  rw [evRun_append C js [e] (l.take k) [] s (by rw [hr, hl])]
  simp [evRun, hs, hl]
theorem evTo_stop {C : ConfS} {js : List JobS} {l : List EvS} {k : Nat} {s : List EntryS} {e : EvS} (h : evTo C js l k s) (he : l[k]? = some e) (hs : evStep C js s e = none) : evRun C js [] l = (s, k) := by
  obtain ⟨hk, hr⟩ := h
  obtain ⟨hlt, rfl⟩ := List.getElem?_eq_some_iff.1 he
  have hl : (l.take k).length = k := by rw [List.length_take]; omega
  have hd : l = l.take k ++ l[k] :: l.drop (k + 1) := by rw [List.getElem_cons_drop, List.take_append_drop]
  have h2 := evRun_append C js (l[k] :: l.drop (k + 1)) (l.take k) [] s (by rw [hr, hl])
  rw [← hd] at h2
  rw [h2]
  simp [evRun, hs, hl]
theorem evTo_end {C : ConfS} {js : List JobS} {l : List EvS} {s : List EntryS} (h : evTo C js l l.length s) : evRun C js [] l = (s, l.length) := by
  have := h.2
  rwa [List.take_length] at this

/-! ### a book's entry by its number -/
theorem findE_find (b : List EntryS) (j : Int) : findE b j = b.find? (fun e => e.id == j) := by
  unfold findE placeE idxE
  rw [List.find?_eq_bind_findIdx?_getElem?]
  cases b.findIdx? (fun e => e.id == j) with
  | none => simp
  | some k => simp
theorem findE_set {b : List EntryS} {j : Int} {E F : EntryS} (h : findE b j = some E) (hi : F.id = E.id) (i : Int) : findE (b.set (placeE b j).toNat F) i = if i = j then some F else findE b i := by
  have hp : 0 ≤ placeE b j := by unfold findE at h; split at h; assumption; cases h
  obtain ⟨k, E', h1, h2, h3, h4⟩ := idxE_some hp
  clear h4
  have hE : E' = E := by
    unfold findE at h
    rw [if_pos hp] at h
    have h1' : placeE b j = k := h1
    rw [h1', Int.toNat_natCast, h2] at h
    exact Option.some.inj h
  subst hE
  have h1' : placeE b j = k := h1
  have hid : E'.id = j := by simpa using h3
  rw [h1', Int.toNat_natCast]
  have hfst : ∀ i' (hi' : i' < k) (hlt : i' < b.length), (b[i'].id == j) = false := by
    have : b.findIdx? (fun e => e.id == j) = some k := by
      unfold placeE idxE at h1'
      split at h1'
      · rename_i k' hk'; rw [hk']; congr 1; omega
      · omega
    obtain ⟨_, _, h5⟩ := List.findIdx?_eq_some_iff_getElem.1 this
    intro i' hi' hlt
    have := h5 i' hi'
    simpa using this
  clear h hp h1 h1' h3
  rw [findE_find, findE_find]
  induction b generalizing k with
  | nil => simp at h2
  | cons x b ih =>
    cases k with
    | zero =>
      simp at h2
      subst h2
      simp only [List.set_cons_zero, List.find?_cons, hi, hid]
      by_cases hij : i = j
      · subst hij; simp
      · have : (j == i) = false := by simpa using fun h => hij h.symm
        rw [this, if_neg hij]
    | succ k =>
      simp only [List.getElem?_cons_succ] at h2
      have hx := hfst 0 (by omega) (by simp)
      simp only [List.getElem_cons_zero] at hx
      simp only [List.set_cons_succ, List.find?_cons]
      by_cases hxi : x.id = i
      · have hij : ¬ i = j := fun h => by rw [hxi, h] at hx; simp at hx
        simp [hxi, hij]
      · have : (x.id == i) = false := by simpa using hxi
        rw [this]
        exact ih k h2 (fun i' hi' hlt => by have := hfst (i' + 1) (by omega) (by simp; omega); simpa using this)
theorem findE_add (b : List EntryS) (x : EntryS) (i : Int) : findE (b ++ [x]) i = (findE b i).or (if x.id = i then some x else none) := by
  rw [findE_find, findE_find, List.find?_append]
  congr 1
  simp only [List.find?_cons, List.find?_nil]
  by_cases h : x.id = i
  · simp [h]
  · have : (x.id == i) = false := by simpa using h
    rw [this, if_neg h]
theorem findE_at {b : List EntryS} {j : Int} {E : EntryS} (h : findE b j = some E) : b[(placeE b j).toNat]? = some E ∧ E.id = j := by
  have hp : 0 ≤ placeE b j := by unfold findE at h; split at h; assumption; cases h
  obtain ⟨k, E', h1, h2, h3, _⟩ := idxE_some hp
  unfold findE at h
  rw [if_pos hp] at h
  have h1' : placeE b j = k := h1
  rw [h1', Int.toNat_natCast] at h ⊢
  rw [h2] at h
  obtain rfl := Option.some.inj h
  exact ⟨h2, by simpa using h3⟩

/-! ### what has happened -/
def cntK (D : List EvS) (kd k : Int) : Nat := D.countP (fun e => decide (e.kind = kd) && decide (e.worker = k))
theorem cntK_add (D : List EvS) (e : EvS) (kd k : Int) : cntK (D ++ [e]) kd k = cntK D kd k + (if e.kind = kd ∧ e.worker = k then 1 else 0) := by
  unfold cntK
  rw [List.countP_append]
  simp [List.countP_cons]
structure Once (b : List EntryS) (D : List EvS) : Prop where
  shape : ∀ id E, findE b id = some E → E.bound.length = E.needs.length ∧ E.done.length = E.needs.length
  kinds : ∀ e ∈ D, e.kind = 1 ∨ e.kind = 2 ∨ e.kind = 3
  acc : ∀ e ∈ D, e.kind = 1 → (findE b e.job).isSome = true
  accIn : ∀ id E, findE b id = some E → (⟨1, id, 0, 0⟩ : EvS) ∈ D
  lau : ∀ e ∈ D, e.kind = 2 → ∃ E, findE b e.job = some E ∧ 0 ≤ e.task ∧ E.bound.getD e.task.toNat 0 ≠ 0
  lauIn : ∀ id E (t : Nat), findE b id = some E → t < E.needs.length → 0 < E.bound.getD t 0 → (⟨2, id, t, E.bound.getD t 0 - 1⟩ : EvS) ∈ D
  fin : ∀ e ∈ D, e.kind = 3 → ∃ E, findE b e.job = some E ∧ 0 ≤ e.task ∧ E.done.getD e.task.toNat false = true
  dn : ∀ id E (t : Nat), findE b id = some E → E.done.getD t false = true → E.bound.getD t 0 ≠ 0
  cnt : ∀ k, (runB b k : Int) = (cntK D 2 k : Int) - (cntK D 3 k : Int)
/-- What the statement asks of an event behind others. -/
structure OnceOk (C : ConfS) (D : List EvS) (e : EvS) : Prop where
  fresh : e ∉ D
  lau : e.kind = 2 → ∀ d ∈ D, d.kind = 2 → ¬ (d.job = e.job ∧ d.task = e.task)
  slot : e.kind = 2 → 0 ≤ e.worker ∧ e.worker < C.workers.length ∧ (cntK D 2 e.worker : Int) - (cntK D 3 e.worker : Int) < (C.workers.getD e.worker.toNat ⟨0, 0, 0⟩).slots
  ahead : e.kind = 3 → (⟨2, e.job, e.task, e.worker⟩ : EvS) ∈ D
  acc : 1 < e.kind → (⟨1, e.job, 0, 0⟩ : EvS) ∈ D
theorem once_nil : Once [] [] where
  shape := fun id E h => by simp [findE_find] at h
  kinds := fun e h => by simp at h
  acc := fun e h => by simp at h
  accIn := fun id E h => by simp [findE_find] at h
  lau := fun e h => by simp at h
  lauIn := fun id E t h => by simp [findE_find] at h
  fin := fun e h => by simp at h
  dn := fun id E t h => by simp [findE_find] at h
  cnt := fun k => by simp [runB, cntK]
theorem runsT_zero {E : EntryS} {k : Int} {i : Nat} (h : E.bound.getD i 0 = 0) : runsT E k i = false := by unfold runsT; rw [h]; simp
theorem getD_set {α} (l : List α) (t i : Nat) (v d : α) (ht : t < l.length) : (l.set t v).getD i d = if i = t then v else l.getD i d := by
  simp only [List.getD_eq_getElem?_getD]
  by_cases h : i = t
  · subst h; rw [List.getElem?_set_self ht]; simp
  · rw [List.getElem?_set_ne (fun e => h e.symm), if_neg h]
theorem getD_rep {α} (n i : Nat) (v : α) : (List.replicate n v).getD i v = v := by
  simp only [List.getD_eq_getElem?_getD]
  rw [List.getElem?_replicate]
  split <;> rfl

theorem once_accept {C : ConfS} {js : List JobS} {b : List EntryS} {D : List EvS} {e : EvS} (h : Once b D) (hk : e.kind = 1) (hok : okA C js b e.job e.task e.worker = true) : Once (b ++ [acceptE ((findJ js e.job).getD zeroJ)]) (D ++ [e]) ∧ OnceOk C D e := by
  unfold okA at hok
  simp only [Bool.and_eq_true, Bool.not_eq_true', decide_eq_true_eq] at hok
  obtain ⟨hn, hj, ht, hw, _⟩ := hok
  obtain ⟨J, hJ⟩ := Option.isSome_iff_exists.1 hj
  rw [hJ]
  simp only [Option.getD_some]
  have hid : J.id = e.job := by have := List.find?_some hJ; simpa using this
  have hnone : findE b e.job = none := by rwa [Option.isSome_eq_false_iff, Option.isNone_iff_eq_none] at hn
  obtain ⟨kd, jb, tk, wk⟩ := e
  dsimp only at hk ht hw hid hnone ⊢
  subst hk ht hw
  have hF : ∀ i, findE (b ++ [acceptE J]) i = if i = jb then some (acceptE J) else findE b i := fun i => by
    rw [findE_add]
    by_cases hi : i = jb
    · subst hi; rw [hnone, if_pos rfl]; simp [acceptE, hid]
    · rw [if_neg hi, if_neg (show ¬ (acceptE J).id = i from fun h => hi (by rw [← h]; exact hid))]; simp
  have hold : ∀ {i : Int} {E : EntryS}, findE b i = some E → findE (b ++ [acceptE J]) i = some E := fun {i E} hE => by
    rw [hF, if_neg (fun hi => by rw [hi, hnone] at hE; cases hE)]; exact hE
  refine ⟨⟨?_, ?_, ?_, ?_, ?_, ?_, ?_, ?_, ?_⟩, ⟨?_, ?_, ?_, ?_, ?_⟩⟩
  · intro id E hE
    rw [hF] at hE
    split at hE
    · obtain rfl := Option.some.inj hE; simp [acceptE]
    · exact h.shape id E hE
  · intro d hd
    rcases List.mem_append.1 hd with hd | hd
    · exact h.kinds d hd
    · simp at hd; subst hd; exact .inl rfl
  · intro d hd hk
    rcases List.mem_append.1 hd with hd | hd
    · have := h.acc d hd hk
      obtain ⟨E, hE⟩ := Option.isSome_iff_exists.1 this
      rw [hold hE]; rfl
    · simp at hd; subst hd; rw [hF, if_pos rfl]; rfl
  · intro id E hE
    rw [hF] at hE
    split at hE
    · rename_i hi; subst hi; simp
    · exact List.mem_append_left _ (h.accIn id E hE)
  · intro d hd hk
    rcases List.mem_append.1 hd with hd | hd
    · obtain ⟨E, h1, h2⟩ := h.lau d hd hk
      exact ⟨E, hold h1, h2⟩
    · simp at hd; subst hd; cases hk
  · intro id E t hE hlt hb
    rw [hF] at hE
    split at hE
    · obtain rfl := Option.some.inj hE
      simp only [acceptE, getD_rep] at hb
      omega
    · exact List.mem_append_left _ (h.lauIn id E t hE hlt hb)
  · intro d hd hk
    rcases List.mem_append.1 hd with hd | hd
    · obtain ⟨E, h1, h2⟩ := h.fin d hd hk
      exact ⟨E, hold h1, h2⟩
    · simp at hd; subst hd; cases hk
  · intro id E t hE hd
    rw [hF] at hE
    split at hE
    · obtain rfl := Option.some.inj hE
      simp only [acceptE, getD_rep] at hd
      cases hd
    · exact h.dn id E t hE hd
  · intro k
    rw [runB_append, cntK_add, cntK_add, show runE (acceptE J) k (tasksE (acceptE J)) = 0 from ?_]
    · have := h.cnt k
      simpa using this
    · have : ∀ n, runE (acceptE J) k n = 0 := fun n => by
        induction n with
        | zero => simp [runE]
        | succ n ih => rw [runE_succ, ih, runsT_zero (by simp only [acceptE, getD_rep])]; rfl
      exact this _
  · intro hd
    have := h.acc _ hd rfl
    dsimp only at this
    rw [hnone] at this
    cases this
  · intro hk; cases hk
  · intro hk; cases hk
  · intro hk; cases hk
  · intro hk; exact absurd hk (show ¬ (1 : Int) < 1 by decide)

theorem once_launch {C : ConfS} {b : List EntryS} {D : List EvS} {E : EntryS} {jb tk wk : Int} (h : Once b D) (hE : findE b jb = some E) (ht : 0 ≤ tk ∧ tk < tasksE E) (hok : mayLaunch C b E tk.toNat wk = true) :
    Once (b.set (placeE b jb).toNat { E with bound := E.bound.set tk.toNat (wk + 1) }) (D ++ [⟨2, jb, tk, wk⟩]) ∧ OnceOk C D ⟨2, jb, tk, wk⟩ := by
  unfold mayLaunch at hok
  simp only [Bool.and_eq_true, decide_eq_true_eq] at hok
  obtain ⟨h0, hh, hr⟩ := hok
  obtain ⟨hw0, hwl⟩ := setS_has _ _ _ _ hh
  obtain ⟨t, rfl⟩ := Int.eq_ofNat_of_zero_le ht.1
  simp only [Int.toNat_natCast] at h0 hr ⊢
  obtain ⟨hsb, hsd⟩ := h.shape jb E hE
  have htl : t < E.needs.length := by have := ht.2; unfold tasksE at this; omega
  have hF := findE_set hE (F := { E with bound := E.bound.set t (wk + 1) }) rfl
  have hg : ∀ i, (E.bound.set t (wk + 1)).getD i 0 = if i = t then wk + 1 else E.bound.getD i 0 := fun i => getD_set _ _ _ _ _ (by omega)
  have hdn : E.done.getD t false = false := by
    cases hx : E.done.getD t false with
    | false => rfl
    | true => exact absurd h0 (h.dn jb E t hE hx)
  have hold : ∀ {i : Int} {G : EntryS}, findE b i = some G → ∃ G', findE (b.set (placeE b jb).toNat { E with bound := E.bound.set t (wk + 1) }) i = some G' ∧ G'.done = G.done ∧ (∀ j, G.bound.getD j 0 ≠ 0 → G'.bound.getD j 0 ≠ 0) := fun {i G} hG => by
    by_cases hi : i = jb
    · subst hi
      rw [hE] at hG
      obtain rfl := Option.some.inj hG
      refine ⟨_, (hF i).trans (if_pos rfl), rfl, fun j hj => ?_⟩
      dsimp only
      rw [hg]
      split
      · omega
      · exact hj
    · exact ⟨G, by rw [hF, if_neg hi]; exact hG, rfl, fun j hj => hj⟩
  refine ⟨⟨?_, ?_, ?_, ?_, ?_, ?_, ?_, ?_, ?_⟩, ⟨?_, ?_, ?_, ?_, ?_⟩⟩
  · intro id G hG
    rw [hF] at hG
    split at hG
    · obtain rfl := Option.some.inj hG; simp only [List.length_set]; exact ⟨hsb, hsd⟩
    · exact h.shape id G hG
  · intro d hd
    rcases List.mem_append.1 hd with hd | hd
    · exact h.kinds d hd
    · simp at hd; subst hd; exact .inr (.inl rfl)
  · intro d hd hk
    rcases List.mem_append.1 hd with hd | hd
    · obtain ⟨G, hG⟩ := Option.isSome_iff_exists.1 (h.acc d hd hk)
      obtain ⟨G', hG', _⟩ := hold hG
      rw [hG']; rfl
    · simp at hd; subst hd; cases hk
  · intro id G hG
    rw [hF] at hG
    split at hG
    · rename_i hi; subst hi; exact List.mem_append_left _ (h.accIn id E hE)
    · exact List.mem_append_left _ (h.accIn id G hG)
  · intro d hd hk
    rcases List.mem_append.1 hd with hd | hd
    · obtain ⟨G, h1, h2, h3⟩ := h.lau d hd hk
      obtain ⟨G', h4, _, h5⟩ := hold h1
      exact ⟨G', h4, h2, h5 _ h3⟩
    · simp at hd; subst hd
      refine ⟨_, (hF jb).trans (if_pos rfl), ht.1, ?_⟩
      simp only [Int.toNat_natCast]
      rw [hg, if_pos rfl]
      omega
  · intro id G i hG hlt hb
    rw [hF] at hG
    split at hG
    · rename_i hi; subst hi
      obtain rfl := Option.some.inj hG
      dsimp only at hlt hb ⊢
      rw [hg] at hb ⊢
      split at hb
      · rename_i hit; subst hit
        rw [if_pos rfl]
        have : wk + 1 - 1 = wk := by omega
        rw [this]
        simp
      · rename_i hit
        rw [if_neg hit]
        exact List.mem_append_left _ (h.lauIn id E i hE hlt hb)
    · exact List.mem_append_left _ (h.lauIn id G i hG hlt hb)
  · intro d hd hk
    rcases List.mem_append.1 hd with hd | hd
    · obtain ⟨G, h1, h2, h3⟩ := h.fin d hd hk
      obtain ⟨G', h4, h5, _⟩ := hold h1
      exact ⟨G', h4, h2, by rw [h5]; exact h3⟩
    · simp at hd; subst hd; cases hk
  · intro id G i hG hd
    rw [hF] at hG
    split at hG
    · obtain rfl := Option.some.inj hG
      dsimp only at hd ⊢
      rw [hg]
      split
      · omega
      · exact h.dn jb E i hE hd
    · exact h.dn id G i hG hd
  · intro k
    have h1 := runB_set (F := { E with bound := E.bound.set t (wk + 1) }) k (findE_at hE).1
    have h2 := h.cnt k
    rw [cntK_add, cntK_add]
    have hT : tasksE { E with bound := E.bound.set t (wk + 1) } = tasksE E := by simp [tasksE]
    rw [hT] at h1
    have htn : t < tasksE E := by have := ht.2; omega
    have hoff : ∀ i, i < tasksE E → i ≠ t → runsT E k i = runsT { E with bound := E.bound.set t (wk + 1) } k i := fun i _ hne => by
      unfold runsT; dsimp only; rw [hg, if_neg hne]
    by_cases hkw : wk = k
    · subst hkw
      have h3 := runE_up (E := E) (F := { E with bound := E.bound.set t (wk + 1) }) (k := wk) (t := t) (runsT_zero h0) (by unfold runsT; dsimp only; rw [hg, if_pos rfl, hdn]; simp; omega) htn hoff
      simp
      omega
    · have h3 := runE_congr (E := E) (F := { E with bound := E.bound.set t (wk + 1) }) (k := k) (n := tasksE E) (fun i hi => by
        by_cases hit : i = t
        · subst hit
          rw [runsT_zero h0]
          unfold runsT
          dsimp only
          rw [hg, if_pos rfl]
          simp [hkw]
        · exact hoff i hi hit)
      simp [hkw]
      omega
  · intro hd
    obtain ⟨G, h1, _, h3⟩ := h.lau _ hd rfl
    dsimp only at h1 h3
    rw [hE] at h1
    obtain rfl := Option.some.inj h1
    exact h3 (by simpa using h0)
  · intro _ d hd hk hc
    obtain ⟨G, h1, _, h3⟩ := h.lau _ hd hk
    dsimp only at hc
    rw [hc.1, hE] at h1
    obtain rfl := Option.some.inj h1
    rw [hc.2] at h3
    exact h3 (by simpa using h0)
  · intro _
    dsimp only
    refine ⟨hw0, by omega, ?_⟩
    have := h.cnt wk
    omega
  · intro hk; cases hk
  · intro _; exact h.accIn jb E hE

theorem once_finish {C : ConfS} {b : List EntryS} {D : List EvS} {E : EntryS} {jb tk wk : Int} (h : Once b D) (hE : findE b jb = some E) (ht : 0 ≤ tk ∧ tk < tasksE E) (hok : runsT E wk tk.toNat = true) :
    Once (b.set (placeE b jb).toNat { E with done := E.done.set tk.toNat true }) (D ++ [⟨3, jb, tk, wk⟩]) ∧ OnceOk C D ⟨3, jb, tk, wk⟩ := by
  obtain ⟨t, rfl⟩ := Int.eq_ofNat_of_zero_le ht.1
  simp only [Int.toNat_natCast] at hok ⊢
  have hok' := hok
  unfold runsT at hok
  simp only [Bool.and_eq_true, decide_eq_true_eq, Bool.not_eq_true'] at hok
  obtain ⟨h0, hwk, hdn⟩ := hok
  obtain ⟨hsb, hsd⟩ := h.shape jb E hE
  have htl : t < E.needs.length := by have := ht.2; unfold tasksE at this; omega
  have hF := findE_set hE (F := { E with done := E.done.set t true }) rfl
  have hg : ∀ i, (E.done.set t true).getD i false = if i = t then true else E.done.getD i false := fun i => getD_set _ _ _ _ _ (by omega)
  have hold : ∀ {i : Int} {G : EntryS}, findE b i = some G → ∃ G', findE (b.set (placeE b jb).toNat { E with done := E.done.set t true }) i = some G' ∧ G'.bound = G.bound ∧ (∀ j, G.done.getD j false = true → G'.done.getD j false = true) := fun {i G} hG => by
    by_cases hi : i = jb
    · subst hi
      rw [hE] at hG
      obtain rfl := Option.some.inj hG
      refine ⟨_, (hF i).trans (if_pos rfl), rfl, fun j hj => ?_⟩
      dsimp only
      rw [hg]
      split
      · rfl
      · exact hj
    · exact ⟨G, by rw [hF, if_neg hi]; exact hG, rfl, fun j hj => hj⟩
  refine ⟨⟨?_, ?_, ?_, ?_, ?_, ?_, ?_, ?_, ?_⟩, ⟨?_, ?_, ?_, ?_, ?_⟩⟩
  · intro id G hG
    rw [hF] at hG
    split at hG
    · obtain rfl := Option.some.inj hG; simp only [List.length_set]; exact ⟨hsb, hsd⟩
    · exact h.shape id G hG
  · intro d hd
    rcases List.mem_append.1 hd with hd | hd
    · exact h.kinds d hd
    · simp at hd; subst hd; exact .inr (.inr rfl)
  · intro d hd hk
    rcases List.mem_append.1 hd with hd | hd
    · obtain ⟨G, hG⟩ := Option.isSome_iff_exists.1 (h.acc d hd hk)
      obtain ⟨G', hG', _⟩ := hold hG
      rw [hG']; rfl
    · simp at hd; subst hd; cases hk
  · intro id G hG
    rw [hF] at hG
    split at hG
    · rename_i hi; subst hi; exact List.mem_append_left _ (h.accIn id E hE)
    · exact List.mem_append_left _ (h.accIn id G hG)
  · intro d hd hk
    rcases List.mem_append.1 hd with hd | hd
    · obtain ⟨G, h1, h2, h3⟩ := h.lau d hd hk
      obtain ⟨G', h4, h5, _⟩ := hold h1
      exact ⟨G', h4, h2, by rw [h5]; exact h3⟩
    · simp at hd; subst hd; cases hk
  · intro id G i hG hlt hb
    rw [hF] at hG
    split at hG
    · rename_i hi; subst hi
      obtain rfl := Option.some.inj hG
      exact List.mem_append_left _ (h.lauIn id E i hE hlt hb)
    · exact List.mem_append_left _ (h.lauIn id G i hG hlt hb)
  · intro d hd hk
    rcases List.mem_append.1 hd with hd | hd
    · obtain ⟨G, h1, h2, h3⟩ := h.fin d hd hk
      obtain ⟨G', h4, _, h5⟩ := hold h1
      exact ⟨G', h4, h2, h5 _ h3⟩
    · simp at hd; subst hd
      refine ⟨_, (hF jb).trans (if_pos rfl), ht.1, ?_⟩
      simp only [Int.toNat_natCast]
      rw [hg, if_pos rfl]
  · intro id G i hG hd
    rw [hF] at hG
    split at hG
    · obtain rfl := Option.some.inj hG
      dsimp only at hd ⊢
      rw [hg] at hd
      split at hd
      · rename_i hit; subst hit; omega
      · exact h.dn jb E i hE hd
    · exact h.dn id G i hG hd
  · intro k
    have h1 := runB_set (F := { E with done := E.done.set t true }) k (findE_at hE).1
    have h2 := h.cnt k
    rw [cntK_add, cntK_add]
    have hT : tasksE { E with done := E.done.set t true } = tasksE E := by simp [tasksE]
    rw [hT] at h1
    have htn : t < tasksE E := by have := ht.2; omega
    have hoff : ∀ i, i < tasksE E → i ≠ t → runsT { E with done := E.done.set t true } k i = runsT E k i := fun i _ hne => by
      unfold runsT; dsimp only; rw [hg, if_neg hne]
    have hft : runsT { E with done := E.done.set t true } k t = false := by unfold runsT; dsimp only; rw [hg, if_pos rfl]; simp
    by_cases hkw : wk = k
    · subst hkw
      have h3 := runE_up (F := E) (E := { E with done := E.done.set t true }) (k := wk) (t := t) hft hok' htn hoff
      simp
      omega
    · have h3 := runE_congr (E := { E with done := E.done.set t true }) (F := E) (k := k) (n := tasksE E) (fun i hi => by
        by_cases hit : i = t
        · subst hit
          rw [hft]
          unfold runsT
          rw [hwk]
          simp [hkw]
        · exact hoff i hi hit)
      simp [hkw]
      omega
  · intro hd
    obtain ⟨G, h1, _, h3⟩ := h.fin _ hd rfl
    dsimp only at h1 h3
    rw [hE] at h1
    obtain rfl := Option.some.inj h1
    simp only [Int.toNat_natCast] at h3
    rw [hdn] at h3
    cases h3
  · intro hk; cases hk
  · intro hk; cases hk
  · intro _
    dsimp only
    have := h.lauIn jb E t hE htl h0
    rwa [hwk] at this
  · intro _; exact h.accIn jb E hE

/-- An event that may happen, behind all those that did. -/
theorem once_step {C : ConfS} {js : List JobS} {b b' : List EntryS} {D : List EvS} {e : EvS} (h : Once b D) (hs : evStep C js b e = some b') : Once b' (D ++ [e]) ∧ OnceOk C D e := by
  unfold evStep at hs
  split at hs
  · rename_i hk
    split at hs
    · rename_i hok
      obtain rfl := Option.some.inj hs
      exact once_accept h hk hok
    · cases hs
  · split at hs
    · cases hs
    · rename_i E hE
      split at hs
      · rename_i ht
        split at hs
        · rename_i hc
          obtain rfl := Option.some.inj hs
          obtain ⟨kd, jb, tk, wk⟩ := e
          obtain ⟨rfl, hc⟩ := hc
          exact once_launch h hE ht hc
        · split at hs
          · rename_i hc
            obtain rfl := Option.some.inj hs
            obtain ⟨kd, jb, tk, wk⟩ := e
            obtain ⟨rfl, hc⟩ := hc
            exact once_finish h hE ht hc
          · cases hs
      · cases hs
end Go.Proofs.YtgedkcglkhleoaaGreatDoor
