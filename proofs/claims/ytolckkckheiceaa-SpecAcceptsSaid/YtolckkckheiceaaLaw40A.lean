/- SpecAccepts: the law. -/
import Derived.Test.YtolckkckheiceaaEvent2
import Derived.Test.YtolckkckheiceaaLaw40
import Derived.Test.YtolckkckheiceaaBase
namespace Go.Proofs.Ytolckkckheiceaa
open Go.RowKit

def Ne7 (p : List WordS → List NodeS → Res) : Prop := ∀ ws out a e, p ws out = .bad a e → e ≠ 7
theorem loopP_ne7 {p : List WordS → List NodeS → Res} (hp : Ne7 p) (s : ByteArray) (op : Int) : ∀ n, Ne7 (loopP p s op n) := by
  intro n
  induction n with
  | zero => intro ws out a e h; cases h
  | succ n ih =>
    intro ws out a e h
    cases ws with
    | nil => cases h
    | cons x ws =>
      unfold loopP at h
      simp only at h
      split at h
      · split at h
        · exact ih _ _ _ _ h
        · rename_i a1 e1 h1
          injection h with h2 h3
          subst h2; subst h3
          exact hp _ _ _ _ h1
      · cases h
theorem manyP_ne7 {p : List WordS → List NodeS → Res} (hp : Ne7 p) (s : ByteArray) (op : Int) (n : Nat) : Ne7 (manyP p s op n) := by
  intro ws out a e h
  unfold manyP at h
  split at h
  · exact loopP_ne7 hp s op n _ _ _ _ h
  · rename_i a1 e1 h1
    injection h with h2 h3
    subst h2; subst h3
    exact hp _ _ _ _ h1
theorem anyP_ne7 {p : List WordS → List NodeS → Res} (hp : Ne7 p) (n : Nat) : Ne7 (anyP p n) := manyP_ne7 (manyP_ne7 hp _ _ _) _ _ _
theorem oneP_ne7 (tab : List ByteArray) (en : Int) : ∀ f, Ne7 (oneP tab en f) := by
  intro f
  induction f with
  | zero => intro ws out a e h; injection h with h1 h2; omega
  | succ f ih =>
    intro ws out a e h
    cases ws with
    | nil => injection h with h1 h2; omega
    | cons x ws =>
      unfold oneP at h
      simp only at h
      split at h
      · generalize hq : oneP tab en f ws out = q at h
        cases q with
        | ok r1 o1 => cases h
        | bad a1 e1 => injection h with h1 h2; subst h1; subst h2; exact ih _ _ _ _ hq
      · split at h
        · generalize hq : anyP (oneP tab en f) f ws out = q at h
          cases q with
          | bad a1 e1 => injection h with h1 h2; subst h1; subst h2; exact anyP_ne7 ih f _ _ _ _ hq
          | ok r1 o1 =>
            cases r1 with
            | nil => injection h with h1 h2; omega
            | cons y r1 =>
              unfold shutP at h
              simp only at h
              split at h
              · cases h
              · injection h with h1 h2; omega
        · split at h
          · cases h
          · split at h
            · injection h with h1 h2; omega
            · unfold nameP at h
              split at h
              · injection h with h1 h2; omega
              · cases h
theorem readR_ne7 {r : Res} (h : ∀ a e, r = .bad a e → e ≠ 7) : (readR r).2.1 ≠ 7 := by
  unfold readR
  split
  · exact h _ _ rfl
  · show (3 : Int) ≠ 7
    decide
  · show checkN _ ≠ 7
    unfold checkN
    split
    · decide
    · split
      · decide
      · split <;> decide
theorem lexGo_ne7 : ∀ (rs : List RuneS) (st : LexS), (lexGo rs st).2.2 ≠ 7
  | [], _ => by show (0 : Int) ≠ 7; decide
  | r :: rs, st => by
    unfold lexGo
    split
    · exact lexGo_ne7 rs _
    · show (3 : Int) ≠ 7
      decide
theorem needS_ne7 (tab : List ByteArray) (s : ByteArray) : (needS tab s).2.2 ≠ 7 := by
  unfold needS
  split
  · show (wordsS s).2.2 ≠ 7
    unfold wordsS
    split
    · show (4 : Int) ≠ 7
      decide
    · exact lexGo_ne7 _ _
  · dsimp only
    split
    · exact readR_ne7 (fun a e h => anyP_ne7 (oneP_ne7 tab _ _) _ _ _ _ _ h)
    · show (0 : Int) ≠ 7
      decide
theorem checkFrom_ne7 (tab : List ByteArray) (ws : List WorkerS) : ∀ (l : List ByteArray) (i : Int), (checkFrom tab ws l i).2.2 ≠ 7
  | [], _ => by show (0 : Int) ≠ 7; decide
  | s :: r, i => by
    unfold checkFrom
    split
    · exact needS_ne7 tab s
    · split
      · show (11 : Int) ≠ 7
        decide
      · exact checkFrom_ne7 tab ws r _
theorem checkJ_ne7 (tab : List ByteArray) (ws : List WorkerS) (id : Int) (ss : List ByteArray) : (checkJ tab ws id ss).2.2 ≠ 7 := by
  unfold checkJ
  split
  · show (1 : Int) ≠ 7
    decide
  · split
    · show (10 : Int) ≠ 7
      decide
    · split
      · show (4 : Int) ≠ 7
        decide
      · exact checkFrom_ne7 _ _ _ _
theorem okA_answer (C : ConfS) (b : List EntryS) (J : JobS) : ((answerS C b J = 0 ∨ answerS C b J = 7) → okA C [J] b J.id 0 0 = true) ∧ ((answerS C b J ≠ 0 ∧ answerS C b J ≠ 7) → okA C [J] b J.id 0 0 = false) := by
  have hf : findJ [J] J.id = some J := by unfold findJ; rw [List.find?_cons_of_pos (by simp)]
  have h1 : okA C [J] b J.id 0 0 = (!decide (0 ≤ placeE b J.id) && decide (ans1 C J = 0)) := by
    unfold okA
    rw [hf]
    show (!(findE b J.id).isSome && ((some J).isSome && (decide ((0 : Int) = 0) && (decide ((0 : Int) = 0) && decide (ans1 C J = 0))))) = _
    rw [findE_place]
    rfl
  have h7 : ans1 C J ≠ 7 := checkJ_ne7 _ _ _ _
  rw [h1]
  unfold answerS
  by_cases g1 : ans1 C J = 0
  · rw [if_neg (by simpa using g1), decide_eq_true g1]
    by_cases g2 : 0 ≤ placeE b J.id
    · have h2 : ans2 b J = 9 := by unfold ans2; rw [if_pos g2]
      rw [if_pos (by rw [h2]; decide), h2, decide_eq_true g2]
      simp
    · have h2 : ans2 b J = 0 := by unfold ans2; rw [if_neg g2]
      rw [if_neg (by rw [h2]; decide), decide_eq_false g2]
      refine ⟨fun _ => rfl, fun h => ?_⟩
      unfold ans3 at h
      split at h
      · exact absurd rfl h.2
      · exact absurd rfl h.1
  · rw [if_pos (by simpa using g1), decide_eq_false g1]
    refine ⟨fun h => ?_, fun _ => by simp⟩
    rcases h with h | h
    · exact absurd h g1
    · exact absurd h h7
set_option maxHeartbeats 4000000 in
set_option maxRecDepth 100000 in
theorem specAcceptsLaw (C : ConfS) (CA CB : Option Addr) (ca cb : Nat) (b : List EntryS) (v : Value) (J : JobS) (JA : Option Addr) (jc : Nat) (w : World) (hC : CAt w C CA CB ca cb) (hb : Kd.entry.slice.K w Any b [v]) (hj : Kd.str.slice.K w Any J.needs [.slice JA J.needs.length jc]) :
    Calls Try.prog 9 #[.agg #[.int .i64 C.scheds, .int .i64 C.lease, .int .i64 C.again, .int .i64 C.room, .int .i64 C.out, .slice CA C.names.length ca, .slice CB C.workers.length cb], v, .agg #[.int .i64 J.id, .slice JA J.needs.length jc]] w fun e w' => e = .returned (.bool true) ∧ Below w.heap.size w w' := by
  obtain ⟨V, hV⟩ : ∃ V, V = (w.alloc (.cells #[.int .i64 C.scheds, .int .i64 C.lease, .int .i64 C.again, .int .i64 C.room, .int .i64 C.out, .slice CA C.names.length ca, .slice CB C.workers.length cb] 25)).alloc (.cells #[.int .i64 J.id, .slice JA J.needs.length jc] 67) := ⟨_, rfl⟩
  have hb0 : Below w.heap.size w V := by rw [hV]; exact bAlloc (bAlloc (Below.refl _ _) _) _
  have hz1 : V.heap[w.heap.size]? = some (.cells #[.int .i64 C.scheds, .int .i64 C.lease, .int .i64 C.again, .int .i64 C.room, .int .i64 C.out, .slice CA C.names.length ca, .slice CB C.workers.length cb] 25 (0, 0)) := by rw [hV, Below.heap_alloc _ _ _ (by simp)]; exact heap_at rfl
  have hz3 : V.heap[w.heap.size + 1]? = some (.cells #[.int .i64 J.id, .slice JA J.needs.length jc] 67 (0, 0)) := by rw [hV]; exact heap_at (by simp)
  have HZ1 := hid hz1
  have HZ3 := hid hz3
  have HBV := hid hb0
  have HC := hid (hC.below hb0)
  have HBK := hid (Kd.below hb hb0)
  have HJN := hid (Kd.below hj hb0)
  have hEq := hV.symm
  obtain ⟨A, c, he, _, _, _⟩ := hb
  injection he with he _
  subst he
  obtain ⟨q, hq⟩ : ∃ q, q = b.length := ⟨_, rfl⟩
  rw [← hq] at HBK ⊢
  clear hV hC hj hb0 hz1 hz3 hq
  have HCB := hid (fun (u : World) (hb : Below V.heap.size V u) => conf_box HZ1.out u hb)
  have HJB := hid (fun (u : World) (h : Below V.heap.size V u) => (show u.cell? ⟨w.heap.size + 1, 0, none⟩ = some (.int .i64 J.id) ∧ u.cell? ⟨w.heap.size + 1, 1, none⟩ = some (.slice JA J.needs.length jc) from by
    obtain ⟨y0, _, _⟩ := cells_of_block ((h.block (w.heap.size + 1) (Array.getElem?_eq_some_iff.1 HZ3.out).1).trans HZ3.out)
    exact ⟨y0 0 _ rfl, y0 1 _ rfl⟩))
  obtain ⟨x0, x1, x2, x3, x4, x5, x6⟩ := HCB.out V (Below.refl _ _)
  go_enter Try.func9, Try.ntmps9
  go_wp2_with fail
  refine (rlong14_calls C CA CB ca cb _ HC.out.names).mono ?_
  rintro e w1 ⟨rfl, hb1⟩
  have HB1 := hid hb1
  have HLG := hid (show longC C = (longB C.names 40 100 || decide (80 < C.workers.length)) from rfl)
  obtain ⟨lg, hlg⟩ : ∃ lg, lg = longC C := ⟨_, rfl⟩
  rw [← hlg] at HLG ⊢
  clear hlg hb1 hEq x0 x1 x2 x3 x4 x5 x6
  cases lg
  case true =>
    go_wp2_with fail
    refine (works40_calls _).mono ?_
    rintro e w2 ⟨rfl, hb2⟩
    go_wp2
    go_ret
    exact ⟨rfl, bThen (bThen HBV.out HB1.out) hb2⟩
  have HWL := hid (show C.workers.length ≤ 1000 by
    have := HLG.out.symm
    rw [Bool.or_eq_false_iff] at this
    have := of_decide_eq_false this.2
    omega)
  go_wp2_with fail
  refine (rlong20_calls b _ w1 (Kd.below HBK.out HB1.out)).mono ?_
  rintro e w1' ⟨rfl, rfl⟩
  obtain ⟨le, hle⟩ : ∃ le, le = longEs b := ⟨_, rfl⟩
  have HLE := hid hle
  rw [← hle]
  clear hle
  cases le
  case true =>
    go_wp2_with fail
    refine (works40_calls _).mono ?_
    rintro e w2 ⟨rfl, hb2⟩
    go_wp2
    go_ret
    exact ⟨rfl, bThen (bThen HBV.out HB1.out) hb2⟩
  obtain ⟨j0, j1⟩ := HJB.out w1 HB1.out
  go_wp2_with fail
  refine (long_calls J.needs 20 300 _ w1 (Kd.below HJN.out HB1.out)).mono ?_
  rintro e w1' ⟨rfl, rfl⟩
  obtain ⟨lj, hlj⟩ : ∃ L, L = longB J.needs 20 300 := ⟨_, rfl⟩
  have HLJ := hid hlj
  rw [← hlj]
  clear hlj j0 j1
  cases lj
  case true =>
    go_wp2_with fail
    refine (works40_calls _).mono ?_
    rintro e w2 ⟨rfl, hb2⟩
    go_wp2
    go_ret
    exact ⟨rfl, bThen (bThen HBV.out HB1.out) hb2⟩
  have HO := hid (ansOk_small HLE.out.symm HLJ.out.symm)
  obtain ⟨x0, x1, x2, x3, x4, x5, x6⟩ := HCB.out w1 HB1.out
  obtain ⟨j0, j1⟩ := HJB.out w1 HB1.out
  obtain ⟨n, hn⟩ : ∃ n, n = J.needs.length := ⟨_, rfl⟩
  have HN := hid hn
  rw [← hn] at j1 ⊢
  obtain ⟨W1, hW1⟩ : ∃ W1, W1 = w1.alloc (.cells #[.int .i64 J.id, .slice JA n jc] 67) := ⟨_, rfl⟩
  have hb1 : Below w1.heap.size w1 W1 := by rw [hW1]; exact bAlloc (Below.refl _ _) _
  have HB2 := hid (bThen HB1.out hb1)
  have HKJ := hid (show Kd.job.slice.K W1 Any [J] [.slice (some ⟨w1.heap.size, 0, none⟩) 1 1] from by
    have he := job_of J (Kd.below HJN.out HB2.out)
    rw [← hn] at he
    exact K_of_block (d := Kd.job) 1 1 rfl (by rw [hW1]; exact heap_at rfl) trivial ⟨_, [], by simp, he, rfl⟩ (Nat.le_refl _) (show 1 ≤ 140737488355328 by decide))
  have hEq1 := hW1.symm
  have HFZ := hid (okA_answer C b J)
  obtain ⟨z, hz⟩ : ∃ z, z = answerS C b J := ⟨_, rfl⟩
  have HZ := hid hz
  rw [← hz] at HFZ
  have HJS := hid (show ∀ K ∈ [J], (∀ s ∈ K.needs, s.size ≤ 140737488351232) ∧ K.needs.length ≤ 1000 from fun K hK => by
    rw [List.mem_singleton.1 hK]
    exact ⟨fun s hs => by have := HO.out.sz s hs; omega, HO.out.nl⟩)
  obtain ⟨x0, x1, x2, x3, x4, x5, x6⟩ := HCB.out W1 HB2.out
  obtain ⟨i0, i1⟩ := HJB.out W1 HB2.out
  rw [← hn] at i1
  clear hb1 hW1 hn hz
  go_wp2_with fail
  refine (estepA_calls C CA CB ca cb [J] _ 1 1 b _ J.id 0 0 W1 (HC.out.below HB2.out) HKJ.out (Kd.below HBK.out HB2.out) HO.out.fit HO.out.bl HJS.out).mono ?_
  rintro e w2 ⟨o, rfl, hO, hb2⟩
  have HB3 := hid (bThen HB2.out hb2)
  obtain ⟨Ao, co, he, _, _, _⟩ := hO
  injection he with he _
  subst he
  obtain ⟨lo, hlo⟩ : ∃ lo, lo = (acceptS C [J] b J.id 0 0).length := ⟨_, rfl⟩
  obtain ⟨ok, hok⟩ : ∃ ok, ok = okA C [J] b J.id 0 0 := ⟨_, rfl⟩
  rw [← hok] at HFZ ⊢
  rw [← hlo]
  clear hb2 hlo hok x0 x1 x2 x3 x4 x5 x6 i0 i1 j0 j1 hEq1
  obtain ⟨x0, x1, x2, x3, x4, x5, x6⟩ := HCB.out w2 HB3.out
  obtain ⟨i0, i1⟩ := HJB.out w2 HB3.out
  go_wp2_with fail
  refine (answer_calls C CA CB ca cb b _ J JA jc w2 (HC.out.below HB3.out) (Kd.below HBK.out HB3.out) (Kd.below HJN.out HB3.out) HO.out).mono ?_
  rintro e w3 ⟨rfl, hb3⟩
  rw [← HZ.out]
  have HB4 := hid (bThen HB3.out hb3)
  clear hb3 x0 x1 x2 x3 x4 x5 x6 i0 i1
  by_cases h0 : z = 0
  · subst h0
    have hk : ok = true := HFZ.out.1 (.inl rfl)
    subst hk
    go_wp2_with fail
    refine (works40_calls _).mono ?_
    rintro e w4 ⟨rfl, hb4⟩
    go_wp2
    go_ret
    exact ⟨rfl, bThen (bThen HBV.out HB4.out) hb4⟩
  by_cases h7 : z = 7
  · subst h7
    have hk : ok = true := HFZ.out.1 (.inr rfl)
    subst hk
    go_wp2_with fail
    refine (works40_calls _).mono ?_
    rintro e w4 ⟨rfl, hb4⟩
    go_wp2
    go_ret
    exact ⟨rfl, bThen (bThen HBV.out HB4.out) hb4⟩
  have hk : ok = false := HFZ.out.2 ⟨h0, h7⟩
  subst hk
  have e0 : (z == 0) = false := by rw [beq_eq_false_iff_ne]; exact h0
  have e7 : (z == 7) = false := by rw [beq_eq_false_iff_ne]; exact h7
  go_wp2_with fail
  refine (works40_calls _).mono ?_
  rintro e w4 ⟨rfl, hb4⟩
  go_wp2
  go_ret
  exact ⟨rfl, bThen (bThen HBV.out HB4.out) hb4⟩
theorem specAccepts_walk (W : World) (C : ConfS) (cs : Array Value) (hC : Kd.conf.K W Any C cs.toList) (oC : okConf C) (b : List EntryS) (v : Value) (hb : Kd.entry.slice.K W Any b [v]) (_ob : (∀ y ∈ b, okEntry y) ∧ b.length * 96 ≤ 140737488351232) (J : JobS) (js : Array Value) (hJ : Kd.job.K W Any J js.toList) (_oJ : okStrs J.needs) :
    Calls Try.prog 9 #[.agg cs, v, .agg js] W fun e w' => e = .returned (.bool true) ∧ Below W.heap.size W w' := by
  obtain ⟨CA, ca, CB, cb, g0, g1, g2⟩ := conf_cells hC
  obtain ⟨JA, jc, h0, h1⟩ := job_cells hJ
  obtain rfl : cs = #[.int .i64 C.scheds, .int .i64 C.lease, .int .i64 C.again, .int .i64 C.room, .int .i64 C.out, .slice CA C.names.length ca, .slice CB C.workers.length cb] := by cases cs; simp_all
  obtain rfl : js = #[.int .i64 J.id, .slice JA J.needs.length jc] := by cases js; simp_all
  exact specAcceptsLaw C CA CB ca cb b v J JA jc W ⟨g1, g2, oC.2.1⟩ hb h1
end Go.Proofs.Ytolckkckheiceaa
