/- siskinref20.Open, Tasks; siskinref34; siskinref32.Outs; siskinref06.Same. -/
import Derived.Test.YteijgeofimcijaaHand4
import Derived.Deep.QuietTactic
import Derived.BigQuiet
namespace Go.Proofs.Yteijgeofimcijaa
open Go.RowKit

theorem rowBox (w : World) (E : EntryS) (EA EB ED : Option Addr) (ea eb ed : Nat) (V : World) (hV : V = w.alloc (.cells #[.int .i64 E.id, .int .i64 E.sched, .int .i64 E.epoch, .slice EA E.needs.length ea, .slice EB E.bound.length eb, .slice ED E.done.length ed] 74)) (hE : EAt w E EA EB ED ea eb ed) : Below w.heap.size w V ∧ BoxE V E EA EB ED ea eb ed w.heap.size := by
  have hb : Below w.heap.size w V := by rw [hV]; exact bAlloc (Below.refl _ _) _
  exact ⟨hb, boxE_of (by rw [hV]; exact heap_at rfl) (hE.below hb)⟩
set_option maxHeartbeats 4000000 in
set_option maxRecDepth 100000 in
theorem rtasks_calls (E : EntryS) (EA EB ED : Option Addr) (ea eb ed : Nat) (w : World) :
    Calls Try.prog 107 #[.agg #[.int .i64 E.id, .int .i64 E.sched, .int .i64 E.epoch, .slice EA E.needs.length ea, .slice EB E.bound.length eb, .slice ED E.done.length ed]] w fun e w' => e = .returned (.int .i64 (tasksN E : Nat)) ∧ Below w.heap.size w w' := by
  have HD := hid (show tasksN E = min (min E.needs.length E.bound.length) E.done.length from rfl)
  obtain ⟨n1, hn1⟩ : ∃ n1, n1 = E.needs.length := ⟨_, rfl⟩
  obtain ⟨n2, hn2⟩ : ∃ n2, n2 = E.bound.length := ⟨_, rfl⟩
  obtain ⟨n3, hn3⟩ : ∃ n3, n3 = E.done.length := ⟨_, rfl⟩
  rw [← hn1, ← hn2, ← hn3] at HD
  rw [← hn1, ← hn2, ← hn3]
  clear hn1 hn2 hn3
  by_cases h1 : n2 < n1
  · have h1I : (n2 : Int) < (n1 : Int) := by omega
    by_cases h2 : n3 < n2
    · have h2I : (n3 : Int) < (n2 : Int) := by omega
      go_enter Try.func107, Try.ntmps107
      go_wp2
      go_ret
      exact ⟨ret_int (by rw [HD.out]; omega), bAlloc (Below.refl _ _) _⟩
    · have h2I : ¬ (n3 : Int) < (n2 : Int) := by omega
      go_enter Try.func107, Try.ntmps107
      go_wp2
      go_ret
      exact ⟨ret_int (by rw [HD.out]; omega), bAlloc (Below.refl _ _) _⟩
  · have h1I : ¬ (n2 : Int) < (n1 : Int) := by omega
    by_cases h2 : n3 < n1
    · have h2I : (n3 : Int) < (n1 : Int) := by omega
      go_enter Try.func107, Try.ntmps107
      go_wp2
      go_ret
      exact ⟨ret_int (by rw [HD.out]; omega), bAlloc (Below.refl _ _) _⟩
    · have h2I : ¬ (n3 : Int) < (n1 : Int) := by omega
      go_enter Try.func107, Try.ntmps107
      go_wp2
      go_ret
      exact ⟨ret_int (by rw [HD.out]; omega), bAlloc (Below.refl _ _) _⟩
set_option maxHeartbeats 4000000 in
set_option maxRecDepth 100000 in
theorem ropen_calls (E : EntryS) (EA EB ED : Option Addr) (ea eb ed : Nat) (w : World) (hE : EAt w E EA EB ED ea eb ed) (hbl : E.bound.length ≤ 1000) :
    Calls Try.prog 59 #[.agg #[.int .i64 E.id, .int .i64 E.sched, .int .i64 E.epoch, .slice EA E.needs.length ea, .slice EB E.bound.length eb, .slice ED E.done.length ed]] w fun e w' => ∃ v, e = .returned v ∧ Own I64 3 w' w.heap.size NoT v (openL E) ∧ Below w.heap.size w w' := by
  obtain ⟨V, hV⟩ : ∃ V, V = w.alloc (.cells #[.int .i64 E.id, .int .i64 E.sched, .int .i64 E.epoch, .slice EA E.needs.length ea, .slice EB E.bound.length eb, .slice ED E.done.length ed] 74) := ⟨_, rfl⟩
  obtain ⟨hb0, hbx⟩ := rowBox w E EA EB ED ea eb ed V hV hE
  have HBV := hid hb0
  have HBX := hid hbx
  obtain ⟨⟨c0, c1, c2, c3, c4, c5⟩, _, _⟩ := hbx
  have HV := hid hV
  obtain ⟨n, hn⟩ : ∃ n, n = min E.needs.length E.bound.length := ⟨_, rfl⟩
  have HNN := hid hn
  have HRB := hid (K_row HBX.out.2.1.bound).1
  obtain ⟨n1, hn1⟩ : ∃ n1, n1 = E.needs.length := ⟨_, rfl⟩
  obtain ⟨n2, hn2⟩ : ∃ n2, n2 = E.bound.length := ⟨_, rfl⟩
  have H2 := hid hn2
  have hn' : n = min n1 n2 := by rw [hn1, hn2]; exact hn
  have hn2k : n2 ≤ 1000 := by omega
  have HNM := hid hn'
  have hle1 : n ≤ n1 := by omega
  have hle2 : n ≤ n2 := by omega
  have HCX := hid (fun (u : World) (hb : Below V.heap.size V u) => show (u.cell? ⟨w.heap.size, 3, none⟩ = some (.slice EA n1 ea) ∧ u.cell? ⟨w.heap.size, 4, none⟩ = some (.slice EB n2 eb)) from by
    obtain ⟨⟨_, _, _, d3, d4, _⟩, _, _⟩ := HBX.out.below hb
    rw [hn1, hn2]; exact ⟨d3, d4⟩)
  rw [← hn1] at c3 HV ⊢
  rw [← hn2] at c4 HV ⊢
  clear hV hE hb0 hn hn1 hn2 hn' hbl
  go_enter Try.func59, Try.ntmps59
  go_wp2
  rw [← HV.out]
  go_loopw [3, 4] (fun o i wr => ∃ k : Nat, k ≤ n ∧ i = .int .i64 k ∧ Hid (Own I64 3 wr V.heap.size NoT o (whereN (openB E) k)) ∧ Hid (Below V.heap.size V wr)) (fun _ i _ => n - (intOf i).toNat)
  case atStart => exact ⟨0, by omega, rfl, Own.nil _ _ _ _ _, Below.refl _ _⟩
  case round =>
    obtain ⟨k, hk, rfl, HO, HB⟩ := hrel
    obtain ⟨A3, n3, c3', rfl, hq1, hq2⟩ := HO.out.shape'
    obtain ⟨d3, d4⟩ := HCX.out wr HB.out
    clear hq1 hq2
    by_cases hlt : k < n
    · obtain ⟨a, x, rfl, hx, r0⟩ := (HRB.out.below HB.out).at_int k (by rw [← H2.out]; omega)
      have HX := hid (show openB E k = decide (x = 0) by unfold openB; rw [hx]; rfl)
      have i1 : (k : Int) < (n1 : Int) := by omega
      have i2 : (k : Int) < (n2 : Int) := by omega
      have hk0 : (0 : Int) ≤ (k : Int) := by omega
      have hln := whereN_len (openB E) k
      clear hx
      by_cases hx0 : x = 0
      · have hb : (x == 0) = true := by rw [beq_iff_eq]; exact hx0
        have HN := hid (show whereN (openB E) (k + 1) = whereN (openB E) k ++ [(k : Int)] by rw [whereN, if_pos (by rw [HX.out, decide_eq_true hx0])])
        clear hx0
        have hO := HO.out
        have hB := HB.out
        go_wp2_with (at_builtin; go_must (refine append_arm I64 (w0 := V) V.heap.size rfl _ _ 71 3 _ 8 rfl Try.underlying71 Try.infoInt rfl (by decide) (by decide) (.slice A3 n3 c3') (whereN (openB E) k) (k : Int) [.int .i64 k] NoT NoT rfl rfl rfl (fun _ h => h.elim) hO hB hB.size (by omega) ?_))
        intro v1 w2 hO1 hb1 _ _
        go_wp2
        go_roundw
        case rel => exact ⟨k + 1, by omega, by go_num, by rw [HN.out]; exact hO1, hb1⟩
        case measure => simp [intOf]; omega
      · have hb : (x == 0) = false := by rw [beq_eq_false_iff_ne]; exact hx0
        have HN := hid (show whereN (openB E) (k + 1) = whereN (openB E) k by rw [whereN, if_neg (by rw [HX.out, decide_eq_false hx0]; decide)])
        clear hx0
        go_wp2
        go_roundw
        case rel => exact ⟨k + 1, by omega, by go_num, by rw [HN.out]; exact HO.out, HB.out⟩
        case measure => simp [intOf]; omega
    · obtain rfl : k = n := by omega
      have HF := hid (show whereN (openB E) k = openL E by unfold openL; rw [← HNN.out])
      have hnm := HNM.out
      by_cases z1 : k < n1
      · have i1 : (k : Int) < (n1 : Int) := by omega
        have i2 : ¬ (k : Int) < (n2 : Int) := by omega
        clear hnm
        go_wp2
        go_ret
        exact ⟨_, rfl, by rw [← HF.out]; exact HO.out.lower HBV.out.size, bThen HBV.out HB.out⟩
      · have i1 : ¬ (k : Int) < (n1 : Int) := by omega
        clear hnm
        go_wp2
        go_ret
        exact ⟨_, rfl, by rw [← HF.out]; exact HO.out.lower HBV.out.size, bThen HBV.out HB.out⟩
set_option maxHeartbeats 4000000 in
set_option maxRecDepth 100000 in
theorem rleft_calls (E : EntryS) (EA EB ED : Option Addr) (ea eb ed : Nat) (had : List Bool) (hv : Value) (k : Nat) (w : World) (hE : EAt w E EA EB ED ea eb ed) (hh : Kd.bool.slice.K w Any had [hv]) (hk : k < tasksN E) :
    Calls Try.prog 108 #[.agg #[.int .i64 E.id, .int .i64 E.sched, .int .i64 E.epoch, .slice EA E.needs.length ea, .slice EB E.bound.length eb, .slice ED E.done.length ed], hv, .int .i64 k] w fun e w' => e = .returned (.bool (leftB E had k)) ∧ Below w.heap.size w w' := by
  obtain ⟨V, hV⟩ : ∃ V, V = w.alloc (.cells #[.int .i64 E.id, .int .i64 E.sched, .int .i64 E.epoch, .slice EA E.needs.length ea, .slice EB E.bound.length eb, .slice ED E.done.length ed] 74) := ⟨_, rfl⟩
  obtain ⟨hb0, hbx⟩ := rowBox w E EA EB ED ea eb ed V hV hE
  have HBV := hid hb0
  obtain ⟨⟨c0, c1, c2, c3, c4, c5⟩, cE, _⟩ := hbx
  have HV := hid hV
  obtain ⟨t1, t2, t3⟩ := tasks_lt hk
  obtain ⟨rb, _⟩ := K_row cE.bound
  obtain ⟨rd, _⟩ := K_row cE.done
  obtain ⟨a, x, rfl, hx, r0⟩ := rb.at_int k t2
  obtain ⟨a2, y, rfl, hy, r1⟩ := rd.at_bool k t3
  have hh1 := Kd.below hh hb0
  obtain ⟨Ah, ch, he, hch, _, _⟩ := hh
  injection he with he _
  subst he
  obtain ⟨rh, _⟩ := K_row hh1
  have HRH := hid rh
  have HF := hid (show leftB E had k = (decide (0 < x) && !y && !notedB had k) by unfold leftB; rw [hx, hy]; rfl)
  have i2 : (k : Int) < (E.bound.length : Int) := by omega
  have i3 : (k : Int) < (E.done.length : Int) := by omega
  have hk0 : (0 : Int) ≤ (k : Int) := by omega
  obtain ⟨n4, hn4⟩ : ∃ n4, n4 = had.length := ⟨_, rfl⟩
  have H4 := hid hn4
  rw [← hn4] at hch ⊢
  generalize E.bound.length = n2 at *
  generalize E.done.length = n3 at *
  generalize E.needs.length = n1 at *
  clear hx hy rb rd rh cE hE hh1 hb0 hn4 t1 hk HV
  subst hV
  by_cases hx0 : 0 < x
  case neg =>
    rw [decide_eq_false hx0] at HF
    go_enter Try.func108, Try.ntmps108
    go_wp2
    go_ret
    rw [HF.out]
    exact ⟨rfl, HBV.out⟩
  rw [decide_eq_true hx0] at HF
  cases y
  case true =>
    go_enter Try.func108, Try.ntmps108
    go_wp2
    go_ret
    rw [HF.out]
    exact ⟨rfl, HBV.out⟩
  by_cases hkn : k < n4
  · obtain ⟨ah, nb, rfl, hnb, rn⟩ := HRH.out.at_bool k (by rw [← H4.out]; exact hkn)
    have i4 : (k : Int) < (n4 : Int) := by omega
    have HNB := hid (show notedB had k = nb by unfold notedB; rw [hnb]; rfl)
    clear hnb
    cases nb
    all_goals
      go_enter Try.func108, Try.ntmps108
      go_wp2
      go_ret
      rw [HF.out, HNB.out]
      exact ⟨rfl, HBV.out⟩
  · have i4 : ¬ (k : Int) < (n4 : Int) := by omega
    have HNB := hid (show notedB had k = false by unfold notedB; rw [List.getElem?_eq_none (by rw [← H4.out]; omega)]; rfl)
    go_enter Try.func108, Try.ntmps108
    go_wp2
    go_ret
    rw [HF.out, HNB.out]
    exact ⟨rfl, HBV.out⟩
end Go.Proofs.Yteijgeofimcijaa
