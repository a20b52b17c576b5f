/- siskinref20.Long; bound; the page's example of layer 34. -/
import Derived.Test.YteijgeofimcijaaHand4
import Derived.Test.YteijgeofimcijaaLongNo
namespace Go.Proofs.Yteijgeofimcijaa
open Go.RowKit

def longE (E : EntryS) : Bool := longB E.needs 30 300 || decide (30 < E.bound.length) || decide (30 < E.done.length)
def longEs (es : List EntryS) : Bool := es.any longE || decide (60 < es.length)
theorem Kd.Row.at_entry {w : World} {S : Nat → Prop} {A : Option Addr} {xs : List EntryS} (h : Kd.entry.Row w S A xs) (i : Nat) (hi : i < xs.length) :
    ∃ a E EA EB ED ea eb ed, A = some a ∧ xs[i]? = some E ∧ Kd.str.slice.K w S E.needs [.slice EA E.needs.length ea] ∧ I64.slice.K w S E.bound [.slice EB E.bound.length eb] ∧ Kd.bool.slice.K w S E.done [.slice ED E.done.length ed] ∧
      w.cell? (a.add (i * 6)) = some (.int .i64 E.id) ∧ w.cell? ⟨(a.add (i * 6)).block, (a.add (i * 6)).off + 1, none⟩ = some (.int .i64 E.sched) ∧ w.cell? ⟨(a.add (i * 6)).block, (a.add (i * 6)).off + 2, none⟩ = some (.int .i64 E.epoch) ∧ w.cell? ⟨(a.add (i * 6)).block, (a.add (i * 6)).off + 3, none⟩ = some (.slice EA E.needs.length ea) ∧ w.cell? ⟨(a.add (i * 6)).block, (a.add (i * 6)).off + 4, none⟩ = some (.slice EB E.bound.length eb) ∧ w.cell? ⟨(a.add (i * 6)).block, (a.add (i * 6)).off + 5, none⟩ = some (.slice ED E.done.length ed) := by
  obtain ⟨a, cs, h1, _, _, h4, h5⟩ := h i xs[i] (List.getElem?_eq_getElem hi)
  obtain ⟨EA, ea, EB, eb, ED, ed, rfl, k1, k2, k3⟩ := entry_cells h4
  have key : ∀ (j : Nat) (u : Value), 0 < j → ([.int .i64 xs[i].id, .int .i64 xs[i].sched, .int .i64 xs[i].epoch, .slice EA xs[i].needs.length ea, .slice EB xs[i].bound.length eb, .slice ED xs[i].done.length ed] : List Value)[j]? = some u → w.cell? ⟨(a.add (i * 6)).block, (a.add (i * 6)).off + j, none⟩ = some u := by
    intro j u hj hu
    have := h5 j u hu
    rwa [show i * Kd.entry.sz + j = i * 6 + j from rfl, ← Kd.add_add, Kd.add_lit (a.add (i * 6)) j hj] at this
  exact ⟨a, xs[i], EA, EB, ED, ea, eb, ed, h1, List.getElem?_eq_getElem hi, k1, k2, k3, h5 0 _ rfl, key 1 _ (by decide) rfl, key 2 _ (by decide) rfl, key 3 _ (by decide) rfl, key 4 _ (by decide) rfl, key 5 _ (by decide) rfl⟩
set_option maxHeartbeats 4000000 in
set_option maxRecDepth 100000 in
theorem rlong20_calls (es : List EntryS) (v : Value) (w : World) (hl : Kd.entry.slice.K w Any es [v]) :
    Calls Try.prog 55 #[v] w fun e w' => e = .returned (.bool (longEs es)) ∧ w = w' := by
  obtain ⟨A, c, he, hc, hm, hr⟩ := hl
  cases he
  have HR := hid hr
  obtain ⟨q, hq⟩ : ∃ q, es.length = q := ⟨_, rfl⟩
  have HQ := hid hq
  rw [hq] at hc hm ⊢
  clear hr hq
  go_enter Try.func55, Try.ntmps55
  go_wp2
  go_loop [3] (fun i => ∃ k : Nat, k ≤ q ∧ i = .int .i64 k ∧ Hid ((es.take k).any longE = false)) (fun i => q - (intOf i).toNat)
  case atStart => exact ⟨0, by omega, rfl, rfl⟩
  case round =>
    obtain ⟨k, hk, rfl, HN⟩ := hrel
    by_cases hlt : k < q
    · obtain ⟨a, E, EA, EB, ED, ea, eb, ed, rfl, hx, k1, k2, k3, r0, r1, r2, r3, r4, r5⟩ := HR.out.at_entry k (by rw [HQ.out]; exact hlt)
      have HX := hid hx
      have hltI : (k : Int) < (q : Int) := by omega
      have hk0 : (0 : Int) ≤ (k : Int) := by omega
      have HK := hid k1
      have HD := hid (show longE E = (longB E.needs 30 300 || decide (30 < E.bound.length) || decide (30 < E.done.length)) from rfl)
      have HSN := hid (show (es.take (k + 1)).any longE = longE E by rw [take_snoc HX.out, List.any_append, HN.out]; simp)
      have HYES := hid (fun h : longE E = true => show longEs es = true by unfold longEs; rw [Bool.or_eq_true]; left; exact List.any_eq_true.2 ⟨E, List.mem_of_getElem? HX.out, h⟩)
      obtain ⟨n1, hn1⟩ : ∃ n1, n1 = E.bound.length := ⟨_, rfl⟩
      obtain ⟨n2, hn2⟩ : ∃ n2, n2 = E.done.length := ⟨_, rfl⟩
      rw [← hn1] at r4 HD
      rw [← hn2] at r5 HD
      clear hx k1 k2 k3 r0 r1 r2 hn1 hn2
      go_wp2_with fail
      refine (long_calls E.needs 30 300 _ _ HK.out).mono ?_
      rintro e w1 ⟨rfl, rfl⟩
      cases hlb : longB E.needs 30 300
      case true =>
        have HF := hid (HYES.out (by rw [HD.out, hlb]; rfl))
        clear hlb
        go_wp2
        go_ret
        rw [HF.out]
        exact ⟨rfl, rfl⟩
      rw [hlb] at HD
      clear hlb
      by_cases h1 : 30 < n1
      · have h1I : (30 : Int) < (n1 : Int) := by omega
        have HF := hid (HYES.out (by rw [HD.out, decide_eq_true h1]; rfl))
        go_wp2
        go_ret
        rw [HF.out]
        exact ⟨rfl, rfl⟩
      have h1I : ¬ (30 : Int) < (n1 : Int) := by omega
      by_cases h2 : 30 < n2
      · have h2I : (30 : Int) < (n2 : Int) := by omega
        have HF := hid (HYES.out (by rw [HD.out, decide_eq_true h2, Bool.or_true]))
        go_wp2
        go_ret
        rw [HF.out]
        exact ⟨rfl, rfl⟩
      have h2I : ¬ (30 : Int) < (n2 : Int) := by omega
      have HN2 := hid (show (es.take (k + 1)).any longE = false by rw [HSN.out, HD.out, decide_eq_false h1, decide_eq_false h2]; rfl)
      go_wp2
      go_round
      case rel => exact ⟨k + 1, by omega, by go_num, HN2⟩
      case measure => simp [intOf]; omega
    · obtain rfl : k = q := by omega
      have e : es.take k = es := by rw [List.take_of_length_le]; rw [HQ.out]; exact Nat.le_refl _
      have HF := hid (show longEs es = decide (60 < k) by unfold longEs; rw [← e, HN.out, e, HQ.out]; rfl)
      clear e
      by_cases h60 : 60 < k
      · have hI : (60 : Int) < (k : Int) := by omega
        go_wp2
        go_ret
        exact ⟨ret_bool (by rw [HF.out]; simp [h60]), rfl⟩
      · have hI : ¬ (60 : Int) < (k : Int) := by omega
        go_wp2
        go_ret
        exact ⟨ret_bool (by rw [HF.out]; simp [h60]; try omega), rfl⟩
def boundB (E : EntryS) : Bool := E.bound.all (fun b => decide (0 ≤ b) && decide (b ≤ 64)) && !longEs [E]
theorem boundB_ok {E : EntryS} (h : boundB E = true) : BoundOk E ∧ E.needs.length ≤ 30 ∧ E.bound.length ≤ 30 ∧ E.done.length ≤ 30 ∧ ∀ s ∈ E.needs, s.size ≤ 300 := by
  unfold boundB at h
  rw [Bool.and_eq_true] at h
  obtain ⟨h1, h2⟩ := h
  have h3 : longE E = false := by
    cases hl : longE E with
    | false => rfl
    | true => simp [longEs, hl] at h2
  unfold longE at h3
  rw [Bool.or_eq_false_iff, Bool.or_eq_false_iff] at h3
  obtain ⟨⟨h4, h5⟩, h6⟩ := h3
  obtain ⟨h7, h8⟩ := long_no h4
  have h9 := of_decide_eq_false h5
  have h10 := of_decide_eq_false h6
  refine ⟨fun b hb => ?_, by omega, by omega, by omega, fun s hs => by have := h7 s hs; omega⟩
  have := List.all_eq_true.1 h1 b hb
  simpa using this
set_option maxHeartbeats 4000000 in
set_option maxRecDepth 100000 in
theorem bound_calls (E : EntryS) (EA EB ED : Option Addr) (ea eb ed : Nat) (w : World) (hE : EAt w E EA EB ED ea eb ed) :
    Calls Try.prog 42 #[.agg #[.int .i64 E.id, .int .i64 E.sched, .int .i64 E.epoch, .slice EA E.needs.length ea, .slice EB E.bound.length eb, .slice ED E.done.length ed]] w fun e w' => e = .returned (.bool (boundB E)) ∧ Below w.heap.size w w' := by
  obtain ⟨V, hV⟩ : ∃ V, V = w.alloc (.cells #[.int .i64 E.id, .int .i64 E.sched, .int .i64 E.epoch, .slice EA E.needs.length ea, .slice EB E.bound.length eb, .slice ED E.done.length ed] 74) := ⟨_, rfl⟩
  have hb0 : Below w.heap.size w V := by rw [hV]; exact bAlloc (Below.refl _ _) _
  have HBV := hid hb0
  have HBX := hid (boxE_of (b := w.heap.size) (by rw [hV]; exact heap_at rfl) (hE.below hb0))
  obtain ⟨⟨c0, c1, c2, c3, c4, c5⟩, _, _⟩ := HBX.out
  have HV := hid hV
  have HRB := hid (K_row HBX.out.2.1.bound).1
  obtain ⟨q, hq⟩ : ∃ q, q = E.bound.length := ⟨_, rfl⟩
  have HQ := hid hq
  have HDD := hid (show boundB E = (E.bound.all (fun b => decide (0 ≤ b) && decide (b ≤ 64)) && !longEs [E]) from rfl)
  have hqm : q ≤ 140737488355328 := by
    obtain ⟨_, _, _, _, h, _⟩ := HBX.out.2.1.bound
    rw [hq]; exact h
  clear hV hE hb0
  rw [← hq] at c4 HV ⊢
  clear hq
  go_enter Try.func42, Try.ntmps42
  go_wp2
  rw [← HV.out]
  go_loop [3] (fun i => ∃ k : Nat, k ≤ q ∧ i = .int .i64 k ∧ Hid (∀ (j : Nat) b, j < k → E.bound[j]? = some b → 0 ≤ b ∧ b ≤ 64)) (fun i => q - (intOf i).toNat)
  case atStart => exact ⟨0, by omega, rfl, fun j b h => by omega⟩
  case round =>
    obtain ⟨k, hk, rfl, HN⟩ := hrel
    by_cases hlt : k < q
    · obtain ⟨a, x, rfl, hx, r0⟩ := HRB.out.at_int k (by rw [← HQ.out]; exact hlt)
      have HX := hid hx
      have hltI : (k : Int) < (q : Int) := by omega
      have hk0 : (0 : Int) ≤ (k : Int) := by omega
      have HNO := hid (fun h : ¬ (0 ≤ x ∧ x ≤ 64) => show boundB E = false by
        rw [HDD.out, Bool.and_eq_false_iff]; left
        rw [List.all_eq_false]
        exact ⟨x, List.mem_of_getElem? HX.out, by simp; omega⟩)
      clear hx
      by_cases h0 : x < 0
      · have HF := hid (HNO.out (by omega))
        go_wp2
        go_ret
        rw [HF.out]
        exact ⟨rfl, HBV.out⟩
      · by_cases h64 : 64 < x
        · have HF := hid (HNO.out (by omega))
          go_wp2
          go_ret
          rw [HF.out]
          exact ⟨rfl, HBV.out⟩
        · have HN2 := hid (show ∀ (j : Nat) b, j < k + 1 → E.bound[j]? = some b → 0 ≤ b ∧ b ≤ 64 from fun j b hj hb => by
            rcases Nat.lt_or_ge j k with h | h
            · exact HN.out j b h hb
            · rw [show j = k by omega, HX.out] at hb
              rw [← Option.some.inj hb]; omega)
          go_wp2
          go_round
          case rel => exact ⟨k + 1, by omega, by go_num, HN2⟩
          case measure => simp [intOf]; omega
    · obtain rfl : k = q := by omega
      have HF := hid (show boundB E = !longEs [E] by
        rw [HDD.out]
        have : E.bound.all (fun b => decide (0 ≤ b) && decide (b ≤ 64)) = true := List.all_eq_true.2 (fun b hb => by
          obtain ⟨j, hj⟩ := List.getElem?_of_mem hb
          have := HN.out j b (by have := (List.getElem?_eq_some_iff.1 hj).1; rw [← HQ.out] at this; exact this) hj
          simp; omega)
        rw [this, Bool.true_and])
      have HNW := hid (show Kd.entry.slice.K (V.alloc (.cells #[.int .i64 E.id, .int .i64 E.sched, .int .i64 E.epoch, .slice EA E.needs.length ea, .slice EB k eb, .slice ED E.done.length ed] 74)) Any [E] [.slice (some ⟨V.heap.size, 0, none⟩) 1 1] from by
        have hbb := bAlloc (Below.refl V.heap.size V) (.cells #[.int .i64 E.id, .int .i64 E.sched, .int .i64 E.epoch, .slice EA E.needs.length ea, .slice EB k eb, .slice ED E.done.length ed] 74)
        have hEE := HBX.out.2.1.below hbb
        refine K_of_block (d := Kd.entry) 1 1 rfl (heap_alloc_new V _) trivial ⟨_, [], by simp; rfl, ?_, rfl⟩ (Nat.le_refl _) (show 1 ≤ 140737488355328 by decide)
        have := entry_of E hEE.needs hEE.bound hEE.done
        rw [← HQ.out] at this
        exact this)
      go_wp2_with fail
      refine (rlong20_calls [E] _ _ HNW.out).mono ?_
      rintro e w2 ⟨rfl, rfl⟩
      go_wp2
      go_ret
      rw [HF.out]
      exact ⟨rfl, bAlloc HBV.out _⟩
end Go.Proofs.Yteijgeofimcijaa
