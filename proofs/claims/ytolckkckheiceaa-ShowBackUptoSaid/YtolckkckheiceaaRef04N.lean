import Derived.Test.YtolckkckheiceaaRef04
namespace Go.Proofs.Ytolckkckheiceaa
open Go.RowKit

theorem runes_whole (s : ByteArray) : ∀ r ∈ runes s, letterB r.C = true → r.Whole = true := by
  have key : ∀ (n p : Nat), s.size - p ≤ n → ∀ r ∈ runesF s p, letterB r.C = true → r.Whole = true := by
    intro n
    induction n with
    | zero => intro p h r hr; rw [runesF_end (by omega)] at hr; simp at hr
    | succ n ih =>
      intro p h r hr hl
      by_cases hp : p < s.size
      · rw [runesF_cons hp] at hr
        have := (dec_w s p).1
        rcases List.mem_cons.1 hr with rfl | hr
        · exact letterB_whole hl
        · exact ih _ (by omega) r hr hl
      · rw [runesF_end hp] at hr; simp at hr
  exact key s.size 0 (by omega)

set_option maxHeartbeats 2000000 in
set_option maxRecDepth 100000 in
theorem rname_calls (s : ByteArray) (w : World) (hs : s.size * 24 ≤ 140737488351232) : Calls Try.prog 68 #[.string s] w fun e w' => e = .returned (.bool (nameB s)) ∧ Below w.heap.size w w' := by
  go_enter Try.func68, Try.ntmps68
  go_wp2_with fail
  refine (runes_calls s _ hs).mono ?_
  rintro e w1 ⟨v, rfl, hO, hb⟩
  obtain ⟨A, c, rfl, hn, hr⟩ := runes_own_at hO
  clear hO
  have HW := hid (runes_whole s)
  have HD := hid (show nameB s = ((runes s).all (fun r => letterB r.C) && headOk (runes s) && decide (1 ≤ (runes s).length) && decide ((runes s).length ≤ 16)) from rfl)
  generalize runes s = l at *
  go_wp2
  go_loop [4] (fun i => ∃ k : Nat, k ≤ l.length ∧ i = .int .i64 k ∧ (l.take k).all (fun r => letterB r.C) = true) (fun i => l.length - (intOf i).toNat)
  case atStart => exact ⟨0, by omega, rfl, by simp⟩
  case round =>
    obtain ⟨k, hk, rfl, hf⟩ := hrel
    have HF := hid hf
    clear hf
    by_cases hlt : k < l.length
    · obtain ⟨a, x, rfl, hx, hc1, hc2, hc3⟩ := hr.at_rune k hlt
      have HX := hid hx
      clear hx
      have hmem := List.mem_of_getElem? HX.out
      cases hl : letterB x.C
      · have HL := hid hl
        clear hl
        have hv := hid (show nameB s = false by
          rw [HD.out, show l.all (fun r => letterB r.C) = false by rw [List.all_eq_false]; exact ⟨x, hmem, by simp [HL.out]⟩]; simp)
        clear hmem
        cases hw : x.Whole
        · rw [hw] at hc3
          clear hw
          go_wp2
          go_ret
          exact ⟨ret_bool (by rw [hv.out]), hb⟩
        · rw [hw] at hc3
          clear hw
          go_wp2_with fail
          refine (rletter_calls x.C _).mono ?_
          rintro e w2 ⟨rfl, rfl⟩
          rw [HL.out]
          go_wp2
          go_ret
          exact ⟨ret_bool (by rw [hv.out]), hb⟩
      · have hw : x.Whole = true := HW.out x hmem hl
        rw [hw] at hc3
        have HL := hid hl
        clear hl hw hmem
        go_wp2_with fail
        refine (rletter_calls x.C _).mono ?_
        rintro e w2 ⟨rfl, rfl⟩
        rw [HL.out]
        go_wp2
        go_round
        case rel => exact ⟨k + 1, by omega, by go_num, by rw [take_snoc HX.out, List.all_append, HF.out]; simp [HL.out]⟩
        case measure => simp [intOf]; omega
    · have HV := hid (show nameB s = (headOk l && decide (1 ≤ l.length) && decide (l.length ≤ 16)) by have h1 := HF.out; rw [List.take_of_length_le (by omega)] at h1; rw [HD.out, h1]; simp)
      clear HD HF HW
      by_cases h0 : 0 < l.length
      · obtain ⟨a, x, rfl, hx, hc1, hc2, hc3⟩ := hr.at_rune 0 h0
        have hh := hid (show headOk l = decide (57 < x.C) by cases l with | nil => simp at h0 | cons y l => simp at hx; subst hx; rfl)
        clear hx
        simp [Addr.add] at hc2
        by_cases h1 : l.length ≤ 16
        · by_cases h2 : 57 < x.C
          · go_wp2
            go_ret
            exact ⟨ret_bool (by rw [HV.out, hh.out, Bool.eq_iff_iff]; simp; omega), hb⟩
          · go_wp2
            go_ret
            exact ⟨ret_bool (by rw [HV.out, hh.out, Bool.eq_iff_iff]; simp; omega), hb⟩
        · go_wp2
          go_ret
          exact ⟨ret_bool (by rw [HV.out, hh.out, Bool.eq_iff_iff]; simp; omega), hb⟩
      · go_wp2
        go_ret
        exact ⟨ret_bool (by rw [HV.out, Bool.eq_iff_iff]; simp; omega), hb⟩

end Go.Proofs.Ytolckkckheiceaa
