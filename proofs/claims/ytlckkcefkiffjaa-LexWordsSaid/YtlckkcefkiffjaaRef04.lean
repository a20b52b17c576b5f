import Derived.Test.YtlckkcefkiffjaaProg
import Derived.Test.YtlckkcefkiffjaaSize04
namespace Go.Proofs.Ytlckkcefkiffjaa
open Go.RowKit

theorem two_ints {a b c d : Int} (h1 : a = c) (h2 : b = d) : Ending.returned (.tuple #[.int .i64 a, .int .i64 b]) = Ending.returned (.tuple #[.int .i64 c, .int .i64 d]) := by rw [h1, h2]

set_option maxHeartbeats 1000000 in
set_option maxRecDepth 100000 in
theorem rfirst_calls (s : ByteArray) (w : World) (hs : 0 < s.size) :
    Calls Try.prog 75 #[.string s] w fun e w' => e = .returned (.tuple #[.int .i64 ((Utf8.decode s 0).1 : Int), .int .i64 ((Utf8.decode s 0).2 : Int)]) ∧ ∃ n, w' = w.drewN n := by
  have hb := bN_at s
  have hl := bN_lt s 0
  rcases dec_any s 0 with h | h | h | h | ⟨h1, h2, h3, h4⟩
  · have hv := szR_1 h
    have hd := hid (dec_low h)
    go_enter Try.func75, Try.ntmps75
    go_wp2_with fail
    refine (rsize_calls s _ hs).mono ?_
    rintro e w1 ⟨rfl, rfl⟩
    rw [hv]
    clear hv
    go_wp2
    go_ret2
    rw [hd.out]
    exact ⟨rfl, 0, rfl⟩
  · have hv := szR_2 h
    have hd := hid (dec_2 h)
    obtain ⟨a1, a2, a3, a4, a5⟩ := h
    simp only [Nat.zero_add] at hd a3 a4 a5
    go_enter Try.func75, Try.ntmps75
    go_wp2_with fail
    refine (rsize_calls s _ hs).mono ?_
    rintro e w1 ⟨rfl, rfl⟩
    rw [hv]
    clear hv
    go_wp2
    go_ret2
    rw [hd.out]
    exact ⟨two_ints (by omega) rfl, 0, rfl⟩
  · have hv := szR_3 h
    have hd := hid (dec_3 h)
    obtain ⟨a1, a2, a3, a4, a5, a6, a7, _, _⟩ := h
    simp only [Nat.zero_add] at hd a3 a4 a5 a6 a7
    have a8 : 1 < s.size := by omega
    go_enter Try.func75, Try.ntmps75
    go_wp2_with fail
    refine (rsize_calls s _ hs).mono ?_
    rintro e w1 ⟨rfl, rfl⟩
    rw [hv]
    clear hv
    go_wp2
    go_quiet (fail)
    go_wp2
    go_ret2
    rw [hd.out]
    exact ⟨two_ints (by omega) rfl, _, rfl⟩
  · have hv := szR_4 h
    have hd := hid (dec_4 h)
    obtain ⟨a1, a2, a3, a4, a5, a6, a7, a8, a9, _, _⟩ := h
    simp only [Nat.zero_add] at hd a3 a4 a5 a6 a7 a8 a9
    have b8 : 1 < s.size := by omega
    have b9 : 2 < s.size := by omega
    go_enter Try.func75, Try.ntmps75
    go_wp2_with fail
    refine (rsize_calls s _ hs).mono ?_
    rintro e w1 ⟨rfl, rfl⟩
    rw [hv]
    clear hv
    go_wp2
    go_quiet (fail)
    go_wp2
    go_ret2
    rw [hd.out]
    exact ⟨two_ints (by omega) rfl, _, rfl⟩
  · have hv := szR_bad h1 h2 h3 h4
    have hd := hid (dec_bad h1 h2 h3 h4)
    go_enter Try.func75, Try.ntmps75
    go_wp2_with fail
    refine (rsize_calls s _ hs).mono ?_
    rintro e w1 ⟨rfl, rfl⟩
    rw [hv]
    clear hv
    go_wp2
    go_ret2
    rw [hd.out]
    exact ⟨rfl, 0, rfl⟩

def Kd.rune : Kd RuneS := Kd.flat 3 (fun x => [.int .i64 x.At, .int .i64 x.C, .bool x.Whole]) (fun _ => rfl) (fun x u hu => by simp at hu; rcases hu with rfl | rfl | rfl <;> rfl)

theorem Try.infoRune : (Try.prog.info? 55).map (fun i => (i.zero, i.size, i.bytes)) = some (some (.agg #[.int .i64 0, .int .i64 0, .bool false]), 3, 24) := by kernel_rfl

set_option maxHeartbeats 1000000 in
set_option maxRecDepth 100000 in
theorem runes_calls (s : ByteArray) (w : World) (hs : s.size * 24 ≤ 140737488351232) :
    Calls Try.prog 34 #[.string s] w fun e w' => ∃ v, e = .returned v ∧ Own Kd.rune 55 w' w.heap.size (fun _ => False) v (runes s) ∧ Below w.heap.size w w' := by
  go_enter Try.func34, Try.ntmps34
  go_wp2
  go_loopw [3, 4] (fun v i wr => ∃ (p : Nat) (l : List RuneS), i = .int .i64 p ∧ Mid s l p ∧ Own Kd.rune 55 wr w.heap.size (fun _ => False) v l ∧ Below w.heap.size w wr) (fun _ i _ => s.size - (intOf i).toNat)
  case atStart => exact ⟨0, [], rfl, Mid.start s, Own.nil _ _ _ _ _, Below.refl _ _⟩
  case round =>
    obtain ⟨p, l, rfl, hm, hO, hb⟩ := hrel
    by_cases hlt : p < s.size
    · have hlen := hm.len_lt hlt
      have hp := hm.1
      have HM := hid (hm.step hlt)
      have hwd := dec_w s p
      have hend := dec_end s p hlt
      have hz := tail_size s p
      have HD := hid (dec_tail s p)
      have HZ := hid (szR_tail s p)
      clear hm
      go_wp2_with fail
      refine (rfirst_calls (tail s p) _ (by omega)).mono ?_
      rintro e w1 ⟨rfl, n1, rfl⟩
      rw [HD.out]
      go_wp2_with fail
      refine (rsize_calls (tail s p) _ (by omega)).mono ?_
      rintro e w1 ⟨rfl, rfl⟩
      rw [HZ.out]
      generalize hz2 : szR s p = z at *
      generalize hd : Utf8.decode s p = dd at *
      have hO1 := hO.drewN n1
      have hb1 := below_drewN hb n1
      clear hO hb
      go_wp2_with (at_builtin; go_must (refine append_arm Kd.rune w.heap.size rfl _ _ 49 55 _ 24 rfl Try.underlying49 Try.infoRune rfl (by decide) (by decide) u3 l (runeAt s p) _ (fun _ => False) (fun _ => False) rfl rfl ?hp (fun _ h => h.elim) hO1 hb1 hb1.size (by omega) ?_))
      case hp => show _ = _; simp [runeAt, hd, hz2]
      intro v1 w1 hO2 hb2 _ _
      clear hO1 hb1
      go_wp2
      go_roundw
      case rel => exact ⟨p + dd.2, _, by go_num, HM.out, hO2, hb2⟩
      case measure => simp [intOf]; omega
    · have HE := hid (hm.done hlt)
      clear hm
      go_wp2
      go_ret
      exact ⟨_, rfl, by rw [HE.out]; exact hO, hb⟩

/-! ### Letter, Name, Whole, Fold -/
set_option maxHeartbeats 1000000 in
set_option maxRecDepth 100000 in
theorem rletter_calls (c : Int) (w : World) : Calls Try.prog 24 #[.int .i64 c] w fun e w' => e = .returned (.bool (letterB c)) ∧ w = w' := by
  go_enter Try.func24, Try.ntmps24
  go_wp2
  all_goals (go_ret; exact ⟨ret_bool (by rw [Bool.eq_iff_iff]; simp [letterB]; try omega), rfl⟩)

theorem runes_own_at {w : World} {base : Nat} {v : Value} {l : List RuneS} (h : Own Kd.rune 55 w base (fun _ => False) v l) :
    ∃ A c, v = .slice A l.length c ∧ l.length ≤ 140737488355328 ∧ Kd.rune.Row w Any A l := by
  obtain ⟨A, c, he, hc, hn, hr⟩ := Kd.any h.K
  cases he
  exact ⟨A, c, rfl, hn, hr⟩
/-- A rune of a row, its cells as the walk asks for them. -/
theorem Kd.Row.at_rune {w : World} {S : Nat → Prop} {A : Option Addr} {xs : List RuneS} (h : Kd.rune.Row w S A xs) (i : Nat) (hi : i < xs.length) :
    ∃ a x, A = some a ∧ xs[i]? = some x ∧ w.cell? (a.add (i * 3)) = some (.int .i64 x.At) ∧ w.cell? ⟨(a.add (i * 3)).block, (a.add (i * 3)).off + 1, none⟩ = some (.int .i64 x.C) ∧ w.cell? ⟨(a.add (i * 3)).block, (a.add (i * 3)).off + 2, none⟩ = some (.bool x.Whole) := by
  obtain ⟨a, cs, h1, _, _, h4, h5⟩ := h i xs[i] (List.getElem?_eq_getElem hi)
  cases h4
  refine ⟨a, xs[i], h1, List.getElem?_eq_getElem hi, h5 0 _ rfl, ?_, ?_⟩
  · have := h5 1 _ rfl
    rwa [show i * Kd.rune.sz + 1 = i * 3 + 1 from rfl, ← Kd.add_add, Kd.add_lit (a.add (i * 3)) 1 (by decide)] at this
  · have := h5 2 _ rfl
    rwa [show i * Kd.rune.sz + 2 = i * 3 + 2 from rfl, ← Kd.add_add, Kd.add_lit (a.add (i * 3)) 2 (by decide)] at this

set_option maxHeartbeats 1000000 in
set_option maxRecDepth 100000 in
theorem rwhole_calls (s : ByteArray) (w : World) (hs : s.size * 24 ≤ 140737488351232) : Calls Try.prog 39 #[.string s] w fun e w' => e = .returned (.bool (wholeB s)) ∧ Below w.heap.size w w' := by
  go_enter Try.func39, Try.ntmps39
  go_wp2_with fail
  refine (runes_calls s _ hs).mono ?_
  rintro e w1 ⟨v, rfl, hO, hb⟩
  obtain ⟨A, c, rfl, hn, hr⟩ := runes_own_at hO
  clear hO
  have HD := hid (show wholeB s = (runes s).all (·.Whole) from rfl)
  generalize runes s = l at *
  go_wp2
  go_loop [4] (fun i => ∃ k : Nat, k ≤ l.length ∧ i = .int .i64 k ∧ (l.take k).all (·.Whole) = true) (fun i => l.length - (intOf i).toNat)
  case atStart => exact ⟨0, by omega, rfl, by simp⟩
  case round =>
    obtain ⟨k, hk, rfl, hf⟩ := hrel
    have HF := hid hf
    clear hf
    by_cases hlt : k < l.length
    · obtain ⟨a, x, rfl, hx, hc1, hc2, hc3⟩ := hr.at_rune k hlt
      have HX := hid hx
      clear hx
      cases hw : x.Whole
      · rw [hw] at hc3
        have HW := hid hw
        clear hw
        have hv := hid (show wholeB s = false by rw [HD.out, List.all_eq_false]; exact ⟨x, List.mem_of_getElem? HX.out, by simp [HW.out]⟩)
        go_wp2
        go_ret
        exact ⟨ret_bool (by rw [hv.out]), hb⟩
      · rw [hw] at hc3
        have HW := hid hw
        clear hw
        go_wp2
        go_round
        case rel => exact ⟨k + 1, by omega, by go_num, by rw [take_snoc HX.out, List.all_append, HF.out]; simp [HW.out]⟩
        case measure => simp [intOf]; omega
    · have hv := hid (show wholeB s = true by rw [HD.out, ← HF.out, List.take_of_length_le (by omega)])
      go_wp2
      go_ret
      exact ⟨ret_bool (by rw [hv.out]), hb⟩

theorem runes_whole (s : ByteArray) : ∀ r ∈ runes s, letterB r.C = true → r.Whole = true := by
  have key : ∀ (n p : Nat), s.size - p ≤ n → ∀ r ∈ runesF s p, letterB r.C = true → r.Whole = true := by
    intro n
    induction n with
    | zero => intro p h r hr; rw [runesF_end (by omega)] at hr; simp at hr
    | succ n ih =>
      intro p h r hr hl
      by_cases hp : p < s.size
      · rw [runesF_cons hp] at hr
        have := (dec_w s p).1
        rcases List.mem_cons.1 hr with rfl | hr
        · exact letterB_whole hl
        · exact ih _ (by omega) r hr hl
      · rw [runesF_end hp] at hr; simp at hr
  exact key s.size 0 (by omega)

set_option maxHeartbeats 2000000 in
set_option maxRecDepth 100000 in
theorem rname_calls (s : ByteArray) (w : World) (hs : s.size * 24 ≤ 140737488351232) : Calls Try.prog 26 #[.string s] w fun e w' => e = .returned (.bool (nameB s)) ∧ Below w.heap.size w w' := by
  go_enter Try.func26, Try.ntmps26
  go_wp2_with fail
  refine (runes_calls s _ hs).mono ?_
  rintro e w1 ⟨v, rfl, hO, hb⟩
  obtain ⟨A, c, rfl, hn, hr⟩ := runes_own_at hO
  clear hO
  have HW := hid (runes_whole s)
  have HD := hid (show nameB s = ((runes s).all (fun r => letterB r.C) && headOk (runes s) && decide (1 ≤ (runes s).length) && decide ((runes s).length ≤ 16)) from rfl)
  generalize runes s = l at *
  go_wp2
  go_loop [4] (fun i => ∃ k : Nat, k ≤ l.length ∧ i = .int .i64 k ∧ (l.take k).all (fun r => letterB r.C) = true) (fun i => l.length - (intOf i).toNat)
  case atStart => exact ⟨0, by omega, rfl, by simp⟩
  case round =>
    obtain ⟨k, hk, rfl, hf⟩ := hrel
    have HF := hid hf
    clear hf
    by_cases hlt : k < l.length
    · obtain ⟨a, x, rfl, hx, hc1, hc2, hc3⟩ := hr.at_rune k hlt
      have HX := hid hx
      clear hx
      have hmem := List.mem_of_getElem? HX.out
      cases hl : letterB x.C
      · have HL := hid hl
        clear hl
        have hv := hid (show nameB s = false by
          rw [HD.out, show l.all (fun r => letterB r.C) = false by rw [List.all_eq_false]; exact ⟨x, hmem, by simp [HL.out]⟩]; simp)
        clear hmem
        cases hw : x.Whole
        · rw [hw] at hc3
          clear hw
          go_wp2
          go_ret
          exact ⟨ret_bool (by rw [hv.out]), hb⟩
        · rw [hw] at hc3
          clear hw
          go_wp2_with fail
          refine (rletter_calls x.C _).mono ?_
          rintro e w2 ⟨rfl, rfl⟩
          rw [HL.out]
          go_wp2
          go_ret
          exact ⟨ret_bool (by rw [hv.out]), hb⟩
      · have hw : x.Whole = true := HW.out x hmem hl
        rw [hw] at hc3
        have HL := hid hl
        clear hl hw hmem
        go_wp2_with fail
        refine (rletter_calls x.C _).mono ?_
        rintro e w2 ⟨rfl, rfl⟩
        rw [HL.out]
        go_wp2
        go_round
        case rel => exact ⟨k + 1, by omega, by go_num, by rw [take_snoc HX.out, List.all_append, HF.out]; simp [HL.out]⟩
        case measure => simp [intOf]; omega
    · have HV := hid (show nameB s = (headOk l && decide (1 ≤ l.length) && decide (l.length ≤ 16)) by have h1 := HF.out; rw [List.take_of_length_le (by omega)] at h1; rw [HD.out, h1]; simp)
      clear HD HF HW
      by_cases h0 : 0 < l.length
      · obtain ⟨a, x, rfl, hx, hc1, hc2, hc3⟩ := hr.at_rune 0 h0
        have hh := hid (show headOk l = decide (57 < x.C) by cases l with | nil => simp at h0 | cons y l => simp at hx; subst hx; rfl)
        clear hx
        simp [Addr.add] at hc2
        by_cases h1 : l.length ≤ 16
        · by_cases h2 : 57 < x.C
          · go_wp2
            go_ret
            exact ⟨ret_bool (by rw [HV.out, hh.out, Bool.eq_iff_iff]; simp; omega), hb⟩
          · go_wp2
            go_ret
            exact ⟨ret_bool (by rw [HV.out, hh.out, Bool.eq_iff_iff]; simp; omega), hb⟩
        · go_wp2
          go_ret
          exact ⟨ret_bool (by rw [HV.out, hh.out, Bool.eq_iff_iff]; simp; omega), hb⟩
      · go_wp2
        go_ret
        exact ⟨ret_bool (by rw [HV.out, Bool.eq_iff_iff]; simp; omega), hb⟩

end Go.Proofs.Ytlckkcefkiffjaa
