import Derived.Test.YtgedkcglkhleoaaGreatDoorLex
import Derived.Test.YtgedkcglkhleoaaGreatDoorBase
import Derived.Test.YtgedkcglkhleoaaGreatDoorRef04
namespace Go.Proofs.YtgedkcglkhleoaaGreatDoor
open Go.RowKit Go.Lib

theorem Tryz.infoWord8 : (Tryz.prog.info? 126).map (fun i => (i.zero, i.size, i.bytes)) = some (some (.agg #[.string ByteArray.empty, .int .i64 0]), 2, 24) := by kernel_rfl
set_option maxHeartbeats 1000000 in
set_option maxRecDepth 100000 in
theorem rsign_calls (c : Int) (w : World) : Calls Tryz.prog 72 #[.int .i64 c] w fun e w' => e = .returned (.bool (signB c)) ∧ w = w' := by
  go_enter Tryz.func72, Tryz.ntmps72
  go_wp2
  all_goals (go_ret; exact ⟨ret_bool (by rw [Bool.eq_iff_iff]; simp [signB]; try omega), rfl⟩)
theorem rune_at_off (s : ByteArray) (n : Nat) (y : RuneS) (hy : (runes s)[n]? = some y) : y.At = (offR s n : Int) ∧ 0 ≤ y.C ∧ y.C ≤ 1114111 := by
  have hn := (List.getElem?_eq_some_iff.1 hy).1
  obtain ⟨p, _, h1, h2, _⟩ := mid_at s n (by omega)
  have h := (h1 hn).2
  rw [hy] at h
  obtain rfl := Option.some.inj h
  rw [offR_at (by omega) h1 h2]
  have := dec_c s p
  exact ⟨rfl, by show (0 : Int) ≤ ((Utf8.decode s p).1 : Int); omega, by show ((Utf8.decode s p).1 : Int) ≤ _; omega⟩

set_option maxHeartbeats 1000000 in
set_option maxRecDepth 100000 in
theorem rwords_long (s : ByteArray) (w : World) (hs : 200 < s.size) (h2 : s.size ≤ 140737488351232) :
    Calls Tryz.prog 55 #[.string s] w fun e w' => ∃ v, e = .returned (.tuple #[v, .int .i64 (wordsS s).2.1, .int .i64 (wordsS s).2.2]) ∧ Own Kd.word 126 w' w.heap.size NoT v (wordsS s).1 ∧ Below w.heap.size w w' := by
  have e : wordsS s = ([], 0, 4) := by unfold wordsS; rw [if_pos hs]
  rw [e]
  clear e
  go_enter Tryz.func55, Tryz.ntmps55
  go_wp2
  go_ret3
  exact ⟨_, rfl, Own.nil _ _ _ _ _, Below.refl _ _⟩

set_option maxHeartbeats 4000000 in
set_option maxRecDepth 100000 in
theorem rwords_short (s : ByteArray) (w : World) (hs : s.size ≤ 200) :
    Calls Tryz.prog 55 #[.string s] w fun e w' => ∃ v, e = .returned (.tuple #[v, .int .i64 (wordsS s).2.1, .int .i64 (wordsS s).2.2]) ∧ Own Kd.word 126 w' w.heap.size NoT v (wordsS s).1 ∧ Below w.heap.size w w' := by
  have HW := hid (show wordsS s = lexGo (runes s) ⟨[], false, 0⟩ by unfold wordsS; rw [if_neg (by omega)])
  have HLEN := hid (runes_len s)
  have hcv := fun W c => conv_new1 (P := Tryz.prog) Tryz.underlying86 Tryz.underlying5 Tryz.underlying9 W c
  go_enter Tryz.func55, Tryz.ntmps55
  go_wp2_with fail
  refine (runes_calls s _ (by omega)).mono ?_
  rintro e w1 ⟨v, rfl, hO, hb1⟩
  obtain ⟨A, cp, rfl, hn, hr⟩ := runes_own_at hO
  have HR := hid hr
  have HB1 := hid hb1
  have h01 := hb1.size
  clear hO hr hb1
  obtain ⟨q, hq⟩ : ∃ q, (runes s).length = q := ⟨_, rfl⟩
  have HQ := hid hq
  rw [hq] at hn HLEN ⊢
  have hq200 : q ≤ 200 := by have := HLEN.out; omega
  clear hq
  go_wp2
  go_loopw [6, 7] (fun o i wr => ∃ (n : Nat) (out : List WordS), i = .int .i64 n ∧ n ≤ q ∧ out.length ≤ n ∧ Own Kd.word 126 wr w1.heap.size NoT o out ∧ Hid (lexGo (runes s) ⟨[], false, 0⟩ = lexGo ((runes s).drop n) ⟨out, false, n⟩) ∧ Hid (Below w1.heap.size w1 wr)) (fun _ i _ => q - (intOf i).toNat)
  case atStart => exact ⟨0, [], rfl, by omega, by simp, Own.nil _ _ _ _ _, rfl, Below.refl _ _⟩
  case round =>
    obtain ⟨n, out, rfl, hnq, hon, hO, HG, HB⟩ := hrel
    by_cases hlt : n < q
    · obtain ⟨a, y, rfl, hy, r0, r1, r2⟩ := (HR.out.below HB.out).at_rune n (by rw [HQ.out]; exact hlt)
      obtain ⟨hya, hc0, hc1⟩ := rune_at_off s n y hy
      have HY := hid hy
      have HYA := hid hya
      rw [hya] at r0
      obtain ⟨c, hc⟩ : ∃ c, c = y.C := ⟨_, rfl⟩
      rw [← hc] at hc0 hc1 r1
      have HC := hid hc
      have hltI : (n : Int) < (q : Int) := by omega
      have HO := hid hO
      have hcn : c ≠ -1 := by omega
      clear hy hya hc r2 hcn hO
      by_cases h32 : c = 32
      · subst h32
        have HG2 := hid (HG.out.trans (lex_blank s out n y HY.out HC.out.symm))
        go_wp2
        go_roundw
        case rel => exact ⟨n + 1, out, by go_num, by omega, by omega, HO.out, HG2, HB⟩
        case measure => simp [intOf]; omega
      · have h32b : (c == 32) = false := by rw [beq_eq_false_iff_ne]; exact h32
        cases hs1 : signB c
        case true =>
          have HG2 := hid (HG.out.trans (lex_sign s out n y HY.out (by rw [← HC.out]; exact hs1)))
          have hu8 : IntKind.u8.wrap c = c := by
            have : c = 40 ∨ c = 41 ∨ c = 33 ∨ c = 38 ∨ c = 124 ∨ c = 42 := by
              unfold signB at hs1; simp at hs1; omega
            exact IntWalk.u8_in _ (by omega)
          have hst : strOfNums [c] = Utf8.encode c := by rw [← sign_text c hs1, hu8]
          have hO1 := HO.out
          go_wp2_with fail
          refine (rsign_calls c _).mono ?_
          rintro e w2 ⟨rfl, rfl⟩
          rw [hs1]
          go_wp2_with (at_builtin; go_must (refine append_arm Kd.word (w0 := w1) w1.heap.size rfl _ _ 98 126 _ 24 rfl Tryz.underlying98 Tryz.infoWord8 rfl (by decide) (by decide) u6 out ⟨Utf8.encode c, n⟩ _ NoT NoT rfl (by exact congrArg (fun k => Value.slice (some ⟨k, 0, none⟩) 1 1) (World.size_alloc wr _).symm) rfl (fun _ h => h.elim) (hO1.alloc _) (HB.out.alloc HB.out.size _) (by have := HB.out.size; simp; omega) (by omega) ?_))
          intro v1 w2 hO2 hb2 _ _
          clear hO1
          go_wp2
          go_roundw
          case rel => exact ⟨n + 1, _, by go_num, by omega, by simp; omega, hO2, by rw [HC.out]; exact HG2, hid hb2⟩
          case measure => simp [intOf]; omega
        case false =>
          cases hl : letterB c
          case false =>
            have HG2 := hid (HG.out.trans (lex_bad s out n y HY.out (by rw [← HC.out]; exact hl) (by rw [← HC.out]; exact h32) (by rw [← HC.out]; exact hs1)))
            go_wp2_with fail
            refine (rsign_calls c _).mono ?_
            rintro e w2 ⟨rfl, rfl⟩
            rw [hs1]
            go_wp2_with fail
            refine (rletter_calls c _).mono ?_
            rintro e w2 ⟨rfl, rfl⟩
            rw [hl]
            go_wp2
            go_ret3
            rw [HW.out, HG2.out]
            exact ⟨_, rfl, Own.nil _ _ _ _ _, HB1.out.trans (HB.out.mono h01)⟩
          case true =>
            obtain ⟨hnK, hword⟩ := lex_word s out n y HY.out (by rw [← HC.out]; exact hl)
            have hKL := (spanK_le (runes s) n (by rw [HQ.out]; omega)).2
            have HKIN := hid (spanK_in (runes s) n)
            have HKOUT := hid (spanK_out (runes s) n)
            have hm1 := offR_mono s (spanK (runes s) n - n) n (by omega)
            rw [show n + (spanK (runes s) n - n) = spanK (runes s) n by omega] at hm1
            have hm2 := offR_le s _ hKL
            have HEND := hid (fun h : spanK (runes s) n = (runes s).length => show offR s (spanK (runes s) n) = s.size by unfold offR; rw [List.getElem?_eq_none (by omega)])
            rw [HQ.out] at hKL HEND
            obtain ⟨K, hK⟩ : ∃ K, K = spanK (runes s) n := ⟨_, rfl⟩
            rw [← hK] at hword hnK hKL HKIN HKOUT hm1 hm2 HEND
            obtain ⟨e0, he0⟩ : ∃ e0, e0 = offR s n := ⟨_, rfl⟩
            obtain ⟨e1, he1⟩ : ∃ e1, e1 = offR s K := ⟨_, rfl⟩
            rw [← he0] at r0
            rw [← he0, ← he1] at hword hm1
            rw [← he1] at hm2 HEND
            have HG2 := hid (HG.out.trans hword)
            have HE1 := hid he1
            clear hword he0 he1 hK
            go_wp2_with fail
            refine (rsign_calls c _).mono ?_
            rintro e w2 ⟨rfl, rfl⟩
            rw [hs1]
            go_wp2_with fail
            refine (rletter_calls c _).mono ?_
            rintro e w2 ⟨rfl, rfl⟩
            rw [hl]
            go_wp2
            have HN2 := hid (And.intro hnq hon)
            clear hnq hon
            go_loop [9] (fun k => ∃ m : Nat, n ≤ m ∧ m ≤ K ∧ k = .int .i64 m) (fun k => K - (intOf k).toNat)
            case atStart => exact ⟨n, by omega, by omega, rfl⟩
            case round =>
              obtain ⟨m, hnm, hmK, rfl⟩ := hrel
              by_cases hmlt : m < K
              · obtain ⟨z, hz, hzl⟩ := HKIN.out m hnm hmlt
                obtain ⟨a', z', ha', hz', q0, q1, q2⟩ := (HR.out.below HB.out).at_rune m (by rw [HQ.out]; omega)
                cases ha'
                rw [hz] at hz'
                obtain rfl := Option.some.inj hz'
                have hmq : (m : Int) < (q : Int) := by omega
                clear hz hz' q2
                go_wp2_with fail
                refine (rletter_calls z.C _).mono ?_
                rintro e w2 ⟨rfl, rfl⟩
                rw [hzl]
                go_wp2
                go_round
                case rel => exact ⟨m + 1, by omega, by omega, by go_num⟩
                case measure => simp [intOf]; omega
              · obtain rfl : m = K := by omega
                by_cases hKq : m < q
                · obtain ⟨a', z, ha', hz, q0, q1, q2⟩ := (HR.out.below HB.out).at_rune m (by rw [HQ.out]; omega)
                  cases ha'
                  have hzl := HKOUT.out z hz
                  have hza := (rune_at_off s m z hz).1
                  rw [← HE1.out] at hza
                  rw [hza] at q0
                  have hmq : (m : Int) < (q : Int) := by omega
                  clear hz q2 hza
                  go_wp2_with fail
                  refine (rletter_calls z.C _).mono ?_
                  rintro e w2 ⟨rfl, rfl⟩
                  rw [hzl]
                  have hO1 := HO.out
                  have hsl1 : e0 ≤ e1 := hm1
                  have hsl2 : (e0 : Int) ≤ (e1 : Int) := by omega
                  have hsl3 : (e1 : Int) ≤ (s.size : Int) := by omega
                  go_wp2_with (at_builtin; go_must (refine append_arm Kd.word (w0 := w1) w1.heap.size rfl _ _ 98 126 _ 24 rfl Tryz.underlying98 Tryz.infoWord8 rfl (by decide) (by decide) u6 out ⟨s.extract e0 e1, n⟩ _ NoT NoT rfl rfl rfl (fun _ h => h.elim) hO1 HB.out HB.out.size (by have := HN2.out; omega) ?_))
                  intro v1 w2 hO2 hb2 _ _
                  clear hO1
                  go_wp2
                  go_roundw
                  case rel => exact ⟨m, _, rfl, by omega, by have := HN2.out; simp; omega, hO2, HG2, hid hb2⟩
                  case measure => simp [intOf]; omega
                · obtain rfl : m = q := by omega
                  have hes := HEND.out rfl
                  have hmq : ¬ (m : Int) < (m : Int) := by omega
                  have HES := hid hes
                  clear hes
                  have hO1 := HO.out
                  have hsl1 : e0 ≤ s.size := by have := HES.out; omega
                  have HG3 := HG2
                  rw [HES.out] at HG3
                  have hsl2 : (e0 : Int) ≤ (s.size : Int) := by omega
                  go_wp2_with (at_builtin; go_must (refine append_arm Kd.word (w0 := w1) w1.heap.size rfl _ _ 98 126 _ 24 rfl Tryz.underlying98 Tryz.infoWord8 rfl (by decide) (by decide) u6 out ⟨s.extract e0 s.size, n⟩ _ NoT NoT rfl rfl rfl (fun _ h => h.elim) hO1 HB.out HB.out.size (by have := HN2.out; omega) ?_))
                  intro v1 w2 hO2 hb2 _ _
                  clear hO1
                  go_wp2
                  go_roundw
                  case rel => exact ⟨m, _, rfl, by omega, by have := HN2.out; simp; omega, hO2, HG3, hid hb2⟩
                  case measure => simp [intOf]; omega
    · obtain rfl : n = q := by omega
      have HE := hid (lex_end s out n (by rw [HQ.out]; exact Nat.le_refl _))
      go_wp2
      go_ret3
      rw [HW.out, HG.out, HE.out]
      exact ⟨_, rfl, hO.lower h01, HB1.out.trans (HB.out.mono h01)⟩

theorem rwords_calls (s : ByteArray) (w : World) (hs : s.size ≤ 140737488351232) :
    Calls Tryz.prog 55 #[.string s] w fun e w' => ∃ v, e = .returned (.tuple #[v, .int .i64 (wordsS s).2.1, .int .i64 (wordsS s).2.2]) ∧ Own Kd.word 126 w' w.heap.size NoT v (wordsS s).1 ∧ Below w.heap.size w w' := by
  rcases Nat.lt_or_ge 200 s.size with h | h
  · exact rwords_long s w h hs
  · exact rwords_short s w h
end Go.Proofs.YtgedkcglkhleoaaGreatDoor
