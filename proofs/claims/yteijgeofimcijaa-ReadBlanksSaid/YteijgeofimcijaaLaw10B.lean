/- The law ReadBlanks. -/
import Derived.Test.YteijgeofimcijaaLaw10
import Derived.Test.YteijgeofimcijaaBlanks0
import Derived.Test.YteijgeofimcijaaRef08
import Derived.Test.YteijgeofimcijaaLaw08S
import Derived.Test.YteijgeofimcijaaU8
import Derived.Test.YteijgeofimcijaaShow0
namespace Go.Proofs.Yteijgeofimcijaa
open Go.RowKit Go.Lib

theorem needS_bad (tab : List ByteArray) (s : ByteArray) (l : List NodeS) (k f : Int) (h : needS tab s = (l, k, f)) (hf : f ≠ 0) : l = [] := by
  unfold needS at h
  split at h
  · injection h with h _; exact h.symm
  · dsimp only at h
    split at h
    · injection h with h _; exact h.symm
    · injection h with _ h; injection h with _ h; exact absurd h.symm hf
theorem needS_good (tab : List ByteArray) (s : ByteArray) (l : List NodeS) (k : Int) (h : needS tab s = (l, k, 0)) : k = 0 ∧ checkN l = 0 ∧ (wordsS s).2.2 = 0 := by
  unfold needS at h
  split at h
  · rename_i h0
    injection h with _ h; injection h with _ h; exact absurd h h0
  · rename_i hw
    dsimp only at h
    split at h
    · rename_i h0; injection h with _ h; injection h with _ h; exact absurd h h0
    · rename_i h0
      injection h with h1 h; injection h with h2 _
      subst h1; subst h2
      refine ⟨rfl, ?_, by simpa using hw⟩
      have hbad := anyP_bad (oneP_bad tab (runes s).length (wordsS s).1.length) (wordsS s).1.length (wordsS s).1 []
      generalize anyP _ _ _ _ = r at h0 hbad ⊢
      have hc : (readR r).2.1 = 0 := by simpa using h0
      cases r with
      | bad a e => exact absurd hc (hbad a e rfl)
      | ok ws out =>
        cases ws with
        | cons x ws => cases hc
        | nil => exact hc
theorem Kd.Row.at_u8b {w : World} {S : Nat → Prop} {A : Option Addr} {xs : List UInt8} (h : Kd.u8.Row w S A xs) (i : Nat) (x : UInt8) (hx : xs[i]? = some x) : ∃ a, A = some a ∧ w.cell? (a.add i) = some (.int .u8 x.toNat) := by
  obtain ⟨a, cs, h1, _, _, h4, h5⟩ := h i x hx
  cases h4
  exact ⟨a, h1, by have := h5 0 _ rfl; rwa [show i * Kd.u8.sz + 0 = i from mul_one' i] at this⟩
def gapB (gs : List UInt8) (i : Nat) : Bool := match gs[i]? with
  | some x => decide (x.toNat % 2 = 1)
  | none => false

set_option maxHeartbeats 4000000 in
set_option maxRecDepth 100000 in
theorem readBlanksLaw (tab : List ByteArray) (s : ByteArray) (gs : List UInt8) (v u : Value) (w : World) (ht : Kd.str.slice.K w Any tab [v]) (hg : Kd.u8.slice.K w Any gs [u]) :
    Calls Try.prog 6 #[v, .string s, u] w fun e w' => e = .returned (.bool true) ∧ Below w.heap.size w w' := by
  have HT := hid ht
  clear ht
  obtain ⟨Ag, cg, he, hcg, hmg, hrg⟩ := hg
  cases he
  obtain ⟨z, hz⟩ : ∃ z, gs.length = z := ⟨_, rfl⟩
  have HZ := hid hz
  have HRG := hid hrg
  rw [hz] at hcg hmg ⊢
  clear hrg hz
  by_cases hs : 60 < s.size
  · have hsI : (60 : Int) < s.size := by omega
    go_enter Try.func6, Try.ntmps6
    go_wp2_with fail
    refine (works10_calls _).mono ?_
    rintro e w1 ⟨rfl, hb1⟩
    go_wp2
    go_ret
    exact ⟨rfl, hb1⟩
  have hsI : ¬ (60 : Int) < s.size := by omega
  go_enter Try.func6, Try.ntmps6
  go_wp2_with fail
  refine (long_calls tab 40 100 _ _ HT.out).mono ?_
  rintro e w1 ⟨rfl, rfl⟩
  generalize longB tab 40 100 = b
  cases b
  case true =>
    go_wp2_with fail
    refine (works10_calls _).mono ?_
    rintro e w2 ⟨rfl, hb2⟩
    go_wp2
    go_ret
    exact ⟨rfl, hb2⟩
  obtain ⟨l, k, f, hl⟩ : ∃ l k f, needS tab s = (l, k, f) := ⟨_, _, _, rfl⟩
  have HL := hid hl
  clear hl
  go_wp2_with fail
  refine (readNeed_calls tab s _ _ HT.out (by omega)).mono ?_
  rintro e w2 ⟨v2, rfl, hO, hb2⟩
  rw [HL.out] at hO ⊢
  dsimp only at hO ⊢
  have HB2 := hid hb2
  have HT2 := hid (Kd.below HT.out hb2)
  have HO2 := hid hO
  obtain ⟨A, n, c, rfl, hq1, hq2⟩ := hO.shape'
  have HQ1 := hid hq1
  clear hO hb2 hq1 hq2
  by_cases hf : f = 0
  case neg =>
    have hl0 := needS_bad tab s l k f HL.out hf
    have hn0 : n = 0 := by have := HQ1.out; rw [hl0] at this; exact this
    subst hn0
    have h1b : (f != 0) = true := by rw [bne_iff_ne]; exact hf
    clear hl0 hf
    go_wp2_with fail
    refine (works10_calls _).mono ?_
    rintro e w3 ⟨rfl, hb3⟩
    go_wp2
    go_ret
    exact ⟨rfl, bThen HB2.out hb3⟩
  subst hf
  obtain ⟨rfl, hck, hwf⟩ := needS_good tab s l k HL.out
  have HCK := hid hck
  have HWF := hid hwf
  have hck31 : l.length ≤ 31 := by obtain ⟨_, _, _, _, h, _⟩ := check_ok hck; exact h
  have HCL := hid hck31
  clear hck hwf hck31
  go_wp2_with fail
  refine (rwords_calls s _ (by omega)).mono ?_
  rintro e w3 ⟨v3, rfl, hO, hb3⟩
  rw [HWF.out]
  obtain ⟨m, hm⟩ : ∃ m, m = (wordsS s).1 := ⟨_, rfl⟩
  obtain ⟨at3, hat⟩ : ∃ at3, at3 = (wordsS s).2.1 := ⟨_, rfl⟩
  rw [← hm] at hO
  rw [← hat]
  have HM := hid hm
  have hwok := hid (words_ok s)
  have hwsz := hid (words_size s)
  have hwln := hid (wordsS_len s)
  rw [← hm] at hwok hwsz hwln
  clear hm hat
  obtain ⟨Am, cm, he, hcm, hmm, hrm⟩ := Kd.any hO.K
  cases he
  obtain ⟨q, hq⟩ : ∃ q, m.length = q := ⟨_, rfl⟩
  have HQ := hid hq
  have HRM := hid hrm
  have HB3 := hid (bThen HB2.out hb3)
  have HO3 := hid (HO2.out.below hb3)
  have HT3 := hid (Kd.below HT2.out hb3)
  rw [hq] at hcm hmm hwln ⊢
  have hq200 : q ≤ 200 := hwln.out
  clear hO hrm hq hb3
  have HTZ := hid (gapT_size (textsL m) (gapB gs) (fun t ht => by
    obtain ⟨x, hx, rfl⟩ := List.mem_map.1 ht
    exact hwsz.out x hx))
  have HTX := hid (fun (i : Nat) (x : WordS) (hx : m[i]? = some x) => show (textsL m)[i]?.getD ⟨#[]⟩ = x.text by unfold textsL; rw [List.getElem?_map, hx]; rfl)
  go_wp2
  go_loop [13, 14] (fun o i => ∃ (k : Nat) (t : ByteArray), k ≤ q ∧ i = .int .i64 k ∧ o = .string t ∧ t.size ≤ k * 802 ∧ Hid (t = gapT (textsL m) (gapB gs) k)) (fun _ i => q - (intOf i).toNat)
  case atStart => exact ⟨0, ⟨#[]⟩, by omega, rfl, rfl, Nat.zero_le _, rfl⟩
  case round =>
    obtain ⟨k, t, hk, rfl, rfl, hts, HTT⟩ := hrel
    by_cases hlt : k < q
    · obtain ⟨x, hx⟩ : ∃ x, m[k]? = some x := ⟨m[k]'(by rw [HQ.out]; exact hlt), List.getElem?_eq_getElem _⟩
      obtain ⟨a, rfl, r0, r1⟩ := HRM.out.at_word k x hx
      have hxz := hwsz.out x (List.mem_of_getElem? hx)
      have HX := hid (HTX.out k x hx)
      have hltI : (k : Int) < (q : Int) := by omega
      have hk0 : (0 : Int) ≤ (k : Int) := by omega
      have h32 : (⟨#[32]⟩ : ByteArray).size = 1 := rfl
      have HTZ2 := hid (HTZ.out (k + 1))
      clear hx
      cases hgap : gapB gs k with
      | false =>
        have HN := hid (show t ++ ⟨#[32]⟩ ++ x.text = gapT (textsL m) (gapB gs) (k + 1) by rw [gapT, hgap, HX.out, ← HTT.out]; rfl)
        cases hgk : gs[k]? with
        | none =>
          have hge : ¬ k < z := by rw [List.getElem?_eq_none_iff] at hgk; rw [HZ.out] at hgk; omega
          have hgeI : ¬ (k : Int) < (z : Int) := by omega
          clear hgk hgap
          go_wp2
          go_round
          case rel => exact ⟨k + 1, _, by omega, by go_num, rfl, by rw [HN.out]; exact HTZ2.out, HN⟩
          case measure => simp [intOf]; omega
        | some y =>
          have hgl : k < z := by have := (List.getElem?_eq_some_iff.1 hgk).1; rw [HZ.out] at this; exact this
          have hglI : (k : Int) < (z : Int) := by omega
          obtain ⟨ag, rfl, o0⟩ := (HRG.out.below HB3.out).at_u8b k y hgk
          have hy : (((y.toNat : Int) % 2) == 1) = false := by
            unfold gapB at hgap
            rw [hgk] at hgap
            simp at hgap
            rw [beq_eq_false_iff_ne]; omega
          clear hgk hgap
          go_wp2
          go_round
          case rel => exact ⟨k + 1, _, by omega, by go_num, rfl, by rw [HN.out]; exact HTZ2.out, HN⟩
          case measure => simp [intOf]; omega
      | true =>
        have HN := hid (show t ++ ⟨#[32]⟩ ++ x.text ++ ⟨#[32]⟩ = gapT (textsL m) (gapB gs) (k + 1) by rw [gapT, hgap, HX.out, ← HTT.out]; rfl)
        cases hgk : gs[k]? with
        | none => unfold gapB at hgap; rw [hgk] at hgap; cases hgap
        | some y =>
          have hgl : k < z := by have := (List.getElem?_eq_some_iff.1 hgk).1; rw [HZ.out] at this; exact this
          have hglI : (k : Int) < (z : Int) := by omega
          obtain ⟨ag, rfl, o0⟩ := (HRG.out.below HB3.out).at_u8b k y hgk
          have hy : (((y.toNat : Int) % 2) == 1) = true := by
            unfold gapB at hgap
            rw [hgk] at hgap
            simp at hgap
            rw [beq_iff_eq]; omega
          clear hgk hgap
          go_wp2
          go_round
          case rel => exact ⟨k + 1, _, by omega, by go_num, rfl, by rw [HN.out]; exact HTZ2.out, HN⟩
          case measure => simp [intOf]; omega
    · obtain rfl : k = q := by omega
      by_cases h200 : 200 < t.size
      · have h200I : (200 : Int) < (t.size : Int) := by omega
        go_wp2_with fail
        refine (works10_calls _).mono ?_
        rintro e w4 ⟨rfl, hb4⟩
        go_wp2
        go_ret
        exact ⟨rfl, bThen HB3.out hb4⟩
      · have h200I : ¬ (200 : Int) < (t.size : Int) := by omega
        have hlen : (textsL m).length = k := by unfold textsL; rw [List.length_map, HQ.out]
        have hgw := words_gap (textsL m) (gapB gs) (fun t ht => by
          obtain ⟨x, hx, rfl⟩ := List.mem_map.1 ht
          exact hwok.out x hx) (by rw [hlen, ← HTT.out]; omega)
        rw [hlen, ← HTT.out] at hgw
        have HND := hid (needS_sim tab s t l 0 HL.out hgw.1 (by rw [hgw.2, HM.out]))
        clear hgw hlen
        go_wp2_with fail
        refine (readNeed_calls tab t _ _ HT3.out (by omega)).mono ?_
        rintro e w4 ⟨v4, rfl, hO, hb4⟩
        rw [HND.out] at hO ⊢
        dsimp only at hO ⊢
        have HB4 := hid (bThen HB3.out hb4)
        have HO4 := hid hO
        have HO3' := hid (HO3.out.below hb4)
        obtain ⟨A4, n4, c4, rfl, hq1, hq2⟩ := hO.shape'
        clear hO hb4 hq1 hq2
        go_wp2_with fail
        refine (needCheck_calls l _ _ (Kd.any HO3'.out.K) (by have := HCL.out; omega)).mono ?_
        rintro e w5 ⟨rfl, hb5⟩
        rw [HCK.out]
        have HB5 := hid (bThen HB4.out hb5)
        have HO5 := hid (HO4.out.below hb5)
        have HO5' := hid (HO3'.out.below hb5)
        clear hb5
        go_wp2_with fail
        refine (nsame_calls l _ _ _ (Kd.any HO5'.out.K) (Kd.any HO5.out.K)).mono ?_
        rintro e w6 ⟨rfl, n6, rfl⟩
        go_wp2_with fail
        refine (works10_calls _).mono ?_
        rintro e w7 ⟨rfl, hb7⟩
        go_wp2
        go_ret
        exact ⟨rfl, bThen (below_drewN HB5.out n6) hb7⟩
theorem readBlanks_walk (W : World) (tab : List ByteArray) (v : Value) (h : Kd.str.slice.K W Any tab [v]) (_ : (∀ y ∈ tab, y.size ≤ 140737488351232) ∧ tab.length * 16 ≤ 140737488351232) (s : ByteArray) (_ : s.size ≤ 140737488351232) (gs : List UInt8) (u : Value) (hg : Kd.u8.slice.K W Any gs [u]) (_w : (∀ y ∈ gs, True) ∧ gs.length * 1 ≤ 140737488351232) :
    Calls Try.prog 6 #[v, .string s, u] W fun e w' => e = .returned (.bool true) ∧ Below W.heap.size W w' := readBlanksLaw tab s gs v u W h hg
end Go.Proofs.Yteijgeofimcijaa
