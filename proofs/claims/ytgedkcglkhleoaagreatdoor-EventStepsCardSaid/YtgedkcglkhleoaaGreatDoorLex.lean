import Derived.Test.YtgedkcglkhleoaaGreatDoorSigns
import Derived.Test.YtgedkcglkhleoaaGreatDoorBase
import Derived.Test.YtgedkcglkhleoaaGreatDoorGlyph0
import Derived.Outline
namespace Go.Proofs.YtgedkcglkhleoaaGreatDoor
open Go.RowKit Go.Lib

theorem Tryz.infoWord : (Tryz.prog.info? 140).map (fun i => (i.zero, i.size, i.bytes)) = some (some (.agg #[.string ByteArray.empty, .int .i64 0]), 2, 24) := by kernel_rfl
/-- The cells of a word in its row. -/
theorem at_word {w : World} {S : Nat → Prop} {b : Nat} {xs : List WordS} (h : Kd.word.Row w S (some ⟨b, 0, none⟩) xs) (i : Nat) (x : WordS) (hx : xs[i]? = some x) :
    w.cell? ⟨b, i * 2, none⟩ = some (.string x.text) ∧ w.cell? ⟨b, i * 2 + 1, none⟩ = some (.int .i64 x.at_) := by
  obtain ⟨a, cs, he, _, _, hcs, h2⟩ := h i x hx
  cases he
  cases hcs
  have e : ∀ j, (⟨b, 0, none⟩ : Addr).add (i * 2 + j) = ⟨b, i * 2 + j, none⟩ := fun j => by unfold Addr.add; split <;> simp_all
  have h3 : ∀ (j : Nat) u, _ → w.cell? ⟨b, i * 2 + j, none⟩ = some u := fun j u hu => (e j) ▸ h2 j u hu
  exact ⟨h3 0 _ rfl, h3 1 _ rfl⟩
theorem text_snoc {out : List WordS} {n : Nat} {x : WordS} (h : ∀ y ∈ out, y.text.size ≤ 4 * n) (hx : x.text.size ≤ 4 * (n + 1)) : ∀ y ∈ out ++ [x], y.text.size ≤ 4 * (n + 1) := by
  intro y hy
  rcases List.mem_append.1 hy with hy | hy
  · have := h y hy; omega
  · rw [List.mem_singleton.1 hy]; exact hx
theorem text_set {out : List WordS} {n k : Nat} {x : WordS} (h : ∀ y ∈ out, y.text.size ≤ 4 * n) (hx : x.text.size ≤ 4 * (n + 1)) : ∀ y ∈ out.set k x, y.text.size ≤ 4 * (n + 1) := by
  intro y hy
  rcases List.mem_or_eq_of_mem_set hy with hy | hy
  · have := h y hy; omega
  · rw [hy]; exact hx
theorem text_set2 {out : List WordS} {n k : Nat} {x : WordS} (h : ∀ y ∈ out, y.text.size ≤ 4 * (n + 1)) (hx : x.text.size ≤ 4 * (n + 1)) : ∀ y ∈ out.set k x, y.text.size ≤ 4 * (n + 1) := by
  intro y hy
  rcases List.mem_or_eq_of_mem_set hy with hy | hy
  · exact h y hy
  · rw [hy]; exact hx
theorem word_last {w : World} {base : Nat} {v : Value} {e : TypeId} {out : List WordS} (h : Own Kd.word e w base NoT v out) (k : Nat) (x : WordS) (hk : k + 1 = out.length) (hx : out[k]? = some x) :
    ∃ b m c, v = .slice (some ⟨b, 0, none⟩) m c ∧ m = k + 1 ∧ m ≤ c ∧ b < w.heap.size ∧ base ≤ b ∧ w.cell? ⟨b, k * 2, none⟩ = some (.string x.text) ∧ w.frozen? ⟨b, k * 2, none⟩ = false ∧
      ∀ t, Own Kd.word e (w.setCell ⟨b, k * 2, none⟩ (.string (x.text ++ t))) base NoT v (out.set k ⟨x.text ++ t, x.at_⟩) := by
  obtain ⟨A, m, c, rfl, hm, hc⟩ := h.shape'
  obtain ⟨b, rfl, _⟩ := h.first (by omega)
  obtain ⟨f1, f2, f3⟩ := h.free
  obtain ⟨A', c', he, _, _, hr⟩ := h.K
  cases he
  refine ⟨b, _, _, rfl, by omega, hc, f1, f2, (at_word hr k x hx).1, f3 _, fun t => ?_⟩
  refine h.set k x _ hx 0 (by decide) _ (fun w S cs hcs => ?_) _ rfl
  cases hcs; rfl
theorem three {v : Value} {a b c d : Int} (h1 : a = c) (h2 : b = d) : Ending.returned (.tuple #[v, .int .i64 a, .int .i64 b]) = Ending.returned (.tuple #[v, .int .i64 c, .int .i64 d]) := by rw [h1, h2]
theorem len200 {s : ByteArray} {l : List RuneS} {p : Nat} (h : Mid s l p) (hs : s.size ≤ 200) (hp : p < s.size) : l.length < 200 := by have := h.len_lt hp; omega

set_option maxHeartbeats 1000000 in
set_option maxRecDepth 100000 in
theorem lexWords_long (s : ByteArray) (w : World) (hs : 200 < s.size) (h2 : s.size ≤ 140737488351232) :
    Calls Tryz.prog 67 #[.string s] w fun e w' => ∃ v, e = .returned (.tuple #[v, .int .i64 (wordsS s).2.1, .int .i64 (wordsS s).2.2]) ∧ Own Kd.word 140 w' w.heap.size NoT v (wordsS s).1 ∧ Below w.heap.size w w' := by
  have e : wordsS s = ([], 0, 4) := by unfold wordsS; rw [if_pos hs]
  rw [e]
  clear e
  go_enter Tryz.func67, Tryz.ntmps67
  go_wp2
  go_ret3
  exact ⟨_, rfl, Own.nil _ _ _ _ _, Below.refl _ _⟩

set_option maxHeartbeats 4000000 in
set_option maxRecDepth 100000 in
theorem lexWords_short (s : ByteArray) (w : World) (hs : s.size ≤ 200) :
    Calls Tryz.prog 67 #[.string s] w fun e w' => ∃ v, e = .returned (.tuple #[v, .int .i64 (wordsS s).2.1, .int .i64 (wordsS s).2.2]) ∧ Own Kd.word 140 w' w.heap.size NoT v (wordsS s).1 ∧ Below w.heap.size w w' := by
  have HW := hid (show wordsS s = lexGo (runes s) ⟨[], false, 0⟩ by unfold wordsS; rw [if_neg (by omega)])
  go_enter Tryz.func67, Tryz.ntmps67
  go_wp2
  go_loopw [5, 6, 7] (fun o r n wr => ∃ (p : Nat) (l : List RuneS) (st : LexS), wr.heap[w.heap.size]? = some (.stringIter s p) ∧ Hid (Mid s l p) ∧ r = .bool st.run ∧ n = .int .i64 st.n ∧ Hid (st.n = l.length) ∧ Hid (st.out.length ≤ st.n) ∧ Hid (st.run = true → 0 < st.out.length) ∧ Hid (∀ y ∈ st.out, y.text.size ≤ 4 * st.n) ∧
    Hid (lexGo (runes s) ⟨[], false, 0⟩ = lexGo (runesF s p) st) ∧ Own Kd.word 140 wr (w.heap.size + 1) NoT o st.out ∧ Below w.heap.size w wr) (fun _ _ _ wr => s.size - wr.iterPos w.heap.size)
  case atStart => exact ⟨0, [], ⟨[], false, 0⟩, World.iter_heap w s 0, Mid.start s, rfl, rfl, rfl, Nat.le_refl _, (fun h => by cases h), (fun y hy => by cases hy), rfl, Own.nil _ _ _ _ _, bAlloc (Below.refl _ _) _⟩
  case round =>
    obtain ⟨p, l, st, hk, HM0, rfl, rfl, HN, HO, HR, HT, HG, hO, hb⟩ := hrel
    have hip := iterPos_of hk
    by_cases hp : p < s.size
    · have hnx := fun ty => run_next_any_at (P := Tryz.prog) wr w.heap.size s p ty hk hp
      have h200 := len200 HM0.out hs hp
      have HM := hid (HM0.out.step hp)
      have hwd := dec_w s p
      have hend := dec_end s p hp
      have HK := hid (iterAt_heap wr w.heap.size s p (p + (Utf8.decode s p).2) hk)
      have HB := hid (below_iterAt hb (Nat.le_refl _) s (p + (Utf8.decode s p).2))
      have HQ := hid (hO.move (w1 := wr.iterAt w.heap.size s (p + (Utf8.decode s p).2)) (fun b hb _ => iterAt_other wr w.heap.size b s _ (fun e => by
        subst e
        rcases hb with hb | hb
        · exact hb.elim
        · have := (hO.lt _ hb).1; omega)) (fun _ h _ => h))
      have hcons := hid (runesF_cons hp)
      have hodd := hid (rune_odd s p)
      have hrc := hid (rune_cut s p hp)
      have hn200 : st.n < 200 := by rw [HN.out]; exact h200
      have ho200 : st.out.length ≤ 200 := by have := HO.out; omega
      obtain ⟨out, run, n⟩ := st
      simp only at hn200 ho200 HN HO HR HT HG HQ ⊢
      obtain ⟨W, hW⟩ : ∃ W, W = wr.iterAt w.heap.size s (p + (Utf8.decode s p).2) := ⟨_, rfl⟩
      rw [← hW] at HK HB HQ
      have hWs : w.heap.size < W.heap.size := (Array.getElem?_eq_some_iff.1 HK.out).1
      have HWW := hid hW
      have hst2 : Hid (∀ t, letterB (runeAt s p).C = t → True) := fun _ _ => trivial
      clear hst2
      rw [← hW] at hnx
      obtain ⟨c, hc⟩ : ∃ c, c = (runeAt s p).C := ⟨_, rfl⟩
      have hcd : ((Utf8.decode s p).1 : Int) = c := hc.symm
      rw [← hc] at hodd hrc
      have HC := hid hc
      obtain ⟨wd, hwdd⟩ : ∃ wd, wd = (Utf8.decode s p).2 := ⟨_, rfl⟩
      rw [← hwdd] at hwd hend HM HK HWW hrc
      have HWD := hid hwdd
      have hlc : 0 ≤ c ∧ c ≤ 1114111 := by rw [hc]; have := dec_c s p; exact ⟨by show (0:Int) ≤ ((Utf8.decode s p).1 : Int); omega, by show ((Utf8.decode s p).1 : Int) ≤ _; omega⟩
      clear hc hwdd hW hk hO hb
      cases hl : letterB c
      case true =>
        obtain ⟨hcut, hsz⟩ := hrc.out hl
        have hpp : p + wd ≤ s.size := hend
        have hpi : (p : Int) ≤ 200 := by omega
        cases run
        case false =>
          go_wp2_with fail
          refine (letter_calls c _).mono ?_
          rintro e w1 ⟨rfl, rfl⟩
          rw [hl]
          have hO1 := HQ.out
          go_wp2_with (at_builtin; go_must (refine append_arm Kd.word (w0 := W) (w.heap.size + 1) rfl _ _ 112 140 _ 24 rfl Tryz.underlying112 Tryz.infoWord rfl (by decide) (by decide) u5 out ⟨⟨#[]⟩, n⟩ _ NoT NoT rfl rfl rfl (fun _ h => h.elim) hO1 (Below.refl _ _) (by omega) (by omega) ?_))
          intro v1 w2 hO2 hb2 _ _
          have H22 := hid hO2
          clear hO1 hO2
          have HB2 := hid hb2
          clear hb2
          obtain ⟨k, hk⟩ : ∃ k, k + 1 = (out ++ [(⟨⟨#[]⟩, n⟩ : WordS)]).length := ⟨out.length, by simp⟩
          have hko : k = out.length := by simp at hk; omega
          obtain ⟨x, hxx⟩ : ∃ x : WordS, x = ⟨⟨#[]⟩, n⟩ := ⟨_, rfl⟩
          have hx : (out ++ [(⟨⟨#[]⟩, n⟩ : WordS)])[k]? = some x := by rw [hko, hxx]; simp
          obtain ⟨b, m, cp, rfl, hmk, hcap, hbl, hbb, c0, f0, hL⟩ := word_last H22.out k x hk hx
          obtain ⟨t, hc0⟩ : ∃ t, Utf8.encode c = t := ⟨_, rfl⟩
          have HG2 := hid (HG.out.trans (show _ = lexGo (runesF s (p + wd)) ⟨(out ++ [(⟨⟨#[]⟩, n⟩ : WordS)]).set k ⟨x.text ++ t, x.at_⟩, true, n + 1⟩ by
            have e1 : (out ++ [(⟨⟨#[]⟩, n⟩ : WordS)]).set k ⟨x.text ++ t, x.at_⟩ = out ++ [⟨t, n⟩] := by
              rw [hko, hxx]; simp; exact ByteArray.empty_append
            rw [hcons.out, lexGo_letter (by rw [← HC.out]; exact hl) rfl, HWD.out, ← HC.out, hc0, e1]))
          have HL := hid hL
          have HKN := hid hk
          have HTX := hid (text_snoc (x := ⟨⟨#[]⟩, n⟩) HT.out (by show (ByteArray.mk #[]).size ≤ _; exact Nat.zero_le _))
          have hx9 : x.text.size ≤ 800 := by rw [hxx]; exact Nat.zero_le _
          have HX8 := hid (show x.text.size ≤ 4 * n by rw [hxx]; exact Nat.zero_le _)
          have hm5 : (m : Int) ≤ 300 := by simp at hk; omega
          have HK2 := hid ((HB2.out.block _ (by omega)).trans HK.out)
          clear hx hk hL hko hxx

          have hmI : (m : Int) = (k : Int) + 1 := by rw [hmk]; rfl
          have hm1 : (1 : Int) ≤ (m : Int) := by omega
          have hmc : (m : Int) ≤ (cp : Int) := by omega
          have hm2 : ((m : Int) - 1).toNat = k := by omega
          have hm3 : (m : Int) - 1 < (m : Int) := by omega
          have hm4 : (0 : Int) ≤ (m : Int) - 1 := by omega
          have hs3 : (p : Int) + (wd : Int) ≤ (s.size : Int) := by omega
          have hs6 : (p : Int) ≤ (p : Int) + (wd : Int) := by omega
          have hs7 : (0 : Int) ≤ (p : Int) + (wd : Int) := by omega
          have hs8 : p ≤ p + wd := by omega
          have hs5 : ((p : Int) + (wd : Int)).toNat = p + wd := by omega
          clear hmI hmk
          rw [hc0] at hcut hsz
          have hcut2 := hcut.symm
          clear hcut

          go_wp2_with fail
          refine wp_tail 14 (by kernel_rfl) (by kernel_rfl) ?_
          have hx11 : ¬ 9223372036854775807 < x.text.size + wd := by omega
          have hw1 : IntKind.i64.wrap ((p : Int) + (wd : Int)) = p + wd := IntWalk.i64_in _ (by omega)
          simp only [List.take_succ_cons, List.take_zero, List.drop_succ_cons, List.drop_zero]
          repeat (refine wpStill_step (fun K hK => ?_); go_simp; refine hK _ ?_; clear hK K)
          refine wpStill_nil ?_
          clear hw1

          have HIT := hid (show (w2.setCell ⟨b, k * 2, none⟩ (.string (x.text ++ t))).drew.heap[w.heap.size]? = some (.stringIter s (p + wd)) from (Below.heap_setCell w2 _ _ _ (by show w.heap.size ≠ b; omega)).trans HK2.out)
          go_wp2
          go_roundw
          case rel => exact ⟨p + wd, _, ⟨(out ++ [(⟨⟨#[]⟩, n⟩ : WordS)]).set k ⟨x.text ++ t, x.at_⟩, true, n + 1⟩, HIT.out, HM.out, rfl, by go_num, hid (by rw [HN.out]; simp), hid (by have := HO.out; simp; try omega), hid (fun _ => by simp; try omega), hid (text_set2 HTX.out (by show (x.text ++ t).size ≤ _; rw [ByteArray.size_append, hsz]; have := HX8.out; omega)), HG2, (HL.out _).drewN 1, below_drewN ((HB.out.trans (HB2.out.mono (by omega))).setCell (p := ⟨b, k * 2, none⟩) (show w.heap.size ≤ b by omega) _) 1⟩
          case measure => rw [hip, iterPos_of HIT.out]; omega
        case true =>
          have hpos := HR.out rfl
          obtain ⟨k, hk⟩ : ∃ k, k + 1 = out.length := ⟨out.length - 1, by omega⟩
          obtain ⟨x, hx⟩ : ∃ x, out[k]? = some x := ⟨out[k]'(by omega), List.getElem?_eq_getElem (by omega)⟩
          obtain ⟨b, m, cp, rfl, hmk, hcap, hbl, hbb, c0, f0, hL⟩ := word_last HQ.out k x hk hx
          obtain ⟨t, hc0⟩ : ∃ t, Utf8.encode c = t := ⟨_, rfl⟩
          have HG2 := hid (HG.out.trans (show _ = lexGo (runesF s (p + wd)) ⟨out.set k ⟨x.text ++ t, x.at_⟩, true, n + 1⟩ by rw [hcons.out, lexGo_more (by rw [← HC.out]; exact hl) rfl, HWD.out, ← HC.out, hc0, growL_last hk hx]))
          have HL := hid hL
          have HKN := hid hk
          have hx8 := HT.out x (List.mem_of_getElem? hx)
          have hx9 : x.text.size ≤ 800 := by omega
          have HX8 := hid hx8
          clear hx8
          have hm5 : (m : Int) ≤ 300 := by omega
          clear hx hk hL

          have hmI : (m : Int) = (k : Int) + 1 := by rw [hmk]; rfl
          have hm1 : (1 : Int) ≤ (m : Int) := by omega
          have hmc : (m : Int) ≤ (cp : Int) := by omega
          have hm2 : ((m : Int) - 1).toNat = k := by omega
          have hm3 : (m : Int) - 1 < (m : Int) := by omega
          have hm4 : (0 : Int) ≤ (m : Int) - 1 := by omega
          have hs3 : (p : Int) + (wd : Int) ≤ (s.size : Int) := by omega
          have hs6 : (p : Int) ≤ (p : Int) + (wd : Int) := by omega
          have hs7 : (0 : Int) ≤ (p : Int) + (wd : Int) := by omega
          have hs8 : p ≤ p + wd := by omega
          have hs5 : ((p : Int) + (wd : Int)).toNat = p + wd := by omega
          clear hmI hmk
          rw [hc0] at hcut hsz
          have hcut2 := hcut.symm
          clear hcut

          go_wp2_with fail
          refine (letter_calls c _).mono ?_
          rintro e w1 ⟨rfl, rfl⟩
          rw [hl]

          go_wp2_with fail
          refine wp_tail 14 (by kernel_rfl) (by kernel_rfl) ?_
          have hx11 : ¬ 9223372036854775807 < x.text.size + wd := by omega
          have hw1 : IntKind.i64.wrap ((p : Int) + (wd : Int)) = p + wd := IntWalk.i64_in _ (by omega)
          simp only [List.take_succ_cons, List.take_zero, List.drop_succ_cons, List.drop_zero]
          repeat (refine wpStill_step (fun K hK => ?_); go_simp; refine hK _ ?_; clear hK K)
          refine wpStill_nil ?_
          clear hw1

          have HIT := hid (show (W.setCell ⟨b, k * 2, none⟩ (.string (x.text ++ t))).drew.heap[w.heap.size]? = some (.stringIter s (p + wd)) from (Below.heap_setCell W _ _ _ (by show w.heap.size ≠ b; omega)).trans HK.out)
          go_wp2
          go_roundw
          case rel => exact ⟨p + wd, _, ⟨out.set k ⟨x.text ++ t, x.at_⟩, true, n + 1⟩, HIT.out, HM.out, rfl, by go_num, hid (by rw [HN.out]; simp), hid (by have := HO.out; simp; try omega), hid (fun _ => by simp; try omega), hid (text_set HT.out (by show (x.text ++ t).size ≤ _; rw [ByteArray.size_append, hsz]; have := HX8.out; omega)), HG2, (HL.out _).drewN 1, below_drewN (HB.out.setCell (p := ⟨b, k * 2, none⟩) (show w.heap.size ≤ b by omega) _) 1⟩
          case measure => rw [hip, iterPos_of HIT.out]; omega
      case false =>
        by_cases h32 : c = 32
        · subst h32
          have HG2 := hid (HG.out.trans (show _ = lexGo (runesF s (p + wd)) ⟨out, false, n + 1⟩ by rw [hcons.out, lexGo_blank HC.out.symm, HWD.out]))
          go_wp2_with fail
          refine (letter_calls 32 _).mono ?_
          rintro e w1 ⟨rfl, rfl⟩
          rw [hl]
          go_wp2
          go_roundw
          case rel => exact ⟨p + wd, _, ⟨out, false, n + 1⟩, HK.out, HM.out, rfl, by go_num, hid (by rw [HN.out]; simp), hid (by have := HO.out; show out.length ≤ n + 1; omega), hid (fun h => by cases h), hid (fun y hy => by have := HT.out y hy; show _ ≤ 4 * (n + 1); omega), HG2, HQ.out, HB.out⟩
          case measure => rw [hip, iterPos_of HK.out]; omega
        · have h32b : (c == 32) = false := by rw [beq_eq_false_iff_ne]; exact h32
          have hod := hodd.out hl
          cases hs1 : signB c
          case true =>
            have HG2 := hid (HG.out.trans (show _ = lexGo (runesF s (p + wd)) ⟨out ++ [⟨Utf8.encode c, n⟩], false, n + 1⟩ by rw [hcons.out, lexGo_sign (by rw [← HC.out]; exact hs1), HWD.out, HC.out]))
            go_wp2_with fail
            refine (letter_calls c _).mono ?_
            rintro e w1 ⟨rfl, rfl⟩
            rw [hl]
            go_wp2_with fail
            refine (contains_calls c hod _).mono ?_
            rintro e w1 ⟨rfl, hb1⟩
            rw [hs1]
            have hO1 := HQ.out.below hb1
            have h1 := hb1.size
            have HB1 := hid hb1
            clear hb1
            go_wp2_with (at_builtin; go_must (refine append_arm Kd.word (w0 := w1) (w.heap.size + 1) rfl _ _ 112 140 _ 24 rfl Tryz.underlying112 Tryz.infoWord rfl (by decide) (by decide) u5 out ⟨Utf8.encode c, n⟩ _ NoT NoT rfl rfl rfl (fun _ h => h.elim) hO1 (Below.refl _ _) (by omega) (by omega) ?_))
            intro v1 w2 hO2 hb2 _ _
            go_wp2
            go_roundw
            case rel => exact ⟨p + wd, _, ⟨out ++ [⟨Utf8.encode c, n⟩], false, n + 1⟩, ((hb2.block _ (by omega)).trans ((HB1.out.block _ hWs).trans HK.out)), HM.out, rfl, by go_num, hid (by rw [HN.out]; simp), hid (by have := HO.out; simp; try omega), hid (fun h => by cases h), hid (text_snoc HT.out (by have := encode_size_le c; show (Utf8.encode c).size ≤ _; omega)), HG2, hO2, HB.out.trans ((HB1.out.mono (by omega)).trans (hb2.mono (by omega)))⟩
            case measure => rw [hip, iterPos_of ((hb2.block _ (by omega)).trans ((HB1.out.block _ hWs).trans HK.out))]; omega
          case false =>
            have HG2 := hid (HG.out.trans (show _ = ([], (n : Int), 3) by rw [hcons.out, lexGo_bad (by rw [← HC.out]; exact hl) (by rw [← HC.out]; exact h32) (by rw [← HC.out]; exact hs1)]))
            go_wp2_with fail
            refine (letter_calls c _).mono ?_
            rintro e w1 ⟨rfl, rfl⟩
            rw [hl]
            go_wp2_with fail
            refine (contains_calls c hod _).mono ?_
            rintro e w1 ⟨rfl, hb1⟩
            rw [hs1]
            go_wp2
            go_ret3
            rw [HW.out, HG2.out]
            exact ⟨_, rfl, Own.nil _ _ _ _ _, HB.out.trans (hb1.mono (by omega))⟩
    · have hnx := fun ty => run_next_end_at (P := Tryz.prog) wr w.heap.size s p ty hk hp
      have HE := hid (show lexGo (runesF s p) st = (st.out, 0, 0) by rw [runesF_end hp]; rfl)
      go_wp2
      go_ret3
      rw [HW.out, HG.out, HE.out]
      exact ⟨_, rfl, hO.lower (Nat.le_succ _), hb⟩

theorem lexWords_calls (s : ByteArray) (w : World) (hs : s.size ≤ 140737488351232) :
    Calls Tryz.prog 67 #[.string s] w fun e w' => ∃ v, e = .returned (.tuple #[v, .int .i64 (wordsS s).2.1, .int .i64 (wordsS s).2.2]) ∧ Own Kd.word 140 w' w.heap.size NoT v (wordsS s).1 ∧ Below w.heap.size w w' := by
  rcases Nat.lt_or_ge 200 s.size with h | h
  · exact lexWords_long s w h hs
  · exact lexWords_short s w h
end Go.Proofs.YtgedkcglkhleoaaGreatDoor
