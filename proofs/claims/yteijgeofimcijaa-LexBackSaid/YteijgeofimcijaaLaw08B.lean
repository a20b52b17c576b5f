/- The law LexBack. -/
import Derived.Test.YteijgeofimcijaaLexJ
import Derived.Test.YteijgeofimcijaaU8
namespace Go.Proofs.Yteijgeofimcijaa
open Go.RowKit Go.Lib

def pickW (m : List WordS) (o : UInt8) : WordS := m[o.toNat % m.length]?.getD ⟨⟨#[]⟩, 0⟩
theorem pickW_at {m : List WordS} (hm : 0 < m.length) (o : UInt8) : m[o.toNat % m.length]? = some (pickW m o) := by
  unfold pickW
  rw [List.getElem?_eq_getElem (Nat.mod_lt _ hm)]; rfl
def pickK (m : List WordS) (order : List UInt8) (k : Nat) : List WordS := (order.take k).map (pickW m)
theorem pickW_mem {m : List WordS} (hm : 0 < m.length) (o : UInt8) : pickW m o ∈ m := List.mem_of_getElem? (pickW_at hm o)
theorem Kd.Row.at_u8 {w : World} {S : Nat → Prop} {A : Option Addr} {xs : List UInt8} (h : Kd.u8.Row w S A xs) (i : Nat) (x : UInt8) (hx : xs[i]? = some x) : ∃ a, A = some a ∧ w.cell? (a.add i) = some (.int .u8 x.toNat) := by
  obtain ⟨a, cs, h1, _, _, h4, h5⟩ := h i x hx
  cases h4
  exact ⟨a, h1, by have := h5 0 _ rfl; rwa [show i * Kd.u8.sz + 0 = i from mul_one' i] at this⟩

set_option maxHeartbeats 4000000 in
set_option maxRecDepth 100000 in
theorem lexBackLaw (s : ByteArray) (order : List UInt8) (v : Value) (w : World) (hs0 : s.size ≤ 140737488351232) (ho : Kd.u8.slice.K w Any order [v]) :
    Calls Try.prog 4 #[.string s, v] w fun e w' => e = .returned (.bool true) ∧ Below w.heap.size w w' := by
  obtain ⟨m, kk, f, hl⟩ : ∃ l k f, wordsS s = (l, k, f) := ⟨_, _, _, rfl⟩
  have HL := hid hl
  have hwok := hid (words_ok s)
  have hwsz := hid (words_size s)
  rw [hl] at hwok hwsz
  clear hl
  obtain ⟨Ao, co, he, hco, hmo, hro⟩ := ho
  cases he
  obtain ⟨n, hn⟩ : ∃ n, order.length = n := ⟨_, rfl⟩
  have HN := hid hn
  have HRO := hid hro
  rw [hn] at hco hmo ⊢
  clear hro hn
  go_enter Try.func4, Try.ntmps4
  go_wp2_with fail
  refine (rwords_calls s _ hs0).mono ?_
  rintro e w1 ⟨v5, rfl, hO, hb1⟩
  rw [HL.out] at hO ⊢
  dsimp only at hO ⊢
  obtain ⟨A, cm, he, hcm, hmm, hrm⟩ := Kd.any hO.K
  cases he
  obtain ⟨q, hq⟩ : ∃ q, m.length = q := ⟨_, rfl⟩
  have HQ := hid hq
  have HRM := hid hrm
  have HB1 := hid hb1
  rw [hq] at hcm hmm ⊢
  clear hO hb1 hrm hq
  by_cases hbad : f ≠ 0 ∨ q = 0 ∨ 30 < n
  · have fin : ∀ (W : World), Below w.heap.size w W → True := fun _ _ => trivial
    by_cases h1 : f = 0
    · have h1b : (f != 0) = false := by rw [h1]; rfl
      by_cases h2 : q = 0
      · have h2b : ((q : Int) == 0) = true := by rw [h2]; rfl
        clear hbad h1 h2
        go_wp2_with fail
        refine (works08_calls _).mono ?_
        rintro e w2 ⟨rfl, hb2⟩
        go_wp2
        go_ret
        exact ⟨rfl, bThen HB1.out hb2⟩
      · have h2b : ((q : Int) == 0) = false := by rw [beq_eq_false_iff_ne]; omega
        have h3 : (30 : Int) < (n : Int) := by rcases hbad with h | h | h <;> omega
        clear hbad h1 h2
        go_wp2_with fail
        refine (works08_calls _).mono ?_
        rintro e w2 ⟨rfl, hb2⟩
        go_wp2
        go_ret
        exact ⟨rfl, bThen HB1.out hb2⟩
    · have h1b : (f != 0) = true := by rw [bne_iff_ne]; exact h1
      clear hbad h1
      go_wp2_with fail
      refine (works08_calls _).mono ?_
      rintro e w2 ⟨rfl, hb2⟩
      go_wp2
      go_ret
      exact ⟨rfl, bThen HB1.out hb2⟩
  have h1b : (f != 0) = false := by rw [show f = 0 by omega]; rfl
  have h2b : ((q : Int) == 0) = false := by rw [beq_eq_false_iff_ne]; omega
  have hq0 : 0 < q := by omega
  have h3 : ¬ (30 : Int) < (n : Int) := by omega
  have hn30 : n ≤ 30 := by omega
  clear hbad
  have HP := hid (fun k => show (∀ t ∈ textsW (pickK m order k), (∃ cs, t = encs cs ∧ WOK cs) ∧ t.size ≤ 800) from by
    intro t ht
    unfold textsW pickK at ht
    obtain ⟨x, hx, rfl⟩ := List.mem_map.1 ht
    obtain ⟨o, _, rfl⟩ := List.mem_map.1 hx
    have := pickW_mem (m := m) (by rw [HQ.out]; exact hq0) o
    exact ⟨hwok.out _ this, hwsz.out _ this⟩)
  have HT := hid (show pickK m order n = order.map (pickW m) by unfold pickK; rw [List.take_of_length_le (by rw [HN.out]; exact Nat.le_refl _)])
  go_wp2
  go_loopw [8, 9, 10, 11] (fun o8 o9 at_ i wr => ∃ k z : Nat, k ≤ n ∧ z ≤ k * 801 ∧ i = .int .i64 k ∧ at_ = .int .i64 z ∧ Hid (z = nextAt (textsW (pickK m order k)) 0) ∧
    Hid (Own Kd.word 36 wr w1.heap.size NoT o8 (pickK m order k)) ∧ Hid (Own Kd.word 35 wr w1.heap.size NoT o9 (placedT (textsW (pickK m order k)) 0)) ∧ Hid (∀ b, o8.ownBlock = some b → o9.ownBlock ≠ some b) ∧ Hid (Below w1.heap.size w1 wr)) (fun _ _ _ i _ => n - (intOf i).toNat)
  case atStart => exact ⟨0, 0, by omega, by omega, rfl, rfl, rfl, Own.nil _ _ _ _ _, Own.nil _ _ _ _ _, (fun b hb => by cases hb), Below.refl _ _⟩
  case round =>
    obtain ⟨k, z, hk, hz, rfl, rfl, HZ, HO8, HO9, HNE, HB⟩ := hrel
    by_cases hlt : k < n
    · obtain ⟨o, hoo⟩ : ∃ o, order[k]? = some o := ⟨order[k]'(by rw [HN.out]; exact hlt), List.getElem?_eq_getElem _⟩
      obtain ⟨ao, rfl, o0⟩ := (HRO.out.below (bThen HB1.out HB.out)).at_u8 k o hoo
      have hx := pickW_at (m := m) (by rw [HQ.out]; exact hq0) o
      rw [HQ.out] at hx
      obtain ⟨a, rfl, r0, r1⟩ := (HRM.out.below HB.out).at_word _ _ hx
      obtain ⟨j, hj⟩ : ∃ j, j = o.toNat % q := ⟨_, rfl⟩
      have hjq : j < q := by rw [hj]; exact Nat.mod_lt _ hq0
      have hjI : ((o.toNat : Int) % (q : Int)) = (j : Int) := by rw [hj]; simp
      rw [← hj] at r0 r1
      obtain ⟨x, hxx⟩ : ∃ x, x = pickW m o := ⟨_, rfl⟩
      rw [← hxx] at r0 r1
      have hst : pickK m order (k + 1) = pickK m order k ++ [x] := by unfold pickK; rw [take_snoc hoo, List.map_append, hxx]; rfl
      have HST := hid hst
      have HTX := hid (show textsW (pickK m order (k + 1)) = textsW (pickK m order k) ++ [x.text] by rw [hst]; unfold textsW; rw [List.map_append]; rfl)
      have hxs : x.text.size ≤ 800 := ((HP.out (k + 1)) x.text (by rw [HTX.out]; simp)).2
      have hrl := runes_len x.text
      have hoI : (o.toNat : Int) < 256 := by have := o.toNat_lt; omega
      have hqI : (0 : Int) < (q : Int) := by omega
      have hjqI : (j : Int) < (q : Int) := by omega
      have hln : ((pickK m order k).length) = k := by unfold pickK; rw [List.length_map, List.length_take, HN.out]; omega
      have hln2 : (placedT (textsW (pickK m order k)) 0).length = k := by
        have := congrArg List.length (placedT_text (textsW (pickK m order k)) 0)
        rw [List.length_map] at this
        rw [this]; unfold textsW; rw [List.length_map, hln]
      have HLN := hid hln
      have HLN2 := hid hln2
      have hws := HB.out.size
      clear hx hoo hj hxx hst hln hln2
      have SZ := hid (fun (W : World) (o : Obj) => congrArg (fun k => Value.slice (some ⟨k, 0, none⟩) 1 1) (World.size_alloc W o).symm)
      go_wp2_with (at_builtin; go_must (refine append_arm Kd.word (w0 := w1) w1.heap.size rfl _ _ 33 36 _ 24 rfl Try.underlying33 Try.infoWord rfl (by decide) (by decide) u8 (pickK m order k) x _ NoT NoT rfl (by exact SZ.out wr _) rfl (fun _ h => h.elim) (HO8.out.alloc _) (HB.out.alloc hws _) (by simp; omega) (by rw [HLN.out]; omega) ?_))
      intro v1 w2 hO2 hb2 hg2 hat2
      have hn8 : ∀ b, u8.ownBlock = some b → b < wr.heap.size := fun b hb => (HO8.out.lt b hb).2
      have hn9 : ∀ b, u9.ownBlock = some b → b < wr.heap.size := fun b hb => (HO9.out.lt b hb).2
      have hs2 := hg2.size
      rw [World.size_alloc] at hs2
      have hbx2 := (hg2.block wr.heap.size (by simp) (fun e => by have := hn8 _ e.symm; omega)).trans (heap_at rfl)
      have HO9b := hid (HO9.out.move (w1 := w2) (fun b hb hl => (hg2.block b (by simp; omega) (fun e => by
        rcases hb with hb | hb
        · exact hb.elim
        · exact HNE.out b e.symm hb)).trans (Below.heap_alloc _ _ _ hl)) (fun _ h _ => h))
      rw [← HST.out] at hO2
      have HO2 := hid hO2
      have HB2 := hid hb2
      have HAT2 := hid (show ∀ b, v1.ownBlock = some b → u8.ownBlock = some b ∨ wr.heap.size + 1 ≤ b from fun b hb => by
        rcases hat2 with h | ⟨b', h, hle⟩
        · exact .inl (h ▸ hb)
        · rw [h] at hb; injection hb with hb; subst hb; exact .inr (by simpa using hle))
      obtain ⟨y0, _, _⟩ := cells_of_block hbx2
      have y00 := y0 0 _ rfl
      have y01 := y0 1 _ rfl
      have HBX2 := hid hbx2
      have HN8 := hid hn8
      have HN9 := hid hn9
      clear hO2 hb2 hg2 hat2 hbx2 y0 hn8 hn9 r0 r1 o0
      go_wp2_with (at_builtin; go_must (refine append_arm Kd.word (w0 := w1) w1.heap.size rfl _ _ 30 35 _ 24 rfl Try.underlying30 Try.infoWord8 rfl (by decide) (by decide) u9 (placedT (textsW (pickK m order k)) 0) ⟨x.text, z⟩ _ NoT NoT rfl rfl rfl (fun _ h => h.elim) HO9b.out HB2.out HB2.out.size (by rw [HLN2.out]; omega) ?_))
      intro v2 w3 hO3 hb3 hg3 hat3
      have hs3 := hg3.size
      have hbx3 := (hg3.block wr.heap.size (by omega) (fun e => by have := HN9.out _ e.symm; omega)).trans HBX2.out
      obtain ⟨y0, _, _⟩ := cells_of_block hbx3
      have y02 := y0 0 _ rfl
      have HO2b := hid (HO2.out.move (w1 := w3) (fun b hb hl => hg3.block b hl (fun e => by
        rcases hb with hb | hb
        · exact hb.elim
        · rcases HAT2.out b hb with h | h
          · exact HNE.out b h e.symm
          · have := HN9.out b e.symm; omega)) (fun _ h _ => h))
      have hpl : placedT (textsW (pickK m order k)) 0 ++ [⟨x.text, (z : Int)⟩] = placedT (textsW (pickK m order (k + 1))) 0 := by rw [HTX.out, placedT_snoc, ← HZ.out]
      rw [hpl] at hO3
      have HO3 := hid hO3
      have HB3 := hid hb3
      have HNE3 := hid (show ∀ b, v1.ownBlock = some b → v2.ownBlock ≠ some b from fun b hb h2 => by
        have hlt1 := (HO2.out.lt b hb).2
        rcases hat3 with h | ⟨b', h, hle⟩
        · rw [h] at h2
          rcases HAT2.out b hb with h' | h'
          · exact HNE.out b h' h2
          · have := HN9.out b h2; omega
        · rw [h] at h2; injection h2 with h2; subst h2; omega)
      have HZ3 := hid (show z + (runes x.text).length + 1 = nextAt (textsW (pickK m order (k + 1))) 0 by rw [HTX.out, nextAt_snoc, ← HZ.out])
      clear hO3 hb3 hg3 hat3 hbx3 y0 y00 y01 hpl
      go_wp2_with fail
      refine (runes_calls x.text _ (by omega)).mono ?_
      rintro e w4 ⟨v, rfl, hO, hb4⟩
      obtain ⟨A4, c4, rfl, _, _⟩ := runes_own_at hO
      have HB4 := hid (HB3.out.trans (hb4.mono HB3.out.size))
      have HO2c := hid (HO2b.out.below hb4)
      have HO3c := hid (HO3.out.below hb4)
      clear hO hb4
      go_wp2
      go_roundw
      case rel => exact ⟨k + 1, z + (runes x.text).length + 1, by omega, by omega, by go_num, by go_num, HZ3, HO2c, HO3c, HNE3, HB4⟩
      case measure => simp [intOf]; omega
    · obtain rfl : k = n := by omega
      rw [HT.out] at HZ HO8 HO9
      have HP2 := hid (HP.out k)
      rw [HT.out] at HP2
      obtain ⟨T, hT⟩ : ∃ T, T = textsW (order.map (pickW m)) := ⟨_, rfl⟩
      rw [← hT] at HP2 HO9
      have hTl : T.length ≤ 30 := by rw [hT]; unfold textsW; rw [List.length_map, List.length_map, HN.out]; exact hn30
      have hJ := joinB_size T (fun t ht => (HP2.out t ht).2)
      have hJ2 : (joinB T).length ≤ 24030 := by omega
      have HJW := hid (joined_words T (fun t ht => (HP2.out t ht).1))
      have hTT := hid hT
      obtain ⟨A8, n8, c8, rfl, hq1, hq2⟩ := HO8.out.shape'
      obtain ⟨A9, n9, c9, rfl, hq3, hq4⟩ := HO9.out.shape'
      have HK8 := hid (Kd.any HO8.out.K)
      have HK9 := hid (Kd.any HO9.out.K)
      have hws := HB.out.size
      clear hq1 hq2 hq3 hq4 hT hJ HO8 HO9
      go_wp2_with fail
      refine (lexJoin_calls _ _ _ HK8.out (by rw [← hTT.out]; omega)).mono ?_
      rintro e w2 ⟨rfl, hb2⟩
      rw [← hTT.out]
      have HB2 := hid (HB.out.trans (hb2.mono hws))
      have HK9b := hid (Kd.below HK9.out hb2)
      have hws2 := HB2.out.size
      clear hb2
      go_wp2_with fail
      refine (rJoin_calls _ _ _ HK9b.out (show (joinB (textsW (placedT T 0))).length ≤ 140737488355328 from by rw [show textsW (placedT T 0) = T from placedT_text T 0]; exact Nat.le_trans hJ2 (by decide))).mono ?_
      rintro e w3 ⟨rfl, rfl⟩
      rw [show textsW (placedT T 0) = T from placedT_text T 0]
      obtain ⟨t, ht⟩ : ∃ t, t = mkB (joinB T) := ⟨_, rfl⟩
      have hts : t.size = (joinB T).length := by rw [ht]; exact mkB_size _
      have HJ2 := hid (show wordsS t = if 200 < (joinB T).length then ([], 0, 4) else (placedT T 0, 0, 0) from by rw [ht]; exact HJW.out)
      have e1 : (t.toList != t.toList) = false := bne_self_eq_false _
      have e1' : (t.toList == t.toList) = true := beq_self_eq_true _
      rw [← ht]
      clear ht
      have htz : t.size ≤ 140737488351232 := by omega
      have HTS := hid hts
      clear hts
      by_cases hbig : 200 < t.size
      · rw [if_pos (by rw [← HTS.out]; exact hbig)] at HJ2
        go_wp2_with fail
        refine (lexWords_calls t _ htz).mono ?_
        rintro e w3 ⟨v, rfl, hO, hb3⟩
        rw [HJ2.out] at hO ⊢
        dsimp only at hO ⊢
        obtain ⟨A3, c3, rfl, hcc⟩ := hO.shape
        have HB3 := hid (HB2.out.trans (hb3.mono hws2))
        clear hO hb3 hcc
        go_wp2_with fail
        refine (works08_calls _).mono ?_
        rintro e w4 ⟨rfl, hb4⟩
        go_wp2
        go_ret
        exact ⟨rfl, bThen (HB1.out.trans (HB3.out.mono HB1.out.size)) hb4⟩
      · rw [if_neg (by rw [← HTS.out]; exact hbig)] at HJ2
        go_wp2_with fail
        refine (lexWords_calls t _ htz).mono ?_
        rintro e w3 ⟨v, rfl, hO, hb3⟩
        rw [HJ2.out] at hO ⊢
        dsimp only at hO ⊢
        have HB3 := hid (HB2.out.trans (hb3.mono hws2))
        have HK3 := hid (Kd.any hO.K)
        have HK9c := hid (Kd.below HK9b.out hb3)
        obtain ⟨A3, n3, c3, rfl, hq1, hq2⟩ := hO.shape'
        clear hO hb3 hq1 hq2
        go_wp2_with fail
        refine (lsame_calls _ _ _ _ HK3.out HK9c.out).mono ?_
        rintro e w4 ⟨rfl, n4, rfl⟩
        go_wp2_with fail
        refine (works08_calls _).mono ?_
        rintro e w5 ⟨rfl, hb5⟩
        go_wp2
        go_ret
        exact ⟨rfl, bThen (below_drewN (HB1.out.trans (HB3.out.mono HB1.out.size)) n4) hb5⟩
theorem lexBack_walk (W : World) (s : ByteArray) (h : s.size ≤ 140737488351232) (order : List UInt8) (v : Value) (ho : Kd.u8.slice.K W Any order [v]) (_w : (∀ y ∈ order, True) ∧ order.length * 1 ≤ 140737488351232) :
    Calls Try.prog 4 #[.string s, v] W fun e w' => e = .returned (.bool true) ∧ Below W.heap.size W w' := lexBackLaw s order v W h ho
end Go.Proofs.Yteijgeofimcijaa
