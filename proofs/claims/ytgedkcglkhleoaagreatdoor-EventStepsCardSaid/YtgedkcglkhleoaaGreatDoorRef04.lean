import Derived.Test.YtgedkcglkhleoaaGreatDoorProg
import Derived.Test.YtgedkcglkhleoaaGreatDoorSize04
namespace Go.Proofs.YtgedkcglkhleoaaGreatDoor
open Go.RowKit

theorem two_ints {a b c d : Int} (h1 : a = c) (h2 : b = d) : Ending.returned (.tuple #[.int .i64 a, .int .i64 b]) = Ending.returned (.tuple #[.int .i64 c, .int .i64 d]) := by rw [h1, h2]

set_option maxHeartbeats 1000000 in
set_option maxRecDepth 100000 in
theorem rfirst_calls (s : ByteArray) (w : World) (hs : 0 < s.size) :
    Calls Tryz.prog 74 #[.string s] w fun e w' => e = .returned (.tuple #[.int .i64 ((Utf8.decode s 0).1 : Int), .int .i64 ((Utf8.decode s 0).2 : Int)]) ∧ ∃ n, w' = w.drewN n := by
  have hb := bN_at s
  have hl := bN_lt s 0
  rcases dec_any s 0 with h | h | h | h | ⟨h1, h2, h3, h4⟩
  · have hv := szR_1 h
    have hd := hid (dec_low h)
    go_enter Tryz.func74, Tryz.ntmps74
    go_wp2_with fail
    refine (rsize_calls s _ hs).mono ?_
    rintro e w1 ⟨rfl, rfl⟩
    rw [hv]
    clear hv
    go_wp2
    go_ret2
    rw [hd.out]
    exact ⟨rfl, 0, rfl⟩
  · have hv := szR_2 h
    have hd := hid (dec_2 h)
    obtain ⟨a1, a2, a3, a4, a5⟩ := h
    simp only [Nat.zero_add] at hd a3 a4 a5
    go_enter Tryz.func74, Tryz.ntmps74
    go_wp2_with fail
    refine (rsize_calls s _ hs).mono ?_
    rintro e w1 ⟨rfl, rfl⟩
    rw [hv]
    clear hv
    go_wp2
    go_ret2
    rw [hd.out]
    exact ⟨two_ints (by omega) rfl, 0, rfl⟩
  · have hv := szR_3 h
    have hd := hid (dec_3 h)
    obtain ⟨a1, a2, a3, a4, a5, a6, a7, _, _⟩ := h
    simp only [Nat.zero_add] at hd a3 a4 a5 a6 a7
    have a8 : 1 < s.size := by omega
    go_enter Tryz.func74, Tryz.ntmps74
    go_wp2_with fail
    refine (rsize_calls s _ hs).mono ?_
    rintro e w1 ⟨rfl, rfl⟩
    rw [hv]
    clear hv
    go_wp2
    go_quiet (fail)
    go_wp2
    go_ret2
    rw [hd.out]
    exact ⟨two_ints (by omega) rfl, _, rfl⟩
  · have hv := szR_4 h
    have hd := hid (dec_4 h)
    obtain ⟨a1, a2, a3, a4, a5, a6, a7, a8, a9, _, _⟩ := h
    simp only [Nat.zero_add] at hd a3 a4 a5 a6 a7 a8 a9
    have b8 : 1 < s.size := by omega
    have b9 : 2 < s.size := by omega
    go_enter Tryz.func74, Tryz.ntmps74
    go_wp2_with fail
    refine (rsize_calls s _ hs).mono ?_
    rintro e w1 ⟨rfl, rfl⟩
    rw [hv]
    clear hv
    go_wp2
    go_quiet (fail)
    go_wp2
    go_ret2
    rw [hd.out]
    exact ⟨two_ints (by omega) rfl, _, rfl⟩
  · have hv := szR_bad h1 h2 h3 h4
    have hd := hid (dec_bad h1 h2 h3 h4)
    go_enter Tryz.func74, Tryz.ntmps74
    go_wp2_with fail
    refine (rsize_calls s _ hs).mono ?_
    rintro e w1 ⟨rfl, rfl⟩
    rw [hv]
    clear hv
    go_wp2
    go_ret2
    rw [hd.out]
    exact ⟨rfl, 0, rfl⟩

def Kd.rune : Kd RuneS := Kd.flat 3 (fun x => [.int .i64 x.At, .int .i64 x.C, .bool x.Whole]) (fun _ => rfl) (fun x u hu => by simp at hu; rcases hu with rfl | rfl | rfl <;> rfl)

theorem Tryz.infoRune : (Tryz.prog.info? 124).map (fun i => (i.zero, i.size, i.bytes)) = some (some (.agg #[.int .i64 0, .int .i64 0, .bool false]), 3, 24) := by kernel_rfl

set_option maxHeartbeats 1000000 in
set_option maxRecDepth 100000 in
theorem runes_calls (s : ByteArray) (w : World) (hs : s.size * 24 ≤ 140737488351232) :
    Calls Tryz.prog 56 #[.string s] w fun e w' => ∃ v, e = .returned v ∧ Own Kd.rune 124 w' w.heap.size (fun _ => False) v (runes s) ∧ Below w.heap.size w w' := by
  go_enter Tryz.func56, Tryz.ntmps56
  go_wp2
  go_loopw [3, 4] (fun v i wr => ∃ (p : Nat) (l : List RuneS), i = .int .i64 p ∧ Mid s l p ∧ Own Kd.rune 124 wr w.heap.size (fun _ => False) v l ∧ Below w.heap.size w wr) (fun _ i _ => s.size - (intOf i).toNat)
  case atStart => exact ⟨0, [], rfl, Mid.start s, Own.nil _ _ _ _ _, Below.refl _ _⟩
  case round =>
    obtain ⟨p, l, rfl, hm, hO, hb⟩ := hrel
    by_cases hlt : p < s.size
    · have hlen := hm.len_lt hlt
      have hp := hm.1
      have HM := hid (hm.step hlt)
      have hwd := dec_w s p
      have hend := dec_end s p hlt
      have hz := tail_size s p
      have HD := hid (dec_tail s p)
      have HZ := hid (szR_tail s p)
      clear hm
      go_wp2_with fail
      refine (rfirst_calls (tail s p) _ (by omega)).mono ?_
      rintro e w1 ⟨rfl, n1, rfl⟩
      rw [HD.out]
      go_wp2_with fail
      refine (rsize_calls (tail s p) _ (by omega)).mono ?_
      rintro e w1 ⟨rfl, rfl⟩
      rw [HZ.out]
      generalize hz2 : szR s p = z at *
      generalize hd : Utf8.decode s p = dd at *
      have hO1 := hO.drewN n1
      have hb1 := below_drewN hb n1
      clear hO hb
      go_wp2_with (at_builtin; go_must (refine append_arm Kd.rune w.heap.size rfl _ _ 102 124 _ 24 rfl Tryz.underlying102 Tryz.infoRune rfl (by decide) (by decide) u3 l (runeAt s p) _ (fun _ => False) (fun _ => False) rfl rfl ?hp (fun _ h => h.elim) hO1 hb1 hb1.size (by omega) ?_))
      case hp => show _ = _; simp [runeAt, hd, hz2]
      intro v1 w1 hO2 hb2 _ _
      clear hO1 hb1
      go_wp2
      go_roundw
      case rel => exact ⟨p + dd.2, _, by go_num, HM.out, hO2, hb2⟩
      case measure => simp [intOf]; omega
    · have HE := hid (hm.done hlt)
      clear hm
      go_wp2
      go_ret
      exact ⟨_, rfl, by rw [HE.out]; exact hO, hb⟩

/-! ### Letter, Name, Whole, Fold -/
set_option maxHeartbeats 1000000 in
set_option maxRecDepth 100000 in
theorem rletter_calls (c : Int) (w : World) : Calls Tryz.prog 73 #[.int .i64 c] w fun e w' => e = .returned (.bool (letterB c)) ∧ w = w' := by
  go_enter Tryz.func73, Tryz.ntmps73
  go_wp2
  all_goals (go_ret; exact ⟨ret_bool (by rw [Bool.eq_iff_iff]; simp [letterB]; try omega), rfl⟩)

theorem runes_own_at {w : World} {base : Nat} {v : Value} {l : List RuneS} (h : Own Kd.rune 124 w base (fun _ => False) v l) :
    ∃ A c, v = .slice A l.length c ∧ l.length ≤ 140737488355328 ∧ Kd.rune.Row w Any A l := by
  obtain ⟨A, c, he, hc, hn, hr⟩ := Kd.any h.K
  cases he
  exact ⟨A, c, rfl, hn, hr⟩
/-- A rune of a row, its cells as the walk asks for them. -/
theorem Kd.Row.at_rune {w : World} {S : Nat → Prop} {A : Option Addr} {xs : List RuneS} (h : Kd.rune.Row w S A xs) (i : Nat) (hi : i < xs.length) :
    ∃ a x, A = some a ∧ xs[i]? = some x ∧ w.cell? (a.add (i * 3)) = some (.int .i64 x.At) ∧ w.cell? ⟨(a.add (i * 3)).block, (a.add (i * 3)).off + 1, none⟩ = some (.int .i64 x.C) ∧ w.cell? ⟨(a.add (i * 3)).block, (a.add (i * 3)).off + 2, none⟩ = some (.bool x.Whole) := by
  obtain ⟨a, cs, h1, _, _, h4, h5⟩ := h i xs[i] (List.getElem?_eq_getElem hi)
  cases h4
  refine ⟨a, xs[i], h1, List.getElem?_eq_getElem hi, h5 0 _ rfl, ?_, ?_⟩
  · have := h5 1 _ rfl
    rwa [show i * Kd.rune.sz + 1 = i * 3 + 1 from rfl, ← Kd.add_add, Kd.add_lit (a.add (i * 3)) 1 (by decide)] at this
  · have := h5 2 _ rfl
    rwa [show i * Kd.rune.sz + 2 = i * 3 + 2 from rfl, ← Kd.add_add, Kd.add_lit (a.add (i * 3)) 2 (by decide)] at this

end Go.Proofs.YtgedkcglkhleoaaGreatDoor
