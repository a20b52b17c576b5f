/- The document's net: Bits, Turn. -/
import Derived.Test.YtlckkcefkiffjaaR28b
import Derived.Test.YtlckkcefkiffjaaNet4
namespace Go.Proofs.Ytlckkcefkiffjaa
open Go.RowKit Go.Lib

theorem half_bits (b j : Nat) : b / 2 ^ j / 2 = b / 2 ^ (j + 1) := by rw [Nat.div_div_eq_div_mul, Nat.pow_succ]
theorem odd_test (b j : Nat) : ((((b / 2 ^ j : Nat) : Int) % 2) == 1) = b.testBit j := by
  rw [Nat.testBit_eq_decide_div_mod_eq]
  generalize b / 2 ^ j = q
  rw [Bool.eq_iff_iff, beq_iff_eq, decide_eq_true_iff]
  omega
theorem pow_lt8 {r : Nat} (h : r < 8) : 1 ≤ 2 ^ r ∧ 2 ^ r ≤ 128 := by
  have : ∀ r : Fin 8, 1 ≤ 2 ^ r.val ∧ 2 ^ r.val ≤ 128 := by decide
  exact this ⟨r, h⟩
set_option maxHeartbeats 4000000 in
set_option maxRecDepth 100000 in
theorem rBits_calls (s : ByteArray) (a bt : Nat) (w : World) (hs : s.size ≤ 1000) (ha : a ≤ 8000) (hbt : bt < 4294967296) :
    Calls Try.prog 83 #[.string s, .int .i64 a, .int .u32 bt] w fun e w' => e = .returned (.string (turnS s a bt)) ∧ Below w.heap.size w w' := by
  have hkb := fun W => Lib.run_convert_string_bytes (P := Try.prog) W 9 42 5 s Try.underlying9 Try.underlying42 Try.underlying5
  have hlen := data_len s
  go_enter Try.func83, Try.ntmps83
  go_wp2
  obtain ⟨cap, hcap⟩ : ∃ cap, cap = grownCap w s.size 0 5 := ⟨_, rfl⟩
  have hcap1 : s.size ≤ cap := by rw [hcap]; exact grownCap_ge _ _ _ _
  try rw [← hcap]
  clear hcap hkb
  have hcv : ∀ W l cp, Buf W w.heap.size 5 l → (convert 42 9 (.slice (some ⟨w.heap.size, 0, none⟩) l.length cp)).run Try.prog W = .ok (.string (mkB l)) W := fun W l cp h => h.str Try.underlying42 Try.underlying5 Try.underlying9 cp
  have HCV := hid hcv
  clear hcv
  go_loopw [2, 8] (fun b i wr => ∃ j : Nat, j ≤ 32 ∧ i = .int .i64 j ∧ b = .int .u32 ((bt / 2 ^ j : Nat) : Int) ∧ Hid (Buf wr w.heap.size 5 (turnL s.data.toList a bt j)) ∧ Hid (Below w.heap.size w wr)) (fun _ i _ => 32 - (intOf i).toNat)
  case atStart => exact ⟨0, by omega, rfl, by simp, Buf.new w _ s, below_bytes (Below.refl _ _) (Nat.le_refl _) _ _⟩
  case round =>
    obtain ⟨j, hj, rfl, rfl, HBF, HB⟩ := hrel
    by_cases hlt : j < 32
    · have hod := odd_test bt j
      have hhb : (((bt / 2 ^ j : Nat) : Int) / 2) = ((bt / 2 ^ (j + 1) : Nat) : Int) := by rw [← half_bits]; omega
      have hBl : bt / 2 ^ j < 4294967296 := Nat.lt_of_le_of_lt (Nat.div_le_self _ _) hbt
      obtain ⟨B, hB⟩ : ∃ B, B = bt / 2 ^ j := ⟨_, rfl⟩
      obtain ⟨B2, hB2⟩ : ∃ B2, B2 = bt / 2 ^ (j + 1) := ⟨_, rfl⟩
      rw [← hB] at hod hhb hBl ⊢
      rw [← hB2] at hhb
      have HB2 := hid hB2
      clear hB hB2
      have hd8 : ((a : Int) + (j : Int)) / 8 = (((a + j) / 8 : Nat) : Int) := by omega
      have hm8 : ((a : Int) + (j : Int)) % 8 = (((a + j) % 8 : Nat) : Int) := by omega
      have HPE := hid (turn1_end (a := a) (b := bt) (i := j) (m := turnL s.data.toList a bt j))
      have HPN := hid (turn1_no (a := a) (b := bt) (i := j) (m := turnL s.data.toList a bt j))
      have hll := turnL_len s.data.toList a bt j
      cases htb : bt.testBit j
      case false =>
        rw [htb] at hod
        have HTB := hid htb
        clear htb hd8 hm8
        go_wp2
        go_roundw
        case rel => exact ⟨j + 1, by omega, by go_num, by rw [HB2.out], by rw [turnL, HPN.out HTB.out]; exact HBF, HB⟩
        case measure => simp [intOf]; omega
      case true =>
        rw [htb] at hod
        by_cases hout : s.size ≤ 1 + (a + j) / 8
        · have HPE2 := hid (HPE.out (by rw [hll, hlen]; exact hout))
          obtain ⟨p, hp⟩ : ∃ p, p = (a + j) / 8 := ⟨_, rfl⟩
          rw [← hp] at hd8 hout
          have hoI : (s.size : Int) ≤ 1 + (p : Int) := by omega
          have hp5 : p ≤ 2000 := by omega
          clear htb hm8 hp hll hlen
          go_wp2
          go_roundw
          case rel => exact ⟨j + 1, by omega, by go_num, by rw [HB2.out], by rw [turnL, HPE2.out]; exact HBF, HB⟩
          case measure => simp [intOf]; omega
        · obtain ⟨y, hy⟩ : ∃ y, (turnL s.data.toList a bt j)[1 + (a + j) / 8]? = some y := ⟨_, List.getElem?_eq_getElem (by rw [hll, hlen]; omega)⟩
          have HY := hid (turn1_yes htb hy)
          have hc8 := HBF.out.cell hy
          have hf8 := HBF.out.free (j := 1 + (a + j) / 8) (by rw [hll, hlen]; omega)
          have HST := hid (HBF.out.store (1 + (a + j) / 8) (flipB y ((a + j) % 8)))
          obtain ⟨p, hp⟩ : ∃ p, p = (a + j) / 8 := ⟨_, rfl⟩
          obtain ⟨r, hr⟩ : ∃ r, r = (a + j) % 8 := ⟨_, rfl⟩
          rw [← hp] at HY hc8 hf8 HST hd8 hout
          rw [← hr] at HY HST hm8
          have hr8 : r < 8 := by omega
          have hp5 : p ≤ 2000 := by omega
          have hoI : ¬ (s.size : Int) ≤ 1 + (p : Int) := by omega
          have hpI : (1 : Int) + (p : Int) < (s.size : Int) := by omega
          have hpT : ((1 : Int) + (p : Int)).toNat = 1 + p := by omega
          have hp0 : (0 : Int) ≤ (1 : Int) + (p : Int) := by omega
          have hy8 : (y.toNat : Int) < 256 := by have := y.toNat_lt; omega
          obtain ⟨hc1, hc2⟩ := pow_lt8 hr8
          have HFS := hid (flip_sub y r hr8)
          have HFA := hid (flip_add y r hr8)
          clear htb hp hr hy hll hlen
          go_wp2
          have HR8 := hid (And.intro hr8 hc1)
          go_loop [11, 12] (fun b t => ∃ n : Nat, n ≤ r ∧ t = .int .i64 n ∧ b = .int .u8 ((2 ^ n : Nat) : Int)) (fun _ t => r - (intOf t).toNat)
          case atStart => exact ⟨0, by omega, rfl, rfl⟩
          case round =>
            obtain ⟨n, hn, rfl, rfl⟩ := hrel
            by_cases hnr : n < r
            · have hnI : (n : Int) < (r : Int) := by omega
              obtain ⟨hn1, hn2⟩ := pow_lt8 (show n < 8 by omega)
              obtain ⟨hn3, hn4⟩ := pow_lt8 (show n + 1 < 8 by omega)
              have hp2 : 2 ^ (n + 1) = 2 ^ n * 2 := Nat.pow_succ ..
              have HP2 := hid hp2
              obtain ⟨c, hc⟩ : ∃ c, c = 2 ^ n := ⟨_, rfl⟩
              rw [← hc] at hn1 hn2 HP2 ⊢
              have hc64 : c ≤ 64 := by have := HP2.out; omega
              clear hp2 hc hn3 hn4
              go_wp2
              go_round
              case rel => exact ⟨n + 1, by omega, by go_num, by rw [HP2.out]; simp⟩
              case measure => simp [intOf]; omega
            · obtain rfl : n = r := by omega
              obtain ⟨c, hc⟩ : ∃ c, c = 2 ^ n := ⟨_, rfl⟩
              rw [← hc] at hc1 hc2 HFS HFA ⊢
              have hcI : (1 : Int) ≤ (c : Int) := by omega
              have hc0 : ((c : Int) == 0) = false := by rw [beq_eq_false_iff_ne]; omega
              clear hc
              have hnI : ¬ (n : Int) < (n : Int) := by omega
              obtain ⟨d, hd⟩ : ∃ d, d = y.toNat / c := ⟨_, rfl⟩
              have hdI : ((y.toNat : Int) / (c : Int)) = (d : Int) := by rw [hd]; simp
              have hdl : d ≤ 255 := by rw [hd]; have := Nat.div_le_self y.toNat c; have := y.toNat_lt; omega
              rw [← hd] at HFS HFA
              clear hd
              by_cases hodd : d % 2 = 1
              · have ht1 : (((d : Int) % 2) == 1) = true := by rw [beq_iff_eq]; omega
                have hfs := HFS.out hodd
                have hv : (y.toNat : Int) - (c : Int) = ((flipB y n).toNat : Int) := by omega
                have hv0 : (c : Int) ≤ (y.toNat : Int) := by omega
                have hvl : ((flipB y n).toNat : Int) < 256 := by have := (flipB y n).toNat_lt; omega
                clear hodd hfs
                go_wp2
                go_roundw
                case rel => exact ⟨j + 1, by omega, by go_num, by rw [HB2.out], by rw [turnL, HY.out]; exact HST, HB.out.setCell (p := ⟨w.heap.size, 1 + p, none⟩) (Nat.le_refl _) _⟩
                case measure => simp [intOf]; omega
              · have ht1 : (((d : Int) % 2) == 1) = false := by rw [beq_eq_false_iff_ne]; omega
                have hfa := HFA.out hodd
                have hv : (y.toNat : Int) + (c : Int) = ((flipB y n).toNat : Int) := by omega
                have hvl : ((flipB y n).toNat : Int) < 256 := by have := (flipB y n).toNat_lt; omega
                have hvl2 : (y.toNat : Int) + (c : Int) < 256 := by omega
                clear hodd hfa
                go_wp2
                go_roundw
                case rel => exact ⟨j + 1, by omega, by go_num, by rw [HB2.out], by rw [turnL, HY.out]; exact HST, HB.out.setCell (p := ⟨w.heap.size, 1 + p, none⟩) (Nat.le_refl _) _⟩
                case measure => simp [intOf]; omega
    · obtain rfl : j = 32 := by omega
      have hcw : (convert 42 9 (.slice (some ⟨w.heap.size, 0, none⟩) s.size cap)).run Try.prog wr = .ok (.string (turnS s a bt)) wr := by
        have := HCV.out wr _ cap HBF.out
        rw [turnL_len, hlen] at this
        exact this
      go_wp2
      go_ret
      exact ⟨rfl, HB.out⟩

set_option maxHeartbeats 2000000 in
set_option maxRecDepth 100000 in
theorem rTurn_no (S : Nat → Prop) (g : Nat) (N : NetS) (k at_ : Int) (bt : Nat) (w : World) (hd : RNet w S g N) (h : k < 0 ∨ (N.l.length : Int) ≤ k) :
    Calls Try.prog 63 #[.pointer (some ⟨g, 0, none⟩), .int .i64 k, .int .i64 at_, .int .u32 bt] w fun e w' => e = .returned (.int .i64 6) ∧ w = w' := by
  obtain ⟨hT, hg, A, c, hc2, hc3, c0, c1, hf, hh, hro⟩ := hd.cells
  by_cases h1 : k < 0
  · have h3 : ¬ 0 ≤ k := by omega
    clear h
    go_enter Try.func63, Try.ntmps63
    go_wp2
    go_ret
    exact ⟨rfl, rfl⟩
  · have h2 : (N.l.length : Int) ≤ k := by omega
    have h3 : 0 ≤ k := by omega
    have h4 : ¬ k < (N.l.length : Int) := by omega
    clear h
    go_enter Try.func63, Try.ntmps63
    go_wp2
    go_ret
    exact ⟨rfl, rfl⟩
set_option maxHeartbeats 4000000 in
set_option maxRecDepth 100000 in
theorem rTurn_in (S : Nat → Prop) (g : Nat) (N : NetS) (k : Nat) (at_ : Int) (bt : Nat) (w : World) (hd : RNet w S g N) (hok : N.ok) (h : k < N.l.length) (hat : at_ ≤ 9223372036854775807) (hb : bt < 4294967296) (hx8 : ∀ x ∈ N.l, x.s.size ≤ 1000) :
    Calls Try.prog 63 #[.pointer (some ⟨g, 0, none⟩), .int .i64 k, .int .i64 at_, .int .u32 bt] w fun e w' => e = .returned (.int .i64 (N.turn k at_ bt).2) ∧ RNet w' (fun k => S k ∨ w.heap.size ≤ k) g (N.turn k at_ bt).1 ∧ Mod S w w' := by
  have HD := hid hd
  obtain ⟨hT, hg, A, c, hc2, hc3, c0, c1, hf, hh, hro⟩ := hd.cells
  obtain ⟨a, x, rfl, hx, e0, e1, e2, e3⟩ := at_thing2 hro.out k h
  have HX := hid hx
  have hxs := hx8 x (List.mem_of_getElem? hx)
  have hlen : (N.l.length : Int) ≤ 1024 := by obtain ⟨h1, h2, h3⟩ := hok; omega
  have h1 : ¬ (k : Int) < 0 := by omega
  have h2 : ¬ (N.l.length : Int) ≤ (k : Int) := by omega
  have hkI : (k : Int) < (N.l.length : Int) := by omega
  have hk0 : (0 : Int) ≤ (k : Int) := by omega
  clear hd hx hx8 hok c1 e0 e1
  cases htr : x.turned
  case true =>
    have HE := hid (NetS.turn_turned HX.out htr at_ bt)
    rw [htr] at e3
    clear htr
    go_enter Try.func63, Try.ntmps63
    go_wp2
    go_ret
    rw [HE.out]
    exact ⟨rfl, HD.out.mono (fun _ _ h => .inl h), Mod.refl _ _⟩
  case false =>
    have HTR := hid htr
    rw [htr] at e3
    clear htr
    by_cases hrg : at_ < 0 ∨ 8 * ((x.s.size : Int) - 1) ≤ at_
    · have HE := hid (NetS.turn_range HX.out HTR.out hrg bt)
      by_cases h5 : at_ < 0
      · clear hrg
        go_enter Try.func63, Try.ntmps63
        go_wp2
        go_ret
        rw [HE.out]
        exact ⟨rfl, HD.out.mono (fun _ _ h => .inl h), Mod.refl _ _⟩
      · by_cases h6 : x.s.size = 0
        · have h7 : ((x.s.size : Int) == 0) = true := by rw [beq_iff_eq]; omega
          have h8 : 0 ≤ at_ := by omega
          clear hrg h6
          go_enter Try.func63, Try.ntmps63
          go_wp2
          go_ret
          rw [HE.out]
          exact ⟨rfl, HD.out.mono (fun _ _ h => .inl h), Mod.refl _ _⟩
        · have h7 : ((x.s.size : Int) == 0) = false := by rw [beq_eq_false_iff_ne]; omega
          obtain ⟨m, rfl⟩ := Int.eq_ofNat_of_zero_le (show 0 ≤ at_ by omega)
          obtain ⟨p, hp⟩ : ∃ p : Nat, p = m / 8 := ⟨_, rfl⟩
          have hpI : ((m : Int) / 8) = (p : Int) := by omega
          have hpT : ((m : Int)).tdiv 8 = (p : Int) := by rw [Int.tdiv_eq_ediv_of_nonneg (by omega)]; exact hpI
          have h8 : ((x.s.size : Int) - 1) ≤ (p : Int) := by omega
          have hxs1 : (1 : Int) ≤ (x.s.size : Int) := by omega
          have hpw : IntKind.i64.wrap (p : Int) = p := IntWalk.i64_in _ (by omega)
          clear hrg h6 hp hat
          go_enter Try.func63, Try.ntmps63
          go_wp2
          go_ret
          rw [HE.out]
          exact ⟨rfl, HD.out.mono (fun _ _ h => .inl h), Mod.refl _ _⟩
    · obtain ⟨m, rfl⟩ := Int.eq_ofNat_of_zero_le (show 0 ≤ at_ by omega)
      have ha : (m : Int) < 8 * ((x.s.size : Int) - 1) := by omega
      have HE := hid (NetS.turn_yes HX.out HTR.out ha bt)
      have h5 : ¬ (m : Int) < 0 := by omega
      have h7 : ((x.s.size : Int) == 0) = false := by rw [beq_eq_false_iff_ne]; omega
      obtain ⟨p, hp⟩ : ∃ p : Nat, p = m / 8 := ⟨_, rfl⟩
      have hpI : ((m : Int) / 8) = (p : Int) := by omega
      have hpT : ((m : Int)).tdiv 8 = (p : Int) := by rw [Int.tdiv_eq_ediv_of_nonneg (by omega)]; exact hpI
      have h8 : ¬ ((x.s.size : Int) - 1) ≤ (p : Int) := by omega
      have hpw : IntKind.i64.wrap (p : Int) = p := IntWalk.i64_in _ (by omega)
      have hm8 : m ≤ 8000 := by omega
      have hxs1 : (1 : Int) ≤ (x.s.size : Int) := by omega
      clear hrg hp hat
      go_enter Try.func63, Try.ntmps63
      go_wp2_with (at_builtin; go_must (refine appends_arm Kd.thing (w0 := w) w.heap.size rfl _ _ 84 92 _ 40 rfl Try.underlying84 Try.infoRThing rfl (by decide) (by decide) (.slice (some ⟨w.heap.size, 0, none⟩) 0 0) [] N.l (some a) N.l.length c NoT Any NoT rfl rfl rfl (hro.out.below (bAlloc (Below.refl _ _) _)).any (fun _ _ h => h) (fun _ h => h.elim) (own_empty (show (w.alloc (.cells #[] 92)).heap[w.heap.size]? = _ from heap_at rfl) (Nat.le_refl _)) (bAlloc (Below.refl _ _) _) (by simp) (by simp; omega) ?_))
      intro v1 w1 hO1 hb1 _ _
      try rw [List.nil_append] at hO1
      obtain ⟨A1, n1, c1, rfl, hn1, hc1⟩ := hO1.shape'
      obtain ⟨b, rfl, hbl⟩ := hO1.first (by omega)
      obtain ⟨A', c', he, _, _, hr1⟩ := hO1.K
      cases he
      obtain ⟨x', hx', f0, f1, f2, f3⟩ := at_thing hr1 k h
      rw [HX.out] at hx'
      obtain rfl := Option.some.inj hx'
      obtain ⟨q0, q1, q2⟩ := hO1.free
      have HO1 := hid hO1
      have HB1 := hid hb1
      clear hO1 hb1 hr1 hx' f0 f1 f3 e2 e3 hn1 hc1 q2
      go_wp2_with fail
      refine (rBits_calls x.s m bt _ hxs hm8 hb).mono ?_
      rintro e w2 ⟨rfl, hb2⟩
      have HO2 := hid (HO1.out.below hb2)
      have HB2 := hid (HB1.out.trans (hb2.mono HB1.out.size))
      obtain ⟨q0, q1, q2⟩ := HO2.out.free
      have q22 := q2 (k * 4 + 2)
      have q23 := q2 (k * 4 + 3)
      have f2' := cell_keep hb2 f2
      obtain ⟨z0, z1, z2⟩ := cells_of_block ((HB2.out.block g hg).trans hh.out)
      have y0 := z0 0 _ rfl
      have y1 := z1 0
      have hbg : b ≠ g := by omega
      have hgb : g ≠ b := by omega
      have HR3 : Hid (w2.cell? ⟨b, k * 4 + 3, none⟩ = some (.bool x.turned)) := by
        obtain ⟨A', c', he, _, _, hr1⟩ := HO2.out.K
        cases he
        obtain ⟨x', hx', _, _, _, f3⟩ := at_thing hr1 k h
        rw [HX.out] at hx'
        obtain rfl := Option.some.inj hx'
        exact f3
      have f3' := HR3.out
      clear hb2 f2 q2 z0 z1 z2 hpI hpT hpw
      go_wp2
      go_ret
      rw [HE.out]
      have s1 := HO2.out.set k x ⟨x.f, x.t, turnS x.s m bt, x.turned⟩ HX.out 2 (by decide) (.string (turnS x.s m bt)) (fun w S cs hcs => by cases hcs; rfl) ⟨b, k * 4 + 2, none⟩ rfl
      have s2 := s1.set k ⟨x.f, x.t, turnS x.s m bt, x.turned⟩ ⟨x.f, x.t, turnS x.s m bt, true⟩ (by rw [List.getElem?_set, if_pos rfl, if_pos h]) 3 (by decide) (.bool true) (fun w S cs hcs => by cases hcs; rfl) ⟨b, k * 4 + 3, none⟩ rfl
      rw [List.set_set] at s2
      refine ⟨rfl, RNet.put (.inl hT) ((Below.heap_setCell _ _ _ _ hgb).trans ((Below.heap_setCell _ _ _ _ hgb).trans ((HB2.out.block g hg).trans hh.out))) s2 (fun k h1 h2 => ⟨.inr h1, by omega⟩), ?_⟩
      exact (((Mod.of_below HB2.out).setCell (p := ⟨b, k * 4 + 2, none⟩) (fun hlt => absurd hlt (by show ¬ b < _; omega)) _).setCell (p := ⟨b, k * 4 + 3, none⟩) (fun hlt => absurd hlt (by show ¬ b < _; omega)) _).setCell (p := ⟨g, 0, none⟩) (fun _ => hT) _
theorem rTurn_calls (S : Nat → Prop) (g : Nat) (N : NetS) (k at_ : Int) (bt : Nat) (w : World) (hd : RNet w S g N) (hok : N.ok) (hat : at_ ≤ 9223372036854775807) (hb : bt < 4294967296) (hx8 : ∀ x ∈ N.l, x.s.size ≤ 1000) :
    Calls Try.prog 63 #[.pointer (some ⟨g, 0, none⟩), .int .i64 k, .int .i64 at_, .int .u32 bt] w fun e w' => e = .returned (.int .i64 (N.turn k at_ bt).2) ∧ RNet w' (fun k => S k ∨ w.heap.size ≤ k) g (N.turn k at_ bt).1 ∧ Mod S w w' := by
  by_cases h : k < 0 ∨ (N.l.length : Int) ≤ k
  · refine (rTurn_no S g N k at_ bt w hd h).mono ?_
    rintro e w' ⟨rfl, rfl⟩
    rw [NetS.turn_out h]
    exact ⟨rfl, hd.mono (fun _ _ h => .inl h), Mod.refl _ _⟩
  · obtain ⟨n, rfl⟩ := Int.eq_ofNat_of_zero_le (show 0 ≤ k by omega)
    exact rTurn_in S g N n at_ bt w hd hok (by omega) hat hb hx8
end Go.Proofs.Ytlckkcefkiffjaa
