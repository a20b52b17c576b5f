import Derived.Test.YtlckkcefkiffjaaNet3
import Derived.Test.YtlckkcefkiffjaaTurn0
import Derived.Test.YtlckkcefkiffjaaBuf
import Derived.Test.YtlckkcefkiffjaaSetE
import Derived.Laws.BitsAllLaws
import Derived.RegionTactic
namespace Go.Proofs.Ytlckkcefkiffjaa
open Go.RowKit Go.Lib

set_option maxHeartbeats 1600000 in
set_option maxRecDepth 100000 in
theorem netTurn_out (T : Nat → Prop) (g : Nat) (N : NetS) (k at_ : Int) (bt : Int) (w : World) (hd : NetAt w T g N) (h : k < 0 ∨ (N.l.length : Int) ≤ k) :
    Calls Try.prog 62 #[.pointer (some ⟨g, 0, none⟩), .int .i64 k, .int .i64 at_, .int .u32 bt] w fun e w' => e = .returned (.int .i64 6) ∧ w = w' := by
  have HD := hid hd
  have HV := hid (show N.may k = 6 by unfold NetS.may; rw [if_pos h])
  clear hd
  go_enter Try.func62, Try.ntmps62
  go_wp2_with fail
  refine (netMay_calls T g N k _ HD.out).mono ?_
  rintro e w1 ⟨rfl, rfl⟩
  rw [HV.out]
  go_wp2
  go_ret
  exact ⟨rfl, rfl⟩
set_option maxHeartbeats 4000000 in
set_option maxRecDepth 100000 in
theorem netTurn_in (T : Nat → Prop) (g : Nat) (N : NetS) (k : Nat) (at_ : Int) (bt : Nat) (w : World) (hd : NetAt w T g N) (h : k < N.l.length) (hb : bt < 4294967296) (hx8 : ∀ x ∈ N.l, x.s.size ≤ 1000) :
    Calls Try.prog 62 #[.pointer (some ⟨g, 0, none⟩), .int .i64 k, .int .i64 at_, .int .u32 bt] w fun e w' => e = .returned (.int .i64 (N.turn k at_ bt).2) ∧ NetAt w' T g (N.turn k at_ bt).1 ∧ Mod T w w' := by
  have HD := hid hd
  have HV := hid (show N.may k = 0 by unfold NetS.may; rw [if_neg (by omega)])
  obtain ⟨hok, hT, hg, A, c, hc, c0, c1, hf, hh, hO, hne⟩ := hd.cells
  obtain ⟨b, rfl, hbl⟩ := Own.head hO.out (by omega)
  obtain ⟨x, hx, e0, e1, e2, e3⟩ := at_thing (hd.2.row c0) k h
  have HX := hid hx
  have hxs := hx8 x (List.mem_of_getElem? hx)
  have HOK := hid hok
  clear hd hx hx8 hok c1 e0 e1
  have hkI : (k : Int) < (N.l.length : Int) := by omega
  have hkb := fun W => Lib.run_convert_string_bytes (P := Try.prog) W 9 42 5 x.s Try.underlying9 Try.underlying42 Try.underlying5
  cases htr : x.turned
  case true =>
    have HE := hid (NetS.turn_turned HX.out htr at_ bt)
    rw [htr] at e3
    clear htr
    go_enter Try.func62, Try.ntmps62
    go_wp2_with fail
    refine (netMay_calls T g N k _ HD.out).mono ?_
    rintro e w1 ⟨rfl, rfl⟩
    rw [HV.out]
    go_wp2
    go_ret
    rw [HE.out]
    exact ⟨rfl, HD.out, Mod.refl _ _⟩
  case false =>
    have HTR := hid htr
    rw [htr] at e3
    clear htr
    by_cases hrg : at_ < 0 ∨ 8 * ((x.s.size : Int) - 1) ≤ at_
    · have HE := hid (NetS.turn_range HX.out HTR.out hrg bt)
      go_enter Try.func62, Try.ntmps62
      go_wp2_with fail
      refine (netMay_calls T g N k _ HD.out).mono ?_
      rintro e w1 ⟨rfl, rfl⟩
      rw [HV.out]
      by_cases h1 : at_ < 0
      · clear hrg
        go_wp2
        go_ret
        rw [HE.out]
        exact ⟨rfl, HD.out.below (below_bytes (Below.refl _ _) (Nat.le_refl _) _ _), Mod.of_below (below_bytes (Below.refl _ _) (Nat.le_refl _) _ _)⟩
      · have h2 : 8 * ((x.s.size : Int) - 1) ≤ at_ := by omega
        clear hrg
        go_wp2
        go_ret
        rw [HE.out]
        exact ⟨rfl, HD.out.below (below_bytes (Below.refl _ _) (Nat.le_refl _) _ _), Mod.of_below (below_bytes (Below.refl _ _) (Nat.le_refl _) _ _)⟩
    · obtain ⟨a, rfl⟩ := Int.eq_ofNat_of_zero_le (show 0 ≤ at_ by omega)
      have ha : (a : Int) < 8 * ((x.s.size : Int) - 1) := by omega
      have HE := hid (NetS.turn_yes HX.out HTR.out ha bt)
      have h1 : ¬ (a : Int) < 0 := by omega
      have h2 : ¬ 8 * ((x.s.size : Int) - 1) ≤ (a : Int) := by omega
      clear hrg
      go_enter Try.func62, Try.ntmps62
      go_wp2_with fail
      refine (netMay_calls T g N k _ HD.out).mono ?_
      rintro e w1 ⟨rfl, rfl⟩
      rw [HV.out]
      go_wp2
      obtain ⟨cap, hcap⟩ : ∃ cap, cap = grownCap w x.s.size 0 5 := ⟨_, rfl⟩
      have hcap1 : x.s.size ≤ cap := by rw [hcap]; exact grownCap_ge _ _ _ _
      try rw [← hcap]
      clear hcap hkb
      have hlen := data_len x.s
      obtain ⟨q, hq⟩ : ∃ q : Nat, (q : Int) = min (32 : Int) (8 * ((x.s.size : Int) - 1) - a) := ⟨(min (32 : Int) (8 * ((x.s.size : Int) - 1) - a)).toNat, by omega⟩
      have hq32 : q ≤ 32 := by omega
      have hqa : (q : Int) + a ≤ 8 * ((x.s.size : Int) - 1) := by omega
      have HQ8 := hid (show q = 32 ∨ a + q = 8 * (x.s.size - 1) by omega)
      have hcv : ∀ W l cp, Buf W w.heap.size 5 l → (convert 42 9 (.slice (some ⟨w.heap.size, 0, none⟩) l.length cp)).run Try.prog W = .ok (.string (mkB l)) W := fun W l cp h => h.str Try.underlying42 Try.underlying5 Try.underlying9 cp
      rw [← hq]
      clear hq
      have HCV := hid hcv
      clear hcv
      go_loopw [51] (fun i wr => ∃ j : Nat, j ≤ q ∧ i = .int .i64 j ∧ Hid (Buf wr w.heap.size 5 (turnL x.s.data.toList a bt j)) ∧ Hid (Below w.heap.size w wr)) (fun i _ => q - (intOf i).toNat)
      case atStart => exact ⟨0, by omega, rfl, Buf.new w _ x.s, below_bytes (Below.refl _ _) (Nat.le_refl _) _ _⟩
      case round =>
        obtain ⟨j, hj, rfl, HBF, HB⟩ := hrel
        by_cases hlt : j < q
        · have hltI : (j : Int) < (q : Int) := by omega
          have hbt := bit_test32 (j := j) hb
          cases htb : bt.testBit j
          case false =>
            rw [htb] at hbt
            have HN := hid (turn1_no (a := a) (m := turnL x.s.data.toList a bt j) htb)
            clear htb
            go_wp2
            go_roundw
            case rel => exact ⟨j + 1, by omega, by go_num, by rw [turnL, HN.out]; exact HBF, HB⟩
            case measure => simp [intOf]; omega
          case true =>
            rw [htb] at hbt
            have hp8 : (a + j) / 8 + 1 < x.s.size := by omega
            have hll := turnL_len x.s.data.toList a bt j
            obtain ⟨y, hy⟩ : ∃ y, (turnL x.s.data.toList a bt j)[1 + (a + j) / 8]? = some y := ⟨_, List.getElem?_eq_getElem (by rw [hll, hlen]; omega)⟩
            have HY := hid (turn1_yes htb hy)
            have hc8 := HBF.out.cell hy
            have hf8 := HBF.out.free (j := 1 + (a + j) / 8) (by rw [hll, hlen]; omega)
            have hxf := xor_flip (x := y) (j := (a + j) % 8) (by omega)
            have HST := hid (HBF.out.store (1 + (a + j) / 8) (flipB y ((a + j) % 8)))
            have hd8 : ((a : Int) + (j : Int)) / 8 = (((a + j) / 8 : Nat) : Int) := by omega
            have hm8 : ((a : Int) + (j : Int)) % 8 = (((a + j) % 8 : Nat) : Int) := by omega
            obtain ⟨p, hp⟩ : ∃ p, p = (a + j) / 8 := ⟨_, rfl⟩
            obtain ⟨r, hr⟩ : ∃ r, r = (a + j) % 8 := ⟨_, rfl⟩
            rw [← hp] at HY hc8 hf8 HST hd8 hp8 hy
            rw [← hr] at HY hxf HST hm8
            have hr8 : r < 8 := by omega
            have hr8I : (r : Int) < 8 := by omega
            have hpI : (1 : Int) + (p : Int) < (x.s.size : Int) := by omega
            have hpT : ((1 : Int) + (p : Int)).toNat = 1 + p := by omega
            have hp0 : (0 : Int) ≤ (1 : Int) + (p : Int) := by omega
            have hy8 : (y.toNat : Int) < 256 := by have := y.toNat_lt; omega
            have hrn : ((r : Int)).toNat = r := by omega
            have hpw : IntKind.i64.wrap ((1 : Int) + (p : Int)) = 1 + p := IntWalk.i64_in _ (by omega)
            have hd9 : ((a : Int) + (j : Int)).tdiv 8 = (p : Int) := by rw [Int.tdiv_eq_ediv_of_nonneg (by omega)]; exact hd8
            have hm9 : ((a : Int) + (j : Int)).tmod 8 = (r : Int) := by rw [Int.tmod_eq_emod_of_nonneg (by omega)]; exact hm8
            have hpw2 : IntKind.i64.wrap (p : Int) = p := IntWalk.i64_in _ (by omega)
            have hrw2 : IntKind.i64.wrap (r : Int) = r := IntWalk.i64_in _ (by omega)
            have haw : IntKind.i64.wrap ((a : Int) + (j : Int)) = a + j := IntWalk.i64_in _ (by omega)
            have HP := hid hp
            clear htb hp hr hy hll
            go_wp2_with fail
            refine wp_tail 15 (by kernel_rfl) (by kernel_rfl) ?_
            simp only [List.take_succ_cons, List.take_zero, List.drop_succ_cons, List.drop_zero]
            repeat (refine wpStill_step (fun K hK => ?_); go_simp; refine hK _ ?_; clear hK K)
            refine wpStill_nil ?_
            clear hpw haw hpw2 hrw2 hd9 hm9
            go_wp2
            go_roundw
            case rel => exact ⟨j + 1, by omega, by go_num, by rw [turnL, HY.out]; exact HST, (HB.out.setCell (p := ⟨w.heap.size, 1 + p, none⟩) (Nat.le_refl _) _).drew⟩
            case measure => simp [intOf]; omega
        · obtain rfl : j = q := by omega
          have hll := turnL_len x.s.data.toList a bt j
          have HTS := hid (show mkB (turnL x.s.data.toList a bt j) = turnS x.s a bt by
            unfold turnS
            rcases HQ8.out with h | h
            · rw [h]
            · have := turnL_stop x.s.data.toList a bt j (by rw [hlen]; omega) (32 - j)
              rw [show j + (32 - j) = 32 by omega] at this
              rw [this])
          have hcw : ∀ W, W.heap[w.heap.size]? = wr.heap[w.heap.size]? → (convert 42 9 (.slice (some ⟨w.heap.size, 0, none⟩) x.s.size cap)).run Try.prog W = .ok (.string (turnS x.s a bt)) W := fun W hW => by
            have := HCV.out W _ cap (HBF.out.move hW)
            rw [hll, hlen, HTS.out] at this
            exact this
          have hbsz := HB.out.size
          have hbg : b ≠ g := fun e => (hne.out b rfl).2 e
          have hgb : g ≠ b := fun e => hbg e.symm
          have hbw : w.heap.size ≠ b := by omega
          have c8 : wr.drew.cell? ⟨g, 0, none⟩ = some (.slice (some ⟨b, 0, none⟩) N.l.length c) := (HB.out.cell (p := ⟨g, 0, none⟩) hg).trans c0
          have v8 := hcw wr.drew rfl
          have hgone := ((HB.out.block b hbl))
          have HO' := hid (hO.out.below HB.out)
          have f2 := HO'.out.free.2.2 (k * 4 + 2)
          have f3 := HO'.out.free.2.2 (k * 4 + 3)
          have d2 : wr.cell? ⟨b, k * 4 + 2, none⟩ = some (.string x.s) := (HB.out.cell (p := ⟨b, k * 4 + 2, none⟩) hbl).trans e2
          have d3 : wr.cell? ⟨b, k * 4 + 3, none⟩ = some (.bool false) := (HB.out.cell (p := ⟨b, k * 4 + 3, none⟩) hbl).trans e3
          have c9 : ∀ i v, (wr.drew.setCell ⟨b, i, none⟩ v).cell? ⟨g, 0, none⟩ = some (.slice (some ⟨b, 0, none⟩) N.l.length c) := fun i v => cell_set_ne hgb c8
          have v9 : ∀ i v, (convert 42 9 (.slice (some ⟨w.heap.size, 0, none⟩) x.s.size cap)).run Try.prog (wr.drew.setCell ⟨b, i, none⟩ v) = .ok (.string (turnS x.s a bt)) (wr.drew.setCell ⟨b, i, none⟩ v) := fun i v => hcw _ (Below.heap_setCell _ _ _ _ hbw)
          have c10 : ∀ i v j' v', ((wr.drew.setCell ⟨b, i, none⟩ v).setCell ⟨b, j', none⟩ v').cell? ⟨g, 0, none⟩ = some (.slice (some ⟨b, 0, none⟩) N.l.length c) := fun i v j' v' => cell_set_ne hgb (c9 i v)
          have v10 : ∀ i v j' v', (convert 42 9 (.slice (some ⟨w.heap.size, 0, none⟩) x.s.size cap)).run Try.prog ((wr.drew.setCell ⟨b, i, none⟩ v).setCell ⟨b, j', none⟩ v') = .ok (.string (turnS x.s a bt)) ((wr.drew.setCell ⟨b, i, none⟩ v).setCell ⟨b, j', none⟩ v') := fun i v j' v' => hcw _ ((Below.heap_setCell _ _ _ _ hbw).trans (Below.heap_setCell _ _ _ _ hbw))
          have HG8 := hid ((HB.out.block g hg).trans hh.out)
          clear hcw hll hlen hgone
          go_wp2_with fail
          go_region_held3 (fun w' => w'.cell? ⟨g, 0, none⟩ = some (.slice (some ⟨b, 0, none⟩) N.l.length c) ∧ (convert 42 9 (.slice (some ⟨w.heap.size, 0, none⟩) x.s.size cap)).run Try.prog w' = .ok (.string (turnS x.s a bt)) w') (first | exact ⟨c8, v8⟩ | exact ⟨c9 _ _, v9 _ _⟩ | exact ⟨c10 _ _ _ _, v10 _ _ _ _⟩ | fail) (fail)
          go_wp2
          go_ret
          rw [HE.out]
          have h1 := HO'.out.set k x ⟨x.f, x.t, turnS x.s a bt, x.turned⟩ HX.out 2 (by decide) (.string (turnS x.s a bt)) (fun w S cs hcs => by cases hcs; rfl) ⟨b, k * 4 + 2, none⟩ rfl
          have h2 := h1.set k ⟨x.f, x.t, turnS x.s a bt, x.turned⟩ ⟨x.f, x.t, turnS x.s a bt, true⟩ (by rw [List.getElem?_set, if_pos rfl, if_pos h]) 3 (by decide) (.bool true) (fun w S cs hcs => by cases hcs; rfl) ⟨b, k * 4 + 3, none⟩ rfl
          rw [List.set_set] at h2
          refine ⟨rfl, ⟨⟨by simpa using HOK.out.1, HOK.out.2⟩, hT, _, ?_, h2.drewN 1, hne.out⟩, ?_⟩
          · exact (Below.heap_setCell _ _ _ _ hgb).trans ((Below.heap_setCell _ _ _ _ hgb).trans HG8.out)
          · exact (((Mod.of_below HB.out).setCell (p := ⟨b, k * 4 + 2, none⟩) (fun _ => (hne.out b rfl).1) _).setCell (p := ⟨b, k * 4 + 3, none⟩) (fun _ => (hne.out b rfl).1) _).drew
/-- Whatever the place. -/
theorem netTurn_calls (T : Nat → Prop) (g : Nat) (N : NetS) (k at_ : Int) (bt : Nat) (w : World) (hd : NetAt w T g N) (hb : bt < 4294967296) (hx8 : ∀ x ∈ N.l, x.s.size ≤ 1000) :
    Calls Try.prog 62 #[.pointer (some ⟨g, 0, none⟩), .int .i64 k, .int .i64 at_, .int .u32 bt] w fun e w' => e = .returned (.int .i64 (N.turn k at_ bt).2) ∧ NetAt w' T g (N.turn k at_ bt).1 ∧ Mod T w w' := by
  by_cases h : k < 0 ∨ (N.l.length : Int) ≤ k
  · refine (netTurn_out T g N k at_ bt w hd h).mono ?_
    rintro e w' ⟨rfl, rfl⟩
    rw [NetS.turn_out h]
    exact ⟨rfl, hd, Mod.refl _ _⟩
  · obtain ⟨n, rfl⟩ := Int.eq_ofNat_of_zero_le (show 0 ≤ k by omega)
    exact netTurn_in T g N n at_ bt w hd (by omega) hb hx8
end Go.Proofs.Ytlckkcefkiffjaa
