import Derived.Test.YtlckkcefkiffjaaLaw28O
namespace Go.Proofs.Ytlckkcefkiffjaa
open Go.RowKit

def thg (s : ByteArray) : ThingS := ⟨3, 4, s, false⟩
theorem drop_cons {α : Type} {l : List α} {k : Nat} {x : α} (h : l[k]? = some x) : l.drop k = x :: l.drop (k + 1) := by
  obtain ⟨hk, rfl⟩ := List.getElem?_eq_some_iff.1 h
  exact List.drop_eq_getElem_cons hk

set_option maxHeartbeats 3200000 in
set_option maxRecDepth 100000 in
theorem netOrder_calls (most : Nat) (l : List ByteArray) (v : Value) (w : World) (hmo : most < 256) (hl : Kd.str.slice.K w Any l [v]) :
    Calls Try.prog 7 #[.int .u8 most, v] w fun e w' => e = .returned (.bool true) ∧ Below w.heap.size w w' := by
  have HL := hid hl
  obtain ⟨A, c, he, hc, hm, hr⟩ := hl
  cases he
  obtain ⟨q, hq⟩ : ∃ q, l.length = q := ⟨_, rfl⟩
  have HQ := hid hq
  have HR := hid hr
  rw [hq] at hc hm HL ⊢
  clear hr hq
  cases h1 : longB l 300 100
  case true =>
    go_enter Try.func7, Try.ntmps7
    go_wp2_with fail
    refine (long_calls l 300 100 _ _ HL.out).mono ?_
    rintro e w1 ⟨rfl, rfl⟩
    rw [h1]
    go_wp2_with fail
    refine (works28_calls _).mono ?_
    rintro e w2 ⟨rfl, hb2⟩
    go_wp2
    go_ret
    exact ⟨rfl, hb2⟩
  by_cases h0 : most = 0
  · have e0 : ((most : Int) == 0) = true := by rw [beq_iff_eq]; omega
    have H1 := hid h1
    clear h0 h1
    go_enter Try.func7, Try.ntmps7
    go_wp2_with fail
    refine (long_calls l 300 100 _ _ HL.out).mono ?_
    rintro e w1 ⟨rfl, rfl⟩
    rw [H1.out]
    go_wp2_with fail
    refine (works28_calls _).mono ?_
    rintro e w2 ⟨rfl, hb2⟩
    go_wp2
    go_ret
    exact ⟨rfl, hb2⟩
  · have e0 : ((most : Int) == 0) = false := by rw [beq_eq_false_iff_ne]; omega
    have H1 := hid h1
    have hmp : 1 ≤ (most : Int) := by omega
    clear h0 h1
    obtain ⟨p, hp⟩ : ∃ p : Nat, p = min q most := ⟨_, rfl⟩
    have hpq : p ≤ q := by omega
    have hpm : p ≤ 255 := by omega
    have hmin : min (q : Int) (most : Int) = (p : Int) := by omega
    have HS := hid (show (NetS.mk [] most).sent l = (p : Int) by simp [NetS.sent, HQ.out]; omega)
    have HN0 := hid (show (NetS.mk [] most).send 3 4 l = ⟨(l.take p).map thg, most⟩ by
      simp only [NetS.send, List.nil_append, List.length_nil]
      have e : l.take ((most : Int) - ((0 : Nat) : Int)).toNat = l.take p := by
        rw [show ((most : Int) - ((0 : Nat) : Int)).toNat = most by omega, hp]
        rcases Nat.lt_or_ge q most with h | h
        · rw [Nat.min_eq_left (by omega), List.take_of_length_le (by rw [HQ.out]; omega), List.take_of_length_le (by rw [HQ.out]; omega)]
        · rw [Nat.min_eq_right h]
      rw [e]; rfl)
    have HLT := hid (show (l.take p).length = p by rw [List.length_take, HQ.out]; omega)
    clear hp
    go_enter Try.func7, Try.ntmps7
    go_wp2_with fail
    refine (long_calls l 300 100 _ _ HL.out).mono ?_
    rintro e w1 ⟨rfl, rfl⟩
    rw [H1.out]
    go_wp2_with fail
    refine (netNew_yes most _ hmp (by omega)).mono ?_
    rintro e w1 ⟨rfl, hN1, hb1⟩
    have HN1 := hid hN1
    have HK1 : Hid (Kd.str.slice.K w1 (fun k => ¬ (w.heap.size ≤ k)) l [.slice A q c]) := Kd.below (Kd.mono _ (fun b _ hlt => by omega) HL.out) hb1
    clear hN1
    go_wp2_with fail
    refine (netSend_calls _ _ _ 3 4 l _ _ HN1.out HK1.out).mono ?_
    rintro e w2 ⟨rfl, hN2, hm2⟩
    rw [HS.out]
    have b2 : Below w.heap.size w w2 := below_mod hb1 hm2 (fun k h => h) hb1.size
    have HN2 := hid (hN2.mono (T' := fun k => w.heap.size ≤ k) (fun k _ h => h.elim id (fun h => Nat.le_trans hb1.size h)))
    rw [HN0.out] at HN2
    have B2 := hid b2
    clear hN2 hm2 b2 hb1
    go_wp2_with fail
    go_loopw [7] (fun i wr => ∃ k : Nat, k ≤ p ∧ i = .int .i64 k ∧ Hid (NetAt wr (fun k => w.heap.size ≤ k) w.heap.size ⟨((l.take p).drop k).map thg, most⟩) ∧ Hid (Below w.heap.size w wr)) (fun i _ => p - (intOf i).toNat)
    case atStart => exact ⟨0, by omega, rfl, HN2, B2⟩
    case round =>
      obtain ⟨k, hk, rfl, HN, HB⟩ := hrel
      by_cases hlt : k < p
      · obtain ⟨a, x, rfl, hx, hc1⟩ := Kd.Row.at_str (HR.out.below HB.out) k (by rw [HQ.out]; omega)
        have hxp : (l.take p)[k]? = some x := by rw [List.getElem?_take, if_pos hlt]; exact hx
        have HD := hid (drop_cons hxp)
        rw [HD.out] at HN
        have HC1 := hid hc1
        have hal := World.block_lt_of_cell? wr _ (by rw [hc1])
        clear hx hxp hc1
        go_wp2_with fail
        refine (netTake_yes _ _ _ 0 _ HN.out (by simp)).mono ?_
        rintro e w3 ⟨y, hy, rfl, hN3, hm3⟩
        obtain rfl : thg x = y := by simpa using hy
        have hB3 := below_mod HB.out hm3 (fun k h => h) HB.out.size
        have hc3 : w3.cell? (a.add k) = some (.string x) := by
          obtain ⟨a', x', ha', hx', hc'⟩ := Kd.Row.at_str (HR.out.below hB3) k (by rw [HQ.out]; omega)
          cases ha'
          have : x' = x := by
            have h1 := hm3.block (a.add k).block
            obtain ⟨a'', x'', ha'', hx'', hc''⟩ := Kd.Row.at_str (HR.out.below HB.out) k (by rw [HQ.out]; omega)
            cases ha''
            rw [HC1.out] at hc''
            cases hc''
            rw [hx''] at hx'
            cases hx'
            rfl
          rw [← this]; exact hc'
        have HN3 := hid hN3
        have HB3 := hid hB3
        have e1 : (thg x).f = 3 := rfl
        have e2 : (thg x).t = 4 := rfl
        have e3 : (thg x).s = x := rfl
        rw [e1, e2, e3]
        clear hy hN3 hm3 hB3 e1 e2 e3
        have hc4 : ∀ o, (w3.alloc o).cell? (a.add k) = some (.string x) := fun o => cell_keep (bAlloc (Below.refl _ _) o) hc3
        have hkq : k < q := by omega
        have hkq2 : (k : Int) < (q : Int) := by omega
        go_wp2_with fail
        go_quiet (fail)
        go_wp2
        go_roundw
        case rel => exact ⟨k + 1, by omega, by go_num, NetAt.below HN3.out (below_drewN (bAlloc (Below.refl _ _) _) _), below_drewN (bAlloc HB3.out _) _⟩
        case measure => simp [intOf]; omega
      · obtain rfl : k = p := by omega
        have he : ((l.take k).drop k).map thg = [] := by rw [List.drop_of_length_le (by rw [HLT.out]; omega)]; rfl
        rw [he] at HN
        clear he
        go_wp2_with fail
        refine (netTake_no _ _ _ 0 _ HN.out (by simp)).mono ?_
        rintro e w3 ⟨rfl, hb3⟩
        have b3 := bThen HB.out hb3
        go_wp2_with fail
        refine (works28_calls _).mono ?_
        rintro e w4 ⟨rfl, hb4⟩
        go_wp2
        go_ret
        exact ⟨rfl, bThen (bAlloc b3 _) hb4⟩

theorem netOrder_walk (W : World) (most : Int) (hw : (Lit.int .u8 most).wf = true) (l : List ByteArray) (v : Value) (hl : Kd.str.slice.K W Any l [v]) (_ol : (∀ y ∈ l, y.size ≤ 140737488351232) ∧ l.length * 16 ≤ 140737488351232) :
    Calls Try.prog 7 #[.int .u8 most, v] W fun e w' => e = .returned (.bool true) ∧ Below W.heap.size W w' := by
  simp [Lit.wf, IntKind.min, IntKind.max, IntKind.bits, IntKind.signed] at hw
  obtain ⟨n, rfl⟩ := Int.eq_ofNat_of_zero_le hw.1
  exact netOrder_calls n l v W (by omega) hl
end Go.Proofs.Ytlckkcefkiffjaa
