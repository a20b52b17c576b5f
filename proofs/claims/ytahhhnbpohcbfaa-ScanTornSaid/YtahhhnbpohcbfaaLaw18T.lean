import Derived.Test.YtahhhnbpohcbfaaScans
namespace Go.Proofs.Ytahhhnbpohcbfaa
open Go.RowKit

theorem filter_snoc {l : List RecS} {k : Nat} {x : RecS} (h : l[k]? = some x) : (l.take (k + 1)).filter recOk = (l.take k).filter recOk ++ (if recOk x then [x] else []) := by
  rw [take_snoc h, List.filter_append]
  congr 1
  cases hx : recOk x <;> simp [hx]
theorem tornK_go {l : List RecS} {k : Nat} {x : RecS} (h : l[k]? = some x) {m : Nat} (hz : (putL (recL x)).length ≤ m) : tornK (l.drop k) m = ((tornK (l.drop (k + 1)) (m - (putL (recL x)).length)).1 + 1, (tornK (l.drop (k + 1)) (m - (putL (recL x)).length)).2 + (putL (recL x)).length) := by
  have hk := (List.getElem?_eq_some_iff.1 h)
  rw [List.drop_eq_getElem_cons hk.1, hk.2, tornK, if_pos hz]
theorem tornK_stop {l : List RecS} {k : Nat} {x : RecS} (h : l[k]? = some x) {m : Nat} (hz : ¬ (putL (recL x)).length ≤ m) : tornK (l.drop k) m = (0, 0) := by
  have hk := (List.getElem?_eq_some_iff.1 h)
  rw [List.drop_eq_getElem_cons hk.1, hk.2, tornK, if_neg hz]
theorem tornK_end (l : List RecS) (m : Nat) : tornK (l.drop l.length) m = (0, 0) := by rw [List.drop_length, tornK]

set_option maxHeartbeats 12800000 in
set_option maxRecDepth 100000 in
theorem scanTornLaw_calls (w : World) (l : List RecS) (D : Option Addr) (e : Nat) (hm : Kd.recK.slice.K w Any l [.slice D l.length e]) (ct : Nat) (hct : ct < 65536) :
    Calls Try.prog 8 #[.slice D l.length e, .int .u16 ct] w fun e w' => e = .returned (.bool true) ∧ Below w.heap.size w w' := by
  have HM := hid hm
  have HR : Hid (Kd.recK.Row w (fun b => b < w.heap.size) D l) := by
    obtain ⟨A', n', he, _, _, h⟩ := Kd.mono _ (S' := fun b => b < w.heap.size) (fun b _ hl => hl) hm
    cases he
    exact h
  clear hm
  cases hlg : long18 l 30
  case true =>
    go_enter Try.func8, Try.ntmps8
    go_wp2_with fail
    refine (rfLong18_calls l 30 _ _ HM.out).mono ?_
    rintro e w1 ⟨rfl, hb1⟩
    rw [hlg]
    go_wp2_with fail
    refine (works18_calls _).mono ?_
    rintro e w2 ⟨rfl, hb2⟩
    go_wp2
    go_ret
    exact ⟨rfl, bThen hb1 hb2⟩
  have hll : l.length ≤ 30 := by
    have h := hlg
    unfold long18 at h
    rw [Bool.or_eq_false_iff, decide_eq_false_iff_not] at h
    omega
  go_enter Try.func8, Try.ntmps8
  go_wp2_with fail
  refine (rfLong18_calls l 30 _ _ HM.out).mono ?_
  rintro e0 w0 ⟨rfl, hb0⟩
  rw [hlg]
  clear hlg
  have hs0 := hb0.size
  go_wp2_with fail
  go_loopw [5, 6] (fun o i wr => ∃ (k : Nat) (A : Option Addr) (n c : Nat), k ≤ l.length ∧ o = .slice A n c ∧ i = .int .i64 k ∧ Hid (Own Kd.recK 24 wr w.heap.size (fun b => b < w.heap.size) (.slice A n c) ((l.take k).filter recOk)) ∧ Below w.heap.size w wr) (fun _ i _ => l.length - (intOf i).toNat)
  case atStart => exact ⟨0, none, 0, 0, by omega, rfl, rfl, hid (Own.nil _ _ _ _ _), hb0⟩
  case round =>
    obtain ⟨k, A, n, c, hk, rfl, rfl, HO, hbw⟩ := hrel
    have hs2 := hbw.size
    by_cases hlt : k < l.length
    · obtain ⟨a, x, B1, n1, c1, rfl, hx, y0, y1, y2, y3, y4, y5, y6, hK⟩ := at_rec (HR.out.below hbw) k hlt
      have HF := hid (filter_snoc hx)
      have HK := hid (show Kd.str.slice.K wr (fun b => b < w.heap.size) x.needs [.slice B1 n1 c1] from hK)
      have hltI : (k : Int) < l.length := by omega
      have HFL := hid (show ((l.take k).filter recOk).length ≤ 30 by
        have h1 := List.length_filter_le recOk (l.take k)
        rw [List.length_take] at h1
        omega)
      clear hx hK
      cases hok : recOk x
      · have HN := hid (show (l.take (k + 1)).filter recOk = (l.take k).filter recOk by rw [HF.out, hok]; simp)
        go_wp2_with fail
        refine (recCheck_calls x B1 n1 c1 _ (Kd.any HK.out)).mono ?_
        rintro e w2 ⟨rfl, hb2⟩
        rw [hok]
        have B2 := hid hb2
        clear hb2 y0 y1 y2 y3 y4 y5 y6
        go_wp2
        go_roundw
        case rel => exact ⟨k + 1, A, n, c, by omega, rfl, by go_num, hid (by rw [HN.out]; exact HO.out.below B2.out), bThen hbw B2.out⟩
        case measure => simp [intOf]; omega
      · have HN := hid (show (l.take (k + 1)).filter recOk = (l.take k).filter recOk ++ [x] by rw [HF.out, hok]; simp)
        go_wp2_with fail
        refine (recCheck_calls x B1 n1 c1 _ (Kd.any HK.out)).mono ?_
        rintro e w2 ⟨rfl, hb2⟩
        rw [hok]
        have B2 := hid hb2
        have z0 := (hb2.cell (cell_lt y0)).trans y0
        have z1 := (hb2.cell (cell_lt y1)).trans y1
        have z2 := (hb2.cell (cell_lt y2)).trans y2
        have z3 := (hb2.cell (cell_lt y3)).trans y3
        have z4 := (hb2.cell (cell_lt y4)).trans y4
        have z5 := (hb2.cell (cell_lt y5)).trans y5
        have z6 := (hb2.cell (cell_lt y6)).trans y6
        have HO2 := hid (HO.out.below hb2)
        have hs3 := hb2.size
        have B2w := hid (bThen hbw hb2)
        clear hb2 y0 y1 y2 y3 y4 y5 y6
        go_wp2_with (at_builtin; go_must (refine append_arm Kd.recK (w0 := w) (W := w2) w.heap.size rfl _ _ 40 24 (.agg zRec) 72 rfl Try.underlying40 Try.infoRec rfl (by decide) (by decide) (.slice A n c) ((l.take k).filter recOk) x [.int .i64 x.kind, .int .i64 x.job, .int .i64 x.task, .int .i64 x.worker, .int .i64 x.sched, .int .i64 x.epoch, .slice B1 n1 c1] (fun b => b < w.heap.size) (fun b => b < w.heap.size) rfl rfl (rec_K (Kd.below HK.out B2.out)) (fun b h1 h2 => ⟨h1, fun h3 => by have := (HO.out.lt b h3.symm).1; omega⟩) HO2.out B2w.out (by omega) (by have := HFL.out; omega) ?_))
        intro v5 w5 hO5 hb5 _ _
        obtain ⟨A5, n5, c5, rfl, hq1, hq2⟩ := hO5.shape'
        have HO5 := hid hO5
        have B5 := hid hb5
        clear hq1 hq2 hO5 hb5 z0 z1 z2 z3 z4 z5 z6
        go_wp2
        go_roundw
        case rel => exact ⟨k + 1, A5, n5, c5, by omega, rfl, by go_num, hid (by rw [HN.out]; exact HO5.out), B5.out⟩
        case measure => simp [intOf]; omega
    · obtain rfl : l.length = k := by omega
      have hgeI : ¬ (l.length : Int) < l.length := by omega
      obtain ⟨hs, hhs⟩ : ∃ hs, hs = l.filter recOk := ⟨_, rfl⟩
      have hO := HO.out
      rw [List.take_length, ← hhs] at hO
      have HOH := hid hO
      have hsl : hs.length ≤ 30 := by
        have := List.length_filter_le recOk l
        rw [← hhs] at this
        omega
      have HOK := hid (show ∀ x ∈ hs, recOk x = true by rw [hhs]; intro x hx; exact (List.mem_filter.1 hx).2)
      have hn : n = hs.length := by
        obtain ⟨_, _, h3, _⟩ := hO.shape
        injection h3
      have hnc : n ≤ c := by
        obtain ⟨_, _, h3, h4⟩ := hO.shape
        injection h3 with _ h3 h5
        omega
      subst hn
      have HRow : Hid (Kd.recK.Row wr Any A hs) := by
        obtain ⟨A', n', he, _, _, h⟩ := Kd.any (Own.K hO)
        cases he
        exact h
      have hml : hs.length ≤ 140737488355328 := by omega
      have hbl := bytesS_len hs
      obtain ⟨L, hL⟩ : ∃ L, L = (bytesS hs).length := ⟨_, rfl⟩
      rw [← hL] at hbl
      have HLL := hid hL
      obtain ⟨m, hm⟩ : ∃ m, m = ct % (L + 1) := ⟨_, rfl⟩
      have hmL : m ≤ L := by have := Nat.mod_lt ct (show 0 < L + 1 by omega); omega
      have hmI : (ct : Int) % ((L : Int) + 1) = m := by rw [hm]; simp
      have hmT : Int.tmod (ct : Int) ((L : Int) + 1) = m := by rw [Int.tmod_eq_emod_of_nonneg (by omega)]; exact hmI
      have hmF : ¬ ((L : Int) + 1) = 0 := by omega
      have HTT := hid (recsS_torn hs m HOK.out)
      have HAA := hid (recsS_all hs HOK.out)
      clear hhs hO hL hm
      go_wp2_with fail
      refine (scBytes_calls hs _ _ (Kd.any (Own.K HOH.out)) (by omega)).mono ?_
      rintro e1 w1 ⟨A1, n1, c1, rfl, hO1, hb1⟩
      have hn1 : L = n1 := by
        obtain ⟨_, _, h3, _⟩ := hO1.shape
        injection h3 with _ h3 _
        rw [h3, HLL.out]
      have hc1 : L ≤ c1 := by
        obtain ⟨_, _, h3, h4⟩ := hO1.shape
        injection h3 with _ h3 h5
        omega
      subst hn1
      have hK1 := Kd.any (Own.K hO1)
      have HKB := hid hK1
      have HKT : Hid (Kd.u8.slice.K w1 Any ((bytesS hs).take m) [.slice A1 m c1]) := by
        obtain ⟨A', n', he, _, _, h⟩ := hK1
        rw [← HLL.out] at he
        cases he
        exact ⟨A1, c1, by rw [List.length_take, ← HLL.out, Nat.min_eq_left hmL], by rw [List.length_take, ← HLL.out]; omega, by rw [List.length_take, ← HLL.out]; omega, h.take m⟩
      have B1 := hid (bThen hbw hb1)
      have HR1 := hid (HRow.out.below hb1)
      clear hO1 hb1 hK1
      have hmc : m ≤ c1 := by omega
      have hmcI : (m : Int) ≤ c1 := by omega
      have HBL := hid (show (bytesS hs).length ≤ 1000000 by have := HLL.out; omega)
      go_wp2_with fail
      go_loopw [9, 10] (fun kv av wq => ∃ k at_ : Nat, k ≤ hs.length ∧ kv = .int .i64 k ∧ av = .int .i64 at_ ∧ at_ ≤ m ∧ Hid (tornK hs m = ((tornK (hs.drop k) (m - at_)).1 + k, (tornK (hs.drop k) (m - at_)).2 + at_)) ∧ Below w.heap.size w wq ∧ Hid (Below w1.heap.size w1 wq)) (fun kv _ _ => hs.length - (intOf kv).toNat)
      case atStart => exact ⟨0, 0, by omega, rfl, rfl, by omega, hid (by simp), B1.out, hid (Below.refl _ _)⟩
      case round =>
        obtain ⟨k, at_, hk, rfl, rfl, hat, HTK, hbq, HBW⟩ := hrel
        by_cases hlt : k < hs.length
        · obtain ⟨a, x, B1', n1, c1', rfl, hx, y0, y1, y2, y3, y4, y5, y6, hK⟩ := at_rec (HR1.out.below HBW.out) k hlt
          have hok := HOK.out x (List.mem_of_getElem? hx)
          have HX := hid hx
          have HK := hid (show Kd.str.slice.K wr Any x.needs [.slice B1' n1 c1'] from hK)
          have hltI : (k : Int) < hs.length := by omega
          obtain ⟨z, hz⟩ : ∃ z, z = (putL (recL x)).length := ⟨_, rfl⟩
          have hzS : sizeR x = (z : Int) := by unfold sizeR; rw [if_pos hok, hz]
          have hzb := sizeR_bound x
          rw [hzS] at hzb
          have CZ := hid (show ∀ w2, Below wr.heap.size wr w2 → Calls Try.prog 20 #[.agg #[.int .i64 x.kind, .int .i64 x.job, .int .i64 x.task, .int .i64 x.worker, .int .i64 x.sched, .int .i64 x.epoch, .slice B1' n1 c1']] w2 fun e w' => e = .returned (.int .i64 z) ∧ Below w2.heap.size w2 w' from fun w2 h => by
            have := recSize_calls x B1' n1 c1' w2 (Kd.below HK.out h)
            rwa [hzS] at this)
          have HZ := hid hz
          have hwz : IntKind.i64.wrap ((at_ : Int) + z) = (at_ : Int) + z := IntWalk.i64_in _ (by omega)
          clear hx hK hok hz hzS
          by_cases hle : at_ + z ≤ m
          · have hleI : (at_ : Int) + z ≤ m := by omega
            have HN := hid (show tornK hs m = ((tornK (hs.drop (k + 1)) (m - (at_ + z))).1 + (k + 1), (tornK (hs.drop (k + 1)) (m - (at_ + z))).2 + (at_ + z)) by
              rw [HTK.out, tornK_go HX.out (by rw [← HZ.out]; omega), ← HZ.out, Nat.sub_sub]; simp; omega)
            go_wp2_with fail
            refine (CZ.out _ (Below.refl _ _)).mono ?_
            rintro e2 w2 ⟨rfl, hb2⟩
            have U2 := hid hb2
            have z0 := (hb2.cell (cell_lt y0)).trans y0
            have z1 := (hb2.cell (cell_lt y1)).trans y1
            have z2 := (hb2.cell (cell_lt y2)).trans y2
            have z3 := (hb2.cell (cell_lt y3)).trans y3
            have z4 := (hb2.cell (cell_lt y4)).trans y4
            have z5 := (hb2.cell (cell_lt y5)).trans y5
            have z6 := (hb2.cell (cell_lt y6)).trans y6
            clear hb2 y0 y1 y2 y3 y4 y5 y6
            go_wp2_with fail
            refine (CZ.out _ U2.out).mono ?_
            rintro e3 w3 ⟨rfl, hb3⟩
            have U3 := hid (bThen U2.out hb3)
            clear hb3 z0 z1 z2 z3 z4 z5 z6
            go_wp2
            go_roundw
            case rel => exact ⟨k + 1, at_ + z, by omega, by go_num, congrArg (Value.int .i64) (by omega), by omega, HN, bThen hbq U3.out, hid (bThen HBW.out U3.out)⟩
            case measure => simp [intOf]; omega
          · have hleI : ¬ (at_ : Int) + z ≤ m := by omega
            have HFIN := hid (show tornK hs m = (k, at_) by rw [HTK.out, tornK_stop HX.out (by rw [← HZ.out]; omega)]; simp)
            go_wp2_with fail
            refine (CZ.out _ (Below.refl _ _)).mono ?_
            rintro e2 w2 ⟨rfl, hb2⟩
            have HBW' := hid (bThen HBW.out hb2)
            have hbq' := bThen hbq hb2
            clear hb2 y0 y1 y2 y3 y4 y5 y6 hbq HBW
            have HT2 := hid (show recsS ((bytesS hs).take m) = (hs.take k, at_) by rw [HTT.out, HFIN.out])
            have hkc : k ≤ c := by omega
            have hkcI : (k : Int) ≤ c := by omega
            have HKH := hid (show Kd.recK.slice.K w2 Any (hs.take k) [.slice (some a) k c] from Kd.below (w := w1) ⟨some a, c, by rw [List.length_take, Nat.min_eq_left hk], by rw [List.length_take]; omega, by rw [List.length_take]; omega, HR1.out.take k⟩ HBW'.out)
            go_wp2_with fail
            refine (scRecords_calls ((bytesS hs).take m) _ _ (Kd.below HKT.out HBW'.out) (by rw [List.length_take]; omega)).mono ?_
            rintro e3 w3 ⟨A3, n3, c3, rfl, hO3, hb3⟩
            rw [HT2.out] at hO3 ⊢
            have HB3 := hid (show Below w2.heap.size w2 w3 from hb3)
            have HK3 := hid (show Kd.recK.slice.K w3 Any (hs.take k) [.slice A3 n3 c3] from Kd.any (Own.K hO3))
            clear hO3 hb3
            go_wp2_with fail
            refine (rfSame18_calls (hs.take k) (hs.take k) _ _ _ HK3.out (Kd.below HKH.out HB3.out)).mono ?_
            rintro e4 w4 ⟨rfl, hb4⟩
            rw [show decide (hs.take k = hs.take k) = true from decide_eq_true rfl]
            have HB4 := hid (show Below w2.heap.size w2 w4 from bThen HB3.out hb4)
            clear hb4
            have eat : ((at_ : Int) == (at_ : Int)) = true := beq_self_eq_true _
            go_wp2_with fail
            refine (scWhole_calls (bytesS hs) _ _ (Kd.below HKB.out (bThen HBW'.out HB4.out)) HBL.out).mono ?_
            rintro e5 w5 ⟨rfl, hb5⟩
            rw [show decide ((recsS (bytesS hs)).2 = (bytesS hs).length) = true by rw [HAA.out]; exact decide_eq_true rfl]
            have HB5 := hid (show Below w2.heap.size w2 w5 from bThen HB4.out hb5)
            clear hb5
            go_wp2_with fail
            refine (works18_calls _).mono ?_
            rintro e6 w6 ⟨rfl, hb6⟩
            go_wp2
            go_ret
            exact ⟨rfl, bThen hbq' (bThen HB5.out hb6)⟩
        · obtain rfl : hs.length = k := by omega
          have hgeI : ¬ (hs.length : Int) < hs.length := by omega
          have HFIN := hid (show tornK hs m = (hs.length, at_) by rw [HTK.out, tornK_end]; simp)
          have HT2 := hid (show recsS ((bytesS hs).take m) = (hs.take hs.length, at_) by rw [HTT.out, HFIN.out])
          have hkc : hs.length ≤ c := by omega
          have hkcI : (hs.length : Int) ≤ c := by omega
          have HKH := hid (show Kd.recK.slice.K wr Any (hs.take hs.length) [.slice A hs.length c] from Kd.below (w := w1) ⟨A, c, by rw [List.length_take, Nat.min_eq_left hk], by rw [List.length_take]; omega, by rw [List.length_take]; omega, HR1.out.take hs.length⟩ HBW.out)
          go_wp2_with fail
          refine (scRecords_calls ((bytesS hs).take m) _ _ (Kd.below HKT.out HBW.out) (by rw [List.length_take]; omega)).mono ?_
          rintro e3 w3 ⟨A3, n3, c3, rfl, hO3, hb3⟩
          rw [HT2.out] at hO3 ⊢
          have HB3 := hid (show Below wr.heap.size wr w3 from hb3)
          have HK3 := hid (show Kd.recK.slice.K w3 Any (hs.take hs.length) [.slice A3 n3 c3] from Kd.any (Own.K hO3))
          clear hO3 hb3
          go_wp2_with fail
          refine (rfSame18_calls (hs.take hs.length) (hs.take hs.length) _ _ _ HK3.out (Kd.below HKH.out HB3.out)).mono ?_
          rintro e4 w4 ⟨rfl, hb4⟩
          rw [show decide (hs.take hs.length = hs.take hs.length) = true from decide_eq_true rfl]
          have HB4 := hid (show Below wr.heap.size wr w4 from bThen HB3.out hb4)
          clear hb4
          have eat : ((at_ : Int) == (at_ : Int)) = true := beq_self_eq_true _
          go_wp2_with fail
          refine (scWhole_calls (bytesS hs) _ _ (Kd.below HKB.out (bThen HBW.out HB4.out)) HBL.out).mono ?_
          rintro e5 w5 ⟨rfl, hb5⟩
          rw [show decide ((recsS (bytesS hs)).2 = (bytesS hs).length) = true by rw [HAA.out]; exact decide_eq_true rfl]
          have HB5 := hid (show Below wr.heap.size wr w5 from bThen HB4.out hb5)
          clear hb5
          go_wp2_with fail
          refine (works18_calls _).mono ?_
          rintro e6 w6 ⟨rfl, hb6⟩
          go_wp2
          go_ret
          exact ⟨rfl, bThen hbq (bThen HB5.out hb6)⟩

theorem scanTorn_walk (W : World) (l : List RecS) (v : Value) (hm : Kd.recK.slice.K W Any l [v]) (_ol : (∀ y ∈ l, okRec y) ∧ l.length * 72 ≤ 140737488351232) (ct : Int) (hct : (Lit.int .u16 ct).wf = true) :
    Calls Try.prog 8 #[v, .int .u16 ct] W fun e w' => e = .returned (.bool true) ∧ Below W.heap.size W w' := by
  have h2 := hm
  obtain ⟨D, e, he, _, _, _⟩ := h2
  obtain rfl : v = .slice D l.length e := by simpa using he
  simp [Lit.wf, IntKind.min, IntKind.max, IntKind.bits, IntKind.signed] at hct
  obtain ⟨k, rfl⟩ : ∃ k : Nat, ct = (k : Int) := ⟨ct.toNat, by omega⟩
  exact scanTornLaw_calls W l D e hm k (by omega)
end Go.Proofs.Ytahhhnbpohcbfaa
