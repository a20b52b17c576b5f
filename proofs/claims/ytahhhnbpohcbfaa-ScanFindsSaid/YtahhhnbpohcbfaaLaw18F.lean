import Derived.Test.YtahhhnbpohcbfaaScans
namespace Go.Proofs.Ytahhhnbpohcbfaa
open Go.RowKit

set_option maxHeartbeats 12800000 in
set_option maxRecDepth 100000 in
theorem scanFindsLaw_calls (w : World) (b : List UInt8) (B : Option Addr) (d : Nat) (hb : Kd.u8.slice.K w Any b [.slice B b.length d]) (l : List RecS) (D : Option Addr) (e : Nat) (hm : Kd.recK.slice.K w Any l [.slice D l.length e]) :
    Calls Try.prog 7 #[.slice B b.length d, .slice D l.length e] w fun e w' => e = .returned (.bool true) ∧ Below w.heap.size w w' := by
  have HB := hid hb
  have HM := hid hm
  clear hb hm
  by_cases hl : (4000 : Int) < b.length
  · go_enter Try.func7, Try.ntmps7
    go_wp2_with fail
    refine (works18_calls _).mono ?_
    rintro e w1 ⟨rfl, hb1⟩
    go_wp2
    go_ret
    exact ⟨rfl, hb1⟩
  cases hlg : long18 l 30
  case true =>
    go_enter Try.func7, Try.ntmps7
    go_wp2_with fail
    refine (rfLong18_calls l 30 _ _ HM.out).mono ?_
    rintro e w1 ⟨rfl, hb1⟩
    rw [hlg]
    go_wp2_with fail
    refine (works18_calls _).mono ?_
    rintro e w2 ⟨rfl, hb2⟩
    go_wp2
    go_ret
    exact ⟨rfl, bThen hb1 hb2⟩
  have hll : l.length ≤ 30 := by
    have h := hlg
    unfold long18 at h
    rw [Bool.or_eq_false_iff, decide_eq_false_iff_not] at h
    omega
  have hl2 : b.length ≤ 1000000 := by omega
  have C1 := fun w' h => scRecords_calls b _ w' (Kd.below (w := w) HB.out h) hl2
  have C2 := fun w' => rfRecords_calls b w' hl2
  have CW0 := fun w' h => scWhole_calls b _ w' (Kd.below (w := w) HB.out h) hl2
  obtain ⟨h1, h2, h3, h4⟩ := recsS_bytes b
  obtain ⟨q, hq⟩ : ∃ q, q = (recsS b).2 := ⟨_, rfl⟩
  obtain ⟨rs, hrs⟩ : ∃ rs, rs = (recsS b).1 := ⟨_, rfl⟩
  obtain ⟨t, ht⟩ : ∃ t, t = decide (q = b.length) := ⟨_, rfl⟩
  rw [← hq, ← hrs] at C1 C2
  rw [← hq, ← ht] at CW0
  have HTT := hid (show ((q : Int) == (b.length : Int)) = t by rw [ht, Bool.eq_iff_iff, beq_iff_eq, decide_eq_true_iff]; omega)
  have C1 := hid C1
  have C2 := hid C2
  have hRB := fun w' h => rfBytes18_calls l _ w' (Kd.below (w := w) HM.out h) (by omega)
  have hSB := fun w' h => scBytes_calls l _ w' (Kd.below (w := w) HM.out h) (by omega)
  obtain ⟨sv, hsv⟩ : ∃ sv, sv = mkB (bytesS l) := ⟨_, rfl⟩
  rw [← hsv] at hRB
  have HRB := hid hRB
  have HSB := hid hSB
  have HSV := hid hsv
  have CW0 := hid CW0
  clear h1 h2 h3 h4 hq hrs ht hsv hRB hSB
  go_enter Try.func7, Try.ntmps7
  go_wp2_with fail
  refine (rfLong18_calls l 30 _ _ HM.out).mono ?_
  rintro e0 w0 ⟨rfl, hb0⟩
  rw [hlg]
  have HB0 := hid hb0
  clear hb0
  go_wp2_with fail
  refine (C1.out _ HB0.out).mono ?_
  rintro e1 w1 ⟨A1, n1, c1, rfl, hO1, hb1⟩
  have HB1 := hid (bThen HB0.out hb1)
  have HO1 := hid hO1
  have hcv := conv_u8 (Kd.below HB.out HB1.out)
  rw [show (⟨b.toArray⟩ : ByteArray) = mkB b from rfl] at hcv
  clear hO1 hb1
  go_wp2_with fail
  refine (C2.out _).mono ?_
  rintro e2 w2 ⟨A2, n2, c2, rfl, hO2, hb2⟩
  have HB2 := hid (bThen HB1.out hb2)
  have HK1 := hid (show Kd.recK.slice.K w2 Any rs [.slice A1 n1 c1] from Kd.any (Kd.below (Own.K HO1.out) hb2))
  have HK2 := hid (show Kd.recK.slice.K w2 Any rs [.slice A2 n2 c2] from Kd.any (Own.K hO2))
  have CS := hid (show ∀ w', Below w2.heap.size w2 w' → Calls Try.prog 31 #[.slice A1 n1 c1, .slice A2 n2 c2] w' fun e w'' => e = .returned (.bool true) ∧ Below w'.heap.size w' w'' from fun w' h => by
    have := rfSame18_calls rs rs _ _ w' (Kd.below HK1.out h) (Kd.below HK2.out h)
    rwa [show decide (rs = rs) = true from decide_eq_true rfl] at this)
  have CW := hid (show ∀ w', Below w2.heap.size w2 w' → Calls Try.prog 32 #[.slice B b.length d] w' fun e w'' => e = .returned (.bool t) ∧ Below w'.heap.size w' w'' from fun w' h => CW0.out w' (bThen HB2.out h))
  have CR := hid (show ∀ w', Below w2.heap.size w2 w' → Calls Try.prog 33 #[.slice D l.length e] w' fun e w'' => e = .returned (.string sv) ∧ Below w'.heap.size w' w'' from fun w' h => HRB.out w' (bThen HB2.out h))
  have CB := hid (show ∀ w', Below w2.heap.size w2 w' → Calls Try.prog 28 #[.slice D l.length e] w' fun e w'' => ∃ A m c, e = .returned (.slice A m c) ∧ (∀ W, Below w''.heap.size w'' W → (convert 27 9 (.slice A m c)).run Try.prog W = .ok (.string sv) W) ∧ Below w'.heap.size w' w'' from fun w' h =>
    (HSB.out w' (bThen HB2.out h)).mono (fun e w'' ⟨A, m, c, h1, h2, h3⟩ => ⟨A, m, c, h1, fun W hW => by rw [HSV.out]; exact conv_u8 (Kd.any (Own.K (h2.below hW))), h3⟩))
  have e0 : ((q : Int) == (b.length : Int)) = t := HTT.out
  clear hO2 hb2 hcv
  go_wp2_with fail
  refine wp_region_held_drew (S := fun _ => True) (by kernel_rfl) trivial (fun hHeld => ?_)
  refine anyH_take 0 (v := ?_) rfl (by kernel_rfl) (by kernel_rfl) (by kernel_rfl) (fun _ _ _ h => h) (by rfl) hHeld ?_ ?_
  rotate_left
  · (intro w hSw; (try dsimp only at hSw); go_split_ands; go_simp; try with_reducible rfl)
  (try simp only [Act.put, List.setIfInBounds_toArray, List.set_cons_zero, List.set_cons_succ])
  refine anyH_take 1 (v := ?_) rfl (by kernel_rfl) (by kernel_rfl) (by kernel_rfl) (fun _ _ _ h => h) (by rfl) hHeld ?_ ?_
  rotate_left
  · (intro w hSw; (try dsimp only at hSw); go_split_ands; go_simp; try with_reducible rfl)
  (try simp only [Act.put, List.setIfInBounds_toArray, List.set_cons_zero, List.set_cons_succ])
  refine anyH_one 2 rfl (by kernel_rfl) (fun K hK => ?_)
  go_simp
  refine (CS.out _ (Below.refl w2.heap.size w2).drew).mono ?_
  rintro e u1 ⟨rfl, hb1⟩
  have U1 := hid (show Below w2.heap.size w2 u1 from bThen (Below.refl w2.heap.size w2).drew hb1)
  go_simp
  refine hK.out _ _ trivial (fun hHeld => ?_)
  clear hK K
  (try simp only [Act.put, List.setIfInBounds_toArray, List.set_cons_zero, List.set_cons_succ])
  clear hb1
  refine anyH_take 3 (v := ?_) rfl (by kernel_rfl) (by kernel_rfl) (by kernel_rfl) (fun _ _ _ h => h) (by rfl) hHeld ?_ ?_
  rotate_left
  · (intro w hSw; (try dsimp only at hSw); go_split_ands; go_simp; try with_reducible rfl)
  (try simp only [Act.put, List.setIfInBounds_toArray, List.set_cons_zero, List.set_cons_succ])
  refine anyH_take 4 (v := ?_) rfl (by kernel_rfl) (by kernel_rfl) (by kernel_rfl) (fun _ _ _ h => h) (by rfl) hHeld ?_ ?_
  rotate_left
  · (intro w hSw; (try dsimp only at hSw); go_split_ands; go_simp; try with_reducible rfl)
  (try simp only [Act.put, List.setIfInBounds_toArray, List.set_cons_zero, List.set_cons_succ])
  refine anyH_take 5 (v := ?_) rfl (by kernel_rfl) (by kernel_rfl) (by kernel_rfl) (fun _ _ _ h => h) (by rfl) hHeld ?_ ?_
  rotate_left
  · (intro w hSw; (try dsimp only at hSw); go_split_ands; go_simp; try with_reducible rfl)
  (try simp only [Act.put, List.setIfInBounds_toArray, List.set_cons_zero, List.set_cons_succ])
  refine anyH_take 6 (v := ?_) rfl (by kernel_rfl) (by kernel_rfl) (by kernel_rfl) (fun _ _ _ h => h) (by rfl) hHeld ?_ ?_
  rotate_left
  · (intro w hSw; (try dsimp only at hSw); go_split_ands; go_simp; try with_reducible rfl)
  (try simp only [Act.put, List.setIfInBounds_toArray, List.set_cons_zero, List.set_cons_succ])
  refine anyH_take 7 (v := ?_) rfl (by kernel_rfl) (by kernel_rfl) (by kernel_rfl) (fun _ _ _ h => h) (by rfl) hHeld ?_ ?_
  rotate_left
  · (intro w hSw; (try dsimp only at hSw); go_split_ands; go_simp; try with_reducible rfl)
  (try simp only [Act.put, List.setIfInBounds_toArray, List.set_cons_zero, List.set_cons_succ])
  refine anyH_take 8 (v := ?_) rfl (by kernel_rfl) (by kernel_rfl) (by kernel_rfl) (fun _ _ _ h => h) (by rfl) hHeld ?_ ?_
  rotate_left
  · (intro w hSw; (try dsimp only at hSw); go_split_ands; go_simp; try with_reducible rfl)
  (try simp only [Act.put, List.setIfInBounds_toArray, List.set_cons_zero, List.set_cons_succ])
  refine anyH_take 9 (v := ?_) rfl (by kernel_rfl) (by kernel_rfl) (by kernel_rfl) (fun _ _ _ h => h) (by rfl) hHeld ?_ ?_
  rotate_left
  · (intro w hSw; (try dsimp only at hSw); go_split_ands; go_simp; try with_reducible rfl)
  (try simp only [Act.put, List.setIfInBounds_toArray, List.set_cons_zero, List.set_cons_succ])
  refine anyH_take 11 (v := ?_) rfl (by kernel_rfl) (by kernel_rfl) (by kernel_rfl) (fun _ _ _ h => h) (by rfl) hHeld ?_ ?_
  rotate_left
  · (intro w hSw; (try dsimp only at hSw); go_split_ands; go_simp; try with_reducible rfl)
  (try simp only [Act.put, List.setIfInBounds_toArray, List.set_cons_zero, List.set_cons_succ])
  refine anyH_take 12 (v := ?_) rfl (by kernel_rfl) (by kernel_rfl) (by kernel_rfl) (fun _ _ _ h => h) (by rfl) hHeld ?_ ?_
  rotate_left
  · (intro w hSw; (try dsimp only at hSw); go_split_ands; go_simp; try with_reducible rfl)
  (try simp only [Act.put, List.setIfInBounds_toArray, List.set_cons_zero, List.set_cons_succ])
  refine anyH_take 13 (v := ?_) rfl (by kernel_rfl) (by kernel_rfl) (by kernel_rfl) (fun _ _ _ h => h) (by rfl) hHeld ?_ ?_
  rotate_left
  · (intro w hSw; (try dsimp only at hSw); go_split_ands; go_simp; try with_reducible rfl)
  (try simp only [Act.put, List.setIfInBounds_toArray, List.set_cons_zero, List.set_cons_succ])
  refine anyH_take 14 (v := ?_) rfl (by kernel_rfl) (by kernel_rfl) (by kernel_rfl) (fun _ _ _ h => h) (by rfl) hHeld ?_ ?_
  rotate_left
  · (intro w hSw; (try dsimp only at hSw); go_split_ands; go_simp; try with_reducible rfl)
  (try simp only [Act.put, List.setIfInBounds_toArray, List.set_cons_zero, List.set_cons_succ])
  refine anyH_one 10 rfl (by kernel_rfl) (fun K hK => ?_)
  go_simp
  refine (CW.out _ U1.out).mono ?_
  rintro e u2 ⟨rfl, hb2⟩
  have U2 := hid (show Below w2.heap.size w2 u2 from bThen U1.out hb2)
  go_simp
  refine hK.out _ _ trivial (fun hHeld => ?_)
  clear hK K
  (try simp only [Act.put, List.setIfInBounds_toArray, List.set_cons_zero, List.set_cons_succ])
  clear hb2
  refine anyH_take 15 (v := ?_) rfl (by kernel_rfl) (by kernel_rfl) (by kernel_rfl) (fun _ _ _ h => h) (by rfl) hHeld ?_ ?_
  rotate_left
  · (intro w hSw; (try dsimp only at hSw); go_split_ands; go_simp; try with_reducible rfl)
  (try simp only [Act.put, List.setIfInBounds_toArray, List.set_cons_zero, List.set_cons_succ])
  refine anyH_take 16 (v := ?_) rfl (by kernel_rfl) (by kernel_rfl) (by kernel_rfl) (fun _ _ _ h => h) (by rfl) hHeld ?_ ?_
  rotate_left
  · (intro w hSw; (try dsimp only at hSw); go_split_ands; go_simp; try with_reducible rfl)
  (try simp only [Act.put, List.setIfInBounds_toArray, List.set_cons_zero, List.set_cons_succ])
  refine anyH_take 17 (v := ?_) rfl (by kernel_rfl) (by kernel_rfl) (by kernel_rfl) (fun _ _ _ h => h) (by rfl) hHeld ?_ ?_
  rotate_left
  · (intro w hSw; (try dsimp only at hSw); go_split_ands; go_simp; try with_reducible rfl)
  (try simp only [Act.put, List.setIfInBounds_toArray, List.set_cons_zero, List.set_cons_succ])
  refine anyH_take 18 (v := ?_) rfl (by kernel_rfl) (by kernel_rfl) (by kernel_rfl) (fun _ _ _ h => h) (by rfl) hHeld ?_ ?_
  rotate_left
  · (intro w hSw; (try dsimp only at hSw); go_split_ands; go_simp; try with_reducible rfl)
  (try simp only [Act.put, List.setIfInBounds_toArray, List.set_cons_zero, List.set_cons_succ])
  refine anyH_take 21 (v := ?_) rfl (by kernel_rfl) (by kernel_rfl) (by kernel_rfl) (fun _ _ _ h => h) (by rfl) hHeld ?_ ?_
  rotate_left
  · (intro w hSw; (try dsimp only at hSw); go_split_ands; go_simp; try with_reducible rfl)
  (try simp only [Act.put, List.setIfInBounds_toArray, List.set_cons_zero, List.set_cons_succ])
  refine anyH_one 19 rfl (by kernel_rfl) (fun K hK => ?_)
  go_simp
  refine (CB.out _ U2.out).mono ?_
  rintro e u3 ⟨A7, m7, c7, rfl, hcv, hb3⟩
  have HCV := hid hcv
  clear hcv
  have U3 := hid (show Below w2.heap.size w2 u3 from bThen U2.out hb3)
  go_simp
  refine hK.out _ _ trivial (fun hHeld => ?_)
  clear hK K
  (try simp only [Act.put, List.setIfInBounds_toArray, List.set_cons_zero, List.set_cons_succ])
  clear hb3
  refine wpAnyH_more (S1 := fun w' => True ∧ (convert 27 9 (.slice A7 m7 c7)).run Try.prog w' = .ok (.string sv) w') (fun _ h => h.1) _ _ _ _ ?_
  refine anyH_take 20 (v := ?_) rfl (by kernel_rfl) (by kernel_rfl) (by kernel_rfl) (fun _ _ _ h => h) (by rfl) ⟨trivial, HCV.out _ (Below.refl _ _)⟩ ?_ ?_
  rotate_left
  · (intro w hSw; (try dsimp only at hSw); go_split_ands; go_simp; try with_reducible rfl)
  (try simp only [Act.put, List.setIfInBounds_toArray, List.set_cons_zero, List.set_cons_succ])
  refine anyH_one 22 rfl (by kernel_rfl) (fun K hK => ?_)
  go_simp
  refine (CR.out _ U3.out).mono ?_
  rintro e u4 ⟨rfl, hb4⟩
  have U4 := hid (show Below w2.heap.size w2 u4 from bThen U3.out hb4)
  have V4 := hid (show Below u3.heap.size u3 u4 from bThen (Below.refl _ _) hb4)
  go_simp
  refine hK.out _ _ ⟨trivial, HCV.out _ V4.out⟩ (fun hHeld => ?_)
  clear hK K
  (try simp only [Act.put, List.setIfInBounds_toArray, List.set_cons_zero, List.set_cons_succ])
  clear hb4
  refine anyH_take 23 (v := ?_) rfl (by kernel_rfl) (by kernel_rfl) (by kernel_rfl) (fun _ _ _ h => h) (by rfl) hHeld ?_ ?_
  rotate_left
  · (intro w hSw; (try dsimp only at hSw); go_split_ands; go_simp; try with_reducible rfl)
  (try simp only [Act.put, List.setIfInBounds_toArray, List.set_cons_zero, List.set_cons_succ])
  refine anyH_take 24 (v := ?_) rfl (by kernel_rfl) (by kernel_rfl) (by kernel_rfl) (fun _ _ _ h => h) (by rfl) hHeld ?_ ?_
  rotate_left
  · (intro w hSw; (try dsimp only at hSw); go_split_ands; go_simp; try with_reducible rfl)
  (try simp only [Act.put, List.setIfInBounds_toArray, List.set_cons_zero, List.set_cons_succ])
  refine anyH_take 25 (v := ?_) rfl (by kernel_rfl) (by kernel_rfl) (by kernel_rfl) (fun _ _ _ h => h) (by rfl) hHeld ?_ ?_
  rotate_left
  · (intro w hSw; (try dsimp only at hSw); go_split_ands; go_simp; try with_reducible rfl)
  (try simp only [Act.put, List.setIfInBounds_toArray, List.set_cons_zero, List.set_cons_succ])
  refine anyH_one 26 rfl (by kernel_rfl) (fun K hK => ?_)
  go_simp
  refine (works18_calls _).mono ?_
  rintro e u5 ⟨rfl, hb5⟩
  have U5 := hid (show Below w2.heap.size w2 u5 from bThen U4.out hb5)
  have V5 := hid (show Below u3.heap.size u3 u5 from bThen V4.out hb5)
  go_simp
  refine hK.out _ _ ⟨trivial, HCV.out _ V5.out⟩ (fun hHeld => ?_)
  clear hK K
  (try simp only [Act.put, List.setIfInBounds_toArray, List.set_cons_zero, List.set_cons_succ])
  clear hb5
  refine anyH_take 27 (v := ?_) rfl (by kernel_rfl) (by kernel_rfl) (by kernel_rfl) (fun _ _ _ h => h) (by rfl) hHeld ?_ ?_
  rotate_left
  · (intro w hSw; (try dsimp only at hSw); go_split_ands; go_simp; try with_reducible rfl)
  (try simp only [Act.put, List.setIfInBounds_toArray, List.set_cons_zero, List.set_cons_succ])
  refine anyH_take 28 (v := ?_) rfl (by kernel_rfl) (by kernel_rfl) (by kernel_rfl) (fun _ _ _ h => h) (by rfl) hHeld ?_ ?_
  rotate_left
  · (intro w hSw; (try dsimp only at hSw); go_split_ands; go_simp; try with_reducible rfl)
  (try simp only [Act.put, List.setIfInBounds_toArray, List.set_cons_zero, List.set_cons_succ])
  refine wpAnyH_done (by kernel_rfl) ?_ _
  go_wp2
  go_ret
  exact ⟨rfl, bThen HB2.out U5.out⟩

theorem scanFinds_walk (W : World) (b : List UInt8) (u : Value) (hb : Kd.u8.slice.K W Any b [u]) (_ob : (∀ y ∈ b, True) ∧ b.length * 1 ≤ 140737488351232) (l : List RecS) (v : Value) (hm : Kd.recK.slice.K W Any l [v]) (_ol : (∀ y ∈ l, okRec y) ∧ l.length * 72 ≤ 140737488351232) :
    Calls Try.prog 7 #[u, v] W fun e w' => e = .returned (.bool true) ∧ Below W.heap.size W w' := by
  have h1 := hb
  have h2 := hm
  obtain ⟨B, d, he, _, _, _⟩ := h1
  obtain rfl : u = .slice B b.length d := by simpa using he
  obtain ⟨D, e, he, _, _, _⟩ := h2
  obtain rfl : v = .slice D l.length e := by simpa using he
  exact scanFindsLaw_calls W b B d hb l D e hm
end Go.Proofs.Ytahhhnbpohcbfaa
