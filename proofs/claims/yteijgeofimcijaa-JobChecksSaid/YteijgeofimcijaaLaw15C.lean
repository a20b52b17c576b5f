/- The law JobChecks. -/
import Derived.Test.YteijgeofimcijaaJobC
import Derived.Test.YteijgeofimcijaaLongNo
namespace Go.Proofs.Yteijgeofimcijaa
open Go.RowKit

theorem eqIn3 (a b c a' b' c' : Int) (w : World) : (Op.equalIn 10000 62 (.agg #[.int .i64 a, .int .i64 b, .int .i64 c]) (.agg #[.int .i64 a', .int .i64 b', .int .i64 c'])).run Try.prog w = .ok (a == a' && b == b' && c == c') w := by
  have hi : ∀ (x y : Int) (w : World), (Op.equalIn 9999 3 (.int .i64 x) (.int .i64 y)).run Try.prog w = .ok (x == y) w := fun x y w => run_equalIn_int w 9998 3 .i64 .i64 x y Try.underlying3
  rw [show (10000 : Nat) = 9998 + 1 + 1 from rfl, Op.equalIn]
  have hs : ∀ w, (sizeOf 3).run Try.prog w = .ok 1 w := fun w => by kernel_rfl
  have h0 : ∀ (a b c : Int) w, (part 3 #[.int .i64 a, .int .i64 b, .int .i64 c] 0).run Try.prog w = .ok (.int .i64 a) w := fun a b c w => by kernel_rfl
  have h1 : ∀ (a b c : Int) w, (part 3 #[.int .i64 a, .int .i64 b, .int .i64 c] 1).run Try.prog w = .ok (.int .i64 b) w := fun a b c w => by kernel_rfl
  have h2 : ∀ (a b c : Int) w, (part 3 #[.int .i64 a, .int .i64 b, .int .i64 c] 2).run Try.prog w = .ok (.int .i64 c) w := fun a b c w => by kernel_rfl
  have hr : List.range' 0 3 = [0, 1, 2] := rfl
  simp [run_underlying Try.underlying62, hs, hr, h0, h1, h2, hi]
  by_cases e1 : a = a'
  · by_cases e2 : b = b'
    · by_cases e3 : c = c'
      · simp [e1, e2, e3]
      · simp [e1, e2, e3]
    · simp [e1, e2]
  · simp [e1]
theorem neq3 (a b c : Int) (w : World) : (binOp BinOp.neq 62 (.agg #[.int .i64 a, .int .i64 b, .int .i64 c]) (.agg #[.int .i64 a, .int .i64 b, .int .i64 c])).run Try.prog w = .ok (.bool false) w := by
  go_simp
  rw [eqIn3]
  simp
def longC (C : ConfS) : Bool := longB C.names 40 100 || decide (80 < C.workers.length)
set_option maxHeartbeats 1000000 in
set_option maxRecDepth 100000 in
theorem rlong14_calls (C : ConfS) (A B : Option Addr) (c d : Nat) (w : World) (h1 : Kd.str.slice.K w Any C.names [.slice A C.names.length c]) : Calls Try.prog 32 #[.agg #[.int .i64 C.scheds, .int .i64 C.lease, .int .i64 C.again, .int .i64 C.room, .int .i64 C.out, .slice A C.names.length c, .slice B C.workers.length d]] w fun e w' => e = .returned (.bool (longC C)) ∧ Below w.heap.size w w' := by
  have H1 := hid h1
  have HB := hid (show Below w.heap.size w (w.alloc (.cells #[.int .i64 C.scheds, .int .i64 C.lease, .int .i64 C.again, .int .i64 C.room, .int .i64 C.out, .slice A C.names.length c, .slice B C.workers.length d] 56)) from bAlloc (Below.refl _ _) _)
  have HD := hid (show longC C = (longB C.names 40 100 || decide (80 < C.workers.length)) from rfl)
  obtain ⟨q, hq⟩ : ∃ q, q = C.workers.length := ⟨_, rfl⟩
  rw [← hq] at HD HB ⊢
  clear h1 hq
  go_enter Try.func32, Try.ntmps32
  go_wp2_with fail
  refine (long_calls C.names 40 100 _ _ (Kd.below H1.out HB.out)).mono ?_
  rintro e w1 ⟨rfl, rfl⟩
  cases hl : longB C.names 40 100
  · rw [hl] at HD
    by_cases h80 : 80 < q
    · have hI : (80 : Int) < (q : Int) := by omega
      go_wp2
      go_ret
      exact ⟨ret_bool (by rw [HD.out]; simp [h80]; try omega), HB.out⟩
    · have hI : ¬ (80 : Int) < (q : Int) := by omega
      go_wp2
      go_ret
      exact ⟨ret_bool (by rw [HD.out]; simp [h80]; try omega), HB.out⟩
  · rw [hl] at HD
    go_wp2
    go_ret
    exact ⟨ret_bool (by rw [HD.out]; rfl), HB.out⟩
set_option maxHeartbeats 2000000 in
set_option maxRecDepth 100000 in
theorem works15_calls (w : World) : Calls Try.prog 33 #[] w fun e w' => e = .returned (.bool true) ∧ Below w.heap.size w w' := by
  have T1 := hid (show checkJ [⟨#[103, 112, 117]⟩] [⟨1, 1, 0⟩] 1 [⟨#[42]⟩, ⟨#[103, 112, 117]⟩] = (1, 0, 11) by decide +kernel)
  have HT := hid (K_newS w w.heap.size rfl 9 [⟨#[103, 112, 117]⟩] (by decide))
  go_enter Try.func33, Try.ntmps33
  go_wp2_with fail
  refine (jobCheck_calls [⟨#[103, 112, 117]⟩] [⟨1, 1, 0⟩] 1 [⟨#[42]⟩, ⟨#[103, 112, 117]⟩] 0 0 0 0 0 _ _ _ _ (Kd.below HT.out (bAlloc (bAlloc (bAlloc (Below.refl _ _) _) _) _))
    (Kd.below (Kd.any (K_new (enc := fun (x : WorkerS) => [.int .i64 x.slots, .int .i64 x.limit, .int .u64 x.attrs]) (hl := fun _ => rfl) (h1 := fun x u hu => by simp at hu; rcases hu with rfl | rfl | rfl <;> rfl) _ (w.heap.size + 1) (by simp) 159 [⟨1, 1, 0⟩] (by decide))) (bAlloc (bAlloc (Below.refl _ _) _) _))
    (by intro x hx; rw [List.mem_singleton.1 hx]; decide)
    (K_newS _ (w.heap.size + 1 + 1 + 1) (by simp) 9 [⟨#[42]⟩, ⟨#[103, 112, 117]⟩] (by decide)) (by intro x hx; simp at hx; rcases hx with rfl | rfl <;> decide)).mono ?_
  rintro e w1 ⟨rfl, hb1⟩
  rw [T1.out]
  have HB1 := hid (bThen (bAlloc (bAlloc (bAlloc (bAlloc (Below.refl w.heap.size w) _) _) _) _) hb1)
  clear hb1
  go_wp2
  go_ret
  exact ⟨rfl, HB1.out⟩
set_option maxHeartbeats 8000000 in
set_option maxRecDepth 100000 in
theorem jobChecksLaw (C : ConfS) (J : JobS) (A B D : Option Addr) (c d f : Nat) (w : World) (ht : Kd.str.slice.K w Any C.names [.slice A C.names.length c]) (hw : Kd.worker.slice.K w Any C.workers [.slice B C.workers.length d]) (ha : ∀ x ∈ C.workers, x.attrs < 2 ^ 64) (hss : Kd.str.slice.K w Any J.needs [.slice D J.needs.length f]) :
    Calls Try.prog 7 #[.agg #[.int .i64 C.scheds, .int .i64 C.lease, .int .i64 C.again, .int .i64 C.room, .int .i64 C.out, .slice A C.names.length c, .slice B C.workers.length d], .agg #[.int .i64 J.id, .slice D J.needs.length f]] w fun e w' => e = .returned (.bool true) ∧ Below w.heap.size w w' := by
  have HT := hid ht
  have HW := hid hw
  have HA := hid ha
  obtain ⟨q, hq⟩ : ∃ q, J.needs.length = q := ⟨_, rfl⟩
  have HQ := hid hq
  rw [hq] at hss ⊢
  have HSS := hid hss
  obtain ⟨_, _, he, hc, hm, hr⟩ := hss
  injection he with he _
  injection he with he1 he2 he3
  subst he1; subst he3
  clear he2
  rw [hq] at hc hm
  have HR := hid hr
  obtain ⟨V, hV⟩ : ∃ V, V = (w.alloc (.cells #[.int .i64 C.scheds, .int .i64 C.lease, .int .i64 C.again, .int .i64 C.room, .int .i64 C.out, .slice A C.names.length c, .slice B C.workers.length d] 56)).alloc (.cells #[.int .i64 J.id, .slice D q f] 58) := ⟨_, rfl⟩
  have HBV := hid (show Below w.heap.size w V by rw [hV]; exact bAlloc (bAlloc (Below.refl _ _) _) _)
  have hz := hid (show V.heap[w.heap.size]? = some (.cells #[.int .i64 C.scheds, .int .i64 C.lease, .int .i64 C.again, .int .i64 C.room, .int .i64 C.out, .slice A C.names.length c, .slice B C.workers.length d] 56 (0, 0)) by rw [hV, Below.heap_alloc _ _ _ (by simp)]; exact heap_at rfl)
  have hz1 := hid (show V.heap[w.heap.size + 1]? = some (.cells #[.int .i64 J.id, .slice D q f] 58 (0, 0)) by rw [hV]; exact heap_at (by simp))
  have HS := hid (fun (u : World) (hb : Below V.heap.size V u) => show u.cell? ⟨w.heap.size, 0, none⟩ = some (.int .i64 C.scheds) ∧ u.cell? ⟨w.heap.size, 1, none⟩ = some (.int .i64 C.lease) ∧ u.cell? ⟨w.heap.size, 2, none⟩ = some (.int .i64 C.again) ∧ u.cell? ⟨w.heap.size, 3, none⟩ = some (.int .i64 C.room) ∧ u.cell? ⟨w.heap.size, 4, none⟩ = some (.int .i64 C.out) ∧ u.cell? ⟨w.heap.size, 5, none⟩ = some (.slice A C.names.length c) ∧ u.cell? ⟨w.heap.size, 6, none⟩ = some (.slice B C.workers.length d) ∧ u.cell? ⟨w.heap.size + 1, 0, none⟩ = some (.int .i64 J.id) ∧ u.cell? ⟨w.heap.size + 1, 1, none⟩ = some (.slice D q f) from by
    obtain ⟨c0, c1, c2, c3', c4, c5, c6⟩ := conf_box hz.out u hb
    obtain ⟨y0, _, _⟩ := cells_of_block ((hb.block (w.heap.size + 1) (Array.getElem?_eq_some_iff.1 hz1.out).1).trans hz1.out)
    exact ⟨c0, c1, c2, c3', c4, c5, c6, y0 0 _ rfl, y0 1 _ rfl⟩)
  have HV := hid hV
  have HLG := hid (show longC C = (longB C.names 40 100 || decide (80 < C.workers.length)) from rfl)
  clear hV hr hq ha
  obtain ⟨c0, c1, c2, c3, c4, c5, c6, c7, c8⟩ := HS.out V (Below.refl _ _)
  go_enter Try.func7, Try.ntmps7
  go_wp2_with fail
  rw [← HV.out]
  refine (rlong14_calls C A B c d V (Kd.below HT.out HBV.out)).mono ?_
  rintro e w1 ⟨rfl, hb1⟩
  have HB1 := hid hb1
  obtain ⟨_, _, _, _, _, _, _, d7, d8⟩ := HS.out w1 hb1
  clear hb1
  obtain ⟨lc, hlc⟩ : ∃ lc, lc = longC C := ⟨_, rfl⟩
  rw [← hlc] at HLG ⊢
  clear hlc
  cases lc
  case true =>
    go_wp2_with fail
    refine (works15_calls _).mono ?_
    rintro e w2 ⟨rfl, hb2⟩
    go_wp2
    go_ret
    exact ⟨rfl, bThen (bThen HBV.out HB1.out) hb2⟩
  have HWL := hid (show C.workers.length ≤ 1000000 by
    have := HLG.out.symm
    rw [Bool.or_eq_false_iff] at this
    have := of_decide_eq_false this.2
    omega)
  go_wp2_with fail
  refine (long_calls J.needs 20 300 _ _ (Kd.below HSS.out (bThen HBV.out HB1.out))).mono ?_
  rintro e w2 ⟨rfl, rfl⟩
  cases hl : longB J.needs 20 300
  case true =>
    go_wp2_with fail
    refine (works15_calls _).mono ?_
    rintro e w2 ⟨rfl, hb2⟩
    go_wp2
    go_ret
    exact ⟨rfl, bThen (bThen HBV.out HB1.out) hb2⟩
  have hno := long_no hl
  have HZ1 := hid (show ∀ s ∈ J.needs, s.size ≤ 140737488351232 from fun s hs => by have := hno.1 s hs; omega)
  have HZ2 := hid (show ∀ s ∈ J.needs, s.size * 24 ≤ 140737488351232 from fun s hs => by have := hno.1 s hs; omega)
  have hq20 : q ≤ 20 := by have := hno.2; rw [HQ.out] at this; omega
  clear hl hno
  obtain ⟨x0, x1, x2, x3, x4, x5, x6, x7, x8⟩ := HS.out w1 HB1.out
  obtain ⟨j1, j2, j3, hj⟩ : ∃ j1 j2 j3, checkJ C.names C.workers J.id J.needs = (j1, j2, j3) := ⟨_, _, _, rfl⟩
  have HJ := hid hj
  clear hj d7 d8
  go_wp2_with fail
  refine (jobCheck_calls C.names C.workers J.id J.needs C.scheds C.lease C.again C.room C.out _ _ _ w1 (Kd.below HT.out (bThen HBV.out HB1.out)) (Kd.below HW.out (bThen HBV.out HB1.out)) HA.out (Kd.below HSS.out (bThen HBV.out HB1.out)) HZ1.out).mono ?_
  rintro e w2 ⟨rfl, hb2⟩
  rw [HJ.out]
  dsimp only
  have HB2 := hid (bThen HB1.out hb2)
  clear hb2 x0 x1 x2 x3 x4 x5 x6 x7 x8
  obtain ⟨an, han⟩ : ∃ an, an = anyS C.names C.workers J.needs := ⟨_, rfl⟩
  have HAN := hid han
  have hn3 := fun w => neq3 j1 j2 j3 w
  have hne : ((an : Int) != (an : Int)) = false := bne_self_eq_false _
  clear han
  go_wp2_with fail
  have HE0 := hid (bThen HBV.out HB2.out.drew)
  have e0 := HS.out w2.drew HB2.out.drew
  go_region_held3 (fun w' => w'.cell? ⟨w.heap.size, 0, none⟩ = some (.int .i64 C.scheds) ∧ w'.cell? ⟨w.heap.size, 1, none⟩ = some (.int .i64 C.lease) ∧ w'.cell? ⟨w.heap.size, 2, none⟩ = some (.int .i64 C.again) ∧ w'.cell? ⟨w.heap.size, 3, none⟩ = some (.int .i64 C.room) ∧ w'.cell? ⟨w.heap.size, 4, none⟩ = some (.int .i64 C.out) ∧ w'.cell? ⟨w.heap.size, 5, none⟩ = some (.slice A C.names.length c) ∧ w'.cell? ⟨w.heap.size, 6, none⟩ = some (.slice B C.workers.length d) ∧ w'.cell? ⟨w.heap.size + 1, 0, none⟩ = some (.int .i64 J.id) ∧ w'.cell? ⟨w.heap.size + 1, 1, none⟩ = some (.slice D q f)) (first | exact e0 | exact e1 | exact e2 | exact e3 | fail) (first
    | ((with_reducible refine (rcheck15_calls C.names C.workers J.id J.needs C.scheds C.lease C.again C.room C.out _ _ _ w2.drew (Kd.below HT.out HE0.out) (Kd.below HW.out HE0.out) HA.out (Kd.below HSS.out HE0.out) HZ2.out HWL.out).mono ?_); rintro e w3 ⟨rfl, hb3⟩; rw [HJ.out]; dsimp only; have U1 := hid (bThen HB2.out.drew hb3); have HE1 := hid (bThen HBV.out U1.out); have e1 := HS.out w3 U1.out; clear hb3)
    | ((with_reducible refine (jobAny_calls C.names C.workers J.needs C.scheds C.lease C.again C.room C.out _ _ _ w3 (Kd.below HT.out HE1.out) (Kd.below HW.out HE1.out) HA.out (Kd.below HSS.out HE1.out) HZ1.out).mono ?_); rintro e w4 ⟨rfl, hb4⟩; rw [← HAN.out]; have U2 := hid (bThen U1.out hb4); have HE2 := hid (bThen HBV.out U2.out); have e2 := HS.out w4 U2.out; clear hb4)
    | ((with_reducible refine (rany15_calls C.names C.workers J.needs C.scheds C.lease C.again C.room C.out _ _ _ w4 (Kd.below HT.out HE2.out) (Kd.below HW.out HE2.out) HA.out (Kd.below HSS.out HE2.out) HZ2.out HWL.out (by rw [HQ.out]; omega)).mono ?_); rintro e w5 ⟨rfl, hb5⟩; rw [← HAN.out]; have U3 := hid (bThen U2.out hb5); have HE3 := hid (bThen HBV.out U3.out); have e3 := HS.out w5 U3.out; clear hb5)
    | fail)
  clear e0 e1 e2 e3 hn3 hne
  go_wp2
  go_loopw [8] (fun i wr => ∃ k : Nat, k ≤ q ∧ i = .int .i64 k ∧ Hid (Below V.heap.size V wr)) (fun i _ => q - (intOf i).toNat)
  case atStart => exact ⟨0, by omega, rfl, U3⟩
  case round =>
    obtain ⟨k, hk, rfl, HB⟩ := hrel
    obtain ⟨_, _, _, _, _, _, _, d7, d8⟩ := HS.out wr HB.out
    by_cases hlt : k < q
    · obtain ⟨a, x, rfl, hx, r0⟩ := (HR.out.below (bThen HBV.out HB.out)).at_str k (by rw [HQ.out]; exact hlt)
      have hltI : (k : Int) < (q : Int) := by omega
      have hk0 : (0 : Int) ≤ (k : Int) := by omega
      have HX := hid hx
      have HXZ := hid (HZ2.out x (List.mem_of_getElem? hx))
      have HXY := hid (HZ1.out x (List.mem_of_getElem? hx))
      have HNL := hid (needS_len C.names x)
      have HS2 := hid (fun (u : World) (hb : Below V.heap.size V u) => show u.cell? ⟨w.heap.size, 0, none⟩ = some (.int .i64 C.scheds) ∧ u.cell? ⟨w.heap.size, 1, none⟩ = some (.int .i64 C.lease) ∧ u.cell? ⟨w.heap.size, 2, none⟩ = some (.int .i64 C.again) ∧ u.cell? ⟨w.heap.size, 3, none⟩ = some (.int .i64 C.room) ∧ u.cell? ⟨w.heap.size, 4, none⟩ = some (.int .i64 C.out) ∧ u.cell? ⟨w.heap.size, 5, none⟩ = some (.slice A C.names.length c) ∧ u.cell? ⟨w.heap.size, 6, none⟩ = some (.slice B C.workers.length d) ∧ u.cell? ⟨w.heap.size + 1, 0, none⟩ = some (.int .i64 J.id) ∧ u.cell? ⟨w.heap.size + 1, 1, none⟩ = some (.slice (some a) q f) ∧ u.cell? (a.add k) = some (.string x) from by
        obtain ⟨c0, c1, c2, c3', c4, c5, c6, c7, c8⟩ := HS.out u hb
        obtain ⟨a', x', ha', hx', r0'⟩ := (HR.out.below (bThen HBV.out hb)).at_str k (by rw [HQ.out]; exact hlt)
        cases ha'
        rw [HX.out] at hx'
        obtain rfl := Option.some.inj hx'
        exact ⟨c0, c1, c2, c3', c4, c5, c6, c7, c8, r0'⟩)
      obtain ⟨z, hz⟩ : ∃ z, z = setS C.names C.workers x := ⟨_, rfl⟩
      have HZ := hid hz
      have hne : ((z : Int) != (z : Int)) = false := bne_self_eq_false _
      clear hx hz
      go_wp2_with fail
      have e0 := HS2.out wr.drew HB.out.drew
      have HD0 := hid (bThen HBV.out HB.out.drew)
      go_region_held3 (fun w' => w'.cell? ⟨w.heap.size, 0, none⟩ = some (.int .i64 C.scheds) ∧ w'.cell? ⟨w.heap.size, 1, none⟩ = some (.int .i64 C.lease) ∧ w'.cell? ⟨w.heap.size, 2, none⟩ = some (.int .i64 C.again) ∧ w'.cell? ⟨w.heap.size, 3, none⟩ = some (.int .i64 C.room) ∧ w'.cell? ⟨w.heap.size, 4, none⟩ = some (.int .i64 C.out) ∧ w'.cell? ⟨w.heap.size, 5, none⟩ = some (.slice A C.names.length c) ∧ w'.cell? ⟨w.heap.size, 6, none⟩ = some (.slice B C.workers.length d) ∧ w'.cell? ⟨w.heap.size + 1, 0, none⟩ = some (.int .i64 J.id) ∧ w'.cell? ⟨w.heap.size + 1, 1, none⟩ = some (.slice (some a) q f) ∧ w'.cell? (a.add k) = some (.string x)) (first | exact e0 | exact e1 | exact e2 | fail) (first
        | ((with_reducible refine (jobSet_calls C.names C.workers x C.scheds C.lease C.again C.room C.out _ _ wr.drew (Kd.below HT.out HD0.out) (Kd.below HW.out HD0.out) HA.out HXY.out (by have := HNL.out; omega)).mono ?_); rintro e w3 ⟨rfl, hb3⟩; rw [← HZ.out]; have U1 := hid (bThen HB.out.drew hb3); have HD1 := hid (bThen HBV.out U1.out); have e1 := HS2.out w3 U1.out; clear hb3)
        | ((with_reducible refine (rset15_calls C.names C.workers x C.scheds C.lease C.again C.room C.out _ _ w3 (Kd.below HT.out HD1.out) (Kd.below HW.out HD1.out) HA.out HXZ.out HWL.out).mono ?_); rintro e w4 ⟨rfl, hb4⟩; rw [← HZ.out]; have U2 := hid (bThen U1.out hb4); have e2 := HS2.out w4 U2.out; clear hb4)
        | fail)
      clear e0 e1 e2
      go_wp2
      go_roundw
      case rel => exact ⟨k + 1, by omega, by go_num, U2⟩
      case measure => simp [intOf]; omega
    · obtain rfl : k = q := by omega
      go_wp2_with fail
      refine (works15_calls _).mono ?_
      rintro e w2 ⟨rfl, hb2⟩
      go_wp2
      go_ret
      exact ⟨rfl, bThen (bThen HBV.out HB.out) hb2⟩
theorem jobChecks_walk (W : World) (C : ConfS) (cs : Array Value) (hC : Kd.conf.K W Any C cs.toList) (oC : okConf C) (J : JobS) (js : Array Value) (hJ : Kd.job.K W Any J js.toList) (_oJ : okStrs J.needs) :
    Calls Try.prog 7 #[.agg cs, .agg js] W fun e w' => e = .returned (.bool true) ∧ Below W.heap.size W w' := by
  obtain ⟨A, c, B, d, h0, h1, h2⟩ := conf_cells hC
  obtain ⟨D, f, h3, h4⟩ := job_cells hJ
  obtain rfl : cs = #[.int .i64 C.scheds, .int .i64 C.lease, .int .i64 C.again, .int .i64 C.room, .int .i64 C.out, .slice A C.names.length c, .slice B C.workers.length d] := by cases cs; simp_all
  obtain rfl : js = #[.int .i64 J.id, .slice D J.needs.length f] := by cases js; simp_all
  exact jobChecksLaw C J A B D c d f W h1 h2 oC.2.1 h4
end Go.Proofs.Yteijgeofimcijaa
