/- job.plain, Bytes, Same; siskinref15.Plain, Bytes, Same. -/
import Derived.Test.YteijgeofimcijaaAt8N
import Derived.Test.YteijgeofimcijaaR01
import Derived.Test.YteijgeofimcijaaRef03L
import Derived.Test.YteijgeofimcijaaNamesS
import Derived.Test.YteijgeofimcijaaConfK
import Derived.Test.YteijgeofimcijaaBoxW
import Derived.Deep.RegionHeld3
namespace Go.Proofs.Yteijgeofimcijaa
open Go.RowKit

def plainJ (J : JobS) : Bool := decide (1 ≤ J.id) && (decide (J.id ≤ 72057594037927935) && !longB J.needs 16 200)
def jobHead (J : JobS) : List UInt8 := numL (clampN J.id) ++ numL (clampN (J.needs.length : Int))
def jobL (J : JobS) : List UInt8 := if plainJ J then jobHead J ++ J.needs.flatMap (fun s => textL s.data.toList) else []
theorem plainJ_yes {J : JobS} (h : plainJ J = true) : (1 ≤ J.id ∧ J.id ≤ 72057594037927935) ∧ (∀ s ∈ J.needs, s.size ≤ 200) ∧ J.needs.length ≤ 16 := by
  unfold plainJ at h
  simp only [Bool.and_eq_true, decide_eq_true_eq, Bool.not_eq_true'] at h
  obtain ⟨h1, h2, h3⟩ := h
  obtain ⟨h4, h5⟩ := long_no h3
  exact ⟨⟨h1, h2⟩, fun s hs => by have := h4 s hs; omega, by omega⟩
theorem jobHead_len (J : JobS) : (jobHead J).length ≤ 16 := by
  have h1 := numL_len_le (clampN_le J.id)
  have h2 := numL_len_le (clampN_le (J.needs.length : Int))
  unfold jobHead; rw [List.length_append]; omega
set_option maxHeartbeats 1600000 in
set_option maxRecDepth 100000 in
theorem plain_calls (J : JobS) (A : Option Addr) (c : Nat) (w : World) (hn : Kd.str.slice.K w Any J.needs [.slice A J.needs.length c]) :
    Calls Try.prog 122 #[.agg #[.int .i64 J.id, .slice A J.needs.length c]] w fun e w' => e = .returned (.bool (plainJ J)) ∧ Below w.heap.size w w' := by
  obtain ⟨_, _, he, hc, hm, hr⟩ := hn
  injection he with he _
  injection he with he1 he2 he3
  subst he1; subst he3
  clear he2
  obtain ⟨q, hq⟩ : ∃ q, J.needs.length = q := ⟨_, rfl⟩
  have HQ := hid hq
  have HR := hid hr
  rw [hq] at hc hm ⊢
  clear hr hq
  go_enter Try.func122, Try.ntmps122
  have HB0 := hid (bAlloc (Below.refl w.heap.size w) (.cells #[.int .i64 J.id, .slice A q c] 58))
  go_wp2_with fail
  go_loop [8] (fun i => ∃ k : Nat, k ≤ q ∧ i = .int .i64 k ∧ Hid (∀ s ∈ J.needs.take k, s.size ≤ 200)) (fun i => q - (intOf i).toNat)
  case atStart => exact ⟨0, by omega, rfl, fun s hs => by simp at hs⟩
  case round =>
    obtain ⟨k, hkm, rfl, HF⟩ := hrel
    by_cases hlt : k < q
    · obtain ⟨a, x, rfl, hx, hcx⟩ := Kd.Row.at_str (HR.out.below HB0.out) k (by rw [HQ.out]; exact hlt)
      have HX := hid hx
      clear hx
      by_cases hs : (x.size : Int) > 200
      · go_wp2
        go_ret
        refine ⟨?_, bAlloc (Below.refl _ _) _⟩
        have : longB J.needs 16 200 = true := by
          unfold longB
          rw [List.any_eq_true.2 ⟨x, List.mem_of_getElem? HX.out, by simpa using hs⟩]; rfl
        simp [plainJ, this]
      · go_wp2
        go_round
        case rel => exact ⟨k + 1, by omega, by go_num, fun s h => by rw [take_snoc HX.out] at h; rcases List.mem_append.1 h with h | h; exact HF.out s h; rw [List.mem_singleton.1 h]; omega⟩
        case measure => simp [intOf]; omega
    · have HG : Hid (longB J.needs 16 200 = decide ((q : Int) > 16)) := by
        have h2 : J.needs.take k = J.needs := List.take_of_length_le (by rw [HQ.out]; omega)
        have h3 := HF.out
        rw [h2] at h3
        show longB J.needs 16 200 = decide ((q : Int) > 16)
        unfold longB
        rw [List.any_eq_false.2 (fun s hs => by have := h3 s hs; simp; omega), HQ.out, Bool.false_or]
      have HP : Hid (plainJ J = (decide (1 ≤ J.id) && (decide (J.id ≤ 72057594037927935) && decide (q ≤ 16)))) := by
        show plainJ J = _
        unfold plainJ
        rw [HG.out]
        congr 2
        by_cases h : (q : Int) > 16
        · rw [decide_eq_true h, decide_eq_false (by omega)]; rfl
        · rw [decide_eq_false h, decide_eq_true (by omega)]; rfl
      clear HF
      by_cases a1 : 1 ≤ J.id
      · by_cases a2 : J.id ≤ 72057594037927935
        · by_cases a3 : (q : Int) ≤ 16
          · go_wp2
            go_ret
            exact ⟨by rw [HP.out, decide_eq_true a1, decide_eq_true a2, decide_eq_true (by omega)]; rfl, bAlloc (Below.refl _ _) _⟩
          · go_wp2
            go_ret
            exact ⟨by rw [HP.out, decide_eq_true a1, decide_eq_true a2, decide_eq_false (by omega)]; rfl, bAlloc (Below.refl _ _) _⟩
        · go_wp2
          go_ret
          exact ⟨by rw [HP.out, decide_eq_false (by omega : ¬ J.id ≤ 72057594037927935)]; simp, bAlloc (Below.refl _ _) _⟩
      · go_wp2
        go_ret
        exact ⟨by rw [HP.out, decide_eq_false (by omega : ¬ 1 ≤ J.id)]; rfl, bAlloc (Below.refl _ _) _⟩
set_option maxHeartbeats 1600000 in
set_option maxRecDepth 100000 in
theorem rplain_calls (J : JobS) (A : Option Addr) (c : Nat) (w : World) (hn : Kd.str.slice.K w Any J.needs [.slice A J.needs.length c]) :
    Calls Try.prog 125 #[.agg #[.int .i64 J.id, .slice A J.needs.length c]] w fun e w' => e = .returned (.bool (plainJ J)) ∧ Below w.heap.size w w' := by
  have HK := hid hn
  clear hn
  go_enter Try.func125, Try.ntmps125
  by_cases a1 : 1 ≤ J.id
  · by_cases a2 : J.id ≤ 72057594037927935
    · go_wp2_with fail
      refine (long_calls J.needs 16 200 _ _ (Kd.below HK.out (bAlloc (Below.refl _ _) _))).mono ?_
      rintro e w1 ⟨rfl, rfl⟩
      obtain ⟨B, hB⟩ : ∃ B, B = longB J.needs 16 200 := ⟨_, rfl⟩
      have HP := hid (show plainJ J = !B by unfold plainJ; rw [decide_eq_true a1, decide_eq_true a2, hB]; rfl)
      rw [← hB]
      clear hB
      cases B <;>
      · go_wp2
        go_ret
        exact ⟨by rw [HP.out]; rfl, bAlloc (Below.refl _ _) _⟩
    · go_wp2
      go_ret
      exact ⟨by unfold plainJ; rw [decide_eq_false (by omega : ¬ J.id ≤ 72057594037927935)]; simp, bAlloc (Below.refl _ _) _⟩
  · go_wp2
    go_ret
    exact ⟨by unfold plainJ; rw [decide_eq_false (by omega : ¬ 1 ≤ J.id)]; rfl, bAlloc (Below.refl _ _) _⟩
set_option maxHeartbeats 6400000 in
set_option maxRecDepth 100000 in
theorem jobBytes_calls (J : JobS) (A : Option Addr) (c : Nat) (w : World) (hn : Kd.str.slice.K w Any J.needs [.slice A J.needs.length c]) :
    Calls Try.prog 71 #[.agg #[.int .i64 J.id, .slice A J.needs.length c]] w fun e w' => ∃ A m c, e = .returned (.slice A m c) ∧ Own Kd.u8 5 w' w.heap.size NoT (.slice A m c) (jobL J) ∧ Below w.heap.size w w' := by
  have HK := hid hn
  cases hok : plainJ J
  · have HV := hid (show jobL J = [] by unfold jobL; rw [hok]; rfl)
    have HOK := hid hok
    clear hn hok
    go_enter Try.func71, Try.ntmps71
    go_wp2_with fail
    refine (plain_calls J A c _ (Kd.below HK.out (bAlloc (Below.refl _ _) _))).mono ?_
    rintro e w1 ⟨rfl, hb1⟩
    rw [HOK.out]
    go_wp2
    go_ret
    exact ⟨none, 0, 0, rfl, by rw [HV.out]; exact Own.nil _ _ _ _ _, bThen (bAlloc (Below.refl _ _) _) hb1⟩
  obtain ⟨_, hn200, hn16⟩ := plainJ_yes hok
  have HL := hid (show jobL J = jobHead J ++ J.needs.flatMap (fun s => textL s.data.toList) by unfold jobL; rw [if_pos hok])
  obtain ⟨_, _, he, hc, hm, hr⟩ := hn
  injection he with he _
  injection he with he1 he2 he3
  subst he1; subst he3
  clear he2
  obtain ⟨q, hq⟩ : ∃ q, J.needs.length = q := ⟨_, rfl⟩
  have HH := hid (show jobHead J = numL (clampN J.id) ++ numL (clampN (q : Int)) by unfold jobHead; rw [hq])
  have HQ := hid hq
  have HR := hid hr
  have HN2 := hid hn200
  have HOK := hid hok
  have HPC := fun w h => plain_calls J A c w h
  rw [hq] at hc hm hn16 HK HPC ⊢
  clear hr hq hn200 hok
  go_enter Try.func71, Try.ntmps71
  go_wp2_with fail
  refine (HPC _ (Kd.below HK.out (bAlloc (Below.refl _ _) _))).mono ?_
  rintro e w1 ⟨rfl, hb1⟩
  rw [HOK.out]
  have HB1 := hid (bThen (bAlloc (Below.refl _ _) _) hb1)
  have hx1 : w1.heap[w.heap.size]? = some (.cells #[.int .i64 J.id, .slice A q c] 58 (0, 0)) := (hb1.block _ (by simp)).trans (heap_at rfl)
  have HX1 := hid hx1
  have hs1 : w.heap.size < w1.heap.size := (Array.getElem?_eq_some_iff.1 hx1).1
  have x0 := (cells_of_block hx1).1 0 _ rfl
  have x1 := (cells_of_block hx1).1 1 _ rfl
  clear hx1 hb1 HPC
  have HK0 : Hid (∀ w, Kd.u8.slice.K w Any [] [.slice none 0 0]) := fun w => ⟨none, 0, rfl, by simp, by simp, Kd.Row.nil⟩
  have h8 : ([] : List UInt8).length ≤ 1000000000 := by simp
  have h9 : ([] ++ numL (clampN J.id)).length ≤ 1000000000 := by have := numL_len_le (clampN_le J.id); simp; omega
  go_wp2_with fail
  go_region_held3 (fun w' => w'.cell? ⟨w.heap.size, 0, none⟩ = some (.int .i64 J.id) ∧ w'.cell? ⟨w.heap.size, 1, none⟩ = some (.slice A q c)) (first | exact ⟨x0, x1⟩ | exact ⟨d0, d1⟩ | exact ⟨e0, e1⟩ | go_keep) (first
    | ((with_reducible refine (num_calls [] (.slice none 0 0) J.id _ (HK0.out _) h8).mono ?_); rintro e w4 ⟨A4, m4, c4, rfl, hO4, hb4⟩; have d0 := cell_keep hb4 x0; have d1 := cell_keep hb4 x1; have HO4 := hid hO4; clear hO4)
    | ((with_reducible refine (num_calls ([] ++ numL (clampN J.id)) (.slice A4 m4 c4) (q : Int) _ (Kd.any (Own.K HO4.out)) h9).mono ?_); rintro e w5 ⟨A5, m5, c5, rfl, hO5, hb5⟩; have e0 := cell_keep hb5 d0; have e1 := cell_keep hb5 d1; have HO5 := hid hO5; clear hO5)
    | fail)
  have HB5 := hid (bThen (bThen (Below.refl _ _).drew hb4) hb5 : Below w1.heap.size w1 w5)
  have HO0 : Hid (Own Kd.u8 5 w5 w.heap.size NoT (.slice A5 m5 c5) (jobHead J)) := by
    have hd : w1.drew.heap.size = w1.heap.size := rfl
    have h1 : Own Kd.u8 5 w5 w.heap.size NoT (.slice A5 m5 c5) ([] ++ numL (clampN J.id) ++ numL (clampN (q : Int))) := HO5.out.lower (by have := HB1.out.size; have := hb4.size; omega)
    show Own _ _ _ _ _ _ _
    rw [HH.out]; simpa using h1
  clear x0 x1 d0 d1 e0 e1 hb4 hb5 HO4 HO5
  have k1 := (cells_of_block ((HB5.out.block _ hs1).trans HX1.out)).1 1 _ rfl
  go_wp2_with fail
  clear k1
  go_loopw [3, 19] (fun b i wr => ∃ k : Nat, k ≤ q ∧ i = .int .i64 k ∧ Hid (Own Kd.u8 5 wr w.heap.size NoT b (jobHead J ++ (J.needs.take k).flatMap (fun s => textL s.data.toList))) ∧ Hid (Below w1.heap.size w1 wr)) (fun _ i _ => q - (intOf i).toNat)
  case atStart => exact ⟨0, by omega, rfl, hid (by simpa using HO0.out), HB5⟩
  case round =>
    obtain ⟨k, hk, rfl, HO, HB⟩ := hrel
    have hbs : w.heap.size ≤ wr.heap.size := by have := HB.out.size; omega
    by_cases hlt : k < q
    · obtain ⟨a, s, rfl, hs, hcs⟩ := Kd.Row.at_str (HR.out.below (bThen HB1.out HB.out)) k (by rw [HQ.out]; exact hlt)
      have HS := hid hs
      have hsz := HN2.out s (List.mem_of_getElem? hs)
      have hll := needs_len (l := J.needs.take k) (fun s hs => HN2.out s (List.mem_of_mem_take hs))
      have htl : (J.needs.take k).length ≤ k := List.length_take_le _ _
      have hhl := jobHead_len J
      have hlen : (jobHead J ++ (J.needs.take k).flatMap (fun s => textL s.data.toList)).length ≤ 1000000000 := by rw [List.length_append]; omega
      clear hs hll htl hhl
      go_wp2_with fail
      refine (text_calls _ _ s _ (Kd.any (Own.K HO.out)) hlen (by omega)).mono ?_
      rintro e wd ⟨A6, m6, c6, rfl, hO6, hb6⟩
      have HA := hid (show (J.needs.take (k + 1)).flatMap (fun s => textL s.data.toList) = (J.needs.take k).flatMap (fun s => textL s.data.toList) ++ textL s.data.toList by rw [take_snoc HS.out]; simp)
      have HO6 : Hid (Own Kd.u8 5 wd w.heap.size NoT (.slice A6 m6 c6) (jobHead J ++ (J.needs.take (k + 1)).flatMap (fun s => textL s.data.toList))) := by
        have h := hO6.lower hbs
        show Own _ _ _ _ _ _ _
        rw [HA.out, ← List.append_assoc]; exact h
      have HBD := hid (bThen HB.out hb6)
      clear hO6 hb6 hcs
      go_wp2
      go_roundw
      case rel => exact ⟨k + 1, by omega, by go_num, HO6, HBD⟩
      case measure => simp [intOf]; omega
    · obtain rfl : k = q := by omega
      obtain ⟨A6, m6, c6, rfl, hq1, hq2⟩ := HO.out.shape'
      clear hq1 hq2
      have HFIN := hid (show jobL J = jobHead J ++ (J.needs.take k).flatMap (fun s => textL s.data.toList) by rw [HL.out, show J.needs.take k = J.needs by rw [← HQ.out]; exact List.take_length])
      go_wp2
      go_ret
      exact ⟨_, _, _, rfl, by rw [HFIN.out]; exact HO.out, bThen HB1.out HB.out⟩
set_option maxHeartbeats 6400000 in
set_option maxRecDepth 100000 in
theorem rjobBytes_calls (J : JobS) (A : Option Addr) (c : Nat) (w : World) (hn : Kd.str.slice.K w Any J.needs [.slice A J.needs.length c]) :
    Calls Try.prog 72 #[.agg #[.int .i64 J.id, .slice A J.needs.length c]] w fun e w' => e = .returned (.string (mkB (jobL J))) ∧ Below w.heap.size w w' := by
  have HK := hid hn
  cases hok : plainJ J
  · have HV := hid (show jobL J = [] by unfold jobL; rw [hok]; rfl)
    have HOK := hid hok
    clear hn hok
    go_enter Try.func72, Try.ntmps72
    go_wp2_with fail
    refine (rplain_calls J A c _ (Kd.below HK.out (bAlloc (Below.refl _ _) _))).mono ?_
    rintro e w1 ⟨rfl, hb1⟩
    rw [HOK.out]
    go_wp2
    go_ret
    exact ⟨ret_str (by rw [HV.out]; rfl), bThen (bAlloc (Below.refl _ _) _) hb1⟩
  obtain ⟨_, hn200, hn16⟩ := plainJ_yes hok
  have HL := hid (show jobL J = jobHead J ++ J.needs.flatMap (fun s => textL s.data.toList) by unfold jobL; rw [if_pos hok])
  obtain ⟨_, _, he, hc, hm, hr⟩ := hn
  injection he with he _
  injection he with he1 he2 he3
  subst he1; subst he3
  clear he2
  obtain ⟨q, hq⟩ : ∃ q, J.needs.length = q := ⟨_, rfl⟩
  have HH := hid (show jobHead J = numL (clampN J.id) ++ numL (clampN (q : Int)) by unfold jobHead; rw [hq])
  have HQ := hid hq
  have HR := hid hr
  have HN2 := hid hn200
  have HOK := hid hok
  have HPC := fun w h => rplain_calls J A c w h
  rw [hq] at hc hm hn16 HK HPC ⊢
  clear hr hq hn200 hok
  go_enter Try.func72, Try.ntmps72
  go_wp2_with fail
  refine (HPC _ (Kd.below HK.out (bAlloc (Below.refl _ _) _))).mono ?_
  rintro e w1 ⟨rfl, hb1⟩
  rw [HOK.out]
  have HB1 := hid (bThen (bAlloc (Below.refl _ _) _) hb1)
  have hx1 : w1.heap[w.heap.size]? = some (.cells #[.int .i64 J.id, .slice A q c] 58 (0, 0)) := (hb1.block _ (by simp)).trans (heap_at rfl)
  have HX1 := hid hx1
  have hs1 : w.heap.size < w1.heap.size := (Array.getElem?_eq_some_iff.1 hx1).1
  have x0 := (cells_of_block hx1).1 0 _ rfl
  have x1 := (cells_of_block hx1).1 1 _ rfl
  clear hx1 hb1 HPC
  have hl1 : (mkB (numL (clampN J.id))).size ≤ 8 := by rw [mkB_size]; exact numL_len_le (clampN_le _)
  have hl2 : (mkB (numL (clampN (q : Int)))).size ≤ 8 := by rw [mkB_size]; exact numL_len_le (clampN_le _)
  have HAP := hid (mkB_append (numL (clampN J.id)) (numL (clampN (q : Int))))
  obtain ⟨s1, hs1e⟩ : ∃ s, s = mkB (numL (clampN J.id)) := ⟨_, rfl⟩
  obtain ⟨s2, hs2e⟩ : ∃ s, s = mkB (numL (clampN (q : Int))) := ⟨_, rfl⟩
  rw [← hs1e] at hl1 HAP
  rw [← hs2e] at hl2 HAP
  have hsum : (s1.size : Int) + (s2.size : Int) ≤ 9223372036854775807 := by omega
  have hsum2 : ¬ (9223372036854775807 : Int) < (s1.size : Int) + (s2.size : Int) := by omega
  have hsum3 : ¬ 9223372036854775807 < s1.size + s2.size := by omega
  have HS1 := hid hs1e
  have HS2 := hid hs2e
  clear hs1e hs2e
  go_wp2_with fail
  go_region_held3 (fun w' => w'.cell? ⟨w.heap.size, 0, none⟩ = some (.int .i64 J.id) ∧ w'.cell? ⟨w.heap.size, 1, none⟩ = some (.slice A q c)) (first | exact ⟨x0, x1⟩ | exact ⟨d0, d1⟩ | exact ⟨e0, e1⟩ | go_keep) (first
    | ((with_reducible refine (rnum_calls J.id _).mono ?_); rintro e w4 ⟨rfl, hb4⟩; have d0 := cell_keep hb4 x0; have d1 := cell_keep hb4 x1; rw [← HS1.out])
    | ((with_reducible refine (rnum_calls (q : Int) _).mono ?_); rintro e w5 ⟨rfl, hb5⟩; have e0 := cell_keep hb5 d0; have e1 := cell_keep hb5 d1; rw [← HS2.out])
    | fail)
  have HB5 := hid (bThen (bThen (Below.refl _ _).drew hb4) hb5 : Below w1.heap.size w1 w5)
  clear x0 x1 d0 d1 e0 e1 hb4 hb5 hsum hsum2 hsum3
  go_wp2_with fail
  go_loopw [3, 4] (fun o i wr => ∃ (j : Nat) (sv : ByteArray), j ≤ q ∧ i = .int .i64 j ∧ o = .string sv ∧ Hid (sv = mkB (jobHead J ++ (J.needs.take j).flatMap (fun s => textL s.data.toList))) ∧ Hid (Below w1.heap.size w1 wr)) (fun _ i _ => q - (intOf i).toNat)
  case atStart => exact ⟨0, _, by omega, rfl, rfl, hid (by rw [HAP.out, HH.out]; simp), HB5⟩
  case round =>
    obtain ⟨j, sv, hj, rfl, rfl, HS', HB'⟩ := hrel
    have k6 := (cells_of_block ((HB'.out.block _ hs1).trans HX1.out)).1 1 _ rfl
    by_cases hlt2 : j < q
    · obtain ⟨a, s, rfl, hs, hcs⟩ := Kd.Row.at_str (HR.out.below (bThen HB1.out HB'.out)) j (by rw [HQ.out]; exact hlt2)
      have HSS := hid hs
      have hsz2 := HN2.out s (List.mem_of_getElem? hs)
      have hll := needs_len (l := J.needs.take j) (fun s hs => HN2.out s (List.mem_of_mem_take hs))
      have htl : (J.needs.take j).length ≤ j := List.length_take_le _ _
      have hhl := jobHead_len J
      have hsz3 : sv.size ≤ 4000 := by rw [HS'.out, mkB_size, List.length_append]; omega
      have htx : (mkB (textL s.data.toList)).size ≤ 300 := by
        rw [mkB_size]
        have := textL_len s.data.toList (by rw [data_len]; unfold maxNum; omega)
        rw [data_len] at this; omega
      have HU := hid (show sv ++ mkB (textL s.data.toList) = mkB (jobHead J ++ (J.needs.take (j + 1)).flatMap (fun s => textL s.data.toList)) by
        rw [HS'.out, mkB_append, take_snoc HSS.out]; simp)
      obtain ⟨s3, hs3⟩ : ∃ s3, s3 = mkB (textL s.data.toList) := ⟨_, rfl⟩
      rw [← hs3] at htx HU
      have HS3 := hid hs3
      clear hs3 hs hll htl hhl
      go_wp2_with fail
      refine (rtext_calls s _ (by omega)).mono ?_
      rintro e w7 ⟨rfl, hb7⟩
      rw [← HS3.out]
      have HB7 := hid (bThen HB'.out hb7)
      clear hb7 k6 hcs
      go_wp2
      go_roundw
      case rel => first | exact ⟨j + 1, _, by omega, by go_num, rfl, HU, HB7⟩ | ((repeat apply Exists.intro); exact ⟨⟨j + 1, _, by omega, by go_num, rfl, HU, HB7⟩, rfl⟩)
      case measure => simp [intOf]; omega
    · obtain rfl : j = q := by omega
      have HV := hid (show sv = mkB (jobL J) by rw [HS'.out, HL.out, show J.needs.take j = J.needs by rw [← HQ.out]; exact List.take_length])
      go_wp2
      go_ret
      exact ⟨ret_str HV.out, bThen HB1.out HB'.out⟩
def sameJ (J K : JobS) : Bool := J.id == K.id && decide (J.needs = K.needs)
set_option maxHeartbeats 1600000 in
set_option maxRecDepth 100000 in
theorem jobSame_calls (J K : JobS) (A B : Option Addr) (n c m d : Nat) (w : World) (hj : Kd.str.slice.K w Any J.needs [.slice A n c]) (hk : Kd.str.slice.K w Any K.needs [.slice B m d]) :
    Calls Try.prog 74 #[.agg #[.int .i64 J.id, .slice A n c], .agg #[.int .i64 K.id, .slice B m d]] w fun e w' => e = .returned (.bool (sameJ J K)) ∧ Below w.heap.size w w' := by
  have HJ := hid hj
  have HK := hid hk
  clear hj hk
  by_cases h : J.id = K.id
  · have HV := hid (show sameJ J K = decide (J.needs = K.needs) by unfold sameJ; rw [h, beq_self_eq_true, Bool.true_and])
    have h1 : (J.id == K.id) = true := by rw [h, beq_self_eq_true]
    clear h
    go_enter Try.func74, Try.ntmps74
    go_wp2_with fail
    refine (nsame_calls J.needs K.needs _ _ _ (Kd.below HJ.out (bAlloc (bAlloc (Below.refl _ _) _) _)) (Kd.below HK.out (bAlloc (bAlloc (Below.refl _ _) _) _))).mono ?_
    rintro e w1 ⟨rfl, hb1⟩
    rw [← HV.out]
    go_wp2
    go_ret
    exact ⟨rfl, bThen (bAlloc (bAlloc (Below.refl _ _) _) _) hb1⟩
  · have h1 : (J.id == K.id) = false := by rw [beq_eq_false_iff_ne]; exact h
    have HV := hid (show sameJ J K = false by unfold sameJ; rw [h1]; rfl)
    clear h
    go_enter Try.func74, Try.ntmps74
    go_wp2
    go_ret
    exact ⟨by rw [HV.out]; rfl, bAlloc (bAlloc (Below.refl _ _) _) _⟩
set_option maxHeartbeats 1600000 in
set_option maxRecDepth 100000 in
theorem rjobSame_calls (J K : JobS) (A B : Option Addr) (n c m d : Nat) (w : World) (hj : Kd.str.slice.K w Any J.needs [.slice A n c]) (hk : Kd.str.slice.K w Any K.needs [.slice B m d]) :
    Calls Try.prog 73 #[.agg #[.int .i64 J.id, .slice A n c], .agg #[.int .i64 K.id, .slice B m d]] w fun e w' => e = .returned (.bool (sameJ J K)) ∧ Below w.heap.size w w' := by
  have HJ := hid hj
  have HK := hid hk
  clear hj hk
  by_cases h : J.id = K.id
  · have HV := hid (show sameJ J K = decide (J.needs = K.needs) by unfold sameJ; rw [h, beq_self_eq_true, Bool.true_and])
    have h1 : (J.id == K.id) = true := by rw [h, beq_self_eq_true]
    clear h
    go_enter Try.func73, Try.ntmps73
    go_wp2_with fail
    refine (same_calls J.needs K.needs _ _ _ (Kd.below HJ.out (bAlloc (bAlloc (Below.refl _ _) _) _)) (Kd.below HK.out (bAlloc (bAlloc (Below.refl _ _) _) _))).mono ?_
    rintro e w1 ⟨rfl, hb1⟩
    rw [← HV.out]
    go_wp2
    go_ret
    exact ⟨rfl, bThen (bAlloc (bAlloc (Below.refl _ _) _) _) hb1⟩
  · have h1 : (J.id == K.id) = false := by rw [beq_eq_false_iff_ne]; exact h
    have HV := hid (show sameJ J K = false by unfold sameJ; rw [h1]; rfl)
    clear h
    go_enter Try.func73, Try.ntmps73
    go_wp2
    go_ret
    exact ⟨by rw [HV.out]; rfl, bAlloc (bAlloc (Below.refl _ _) _) _⟩
end Go.Proofs.Yteijgeofimcijaa
