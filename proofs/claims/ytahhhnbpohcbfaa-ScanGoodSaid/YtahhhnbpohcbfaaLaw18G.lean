import Derived.Test.YtahhhnbpohcbfaaScans
namespace Go.Proofs.Ytahhhnbpohcbfaa
open Go.RowKit

set_option maxHeartbeats 6400000 in
set_option maxRecDepth 100000 in
theorem scanGood_walk (W : World) (b : List UInt8) (u : Value) (hb : Kd.u8.slice.K W Any b [u]) (_ob : (∀ y ∈ b, True) ∧ b.length * 1 ≤ 140737488351232) :
    Calls Try.prog 6 #[u] W fun e w' => e = .returned (.bool true) ∧ Below W.heap.size W w' := by
  have HB := hid hb
  obtain ⟨B, d, he, hd, hm, hr⟩ := hb
  obtain rfl : u = .slice B b.length d := by simpa using he
  clear he
  by_cases hl : (4000 : Int) < b.length
  · clear hr
    go_enter Try.func6, Try.ntmps6
    go_wp2_with fail
    refine (works18_calls _).mono ?_
    rintro e w1 ⟨rfl, hb1⟩
    go_wp2
    go_ret
    exact ⟨rfl, hb1⟩
  · have hl2 : b.length ≤ 1000000 := by omega
    have C1 := scRecords_calls b _ W HB.out hl2
    obtain ⟨h1, h2, h3, h4⟩ := recsS_bytes b
    obtain ⟨q, hq⟩ : ∃ q, q = (recsS b).2 := ⟨_, rfl⟩
    obtain ⟨rs, hrs⟩ : ∃ rs, rs = (recsS b).1 := ⟨_, rfl⟩
    rw [← hq, ← hrs] at C1 h1 h4
    rw [← hq] at h2
    have hrl : rs.length ≤ 100000 := by omega
    have C1 := hid C1
    have hlt : (b.take q).length = q := by rw [List.length_take]; omega
    have HT := hid (show Kd.u8.slice.K W Any (b.take q) [.slice B q d] from ⟨B, d, by rw [hlt], by omega, by omega, hr.take q⟩)
    obtain ⟨s, hs⟩ : ∃ s : ByteArray, s = ⟨(b.take q).toArray⟩ := ⟨_, rfl⟩
    have HS := hid hs
    have HH1 := hid h1
    have k1 : ¬ (q : Int) < 0 := by omega
    have k2 : ¬ (b.length : Int) < q := by omega
    have k3 : (q : Int) ≤ d := by omega
    have k4 : (0 : Int) ≤ q := by omega
    have k5 : q ≤ d := by omega
    clear hr hq hrs h1 h2 h3 h4 hlt hs
    go_enter Try.func6, Try.ntmps6
    go_wp2_with fail
    refine C1.out.mono ?_
    rintro e w1 ⟨A1, n1, c1, rfl, hO1, hb1⟩
    have HB1 := hid hb1
    have HCB := hid (show ∀ w', Below w1.heap.size w1 w' → (convert 27 9 (.slice B q d)).run Try.prog w' = .ok (.string s) w' from fun w' h => by
      rw [HS.out]; exact conv_u8 (Kd.below HT.out (bThen HB1.out h)))
    have CB := hid (show ∀ w2, Below w1.heap.size w1 w2 → Calls Try.prog 28 #[.slice A1 n1 c1] w2 fun e w' => ∃ A m c, e = .returned (.slice A m c) ∧ (∀ W, Below w'.heap.size w' W → (convert 27 9 (.slice A m c)).run Try.prog W = .ok (.string s) W) ∧ Below w2.heap.size w2 w' from fun w2 h =>
      (scBytes_calls rs _ w2 (Kd.any (Kd.below (Own.K hO1) h)) hrl).mono (fun e w' ⟨A, m, c, h1, h2, h3⟩ => ⟨A, m, c, h1, fun W hW => by
        rw [HH1.out] at h2
        rw [HS.out]
        exact conv_u8 (Kd.any (Own.K (h2.below hW))), h3⟩))
    clear hO1 hb1
    go_wp2_with fail
    refine wp_region_held_drew (S := fun w' => (convert 27 9 (.slice B q d)).run Try.prog w' = .ok (.string s) w') (by kernel_rfl) (HCB.out _ (Below.refl w1.heap.size w1).drew) (fun hHeld => ?_)
    refine anyH_take 0 (v := ?_) rfl (by kernel_rfl) (by kernel_rfl) (by kernel_rfl) (fun _ _ _ h => h) (by rfl) hHeld ?_ ?_
    rotate_left
    · (intro w hSw; (try dsimp only at hSw); go_split_ands; go_simp; try with_reducible rfl)
    (try simp only [Act.put, List.setIfInBounds_toArray, List.set_cons_zero, List.set_cons_succ])
    refine anyH_take 3 (v := ?_) rfl (by kernel_rfl) (by kernel_rfl) (by kernel_rfl) (fun _ _ _ h => h) (by rfl) hHeld ?_ ?_
    rotate_left
    · (intro w hSw; (try dsimp only at hSw); go_split_ands; go_simp; try with_reducible rfl)
    (try simp only [Act.put, List.setIfInBounds_toArray, List.set_cons_zero, List.set_cons_succ])
    refine anyH_take 4 (v := ?_) rfl (by kernel_rfl) (by kernel_rfl) (by kernel_rfl) (fun _ _ _ h => h) (by rfl) hHeld ?_ ?_
    rotate_left
    · (intro w hSw; (try dsimp only at hSw); go_split_ands; go_simp; try with_reducible rfl)
    (try simp only [Act.put, List.setIfInBounds_toArray, List.set_cons_zero, List.set_cons_succ])
    refine anyH_take 5 (v := ?_) rfl (by kernel_rfl) (by kernel_rfl) (by kernel_rfl) (fun _ _ _ h => h) (by rfl) hHeld ?_ ?_
    rotate_left
    · (intro w hSw; (try dsimp only at hSw); go_split_ands; go_simp; try with_reducible rfl)
    (try simp only [Act.put, List.setIfInBounds_toArray, List.set_cons_zero, List.set_cons_succ])
    refine anyH_take 6 (v := ?_) rfl (by kernel_rfl) (by kernel_rfl) (by kernel_rfl) (fun _ _ _ h => h) (by rfl) hHeld ?_ ?_
    rotate_left
    · (intro w hSw; (try dsimp only at hSw); go_split_ands; go_simp; try with_reducible rfl)
    (try simp only [Act.put, List.setIfInBounds_toArray, List.set_cons_zero, List.set_cons_succ])
    refine anyH_one 1 rfl (by kernel_rfl) (fun K hK => ?_)
    go_simp
    refine (CB.out _ (Below.refl w1.heap.size w1).drew).mono ?_
    rintro e w2 ⟨A2, m2, c2, rfl, hcv, hb2⟩
    have U2 := hid (show Below w1.heap.size w1 w2 from bThen (Below.refl w1.heap.size w1).drew hb2)
    have HCV := hid hcv
    go_simp
    refine hK.out _ _ (HCB.out _ U2.out) (fun hHeld => ?_)
    clear hK K
    (try simp only [Act.put, List.setIfInBounds_toArray, List.set_cons_zero, List.set_cons_succ])
    clear hb2 hcv
    refine wpAnyH_more (S1 := fun w' => ((convert 27 9 (.slice B q d)).run Try.prog w' = .ok (.string s) w') ∧ (convert 27 9 (.slice A2 m2 c2)).run Try.prog w' = .ok (.string s) w') (fun _ h => h.1) _ _ _ _ ?_
    refine anyH_take 2 (v := ?_) rfl (by kernel_rfl) (by kernel_rfl) (by kernel_rfl) (fun _ _ _ h => h) (by rfl) ⟨hHeld, HCV.out _ (Below.refl _ _)⟩ ?_ ?_
    rotate_left
    · (intro w hSw; (try dsimp only at hSw); go_split_ands; go_simp; try with_reducible rfl)
    (try simp only [Act.put, List.setIfInBounds_toArray, List.set_cons_zero, List.set_cons_succ])
    refine anyH_take 7 (v := ?_) rfl (by kernel_rfl) (by kernel_rfl) (by kernel_rfl) (fun _ _ _ h => h) (by rfl) ⟨hHeld, HCV.out _ (Below.refl _ _)⟩ ?_ ?_
    rotate_left
    · (intro w hSw; (try dsimp only at hSw); go_split_ands; go_simp; try with_reducible rfl)
    (try simp only [Act.put, List.setIfInBounds_toArray, List.set_cons_zero, List.set_cons_succ])
    refine anyH_take 8 (v := ?_) rfl (by kernel_rfl) (by kernel_rfl) (by kernel_rfl) (fun _ _ _ h => h) (by rfl) ⟨hHeld, HCV.out _ (Below.refl _ _)⟩ ?_ ?_
    rotate_left
    · (intro w hSw; (try dsimp only at hSw); go_split_ands; go_simp; try with_reducible rfl)
    (try simp only [Act.put, List.setIfInBounds_toArray, List.set_cons_zero, List.set_cons_succ])
    refine anyH_one 9 rfl (by kernel_rfl) (fun K hK => ?_)
    go_simp
    refine (works18_calls _).mono ?_
    rintro e w3 ⟨rfl, hb3⟩
    have U3 := hid (show Below w1.heap.size w1 w3 from bThen U2.out hb3)
    go_simp
    refine hK.out _ _ ⟨HCB.out _ U3.out, HCV.out _ hb3⟩ (fun hHeld => ?_)
    clear hK K
    (try simp only [Act.put, List.setIfInBounds_toArray, List.set_cons_zero, List.set_cons_succ])
    refine anyH_take 10 (v := ?_) rfl (by kernel_rfl) (by kernel_rfl) (by kernel_rfl) (fun _ _ _ h => h) (by rfl) hHeld ?_ ?_
    rotate_left
    · (intro w hSw; (try dsimp only at hSw); go_split_ands; go_simp; try with_reducible rfl)
    (try simp only [Act.put, List.setIfInBounds_toArray, List.set_cons_zero, List.set_cons_succ])
    refine anyH_take 11 (v := ?_) rfl (by kernel_rfl) (by kernel_rfl) (by kernel_rfl) (fun _ _ _ h => h) (by rfl) hHeld ?_ ?_
    rotate_left
    · (intro w hSw; (try dsimp only at hSw); go_split_ands; go_simp; try with_reducible rfl)
    (try simp only [Act.put, List.setIfInBounds_toArray, List.set_cons_zero, List.set_cons_succ])
    refine wpAnyH_done (by kernel_rfl) ?_ _
    go_wp2
    go_ret
    exact ⟨rfl, bThen HB1.out U3.out⟩
end Go.Proofs.Ytahhhnbpohcbfaa
