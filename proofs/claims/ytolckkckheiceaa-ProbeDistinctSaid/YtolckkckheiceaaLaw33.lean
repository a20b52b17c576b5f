/- The page's example of layer 33; the law ProbeRounds. -/
import Derived.Test.YtolckkckheiceaaPrbW
import Derived.Test.YtolckkckheiceaaLong14
import Derived.Test.YtolckkckheiceaaReg4
namespace Go.Proofs.Ytolckkckheiceaa
open Go.RowKit

def pC : ConfS := ⟨0, 0, 0, 0, 0, [], [⟨0, 0, 0⟩, ⟨0, 0, 0⟩, ⟨0, 0, 0⟩]⟩
def pE : EntryS := ⟨1, 0, 0, [⟨#[42]⟩], [0], []⟩
set_option maxHeartbeats 4000000 in
set_option maxRecDepth 100000 in
theorem works33_calls (w : World) : Calls Try.prog 12 #[] w fun e w' => e = .returned (.bool true) ∧ Below w.heap.size w w' := by
  have T1 := hid (show (roundS pC pE [2, 0]).1 = [2, 0] by decide +kernel)
  have T2 := hid (show anyS pC.names pC.workers (openT pE) = 7 by decide +kernel)
  have hm1 : ∀ W, (Instr.makeSlice 23 (.int .i64 3) (.int .i64 3)).run Try.prog W = .ok (.slice (some ⟨W.heap.size, 0, none⟩) 3 3) (W.alloc (.cells #[.int .i64 0, .int .i64 0, .int .u64 0, .int .i64 0, .int .i64 0, .int .u64 0, .int .i64 0, .int .i64 0, .int .u64 0] 139)) := fun W => by kernel_rfl
  obtain ⟨V, hV⟩ : ∃ V, V = (((((w.alloc (.cells #[.int .i64 0, .int .i64 0, .int .u64 0, .int .i64 0, .int .i64 0, .int .u64 0, .int .i64 0, .int .i64 0, .int .u64 0] 139)).alloc (.cells #[.int .i64 0, .int .i64 0, .int .i64 0, .int .i64 0, .int .i64 0, .slice none 0 0, .slice (some ⟨w.heap.size, 0, none⟩) 3 3] 25)).alloc (.cells #[.string ⟨#[42]⟩] 9)).alloc (.cells #[.int .i64 0] 3)).alloc (.cells #[.int .i64 1, .int .i64 0, .int .i64 0, .slice (some ⟨w.heap.size + 1 + 1, 0, none⟩) 1 1, .slice (some ⟨w.heap.size + 1 + 1 + 1, 0, none⟩) 1 1, .slice none 0 0] 29)) := ⟨_, rfl⟩
  have hbv : Below w.heap.size w V := by rw [hV]; exact (bAlloc (bAlloc (bAlloc (bAlloc (bAlloc (Below.refl _ _) _) _) _) _) _)
  have hC : CAt V pC none (some ⟨w.heap.size, 0, none⟩) 0 3 := by
    rw [hV]
    exact ⟨⟨none, 0, rfl, Nat.le_refl _, by decide, Kd.Row.nil⟩, Kd.below (Kd.any (K_new (enc := fun (x : WorkerS) => [.int .i64 x.slots, .int .i64 x.limit, .int .u64 x.attrs]) (hl := fun _ => rfl) (h1 := fun x u hu => by simp at hu; rcases hu with rfl | rfl | rfl <;> rfl) w w.heap.size rfl 139 [⟨0, 0, 0⟩, ⟨0, 0, 0⟩, ⟨0, 0, 0⟩] (by decide))) (bAlloc (bAlloc (bAlloc (bAlloc (Below.refl _ _) _) _) _) _), by intro x hx; simp [pC] at hx; subst hx; decide⟩
  have hE : EAt V pE (some ⟨w.heap.size + 1 + 1, 0, none⟩) (some ⟨w.heap.size + 1 + 1 + 1, 0, none⟩) none 1 1 0 := by
    rw [hV]
    exact ⟨Kd.below (K_newS ((w.alloc (.cells #[.int .i64 0, .int .i64 0, .int .u64 0, .int .i64 0, .int .i64 0, .int .u64 0, .int .i64 0, .int .i64 0, .int .u64 0] 139)).alloc (.cells #[.int .i64 0, .int .i64 0, .int .i64 0, .int .i64 0, .int .i64 0, .slice none 0 0, .slice (some ⟨w.heap.size, 0, none⟩) 3 3] 25)) (w.heap.size + 1 + 1) (by simp) 9 [⟨#[42]⟩] (by decide)) (bAlloc (bAlloc (Below.refl _ _) _) _),
      Kd.below (Kd.any (K_new (enc := fun x => [Value.int .i64 x]) (hl := fun _ => rfl) (h1 := fun x u hu => by rw [List.mem_singleton.1 hu]; rfl) (((w.alloc (.cells #[.int .i64 0, .int .i64 0, .int .u64 0, .int .i64 0, .int .i64 0, .int .u64 0, .int .i64 0, .int .i64 0, .int .u64 0] 139)).alloc (.cells #[.int .i64 0, .int .i64 0, .int .i64 0, .int .i64 0, .int .i64 0, .slice none 0 0, .slice (some ⟨w.heap.size, 0, none⟩) 3 3] 25)).alloc (.cells #[.string ⟨#[42]⟩] 9)) (w.heap.size + 1 + 1 + 1) (by simp) 3 [0] (by decide))) (bAlloc (Below.refl _ _) _),
      ⟨none, 0, rfl, Nat.le_refl _, by decide, Kd.Row.nil⟩⟩
  have hz1 : V.heap[w.heap.size + 1]? = some (.cells #[.int .i64 pC.scheds, .int .i64 pC.lease, .int .i64 pC.again, .int .i64 pC.room, .int .i64 pC.out, .slice none pC.names.length 0, .slice (some ⟨w.heap.size, 0, none⟩) pC.workers.length 3] 25 (0, 0)) := by
    rw [hV, Below.heap_alloc _ _ _ (by simp; try omega), Below.heap_alloc _ _ _ (by simp; try omega), Below.heap_alloc _ _ _ (by simp; try omega)]
    exact heap_at (by simp)
  have hz2 : V.heap[w.heap.size + 1 + 1 + 1 + 1]? = some (.cells #[.int .i64 pE.id, .int .i64 pE.sched, .int .i64 pE.epoch, .slice (some ⟨w.heap.size + 1 + 1, 0, none⟩) pE.needs.length 1, .slice (some ⟨w.heap.size + 1 + 1 + 1, 0, none⟩) pE.bound.length 1, .slice none pE.done.length 0] 29 (0, 0)) := by
    rw [hV]
    exact heap_at (by simp)
  have HBC := hid (boxC_of hz1 hC)
  have HBE := hid (boxE_of hz2 hE)
  have HBV := hid hbv
  have HV := hid hV
  have hns : ∀ s ∈ pE.needs, s.size ≤ 140737488351232 := by intro s hs; simp [pE] at hs; subst hs; decide
  have HNS := hid hns
  have hvs : V.heap.size = w.heap.size + 1 + 1 + 1 + 1 + 1 := by rw [hV]; simp
  clear hV hbv hC hE hns hz1 hz2
  have HCA := hid (fun (u : World) (hb : Below V.heap.size V u) => show CAt u pC _ _ _ _ from (HBC.out.below hb).2.1)
  have HEA := hid (fun (u : World) (hb : Below V.heap.size V u) => show EAt u pE _ _ _ _ _ _ from (HBE.out.below hb).2.1)
  have HS := hid (fun (u : World) (hb : Below V.heap.size V u) => show ((u.cell? ⟨w.heap.size + 1, 0, none⟩ = some (.int .i64 0) ∧ u.cell? ⟨w.heap.size + 1, 1, none⟩ = some (.int .i64 0) ∧ u.cell? ⟨w.heap.size + 1, 2, none⟩ = some (.int .i64 0) ∧ u.cell? ⟨w.heap.size + 1, 3, none⟩ = some (.int .i64 0) ∧ u.cell? ⟨w.heap.size + 1, 4, none⟩ = some (.int .i64 0) ∧ u.cell? ⟨w.heap.size + 1, 5, none⟩ = some (.slice none 0 0) ∧ u.cell? ⟨w.heap.size + 1, 6, none⟩ = some (.slice (some ⟨w.heap.size, 0, none⟩) 3 3)) ∧ (u.cell? ⟨w.heap.size + 1 + 1 + 1 + 1, 0, none⟩ = some (.int .i64 1) ∧ u.cell? ⟨w.heap.size + 1 + 1 + 1 + 1, 1, none⟩ = some (.int .i64 0) ∧ u.cell? ⟨w.heap.size + 1 + 1 + 1 + 1, 2, none⟩ = some (.int .i64 0) ∧ u.cell? ⟨w.heap.size + 1 + 1 + 1 + 1, 3, none⟩ = some (.slice (some ⟨w.heap.size + 1 + 1, 0, none⟩) 1 1) ∧ u.cell? ⟨w.heap.size + 1 + 1 + 1 + 1, 4, none⟩ = some (.slice (some ⟨w.heap.size + 1 + 1 + 1, 0, none⟩) 1 1) ∧ u.cell? ⟨w.heap.size + 1 + 1 + 1 + 1, 5, none⟩ = some (.slice none 0 0))) from ⟨(HBC.out.below hb).1, (HBE.out.below hb).1⟩)
  have HVS := hid hvs
  clear hvs
  go_enter Try.func12, Try.ntmps12
  go_wp2_with fail
  rw [← HV.out]
  have c0 := HS.out V.drew (Below.refl _ _).drew
  have U0 := hid (Below.refl V.heap.size V).drew
  refine wp_region_held_drew (S := fun w' => (w'.cell? ⟨w.heap.size + 1, 0, none⟩ = some (.int .i64 0) ∧ w'.cell? ⟨w.heap.size + 1, 1, none⟩ = some (.int .i64 0) ∧ w'.cell? ⟨w.heap.size + 1, 2, none⟩ = some (.int .i64 0) ∧ w'.cell? ⟨w.heap.size + 1, 3, none⟩ = some (.int .i64 0) ∧ w'.cell? ⟨w.heap.size + 1, 4, none⟩ = some (.int .i64 0) ∧ w'.cell? ⟨w.heap.size + 1, 5, none⟩ = some (.slice none 0 0) ∧ w'.cell? ⟨w.heap.size + 1, 6, none⟩ = some (.slice (some ⟨w.heap.size, 0, none⟩) 3 3)) ∧ (w'.cell? ⟨w.heap.size + 1 + 1 + 1 + 1, 0, none⟩ = some (.int .i64 1) ∧ w'.cell? ⟨w.heap.size + 1 + 1 + 1 + 1, 1, none⟩ = some (.int .i64 0) ∧ w'.cell? ⟨w.heap.size + 1 + 1 + 1 + 1, 2, none⟩ = some (.int .i64 0) ∧ w'.cell? ⟨w.heap.size + 1 + 1 + 1 + 1, 3, none⟩ = some (.slice (some ⟨w.heap.size + 1 + 1, 0, none⟩) 1 1) ∧ w'.cell? ⟨w.heap.size + 1 + 1 + 1 + 1, 4, none⟩ = some (.slice (some ⟨w.heap.size + 1 + 1 + 1, 0, none⟩) 1 1) ∧ w'.cell? ⟨w.heap.size + 1 + 1 + 1 + 1, 5, none⟩ = some (.slice none 0 0))) (by kernel_rfl) c0 (fun hHeld => ?_)
  refine anyH_take 2 (v := ?_) rfl (by kernel_rfl) (by kernel_rfl) (by kernel_rfl) (fun _ _ _ h => h) (by rfl) hHeld ?_ ?_
  rotate_left
  · (intro w hSw; (try dsimp only at hSw); go_split_ands; go_simp; try with_reducible rfl)
  (try simp only [Act.put, List.setIfInBounds_toArray, List.set_cons_zero, List.set_cons_succ])
  refine anyH_take 3 (v := ?_) rfl (by kernel_rfl) (by kernel_rfl) (by kernel_rfl) (fun _ _ _ h => h) (by rfl) hHeld ?_ ?_
  rotate_left
  · (intro w hSw; (try dsimp only at hSw); go_split_ands; go_simp; try with_reducible rfl)
  (try simp only [Act.put, List.setIfInBounds_toArray, List.set_cons_zero, List.set_cons_succ])
  refine anyH_two 0 5 rfl rfl (by kernel_rfl) (fun K hK => ?_) (fun K hK => ?_)
  · go_simp
    have U1 := hid (show Below V.heap.size V (V.alloc (.cells #[.int .u64 2, .int .u64 0] 39)).drew from bAlloc U0.out (.cells #[.int .u64 2, .int .u64 0] 39))
    have HN0 := hid (show Kd.n64.slice.K (V.alloc (.cells #[.int .u64 2, .int .u64 0] 39)).drew Any [2, 0] [.slice (some ⟨V.heap.size, 0, none⟩) 2 2] from Kd.any (K_new (enc := fun (x : Nat) => [Value.int .u64 x]) (hl := fun _ => rfl) (h1 := fun x u hu => by rw [List.mem_singleton.1 hu]; rfl) V (V.heap.size) (by first | rfl | simp) 39 [2, 0] (by decide)))
    refine hK.out _ _ (HS.out _ U1.out) (fun hHeld => ?_)
    clear hK K
    (try simp only [Act.put, List.setIfInBounds_toArray, List.set_cons_zero, List.set_cons_succ])
    refine anyH_two 1 5 rfl rfl (by kernel_rfl) (fun K hK => ?_) (fun K hK => ?_)
    · go_simp
      refine (tnew_calls [2, 0] _ ((V.alloc (.cells #[.int .u64 2, .int .u64 0] 39)).drew) HN0.out (by decide) (by decide)).mono ?_
      rintro e w3 ⟨g, rfl, hT3, hb3⟩
      have U2 := hid (bThen U1.out hb3)
      have HT3 := hid (hT3.mono (T' := fun k => (V.alloc (.cells #[.int .u64 2, .int .u64 0] 39)).heap.size ≤ k ∧ k < w3.heap.size) (fun k hk h => ⟨h, hk⟩))
      have HG := hid HT3.out.len
      have HGS := hid (show V.heap.size ≤ g from Nat.le_trans U1.out.size HG.out.1.1)
      clear hT3 hb3
      go_simp
      refine hK.out _ _ (HS.out _ U2.out) (fun hHeld => ?_)
      clear hK K
      (try simp only [Act.put, List.setIfInBounds_toArray, List.set_cons_zero, List.set_cons_succ])
      refine anyH_two 4 5 rfl rfl (by kernel_rfl) (fun K hK => ?_) (fun K hK => ?_)
      · go_simp
        refine (probeRound_calls _ g [2, 0] pC _ _ _ _ pE _ _ _ _ _ _ (w3) HT3.out (fun b hb => Nat.lt_of_lt_of_le hb.2 (by simp)) (HCA.out _ U2.out) (HEA.out _ U2.out) (by decide) HNS.out).mono ?_
        rintro e w4 ⟨v4, rfl, hO4, _, hM4⟩
        rw [T1.out] at hO4
        have U3 := hid (U2.out.trans ⟨hM4.os, hM4.tape, hM4.output, hM4.size, fun b hb => hM4.block b (Nat.lt_of_lt_of_le hb U2.out.size) (fun e => by have := HGS.out; omega)⟩)
        have HO4 := hid (Kd.any hO4.K)
        clear hO4 hM4
        go_simp
        refine hK.out _ _ (HS.out _ U3.out) (fun hHeld => ?_)
        clear hK K
        (try simp only [Act.put, List.setIfInBounds_toArray, List.set_cons_zero, List.set_cons_succ])
        refine anyH_one 5 rfl (by kernel_rfl) (fun K hK => ?_)
        go_simp
        have U4 := hid (show Below V.heap.size V (w4.alloc (.cells #[.int .i64 2, .int .i64 0] 3)) from bAlloc U3.out (.cells #[.int .i64 2, .int .i64 0] 3))
        have HI3 := hid (show I64.slice.K (w4.alloc (.cells #[.int .i64 2, .int .i64 0] 3)) Any [2, 0] [.slice (some ⟨w4.heap.size, 0, none⟩) 2 2] from I64.slice.mono (S' := Any) (fun b h _ => trivial) (K_new (enc := fun x => [Value.int .i64 x]) (hl := fun _ => rfl) (h1 := fun x u hu => by rw [List.mem_singleton.1 hu]; rfl) w4 (w4.heap.size) (by first | rfl | simp) 3 [2, 0] (by decide)))
        have HO3 := hid (Kd.below HO4.out (bAlloc (Below.refl _ _) (.cells #[.int .i64 2, .int .i64 0] 3)))
        refine hK.out _ _ (HS.out _ U4.out) (fun hHeld => ?_)
        clear hK K
        (try simp only [Act.put, List.setIfInBounds_toArray, List.set_cons_zero, List.set_cons_succ])
        refine anyH_one 6 rfl (by kernel_rfl) (fun K hK => ?_)
        go_simp
        refine (isame_calls [2, 0] _ _ ((w4.alloc (.cells #[.int .i64 2, .int .i64 0] 3))) HO3.out HI3.out).mono ?_
        rintro e w5 ⟨rfl, n5, rfl⟩
        have U5 := hid (below_drewN U4.out n5)
        go_simp
        refine hK.out _ _ (HS.out _ U5.out) (fun hHeld => ?_)
        clear hK K
        (try simp only [Act.put, List.setIfInBounds_toArray, List.set_cons_zero, List.set_cons_succ])
        refine anyH_take 7 (v := ?_) rfl (by kernel_rfl) (by kernel_rfl) (by kernel_rfl) (fun _ _ _ h => h) (by rfl) hHeld ?_ ?_
        rotate_left
        · (intro w hSw; (try dsimp only at hSw); go_split_ands; go_simp; try with_reducible rfl)
        (try simp only [Act.put, List.setIfInBounds_toArray, List.set_cons_zero, List.set_cons_succ])
        refine anyH_take 8 (v := ?_) rfl (by kernel_rfl) (by kernel_rfl) (by kernel_rfl) (fun _ _ _ h => h) (by rfl) hHeld ?_ ?_
        rotate_left
        · (intro w hSw; (try dsimp only at hSw); go_split_ands; go_simp; try with_reducible rfl)
        (try simp only [Act.put, List.setIfInBounds_toArray, List.set_cons_zero, List.set_cons_succ])
        refine anyH_take 9 (v := ?_) rfl (by kernel_rfl) (by kernel_rfl) (by kernel_rfl) (fun _ _ _ h => h) (by rfl) hHeld ?_ ?_
        rotate_left
        · (intro w hSw; (try dsimp only at hSw); go_split_ands; go_simp; try with_reducible rfl)
        (try simp only [Act.put, List.setIfInBounds_toArray, List.set_cons_zero, List.set_cons_succ])
        refine anyH_one 10 rfl (by kernel_rfl) (fun K hK => ?_)
        go_simp
        refine (probeWorkers_calls pC _ _ _ _ pE _ _ _ _ _ _ _ (HCA.out _ U5.out) (HEA.out _ U5.out) (by decide) HNS.out).mono ?_
        rintro e w6 ⟨rfl, hb6⟩
        rw [T2.out]
        have U6 := hid (bThen U5.out hb6)
        go_simp
        refine hK.out _ _ (HS.out _ U6.out) (fun hHeld => ?_)
        clear hK K
        (try simp only [Act.put, List.setIfInBounds_toArray, List.set_cons_zero, List.set_cons_succ])
        refine anyH_take 11 (v := ?_) rfl (by kernel_rfl) (by kernel_rfl) (by kernel_rfl) (fun _ _ _ h => h) (by rfl) hHeld ?_ ?_
        rotate_left
        · (intro w hSw; (try dsimp only at hSw); go_split_ands; go_simp; try with_reducible rfl)
        (try simp only [Act.put, List.setIfInBounds_toArray, List.set_cons_zero, List.set_cons_succ])
        refine anyH_take 12 (v := ?_) rfl (by kernel_rfl) (by kernel_rfl) (by kernel_rfl) (fun _ _ _ h => h) (by rfl) hHeld ?_ ?_
        rotate_left
        · (intro w hSw; (try dsimp only at hSw); go_split_ands; go_simp; try with_reducible rfl)
        (try simp only [Act.put, List.setIfInBounds_toArray, List.set_cons_zero, List.set_cons_succ])
        refine anyH_take 13 (v := ?_) rfl (by kernel_rfl) (by kernel_rfl) (by kernel_rfl) (fun _ _ _ h => h) (by rfl) hHeld ?_ ?_
        rotate_left
        · (intro w hSw; (try dsimp only at hSw); go_split_ands; go_simp; try with_reducible rfl)
        (try simp only [Act.put, List.setIfInBounds_toArray, List.set_cons_zero, List.set_cons_succ])
        refine wpAnyH_done (by kernel_rfl) ?_ _
        go_wp2
        go_ret
        exact ⟨rfl, bThen HBV.out U6.out⟩
      · go_simp
        have U3 := hid (show Below V.heap.size V (w3.alloc (.cells #[.int .i64 2, .int .i64 0] 3)) from bAlloc U2.out (.cells #[.int .i64 2, .int .i64 0] 3))
        have HI2 := hid (show I64.slice.K (w3.alloc (.cells #[.int .i64 2, .int .i64 0] 3)) (fun b => b ≠ g) [2, 0] [.slice (some ⟨w3.heap.size, 0, none⟩) 2 2] from I64.slice.mono (S' := (fun b => b ≠ g)) (fun b h _ e => by have := HG.out.1.2; omega) (K_new (enc := fun x => [Value.int .i64 x]) (hl := fun _ => rfl) (h1 := fun x u hu => by rw [List.mem_singleton.1 hu]; rfl) w3 (w3.heap.size) (by first | rfl | simp) 3 [2, 0] (by decide)))
        have HT2 := hid (TapeAt.below HT3.out (bAlloc (Below.refl _ _) (.cells #[.int .i64 2, .int .i64 0] 3)))
        refine hK.out _ _ (HS.out _ U3.out) (fun hHeld => ?_)
        clear hK K
        (try simp only [Act.put, List.setIfInBounds_toArray, List.set_cons_zero, List.set_cons_succ])
        refine anyH_one 4 rfl (by kernel_rfl) (fun K hK => ?_)
        go_simp
        refine (probeRound_calls _ g [2, 0] pC _ _ _ _ pE _ _ _ _ _ _ ((w3.alloc (.cells #[.int .i64 2, .int .i64 0] 3))) HT2.out (fun b hb => Nat.lt_of_lt_of_le hb.2 (by simp)) (HCA.out _ U3.out) (HEA.out _ U3.out) (by decide) HNS.out).mono ?_
        rintro e w4 ⟨v4, rfl, hO4, _, hM4⟩
        rw [T1.out] at hO4
        have U4 := hid (U3.out.trans ⟨hM4.os, hM4.tape, hM4.output, hM4.size, fun b hb => hM4.block b (Nat.lt_of_lt_of_le hb U3.out.size) (fun e => by have := HGS.out; omega)⟩)
        have HO4 := hid (Kd.any hO4.K)
        have HI3 := hid (Kd.any (Kd.mod HI2.out (F := fun b => b = g) hM4 (fun b _ h e => h e)))
        clear hO4 hM4
        go_simp
        refine hK.out _ _ (HS.out _ U4.out) (fun hHeld => ?_)
        clear hK K
        (try simp only [Act.put, List.setIfInBounds_toArray, List.set_cons_zero, List.set_cons_succ])
        refine anyH_one 6 rfl (by kernel_rfl) (fun K hK => ?_)
        go_simp
        refine (isame_calls [2, 0] _ _ (w4) HO4.out HI3.out).mono ?_
        rintro e w5 ⟨rfl, n5, rfl⟩
        have U5 := hid (below_drewN U4.out n5)
        go_simp
        refine hK.out _ _ (HS.out _ U5.out) (fun hHeld => ?_)
        clear hK K
        (try simp only [Act.put, List.setIfInBounds_toArray, List.set_cons_zero, List.set_cons_succ])
        refine anyH_take 7 (v := ?_) rfl (by kernel_rfl) (by kernel_rfl) (by kernel_rfl) (fun _ _ _ h => h) (by rfl) hHeld ?_ ?_
        rotate_left
        · (intro w hSw; (try dsimp only at hSw); go_split_ands; go_simp; try with_reducible rfl)
        (try simp only [Act.put, List.setIfInBounds_toArray, List.set_cons_zero, List.set_cons_succ])
        refine anyH_take 8 (v := ?_) rfl (by kernel_rfl) (by kernel_rfl) (by kernel_rfl) (fun _ _ _ h => h) (by rfl) hHeld ?_ ?_
        rotate_left
        · (intro w hSw; (try dsimp only at hSw); go_split_ands; go_simp; try with_reducible rfl)
        (try simp only [Act.put, List.setIfInBounds_toArray, List.set_cons_zero, List.set_cons_succ])
        refine anyH_take 9 (v := ?_) rfl (by kernel_rfl) (by kernel_rfl) (by kernel_rfl) (fun _ _ _ h => h) (by rfl) hHeld ?_ ?_
        rotate_left
        · (intro w hSw; (try dsimp only at hSw); go_split_ands; go_simp; try with_reducible rfl)
        (try simp only [Act.put, List.setIfInBounds_toArray, List.set_cons_zero, List.set_cons_succ])
        refine anyH_one 10 rfl (by kernel_rfl) (fun K hK => ?_)
        go_simp
        refine (probeWorkers_calls pC _ _ _ _ pE _ _ _ _ _ _ _ (HCA.out _ U5.out) (HEA.out _ U5.out) (by decide) HNS.out).mono ?_
        rintro e w6 ⟨rfl, hb6⟩
        rw [T2.out]
        have U6 := hid (bThen U5.out hb6)
        go_simp
        refine hK.out _ _ (HS.out _ U6.out) (fun hHeld => ?_)
        clear hK K
        (try simp only [Act.put, List.setIfInBounds_toArray, List.set_cons_zero, List.set_cons_succ])
        refine anyH_take 11 (v := ?_) rfl (by kernel_rfl) (by kernel_rfl) (by kernel_rfl) (fun _ _ _ h => h) (by rfl) hHeld ?_ ?_
        rotate_left
        · (intro w hSw; (try dsimp only at hSw); go_split_ands; go_simp; try with_reducible rfl)
        (try simp only [Act.put, List.setIfInBounds_toArray, List.set_cons_zero, List.set_cons_succ])
        refine anyH_take 12 (v := ?_) rfl (by kernel_rfl) (by kernel_rfl) (by kernel_rfl) (fun _ _ _ h => h) (by rfl) hHeld ?_ ?_
        rotate_left
        · (intro w hSw; (try dsimp only at hSw); go_split_ands; go_simp; try with_reducible rfl)
        (try simp only [Act.put, List.setIfInBounds_toArray, List.set_cons_zero, List.set_cons_succ])
        refine anyH_take 13 (v := ?_) rfl (by kernel_rfl) (by kernel_rfl) (by kernel_rfl) (fun _ _ _ h => h) (by rfl) hHeld ?_ ?_
        rotate_left
        · (intro w hSw; (try dsimp only at hSw); go_split_ands; go_simp; try with_reducible rfl)
        (try simp only [Act.put, List.setIfInBounds_toArray, List.set_cons_zero, List.set_cons_succ])
        refine wpAnyH_done (by kernel_rfl) ?_ _
        go_wp2
        go_ret
        exact ⟨rfl, bThen HBV.out U6.out⟩
    · go_simp
      have U2 := hid (show Below V.heap.size V ((V.alloc (.cells #[.int .u64 2, .int .u64 0] 39)).alloc (.cells #[.int .i64 2, .int .i64 0] 3)).drew from bAlloc U1.out (.cells #[.int .i64 2, .int .i64 0] 3))
      have HI1 := hid (show I64.slice.K ((V.alloc (.cells #[.int .u64 2, .int .u64 0] 39)).alloc (.cells #[.int .i64 2, .int .i64 0] 3)).drew (fun b => b < ((V.alloc (.cells #[.int .u64 2, .int .u64 0] 39)).alloc (.cells #[.int .i64 2, .int .i64 0] 3)).heap.size) [2, 0] [.slice (some ⟨V.heap.size + 1, 0, none⟩) 2 2] from I64.slice.mono (S' := (fun b => b < ((V.alloc (.cells #[.int .u64 2, .int .u64 0] 39)).alloc (.cells #[.int .i64 2, .int .i64 0] 3)).heap.size)) (fun _ _ h => h) (K_new (enc := fun x => [Value.int .i64 x]) (hl := fun _ => rfl) (h1 := fun x u hu => by rw [List.mem_singleton.1 hu]; rfl) (V.alloc (.cells #[.int .u64 2, .int .u64 0] 39)) (V.heap.size + 1) (by first | rfl | simp) 3 [2, 0] (by decide)))
      have HN1 := hid (show Kd.n64.slice.K ((V.alloc (.cells #[.int .u64 2, .int .u64 0] 39)).alloc (.cells #[.int .i64 2, .int .i64 0] 3)).drew Any [2, 0] [.slice (some ⟨V.heap.size, 0, none⟩) 2 2] from Kd.below HN0.out (bAlloc (Below.refl _ _) _))
      refine hK.out _ _ (HS.out _ U2.out) (fun hHeld => ?_)
      clear hK K
      (try simp only [Act.put, List.setIfInBounds_toArray, List.set_cons_zero, List.set_cons_succ])
      refine anyH_one 1 rfl (by kernel_rfl) (fun K hK => ?_)
      go_simp
      refine (tnew_calls [2, 0] _ (((V.alloc (.cells #[.int .u64 2, .int .u64 0] 39)).alloc (.cells #[.int .i64 2, .int .i64 0] 3)).drew) HN1.out (by decide) (by decide)).mono ?_
      rintro e w3 ⟨g, rfl, hT3, hb3⟩
      have U3 := hid (bThen U2.out hb3)
      have HT3 := hid (hT3.mono (T' := fun k => ((V.alloc (.cells #[.int .u64 2, .int .u64 0] 39)).alloc (.cells #[.int .i64 2, .int .i64 0] 3)).heap.size ≤ k ∧ k < w3.heap.size) (fun k hk h => ⟨h, hk⟩))
      have HG := hid HT3.out.len
      have HGS := hid (show V.heap.size ≤ g from Nat.le_trans U2.out.size HG.out.1.1)
      have HI2 := hid (I64.slice.mono (S' := fun b => b ≠ g) (fun b h _ e => by have := HG.out.1.1; first | omega | (simp at h this; omega)) (Kd.below HI1.out hb3))
      clear hT3 hb3
      go_simp
      refine hK.out _ _ (HS.out _ U3.out) (fun hHeld => ?_)
      clear hK K
      (try simp only [Act.put, List.setIfInBounds_toArray, List.set_cons_zero, List.set_cons_succ])
      refine anyH_one 4 rfl (by kernel_rfl) (fun K hK => ?_)
      go_simp
      refine (probeRound_calls _ g [2, 0] pC _ _ _ _ pE _ _ _ _ _ _ (w3) HT3.out (fun b hb => Nat.lt_of_lt_of_le hb.2 (by simp)) (HCA.out _ U3.out) (HEA.out _ U3.out) (by decide) HNS.out).mono ?_
      rintro e w4 ⟨v4, rfl, hO4, _, hM4⟩
      rw [T1.out] at hO4
      have U4 := hid (U3.out.trans ⟨hM4.os, hM4.tape, hM4.output, hM4.size, fun b hb => hM4.block b (Nat.lt_of_lt_of_le hb U3.out.size) (fun e => by have := HGS.out; omega)⟩)
      have HO4 := hid (Kd.any hO4.K)
      have HI3 := hid (Kd.any (Kd.mod HI2.out (F := fun b => b = g) hM4 (fun b _ h e => h e)))
      clear hO4 hM4
      go_simp
      refine hK.out _ _ (HS.out _ U4.out) (fun hHeld => ?_)
      clear hK K
      (try simp only [Act.put, List.setIfInBounds_toArray, List.set_cons_zero, List.set_cons_succ])
      refine anyH_one 6 rfl (by kernel_rfl) (fun K hK => ?_)
      go_simp
      refine (isame_calls [2, 0] _ _ (w4) HO4.out HI3.out).mono ?_
      rintro e w5 ⟨rfl, n5, rfl⟩
      have U5 := hid (below_drewN U4.out n5)
      go_simp
      refine hK.out _ _ (HS.out _ U5.out) (fun hHeld => ?_)
      clear hK K
      (try simp only [Act.put, List.setIfInBounds_toArray, List.set_cons_zero, List.set_cons_succ])
      refine anyH_take 7 (v := ?_) rfl (by kernel_rfl) (by kernel_rfl) (by kernel_rfl) (fun _ _ _ h => h) (by rfl) hHeld ?_ ?_
      rotate_left
      · (intro w hSw; (try dsimp only at hSw); go_split_ands; go_simp; try with_reducible rfl)
      (try simp only [Act.put, List.setIfInBounds_toArray, List.set_cons_zero, List.set_cons_succ])
      refine anyH_take 8 (v := ?_) rfl (by kernel_rfl) (by kernel_rfl) (by kernel_rfl) (fun _ _ _ h => h) (by rfl) hHeld ?_ ?_
      rotate_left
      · (intro w hSw; (try dsimp only at hSw); go_split_ands; go_simp; try with_reducible rfl)
      (try simp only [Act.put, List.setIfInBounds_toArray, List.set_cons_zero, List.set_cons_succ])
      refine anyH_take 9 (v := ?_) rfl (by kernel_rfl) (by kernel_rfl) (by kernel_rfl) (fun _ _ _ h => h) (by rfl) hHeld ?_ ?_
      rotate_left
      · (intro w hSw; (try dsimp only at hSw); go_split_ands; go_simp; try with_reducible rfl)
      (try simp only [Act.put, List.setIfInBounds_toArray, List.set_cons_zero, List.set_cons_succ])
      refine anyH_one 10 rfl (by kernel_rfl) (fun K hK => ?_)
      go_simp
      refine (probeWorkers_calls pC _ _ _ _ pE _ _ _ _ _ _ _ (HCA.out _ U5.out) (HEA.out _ U5.out) (by decide) HNS.out).mono ?_
      rintro e w6 ⟨rfl, hb6⟩
      rw [T2.out]
      have U6 := hid (bThen U5.out hb6)
      go_simp
      refine hK.out _ _ (HS.out _ U6.out) (fun hHeld => ?_)
      clear hK K
      (try simp only [Act.put, List.setIfInBounds_toArray, List.set_cons_zero, List.set_cons_succ])
      refine anyH_take 11 (v := ?_) rfl (by kernel_rfl) (by kernel_rfl) (by kernel_rfl) (fun _ _ _ h => h) (by rfl) hHeld ?_ ?_
      rotate_left
      · (intro w hSw; (try dsimp only at hSw); go_split_ands; go_simp; try with_reducible rfl)
      (try simp only [Act.put, List.setIfInBounds_toArray, List.set_cons_zero, List.set_cons_succ])
      refine anyH_take 12 (v := ?_) rfl (by kernel_rfl) (by kernel_rfl) (by kernel_rfl) (fun _ _ _ h => h) (by rfl) hHeld ?_ ?_
      rotate_left
      · (intro w hSw; (try dsimp only at hSw); go_split_ands; go_simp; try with_reducible rfl)
      (try simp only [Act.put, List.setIfInBounds_toArray, List.set_cons_zero, List.set_cons_succ])
      refine anyH_take 13 (v := ?_) rfl (by kernel_rfl) (by kernel_rfl) (by kernel_rfl) (fun _ _ _ h => h) (by rfl) hHeld ?_ ?_
      rotate_left
      · (intro w hSw; (try dsimp only at hSw); go_split_ands; go_simp; try with_reducible rfl)
      (try simp only [Act.put, List.setIfInBounds_toArray, List.set_cons_zero, List.set_cons_succ])
      refine wpAnyH_done (by kernel_rfl) ?_ _
      go_wp2
      go_ret
      exact ⟨rfl, bThen HBV.out U6.out⟩
  · go_simp
    have U1 := hid (show Below V.heap.size V (V.alloc (.cells #[.int .i64 2, .int .i64 0] 3)).drew from bAlloc U0.out (.cells #[.int .i64 2, .int .i64 0] 3))
    have HI0 := hid (show I64.slice.K (V.alloc (.cells #[.int .i64 2, .int .i64 0] 3)).drew (fun b => b < (V.alloc (.cells #[.int .i64 2, .int .i64 0] 3)).heap.size) [2, 0] [.slice (some ⟨V.heap.size, 0, none⟩) 2 2] from I64.slice.mono (S' := (fun b => b < (V.alloc (.cells #[.int .i64 2, .int .i64 0] 3)).heap.size)) (fun _ _ h => h) (K_new (enc := fun x => [Value.int .i64 x]) (hl := fun _ => rfl) (h1 := fun x u hu => by rw [List.mem_singleton.1 hu]; rfl) V (V.heap.size) (by first | rfl | simp) 3 [2, 0] (by decide)))
    refine hK.out _ _ (HS.out _ U1.out) (fun hHeld => ?_)
    clear hK K
    (try simp only [Act.put, List.setIfInBounds_toArray, List.set_cons_zero, List.set_cons_succ])
    refine anyH_one 0 rfl (by kernel_rfl) (fun K hK => ?_)
    go_simp
    have U2 := hid (show Below V.heap.size V ((V.alloc (.cells #[.int .i64 2, .int .i64 0] 3)).alloc (.cells #[.int .u64 2, .int .u64 0] 39)).drew from bAlloc U1.out (.cells #[.int .u64 2, .int .u64 0] 39))
    have HN1 := hid (show Kd.n64.slice.K ((V.alloc (.cells #[.int .i64 2, .int .i64 0] 3)).alloc (.cells #[.int .u64 2, .int .u64 0] 39)).drew Any [2, 0] [.slice (some ⟨V.heap.size + 1, 0, none⟩) 2 2] from Kd.any (K_new (enc := fun (x : Nat) => [Value.int .u64 x]) (hl := fun _ => rfl) (h1 := fun x u hu => by rw [List.mem_singleton.1 hu]; rfl) (V.alloc (.cells #[.int .i64 2, .int .i64 0] 3)) (V.heap.size + 1) (by first | rfl | simp) 39 [2, 0] (by decide)))
    have HI1 := hid (show I64.slice.K ((V.alloc (.cells #[.int .i64 2, .int .i64 0] 3)).alloc (.cells #[.int .u64 2, .int .u64 0] 39)).drew (fun b => b < (V.alloc (.cells #[.int .i64 2, .int .i64 0] 3)).heap.size) [2, 0] [.slice (some ⟨V.heap.size, 0, none⟩) 2 2] from Kd.below HI0.out (bAlloc (Below.refl _ _) _))
    refine hK.out _ _ (HS.out _ U2.out) (fun hHeld => ?_)
    clear hK K
    (try simp only [Act.put, List.setIfInBounds_toArray, List.set_cons_zero, List.set_cons_succ])
    refine anyH_one 1 rfl (by kernel_rfl) (fun K hK => ?_)
    go_simp
    refine (tnew_calls [2, 0] _ (((V.alloc (.cells #[.int .i64 2, .int .i64 0] 3)).alloc (.cells #[.int .u64 2, .int .u64 0] 39)).drew) HN1.out (by decide) (by decide)).mono ?_
    rintro e w3 ⟨g, rfl, hT3, hb3⟩
    have U3 := hid (bThen U2.out hb3)
    have HT3 := hid (hT3.mono (T' := fun k => ((V.alloc (.cells #[.int .i64 2, .int .i64 0] 3)).alloc (.cells #[.int .u64 2, .int .u64 0] 39)).heap.size ≤ k ∧ k < w3.heap.size) (fun k hk h => ⟨h, hk⟩))
    have HG := hid HT3.out.len
    have HGS := hid (show V.heap.size ≤ g from Nat.le_trans U2.out.size HG.out.1.1)
    have HI2 := hid (I64.slice.mono (S' := fun b => b ≠ g) (fun b h _ e => by have := HG.out.1.1; first | omega | (simp at h this; omega)) (Kd.below HI1.out hb3))
    clear hT3 hb3
    go_simp
    refine hK.out _ _ (HS.out _ U3.out) (fun hHeld => ?_)
    clear hK K
    (try simp only [Act.put, List.setIfInBounds_toArray, List.set_cons_zero, List.set_cons_succ])
    refine anyH_one 4 rfl (by kernel_rfl) (fun K hK => ?_)
    go_simp
    refine (probeRound_calls _ g [2, 0] pC _ _ _ _ pE _ _ _ _ _ _ (w3) HT3.out (fun b hb => Nat.lt_of_lt_of_le hb.2 (by simp)) (HCA.out _ U3.out) (HEA.out _ U3.out) (by decide) HNS.out).mono ?_
    rintro e w4 ⟨v4, rfl, hO4, _, hM4⟩
    rw [T1.out] at hO4
    have U4 := hid (U3.out.trans ⟨hM4.os, hM4.tape, hM4.output, hM4.size, fun b hb => hM4.block b (Nat.lt_of_lt_of_le hb U3.out.size) (fun e => by have := HGS.out; omega)⟩)
    have HO4 := hid (Kd.any hO4.K)
    have HI3 := hid (Kd.any (Kd.mod HI2.out (F := fun b => b = g) hM4 (fun b _ h e => h e)))
    clear hO4 hM4
    go_simp
    refine hK.out _ _ (HS.out _ U4.out) (fun hHeld => ?_)
    clear hK K
    (try simp only [Act.put, List.setIfInBounds_toArray, List.set_cons_zero, List.set_cons_succ])
    refine anyH_one 6 rfl (by kernel_rfl) (fun K hK => ?_)
    go_simp
    refine (isame_calls [2, 0] _ _ (w4) HO4.out HI3.out).mono ?_
    rintro e w5 ⟨rfl, n5, rfl⟩
    have U5 := hid (below_drewN U4.out n5)
    go_simp
    refine hK.out _ _ (HS.out _ U5.out) (fun hHeld => ?_)
    clear hK K
    (try simp only [Act.put, List.setIfInBounds_toArray, List.set_cons_zero, List.set_cons_succ])
    refine anyH_take 7 (v := ?_) rfl (by kernel_rfl) (by kernel_rfl) (by kernel_rfl) (fun _ _ _ h => h) (by rfl) hHeld ?_ ?_
    rotate_left
    · (intro w hSw; (try dsimp only at hSw); go_split_ands; go_simp; try with_reducible rfl)
    (try simp only [Act.put, List.setIfInBounds_toArray, List.set_cons_zero, List.set_cons_succ])
    refine anyH_take 8 (v := ?_) rfl (by kernel_rfl) (by kernel_rfl) (by kernel_rfl) (fun _ _ _ h => h) (by rfl) hHeld ?_ ?_
    rotate_left
    · (intro w hSw; (try dsimp only at hSw); go_split_ands; go_simp; try with_reducible rfl)
    (try simp only [Act.put, List.setIfInBounds_toArray, List.set_cons_zero, List.set_cons_succ])
    refine anyH_take 9 (v := ?_) rfl (by kernel_rfl) (by kernel_rfl) (by kernel_rfl) (fun _ _ _ h => h) (by rfl) hHeld ?_ ?_
    rotate_left
    · (intro w hSw; (try dsimp only at hSw); go_split_ands; go_simp; try with_reducible rfl)
    (try simp only [Act.put, List.setIfInBounds_toArray, List.set_cons_zero, List.set_cons_succ])
    refine anyH_one 10 rfl (by kernel_rfl) (fun K hK => ?_)
    go_simp
    refine (probeWorkers_calls pC _ _ _ _ pE _ _ _ _ _ _ _ (HCA.out _ U5.out) (HEA.out _ U5.out) (by decide) HNS.out).mono ?_
    rintro e w6 ⟨rfl, hb6⟩
    rw [T2.out]
    have U6 := hid (bThen U5.out hb6)
    go_simp
    refine hK.out _ _ (HS.out _ U6.out) (fun hHeld => ?_)
    clear hK K
    (try simp only [Act.put, List.setIfInBounds_toArray, List.set_cons_zero, List.set_cons_succ])
    refine anyH_take 11 (v := ?_) rfl (by kernel_rfl) (by kernel_rfl) (by kernel_rfl) (fun _ _ _ h => h) (by rfl) hHeld ?_ ?_
    rotate_left
    · (intro w hSw; (try dsimp only at hSw); go_split_ands; go_simp; try with_reducible rfl)
    (try simp only [Act.put, List.setIfInBounds_toArray, List.set_cons_zero, List.set_cons_succ])
    refine anyH_take 12 (v := ?_) rfl (by kernel_rfl) (by kernel_rfl) (by kernel_rfl) (fun _ _ _ h => h) (by rfl) hHeld ?_ ?_
    rotate_left
    · (intro w hSw; (try dsimp only at hSw); go_split_ands; go_simp; try with_reducible rfl)
    (try simp only [Act.put, List.setIfInBounds_toArray, List.set_cons_zero, List.set_cons_succ])
    refine anyH_take 13 (v := ?_) rfl (by kernel_rfl) (by kernel_rfl) (by kernel_rfl) (fun _ _ _ h => h) (by rfl) hHeld ?_ ?_
    rotate_left
    · (intro w hSw; (try dsimp only at hSw); go_split_ands; go_simp; try with_reducible rfl)
    (try simp only [Act.put, List.setIfInBounds_toArray, List.set_cons_zero, List.set_cons_succ])
    refine wpAnyH_done (by kernel_rfl) ?_ _
    go_wp2
    go_ret
    exact ⟨rfl, bThen HBV.out U6.out⟩
end Go.Proofs.Ytolckkckheiceaa
