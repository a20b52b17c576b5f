/- The page's example of layer 34. -/
import Derived.Test.YteijgeofimcijaaHand5
namespace Go.Proofs.Yteijgeofimcijaa
open Go.RowKit

def exC : ConfS := ⟨0, 0, 0, 0, 0, [], [⟨0, 0, 0⟩, ⟨0, 0, 0⟩, ⟨0, 0, 0⟩]⟩
def exE : EntryS := ⟨1, 0, 0, [⟨#[42]⟩, ⟨#[42]⟩, ⟨#[42]⟩], [0, 3, 0], [false, false, false]⟩
set_option maxHeartbeats 4000000 in
set_option maxRecDepth 100000 in
theorem works34_calls (w : World) : Calls Try.prog 43 #[] w fun e w' => e = .returned (.bool true) ∧ Below w.heap.size w w' := by
  have T1 := hid (show pickS exC exE 2 [] = (1, false, true) by decide +kernel)
  have T2 := hid (show pickS exC exE 2 [false, true] = (0, true, true) by decide +kernel)
  have hm1 : ∀ W, (Instr.makeSlice 54 (.int .i64 3) (.int .i64 3)).run Try.prog W = .ok (.slice (some ⟨W.heap.size, 0, none⟩) 3 3) (W.alloc (.cells #[.int .i64 0, .int .i64 0, .int .u64 0, .int .i64 0, .int .i64 0, .int .u64 0, .int .i64 0, .int .i64 0, .int .u64 0] 159)) := fun W => by kernel_rfl
  have hm2 : ∀ W, (Instr.makeSlice 72 (.int .i64 3) (.int .i64 3)).run Try.prog W = .ok (.slice (some ⟨W.heap.size, 0, none⟩) 3 3) (W.alloc (.cells #[.bool false, .bool false, .bool false] 4)) := fun W => by kernel_rfl
  obtain ⟨V, hV⟩ : ∃ V, V = ((((((w.alloc (.cells #[.int .i64 0, .int .i64 0, .int .u64 0, .int .i64 0, .int .i64 0, .int .u64 0, .int .i64 0, .int .i64 0, .int .u64 0] 159)).alloc (.cells #[.int .i64 0, .int .i64 0, .int .i64 0, .int .i64 0, .int .i64 0, .slice none 0 0, .slice (some ⟨w.heap.size, 0, none⟩) 3 3] 56)).alloc (.cells #[.string ⟨#[42]⟩, .string ⟨#[42]⟩, .string ⟨#[42]⟩] 9)).alloc (.cells #[.int .i64 0, .int .i64 3, .int .i64 0] 3)).alloc (.cells #[.bool false, .bool false, .bool false] 4)).alloc (.cells #[.int .i64 1, .int .i64 0, .int .i64 0, .slice (some ⟨w.heap.size + 1 + 1, 0, none⟩) 3 3, .slice (some ⟨w.heap.size + 1 + 1 + 1, 0, none⟩) 3 3, .slice (some ⟨w.heap.size + 1 + 1 + 1 + 1, 0, none⟩) 3 3] 74)) := ⟨_, rfl⟩
  have hbv : Below w.heap.size w V := by rw [hV]; exact (bAlloc (bAlloc (bAlloc (bAlloc (bAlloc (bAlloc (Below.refl _ _) _) _) _) _) _) _)
  have hC : CAt V exC none (some ⟨w.heap.size, 0, none⟩) 0 3 := by
    rw [hV]
    exact ⟨⟨none, 0, rfl, Nat.le_refl _, by decide, Kd.Row.nil⟩, Kd.below (Kd.any (K_new (enc := fun (x : WorkerS) => [.int .i64 x.slots, .int .i64 x.limit, .int .u64 x.attrs]) (hl := fun _ => rfl) (h1 := fun x u hu => by simp at hu; rcases hu with rfl | rfl | rfl <;> rfl) w w.heap.size rfl 159 [⟨0, 0, 0⟩, ⟨0, 0, 0⟩, ⟨0, 0, 0⟩] (by decide))) (bAlloc (bAlloc (bAlloc (bAlloc (bAlloc (Below.refl _ _) _) _) _) _) _), by intro x hx; simp [exC] at hx; subst hx; decide⟩
  have hE : EAt V exE (some ⟨w.heap.size + 1 + 1, 0, none⟩) (some ⟨w.heap.size + 1 + 1 + 1, 0, none⟩) (some ⟨w.heap.size + 1 + 1 + 1 + 1, 0, none⟩) 3 3 3 := by
    rw [hV]
    exact ⟨Kd.below (K_newS ((w.alloc (.cells #[.int .i64 0, .int .i64 0, .int .u64 0, .int .i64 0, .int .i64 0, .int .u64 0, .int .i64 0, .int .i64 0, .int .u64 0] 159)).alloc (.cells #[.int .i64 0, .int .i64 0, .int .i64 0, .int .i64 0, .int .i64 0, .slice none 0 0, .slice (some ⟨w.heap.size, 0, none⟩) 3 3] 56)) (w.heap.size + 1 + 1) (by simp) 9 [⟨#[42]⟩, ⟨#[42]⟩, ⟨#[42]⟩] (by decide)) (bAlloc (bAlloc (bAlloc (Below.refl _ _) _) _) _),
      Kd.below (Kd.any (K_new (enc := fun x => [Value.int .i64 x]) (hl := fun _ => rfl) (h1 := fun x u hu => by rw [List.mem_singleton.1 hu]; rfl) (((w.alloc (.cells #[.int .i64 0, .int .i64 0, .int .u64 0, .int .i64 0, .int .i64 0, .int .u64 0, .int .i64 0, .int .i64 0, .int .u64 0] 159)).alloc (.cells #[.int .i64 0, .int .i64 0, .int .i64 0, .int .i64 0, .int .i64 0, .slice none 0 0, .slice (some ⟨w.heap.size, 0, none⟩) 3 3] 56)).alloc (.cells #[.string ⟨#[42]⟩, .string ⟨#[42]⟩, .string ⟨#[42]⟩] 9)) (w.heap.size + 1 + 1 + 1) (by simp) 3 [0, 3, 0] (by decide))) (bAlloc (bAlloc (Below.refl _ _) _) _),
      Kd.below (Kd.any (K_new (enc := fun x => [Value.bool x]) (hl := fun _ => rfl) (h1 := fun x u hu => by rw [List.mem_singleton.1 hu]; rfl) ((((w.alloc (.cells #[.int .i64 0, .int .i64 0, .int .u64 0, .int .i64 0, .int .i64 0, .int .u64 0, .int .i64 0, .int .i64 0, .int .u64 0] 159)).alloc (.cells #[.int .i64 0, .int .i64 0, .int .i64 0, .int .i64 0, .int .i64 0, .slice none 0 0, .slice (some ⟨w.heap.size, 0, none⟩) 3 3] 56)).alloc (.cells #[.string ⟨#[42]⟩, .string ⟨#[42]⟩, .string ⟨#[42]⟩] 9)).alloc (.cells #[.int .i64 0, .int .i64 3, .int .i64 0] 3)) (w.heap.size + 1 + 1 + 1 + 1) (by simp) 4 [false, false, false] (by decide))) (bAlloc (Below.refl _ _) _)⟩
  have hz1 : V.heap[w.heap.size + 1]? = some (.cells #[.int .i64 exC.scheds, .int .i64 exC.lease, .int .i64 exC.again, .int .i64 exC.room, .int .i64 exC.out, .slice none exC.names.length 0, .slice (some ⟨w.heap.size, 0, none⟩) exC.workers.length 3] 56 (0, 0)) := by
    rw [hV, Below.heap_alloc _ _ _ (by simp; try omega), Below.heap_alloc _ _ _ (by simp; try omega), Below.heap_alloc _ _ _ (by simp; try omega), Below.heap_alloc _ _ _ (by simp; try omega)]
    exact heap_at (by simp)
  have hz2 : V.heap[w.heap.size + 1 + 1 + 1 + 1 + 1]? = some (.cells #[.int .i64 exE.id, .int .i64 exE.sched, .int .i64 exE.epoch, .slice (some ⟨w.heap.size + 1 + 1, 0, none⟩) exE.needs.length 3, .slice (some ⟨w.heap.size + 1 + 1 + 1, 0, none⟩) exE.bound.length 3, .slice (some ⟨w.heap.size + 1 + 1 + 1 + 1, 0, none⟩) exE.done.length 3] 74 (0, 0)) := by
    rw [hV]
    exact heap_at (by simp)
  have HBC := hid (boxC_of hz1 hC)
  have HBE := hid (boxE_of hz2 hE)
  have HBV := hid hbv
  have HV := hid hV
  have hns : ∀ s ∈ exE.needs, s.size ≤ 140737488351232 := by intro s hs; simp [exE] at hs; subst hs; decide
  have hbd : BoundOk exE := by intro b hb; simp [exE] at hb; omega
  have HNS := hid hns
  have HBD := hid hbd
  have HC := hid hC
  have HE := hid hE
  clear hV hbv hC hE hns hbd hz1 hz2
  go_enter Try.func43, Try.ntmps43
  go_wp2_with fail
  rw [← HV.out]
  refine (pick_calls exC none (some ⟨w.heap.size, 0, none⟩) 0 3 exE (some ⟨w.heap.size + 1 + 1, 0, none⟩) (some ⟨w.heap.size + 1 + 1 + 1, 0, none⟩) (some ⟨w.heap.size + 1 + 1 + 1 + 1, 0, none⟩) 3 3 3 2 [] (.slice none 0 0) V HC.out HE.out ⟨none, 0, rfl, Nat.le_refl _, by decide, Kd.Row.nil⟩ (by decide) (by decide) HBD.out HNS.out).mono ?_
  rintro e w1 ⟨rfl, hb1⟩
  rw [T1.out]
  dsimp only
  have HB1 := hid hb1
  obtain ⟨⟨c0, c1, c2, c3, c4, c5, c6⟩, _, _⟩ := HBC.out.below hb1
  obtain ⟨⟨e0, e1, e2, e3, e4, e5⟩, _, _⟩ := HBE.out.below hb1
  clear hb1
  dsimp only [exC, exE, List.length_cons, List.length_nil] at c0 c1 c2 c3 c4 c5 c6 e0 e1 e2 e3 e4 e5
  simp only [Nat.reduceAdd] at c5 c6 e3 e4 e5
  go_wp2_with fail
  refine (pick_calls exC none (some ⟨w.heap.size, 0, none⟩) 0 3 exE (some ⟨w.heap.size + 1 + 1, 0, none⟩) (some ⟨w.heap.size + 1 + 1 + 1, 0, none⟩) (some ⟨w.heap.size + 1 + 1 + 1 + 1, 0, none⟩) 3 3 3 2 [false, true] _ _ (HC.out.below (bAlloc HB1.out _)) (HE.out.below (bAlloc HB1.out _)) (Kd.any (K_new (enc := fun x => [Value.bool x]) (hl := fun _ => rfl) (h1 := fun x u hu => by rw [List.mem_singleton.1 hu]; rfl) w1 w1.heap.size rfl 4 [false, true] (by decide))) (by decide) (by decide) HBD.out HNS.out).mono ?_
  rintro e w2 ⟨rfl, hb2⟩
  rw [T2.out]
  dsimp only
  have HB2 := hid (bThen HBV.out (bThen (bAlloc HB1.out _) hb2))
  clear hb2 c0 c1 c2 c3 c4 c5 c6 e0 e1 e2 e3 e4 e5
  go_wp2
  go_ret
  exact ⟨rfl, HB2.out⟩
end Go.Proofs.Yteijgeofimcijaa
