import Derived.Test.YteijgeofimcijaaJobC
namespace Go.Proofs.Yteijgeofimcijaa
open Go.RowKit

set_option maxHeartbeats 2000000 in
set_option maxRecDepth 100000 in
theorem works15_calls (w : World) : Calls Try.prog 33 #[] w fun e w' => e = .returned (.bool true) ∧ Below w.heap.size w w' := by
  have T1 := hid (show checkJ [⟨#[103, 112, 117]⟩] [⟨1, 1, 0⟩] 1 [⟨#[42]⟩, ⟨#[103, 112, 117]⟩] = (1, 0, 11) by decide +kernel)
  have HT := hid (K_newS w w.heap.size rfl 9 [⟨#[103, 112, 117]⟩] (by decide))
  go_enter Try.func33, Try.ntmps33
  go_wp2_with fail
  refine (jobCheck_calls [⟨#[103, 112, 117]⟩] [⟨1, 1, 0⟩] 1 [⟨#[42]⟩, ⟨#[103, 112, 117]⟩] 0 0 0 0 0 _ _ _ _ (Kd.below HT.out (bAlloc (bAlloc (bAlloc (Below.refl _ _) _) _) _))
    (Kd.below (Kd.any (K_new (enc := fun (x : WorkerS) => [.int .i64 x.slots, .int .i64 x.limit, .int .u64 x.attrs]) (hl := fun _ => rfl) (h1 := fun x u hu => by simp at hu; rcases hu with rfl | rfl | rfl <;> rfl) _ (w.heap.size + 1) (by simp) 159 [⟨1, 1, 0⟩] (by decide))) (bAlloc (bAlloc (Below.refl _ _) _) _))
    (by intro x hx; rw [List.mem_singleton.1 hx]; decide)
    (K_newS _ (w.heap.size + 1 + 1 + 1) (by simp) 9 [⟨#[42]⟩, ⟨#[103, 112, 117]⟩] (by decide)) (by intro x hx; simp at hx; rcases hx with rfl | rfl <;> decide)).mono ?_
  rintro e w1 ⟨rfl, hb1⟩
  rw [T1.out]
  have HB1 := hid (bThen (bAlloc (bAlloc (bAlloc (bAlloc (Below.refl w.heap.size w) _) _) _) _) hb1)
  clear hb1
  go_wp2
  go_ret
  exact ⟨rfl, HB1.out⟩
end Go.Proofs.Yteijgeofimcijaa
