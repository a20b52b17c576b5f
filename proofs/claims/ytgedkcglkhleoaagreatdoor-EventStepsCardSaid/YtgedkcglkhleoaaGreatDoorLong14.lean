/- siskinref14.Long. -/
import Derived.Test.YtgedkcglkhleoaaGreatDoorConfK
import Derived.Test.YtgedkcglkhleoaaGreatDoorBase
namespace Go.Proofs.YtgedkcglkhleoaaGreatDoor
open Go.RowKit

def longC (C : ConfS) : Bool := longB C.names 40 100 || decide (80 < C.workers.length)
set_option maxHeartbeats 1000000 in
set_option maxRecDepth 100000 in
theorem rlong14_calls (C : ConfS) (A B : Option Addr) (c d : Nat) (w : World) (h1 : Kd.str.slice.K w Any C.names [.slice A C.names.length c]) : Calls Tryz.prog 5 #[.agg #[.int .i64 C.scheds, .int .i64 C.lease, .int .i64 C.again, .int .i64 C.room, .int .i64 C.out, .slice A C.names.length c, .slice B C.workers.length d]] w fun e w' => e = .returned (.bool (longC C)) ∧ Below w.heap.size w w' := by
  have H1 := hid h1
  have HB := hid (show Below w.heap.size w (w.alloc (.cells #[.int .i64 C.scheds, .int .i64 C.lease, .int .i64 C.again, .int .i64 C.room, .int .i64 C.out, .slice A C.names.length c, .slice B C.workers.length d] 25)) from bAlloc (Below.refl _ _) _)
  have HD := hid (show longC C = (longB C.names 40 100 || decide (80 < C.workers.length)) from rfl)
  obtain ⟨q, hq⟩ : ∃ q, q = C.workers.length := ⟨_, rfl⟩
  rw [← hq] at HD HB ⊢
  clear h1 hq
  go_enter Tryz.func5, Tryz.ntmps5
  go_wp2_with fail
  refine (long_calls C.names 40 100 _ _ (Kd.below H1.out HB.out)).mono ?_
  rintro e w1 ⟨rfl, rfl⟩
  cases hl : longB C.names 40 100
  · rw [hl] at HD
    by_cases h80 : 80 < q
    · have hI : (80 : Int) < (q : Int) := by omega
      go_wp2
      go_ret
      exact ⟨ret_bool (by rw [HD.out]; simp [h80]; try omega), HB.out⟩
    · have hI : ¬ (80 : Int) < (q : Int) := by omega
      go_wp2
      go_ret
      exact ⟨ret_bool (by rw [HD.out]; simp [h80]; try omega), HB.out⟩
  · rw [hl] at HD
    go_wp2
    go_ret
    exact ⟨ret_bool (by rw [HD.out]; rfl), HB.out⟩
end Go.Proofs.YtgedkcglkhleoaaGreatDoor
