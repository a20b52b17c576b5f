import Derived.Test.YtgedkcglkhleoaaGreatDoorProg
import Derived.Test.YtgedkcglkhleoaaGreatDoorBase
import Derived.Handy
namespace Go.Proofs.YtgedkcglkhleoaaGreatDoor
open Go.RowKit Go.Lib

/-! ### glyph -/
set_option maxHeartbeats 1000000 in
set_option maxRecDepth 100000 in
theorem letter_calls (c : Int) (w : World) : Calls Tryz.prog 86 #[.int .i32 c] w fun e w' => e = .returned (.bool (letterB c)) ∧ w = w' := by
  go_enter Tryz.func86, Tryz.ntmps86
  go_wp2
  all_goals (go_ret; exact ⟨ret_bool (by rw [Bool.eq_iff_iff]; simp [letterB]; try omega), rfl⟩)

set_option maxHeartbeats 1000000 in
set_option maxRecDepth 100000 in
theorem count_calls (s : ByteArray) (w : World) (hs : s.size ≤ 140737488351232) : Calls Tryz.prog 68 #[.string s] w fun e w' => e = .returned (.int .i64 (runes s).length) ∧ Below w.heap.size w w' := by
  go_enter Tryz.func68, Tryz.ntmps68
  go_wp2
  go_loopw [3] (fun n wr => ∃ (p : Nat) (l : List RuneS), wr.heap[w.heap.size]? = some (.stringIter s p) ∧ Mid s l p ∧ n = .int .i64 l.length ∧ Below w.heap.size w wr) (fun _ wr => s.size - wr.iterPos w.heap.size)
  case atStart => exact ⟨0, [], World.iter_heap w s 0, Mid.start s, rfl, bAlloc (Below.refl _ _) _⟩
  case round =>
    obtain ⟨p, l, hk, hm, rfl, hb⟩ := hrel
    have hip := iterPos_of hk
    by_cases hp : p < s.size
    · have hnx := fun ty => run_next_any_at (P := Tryz.prog) wr w.heap.size s p ty hk hp
      have hlen := hm.len_lt hp
      have HM := hid (hm.step hp)
      have hwd := dec_w s p
      have HK := hid (iterAt_heap wr w.heap.size s p (p + (Utf8.decode s p).2) hk)
      have HB := hid (below_iterAt hb (Nat.le_refl _) s (p + (Utf8.decode s p).2))
      clear hm
      generalize Utf8.decode s p = dd at *
      go_wp2
      go_roundw
      case rel => exact ⟨_, _, HK.out, HM.out, by simp, HB.out⟩
      case measure => rw [hip, iterPos_of HK.out]; omega
    · have hnx := fun ty => run_next_end_at (P := Tryz.prog) wr w.heap.size s p ty hk hp
      have HE := hid (hm.done hp)
      clear hm
      go_wp2
      go_ret
      exact ⟨ret_int (by rw [HE.out]), hb⟩

end Go.Proofs.YtgedkcglkhleoaaGreatDoor
