import Derived.Test.YtkjncmmombkllaaR01
import Derived.Test.YtkjncmmombkllaaCrc
namespace Go.Proofs.Ytkjncmmombkllaa
open Go.RowKit Go.Lib

theorem rStep_ne {X c : Nat} (h : X % 2 ≠ c % 2) : rStep (X, c) = ((X / 2) ^^^ 3988292384, c / 2) := by unfold rStep; simp only; rw [if_pos h]
theorem rStep_eq {X c : Nat} (h : X % 2 = c % 2) : rStep (X, c) = (X / 2, c / 2) := by unfold rStep; simp only; rw [if_neg (by simpa using h)]
theorem byte_at (s : ByteArray) (k : Nat) (h : k < s.size) : s.data.toList[k]? = some (s.get! k) := data_at h

theorem conv_new4 {P : Program} {src e dst : TypeId} (hs : P.underlying src = some (.slice e)) (he : P.underlying e = some (.int .u8)) (hd : P.underlying dst = some .string) (W : World) (a b c d : Int) :
    (convert src dst (.slice (some ⟨W.heap.size, 0, none⟩) 4 4)).run P (W.alloc (.cells #[.int .u8 a, .int .u8 b, .int .u8 c, .int .u8 d] e)) = .ok (.string (strOfNums [a, b, c, d])) (W.alloc (.cells #[.int .u8 a, .int .u8 b, .int .u8 c, .int .u8 d] e)) := by
  refine run_convert_bytes_arg _ src e hs he W.heap.size 0 4 4 [a, b, c, d] rfl (fun i hi => ?_) dst hd
  match i, hi with
  | 0, _ => simp
  | 1, _ => simp
  | 2, _ => simp
  | 3, _ => simp

end Go.Proofs.Ytkjncmmombkllaa
