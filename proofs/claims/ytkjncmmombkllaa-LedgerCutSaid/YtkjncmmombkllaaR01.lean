import Derived.Test.YtkjncmmombkllaaProg
import Derived.Test.YtkjncmmombkllaaBase
import Derived.Test.YtkjncmmombkllaaOctet
import Derived.Handy
namespace Go.Proofs.Ytkjncmmombkllaa
open Go.RowKit Go.Lib

def strZ : Value → Nat
  | .string s => if s.size = 0 then 1 else 0
  | _ => 0
theorem strZ_le (v : Value) : strZ v ≤ 1 := by
  unfold strZ
  split
  · split <;> omega
  · omega
theorem strZ_pos {s : ByteArray} (h : 0 < s.size) : strZ (.string s) = 0 := by simp only [strZ]; rw [if_neg (by omega)]
theorem be_zero_len (n : Nat) : (be n 0).length = 0 := rfl

end Go.Proofs.Ytkjncmmombkllaa

