/- Strings as lists of bytes. No Go program in sight. -/
import Derived.Test.YtolckkckheiceaaOctet0
namespace Go.Proofs.Ytolckkckheiceaa
open Go.RowKit Go.Lib

def mkB (l : List UInt8) : ByteArray := ⟨l.toArray⟩
theorem mkB_data (l : List UInt8) : (mkB l).data.toList = l := by simp [mkB]
theorem mkB_of (s : ByteArray) : mkB s.data.toList = s := by simp [mkB]
theorem mkB_size (l : List UInt8) : (mkB l).size = l.length := rfl
theorem mkB_append (a b : List UInt8) : mkB a ++ mkB b = mkB (a ++ b) := by
  unfold mkB
  rw [ByteArray.mk_append_mk]
  try simp
theorem mkB_toList (l : List UInt8) : (mkB l).toList = l := by rw [ByteArray.toList_eq]; exact mkB_data l
theorem mkB_inj {a b : List UInt8} (h : mkB a = mkB b) : a = b := by rw [← mkB_data a, h, mkB_data]
theorem nums_mkB (l : List UInt8) : strOfNums (l.map (fun x => (x.toNat : Int))) = mkB l := by
  unfold strOfNums mkB
  rw [List.map_map]
  congr 2
  conv => rhs; rw [← List.map_id l]
  apply List.map_congr_left
  intro x _
  simp
theorem nums_one (x : UInt8) : strOfNums [(x.toNat : Int)] = mkB [x] := nums_mkB [x]
theorem nums_cons (x : UInt8) (l : List UInt8) : strOfNums [(x.toNat : Int)] ++ mkB l = mkB (x :: l) := by rw [nums_one, mkB_append]; rfl
theorem nums_four (a b c d : UInt8) : strOfNums [(a.toNat : Int), (b.toNat : Int), (c.toNat : Int), (d.toNat : Int)] = mkB [a, b, c, d] := nums_mkB [a, b, c, d]
theorem mkB_extract (l : List UInt8) (i j : Nat) : (mkB l).extract i j = mkB ((l.drop i).take (j - i)) := by
  apply ByteArray.ext
  simp [mkB, ByteArray.data_extract, List.extract_eq_take_drop]
end Go.Proofs.Ytolckkckheiceaa
