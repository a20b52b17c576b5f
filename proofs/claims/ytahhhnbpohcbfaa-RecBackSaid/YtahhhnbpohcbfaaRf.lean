import Derived.Test.YtahhhnbpohcbfaaRd0
import Derived.Test.YtahhhnbpohcbfaaR01
import Derived.Test.YtahhhnbpohcbfaaBox
namespace Go.Proofs.Ytahhhnbpohcbfaa
open Go.RowKit

/-! ### the document's reader: a string and a number in block g -/
def RfAt (w : World) (g : Nat) (R : RdS) : Prop := w.heap[g]? = some (.cells #[.string (mkB R.b), .int .i64 R.e] 97 (0, 0))
theorem RfAt.below {w w1 : World} {g : Nat} {R : RdS} (h : RfAt w g R) (hb : Below w.heap.size w w1) : RfAt w1 g R := (hb.block g (Array.getElem?_eq_some_iff.1 h).1).trans h
theorem RfAt.mod {w w1 : World} {g : Nat} {R : RdS} {F : Nat → Prop} (h : RfAt w g R) (hb : Mod F w w1) (hg : ¬ F g) : RfAt w1 g R := (hb.block g (Array.getElem?_eq_some_iff.1 h).1 hg).trans h
theorem RfAt.cells {w : World} {g : Nat} {R : RdS} (h : RfAt w g R) : w.cell? ⟨g, 0, none⟩ = some (.string (mkB R.b)) ∧ w.cell? ⟨g, 1, none⟩ = some (.int .i64 R.e) ∧ w.frozen? ⟨g, 0, none⟩ = false ∧ w.frozen? ⟨g, 1, none⟩ = false ∧ g < w.heap.size := by
  have h1 := cells_of_block h
  exact ⟨h1.1 0 _ rfl, h1.1 1 _ rfl, h1.2.1 0, h1.2.1 1, h1.2.2⟩
theorem RfAt.setE {w : World} {g : Nat} {R : RdS} (h : RfAt w g R) (e : Int) : RfAt (w.setCell ⟨g, 1, none⟩ (.int .i64 e)) g ⟨R.b, e⟩ := heap_set h 1 _
theorem RfAt.setB {w : World} {g : Nat} {R : RdS} (h : RfAt w g R) (b : List UInt8) : RfAt (w.setCell ⟨g, 0, none⟩ (.string (mkB b))) g ⟨b, R.e⟩ := heap_set h 0 _
theorem mod_one {w : World} {p : Addr} (u : Value) : Mod (fun k => k = p.block) w (w.setCell p u) := Mod.setCell (Mod.refl (fun k => k = p.block) w) (fun _ => rfl) u

set_option maxHeartbeats 800000 in
set_option maxRecDepth 100000 in
theorem rfFail_calls (g : Nat) (R : RdS) (e : Int) (w : World) (hd : RfAt w g R) : Calls Try.prog 71 #[.pointer (some ⟨g, 0, none⟩), .int .i64 e] w fun en w' => en = .returned (.tuple #[]) ∧ RfAt w' g (R.fail e) ∧ Mod (fun k => k = g) w w' := by
  have HD := hid hd
  obtain ⟨c0, c1, f0, f1, hg⟩ := hd.cells
  clear hd
  by_cases h0 : R.e = 0
  · have e0 : (R.e == (0 : Int)) = true := by rw [beq_iff_eq]; exact h0
    have HV := hid (show R.fail e = ⟨R.b, e⟩ by unfold RdS.fail; rw [if_pos h0])
    clear h0
    go_enter Try.func71, Try.ntmps71
    go_wp2
    go_end0
    exact ⟨rfl, by rw [HV.out]; exact HD.out.setE e, mod_one (p := ⟨g, 1, none⟩) _⟩
  · have e0 : (R.e == (0 : Int)) = false := by rw [beq_eq_false_iff_ne]; exact h0
    have HV := hid (show R.fail e = R by unfold RdS.fail; rw [if_neg h0])
    clear h0
    go_enter Try.func71, Try.ntmps71
    go_wp2
    go_end0
    exact ⟨rfl, by rw [HV.out]; exact HD.out, Mod.refl _ _⟩

set_option maxHeartbeats 800000 in
set_option maxRecDepth 100000 in
theorem rfEnd_calls (g : Nat) (R : RdS) (w : World) (hd : RfAt w g R) (hl : R.b.length ≤ 1000000) : Calls Try.prog 74 #[.pointer (some ⟨g, 0, none⟩)] w fun en w' => en = .returned (.int .i64 R.fin) ∧ w = w' := by
  obtain ⟨c0, c1, f0, f1, hg⟩ := hd.cells
  have s2 := mkB_size R.b
  clear hd
  by_cases h0 : R.e = 0
  · have e0 : (R.e == (0 : Int)) = true := by rw [beq_iff_eq]; exact h0
    have e1 : (R.e != (0 : Int)) = false := by rw [bne_eq_false_iff_eq]; exact h0
    by_cases hl : 0 < R.b.length
    · have hl2 : (0 : Int) < R.b.length := by omega
      have HV := hid (show R.fin = 3 by unfold RdS.fin; rw [if_neg (by simp [h0]), if_pos hl])
      clear h0
      go_enter Try.func74, Try.ntmps74
      go_wp2
      go_ret
      exact ⟨ret_int (by rw [HV.out]), rfl⟩
    · have hl2 : ¬ (0 : Int) < R.b.length := by omega
      have HV := hid (show R.fin = R.e by unfold RdS.fin; rw [if_neg (by simp [h0]), if_neg hl, h0])
      clear h0
      go_enter Try.func74, Try.ntmps74
      go_wp2
      go_ret
      exact ⟨ret_int (by rw [HV.out]), rfl⟩
  · have e0 : (R.e == (0 : Int)) = false := by rw [beq_eq_false_iff_ne]; exact h0
    have e1 : (R.e != (0 : Int)) = true := by rw [bne_iff_ne]; exact h0
    have HV := hid (show R.fin = R.e by unfold RdS.fin; rw [if_pos h0])
    clear h0
    go_enter Try.func74, Try.ntmps74
    go_wp2
    go_ret
    exact ⟨ret_int (by rw [HV.out]), rfl⟩
end Go.Proofs.Ytahhhnbpohcbfaa
