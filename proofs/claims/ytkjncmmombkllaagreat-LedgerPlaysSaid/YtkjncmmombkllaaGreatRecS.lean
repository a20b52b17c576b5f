import Derived.Test.YtkjncmmombkllaaGreatRecB
import Derived.Test.YtkjncmmombkllaaGreatBase
import Derived.KernelRfl
namespace Go.Proofs.YtkjncmmombkllaaGreat
open Go.RowKit

def sizeR (x : RecS) : Int := if recOk x then (putL (recL x)).length else 0

theorem recL_len {x : RecS} : (recL x).length ≤ 4000 := by
  unfold recL
  split
  · rename_i h
    obtain ⟨h1, h2⟩ := recOk_needs h
    have h3 := recHead_len x
    have h4 := needs_len h2
    rw [List.length_append]; omega
  · simp
theorem putL_len {l : List UInt8} (h : l.length ≤ 4096) : (putL l).length ≤ l.length + 12 := by
  unfold putL
  rw [if_neg (by omega)]
  unfold sealL
  have := textL_len l (by unfold maxNum; omega)
  simp [four]; omega

set_option maxHeartbeats 1600000 in
set_option maxRecDepth 100000 in
theorem recSize_calls (x : RecS) (A : Option Addr) (n c : Nat) (w : World) (hn : Kd.str.slice.K w Any x.needs [.slice A n c]) :
    Calls Tryz.prog 67 #[.agg #[.int .i64 x.kind, .int .i64 x.job, .int .i64 x.task, .int .i64 x.worker, .int .i64 x.sched, .int .i64 x.epoch, .slice A n c]] w fun e w' => e = .returned (.int .i64 (sizeR x)) ∧ Below w.heap.size w w' := by
  have HK := hid hn
  clear hn
  cases hok : recOk x
  · have HV := hid (show sizeR x = 0 by unfold sizeR; rw [hok]; rfl)
    go_enter Tryz.func67, Tryz.ntmps67
    go_wp2_with fail
    refine (recCheck_calls x A n c _ (Kd.below HK.out (bAlloc (Below.refl _ _) _))).mono ?_
    rintro e w1 ⟨rfl, hb1⟩
    rw [hok]
    go_wp2
    go_ret
    exact ⟨ret_int (by rw [HV.out]), bThen (bAlloc (Below.refl _ _) _) hb1⟩
  · have HV := hid (show sizeR x = (putL (recL x)).length by unfold sizeR; rw [hok]; rfl)
    go_enter Tryz.func67, Tryz.ntmps67
    go_wp2_with fail
    refine (recCheck_calls x A n c _ (Kd.below HK.out (bAlloc (Below.refl _ _) _))).mono ?_
    rintro e w1 ⟨rfl, hb1⟩
    rw [hok]
    have b1 := bThen (bAlloc (Below.refl _ _) _) hb1
    have hx1 : w1.heap[w.heap.size]? = some (.cells #[.int .i64 x.kind, .int .i64 x.job, .int .i64 x.task, .int .i64 x.worker, .int .i64 x.sched, .int .i64 x.epoch, .slice A n c] 46 (0, 0)) := (hb1.block _ (by simp)).trans (heap_at rfl)
    obtain ⟨q1, _, _⟩ := cells_of_block hx1
    have x0 := q1 0 _ rfl
    have x1 := q1 1 _ rfl
    have x2 := q1 2 _ rfl
    have x3 := q1 3 _ rfl
    have x4 := q1 4 _ rfl
    have x5 := q1 5 _ rfl
    have x6 := q1 6 _ rfl
    clear q1 hx1 hb1
    go_wp2_with fail
    refine (recBytes_calls x A n c _ (Kd.below HK.out b1)).mono ?_
    rintro e w2 ⟨A2, m2, c2, rfl, hO2, hb2⟩
    have hconv := conv_u8 (Kd.any (Own.K hO2))
    have b2 := bThen b1 hb2
    have hl := recL_len (x := x)
    obtain ⟨s, hs⟩ : ∃ s : ByteArray, s = ⟨(recL x).toArray⟩ := ⟨_, rfl⟩
    rw [← hs] at hconv
    have HS := hid (show s.data.toList = recL x by rw [hs])
    clear hO2 hb2 x0 x1 x2 x3 x4 x5 x6 hs
    go_wp2_with fail
    refine (frPut_calls [] (.slice none 0 0) s _ ⟨none, 0, rfl, by simp, by simp, Kd.Row.nil⟩ (by simp)).mono ?_
    rintro e w3 ⟨A3, m3, c3, rfl, hO3, hb3⟩
    rw [HS.out, List.nil_append] at hO3
    have hpl := putL_len (l := recL x) (by omega)
    obtain ⟨_, _, h3, h4⟩ := hO3.shape
    have HM := hid (show m3 = (putL (recL x)).length by injection h3)
    have hm3 : m3 ≤ 5000 := by rw [HM.out]; omega
    clear h3 h4 hO3 hpl hl hconv
    go_wp2
    go_ret
    exact ⟨ret_int (by rw [HV.out, HM.out]), bThen b2 hb3⟩

def recW : RecS := ⟨3, 5, 2, 0, 0, 0, []⟩
theorem recW_l : recL recW = [3, 5, 2] := by decide +kernel
theorem recW_s : sizeR recW = 8 := by decide +kernel

/-! a record that comes in -/
def Kd.recK : Kd RecS := Kd.iso (Kd.pair (Kd.int .i64) (Kd.pair (Kd.int .i64) (Kd.pair (Kd.int .i64) (Kd.pair (Kd.int .i64) (Kd.pair (Kd.int .i64) (Kd.pair (Kd.int .i64) Kd.str.slice)))))) (fun x => (x.kind, x.job, x.task, x.worker, x.sched, x.epoch, x.needs))
def okI (n : Int) : Prop := (Lit.int .i64 n).wf = true
def okRec (y : RecS) : Prop := okI y.kind ∧ okI y.job ∧ okI y.task ∧ okI y.worker ∧ okI y.sched ∧ okI y.epoch ∧ ((∀ s ∈ y.needs, s.size ≤ 140737488351232) ∧ y.needs.length * 16 ≤ 140737488351232)
theorem Tryz.opensRec : Opens Tryz.prog 46 Kd.recK okRec :=
  opens_iso (fun x : RecS => (x.kind, x.job, x.task, x.worker, x.sched, x.epoch, x.needs)) (fun p => ⟨p.1, p.2.1, p.2.2.1, p.2.2.2.1, p.2.2.2.2.1, p.2.2.2.2.2.1, p.2.2.2.2.2.2⟩) (fun _ => rfl)
    (opens_struct (l := [(3, 0), (3, 1), (3, 2), (3, 3), (3, 4), (3, 5), (44, 6)]) (by kernel_rfl) (by simp) (by kernel_rfl)
    (opensF_cons (by kernel_rfl) (opens_int Tryz.underlying3) (by decide) (opensF_cons (by kernel_rfl) (opens_int Tryz.underlying3) (by decide) (opensF_cons (by kernel_rfl) (opens_int Tryz.underlying3) (by decide)
    (opensF_cons (by kernel_rfl) (opens_int Tryz.underlying3) (by decide) (opensF_cons (by kernel_rfl) (opens_int Tryz.underlying3) (by decide) (opensF_cons (by kernel_rfl) (opens_int Tryz.underlying3) (by decide)
    (opensF_one (by kernel_rfl) (opens_slice Tryz.underlying44 (by kernel_rfl) (by kernel_rfl) (by decide) (by decide) (opens_str Tryz.underlying9))))))))))
theorem rec_open {w : World} {S : Nat → Prop} {x : RecS} {cs : Array Value} (h : Kd.recK.K w S x cs.toList) : ∃ A n c, cs = #[.int .i64 x.kind, .int .i64 x.job, .int .i64 x.task, .int .i64 x.worker, .int .i64 x.sched, .int .i64 x.epoch, .slice A n c] ∧ Kd.str.slice.K w S x.needs [.slice A n c] := by
  obtain ⟨c0, r0, h0, k0, c1, r1, rfl, k1, c2, r2, rfl, k2, c3, r3, rfl, k3, c4, r4, rfl, k4, c5, r5, rfl, k5, k6⟩ := h
  cases k0; cases k1; cases k2; cases k3; cases k4; cases k5
  have k7 := k6
  obtain ⟨A, c, rfl, _⟩ := k7
  exact ⟨A, _, c, by apply Array.ext'; rw [h0]; rfl, k6⟩
end Go.Proofs.YtkjncmmombkllaaGreat
