import Derived.Test.YtahhhnbpohcbfaaPrf
import Derived.Test.YtahhhnbpohcbfaaOpens2
namespace Go.Proofs.Ytahhhnbpohcbfaa
open Go.RowKit

/-- A record that lies in a block of its own. -/
theorem rec_cells {W : World} {g : Nat} {x : RecS} {A : Option Addr} {n c : Nat} (h : W.heap[g]? = some (.cells #[.int .i64 x.kind, .int .i64 x.job, .int .i64 x.task, .int .i64 x.worker, .int .i64 x.sched, .int .i64 x.epoch, .slice A n c] 24 (0, 0))) :
    W.cell? ⟨g, 0, none⟩ = some (.int .i64 x.kind) ∧ W.cell? ⟨g, 1, none⟩ = some (.int .i64 x.job) ∧ W.cell? ⟨g, 2, none⟩ = some (.int .i64 x.task) ∧ W.cell? ⟨g, 3, none⟩ = some (.int .i64 x.worker) ∧ W.cell? ⟨g, 4, none⟩ = some (.int .i64 x.sched) ∧ W.cell? ⟨g, 5, none⟩ = some (.int .i64 x.epoch) ∧ W.cell? ⟨g, 6, none⟩ = some (.slice A n c) := by
  obtain ⟨q, _, _⟩ := cells_of_block h
  exact ⟨q 0 _ rfl, q 1 _ rfl, q 2 _ rfl, q 3 _ rfl, q 4 _ rfl, q 5 _ rfl, q 6 _ rfl⟩

set_option maxHeartbeats 6400000 in
set_option maxRecDepth 100000 in
theorem recParses_walk (W : World) (b : List UInt8) (u : Value) (hb : Kd.u8.slice.K W Any b [u]) (_ob : (∀ y ∈ b, True) ∧ b.length * 1 ≤ 140737488351232) :
    Calls Try.prog 4 #[u] W fun e w' => e = .returned (.bool true) ∧ Below W.heap.size W w' := by
  have HB := hid hb
  obtain ⟨A, c, he, hc, _, _⟩ := hb
  obtain rfl : u = .slice A b.length c := by simpa using he
  clear he
  by_cases hl : (4000 : Int) < b.length
  · go_enter Try.func4, Try.ntmps4
    go_wp2_with fail
    refine (works17_calls _).mono ?_
    rintro e w1 ⟨rfl, hb1⟩
    go_wp2
    go_ret
    exact ⟨rfl, hb1⟩
  · have hl2 : b.length ≤ 1000000 := by omega
    have C1 := fun w h => recParse_calls b (.slice A b.length c) w h hl2
    have C2 := fun w => rfParse_calls b w hl2
    obtain ⟨X, hX⟩ : ∃ X, X = parseR b := ⟨_, rfl⟩
    obtain ⟨E, hE⟩ : ∃ E, E = parseE b := ⟨_, rfl⟩
    rw [← hX, ← hE] at C1 C2
    have C1 := hid C1
    have C2 := hid C2
    clear hX hE
    go_enter Try.func4, Try.ntmps4
    go_wp2_with fail
    refine (C1.out _ HB.out).mono ?_
    rintro e w1 ⟨A1, n1, c1, rfl, hk1, hb1⟩
    have HK1 := hid hk1
    have HB1 := hid (bAlloc hb1 (.cells #[.int .i64 X.kind, .int .i64 X.job, .int .i64 X.task, .int .i64 X.worker, .int .i64 X.sched, .int .i64 X.epoch, .slice A1 n1 c1] 24))
    have hcv := conv_u8 (Kd.below HB.out HB1.out)
    clear hk1 hb1
    go_wp2_with fail
    refine (C2.out _).mono ?_
    rintro e w2 ⟨A2, n2, c2, rfl, hk2, hb2⟩
    have HK2 := hid hk2
    have HX := hid ((hb2.block _ (by simp)).trans (heap_alloc_new w1 (.cells #[.int .i64 X.kind, .int .i64 X.job, .int .i64 X.task, .int .i64 X.worker, .int .i64 X.sched, .int .i64 X.epoch, .slice A1 n1 c1] 24)))
    have hl1 : w1.heap.size < w2.heap.size := (Array.getElem?_eq_some_iff.1 HX.out).1
    obtain ⟨x0, x1, x2, x3, x4, x5, x6⟩ := rec_cells (W := w2.alloc (.cells #[.int .i64 X.kind, .int .i64 X.job, .int .i64 X.task, .int .i64 X.worker, .int .i64 X.sched, .int .i64 X.epoch, .slice A2 n2 c2] 24)) (heap_old hl1 HX.out)
    have HB2 := hid (bThen HB1.out hb2)
    have HB3 := hid hb2
    have K1a : Kd.str.slice.K (w1.alloc (.cells #[.int .i64 X.kind, .int .i64 X.job, .int .i64 X.task, .int .i64 X.worker, .int .i64 X.sched, .int .i64 X.epoch, .slice A1 n1 c1] 24)) Any X.needs [.slice A1 n1 c1] := Kd.any (Kd.below HK1.out (bAlloc (Below.refl _ _) _))
    have K1b : Kd.str.slice.K w2 Any X.needs [.slice A1 n1 c1] := Kd.below K1a HB3.out
    have K1c := hid (show Kd.str.slice.K (w2.alloc (.cells #[.int .i64 X.kind, .int .i64 X.job, .int .i64 X.task, .int .i64 X.worker, .int .i64 X.sched, .int .i64 X.epoch, .slice A2 n2 c2] 24)) Any X.needs [.slice A1 n1 c1] from Kd.below K1b (bAlloc (Below.refl _ _) _))
    have K2c := hid (show Kd.str.slice.K (w2.alloc (.cells #[.int .i64 X.kind, .int .i64 X.job, .int .i64 X.task, .int .i64 X.worker, .int .i64 X.sched, .int .i64 X.epoch, .slice A2 n2 c2] 24)) Any X.needs [.slice A2 n2 c2] from Kd.any (Kd.below HK2.out (bAlloc (Below.refl _ _) _)))
    clear hk2 hcv hb2 K1a K1b
    go_wp2_with fail
    refine (rsame17_calls X X A1 A2 n1 c1 n2 c2 _ K1c.out K2c.out).mono ?_
    rintro e w3 ⟨rfl, hb3⟩
    rw [show decide (X = X) = true from decide_eq_true rfl]
    have HB4 := hid (bThen (bAlloc HB2.out _) hb3)
    clear hb3 x0 x1 x2 x3 x4 x5 x6
    have e0 : (E == E) = true := beq_self_eq_true _
    go_wp2_with fail
    refine (works17_calls _).mono ?_
    rintro e w4 ⟨rfl, hb4⟩
    go_wp2
    go_ret
    exact ⟨rfl, bThen HB4.out hb4⟩
end Go.Proofs.Ytahhhnbpohcbfaa
