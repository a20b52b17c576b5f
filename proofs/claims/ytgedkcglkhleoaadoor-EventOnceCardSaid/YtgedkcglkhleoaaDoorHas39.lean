/- siskinlaw39.has; events compared. -/
import Derived.Test.YtgedkcglkhleoaaDoorEvent7
import Derived.Test.YtgedkcglkhleoaaDoorBase
namespace Go.Proofs.YtgedkcglkhleoaaDoor
open Go.RowKit

def evEq (x y : EvS) : Bool := x.kind == y.kind && x.job == y.job && x.task == y.task && x.worker == y.worker
theorem evEq_iff (x y : EvS) : evEq x y = true ↔ x = y := by
  obtain ⟨a, b, c, d⟩ := x
  obtain ⟨a', b', c', d'⟩ := y
  simp [evEq, and_assoc]
theorem evEq_no {x y : EvS} (h : x ≠ y) : evEq x y = false := by
  cases he : evEq x y
  · rfl
  · exact absurd ((evEq_iff x y).1 he) h
theorem eqlE (x y : EvS) (w : World) : (binOp BinOp.eql 37 (.agg #[.int .i64 x.kind, .int .i64 x.job, .int .i64 x.task, .int .i64 x.worker]) (.agg #[.int .i64 y.kind, .int .i64 y.job, .int .i64 y.task, .int .i64 y.worker])).run Tryd.prog w = .ok (.bool (evEq x y)) w := by
  go_simp
  unfold evEq
  by_cases e1 : x.kind = y.kind
  · by_cases e2 : x.job = y.job
    · by_cases e3 : x.task = y.task
      · by_cases e4 : x.worker = y.worker
        · simp [e1, e2, e3, e4]
        · simp [e1, e2, e3, e4]
      · simp [e1, e2, e3]
    · simp [e1, e2]
  · simp [e1]
set_option maxHeartbeats 2000000 in
set_option maxRecDepth 100000 in
theorem has39_calls (D : List EvS) (v : Value) (x : EvS) (b : Bool) (w : World) (hl : Kd.event.slice.K w Any D [v]) (hb : b = true ↔ x ∈ D) :
    Calls Tryd.prog 8 #[v, .agg #[.int .i64 x.kind, .int .i64 x.job, .int .i64 x.task, .int .i64 x.worker]] w fun e w' => e = .returned (.bool b) ∧ Below w.heap.size w w' := by
  obtain ⟨V, hV⟩ : ∃ V, V = w.alloc (.cells #[.int .i64 x.kind, .int .i64 x.job, .int .i64 x.task, .int .i64 x.worker] 37) := ⟨_, rfl⟩
  have hb0 : Below w.heap.size w V := by rw [hV]; exact bAlloc (Below.refl _ _) _
  have HBV := hid hb0
  have HZ := hid (show V.heap[w.heap.size]? = some (.cells #[.int .i64 x.kind, .int .i64 x.job, .int .i64 x.task, .int .i64 x.worker] 37 (0, 0)) by rw [hV]; exact heap_at rfl)
  have HS := hid (fun (u : World) (h : Below V.heap.size V u) => (show u.cell? ⟨w.heap.size, 0, none⟩ = some (.int .i64 x.kind) ∧ u.cell? ⟨w.heap.size, 1, none⟩ = some (.int .i64 x.job) ∧ u.cell? ⟨w.heap.size, 2, none⟩ = some (.int .i64 x.task) ∧ u.cell? ⟨w.heap.size, 3, none⟩ = some (.int .i64 x.worker) from by
    obtain ⟨y0, _, _⟩ := cells_of_block ((h.block (w.heap.size) (Array.getElem?_eq_some_iff.1 HZ.out).1).trans HZ.out)
    exact ⟨y0 0 _ rfl, y0 1 _ rfl, y0 2 _ rfl, y0 3 _ rfl⟩))
  have HL := hid (Kd.below hl hb0)
  have HBB := hid hb
  have hEq := hV.symm
  obtain ⟨A, c, he, hc, hm, _⟩ := hl
  injection he with he _
  subst he
  obtain ⟨q, hq⟩ : ∃ q, q = D.length := ⟨_, rfl⟩
  have HQ := hid hq
  rw [← hq] at hc hm HL ⊢
  clear hV hb0 hb hq
  go_enter Tryd.func8, Tryd.ntmps8
  go_wp2
  go_loopw [5] (fun i wr => ∃ k : Nat, k ≤ q ∧ i = .int .i64 k ∧ Hid (∀ (j : Nat) y, j < k → D[j]? = some y → y ≠ x) ∧ Hid (Below V.heap.size V wr)) (fun i _ => q - (intOf i).toNat)
  case atStart => exact ⟨0, by omega, rfl, hid (fun j y h => by omega), hid (Below.refl _ _)⟩
  case round =>
    obtain ⟨k, hk, rfl, HN, HB⟩ := hrel
    by_cases hlt : k < q
    · obtain ⟨a, y, rfl, hx, r0, r1, r2, r3⟩ := (K_row (Kd.below HL.out HB.out)).1.at_event k (by rw [← HQ.out]; exact hlt)
      have HX := hid hx
      have hltI : (k : Int) < (q : Int) := by omega
      have hk0 : (0 : Int) ≤ (k : Int) := by omega
      obtain ⟨x0, x1, x2, x3⟩ := HS.out wr HB.out
      have HBn := hid (fun nq => below_drewN HB.out nq)
      have hw : IntKind.i64.wrap ((k : Int) + 1) = (k : Int) + 1 := IntWalk.i64_in _ (by omega)
      have heq := eqlE y x
      clear hx
      by_cases hyx : y = x
      · have hev : evEq y x = true := (evEq_iff y x).2 hyx
        have hbt : b = true := HBB.out.2 (by rw [← hyx]; exact List.mem_of_getElem? HX.out)
        rw [hev] at heq
        subst hbt
        clear hyx hev
        go_wp2_with fail
        go_quiet (fail)
        go_wp2
        go_ret
        exact ⟨rfl, bThen HBV.out (HBn.out _)⟩
      · rw [evEq_no hyx] at heq
        have HN2 := hid (show ∀ (i : Nat) z, i < k + 1 → D[i]? = some z → z ≠ x from fun i z hj hz => by
          rcases Nat.lt_or_ge i k with h | h
          · exact HN.out i z h hz
          · rw [show i = k by omega, HX.out] at hz
            rw [← Option.some.inj hz]; exact hyx)
        clear hyx
        go_wp2_with fail
        go_quiet (fail)
        go_wp2
        go_roundw
        case rel => exact ⟨k + 1, by omega, by go_num, HN2, hid (HBn.out _)⟩
        case measure => simp [intOf]; omega
    · obtain rfl : k = q := by omega
      have hbf : b = false := by
        cases b with
        | false => rfl
        | true =>
          obtain ⟨j, hj⟩ := List.getElem?_of_mem (HBB.out.1 rfl)
          exact absurd rfl (HN.out j x (by rw [HQ.out]; exact (List.getElem?_eq_some_iff.1 hj).1) hj)
      subst hbf
      go_wp2
      go_ret
      exact ⟨rfl, bThen HBV.out HB.out⟩
end Go.Proofs.YtgedkcglkhleoaaDoor
