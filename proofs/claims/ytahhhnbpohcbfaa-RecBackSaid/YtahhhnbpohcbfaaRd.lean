import Derived.Test.YtahhhnbpohcbfaaRd0
import Derived.Test.YtahhhnbpohcbfaaU8
import Derived.Test.YtahhhnbpohcbfaaOctet
import Derived.Test.YtahhhnbpohcbfaaCrc
import Derived.Handy
namespace Go.Proofs.Ytahhhnbpohcbfaa
open Go.RowKit

/-- A reader in block g; its bytes lie elsewhere in T. -/
def RdAt (w : World) (T : Nat → Prop) (g : Nat) (R : RdS) : Prop :=
  T g ∧ ∃ A c, w.heap[g]? = some (.cells #[.slice A R.b.length c, .int .i64 R.e, .bool true] 115 (0, 0)) ∧ R.b.length ≤ c ∧ R.b.length ≤ 1000000 ∧ Kd.u8.Row w (fun k => T k ∧ k ≠ g) A R.b
section
variable {w w1 : World} {T T' : Nat → Prop} {g : Nat} {R : RdS}
theorem RdAt.mono (h : RdAt w T g R) (hT : ∀ k, k < w.heap.size → T k → T' k) : RdAt w T' g R := by
  obtain ⟨h1, A, c, h2, h3, h4, h5⟩ := h
  exact ⟨hT g (Array.getElem?_eq_some_iff.1 h2).1 h1, A, c, h2, h3, h4, Kd.Row.mono (fun b hb hl => ⟨hT b hl hb.1, hb.2⟩) h5⟩
theorem RdAt.move (h : RdAt w T g R) (hm : ∀ k, k < w.heap.size → T k → w1.heap[k]? = w.heap[k]?) : RdAt w1 T g R := by
  obtain ⟨h1, A, c, h2, h3, h4, h5⟩ := h
  exact ⟨h1, A, c, (hm g (Array.getElem?_eq_some_iff.1 h2).1 h1).trans h2, h3, h4, Kd.Row.move (fun b hb hl => hm b hl hb.1) h5⟩
theorem RdAt.below (h : RdAt w T g R) (hb : Below w.heap.size w w1) : RdAt w1 T g R := h.move (fun k hk _ => hb.block k hk)
theorem RdAt.cells (h : RdAt w T g R) : T g ∧ g < w.heap.size ∧ ∃ A c, R.b.length ≤ c ∧ R.b.length ≤ 1000000 ∧ w.cell? ⟨g, 0, none⟩ = some (.slice A R.b.length c) ∧ w.cell? ⟨g, 1, none⟩ = some (.int .i64 R.e) ∧
    w.frozen? ⟨g, 0, none⟩ = false ∧ w.frozen? ⟨g, 1, none⟩ = false ∧ Hid (w.heap[g]? = some (.cells #[.slice A R.b.length c, .int .i64 R.e, .bool true] 115 (0, 0))) ∧ Hid (Kd.u8.Row w (fun k => T k ∧ k ≠ g) A R.b) := by
  obtain ⟨h1, A, c, h2, h3, h4, h5⟩ := h
  obtain ⟨q1, q2, q3⟩ := cells_of_block h2
  exact ⟨h1, q3, A, c, h3, h4, q1 0 _ rfl, q1 1 _ rfl, q2 0, q2 1, h2, h5⟩
theorem RdAt.setE (h : RdAt w T g R) (e : Int) : RdAt (w.setCell ⟨g, 1, none⟩ (.int .i64 e)) T g ⟨R.b, e⟩ := by
  obtain ⟨h1, A, c, h2, h3, h4, h5⟩ := h
  exact ⟨h1, A, c, heap_set h2 1 _, h3, h4, Kd.Row.move (fun b hb _ => Below.heap_setCell w ⟨g, 1, none⟩ _ b hb.2) h5⟩
theorem RdAt.setB (h : RdAt w T g R) {b' : List UInt8} {A' : Option Addr} {n' c' : Nat} (hn : n' = b'.length) (hc : b'.length ≤ c') (hm : b'.length ≤ 1000000) (hr : Kd.u8.Row w (fun k => T k ∧ k ≠ g) A' b') : RdAt (w.setCell ⟨g, 0, none⟩ (.slice A' n' c')) T g ⟨b', R.e⟩ := by
  obtain ⟨h1, A, c, h2, h3, h4, h5⟩ := h
  subst hn
  exact ⟨h1, A', c', heap_set h2 0 _, hc, hm, Kd.Row.move (fun b hb _ => Below.heap_setCell w ⟨g, 0, none⟩ _ b hb.2) hr⟩
end
theorem Mod.one {w : World} {p : Addr} (u : Value) : Mod (fun k => k = p.block) w (w.setCell p u) := Mod.setCell (Mod.refl (fun k => k = p.block) w) (fun _ => rfl) u

set_option maxHeartbeats 800000 in
set_option maxRecDepth 100000 in
theorem rdFail_calls (T : Nat → Prop) (g : Nat) (R : RdS) (e : Int) (w : World) (hd : RdAt w T g R) : Calls Try.prog 87 #[.pointer (some ⟨g, 0, none⟩), .int .i64 e] w fun en w' => en = .returned (.tuple #[]) ∧ RdAt w' T g (R.fail e) ∧ Mod (fun k => k = g) w w' := by
  have HD := hid hd
  obtain ⟨hT, hg, A, c, hc, hm, c0, c1, f0, f1, hh, hr⟩ := hd.cells
  clear hd
  by_cases h0 : R.e = 0
  · have e0 : (R.e == (0 : Int)) = true := by rw [beq_iff_eq]; exact h0
    have HV := hid (show R.fail e = ⟨R.b, e⟩ by unfold RdS.fail; rw [if_pos h0])
    clear h0
    go_enter Try.func87, Try.ntmps87
    go_wp2
    go_end0
    exact ⟨rfl, by rw [HV.out]; exact HD.out.setE e, Mod.one (p := ⟨g, 1, none⟩) _⟩
  · have e0 : (R.e == (0 : Int)) = false := by rw [beq_eq_false_iff_ne]; exact h0
    have HV := hid (show R.fail e = R by unfold RdS.fail; rw [if_neg h0])
    clear h0
    go_enter Try.func87, Try.ntmps87
    go_wp2
    go_end0
    exact ⟨rfl, by rw [HV.out]; exact HD.out, Mod.refl _ _⟩

set_option maxHeartbeats 800000 in
set_option maxRecDepth 100000 in
theorem rdMost_ok (T : Nat → Prop) (g : Nat) (R : RdS) (n most : Int) (w : World) (hd : RdAt w T g R) (h : n ≤ max most 0) : Calls Try.prog 95 #[.pointer (some ⟨g, 0, none⟩), .int .i64 n, .int .i64 most] w fun en w' => en = .returned (.int .i64 n) ∧ w = w' := by
  clear hd
  have h1 : ¬ max most 0 < n := by omega
  go_enter Try.func95, Try.ntmps95
  go_wp2
  go_ret
  exact ⟨rfl, rfl⟩
set_option maxHeartbeats 800000 in
set_option maxRecDepth 100000 in
theorem rdMost_no (T : Nat → Prop) (g : Nat) (R : RdS) (n most : Int) (w : World) (hd : RdAt w T g R) (h : max most 0 < n) : Calls Try.prog 95 #[.pointer (some ⟨g, 0, none⟩), .int .i64 n, .int .i64 most] w fun en w' => en = .returned (.int .i64 0) ∧ RdAt w' T g (R.fail 4) ∧ Mod (fun k => k = g) w w' := by
  have HD := hid hd
  clear hd
  go_enter Try.func95, Try.ntmps95
  go_wp2_with fail
  refine (rdFail_calls T g R 4 _ HD.out).mono ?_
  rintro e w1 ⟨rfl, h1, h2⟩
  have H1 := hid h1
  have H2 := hid h2
  clear h1 h2
  go_wp2
  go_ret
  exact ⟨rfl, H1.out, H2.out⟩
end Go.Proofs.Ytahhhnbpohcbfaa
