import Derived.Test.YtahhhnbpohcbfaaRd7
import Derived.Test.YtahhhnbpohcbfaaFrame
namespace Go.Proofs.Ytahhhnbpohcbfaa
open Go.RowKit

set_option maxHeartbeats 1600000 in
set_option maxRecDepth 100000 in
theorem rdNew_calls (b : List UInt8) (v : Value) (w : World) (hb : Kd.u8.slice.K w Any b [v]) (hl : b.length ≤ 1000000) :
    Calls Try.prog 65 #[v] w fun e w' => ∃ g, e = .returned (.pointer (some ⟨g, 0, none⟩)) ∧ RdAt w' (fun k => w.heap.size ≤ k) g ⟨b, 0⟩ ∧ Below w.heap.size w w' := by
  obtain ⟨B, d, he, hd1, hd2, hr⟩ := hb
  cases he
  have HR := hid hr
  obtain ⟨q, hq⟩ : ∃ q, b.length = q := ⟨_, rfl⟩
  have HQ := hid hq
  rw [hq] at hd1 hd2 hl ⊢
  clear hr hq
  go_enter Try.func65, Try.ntmps65
  go_wp2_with (at_builtin; go_must (refine appends_arm Kd.u8 (w0 := w) w.heap.size rfl _ _ 27 5 _ 1 rfl Try.underlying27 Try.infoU8 rfl (by decide) (by decide) (.slice none 0 0) [] b B q d NoT Any NoT rfl rfl HQ.out HR.out (fun _ _ h => h) (fun _ h => h.elim) (nil_own w) (Below.refl _ _) (Nat.le_refl _) (by simp; omega) ?_))
  intro v2 w2 hO2 hb2 _ _
  obtain ⟨A2, n2, c2, rfl, hn2, hc2⟩ := hO2.shape'
  have HO2 := hid hO2
  have HN2 := hid hn2
  have hs2 := hb2.size
  clear hO2 hn2
  go_wp2
  go_ret
  refine ⟨_, rfl, ?_, bAlloc hb2 _⟩
  have hO2 : Own Kd.u8 5 w2 w.heap.size NoT (.slice A2 n2 c2) b := by simpa using HO2.out
  have hn : n2 = b.length := by simpa using HN2.out
  subst hn
  have hrow : Kd.u8.Row w2 (fun k => NoT k ∨ w.heap.size ≤ k) A2 b := by
    obtain ⟨A', n', h1, _, _, h2⟩ := hO2.K
    cases h1
    exact h2
  refine ⟨hs2, A2, c2, heap_alloc_new w2 _, hc2, by rw [HQ.out]; exact hl, ?_⟩
  exact Kd.Row.move (fun b hb hl => Below.heap_alloc w2 _ b hl) (Kd.Row.mono (fun b hb hl => ⟨hb.elim (fun h => h.elim) id, by omega⟩) hrow)
end Go.Proofs.Ytahhhnbpohcbfaa
