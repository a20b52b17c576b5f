/- The row of the law LedgerPlays: whatever its arguments, the Go function returns true and leaves what was there as it was. No condition beyond the row's own (each string, slice and map within the form's reach). -/
import Derived.Test.YtkjncmmombkllaaGreatRows
import Derived.Test.YtkjncmmombkllaaGreatBase
import Derived.Test.YtkjncmmombkllaaGreatPlays3
import Derived.Test.YtkjncmmombkllaaGreatOpens2
import Derived.Test.YtkjncmmombkllaaGreatOpensB
import Derived.ProofKit
import Derived.OpenShut
import Derived.ShutString
import Derived.ChangeOld
import Derived.SizedLaws
import Derived.WideKeyArr2
namespace Go.Proofs.YtkjncmmombkllaaGreat
open Go.RowKit
theorem ledgerPlays_walk2 (W : World) (y0 : Int × Int) (cs : Array Value) (K0 : (Kd.pair I64 I64).K W Any y0 cs.toList) (w0 : (Lit.int .i64 y0.1).wf = true ∧ (Lit.int .i64 y0.2).wf = true) (was : List UInt8) (v1 : Value) (K1 : Kd.u8.slice.K W Any was [v1]) (w1 : (∀ y ∈ was, True) ∧ was.length * 1 ≤ 140737488351232)
    (acts : List Act21) (v2 : Value) (K2 : Kd.act21.slice.K W Any acts [v2]) (w2 : (∀ y ∈ acts, okAct21 y) ∧ acts.length * 88 ≤ 140737488351232) :
    Calls Tryz.prog 3 #[.agg cs, v1, v2] W fun e w' => e = .returned (.bool true) ∧ Below W.heap.size W w' :=
  ledgerPlays_walk W y0 _ cs rfl K0 w0 was v1 K1 w1 acts v2 K2 w2
end Go.Proofs.YtkjncmmombkllaaGreat
namespace Go.Proofs.YtkjncmmombkllaaGreat.ledgerPlays
open Go.ChangeShapes Go.WideShapes Go.ChangeAt Go.RowKit
open Go.ChangeMaps (open_string shut_string)
set_option linter.unusedVariables false
theorem own : ownKnob Tryz.prog.godebug = none := by kernel_rfl
theorem laidOut : laidOutB Tryz.prog = true := by kernel_rfl
set_option maxRecDepth 100000 in
theorem lifted (os : Os) (started : os.Started) (H : Type) (enc : TypeId × Value → H) :
    ReturnsInHanded {} Tryz.checked os 3 .any (Rows.ledgerPlaysSpec.pre6 enc Tryz.prog Tryz.f3 Rows.ledgerPlaysRow.domain false) (Rows.ledgerPlaysSpec.post enc Tryz.prog Tryz.f3 false true false false) := by
  refine returnsInHanded_of_change_sized (C := Tryz.checked) own started (by kernel_rfl) Tryz.func3
    (ChangeSpec.witness6 (enc := enc) (C := Tryz.checked) false ⟨#[], #[.agg #[.int .i64 0, .int .i64 0], .slice none 0 0, .slice none 0 0], []⟩ 8 (by kernel_rfl) (by kernel_rfl) (by kernel_rfl) (by kernel_rfl)) ?_
  intro W base args ds gs before hval0 hW hcnd hsz0 _
  have hsz : (DataW.weightsEach Tryz.prog (Tryz.f3.params.toList ++ Rows.ledgerPlaysSpec.plain.varTypes Tryz.prog) (ds ++ gs)).all (· ≤ reachBytes) = true := hsz0
  have hval : ∀ (j : Nat) t v, Tryz.f3.params[j]? = some t → args[j]? = some v → Value.okWide Tryz.prog W .any base t v := hval0
  have hW' := hW
  obtain ⟨p, q, hA0, hV, rfl, hfz, hnd⟩ := hW
  have hA : DataW.TrodAll enc Tryz.prog W 0 (fun _ => true) true Tryz.f3.params.toList args.toList ds p := hA0
  rw [Tryz.params3] at hA hval hsz
  obtain ⟨v0, vs0, d0, ds0, p0, q0, hargs, rfl, rfl, h0, r0⟩ := trodAll_cons hA
  obtain ⟨v1, vs1, d1, ds1, p1, q1, rfl, rfl, rfl, h1, r1⟩ := trodAll_cons r0
  obtain ⟨v2, vs2, d2, ds2, p2, q2, rfl, rfl, rfl, h2, r2⟩ := trodAll_cons r1
  obtain ⟨rfl, rfl, rfl⟩ := trodAll_nil r2
  obtain rfl : args = #[v0, v1, v2] := by cases args; simp_all
  obtain ⟨rfl, rfl⟩ := trodVars_none hV
  have k0 := h0
  have lt0 : ∀ x ∈ p0, x.block < W.heap.size := by obtain ⟨m, hm⟩ := k0; exact DataW.trod_lt m _ _ _ hm
  obtain ⟨cs0, rfl, sz0⟩ := Go.WideMaps.okWide_arr (n := 2) ⟨Tryz.underlying22, by kernel_rfl, by kernel_rfl, by kernel_rfl⟩ (hval 0 22 v0 rfl rfl)
  obtain ⟨y0, K0, w0⟩ := opened ((opens_two Tryz.underlying22 (by kernel_rfl) Tryz.underlying3 (by kernel_rfl))) h0 hsz (j := 0) rfl rfl
  replace K0 : ((Kd.pair I64 I64)).K W Any y0 cs0.toList := K0
  have k1 := h1
  have lt1 : ∀ x ∈ p1, x.block < W.heap.size := by obtain ⟨m, hm⟩ := k1; exact DataW.trod_lt m _ _ _ hm
  obtain ⟨x1, len1, cap1, rfl⟩ := okWide_slice Tryz.underlying23 (hval 1 23 v1 rfl rfl)
  obtain ⟨y1, K1, w1⟩ := opened (Tryz.opensB8) h1 hsz (j := 1) rfl rfl
  replace K1 : (Kd.u8.slice).K W Any y1 [.slice x1 len1 cap1] := K1
  have k2 := h2
  have lt2 : ∀ x ∈ p2, x.block < W.heap.size := by obtain ⟨m, hm⟩ := k2; exact DataW.trod_lt m _ _ _ hm
  obtain ⟨x2, len2, cap2, rfl⟩ := okWide_slice Tryz.underlying24 (hval 2 24 v2 rfl rfl)
  obtain ⟨y2, K2, w2⟩ := opened (Tryz.opensActs21) h2 hsz (j := 2) rfl rfl
  replace K2 : (Kd.act21.slice).K W Any y2 [.slice x2 len2 cap2] := K2
  clear hA0 hval0 hsz0 hsz
  refine (ledgerPlays_walk2 W y0 cs0 K0 w0 y1 _ K1 w1 y2 _ K2 w2).mono fun e W' ⟨he, bel⟩ => ?_
  subst he
  exact ⟨_, rfl, _, _, _, [], _, [], hW', trodAll_mk1 (shut_bool Tryz.underlying4 _), (trodAll_cons_mk (Below.trod laidOut (by kernel_rfl) (of_decide_eq_true (by kernel_rfl)) k0 bel lt0) (trodAll_cons_mk (Below.trod laidOut (by kernel_rfl) (of_decide_eq_true (by kernel_rfl)) k1 bel lt1) (trodAll_cons_mk (Below.trod laidOut (by kernel_rfl) (of_decide_eq_true (by kernel_rfl)) k2 bel lt2) trodAll_mk0))), rfl, bel.frame _, fun h => by cases h⟩
theorem over : Rows.ledgerPlaysRow.holds Tryz.pinned (OpenSpec.ofChange Rows.ledgerPlaysSpec) :=
  OpenClaim.holds_of_wide 3 Tryz.f3 rfl rfl rfl rfl rfl rfl rfl ⟨rfl, rfl, rfl, rfl, rfl⟩ rfl rfl rfl rfl rfl (by kernel_rfl) Tryz.func3 (by kernel_rfl)
    (of_decide_eq_true (by kernel_rfl)) (by unfold Func.isWrapper; first | (rw [if_pos (by decide +kernel)]; kernel_rfl) | (rw [if_neg (by decide +kernel)]; exact ⟨rfl, rfl⟩))
    (fun os started H enc _ => lifted os started H enc)
theorem proved : Rows.LedgerPlaysSaid := over
#print axioms proved
end Go.Proofs.YtkjncmmombkllaaGreat.ledgerPlays
namespace Go.Proofs.YtkjncmmombkllaaGreat
/-- The row, under a short name, for the claim. -/
theorem ledgerPlays_holds : Rows.LedgerPlaysSaid := ledgerPlays.proved
end Go.Proofs.YtkjncmmombkllaaGreat
