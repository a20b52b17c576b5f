/- Bytes that come in. -/
import Derived.Test.YtkjncmmombkllaaGreatBase
import Derived.KernelRfl
namespace Go.Proofs.YtkjncmmombkllaaGreat
open Go.RowKit

theorem opens_b8 {P : Program} {t : TypeId} (ht : P.underlying t = some (.int .u8)) : Opens P t Kd.u8 (fun _ => True) := by
  intro H enc w spare held fuel cs x h hz
  obtain ⟨n, rfl, hw⟩ := opens_int ht enc w spare held fuel cs x h hz
  simp [Lit.wf, IntKind.min, IntKind.max, IntKind.bits, IntKind.signed] at hw
  refine ⟨UInt8.ofNat n.toNat, ?_, trivial⟩
  show [Value.int .u8 n] = [Value.int .u8 ((UInt8.ofNat n.toNat).toNat : Int)]
  rw [UInt8.toNat_ofNat_of_lt' (by simp [UInt8.size]; omega), Int.toNat_of_nonneg (by omega)]
theorem Tryz.opensB8 : Opens Tryz.prog 23 Kd.u8.slice (fun l => (∀ y ∈ l, True) ∧ l.length * 1 ≤ 140737488351232) := opens_slice Tryz.underlying23 (by kernel_rfl) (by kernel_rfl) (by decide) (by decide) (opens_b8 Tryz.underlying5)
end Go.Proofs.YtkjncmmombkllaaGreat
