/- The acts of siskinlaw16, as they come in. -/
import Derived.Test.YtlckkcefkiffjaaProg
import Derived.Test.YtlckkcefkiffjaaOpenS
import Derived.Test.YtlckkcefkiffjaaDisk
import Derived.KernelRfl
namespace Go.Proofs.Ytlckkcefkiffjaa
open Go.RowKit

structure ActS where
  op : Int
  n : Int
  b : List UInt8
def Kd.act : Kd ActS := Kd.iso (Kd.pair (Kd.int .i64) (Kd.pair (Kd.int .i64) Kd.u8.slice)) (fun x => (x.op, x.n, x.b))

theorem opens_u8 {P : Program} {t : TypeId} (ht : P.underlying t = some (.int .u8)) : Opens P t Kd.u8 (fun _ => True) := by
  intro H enc w spare held fuel cs x h hz
  obtain ⟨n, rfl, hw⟩ := opens_int ht enc w spare held fuel cs x h hz
  simp [Lit.wf, IntKind.min, IntKind.max, IntKind.bits, IntKind.signed] at hw
  refine ⟨UInt8.ofNat n.toNat, ?_, trivial⟩
  show [Value.int .u8 n] = [Value.int .u8 ((UInt8.ofNat n.toNat).toNat : Int)]
  rw [UInt8.toNat_ofNat_of_lt' (by simp [UInt8.size]; omega), Int.toNat_of_nonneg (by omega)]
theorem Try.opensU8s : Opens Try.prog 42 Kd.u8.slice (fun l => (∀ y ∈ l, True) ∧ l.length * 1 ≤ 140737488351232) := opens_slice Try.underlying42 (by kernel_rfl) (by kernel_rfl) (by decide) (by decide) (opens_u8 Try.underlying5)
def okAct (y : ActS) : Prop := (Lit.int .i64 y.op).wf = true ∧ (Lit.int .i64 y.n).wf = true ∧ ((∀ z ∈ y.b, True) ∧ y.b.length * 1 ≤ 140737488351232)
theorem Try.opensAct : Opens Try.prog 44 Kd.act okAct :=
  opens_iso (fun x : ActS => (x.op, x.n, x.b)) (fun p => ⟨p.1, p.2.1, p.2.2⟩) (fun _ => rfl) (opens_struct (l := [(3, 0), (3, 1), (42, 2)]) (by kernel_rfl) (by simp) (by kernel_rfl)
    (opensF_cons (by kernel_rfl) (opens_int Try.underlying3) (by decide) (opensF_cons (by kernel_rfl) (opens_int Try.underlying3) (by decide) (opensF_one (by kernel_rfl) Try.opensU8s))))
theorem Try.opensActs : Opens Try.prog 39 Kd.act.slice (fun l => (∀ y ∈ l, okAct y) ∧ l.length * 40 ≤ 140737488351232) := opens_slice Try.underlying39 (by kernel_rfl) (by kernel_rfl) (by decide) (by decide) Try.opensAct

/-- The cells of an act in its row. -/
theorem at_act {w : World} {S : Nat → Prop} {A : Option Addr} {xs : List ActS} (h : Kd.act.Row w S A xs) (i : Nat) (hi : i < xs.length) :
    ∃ a x B c, A = some a ∧ xs[i]? = some x ∧ w.cell? (a.add (i * 3)) = some (.int .i64 x.op) ∧ w.cell? ⟨(a.add (i * 3)).block, (a.add (i * 3)).off + 1, none⟩ = some (.int .i64 x.n) ∧ w.cell? ⟨(a.add (i * 3)).block, (a.add (i * 3)).off + 2, none⟩ = some (.slice B x.b.length c) ∧ x.b.length ≤ c ∧ x.b.length ≤ 140737488355328 ∧ Kd.u8.Row w S B x.b := by
  obtain ⟨a, cs, rfl, _, _, h1, h2⟩ := h i xs[i] (List.getElem?_eq_getElem hi)
  obtain ⟨c0, c1, rfl, k0, c2, c3, rfl, k1, B, c, rfl, k2, k3, k4⟩ := h1
  cases k0
  cases k1
  exact ⟨a, _, B, c, rfl, List.getElem?_eq_getElem hi, h2 0 _ rfl, by rw [← Kd.add_lit _ 1 (by decide), Kd.add_add]; exact h2 1 _ rfl, by rw [← Kd.add_lit _ 2 (by decide), Kd.add_add]; exact h2 2 _ rfl, k2, k3, k4⟩

end Go.Proofs.Ytlckkcefkiffjaa
