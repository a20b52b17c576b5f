/- Lists of nodes that come in. -/
import Derived.Test.YtolckkckheiceaaNeed0
import Derived.Test.YtolckkckheiceaaOpenS
import Derived.KernelRfl
namespace Go.Proofs.Ytolckkckheiceaa
open Go.RowKit

theorem opens_map {P : Program} {t : TypeId} {α β : Type} {d : Kd α} {d' : Kd β} {ok : α → Prop} {ok' : β → Prop} (f : α → β) (h : Opens P t d ok) (hk : ∀ (w : World) (S : Nat → Prop) (x : α) (cs : List Value), d.K w S x cs → d'.K w S (f x) cs) (ho : ∀ x, ok x → ok' (f x)) : Opens P t d' ok' := by
  intro H enc w spare held fuel cs x hx hw
  obtain ⟨y, h1, h2⟩ := h enc w spare held fuel cs x hx hw
  exact ⟨f y, hk _ _ _ _ h1, ho _ h2⟩
theorem Try.opensNode : Opens Try.prog 122 Kd.node (fun _ => True) :=
  opens_map (fun p : Int × Int => (⟨p.1, p.2⟩ : NodeS))
    (opens_struct (l := [(3, 0), (3, 1)]) (by kernel_rfl) (by simp) (by kernel_rfl) (opensF_cons (by kernel_rfl) (opens_int Try.underlying3) (by decide) (opensF_one (by kernel_rfl) (opens_int Try.underlying3))))
    (fun w S x cs h => by
      obtain ⟨c0, c1, rfl, h0, h1⟩ := h
      cases h0; cases h1; rfl)
    (fun _ _ => trivial)
theorem Try.opensNodes : Opens Try.prog 57 Kd.node.slice (fun l => (∀ y ∈ l, True) ∧ l.length * 16 ≤ 140737488351232) := opens_slice Try.underlying57 (by kernel_rfl) (by kernel_rfl) (by decide) (by decide) Try.opensNode
end Go.Proofs.Ytolckkckheiceaa
