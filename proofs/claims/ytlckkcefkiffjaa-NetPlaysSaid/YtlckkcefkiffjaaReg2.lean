/- A region that draws: an operation whose guard fails. No Go program in sight. -/
import Derived.Test.YtlckkcefkiffjaaReg
namespace Go.Proofs.Ytlckkcefkiffjaa

/-- Number i is not wanted (its guard fails). -/
theorem anyH_skip {P : Program} {md : Region.Mode} {l : List Oper} {Q : Exit → Act → World → Prop} {S : World → Prop} {oi : Oper} {fuel : Nat} {listed : Array Bool} {a : Act} {w : World} (i : Nat) (hi : l[i]? = some oi)
    (hs : Region.noSelect l.toArray = true) (hf : Region.free md l.toArray listed i = true) (hr : (Region.ready md l.toArray listed).contains i = true)
    (hQ : ∀ c a w, Q (.panic c) (a.put oi.dst undef) w → Q (.panic c) a w) (hw : Region.wanted oi (yielded l.toArray a.tmps) = false) (hS : S w)
    (h : wpAnyH P md l.toArray Q S fuel (listed.setIfInBounds i true) (a.put oi.dst undef) w) : wpAnyH P md l.toArray Q S (fuel + 1) listed a w :=
  wpAnyH_take (i := i) (oi := oi) (v := undef) (by simpa using hi) hs hf hr hQ (.inr ⟨hw, rfl⟩) hS h
end Go.Proofs.Ytlckkcefkiffjaa
