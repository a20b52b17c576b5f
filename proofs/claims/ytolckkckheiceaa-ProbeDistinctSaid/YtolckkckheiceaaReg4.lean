/- A region that draws its order: two operations of which either may come up first. No Go program in sight. -/
import Derived.Test.YtolckkckheiceaaBoxW
namespace Go.Proofs.Ytolckkckheiceaa
open Go.RowKit

/-- Number i or number j may come up. -/
theorem anyH_two {P : Program} {md : Region.Mode} {l : List Oper} {Q : Exit → Act → World → Prop} {S : World → Prop} {oi oj : Oper} {fuel : Nat} {listed : Array Bool} {a : Act} {w : World} (i j : Nat) (hoi : l[i]? = some oi) (hoj : l[j]? = some oj)
    (hr : Region.ready md l.toArray listed = [i, j])
    (h : ∀ K' : Act → World → Prop, Shut (∀ a w, S w → (S w → wpAnyH P md l.toArray Q S fuel (listed.setIfInBounds i true) a w) → K' a w) → if Region.wanted oi (yielded l.toArray a.tmps) = true then Oper.wp P oi a w K' Q else K' (a.put oi.dst undef) w)
    (h2 : ∀ K' : Act → World → Prop, Shut (∀ a w, S w → (S w → wpAnyH P md l.toArray Q S fuel (listed.setIfInBounds j true) a w) → K' a w) → if Region.wanted oj (yielded l.toArray a.tmps) = true then Oper.wp P oj a w K' Q else K' (a.put oj.dst undef) w) :
    wpAnyH P md l.toArray Q S (fuel + 1) listed a w := wpAnyH_ready (rs := [i, j]) hr (by simp) (AllReadyH.cons (by simpa using hoi) h (AllReadyH.cons (by simpa using hoj) h2 AllReadyH.nil))
end Go.Proofs.Ytolckkckheiceaa
