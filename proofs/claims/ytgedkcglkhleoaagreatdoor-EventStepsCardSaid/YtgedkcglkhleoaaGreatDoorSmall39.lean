/- Jobs and a cluster that are looked at: they are not too long. -/
import Derived.Test.YtgedkcglkhleoaaGreatDoorRef39
import Derived.Test.YtgedkcglkhleoaaGreatDoorLong14
import Derived.Test.YtgedkcglkhleoaaGreatDoorLong39
import Derived.Test.YtgedkcglkhleoaaGreatDoorBase
namespace Go.Proofs.YtgedkcglkhleoaaGreatDoor
open Go.RowKit

theorem jsOk_small {js : List JobS} (h : longJs js = false) : JsOk js ∧ Short24 js := by
  unfold longJs at h
  rw [Bool.or_eq_false_iff] at h
  have h1 := List.any_eq_false.1 h.1
  have key : ∀ J ∈ js, (∀ s ∈ J.needs, (s.size : Int) ≤ 300) ∧ (J.needs.length : Int) ≤ 20 := fun J hJ => long_no (by
    have := h1 J hJ
    unfold longJ at this
    simpa using this)
  refine ⟨fun J hJ => ⟨fun s hs => ?_, ?_⟩, fun J hJ s hs => ?_⟩
  · have := (key J hJ).1 s hs; omega
  · have := (key J hJ).2; omega
  · have := (key J hJ).1 s hs; omega
theorem workers_small {C : ConfS} (h : longC C = false) : C.workers.length ≤ 80 := by
  unfold longC at h
  rw [Bool.or_eq_false_iff] at h
  have := of_decide_eq_false h.2
  omega
end Go.Proofs.YtgedkcglkhleoaaGreatDoor
