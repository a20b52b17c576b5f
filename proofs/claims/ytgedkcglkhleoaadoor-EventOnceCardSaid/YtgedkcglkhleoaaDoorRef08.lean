import Derived.Test.YtgedkcglkhleoaaDoorLex
import Derived.Test.YtgedkcglkhleoaaDoorBase
import Derived.Test.YtgedkcglkhleoaaDoorRef04
namespace Go.Proofs.YtgedkcglkhleoaaDoor
open Go.RowKit Go.Lib
theorem rune_at_off (s : ByteArray) (n : Nat) (y : RuneS) (hy : (runes s)[n]? = some y) : y.At = (offR s n : Int) ∧ 0 ≤ y.C ∧ y.C ≤ 1114111 := by
  have hn := (List.getElem?_eq_some_iff.1 hy).1
  obtain ⟨p, _, h1, h2, _⟩ := mid_at s n (by omega)
  have h := (h1 hn).2
  rw [hy] at h
  obtain rfl := Option.some.inj h
  rw [offR_at (by omega) h1 h2]
  have := dec_c s p
  exact ⟨rfl, by show (0 : Int) ≤ ((Utf8.decode s p).1 : Int); omega, by show ((Utf8.decode s p).1 : Int) ≤ _; omega⟩

end Go.Proofs.YtgedkcglkhleoaaDoor
