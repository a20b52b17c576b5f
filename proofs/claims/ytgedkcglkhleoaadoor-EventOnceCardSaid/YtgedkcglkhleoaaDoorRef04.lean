import Derived.Test.YtgedkcglkhleoaaDoorProg
import Derived.Test.YtgedkcglkhleoaaDoorSize04
namespace Go.Proofs.YtgedkcglkhleoaaDoor
open Go.RowKit

theorem two_ints {a b c d : Int} (h1 : a = c) (h2 : b = d) : Ending.returned (.tuple #[.int .i64 a, .int .i64 b]) = Ending.returned (.tuple #[.int .i64 c, .int .i64 d]) := by rw [h1, h2]

def Kd.rune : Kd RuneS := Kd.flat 3 (fun x => [.int .i64 x.At, .int .i64 x.C, .bool x.Whole]) (fun _ => rfl) (fun x u hu => by simp at hu; rcases hu with rfl | rfl | rfl <;> rfl)

/-- A rune of a row, its cells as the walk asks for them. -/
theorem Kd.Row.at_rune {w : World} {S : Nat → Prop} {A : Option Addr} {xs : List RuneS} (h : Kd.rune.Row w S A xs) (i : Nat) (hi : i < xs.length) :
    ∃ a x, A = some a ∧ xs[i]? = some x ∧ w.cell? (a.add (i * 3)) = some (.int .i64 x.At) ∧ w.cell? ⟨(a.add (i * 3)).block, (a.add (i * 3)).off + 1, none⟩ = some (.int .i64 x.C) ∧ w.cell? ⟨(a.add (i * 3)).block, (a.add (i * 3)).off + 2, none⟩ = some (.bool x.Whole) := by
  obtain ⟨a, cs, h1, _, _, h4, h5⟩ := h i xs[i] (List.getElem?_eq_getElem hi)
  cases h4
  refine ⟨a, xs[i], h1, List.getElem?_eq_getElem hi, h5 0 _ rfl, ?_, ?_⟩
  · have := h5 1 _ rfl
    rwa [show i * Kd.rune.sz + 1 = i * 3 + 1 from rfl, ← Kd.add_add, Kd.add_lit (a.add (i * 3)) 1 (by decide)] at this
  · have := h5 2 _ rfl
    rwa [show i * Kd.rune.sz + 2 = i * 3 + 2 from rfl, ← Kd.add_add, Kd.add_lit (a.add (i * 3)) 2 (by decide)] at this

end Go.Proofs.YtgedkcglkhleoaaDoor
