import Derived.Test.YtolckkckheiceaaProg
import Derived.Test.YtolckkckheiceaaNamesF
import Derived.Test.YtolckkckheiceaaNamesP
import Derived.Handy
namespace Go.Proofs.Ytolckkckheiceaa
open Go.RowKit

/-! ### names.Set -/
/-- the set of the names from some place on, as the table tells; the first place of a name that it lacks -/
def setN (l : List ByteArray) : List ByteArray → Nat → Nat → (Nat × Int × Int)
  | [], _, s => (s, -1, 0)
  | x :: xs, i, s => match placeN (l.take 64) x with | some k => setN l xs (i + 1) (s ||| 1 <<< k) | none => (0, i, 5)

theorem placeN_lt {l : List ByteArray} {s : ByteArray} {k : Nat} (h : placeN l s = some k) : k < l.length := by
  unfold placeN at h
  rw [List.findIdx?_eq_some_iff_getElem] at h
  exact h.1

/-! ### names.Tell -/
def tellFrom (set : Nat) : List ByteArray → Nat → List ByteArray
  | [], _ => []
  | x :: xs, i => if set.testBit i then x :: tellFrom set xs (i + 1) else tellFrom set xs (i + 1)
theorem tellFrom_snoc (set : Nat) (l : List ByteArray) (x : ByteArray) (i : Nat) : tellFrom set (l ++ [x]) i = tellFrom set l i ++ (if set.testBit (i + l.length) then [x] else []) := by
  induction l generalizing i with
  | nil => simp [tellFrom]
  | cons y l ih =>
    simp only [List.cons_append, tellFrom, ih, List.length_cons]
    rw [show i + 1 + l.length = i + (l.length + 1) by omega]
    split <;> simp
theorem tellFrom_len (set : Nat) (l : List ByteArray) (i : Nat) : (tellFrom set l i).length ≤ l.length := by
  induction l generalizing i with
  | nil => simp [tellFrom]
  | cons y l ih =>
    have := ih (i + 1)
    simp only [tellFrom]
    split <;> simp <;> omega
theorem tellFrom_take (set : Nat) (hs : set < 2 ^ 64) (l : List ByteArray) (i n : Nat) (h : 64 ≤ i + n) : tellFrom set (l.take n) i = tellFrom set l i := by
  induction l generalizing i n with
  | nil => simp
  | cons y l ih =>
    cases n with
    | zero =>
      have hz : ∀ (l : List ByteArray) i, 64 ≤ i → tellFrom set l i = [] := by
        intro l
        induction l with
        | nil => intro i _; rfl
        | cons y l ih2 =>
          intro i hi
          have : set.testBit i = false := Nat.testBit_lt_two_pow (Nat.lt_of_lt_of_le hs (Nat.pow_le_pow_right (by decide) hi))
          simp [tellFrom, this, ih2 (i + 1) (by omega)]
      rw [List.take_zero, hz _ _ (by omega), hz _ _ (by omega)]
    | succ n => simp only [List.take_succ_cons, tellFrom, ih (i + 1) n (by omega)]

theorem Try.infoStr : (Try.prog.info? 9).map (fun i => (i.zero, i.size, i.bytes)) = some (some (.string ⟨#[]⟩), 1, 16) := by kernel_rfl

end Go.Proofs.Ytolckkckheiceaa
