import Derived.Test.YtgedkcglkhleoaaDoorReadP
import Derived.Outline
import Derived.Test.YtgedkcglkhleoaaDoorBase
import Derived.Test.YtgedkcglkhleoaaDoorRef08
import Derived.Test.YtgedkcglkhleoaaDoorRef09
/- siskinref10.Reader: its state; Peek, Here, Fail, All, Any. -/
namespace Go.Proofs.YtgedkcglkhleoaaDoor
open Go.RowKit
section
variable {tab : List ByteArray} {tv : Value} {en : Int} {g B : Nat} {w w1 : World} {ws : List WordS} {out : List NodeS} {at_ er : Int}
end
def hereI (en : Int) : List WordS → Int
  | [] => en
  | x :: _ => x.at_
end Go.Proofs.YtgedkcglkhleoaaDoor
/- siskinref10.Reader: All, Any, One. -/
namespace Go.Proofs.YtgedkcglkhleoaaDoor
open Go.RowKit
theorem text_ne' {t s : ByteArray} (h : t ≠ s) (l : List UInt8) (hl : s.toList = l) : (t.toList == l) = false := by
  rw [← hl, streq, decide_eq_false h]
end Go.Proofs.YtgedkcglkhleoaaDoor
/- siskinref10.Reader.One. -/
namespace Go.Proofs.YtgedkcglkhleoaaDoor
open Go.RowKit
end Go.Proofs.YtgedkcglkhleoaaDoor
/- siskinref10.Reader.One: the rest of its cases; One, Any. -/
namespace Go.Proofs.YtgedkcglkhleoaaDoor
open Go.RowKit
end Go.Proofs.YtgedkcglkhleoaaDoor
/- siskinref10.Reader.One of a name; One, Any. -/
namespace Go.Proofs.YtgedkcglkhleoaaDoor
open Go.RowKit
end Go.Proofs.YtgedkcglkhleoaaDoor
/- siskinref10.Need. -/
namespace Go.Proofs.YtgedkcglkhleoaaDoor
open Go.RowKit
theorem growL_ne {out : List WordS} {t : ByteArray} (h : ∀ x ∈ out, 0 < x.text.size) : ∀ x ∈ growL out t, 0 < x.text.size := by
  intro x hx
  unfold growL at hx
  split at hx
  · rename_i y hy
    rcases List.mem_or_eq_of_mem_set hx with hx | hx
    · exact h x hx
    · rw [hx]
      have := h y (List.mem_of_getLast? hy)
      simp only [ByteArray.size_append]; omega
  · exact h x hx
theorem lexGo_ne : ∀ (rs : List RuneS) (st : LexS), (∀ x ∈ st.out, 0 < x.text.size) → ∀ x ∈ (lexGo rs st).1, 0 < x.text.size
  | [], st, h => h
  | r :: rs, st, h => by
    unfold lexGo
    split
    · rename_i st' hs
      refine lexGo_ne rs st' ?_
      have happ : ∀ x ∈ st.out ++ [⟨Utf8.encode r.C, st.n⟩], 0 < x.text.size := by
        intro x hx
        rcases List.mem_append.1 hx with hx | hx
        · exact h x hx
        · rw [List.mem_singleton.1 hx]; exact encode_size_pos _
      unfold stepL at hs
      split at hs
      · injection hs with hs; subst hs
        show ∀ x ∈ (if st.run then growL st.out (Utf8.encode r.C) else st.out ++ [_]), _
        split
        · exact growL_ne h
        · exact happ
      · split at hs
        · injection hs with hs; subst hs; exact h
        · split at hs
          · injection hs with hs; subst hs; exact happ
          · cases hs
    · intro x hx; cases hx
theorem wordsS_ne (s : ByteArray) : ∀ x ∈ (wordsS s).1, x.text ≠ ⟨#[]⟩ := by
  have key : ∀ x ∈ (wordsS s).1, 0 < x.text.size := by
    unfold wordsS
    split
    · intro x hx; cases hx
    · exact lexGo_ne _ _ (fun x hx => by cases hx)
  intro x hx e
  have := key x hx
  rw [e] at this
  exact absurd this (by decide)
end Go.Proofs.YtgedkcglkhleoaaDoor
