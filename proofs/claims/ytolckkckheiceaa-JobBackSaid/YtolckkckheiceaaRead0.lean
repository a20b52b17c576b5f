/- Needs that are read: plain. No Go program in sight. -/
import Derived.Test.YtolckkckheiceaaNeed0
import Derived.Test.YtolckkckheiceaaLex0
import Derived.Test.YtolckkckheiceaaNamesP
namespace Go.Proofs.Ytolckkckheiceaa
open Go.RowKit

inductive Res
  | ok (ws : List WordS) (out : List NodeS)
  | bad (at_ e : Int)
def Res.put (op n : Int) : Res → Res
  | ok ws out => ok ws (out ++ [⟨op, n⟩])
  | bad a e => bad a e
def loopP (part : List WordS → List NodeS → Res) (sign : ByteArray) (op : Int) : Nat → List WordS → List NodeS → Res
  | 0, ws, out => .ok ws out
  | n + 1, ws, out => match ws with
    | [] => .ok [] out
    | x :: r => if x.text = sign then (match part r out with
        | .ok r' out' => loopP part sign op n r' (out' ++ [⟨op, 0⟩])
        | .bad a e => .bad a e) else .ok (x :: r) out
def manyP (part : List WordS → List NodeS → Res) (sign : ByteArray) (op : Int) (n : Nat) (ws : List WordS) (out : List NodeS) : Res := match part ws out with
  | .ok r' out' => loopP part sign op n r' out'
  | .bad a e => .bad a e
def sOr : ByteArray := ⟨#[124]⟩
def sAnd : ByteArray := ⟨#[38]⟩
def sNot : ByteArray := ⟨#[33]⟩
def sOpen : ByteArray := ⟨#[40]⟩
def sShut : ByteArray := ⟨#[41]⟩
def sYes : ByteArray := ⟨#[42]⟩
def allP (one : List WordS → List NodeS → Res) (n : Nat) : List WordS → List NodeS → Res := manyP one sAnd 4 n
def anyP (one : List WordS → List NodeS → Res) (n : Nat) : List WordS → List NodeS → Res := manyP (allP one n) sOr 5 n
def shutP (en : Int) : Res → Res
  | .bad a e => .bad a e
  | .ok [] _ => .bad en 3
  | .ok (y :: r) out => if y.text = sShut then .ok r out else .bad y.at_ 3
def nameP (tab : List ByteArray) (x : WordS) (r : List WordS) (out : List NodeS) : Res := if placeI tab x.text < 0 ∨ 16 ≤ placeI tab x.text then .bad x.at_ 5 else .ok r (out ++ [⟨2, placeI tab x.text⟩])
def oneP (tab : List ByteArray) (en : Int) : Nat → List WordS → List NodeS → Res
  | 0, _, _ => .bad en 3
  | f + 1, ws, out => match ws with
    | [] => .bad en 3
    | x :: r =>
      if x.text = sNot then (oneP tab en f r out).put 3 0
      else if x.text = sOpen then shutP en (anyP (oneP tab en f) f r out)
      else if x.text = sYes then .ok r (out ++ [⟨1, 0⟩])
      else if x.text = sShut ∨ x.text = sAnd ∨ x.text = sOr then .bad x.at_ 3
      else nameP tab x r out
/-- A part leaves no more words than there were, and makes no more nodes than it takes words. -/
def Less (p : List WordS → List NodeS → Res) : Prop := ∀ ws out r o, p ws out = .ok r o → r.length ≤ ws.length ∧ o.length + r.length ≤ out.length + ws.length
theorem loopP_less {p : List WordS → List NodeS → Res} (hp : Less p) (s : ByteArray) (op : Int) : ∀ n, Less (loopP p s op n) := by
  intro n
  induction n with
  | zero => intro ws out r o h; injection h with h1 h2; subst h1; subst h2; exact ⟨Nat.le_refl _, Nat.le_refl _⟩
  | succ n ih =>
    intro ws out r o h
    cases ws with
    | nil => injection h with h1 h2; subst h1; subst h2; exact ⟨Nat.le_refl _, Nat.le_refl _⟩
    | cons x ws =>
      unfold loopP at h
      simp only at h
      split at h
      · split at h
        · rename_i r1 o1 h1
          have := hp _ _ _ _ h1
          have h3 := ih _ _ _ _ h
          simp only [List.length_cons, List.length_append, List.length_nil] at *; omega
        · cases h
      · injection h with h1 h2; subst h1; subst h2; exact ⟨Nat.le_refl _, Nat.le_refl _⟩
theorem manyP_less {p : List WordS → List NodeS → Res} (hp : Less p) (s : ByteArray) (op : Int) (n : Nat) : Less (manyP p s op n) := by
  intro ws out r o h
  unfold manyP at h
  split at h
  · rename_i r1 o1 h1
    have := hp _ _ _ _ h1
    have := loopP_less hp s op n _ _ _ _ h
    omega
  · cases h
theorem allP_less {p : List WordS → List NodeS → Res} (hp : Less p) (n : Nat) : Less (allP p n) := manyP_less hp _ _ _
theorem anyP_less {p : List WordS → List NodeS → Res} (hp : Less p) (n : Nat) : Less (anyP p n) := manyP_less (allP_less hp n) _ _ _
theorem oneP_less (tab : List ByteArray) (en : Int) : ∀ f, Less (oneP tab en f) := by
  intro f
  induction f with
  | zero => intro ws out r o h; cases h
  | succ f ih =>
    intro ws out r o h
    cases ws with
    | nil => cases h
    | cons x ws =>
      unfold oneP at h
      simp only at h
      split at h
      · generalize hq : oneP tab en f ws out = q at h
        cases q with
        | ok r1 o1 => injection h with h1 h2; subst h1; subst h2; have := ih _ _ _ _ hq; simp only [List.length_cons, List.length_append, List.length_nil]; omega
        | bad a e => cases h
      · split at h
        · generalize hq : anyP (oneP tab en f) f ws out = q at h
          cases q with
          | bad a e => cases h
          | ok r1 o1 =>
            have := anyP_less ih f _ _ _ _ hq
            cases r1 with
            | nil => cases h
            | cons y r1 =>
              unfold shutP at h
              simp only at h
              split at h
              · injection h with h1 h2; subst h1; subst h2; simp only [List.length_cons] at *; omega
              · cases h
        · split at h
          · injection h with h1 h2; subst h1; subst h2; simp; omega
          · split at h
            · cases h
            · unfold nameP at h
              split at h
              · cases h
              · injection h with h1 h2; subst h1; subst h2; simp; omega
/-- What is wrong has a number. -/
def Bad (p : List WordS → List NodeS → Res) : Prop := ∀ ws out a e, p ws out = .bad a e → e ≠ 0
theorem loopP_bad {p : List WordS → List NodeS → Res} (hp : Bad p) (s : ByteArray) (op : Int) : ∀ n, Bad (loopP p s op n) := by
  intro n
  induction n with
  | zero => intro ws out a e h; cases h
  | succ n ih =>
    intro ws out a e h
    cases ws with
    | nil => cases h
    | cons x ws =>
      unfold loopP at h
      simp only at h
      split at h
      · split at h
        · exact ih _ _ _ _ h
        · rename_i a1 e1 h1
          injection h with h2 h3
          subst h2; subst h3
          exact hp _ _ _ _ h1
      · cases h
theorem manyP_bad {p : List WordS → List NodeS → Res} (hp : Bad p) (s : ByteArray) (op : Int) (n : Nat) : Bad (manyP p s op n) := by
  intro ws out a e h
  unfold manyP at h
  split at h
  · exact loopP_bad hp s op n _ _ _ _ h
  · rename_i a1 e1 h1
    injection h with h2 h3
    subst h2; subst h3
    exact hp _ _ _ _ h1
theorem anyP_bad {p : List WordS → List NodeS → Res} (hp : Bad p) (n : Nat) : Bad (anyP p n) := manyP_bad (manyP_bad hp _ _ _) _ _ _
theorem oneP_bad (tab : List ByteArray) (en : Int) : ∀ f, Bad (oneP tab en f) := by
  intro f
  induction f with
  | zero => intro ws out a e h; injection h with h1 h2; omega
  | succ f ih =>
    intro ws out a e h
    cases ws with
    | nil => injection h with h1 h2; omega
    | cons x ws =>
      unfold oneP at h
      simp only at h
      split at h
      · generalize hq : oneP tab en f ws out = q at h
        cases q with
        | ok r1 o1 => cases h
        | bad a1 e1 => injection h with h1 h2; subst h1; subst h2; exact ih _ _ _ _ hq
      · split at h
        · generalize hq : anyP (oneP tab en f) f ws out = q at h
          cases q with
          | bad a1 e1 => injection h with h1 h2; subst h1; subst h2; exact anyP_bad ih f _ _ _ _ hq
          | ok r1 o1 =>
            cases r1 with
            | nil => injection h with h1 h2; omega
            | cons y r1 =>
              unfold shutP at h
              simp only at h
              split at h
              · cases h
              · injection h with h1 h2; omega
        · split at h
          · cases h
          · split at h
            · injection h with h1 h2; omega
            · unfold nameP at h
              split at h
              · injection h with h1 h2; omega
              · cases h
/-- What is read of all words. -/
def readR (r : Res) : Int × Int × List NodeS := match r with
  | .bad a e => (a, e, [])
  | .ok (x :: _) _ => (x.at_, 3, [])
  | .ok [] out => (0, checkN out, out)
def needS (tab : List ByteArray) (s : ByteArray) : List NodeS × Int × Int :=
  if (wordsS s).2.2 ≠ 0 then ([], (wordsS s).2.1, (wordsS s).2.2) else
    let q := readR (anyP (oneP tab (runes s).length (wordsS s).1.length) (wordsS s).1.length (wordsS s).1 [])
    if q.2.1 ≠ 0 then ([], q.1, q.2.1) else (q.2.2, 0, 0)
end Go.Proofs.Ytolckkckheiceaa
