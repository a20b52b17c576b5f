/- What tasks need, in plain Lean: lists of nodes, their trees. No Go program in sight but for the numbers of three types. -/
import Derived.Test.YtolckkckheiceaaProg
import Derived.Test.YtolckkckheiceaaLib
namespace Go.Proofs.Ytolckkckheiceaa
open Go.RowKit

structure NodeS where
  op : Int
  n : Int
deriving DecidableEq
def Kd.node : Kd NodeS := Kd.flat 2 (fun x => [.int .i64 x.op, .int .i64 x.n]) (fun _ => rfl) (fun x u hu => by simp at hu; rcases hu with rfl | rfl <;> rfl)
inductive TreeS
  | leaf (x : NodeS)
  | turned (t : TreeS)
  | pair (o : Bool) (a b : TreeS)
deriving DecidableEq
namespace TreeS
def deep : TreeS → Nat
  | leaf _ => 1
  | turned t => t.deep + 1
  | pair _ a b => max a.deep b.deep + 1
def size : TreeS → Nat
  | leaf _ => 1
  | turned t => t.size + 1
  | pair _ a b => a.size + b.size + 1
def hasB (s : Nat) (k : Int) : Bool := decide (0 ≤ k) && decide (k < 64) && s.testBit k.toNat
def says (s : Nat) : TreeS → Bool
  | leaf x => decide (x.op = 1) || hasB s x.n
  | turned t => !t.says s
  | pair o a b => if o then a.says s || b.says s else a.says s && b.says s
/-- A tree as an interface's value: its dynamic type, its struct. -/
def ty : TreeS → TypeId
  | leaf _ => 242
  | turned _ => 244
  | pair _ _ _ => 246
def val : TreeS → Value
  | leaf x => .agg #[.int .i64 x.op, .int .i64 x.n]
  | turned t => .agg #[.iface t.ty t.val]
  | pair o a b => .agg #[.bool o, .iface a.ty a.val, .iface b.ty b.val]
def v (t : TreeS) : Value := .iface t.ty t.val
theorem deep_size (t : TreeS) : t.deep ≤ t.size := by
  induction t with
  | leaf x => exact Nat.le_refl _
  | turned t ih => simp only [deep, size]; omega
  | pair o a b ih1 ih2 => simp only [deep, size]; omega
theorem deep_pos (t : TreeS) : 1 ≤ t.deep := by cases t <;> simp [deep]
end TreeS
def Kd.tree : Kd TreeS := Kd.flat 1 (fun x => [x.v]) (fun _ => rfl) (fun x u hu => by rw [List.mem_singleton.1 hu]; rfl)
/-- As many parts a kind of nodes has. -/
def partsN (op : Int) : Nat := if op = 3 then 1 else if op = 4 ∨ op = 5 then 2 else 0
def mayN (x : NodeS) : Bool := if x.op = 2 then decide (0 ≤ x.n) && decide (x.n < 16) else decide (1 ≤ x.op) && decide (x.op ≤ 5) && decide (x.n = 0)
/-- The tree that a node makes of the parts behind place k. -/
def nodeT (st : List TreeS) (k : Nat) (x : NodeS) : TreeS :=
  if x.op = 3 then .turned (st[k]?.getD (.leaf x))
  else if x.op = 4 ∨ x.op = 5 then .pair (decide (x.op = 5)) (st[k]?.getD (.leaf x)) (st[k + 1]?.getD (.leaf x))
  else .leaf x
def stackM (st : List TreeS) (x : NodeS) : Option (List TreeS) :=
  if mayN x = true ∧ partsN x.op ≤ st.length then some (st.take (st.length - partsN x.op) ++ [nodeT st (st.length - partsN x.op) x]) else none
def stackL : List NodeS → List TreeS → Option (List TreeS)
  | [], st => some st
  | x :: r, st => match stackM st x with
    | some st' => stackL r st'
    | none => none
def madeN (l : List NodeS) : Option TreeS := match stackL l [] with
  | some [t] => some t
  | _ => none
def checkN (l : List NodeS) : Int := if 31 < l.length then 4 else match madeN l with
  | none => 1
  | some t => if 8 < t.deep then 4 else 0
/-- The trees' nodes are as many as came. -/
def sizesT (st : List TreeS) : Nat := (st.map (·.size)).sum
theorem sizesT_app (a b : List TreeS) : sizesT (a ++ b) = sizesT a + sizesT b := by unfold sizesT; rw [List.map_append, List.sum_append]
theorem stackM_size {st st' : List TreeS} {x : NodeS} (h : stackM st x = some st') : sizesT st' = sizesT st + 1 := by
  unfold stackM at h
  split at h
  · rename_i hc
    injection h with h
    subst h
    obtain ⟨_, hp⟩ := hc
    have hsp : st = st.take (st.length - partsN x.op) ++ st.drop (st.length - partsN x.op) := (List.take_append_drop _ _).symm
    have e1 : sizesT st = sizesT (st.take (st.length - partsN x.op)) + sizesT (st.drop (st.length - partsN x.op)) := by rw [← sizesT_app, List.take_append_drop]
    rw [sizesT_app, e1, Nat.add_assoc]
    congr 1
    have hd : (st.drop (st.length - partsN x.op)).length = partsN x.op := by rw [List.length_drop]; omega
    have g0 : ∀ j, st[(st.length - partsN x.op) + j]? = (st.drop (st.length - partsN x.op))[j]? := fun j => by rw [List.getElem?_drop]
    have g1 := g0 0
    rw [Nat.add_zero] at g1
    have g2 := g0 1
    unfold nodeT
    rw [g1, g2]
    generalize st.drop (st.length - partsN x.op) = d at *
    unfold partsN at hd
    split at hd
    · rename_i h3
      rw [if_pos h3]
      match d, hd with
      | [t], _ => simp [sizesT, TreeS.size]
    · rename_i h3
      rw [if_neg h3]
      split at hd
      · rename_i h4
        rw [if_pos h4]
        match d, hd with
        | [a, b], _ => simp [sizesT, TreeS.size]
      · rename_i h4
        rw [if_neg h4]
        match d, hd with
        | [], _ => simp [sizesT, TreeS.size]
  · cases h
theorem stackL_size : ∀ (l : List NodeS) (st st' : List TreeS), stackL l st = some st' → sizesT st' = sizesT st + l.length := by
  intro l
  induction l with
  | nil => intro st st' h; injection h with h; subst h; rfl
  | cons x l ih =>
    intro st st' h
    unfold stackL at h
    split at h
    · rename_i s1 hs
      rw [ih _ _ h, stackM_size hs, List.length_cons]; omega
    · cases h
theorem made_size {l : List NodeS} {t : TreeS} (h : madeN l = some t) : t.size = l.length := by
  unfold madeN at h
  split at h
  · rename_i s hs
    injection h with h
    subst h
    have := stackL_size _ _ _ hs
    simp [sizesT] at this
    exact this
  · cases h
theorem size_pos (t : TreeS) : 1 ≤ t.size := by cases t <;> simp [TreeS.size]
theorem sizes_ge (st : List TreeS) : st.length ≤ sizesT st := by
  induction st with
  | nil => simp
  | cons t st ih => have := size_pos t; simp [sizesT] at ih ⊢; omega
end Go.Proofs.Ytolckkckheiceaa
