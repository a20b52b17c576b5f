/- Needs as texts, in plain Lean. No Go program in sight. -/
import Derived.Test.YtolckkckheiceaaTrees
import Derived.Test.YtolckkckheiceaaStr0
namespace Go.Proofs.Ytolckkckheiceaa
open Go.RowKit

def opT : TreeS → Int
  | .leaf x => x.op
  | .turned _ => 3
  | .pair o _ _ => if o then 5 else 4
def brT (b : Bool) (s : ByteArray) : ByteArray := if b then ⟨#[40]⟩ ++ s ++ ⟨#[41]⟩ else s
def showT (tab : List ByteArray) : TreeS → ByteArray
  | .leaf x => if x.op = 1 then ⟨#[42]⟩ else tab[x.n.toNat]?.getD ⟨#[]⟩
  | .turned t => ⟨#[33]⟩ ++ brT (decide (opT t = 4) || decide (opT t = 5)) (showT tab t)
  | .pair true a b => showT tab a ++ ⟨#[32, 124, 32]⟩ ++ brT (decide (opT b = 5)) (showT tab b)
  | .pair false a b => brT (decide (opT a = 5)) (showT tab a) ++ ⟨#[32, 38, 32]⟩ ++ brT (decide (opT b = 4) || decide (opT b = 5)) (showT tab b)
/-- All names of a need are in a table. -/
def knownN (tab : List ByteArray) (l : List NodeS) : Bool := l.all (fun x => !(decide (x.op = 2) && decide ((tab.length : Int) ≤ x.n)))
def textS (tab : List ByteArray) (l : List NodeS) : ByteArray := if checkN l = 0 ∧ knownN tab l = true then (match madeN l with | some t => showT tab t | none => ⟨#[]⟩) else ⟨#[]⟩
theorem brT_size (b : Bool) (s : ByteArray) : (brT b s).size ≤ s.size + 2 := by
  unfold brT
  split
  · rw [ByteArray.size_append, ByteArray.size_append]
    show 1 + s.size + 1 ≤ _; omega
  · omega
theorem showT_size (tab : List ByteArray) (B : Nat) (hB : ∀ y ∈ tab, y.size ≤ B) (t : TreeS) : (showT tab t).size + 6 ≤ t.size * (B + 7) := by
  induction t with
  | leaf x =>
    unfold showT TreeS.size
    split
    · show 1 + 6 ≤ _; omega
    · cases hx : tab[x.n.toNat]? with
      | none => show 0 + 6 ≤ _; omega
      | some y => have := hB y (List.mem_of_getElem? hx); show y.size + 6 ≤ _; omega
  | turned t ih =>
    unfold showT TreeS.size
    have := brT_size (decide (opT t = 4) || decide (opT t = 5)) (showT tab t)
    rw [ByteArray.size_append, Nat.add_mul]
    show 1 + _ + 6 ≤ _; omega
  | pair o a b iha ihb =>
    cases o with
    | true =>
      unfold showT TreeS.size
      have := brT_size (decide (opT b = 5)) (showT tab b)
      rw [ByteArray.size_append, ByteArray.size_append, Nat.add_mul, Nat.add_mul]
      show _ + 3 + _ + 6 ≤ _; omega
    | false =>
      unfold showT TreeS.size
      have h1 := brT_size (decide (opT b = 4) || decide (opT b = 5)) (showT tab b)
      have h2 := brT_size (decide (opT a = 5)) (showT tab a)
      rw [ByteArray.size_append, ByteArray.size_append, Nat.add_mul, Nat.add_mul]
      show _ + 3 + _ + 6 ≤ _; omega
theorem check_ok {l : List NodeS} (h : checkN l = 0) : ∃ t : TreeS, madeN l = some t ∧ t.ok ∧ l = t.nodes ∧ l.length ≤ 31 ∧ t.deep ≤ 8 := by
  unfold checkN at h
  split at h
  · cases h
  · rename_i h1
    split at h
    · cases h
    · rename_i t ht
      split at h
      · cases h
      · obtain ⟨h3, h4⟩ := made_nodes ht
        exact ⟨t, ht, h3, h4, by omega, by omega⟩
theorem check_of {t : TreeS} (h : t.ok) (h1 : t.size ≤ 31) (h2 : t.deep ≤ 8) : checkN t.nodes = 0 := by
  unfold checkN
  rw [if_neg (by rw [TreeS.nodes_len]; omega), made_of_nodes h]
  simp only
  rw [if_neg (by omega)]
theorem nodes_last (t : TreeS) : ∃ n, t.nodes[t.size - 1]? = some ⟨opT t, n⟩ := by
  cases t with
  | leaf x => exact ⟨x.n, rfl⟩
  | turned t =>
    refine ⟨0, ?_⟩
    show (t.nodes ++ [_])[t.size + 1 - 1]? = _
    rw [Nat.add_sub_cancel, List.getElem?_append_right (by rw [TreeS.nodes_len]; exact Nat.le_refl _), TreeS.nodes_len, Nat.sub_self]; rfl
  | pair o a b =>
    refine ⟨0, ?_⟩
    show (a.nodes ++ b.nodes ++ [_])[a.size + b.size + 1 - 1]? = _
    have e : (a.nodes ++ b.nodes).length = a.size + b.size := by rw [List.length_append, TreeS.nodes_len, TreeS.nodes_len]
    rw [Nat.add_sub_cancel, List.getElem?_append_right (by rw [e]; exact Nat.le_refl _), e, Nat.sub_self]; rfl
end Go.Proofs.Ytolckkckheiceaa
