/- Entries and messages as values; how they come in. -/
import Derived.Test.YtgedkcglkhleoaaGreatDoorEntryE
import Derived.Test.YtgedkcglkhleoaaGreatDoorConfK
import Derived.Test.YtgedkcglkhleoaaGreatDoorRef15
namespace Go.Proofs.YtgedkcglkhleoaaGreatDoor
open Go.RowKit
/-- A cluster's two lists. -/
structure CAt (w : World) (C : ConfS) (A B : Option Addr) (a b : Nat) : Prop where
  names : Kd.str.slice.K w Any C.names [.slice A C.names.length a]
  workers : Kd.worker.slice.K w Any C.workers [.slice B C.workers.length b]
  attrs : ∀ x ∈ C.workers, x.attrs < 2 ^ 64
theorem CAt.below {w w1 : World} {C : ConfS} {A B : Option Addr} {a b : Nat} (h : CAt w C A B a b) (hb : Below w.heap.size w w1) : CAt w1 C A B a b := ⟨Kd.below h.names hb, Kd.below h.workers hb, h.attrs⟩
structure OutS where
  to : Int
  kind : Int
  job : Int
  task : Int
  epoch : Int
deriving DecidableEq
def Kd.out : Kd OutS := Kd.flat 5 (fun x => [.int .i64 x.to, .int .i64 x.kind, .int .i64 x.job, .int .i64 x.task, .int .i64 x.epoch]) (fun _ => rfl) (fun x u hu => by simp at hu; rcases hu with rfl | rfl | rfl | rfl | rfl <;> rfl)
/-! ### plain -/
/-- The places below n of which p is so. -/
def whereN (p : Nat → Bool) : Nat → List Int
  | 0 => []
  | k + 1 => if p k then whereN p k ++ [(k : Int)] else whereN p k
theorem whereN_len (p : Nat → Bool) : ∀ k, (whereN p k).length ≤ k
  | 0 => Nat.le_refl _
  | k + 1 => by
    have := whereN_len p k
    unfold whereN
    split
    · simp; omega
    · omega
theorem whereN_mem (p : Nat → Bool) (x : Int) : ∀ k : Nat, x ∈ whereN p k ↔ ∃ j : Nat, x = j ∧ j < k ∧ p j = true
  | 0 => by simp [whereN]
  | k + 1 => by
    have ih := whereN_mem p x k
    unfold whereN
    split
    · rename_i h
      rw [List.mem_append, ih, List.mem_singleton]
      constructor
      · rintro (⟨j, h1, h2, h3⟩ | rfl)
        · exact ⟨j, h1, by omega, h3⟩
        · exact ⟨k, rfl, by omega, h⟩
      · rintro ⟨j, h1, h2, h3⟩
        by_cases hx : j = k
        · exact .inr (by rw [h1, hx])
        · exact .inl ⟨j, h1, by omega, h3⟩
    · rename_i h
      rw [ih]
      constructor
      · rintro ⟨j, h1, h2, h3⟩; exact ⟨j, h1, by omega, h3⟩
      · rintro ⟨j, h1, h2, h3⟩
        refine ⟨j, h1, ?_, h3⟩
        by_cases hx : j = k
        · subst hx; exact absurd h3 h
        · omega
theorem whereN_pre (p : Nat → Bool) {k n : Nat} (h : k ≤ n) : ∃ r, whereN p n = whereN p k ++ r := by
  induction n with
  | zero => obtain rfl : k = 0 := by omega
            exact ⟨[], by simp⟩
  | succ n ih =>
    by_cases hk : k = n + 1
    · subst hk; exact ⟨[], by simp⟩
    · obtain ⟨r, hr⟩ := ih (by omega)
      by_cases hp : p n = true
      · exact ⟨r ++ [(n : Int)], by rw [whereN, if_pos hp, hr, List.append_assoc]⟩
      · exact ⟨r, by rw [whereN, if_neg hp, hr]⟩
theorem whereN_get (p : Nat → Bool) {k n : Nat} (h : k < n) (hp : p k = true) : (whereN p n)[(whereN p k).length]? = some (k : Int) := by
  obtain ⟨r, hr⟩ := whereN_pre p (show k + 1 ≤ n from h)
  rw [hr, whereN, if_pos hp, List.append_assoc, List.getElem?_append_right (Nat.le_refl _), Nat.sub_self]; rfl
theorem whereN_congr {p q : Nat → Bool} {n : Nat} (h : ∀ k, k < n → p k = q k) : whereN p n = whereN q n := by
  induction n with
  | zero => rfl
  | succ n ih => unfold whereN; rw [h n (by omega), ih (fun k hk => h k (by omega))]
def tasksN (E : EntryS) : Nat := min (min E.needs.length E.bound.length) E.done.length
def notedB (had : List Bool) (k : Nat) : Bool := had[k]?.getD false
def leftB (E : EntryS) (had : List Bool) (k : Nat) : Bool := decide (0 < E.bound[k]?.getD 0) && !E.done[k]?.getD true && !notedB had k
def pendB (E : EntryS) (wk : Int) (had : List Bool) (k : Nat) : Bool := decide (0 ≤ wk) && decide (E.bound[k]?.getD 0 - 1 = wk) && !E.done[k]?.getD true && !notedB had k
def openB (E : EntryS) (k : Nat) : Bool := decide (E.bound[k]?.getD 1 = 0)
def openL (E : EntryS) : List Int := whereN (openB E) (min E.needs.length E.bound.length)
def mayB (C : ConfS) (E : EntryS) (wk : Int) (i : Int) : Bool := decide (i ∈ openL E) && hasB (setS C.names C.workers (E.needs[i.toNat]?.getD ⟨#[]⟩)) wk
def pendL (E : EntryS) (wk : Int) (had : List Bool) : List Int := whereN (pendB E wk had) (tasksN E)
def mayL (C : ConfS) (E : EntryS) (wk : Int) : List Int := whereN (fun k => mayB C E wk k) E.needs.length
def pickS (C : ConfS) (E : EntryS) (wk : Int) (had : List Bool) : Int × Bool × Bool := match pendL E wk had with
  | x :: _ => (x, false, true)
  | [] => match mayL C E wk with
    | x :: _ => (x, true, true)
    | [] => (-1, false, false)
def outOf (E : EntryS) (i : Int) : OutS := ⟨7 + E.bound[i.toNat]?.getD 0, 4, E.id, i, E.epoch⟩
def allS (E : EntryS) (had : List Bool) : List OutS := (whereN (leftB E had) (tasksN E)).map (outOf E)
def BoundOk (E : EntryS) : Prop := ∀ b ∈ E.bound, 0 ≤ b ∧ b ≤ 64
end Go.Proofs.YtgedkcglkhleoaaGreatDoor
