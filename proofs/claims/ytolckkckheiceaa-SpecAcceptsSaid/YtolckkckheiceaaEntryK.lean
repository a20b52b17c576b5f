/- Entries and messages as values; how they come in. -/
import Derived.Test.YtolckkckheiceaaConfK
import Derived.Test.YtolckkckheiceaaRef15
namespace Go.Proofs.Ytolckkckheiceaa
open Go.RowKit

structure EntryS where
  id : Int
  sched : Int
  epoch : Int
  needs : List ByteArray
  bound : List Int
  done : List Bool
def Kd.entry : Kd EntryS := Kd.iso (Kd.pair I64 (Kd.pair I64 (Kd.pair I64 (Kd.pair Kd.str.slice (Kd.pair I64.slice Kd.bool.slice))))) (fun E => (E.id, E.sched, E.epoch, E.needs, E.bound, E.done))
theorem entry_cells {w : World} {S : Nat → Prop} {E : EntryS} {cs : List Value} (h : Kd.entry.K w S E cs) : ∃ A a B b D d, cs = [.int .i64 E.id, .int .i64 E.sched, .int .i64 E.epoch, .slice A E.needs.length a, .slice B E.bound.length b, .slice D E.done.length d] ∧ Kd.str.slice.K w S E.needs [.slice A E.needs.length a] ∧ I64.slice.K w S E.bound [.slice B E.bound.length b] ∧ Kd.bool.slice.K w S E.done [.slice D E.done.length d] := by
  obtain ⟨c0, r0, rfl, h0, k0⟩ := h
  obtain ⟨c1, r1, rfl, h1, k1⟩ := k0
  obtain ⟨c2, r2, rfl, h2, k2⟩ := k1
  obtain ⟨c3, r3, rfl, h3, k3⟩ := k2
  obtain ⟨c4, r4, rfl, h4, k4⟩ := k3
  have e3 := h3
  have e4 := h4
  have e5 := k4
  obtain ⟨A, a, rfl, _⟩ := e3
  obtain ⟨B, b, rfl, _⟩ := e4
  obtain ⟨D, d, rfl, _⟩ := e5
  cases h0; cases h1; cases h2
  exact ⟨A, a, B, b, D, d, rfl, h3, h4, k4⟩
theorem entry_of {w : World} {S : Nat → Prop} (E : EntryS) {A B D : Option Addr} {a b d : Nat} (h1 : Kd.str.slice.K w S E.needs [.slice A E.needs.length a]) (h2 : I64.slice.K w S E.bound [.slice B E.bound.length b]) (h3 : Kd.bool.slice.K w S E.done [.slice D E.done.length d]) : Kd.entry.K w S E [.int .i64 E.id, .int .i64 E.sched, .int .i64 E.epoch, .slice A E.needs.length a, .slice B E.bound.length b, .slice D E.done.length d] :=
  ⟨[_], _, rfl, rfl, [_], _, rfl, rfl, [_], _, rfl, rfl, [_], _, rfl, h1, [_], _, rfl, h2, h3⟩
/-- An entry's three lists, where they lie. -/
structure EAt (w : World) (E : EntryS) (A B D : Option Addr) (a b d : Nat) : Prop where
  needs : Kd.str.slice.K w Any E.needs [.slice A E.needs.length a]
  bound : I64.slice.K w Any E.bound [.slice B E.bound.length b]
  done : Kd.bool.slice.K w Any E.done [.slice D E.done.length d]
theorem EAt.below {w w1 : World} {E : EntryS} {A B D : Option Addr} {a b d : Nat} (h : EAt w E A B D a b d) (hb : Below w.heap.size w w1) : EAt w1 E A B D a b d := ⟨Kd.below h.needs hb, Kd.below h.bound hb, Kd.below h.done hb⟩
theorem K_row {α : Type} {d : Kd α} {w : World} {S : Nat → Prop} {xs : List α} {A : Option Addr} {n c : Nat} (h : d.slice.K w S xs [.slice A n c]) : d.Row w S A xs ∧ xs.length ≤ c := by
  obtain ⟨A', c', he, h1, _, h2⟩ := h
  injection he with he _
  injection he with e1 _ e3
  subst e1; subst e3
  exact ⟨h2, h1⟩
/-- A cluster's two lists. -/
structure CAt (w : World) (C : ConfS) (A B : Option Addr) (a b : Nat) : Prop where
  names : Kd.str.slice.K w Any C.names [.slice A C.names.length a]
  workers : Kd.worker.slice.K w Any C.workers [.slice B C.workers.length b]
  attrs : ∀ x ∈ C.workers, x.attrs < 2 ^ 64
theorem CAt.below {w w1 : World} {C : ConfS} {A B : Option Addr} {a b : Nat} (h : CAt w C A B a b) (hb : Below w.heap.size w w1) : CAt w1 C A B a b := ⟨Kd.below h.names hb, Kd.below h.workers hb, h.attrs⟩
theorem box6 {W : World} {b : Nat} {t : TypeId} {v0 v1 v2 v3 v4 v5 : Value} (h : W.heap[b]? = some (.cells #[v0, v1, v2, v3, v4, v5] t (0, 0))) (u : World) (hb : Below W.heap.size W u) :
    u.cell? ⟨b, 0, none⟩ = some v0 ∧ u.cell? ⟨b, 1, none⟩ = some v1 ∧ u.cell? ⟨b, 2, none⟩ = some v2 ∧ u.cell? ⟨b, 3, none⟩ = some v3 ∧ u.cell? ⟨b, 4, none⟩ = some v4 ∧ u.cell? ⟨b, 5, none⟩ = some v5 := by
  obtain ⟨z, _, _⟩ := cells_of_block ((hb.block b (Array.getElem?_eq_some_iff.1 h).1).trans h)
  exact ⟨z 0 _ rfl, z 1 _ rfl, z 2 _ rfl, z 3 _ rfl, z 4 _ rfl, z 5 _ rfl⟩
theorem box1 {W : World} {b : Nat} {t : TypeId} {v0 : Value} (h : W.heap[b]? = some (.cells #[v0] t (0, 0))) (u : World) (hb : Below W.heap.size W u) : u.cell? ⟨b, 0, none⟩ = some v0 := by
  obtain ⟨z, _, _⟩ := cells_of_block ((hb.block b (Array.getElem?_eq_some_iff.1 h).1).trans h)
  exact z 0 _ rfl
def okEntry (E : EntryS) : Prop := okStrs E.needs ∧ E.bound.length * 8 ≤ 140737488351232 ∧ E.done.length * 1 ≤ 140737488351232
theorem Try.opensEntry : Opens Try.prog 29 Kd.entry okEntry :=
  opens_mapO (fun p : Int × Int × Int × List ByteArray × List Int × List Bool => (⟨p.1, p.2.1, p.2.2.1, p.2.2.2.1, p.2.2.2.2.1, p.2.2.2.2.2⟩ : EntryS))
    (opens_struct (l := [(3, 0), (3, 1), (3, 2), (22, 3), (26, 4), (27, 5)]) (by kernel_rfl) (by simp) (by kernel_rfl)
      (opensF_cons (by kernel_rfl) (opens_int Try.underlying3) (by decide) (opensF_cons (by kernel_rfl) (opens_int Try.underlying3) (by decide) (opensF_cons (by kernel_rfl) (opens_int Try.underlying3) (by decide)
      (opensF_cons (by kernel_rfl) (opens_slice Try.underlying22 (by kernel_rfl) (by kernel_rfl) (by decide) (by decide) (opens_str Try.underlying9)) (by decide)
      (opensF_cons (by kernel_rfl) (opens_slice Try.underlying26 (by kernel_rfl) (by kernel_rfl) (by decide) (by decide) (opens_int Try.underlying3)) (by decide)
      (opensF_one (by kernel_rfl) (opens_slice Try.underlying27 (by kernel_rfl) (by kernel_rfl) (by decide) (by decide) (opens_bool Try.underlying4))))))))
    )
    (fun w S x cs _ h => h) (fun x ho => ⟨ho.2.2.2.1, ho.2.2.2.2.1.2, ho.2.2.2.2.2.2⟩)
theorem Try.opensBools : Opens Try.prog 27 Kd.bool.slice (fun l => (∀ y ∈ l, True) ∧ l.length * 1 ≤ 140737488351232) := opens_slice Try.underlying27 (by kernel_rfl) (by kernel_rfl) (by decide) (by decide) (opens_bool Try.underlying4)
structure OutS where
  to : Int
  kind : Int
  job : Int
  task : Int
  epoch : Int
deriving DecidableEq
def Kd.out : Kd OutS := Kd.flat 5 (fun x => [.int .i64 x.to, .int .i64 x.kind, .int .i64 x.job, .int .i64 x.task, .int .i64 x.epoch]) (fun _ => rfl) (fun x u hu => by simp at hu; rcases hu with rfl | rfl | rfl | rfl | rfl <;> rfl)
theorem Try.infoOut : (Try.prog.info? 118).map (fun i => (i.zero, i.size, i.bytes)) = some (some (.agg #[.int .i64 0, .int .i64 0, .int .i64 0, .int .i64 0, .int .i64 0]), 5, 40) := by kernel_rfl

/-! ### plain -/
/-- The places below n of which p is so. -/
def whereN (p : Nat → Bool) : Nat → List Int
  | 0 => []
  | k + 1 => if p k then whereN p k ++ [(k : Int)] else whereN p k
theorem whereN_len (p : Nat → Bool) : ∀ k, (whereN p k).length ≤ k
  | 0 => Nat.le_refl _
  | k + 1 => by
    have := whereN_len p k
    unfold whereN
    split
    · simp; omega
    · omega
theorem whereN_mem (p : Nat → Bool) (x : Int) : ∀ k : Nat, x ∈ whereN p k ↔ ∃ j : Nat, x = j ∧ j < k ∧ p j = true
  | 0 => by simp [whereN]
  | k + 1 => by
    have ih := whereN_mem p x k
    unfold whereN
    split
    · rename_i h
      rw [List.mem_append, ih, List.mem_singleton]
      constructor
      · rintro (⟨j, h1, h2, h3⟩ | rfl)
        · exact ⟨j, h1, by omega, h3⟩
        · exact ⟨k, rfl, by omega, h⟩
      · rintro ⟨j, h1, h2, h3⟩
        by_cases hx : j = k
        · exact .inr (by rw [h1, hx])
        · exact .inl ⟨j, h1, by omega, h3⟩
    · rename_i h
      rw [ih]
      constructor
      · rintro ⟨j, h1, h2, h3⟩; exact ⟨j, h1, by omega, h3⟩
      · rintro ⟨j, h1, h2, h3⟩
        refine ⟨j, h1, ?_, h3⟩
        by_cases hx : j = k
        · subst hx; exact absurd h3 h
        · omega
theorem whereN_pre (p : Nat → Bool) {k n : Nat} (h : k ≤ n) : ∃ r, whereN p n = whereN p k ++ r := by
  induction n with
  | zero => obtain rfl : k = 0 := by omega
            exact ⟨[], by simp⟩
  | succ n ih =>
    by_cases hk : k = n + 1
    · subst hk; exact ⟨[], by simp⟩
    · obtain ⟨r, hr⟩ := ih (by omega)
      by_cases hp : p n = true
      · exact ⟨r ++ [(n : Int)], by rw [whereN, if_pos hp, hr, List.append_assoc]⟩
      · exact ⟨r, by rw [whereN, if_neg hp, hr]⟩
theorem whereN_get (p : Nat → Bool) {k n : Nat} (h : k < n) (hp : p k = true) : (whereN p n)[(whereN p k).length]? = some (k : Int) := by
  obtain ⟨r, hr⟩ := whereN_pre p (show k + 1 ≤ n from h)
  rw [hr, whereN, if_pos hp, List.append_assoc, List.getElem?_append_right (Nat.le_refl _), Nat.sub_self]; rfl
theorem whereN_congr {p q : Nat → Bool} {n : Nat} (h : ∀ k, k < n → p k = q k) : whereN p n = whereN q n := by
  induction n with
  | zero => rfl
  | succ n ih => unfold whereN; rw [h n (by omega), ih (fun k hk => h k (by omega))]
def tasksN (E : EntryS) : Nat := min (min E.needs.length E.bound.length) E.done.length
def notedB (had : List Bool) (k : Nat) : Bool := had[k]?.getD false
def leftB (E : EntryS) (had : List Bool) (k : Nat) : Bool := decide (0 < E.bound[k]?.getD 0) && !E.done[k]?.getD true && !notedB had k
def pendB (E : EntryS) (wk : Int) (had : List Bool) (k : Nat) : Bool := decide (0 ≤ wk) && decide (E.bound[k]?.getD 0 - 1 = wk) && !E.done[k]?.getD true && !notedB had k
def openB (E : EntryS) (k : Nat) : Bool := decide (E.bound[k]?.getD 1 = 0)
def openL (E : EntryS) : List Int := whereN (openB E) (min E.needs.length E.bound.length)
def mayB (C : ConfS) (E : EntryS) (wk : Int) (i : Int) : Bool := decide (i ∈ openL E) && hasB (setS C.names C.workers (E.needs[i.toNat]?.getD ⟨#[]⟩)) wk
def pendL (E : EntryS) (wk : Int) (had : List Bool) : List Int := whereN (pendB E wk had) (tasksN E)
def mayL (C : ConfS) (E : EntryS) (wk : Int) : List Int := whereN (fun k => mayB C E wk k) E.needs.length
def pickS (C : ConfS) (E : EntryS) (wk : Int) (had : List Bool) : Int × Bool × Bool := match pendL E wk had with
  | x :: _ => (x, false, true)
  | [] => match mayL C E wk with
    | x :: _ => (x, true, true)
    | [] => (-1, false, false)
def outOf (E : EntryS) (i : Int) : OutS := ⟨7 + E.bound[i.toNat]?.getD 0, 4, E.id, i, E.epoch⟩
def allS (E : EntryS) (had : List Bool) : List OutS := (whereN (leftB E had) (tasksN E)).map (outOf E)
def BoundOk (E : EntryS) : Prop := ∀ b ∈ E.bound, 0 ≤ b ∧ b ≤ 64
end Go.Proofs.Ytolckkckheiceaa
