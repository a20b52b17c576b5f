/- Words of this session's own: what values of Lean types look like in the model's memory, and how that lasts. No Go program in sight. -/
import Derived.WalkKit
import Derived.WalkLawsBesides
import Derived.WalkSpells
import Derived.Deep.LoopGhost
import Derived.Deep.QuietTactic
import Derived.BigQuiet
import Derived.Maps.AppendAt
import Derived.Deep.AppendLies
namespace Go.Proofs.Ytolckkckheiceaa
open Go.RowKit

/-! ### Kinds: how a value of a Lean type lies in cells; S: the blocks that it may lead to -/
theorem hid {p : Prop} (h : p) : Hid p := h

structure Kd (α : Type) where
  sz : Nat
  K : World → (Nat → Prop) → α → List Value → Prop
  len : ∀ {w S x cs}, K w S x cs → cs.length = sz
  one : ∀ {w S x cs}, K w S x cs → ∀ u ∈ cs, u.oneCell' = true
  mono : ∀ {w : World} {S S' : Nat → Prop} {x cs}, (∀ b, S b → b < w.heap.size → S' b) → K w S x cs → K w S' x cs
  move : ∀ {w w1 : World} {S : Nat → Prop} {x cs}, (∀ b, S b → b < w.heap.size → w1.heap[b]? = w.heap[b]?) → K w S x cs → K w1 S x cs

def Any : Nat → Prop := fun _ => True

namespace Kd
def flat {α : Type} (n : Nat) (enc : α → List Value) (hl : ∀ x, (enc x).length = n) (h1 : ∀ x, ∀ u ∈ enc x, u.oneCell' = true) : Kd α where
  sz := n
  K := fun _ _ x cs => cs = enc x
  len := fun h => by rw [h]; exact hl _
  one := fun h => by rw [h]; exact h1 _
  mono := fun _ h => h
  move := fun _ h => h
def int (k : IntKind) : Kd Int := flat 1 (fun x => [.int k x]) (fun _ => rfl) (fun x u hu => by rw [List.mem_singleton.1 hu]; rfl)
def bool : Kd Bool := flat 1 (fun x => [.bool x]) (fun _ => rfl) (fun x u hu => by rw [List.mem_singleton.1 hu]; rfl)
def str : Kd ByteArray := flat 1 (fun x => [.string x]) (fun _ => rfl) (fun x u hu => by rw [List.mem_singleton.1 hu]; rfl)

/-- A row of elements from address A on. -/
def Row {α : Type} (d : Kd α) (w : World) (S : Nat → Prop) (A : Option Addr) (xs : List α) : Prop :=
  ∀ (i : Nat) x, xs[i]? = some x → ∃ a cs, A = some a ∧ S a.block ∧ a.block < w.heap.size ∧ d.K w S x cs ∧ ∀ (j : Nat) u, cs[j]? = some u → w.cell? (a.add (i * d.sz + j)) = some u

theorem Row.mono {α : Type} {d : Kd α} {w : World} {S S' : Nat → Prop} {A : Option Addr} {xs : List α} (hS : ∀ b, S b → b < w.heap.size → S' b) (h : d.Row w S A xs) : d.Row w S' A xs := fun i x hx => by
  obtain ⟨a, cs, h1, h2, h3, h4, h5⟩ := h i x hx
  exact ⟨a, cs, h1, hS _ h2 h3, h3, d.mono hS h4, h5⟩

theorem add_add (a : Addr) (i j : Nat) : (a.add i).add j = a.add (i + j) := by
  unfold Addr.add
  by_cases h1 : i = 0
  · subst h1; simp
  · by_cases h2 : j = 0
    · subst h2; simp [h1]
    · rw [if_neg h1, if_neg h2, if_neg (by omega)]; simp [Nat.add_assoc]
theorem add_lit (a : Addr) (k : Nat) (h : 0 < k) : a.add k = ⟨a.block, a.off + k, none⟩ := by
  unfold Addr.add
  rw [if_neg (by omega)]
theorem block_add (a : Addr) (k : Nat) : (a.add k).block = a.block := by unfold Addr.add; split <;> rfl

theorem Row.move {α : Type} {d : Kd α} {w w1 : World} {S : Nat → Prop} {A : Option Addr} {xs : List α} (hS : ∀ b, S b → b < w.heap.size → w1.heap[b]? = w.heap[b]?) (h : d.Row w S A xs) : d.Row w1 S A xs := fun i x hx => by
  obtain ⟨a, cs, h1, h2, h3, h4, h5⟩ := h i x hx
  have hb := hS _ h2 h3
  refine ⟨a, cs, h1, h2, ?_, d.move hS h4, fun j u hu => ?_⟩
  · rw [Array.getElem?_eq_getElem h3] at hb
    exact (Array.getElem?_eq_some_iff.1 hb).1
  · rw [World.cell?_of_block (w := w) (by rw [block_add]; exact hb)]
    exact h5 j u hu

/-- A slice that is read: its value, its elements. -/
def slice {α : Type} (d : Kd α) : Kd (List α) where
  sz := 1
  K := fun w S xs cs => ∃ A c, cs = [.slice A xs.length c] ∧ xs.length ≤ c ∧ xs.length ≤ 140737488355328 ∧ d.Row w S A xs
  len := by rintro w S x cs ⟨A, c, rfl, _⟩; rfl
  one := by
    rintro w S x cs ⟨A, c, rfl, _⟩ u hu
    rw [List.mem_singleton.1 hu]; rfl
  mono := by
    rintro w S S' x cs hS ⟨A, c, rfl, h1, h2, h3⟩
    exact ⟨A, c, rfl, h1, h2, h3.mono hS⟩
  move := by
    rintro w w1 S x cs hS ⟨A, c, rfl, h1, h2, h3⟩
    exact ⟨A, c, rfl, h1, h2, h3.move hS⟩

/-- A value that lies in two parts, one behind the other. -/
def pair {α β : Type} (a : Kd α) (b : Kd β) : Kd (α × β) where
  sz := a.sz + b.sz
  K := fun w S x cs => ∃ c0 c1, cs = c0 ++ c1 ∧ a.K w S x.1 c0 ∧ b.K w S x.2 c1
  len := by
    rintro w S x cs ⟨c0, c1, rfl, h0, h1⟩
    rw [List.length_append, a.len h0, b.len h1]
  one := by
    rintro w S x cs ⟨c0, c1, rfl, h0, h1⟩ u hu
    rcases List.mem_append.1 hu with hu | hu
    · exact a.one h0 u hu
    · exact b.one h1 u hu
  mono := by
    rintro w S S' x cs hS ⟨c0, c1, rfl, h0, h1⟩
    exact ⟨c0, c1, rfl, a.mono hS h0, b.mono hS h1⟩
  move := by
    rintro w w1 S x cs hS ⟨c0, c1, rfl, h0, h1⟩
    exact ⟨c0, c1, rfl, a.move hS h0, b.move hS h1⟩
/-- A Lean structure by its fields. -/
def iso {α β : Type} (d : Kd α) (f : β → α) : Kd β where
  sz := d.sz
  K := fun w S x cs => d.K w S (f x) cs
  len := d.len
  one := d.one
  mono := d.mono
  move := d.move
end Kd

section
variable {α : Type} {d : Kd α} {w w1 : World} {S S' : Nat → Prop} {A : Option Addr} {xs : List α} {x : α} {cs : List Value}

theorem Kd.below (h : d.K w S x cs) (hb : Below w.heap.size w w1) : d.K w1 S x cs := d.move (fun b _ hlt => hb.block b hlt) h
theorem Kd.Row.below (h : d.Row w S A xs) (hb : Below w.heap.size w w1) : d.Row w1 S A xs := h.move (fun b _ hlt => hb.block b hlt)
theorem Kd.any (h : d.K w S x cs) : d.K w Any x cs := d.mono (fun _ _ _ => trivial) h
theorem Kd.Row.any (h : d.Row w S A xs) : d.Row w Any A xs := h.mono (fun _ _ _ => trivial)
theorem Kd.Row.take (h : d.Row w S A xs) (n : Nat) : d.Row w S A (xs.take n) := fun i x hx => by
  rw [List.getElem?_take] at hx
  split at hx
  · exact h i x hx
  · cases hx
theorem Kd.Row.nil : d.Row w S A [] := fun i x hx => by simp at hx

/-- 'xs[m:]', the address as the walk has it. -/
theorem Kd.Row.drop (h : d.Row w S A xs) (m c : Nat) (hm : m ≤ xs.length) (hc : xs.length ≤ c) : d.Row w S (if c = m then A else A.map (·.add (m * d.sz))) (xs.drop m) := fun i x hx => by
  rw [List.getElem?_drop] at hx
  have hi : m + i < xs.length := (List.getElem?_eq_some_iff.1 hx).1
  obtain ⟨a, cs, rfl, h2, h3, h4, h5⟩ := h (m + i) x hx
  rw [if_neg (by omega)]
  refine ⟨a.add (m * d.sz), cs, rfl, by rw [Kd.block_add]; exact h2, by rw [Kd.block_add]; exact h3, h4, fun j u hu => ?_⟩
  have := h5 j u hu
  rw [Nat.add_mul, Nat.add_assoc] at this
  have ha : (a.add (m * d.sz)).add (i * d.sz + j) = a.add (m * d.sz + (i * d.sz + j)) := by
    exact Kd.add_add a _ _
  rw [ha]; exact this

theorem mul_one' (i : Nat) : i * 1 + 0 = i := by omega
/-- An element of one cell. -/
theorem Kd.Row.at_int {k : IntKind} {xs : List Int} (h : (Kd.int k).Row w S A xs) (i : Nat) (hi : i < xs.length) : ∃ a x, A = some a ∧ xs[i]? = some x ∧ w.cell? (a.add i) = some (.int k x) := by
  obtain ⟨a, cs, h1, _, _, h4, h5⟩ := h i xs[i] (List.getElem?_eq_getElem hi)
  cases h4
  exact ⟨a, xs[i], h1, List.getElem?_eq_getElem hi, by have := h5 0 _ rfl; rwa [show i * (Kd.int k).sz + 0 = i from mul_one' i] at this⟩
theorem Kd.Row.at_str {xs : List ByteArray} (h : Kd.str.Row w S A xs) (i : Nat) (hi : i < xs.length) : ∃ a x, A = some a ∧ xs[i]? = some x ∧ w.cell? (a.add i) = some (.string x) := by
  obtain ⟨a, cs, h1, _, _, h4, h5⟩ := h i xs[i] (List.getElem?_eq_getElem hi)
  cases h4
  exact ⟨a, xs[i], h1, List.getElem?_eq_getElem hi, by have := h5 0 _ rfl; rwa [show i * Kd.str.sz + 0 = i from mul_one' i] at this⟩
theorem Kd.Row.at_bool {xs : List Bool} (h : Kd.bool.Row w S A xs) (i : Nat) (hi : i < xs.length) : ∃ a x, A = some a ∧ xs[i]? = some x ∧ w.cell? (a.add i) = some (.bool x) := by
  obtain ⟨a, cs, h1, _, _, h4, h5⟩ := h i xs[i] (List.getElem?_eq_getElem hi)
  cases h4
  exact ⟨a, xs[i], h1, List.getElem?_eq_getElem hi, by have := h5 0 _ rfl; rwa [show i * Kd.bool.sz + 0 = i from mul_one' i] at this⟩
end

/-- All old cells and all old marks read as before. -/
theorem bcell {W w1 : World} (hb : Below W.heap.size W w1) : (∀ b o, b < W.heap.size → w1.cell? ⟨b, o, none⟩ = W.cell? ⟨b, o, none⟩) ∧ (∀ b o, b < W.heap.size → w1.frozen? ⟨b, o, none⟩ = W.frozen? ⟨b, o, none⟩) :=
  ⟨fun b o h => hb.cell (p := ⟨b, o, none⟩) h, fun b o h => hb.frozen (p := ⟨b, o, none⟩) h⟩
theorem below_then {B : Nat} {w w1 w2 : World} (h : Below B w w1) (hB : B ≤ w1.heap.size) (k : Below w1.heap.size w1 w2) : Below B w w2 := h.trans (k.mono hB)
theorem below_drewN {B : Nat} {w W : World} (h : Below B w W) (n : Nat) : Below B w (W.drewN n) := ⟨h.os, h.tape, h.output, h.size, h.block⟩
theorem bAlloc {w W : World} (h : Below w.heap.size w W) (o : Obj) : Below w.heap.size w (W.alloc o) := h.alloc h.size o
theorem bThen {w w1 w2 : World} (h : Below w.heap.size w w1) (k : Below w1.heap.size w1 w2) : Below w.heap.size w w2 := h.trans (k.mono h.size)

theorem streq (x y : ByteArray) : (x.toList == y.toList) = decide (x = y) := by
  rw [Bool.eq_iff_iff, beq_iff_eq, decide_eq_true_iff, ByteArray.toList_eq, ByteArray.toList_eq]
  exact ⟨fun h => ByteArray.ext (Array.toList_inj.mp h), fun h => by rw [h]⟩

/-! ### Rows of the call's own -/
/-- Elements one behind the other. -/
def Cells {α : Type} (d : Kd α) (w : World) (S : Nat → Prop) : List α → List Value → Prop
  | [], cs => cs = []
  | x :: xs, cs => ∃ c r, cs = c ++ r ∧ d.K w S x c ∧ Cells d w S xs r

section
variable {α : Type} {d : Kd α} {w w1 : World} {S S' : Nat → Prop} {xs : List α} {cs : List Value}
theorem Cells.move (h : Cells d w S xs cs) (hm : ∀ b, S b → b < w.heap.size → w1.heap[b]? = w.heap[b]?) (hS : ∀ b, S b → b < w.heap.size → S' b) : Cells d w1 S' xs cs := by
  induction xs generalizing cs with
  | nil => exact h
  | cons x xs ih =>
    obtain ⟨c, r, rfl, h1, h2⟩ := h
    have hb : d.K w (fun b => S b ∧ b < w.heap.size) x c := d.mono (fun b h hl => ⟨h, hl⟩) h1
    have hb1 := d.move (w1 := w1) (fun b h hl => hm b h.1 h.2) hb
    exact ⟨c, r, rfl, d.mono (fun b h _ => hS b h.1 h.2) hb1, ih h2⟩
theorem Cells.imp (h : Cells d w S xs cs) (hE : ∀ x c, d.K w S x c → d.K w S' x c) : Cells d w S' xs cs := by
  induction xs generalizing cs with
  | nil => exact h
  | cons x xs ih =>
    obtain ⟨c, r, rfl, h1, h2⟩ := h
    exact ⟨c, r, rfl, hE x c h1, ih h2⟩
theorem Cells.len (h : Cells d w S xs cs) : cs.length = xs.length * d.sz := by
  induction xs generalizing cs with
  | nil => rw [show cs = [] from h]; simp
  | cons x xs ih =>
    obtain ⟨c, r, rfl, h1, h2⟩ := h
    rw [List.length_append, d.len h1, ih h2, List.length_cons, Nat.add_mul]; omega
theorem Cells.snoc {x : α} {c : List Value} (h : Cells d w S xs cs) (hx : d.K w S x c) : Cells d w S (xs ++ [x]) (cs ++ c) := by
  induction xs generalizing cs with
  | nil => rw [show cs = [] from h]; exact ⟨c, [], by simp, hx, rfl⟩
  | cons y xs ih =>
    obtain ⟨c', r, rfl, h1, h2⟩ := h
    exact ⟨c', r ++ c, by simp, h1, ih h2⟩
theorem Cells.append {ys : List α} {cs' : List Value} (h : Cells d w S xs cs) (hy : Cells d w S ys cs') : Cells d w S (xs ++ ys) (cs ++ cs') := by
  induction xs generalizing cs with
  | nil => rw [show cs = [] from h]; exact hy
  | cons y xs ih =>
    obtain ⟨c', r, rfl, h1, h2⟩ := h
    exact ⟨c', r ++ cs', by simp, h1, ih h2⟩
theorem Cells.get (h : Cells d w S xs cs) : ∀ i x, xs[i]? = some x → ∃ c, d.K w S x c ∧ ∀ (j : Nat) u, c[j]? = some u → cs[i * d.sz + j]? = some u := by
  induction xs generalizing cs with
  | nil => intro i x hx; simp at hx
  | cons y xs ih =>
    obtain ⟨c', r, rfl, h1, h2⟩ := h
    intro i x hx
    cases i with
    | zero =>
      simp at hx; subst hx
      exact ⟨c', h1, fun j u hu => by rw [Nat.zero_mul, Nat.zero_add, List.getElem?_append_left (List.getElem?_eq_some_iff.1 hu).1]; exact hu⟩
    | succ i =>
      obtain ⟨c, hk, hc⟩ := ih h2 i x (by simpa using hx)
      refine ⟨c, hk, fun j u hu => ?_⟩
      have hl := d.len h1
      rw [List.getElem?_append_right (by rw [Nat.add_mul]; omega), show (i + 1) * d.sz + j - c'.length = i * d.sz + j by rw [Nat.add_mul]; omega]
      exact hc j u hu
theorem Cells.one (h : Cells d w S xs cs) : ∀ u ∈ cs, u.oneCell' = true := by
  induction xs generalizing cs with
  | nil => rw [show cs = [] from h]; simp
  | cons y xs ih =>
    obtain ⟨c', r, rfl, h1, h2⟩ := h
    intro u hu
    rcases List.mem_append.1 hu with hu | hu
    · exact d.one h1 u hu
    · exact ih h2 u hu
end

/-- A slice of n elements that owns its row: the cells from the head of a block on (its capacity may end before the block does). -/
def owns (w : World) (base : Nat) (e : TypeId) (size : Nat) (v : Value) (n : Nat) (xs : List Value) : Prop :=
  xs.length = n * size ∧
  ((v = .slice none 0 0 ∧ n = 0) ∨
   ∃ g cap cur, v = .slice (some ⟨g, 0, none⟩) n cap ∧ base ≤ g ∧ w.heap[g]? = some (.cells cur e (0, 0)) ∧ n ≤ cap ∧ cap ≤ maxLen ∧ cap * size ≤ cur.size ∧ cur.toList.take (n * size) = xs)
theorem owns_of {w : World} {base : Nat} {e : TypeId} {size : Nat} {v : Value} {n : Nat} {xs : List Value} (h : w.ownsRow base e size v n xs) : owns w base e size v n xs := by
  obtain ⟨h1, h2⟩ := h
  refine ⟨h1, ?_⟩
  rcases h2 with h2 | ⟨g, cap, cur, r1, r2, r3, r4, r5, r6, r7⟩
  · exact .inl h2
  · exact .inr ⟨g, cap, cur, r1, r2, r3, r4, r5, by omega, r7⟩
section
variable {w : World} {base : Nat} {e : TypeId} {size : Nat} {v : Value} {n : Nat} {xs : List Value}
theorem owns.lt (h : owns w base e size v n xs) : ∀ k, v.ownBlock = some k → base ≤ k ∧ k < w.heap.size := by
  intro k hk
  rcases h.2 with ⟨rfl, _⟩ | ⟨g, cap, cur, rfl, hb, hg, _⟩
  · simp [Value.ownBlock] at hk
  · simp [Value.ownBlock] at hk
    subst hk
    exact ⟨hb, (Array.getElem?_eq_some_iff.1 hg).1⟩
theorem owns.move {w1 : World} (h : owns w base e size v n xs) (hm : ∀ b, v.ownBlock = some b → w1.heap[b]? = w.heap[b]?) : owns w1 base e size v n xs := by
  refine ⟨h.1, ?_⟩
  rcases h.2 with h3 | ⟨g, cap, cur, rfl, hg, hh, r⟩
  · exact .inl h3
  · exact .inr ⟨g, cap, cur, rfl, hg, (hm g rfl).trans hh, r⟩
theorem owns.cells (h : owns w base e size v n xs) {g : Nat} (hg : v.ownBlock = some g) : ∀ j u, xs[j]? = some u → w.cell? ((⟨g, 0, none⟩ : Addr).add j) = some u := by
  intro j u hu
  rcases h.2 with ⟨rfl, _⟩ | ⟨g', cap, cur, rfl, _, hgg, _, _, _, htake⟩
  · simp [Value.ownBlock] at hg
  · simp [Value.ownBlock] at hg
    subst hg
    have hadd : (⟨g', 0, none⟩ : Addr).add j = ⟨g', j, none⟩ := by unfold Addr.add; split <;> simp_all
    rw [hadd, cell_of_row w g' j cur e (0, 0) hgg]
    rw [← htake, List.getElem?_take] at hu
    split at hu
    · simpa using hu
    · cases hu
end
/-- append onto a row of one's own: one that has room, or a new one. -/
theorem run_append_owns {P : Program} (w : World) (base : Nat) (t ty e : TypeId) (i : TypeInfo) (z : Value) (size bytes : Nat) (ht : P.underlying t = some (.slice e)) (hi : P.info? e = some i) (hz : i.zero = some z)
    (hsize : i.size = size) (hby : i.bytes = bytes) (hzs : z.cells.size = size) (hsz : 0 < size)
    (v : Value) (n : Nat) (xs : List Value) (hown : owns w base e size v n xs)
    (a : Addr) (m c : Nat) (news : List Value) (hl : news.length = m * size) (hnews : ∀ j u, news[j]? = some u → w.cell? (a.add j) = some u) (h1 : ∀ u ∈ news, u.oneCell' = true)
    (h63 : n + m ≤ maxLen) (hbytes : (n + m) * bytes ≤ 140737488355328) (hbase : base ≤ w.heap.size) :
    ∃ v' w', (Builtin.append_ #[t, t] ty #[v, .slice (some a) m c]).run P w = .ok v' w' ∧ owns w' base e size v' (n + m) (xs ++ news) ∧ w.grownBy w' v.ownBlock ∧
      (v'.ownBlock = v.ownBlock ∨ v'.ownBlock = some w.heap.size) := by
  subst hsize
  subst hby
  have hsmall : n + m ≤ 9223372036854775807 := by simp only [maxLen] at h63; omega
  have hlen : (xs ++ news).length = (n + m) * i.size := by rw [List.length_append, hown.1, hl, Nat.add_mul]
  have grown : ∀ (old : Nat), old < n + m → ∀ (row : Option Nat),
      owns (w.drew.alloc (.cells (xs.toArray ++ news.toArray ++ Builtin.zeroCells z.cells (grownCap w (n + m) old e - (n + m))) e)) base e i.size
        (.slice (some ⟨w.heap.size, 0, none⟩) (n + m) (grownCap w (n + m) old e)) (n + m) (xs ++ news) ∧
      w.grownBy (w.drew.alloc (.cells (xs.toArray ++ news.toArray ++ Builtin.zeroCells z.cells (grownCap w (n + m) old e - (n + m))) e)) row := by
    intro old ho row
    have hge := grownCap_ge w (n + m) old e
    have hcm : grownCap w (n + m) old e ≤ maxLen := grownCap_le_maxLen w (n + m) old e h63
    refine ⟨⟨hlen, .inr ⟨w.heap.size, _, _, rfl, hbase, heap_alloc_new w.drew _, hge, hcm, ?_, ?_⟩⟩, ⟨rfl, rfl, rfl, by simp, fun k hk _ => (Below.heap_alloc w.drew _ k hk : _)⟩⟩
    · apply Nat.le_of_eq
      simp only [Array.size_append, List.size_toArray, size_zeroCells, hzs, hown.1, hl, ← Nat.add_mul]
      congr 1
      omega
    · simp only [Array.toList_append, List.append_assoc]
      rw [← List.append_assoc, ← hlen]
      exact List.take_left
  rcases hown.2 with ⟨rfl, rfl⟩ | ⟨g, cap, cur, rfl, hbg, hg, hnc, hcm, hcs, htake⟩
  · have hx : xs = [] := List.eq_nil_of_length_eq_zero (by simpa using hown.1)
    subst hx
    by_cases hm : m = 0
    · subst hm
      have hn : news = [] := List.eq_nil_of_length_eq_zero (by simpa using hl)
      subst hn
      refine ⟨.slice none 0 0, w, ?_, owns_of (World.ownsRow_nil w base e i.size), ⟨rfl, rfl, rfl, Nat.le_refl _, fun _ _ _ => rfl⟩, Or.inl rfl⟩
      simp [Builtin.append_, run_underlying ht, sizeOf, typeInfo, hi, Builtin.lenOf, Builtin.firstCells, loadCells, loadCellsFrom]
    · have hr := run_append_nil (P := P) w t ty e i z ht hi hz a m c news hl hnews (by omega) (by omega) (by have hb := hbytes; simp only [Nat.zero_add] at hb; omega)
      have hgr := grown 0 (by omega) (Value.ownBlock (.slice none 0 0))
      simp only [Nat.zero_add, List.nil_append, Array.empty_append] at hgr ⊢
      exact ⟨_, _, hr, hgr.1, hgr.2, Or.inr rfl⟩
  · by_cases hroom : n + m ≤ cap
    · have hfit : n * i.size + news.length ≤ cur.size := by rw [hl, ← Nat.add_mul]; exact Nat.le_trans (Nat.mul_le_mul_right _ hroom) hcs
      have hr := run_append_room (P := P) w t ty e i ht hi g n cap cur hg a m c news hl hnews h1 hroom hfit
      refine ⟨_, _, hr, ⟨hlen, .inr ⟨g, cap, _, rfl, hbg, setRow_heap w g cur _ e _ hg, hroom, hcm, ?_, ?_⟩⟩, ⟨rfl, rfl, rfl, by simp, fun k _ hk => setRow_other w g k _ (fun e => hk (by simp [Value.ownBlock, e]))⟩, Or.inl rfl⟩
      · simp only [List.size_toArray, List.length_append, List.length_take, List.length_drop, Array.length_toList]
        omega
      · rw [htake, ← hlen]
        exact List.take_left
    · have holds : ∀ j u, xs[j]? = some u → w.cell? ((⟨g, 0, none⟩ : Addr).add j) = some u := hown.cells (g := g) rfl
      have hr := run_append_grow (P := P) w t ty e i z ht hi hz ⟨g, 0, none⟩ n cap xs hown.1 holds a m c news hl hnews (by omega) (by omega) (growslice_fits (by omega) hbytes)
      have hgr := grown cap (by omega) (Value.ownBlock (.slice (some ⟨g, 0, none⟩) n cap))
      exact ⟨_, _, hr, hgr.1, hgr.2, Or.inr rfl⟩

/-- A slice whose row (element type e) is the call's own; what its elements lead to lies in T, and not in that row. -/
def Own {α : Type} (d : Kd α) (e : TypeId) (w : World) (base : Nat) (T : Nat → Prop) (v : Value) (xs : List α) : Prop :=
  xs.length ≤ 140737488355328 ∧ ∃ cells, owns w base e d.sz v xs.length cells ∧ Cells d w (fun b => T b ∧ some b ≠ v.ownBlock) xs cells

section
variable {α : Type} {d : Kd α} {e : TypeId} {w w1 : World} {base : Nat} {T T' : Nat → Prop} {v : Value} {xs : List α}
theorem Own.nil (d : Kd α) (e : TypeId) (w : World) (base : Nat) (T : Nat → Prop) : Own d e w base T (.slice none 0 0) [] := ⟨by simp, [], owns_of (World.ownsRow_nil _ _ _ _), rfl⟩
theorem Own.lt (h : Own d e w base T v xs) (k : Nat) (hk : v.ownBlock = some k) : base ≤ k ∧ k < w.heap.size := by
  obtain ⟨_, cells, h1, _⟩ := h
  exact h1.lt k hk
theorem Own.shape (h : Own d e w base T v xs) : ∃ A c, v = .slice A xs.length c ∧ xs.length ≤ c := by
  obtain ⟨_, cells, ⟨_, h1⟩, _⟩ := h
  rcases h1 with ⟨rfl, h1⟩ | ⟨g, cap, cur, rfl, _, _, hn, _⟩
  · exact ⟨none, 0, by rw [h1], by omega⟩
  · exact ⟨_, cap, rfl, hn⟩
theorem Own.shape' (h : Own d e w base T v xs) : ∃ A n c, v = .slice A n c ∧ n = xs.length ∧ n ≤ c := by
  obtain ⟨A, c, h1, h2⟩ := h.shape
  exact ⟨A, _, c, h1, rfl, h2⟩
/-- It is kept where neither its row nor what its elements lead to is written. -/
theorem Own.move (h : Own d e w base T v xs) (hm : ∀ b, (T b ∨ v.ownBlock = some b) → b < w.heap.size → w1.heap[b]? = w.heap[b]?) (hT : ∀ b, T b → b < w.heap.size → T' b) : Own d e w1 base T' v xs := by
  obtain ⟨h0, cells, h1, h2⟩ := h
  exact ⟨h0, cells, h1.move (fun b hb => hm b (.inr hb) (h1.lt b hb).2), h2.move (fun b hb hl => hm b (.inl hb.1) hl) (fun b hb hl => ⟨hT b hb.1 hl, hb.2⟩)⟩
theorem Own.below (h : Own d e w base T v xs) (hb : Below w.heap.size w w1) : Own d e w1 base T v xs := h.move (fun b _ hl => hb.block b hl) (fun _ h _ => h)
theorem Own.alloc (h : Own d e w base T v xs) (o : Obj) : Own d e (w.alloc o) base T v xs := h.below ((Below.refl _ _).alloc (Nat.le_refl _) o)
theorem Own.setCell (h : Own d e w base T v xs) {p : Addr} (h1 : ¬ T p.block) (h2 : v.ownBlock ≠ some p.block) (u : Value) : Own d e (w.setCell p u) base T v xs :=
  h.move (fun b hb _ => Below.heap_setCell w p u b (fun e => by subst e; exact hb.elim h1 h2)) (fun _ h _ => h)
theorem heap_set {w : World} {g : Nat} {t : TypeId} {cs : Array Value} {fr : Nat × Nat} (h : w.heap[g]? = some (.cells cs t fr)) (i : Nat) (u : Value) : (w.setCell ⟨g, i, none⟩ u).heap[g]? = some (.cells (cs.setIfInBounds i u) t fr) := by
  simp [World.setCell, Array.getElem?_modify, h]
/-- It reads as its elements. -/
theorem Own.K (h : Own d e w base T v xs) : d.slice.K w (fun b => T b ∨ base ≤ b) xs [v] := by
  obtain ⟨A, c, rfl, hc⟩ := h.shape
  obtain ⟨h0, cells, h1, h2⟩ := h
  refine ⟨A, c, rfl, hc, h0, fun i x hx => ?_⟩
  obtain ⟨cs, hk, hcs⟩ := h2.get i x hx
  rcases h1.2 with ⟨h3, h4⟩ | ⟨g, cap, cur, h3, hg, hh, _⟩
  · have := (List.getElem?_eq_some_iff.1 hx).1
    omega
  · injection h3 with h3 h4 h5
    subst h3
    refine ⟨⟨g, 0, none⟩, cs, rfl, .inr hg, (Array.getElem?_eq_some_iff.1 hh).1, d.mono (fun b hb _ => .inl hb.1) hk, fun j u hu => ?_⟩
    exact h1.cells (g := g) rfl _ u (hcs j u hu)
theorem Own.lower {base' : Nat} (h : Own d e w base T v xs) (hb : base' ≤ base) : Own d e w base' T v xs := by
  obtain ⟨h0, cells, h1, h2⟩ := h
  refine ⟨h0, cells, ⟨h1.1, ?_⟩, h2⟩
  rcases h1.2 with h3 | ⟨g, cap, cur, rfl, hg, r⟩
  · exact .inl h3
  · exact .inr ⟨g, cap, cur, rfl, by omega, r⟩
end

theorem take_snoc {α : Type} {l : List α} {k : Nat} {x : α} (h : l[k]? = some x) : l.take (k + 1) = l.take k ++ [x] := by
  obtain ⟨hk, rfl⟩ := List.getElem?_eq_some_iff.1 h
  exact List.take_succ_eq_append_getElem hk

/-- The cells of a row that is read. -/
theorem Kd.Row.cells {α : Type} {d : Kd α} {w : World} {S : Nat → Prop} {a : Addr} {ys : List α} (h : d.Row w S (some a) ys) : ∃ news, Cells d w S ys news ∧ ∀ (j : Nat) u, news[j]? = some u → w.cell? (a.add j) = some u := by
  have key : ∀ n, n ≤ ys.length → ∃ news, Cells d w S (ys.take n) news ∧ ∀ (j : Nat) u, news[j]? = some u → w.cell? (a.add j) = some u := by
    intro n
    induction n with
    | zero => intro _; exact ⟨[], rfl, fun j u hu => by simp at hu⟩
    | succ n ih =>
      intro hn
      obtain ⟨news, h1, h2⟩ := ih (by omega)
      have hx : ys[n]? = some ys[n] := List.getElem?_eq_getElem (by omega)
      obtain ⟨a', cs, he, _, _, h4, h5⟩ := h n _ hx
      injection he with he
      subst he
      refine ⟨news ++ cs, by rw [take_snoc hx]; exact h1.snoc h4, fun j u hu => ?_⟩
      have hl := h1.len
      rw [List.length_take, Nat.min_eq_left (by omega)] at hl
      rw [List.getElem?_append] at hu
      split at hu
      · exact h2 j u hu
      · have := h5 _ u hu
        rwa [show n * d.sz + (j - news.length) = j by omega] at this
  obtain ⟨news, h1, h2⟩ := key ys.length (Nat.le_refl _)
  rw [List.take_of_length_le (Nat.le_refl _)] at h1
  exact ⟨news, h1, h2⟩

/-- What an append leaves. -/
theorem Own.appended {α : Type} {d : Kd α} {e : TypeId} {W w1 : World} {base : Nat} {T Tp : Nat → Prop} {v v1 : Value} {xs ys : List α} {cells news : List Value} (h0 : xs.length + ys.length ≤ 140737488355328)
    (hr : Cells d W (fun b => T b ∧ some b ≠ v.ownBlock) xs cells) (hy : Cells d W Tp ys news) (hTp : ∀ b, Tp b → b < W.heap.size → T b ∧ some b ≠ v.ownBlock)
    (hown1 : owns w1 base e d.sz v1 (xs.length + ys.length) (cells ++ news)) (hg : W.grownBy w1 v.ownBlock) (hat : v1.ownBlock = v.ownBlock ∨ ∃ b, v1.ownBlock = some b ∧ W.heap.size ≤ b) : Own d e w1 base T v1 (xs ++ ys) := by
  have hne : ∀ b, some b ≠ v.ownBlock → b < W.heap.size → some b ≠ v1.ownBlock := by
    intro b hb hlt
    rcases hat with h1 | ⟨q, h1, h2⟩
    · rw [h1]; exact hb
    · rw [h1]; intro h3; injection h3 with h3; omega
  refine ⟨by simp; omega, cells ++ news, by simpa using hown1, Cells.append ?_ ?_⟩
  · exact hr.move (fun b hb hlt => hg.block b hlt hb.2) (fun b hb hlt => ⟨hb.1, hne b hb.2 hlt⟩)
  · exact hy.move (fun b hb hlt => hg.block b hlt (hTp b hb hlt).2) (fun b hb hlt => ⟨(hTp b hb hlt).1, hne b (hTp b hb hlt).2 hlt⟩)

/-- append(v, ys...): the run. -/
theorem Own.append_run {P : Program} {α : Type} {d : Kd α} {W : World} {base : Nat} {t ty e : TypeId} {z : Value} {bytes : Nat}
    (ht : P.underlying t = some (.slice e)) (hinfo : (P.info? e).map (fun i => (i.zero, i.size, i.bytes)) = some (some z, d.sz, bytes)) (hz : z.cells.size = d.sz) (hs0 : 0 < d.sz) (hb0 : 0 < bytes)
    {v : Value} {xs ys : List α} {T Tr Tp : Nat → Prop} {A : Option Addr} {m c : Nat} (HO : Own d e W base T v xs) (hm : ys.length = m) (hy : d.Row W Tr A ys) (hE : ∀ x cs, d.K W Tr x cs → d.K W Tp x cs) (hTp : ∀ b, Tp b → b < W.heap.size → T b ∧ some b ≠ v.ownBlock)
    (hbase : base ≤ W.heap.size) (hl : (xs.length + m) * bytes ≤ 140737488355328) :
    ∃ v1 w1, (Builtin.append_ #[t, t] ty #[v, .slice A m c]).run P W = .ok v1 w1 ∧ Own d e w1 base T v1 (xs ++ ys) ∧ W.grownBy w1 v.ownBlock ∧ (v1.ownBlock = v.ownBlock ∨ ∃ b, v1.ownBlock = some b ∧ W.heap.size ≤ b) := by
  subst hm
  obtain ⟨h0, cells, hown, hr⟩ := HO
  obtain ⟨i0, hi, hzz⟩ := Option.map_eq_some_iff.1 hinfo
  simp only [Prod.mk.injEq] at hzz
  obtain ⟨hz0, hz1, hz2⟩ := hzz
  have hlen : xs.length + ys.length ≤ 140737488355328 := Nat.le_trans (Nat.le_mul_of_pos_right _ hb0) hl
  rcases A with _ | a
  · have hn : ys = [] := by
      cases ys with
      | nil => rfl
      | cons y ys =>
        obtain ⟨a, _, h, _⟩ := hy 0 y rfl
        cases h
    subst hn
    refine ⟨v, W, ?_, ⟨by simpa using h0, cells, by simpa using hown, by simpa using hr⟩, ⟨rfl, rfl, rfl, Nat.le_refl _, fun _ _ _ => rfl⟩, .inl rfl⟩
    rcases hown.2 with ⟨rfl, hn⟩ | ⟨g, cap, cur, rfl, _, _, hnc, _⟩
    · simp [Builtin.append_, run_underlying ht, sizeOf, typeInfo, hi, Builtin.lenOf, Builtin.firstCells]
    · simp [Builtin.append_, run_underlying ht, sizeOf, typeInfo, hi, Builtin.lenOf, Builtin.firstCells, hnc, storeCells]
  · obtain ⟨news, hc1, hc2⟩ := hy.cells
    obtain ⟨v1, w1, hrun, hown1, hg, hat⟩ := run_append_owns (P := P) W base t ty e i0 z d.sz bytes ht hi hz0 hz1 hz2 hz hs0 v xs.length cells hown a ys.length c news hc1.len hc2 hc1.one (by simp only [maxLen]; omega) hl hbase
    have hat' : v1.ownBlock = v.ownBlock ∨ ∃ b, v1.ownBlock = some b ∧ W.heap.size ≤ b := by
      rcases hat with h | h
      · exact .inl h
      · exact .inr ⟨_, h, Nat.le_refl _⟩
    exact ⟨v1, w1, hrun, Own.appended hlen hr (hc1.imp hE) hTp hown1 hg hat', hg, hat'⟩

section
variable {P : Program} {ops : Array Oper} {rest : List Oper} {o : Oper} {a : Act} {Q : Exit → Act → World → Prop} {α : Type}
/-- v = append(v, ys...), ys a slice that is read: behind 'at_builtin'. -/
theorem appends_arm (d : Kd α) {w0 W : World} (base : Nat) (hgd : o.guard = none) (s x : Operand) (t e : TypeId) (z : Value) (bytes : Nat)
    (ho : o.op = .call { callee := .builtin .append, args := #[s, x], argTypes := #[t, t] })
    (ht : P.underlying t = some (.slice e)) (hinfo : (P.info? e).map (fun i => (i.zero, i.size, i.bytes)) = some (some z, d.sz, bytes)) (hz : z.cells.size = d.sz) (hs0 : 0 < d.sz) (hb0 : 0 < bytes)
    (v : Value) (xs ys : List α) (A : Option Addr) (m c : Nat) (T Tr Tp : Nat → Prop) (hs : a.eval s = v) (hx : a.eval x = .slice A m c)
    (hm : ys.length = m) (hy : d.Row W Tr A ys) (hE : ∀ x cs, d.K W Tr x cs → d.K W Tp x cs) (hTp : ∀ b, Tp b → b < W.heap.size → T b ∧ some b ≠ v.ownBlock)
    (HO : Own d e W base T v xs) (HB : Below base w0 W) (hbase : base ≤ W.heap.size) (hl : (xs.length + m) * bytes ≤ 140737488355328)
    (h : ∀ v1 w1, Own d e w1 base T v1 (xs ++ ys) → Below base w0 w1 → W.grownBy w1 v.ownBlock → (v1.ownBlock = v.ownBlock ∨ ∃ b, v1.ownBlock = some b ∧ W.heap.size ≤ b) → wpList P ops Q rest (a.put o.dst v1) w1) :
    wpList P ops Q (o :: rest) a W := by
  obtain ⟨v1, w1, hrun, h1, h2, h3⟩ := Own.append_run (ty := o.type) (c := c) ht hinfo hz hs0 hb0 HO hm hy hE hTp hbase hl
  refine wpList_plain hgd fun K hK => ?_
  unfold Oper.wp execOp
  simp only [ho, resolve, invoke, builtin, Sem.run_bind, Sem.run_pure, Result.andThen_ok, List.map_toArray, List.map_cons, List.map_nil, hs, hx, hrun]
  exact hK _ _ (h v1 w1 h1 (HB.grown h2 hbase (fun k hk => (HO.lt k hk).1)) h2 h3)
/-- The same as a step of a region that draws its order ('go_region_law'). -/
theorem appends_step (d : Kd α) {E : Prop} {K : Act → World → Prop} {W : World} (base : Nat) (hgd : o.guard = none) (s x : Operand) (t e : TypeId) (z : Value) (bytes : Nat)
    (ho : o.op = .call { callee := .builtin .append, args := #[s, x], argTypes := #[t, t] })
    (ht : P.underlying t = some (.slice e)) (hinfo : (P.info? e).map (fun i => (i.zero, i.size, i.bytes)) = some (some z, d.sz, bytes)) (hz : z.cells.size = d.sz) (hs0 : 0 < d.sz) (hb0 : 0 < bytes)
    (v : Value) (xs ys : List α) (A : Option Addr) (m c : Nat) (T Tr Tp : Nat → Prop) (hs : a.eval s = v) (hx : a.eval x = .slice A m c)
    (hm : ys.length = m) (hy : d.Row W Tr A ys) (hE : ∀ x cs, d.K W Tr x cs → d.K W Tp x cs) (hTp : ∀ b, Tp b → b < W.heap.size → T b ∧ some b ≠ v.ownBlock)
    (HO : Own d e W base T v xs) (hbase : base ≤ W.heap.size) (hl : (xs.length + m) * bytes ≤ 140737488355328)
    (h : ∀ v1 w1, Own d e w1 base T v1 (xs ++ ys) → W.grownBy w1 v.ownBlock → (v1.ownBlock = v.ownBlock ∨ ∃ b, v1.ownBlock = some b ∧ W.heap.size ≤ b) → K (a.put o.dst v1) w1) :
    if Region.wanted o (yielded ops a.tmps) = true then Oper.wp P o a W K Q else E := by
  rw [if_pos (by simp [Region.wanted, hgd])]
  obtain ⟨v1, w1, hrun, h1, h2, h3⟩ := Own.append_run (ty := o.type) (c := c) ht hinfo hz hs0 hb0 HO hm hy hE hTp hbase hl
  unfold Oper.wp execOp
  simp only [ho, resolve, invoke, builtin, Sem.run_bind, Sem.run_pure, Result.andThen_ok, List.map_toArray, List.map_cons, List.map_nil, hs, hx, hrun]
  exact h v1 w1 h1 h2 h3
/-- v = append(v, p), behind 'at_builtin'; the goal's world is 'W.alloc' of the one new element's cells. -/
theorem append_arm (d : Kd α) {w0 W : World} (base : Nat) (hgd : o.guard = none) (s x : Operand) (t e : TypeId) (z : Value) (bytes : Nat)
    (ho : o.op = .call { callee := .builtin .append, args := #[s, x], argTypes := #[t, t] })
    (ht : P.underlying t = some (.slice e)) (hinfo : (P.info? e).map (fun i => (i.zero, i.size, i.bytes)) = some (some z, d.sz, bytes)) (hz : z.cells.size = d.sz) (hs0 : 0 < d.sz) (hb0 : 0 < bytes)
    (v : Value) (xs : List α) (p : α) (cs : List Value) (T Tp : Nat → Prop) (hs : a.eval s = v) (hx : a.eval x = .slice (some ⟨W.heap.size, 0, none⟩) 1 1)
    (hp : d.K W Tp p cs) (hTp : ∀ b, Tp b → b < W.heap.size → T b ∧ some b ≠ v.ownBlock)
    (HO : Own d e W base T v xs) (HB : Below base w0 W) (hbase : base ≤ W.heap.size) (hl : (xs.length + 1) * bytes ≤ 140737488355328)
    (h : ∀ v1 w1, Own d e w1 base T v1 (xs ++ [p]) → Below base w0 w1 → W.grownBy w1 v.ownBlock → (v1.ownBlock = v.ownBlock ∨ ∃ b, v1.ownBlock = some b ∧ W.heap.size ≤ b) → wpList P ops Q rest (a.put o.dst v1) w1) :
    wpList P ops Q (o :: rest) a (W.alloc (.cells cs.toArray e)) := by
  obtain ⟨h0, cells, hown, hr⟩ := HO
  obtain ⟨i0, hi, hzz⟩ := Option.map_eq_some_iff.1 hinfo
  simp only [Prod.mk.injEq] at hzz
  obtain ⟨hz0, hz1, hz2⟩ := hzz
  have hlen : xs.length + 1 ≤ 140737488355328 := Nat.le_trans (Nat.le_mul_of_pos_right _ hb0) hl
  have hcs : cs.length = d.sz := d.len hp
  have hown' : owns (W.alloc (.cells cs.toArray e)) base e d.sz v xs.length cells := hown.move (fun b hb => Below.heap_alloc W _ b (hown.lt b hb).2)
  obtain ⟨v1, w1, hrun, hown1, hg, hat⟩ := run_append_owns (P := P) (W.alloc (.cells cs.toArray e)) base t o.type e i0 z d.sz bytes ht hi hz0 hz1 hz2 hz hs0 v xs.length cells hown' ⟨W.heap.size, 0, none⟩ 1 1 cs (by rw [hcs]; simp)
    (by simpa using World.news_of_block (cs := cs.toArray) (t := e) (fr := (0, 0)) (heap_alloc_new W (.cells cs.toArray e))) (d.one hp) (by simp only [maxLen]; omega) hl (by simp; omega)
  have hg' : W.grownBy w1 v.ownBlock := World.grownBy.trans (World.grownBy_alloc W _ _) hg
  have hat' : v1.ownBlock = v.ownBlock ∨ ∃ b, v1.ownBlock = some b ∧ W.heap.size ≤ b := by
    rcases hat with hat | hat
    · exact .inl hat
    · exact .inr ⟨_, hat, by simp⟩
  refine wpList_plain hgd fun K hK => ?_
  unfold Oper.wp execOp
  simp only [ho, resolve, invoke, builtin, Sem.run_bind, Sem.run_pure, Result.andThen_ok, List.map_toArray, List.map_cons, List.map_nil, hs, hx, hrun]
  exact hK _ _ (h v1 w1 (Own.appended (ys := [p]) (by simpa using hlen) hr (news := cs) ⟨cs, [], by simp, hp, rfl⟩ hTp (by simpa using hown1) hg' hat') ((HB.alloc hbase _).grown hg (by simp; omega) (fun k hk => (hown.lt k hk).1)) hg' hat')
end

/-! ### A row that was just written out -/
theorem cells_flat {α : Type} {n : Nat} {enc : α → List Value} {hl : ∀ x, (enc x).length = n} {h1 : ∀ x, ∀ u ∈ enc x, u.oneCell' = true} {w : World} {S : Nat → Prop} (xs : List α) : Cells (Kd.flat n enc hl h1) w S xs (xs.flatMap enc) := by
  induction xs with
  | nil => rfl
  | cons x xs ih => exact ⟨enc x, xs.flatMap enc, by simp, rfl, ih⟩
theorem K_of_block {α : Type} {d : Kd α} {w : World} {S : Nat → Prop} {b : Nat} {cs : Array Value} {t : TypeId} {fr : Nat × Nat} {xs : List α} (n c : Nat) (hn : n = xs.length) (hb : w.heap[b]? = some (.cells cs t fr)) (hS : S b) (h : Cells d w S xs cs.toList) (hc : n ≤ c) (hm : xs.length ≤ 140737488355328) :
    d.slice.K w S xs [.slice (some ⟨b, 0, none⟩) n c] := by
  subst hn
  refine ⟨some ⟨b, 0, none⟩, c, rfl, hc, hm, fun i x hx => ?_⟩
  obtain ⟨q, hk, hq⟩ := h.get i x hx
  refine ⟨⟨b, 0, none⟩, q, rfl, hS, (Array.getElem?_eq_some_iff.1 hb).1, hk, fun j u hu => ?_⟩
  have := hq j u hu
  exact World.news_of_block hb _ _ this

/-- A literal's row, in the world in which it was just laid. -/
theorem K_new {α : Type} {n : Nat} {enc : α → List Value} {hl : ∀ x, (enc x).length = n} {h1 : ∀ x, ∀ u ∈ enc x, u.oneCell' = true} (W : World) (b : Nat) (hb : b = W.heap.size) (t : TypeId) (xs : List α) (hm : xs.length ≤ 140737488355328) :
    (Kd.flat n enc hl h1).slice.K (W.alloc (.cells (xs.flatMap enc).toArray t)) (fun b => W.heap.size ≤ b) xs [.slice (some ⟨b, 0, none⟩) xs.length xs.length] := by
  subst hb
  exact K_of_block (d := Kd.flat n enc hl h1) xs.length xs.length rfl (heap_alloc_new W _) (Nat.le_refl _) (by simpa using cells_flat xs) (Nat.le_refl _) hm
theorem flatMap_one {α β : Type} (f : α → β) (xs : List α) : xs.flatMap (fun x => [f x]) = xs.map f := by
  induction xs with
  | nil => rfl
  | cons x xs ih => rw [List.flatMap_cons, ih]; rfl
theorem K_newS (W : World) (b : Nat) (hb : b = W.heap.size) (t : TypeId) (xs : List ByteArray) (hm : xs.length ≤ 140737488355328) :
    Kd.str.slice.K (W.alloc (.cells (xs.map Value.string).toArray t)) Any xs [.slice (some ⟨b, 0, none⟩) xs.length xs.length] := by
  have := Kd.any (K_new (enc := fun x => [Value.string x]) (hl := fun _ => rfl) (h1 := fun x u hu => by rw [List.mem_singleton.1 hu]; rfl) W b hb t xs hm)
  rw [show xs.flatMap (fun x => [Value.string x]) = xs.map Value.string from flatMap_one _ _] at this
  exact this

/-! ### bits of a uint64 -/
theorem pow_lt64 {j : Nat} (h : j < 64) : 2 ^ j < 2 ^ 64 := Nat.pow_lt_pow_right (by decide) h
theorem wrap_pow {j : Nat} (h : j < 64) : IntKind.u64.wrap (2 ^ j) = ((1 <<< j : Nat) : Int) := by
  rw [Nat.one_shiftLeft, IntKind.wrap_u64]
  have := pow_lt64 h
  have e : ((2 : Int) ^ j) = ((2 ^ j : Nat) : Int) := by simp
  rw [e]
  generalize 2 ^ j = q at *
  omega
theorem or_bit {t j : Nat} (ht : t < 2 ^ 64) (h : j < 64) : bits .or .u64 (t : Int) (IntKind.u64.wrap (2 ^ j)) = ((t ||| 1 <<< j : Nat) : Int) := by
  rw [wrap_pow h]
  exact u64_or_nat _ _ (by omega) (by rw [Nat.one_shiftLeft]; exact pow_lt64 h)
theorem bit_test {t j : Nat} (ht : t < 2 ^ 64) : (bits .and .u64 ((t : Int) / 2 ^ j) 1 == 1) = t.testBit j := by
  have e : ((t : Int) / 2 ^ j) = ((t / 2 ^ j : Nat) : Int) := by simp
  rw [e, show (1 : Int) = ((1 : Nat) : Int) from rfl, u64_and_nat _ _ (Nat.lt_of_le_of_lt (Nat.div_le_self _ _) (by omega)) (by omega), Nat.testBit_eq_decide_div_mod_eq]
  rw [Nat.and_one_is_mod]
  rw [Bool.eq_iff_iff, beq_iff_eq, decide_eq_true_iff]
  generalize t / 2 ^ j = q
  omega
theorem or_bit_lt {t j : Nat} (ht : t < 2 ^ 64) (h : j < 64) : t ||| 1 <<< j < 2 ^ 64 := by
  rw [Nat.one_shiftLeft]
  exact Nat.or_lt_two_pow ht (pow_lt64 h)

theorem u64_range {t : Int} (h : (Lit.int .u64 t).wf = true) : 0 ≤ t ∧ t < 18446744073709551616 := by
  simp [Lit.wf, IntKind.min, IntKind.max, IntKind.bits, IntKind.signed] at h
  omega

/-! ### min and max of numbers: one value, no parting -/
theorem min2_run (k k' : IntKind) (x y : Int) : Builtin.min2 (.int k x) (.int k' y) = pure (.int k (min x y)) := by
  simp only [Builtin.min2]
  by_cases h : y < x
  · rw [if_pos h, show min x y = y by omega]
  · rw [if_neg h, show min x y = x by omega]
theorem max2_run (k k' : IntKind) (x y : Int) : Builtin.max2 (.int k x) (.int k' y) = pure (.int k (max x y)) := by
  simp only [Builtin.max2]
  by_cases h : y > x
  · rw [if_pos h, show max x y = y by omega]
  · rw [if_neg h, show max x y = x by omega]
theorem min_run (P : Program) (w : World) (ats : Array TypeId) (ty : TypeId) (k k' : IntKind) (x y : Int) : (Builtin.min_ ats ty #[.int k x, .int k' y]).run P w = .ok (.int k (min x y)) w := by
  simp [Builtin.min_, min2_run]
attribute [go_sem high] min_run
theorem max_run (P : Program) (w : World) (ats : Array TypeId) (ty : TypeId) (k k' : IntKind) (x y : Int) : (Builtin.max_ ats ty #[.int k x, .int k' y]).run P w = .ok (.int k (max x y)) w := by
  simp [Builtin.max_, max2_run]
attribute [go_sem high] max_run
theorem min_run3 (P : Program) (w : World) (ats : Array TypeId) (ty : TypeId) (k k' k'' : IntKind) (x y z : Int) : (Builtin.min_ ats ty #[.int k x, .int k' y, .int k'' z]).run P w = .ok (.int k (min (min x y) z)) w := by
  simp [Builtin.min_, min2_run]
attribute [go_sem high] min_run3

theorem Own.drewN {α : Type} {d : Kd α} {e : TypeId} {w : World} {base : Nat} {T : Nat → Prop} {v : Value} {xs : List α} (h : Own d e w base T v xs) (n : Nat) : Own d e (w.drewN n) base T v xs := h.below (below_drewN (Below.refl _ _) n)
theorem Kd.drewN {α : Type} {d : Kd α} {w : World} {S : Nat → Prop} {x : α} {cs : List Value} (h : d.K w S x cs) (n : Nat) : d.K (w.drewN n) S x cs := Kd.below h (below_drewN (Below.refl _ _) n)
theorem size_num1 (c : Int) : (strOfNums [c]).size = 1 := strOfNums_size _
attribute [go_sem] size_num1
/-- 'string(b)' of a literal of bytes, just laid. -/
theorem conv_new1 {P : Program} {src e dst : TypeId} (hs : P.underlying src = some (.slice e)) (he : P.underlying e = some (.int .u8)) (hd : P.underlying dst = some .string) (W : World) (c : Int) :
    (convert src dst (.slice (some ⟨W.heap.size, 0, none⟩) 1 1)).run P (W.alloc (.cells #[.int .u8 c] e)) = .ok (.string (strOfNums [c])) (W.alloc (.cells #[.int .u8 c] e)) := by
  refine run_convert_bytes_arg _ src e hs he W.heap.size 0 1 1 [c] rfl (fun i hi => ?_) dst hd
  obtain rfl : i = 0 := by omega
  simp
theorem ret_bool {a b : Bool} (h : a = b) : Ending.returned (.bool a) = Ending.returned (.bool b) := by rw [h]
theorem ret_int {k : IntKind} {a b : Int} (h : a = b) : Ending.returned (.int k a) = Ending.returned (.int k b) := by rw [h]
theorem ret_str {a b : ByteArray} (h : a = b) : Ending.returned (.string a) = Ending.returned (.string b) := by rw [h]
theorem makeFunc_run (P : Program) : ∀ (fn : Fn) (first cap : Array Value) (w : World), (Instr.makeFunc fn first cap).run P w = .ok (.func fn first cap) w := fun _ _ _ _ => rfl

end Go.Proofs.Ytolckkckheiceaa
