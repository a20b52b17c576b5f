/- What comes in: a parameter's reading gives its Lean value, by kind. No Go program in sight. -/
import Derived.SizedLaws
import Derived.ChangeArms
import Derived.DataReads
import Derived.ChangeOld
import Derived.Test.YtolckkckheiceaaLib
namespace Go.Proofs.Ytolckkckheiceaa
open Go.RowKit

/-- Whatever reads at type t is a value of kind d; ok: what is known of it. -/
def Opens {α : Type} (P : Program) (t : TypeId) (d : Kd α) (ok : α → Prop) : Prop :=
  ∀ {H : Type} (enc : TypeId × Value → H) (w : World) (spare : Nat → Bool) (held : Bool) (fuel : Nat) (cs : List Value) (x : DataW H × List MemPlace),
    DataW.trod enc P w 0 spare held fuel t cs = some x → (∀ n ∈ DataW.weights P t x.1, n ≤ reachBytes) → ∃ y, d.K w Any y cs ∧ ok y

section
variable {P : Program} {t e : TypeId}
theorem opens_int {k : IntKind} (ht : P.underlying t = some (.int k)) : Opens P t (Kd.int k) (fun y => (Lit.int k y).wf = true) := by
  intro H enc w spare held fuel cs x h _
  obtain ⟨n, rfl, _, hw⟩ := DataW.trod_int ht h
  exact ⟨n, rfl, hw⟩
theorem opens_bool (ht : P.underlying t = some .bool) : Opens P t Kd.bool (fun _ => True) := by
  intro H enc w spare held fuel cs x h _
  obtain ⟨b, rfl, _⟩ := DataW.trod_bool ht h
  exact ⟨b, rfl, trivial⟩
theorem opens_str (ht : P.underlying t = some .string) : Opens P t Kd.str (fun s => s.size ≤ 140737488351232) := by
  intro H enc w spare held fuel cs x h hz
  obtain ⟨s, rfl, rfl, _⟩ := DataW.trod_string ht h
  refine ⟨s, rfl, ?_⟩
  have := hz s.data.toList.length (by simp [DataW.weights])
  rw [Array.length_toList] at this
  exact this

theorem weights_mem_all {H : Type} {e : TypeId} : ∀ {ds : List (DataW H)} {d : DataW H}, d ∈ ds → ∀ n ∈ d.weights P e, n ∈ DataW.weightsAll P e ds
  | d0 :: ds, d, hd, n, hn => by
    simp only [DataW.weightsAll, List.mem_append]
    rcases List.mem_cons.1 hd with rfl | hd
    · exact .inl hn
    · exact .inr (weights_mem_all hd n hn)
  | [], _, hd, _, _ => by simp at hd

/-- A list of values, each as its index asks. -/
theorem choose_list {α : Type} {n : Nat} {p : Nat → α → Prop} (h : ∀ i, i < n → ∃ x, p i x) : ∃ l : List α, l.length = n ∧ ∀ i x, l[i]? = some x → p i x := by
  induction n with
  | zero => exact ⟨[], rfl, fun i x hx => by simp at hx⟩
  | succ n ih =>
    obtain ⟨l, hl, hp⟩ := ih (fun i hi => h i (by omega))
    obtain ⟨x, hx⟩ := h n (by omega)
    refine ⟨l ++ [x], by simp [hl], fun i y hy => ?_⟩
    rw [List.getElem?_append] at hy
    split at hy
    · exact hp i y hy
    · rename_i hi
      have : i - l.length = 0 := by
        rcases Nat.eq_zero_or_pos (i - l.length) with h0 | h0
        · exact h0
        · rw [List.getElem?_eq_none (by simp; omega)] at hy; cases hy
      rw [this] at hy
      obtain rfl : x = y := by simpa using hy
      rw [show i = n by omega]; exact hx

theorem opens_slice {α : Type} {d : Kd α} {ok : α → Prop} {B : Nat} (ht : P.underlying t = some (.slice e)) (hc : P.cellsOf e = d.sz) (hB : P.bytesOf e = B) (hs : 0 < d.sz) (hB0 : 0 < B) (ho : Opens P e d ok) :
    Opens P t d.slice (fun l => (∀ y ∈ l, ok y) ∧ l.length * B ≤ 140737488351232) := by
  intro H enc w spare held fuel cs x h hz
  rcases DataW.trod_slice ht h with ⟨rfl, _⟩ | ⟨a, len, cap, elems, rest, n, rfl, rfl, rfl, _, hl, hm, hlen, hel, _, _⟩
  · exact ⟨[], ⟨none, 0, rfl, by simp, by simp, Kd.Row.nil⟩, by simp, by simp⟩
  · have hw : ∀ q ∈ elems, ∀ k ∈ DataW.weights P e q.1, k ≤ reachBytes := fun q hq k hk => by
      refine hz k ?_
      simp only [DataW.weights, ht, List.mem_cons, List.mem_append]
      exact .inr (.inl (weights_mem_all (List.mem_map_of_mem hq) k hk))
    have hbig : (elems.length + rest.length) * B ≤ 140737488351232 := by
      have := hz ((elems.length + rest.length) * P.bytesOf e) (by simp [DataW.weights, ht])
      rw [hB] at this
      exact this
    have each : ∀ i, i < len → ∃ y, (∃ cs', d.K w Any y cs' ∧ w.cells? 0 (a.add (i * d.sz)) d.sz = some cs') ∧ ok y := fun i hi => by
      have h1 := hel i hi
      have hi' : i < elems.length := by omega
      rw [List.getElem?_eq_getElem hi', Option.bind_eq_some_iff, hc] at h1
      obtain ⟨cs', h2, h3⟩ := h1
      obtain ⟨y, h4, h5⟩ := ho enc w spare held n cs' _ h3 (hw _ (List.getElem_mem hi'))
      exact ⟨y, ⟨cs', h4, h2⟩, h5⟩
    obtain ⟨l, hl1, hl2⟩ := choose_list each
    have hlB : l.length * B ≤ 140737488351232 := Nat.le_trans (Nat.mul_le_mul_right _ (by omega)) hbig
    refine ⟨l, ⟨some a, cap, by rw [hl1], by omega, Nat.le_trans (Nat.le_mul_of_pos_right _ hB0) (by omega), fun i y hy => ?_⟩, fun y hy => ?_, hlB⟩
    · obtain ⟨⟨cs', h1, h2⟩, _⟩ := hl2 i y hy
      refine ⟨a, cs', rfl, trivial, ?_, h1, fun j u hu => ?_⟩
      · have := World.cells?_block h2 hs
        rwa [Kd.block_add] at this
      · have hj : j < d.sz := by have := (List.getElem?_eq_some_iff.1 hu).1; have h5 := (World.cells?_some h2).2.1; omega
        have := (World.cells?_some h2).2.2 j hj
        rw [Kd.add_add] at this
        rw [this]; exact hu
    · obtain ⟨i, hi⟩ := List.getElem?_of_mem hy
      exact (hl2 i y hi).2
theorem opened {α : Type} {d : Kd α} {ok : α → Prop} (ho : Opens P t d ok) {H : Type} {enc : TypeId × Value → H} {W : World} {spare : Nat → Bool} {held : Bool} {v : Value} {x : DataW H} {ps : List MemPlace} {ts : List TypeId} {ds : List (DataW H)} {j : Nat}
    (h : DataW.Trod enc P W 0 spare held t v x ps) (hz : (DataW.weightsEach P ts ds).all (· ≤ reachBytes) = true) (ht : ts[j]? = some t) (hd : ds[j]? = some x) : ∃ y, d.K W Any y v.cells.toList ∧ ok y := by
  obtain ⟨fuel, hf⟩ := h
  exact ho enc W spare held fuel _ _ hf (fun n hn => by simpa using List.all_eq_true.1 hz n (DataW.weights_mem_each ht hd n hn))
end

end Go.Proofs.Ytolckkckheiceaa
