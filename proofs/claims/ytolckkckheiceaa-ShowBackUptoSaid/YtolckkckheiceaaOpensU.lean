/- What comes in, where all that comes in is of small bulk ('Upto'): strings, lists of strings, lists of nodes. -/
import Derived.Test.YtolckkckheiceaaRows
import Derived.Test.YtolckkckheiceaaOpenS
import Derived.Test.YtolckkckheiceaaNeed0
namespace Go.Proofs.Ytolckkckheiceaa
open Go.RowKit

theorem ubulk_part {H : Type} {d : DataW H} {l : List (DataW H)} (h : d ∈ l) : Rows.uptoBulk d ≤ Rows.uptoBulkAll l := by
  induction l with
  | nil => cases h
  | cons x r ih =>
    simp only [Rows.uptoBulkAll]
    cases List.mem_cons.1 h with
    | inl e => subst e; omega
    | inr e => have := ih e; omega
theorem ubulk_one {H : Type} (d : DataW H) : 1 ≤ Rows.uptoBulk d := by
  cases d with
  | lit l => cases l <;> simp [Rows.uptoBulk]
  | nil => simp [Rows.uptoBulk]
  | ptr d => simp [Rows.uptoBulk]
  | slice elems spare => simp [Rows.uptoBulk]
  | agg parts => simp [Rows.uptoBulk]
  | iface t d => simp [Rows.uptoBulk]
  | map entries => simp [Rows.uptoBulk]
  | held h => simp [Rows.uptoBulk]
theorem ubulk_len {H : Type} (l : List (DataW H)) : l.length ≤ Rows.uptoBulkAll l := by
  induction l with
  | nil => simp [Rows.uptoBulkAll]
  | cons x r ih => have := ubulk_one x; simp only [Rows.uptoBulkAll, List.length_cons]; omega
theorem ubulk_bound {H : Type} {l : List (DataW H)} (hk : Rows.uptoSmall H l = true) : Rows.uptoBulkAll l ≤ 1048576 := of_decide_eq_true hk
/-- Whatever reads at type t, and is of small bulk, is a value of kind d. -/
def OpensU {α : Type} (P : Program) (t : TypeId) (d : Kd α) (ok : α → Prop) : Prop :=
  ∀ {H : Type} (enc : TypeId × Value → H) (w : World) (spare : Nat → Bool) (held : Bool) (fuel : Nat) (cs : List Value) (x : DataW H × List MemPlace),
    DataW.trod enc P w 0 spare held fuel t cs = some x → Rows.uptoBulk x.1 ≤ 1048576 → ∃ y, d.K w Any y cs ∧ ok y
section
variable {P : Program} {t e : TypeId}
theorem opensU_str (ht : P.underlying t = some .string) : OpensU P t Kd.str (fun s => s.size ≤ 1048576) := by
  intro H enc w spare held fuel cs x h hz
  obtain ⟨s, rfl, rfl, _⟩ := DataW.trod_string ht h
  refine ⟨s, rfl, ?_⟩
  simp only [Rows.uptoBulk] at hz
  rw [Array.length_toList] at hz
  exact Nat.le_trans (Nat.le_succ _) hz
theorem opensU_slice {α : Type} {d : Kd α} {ok : α → Prop} (ht : P.underlying t = some (.slice e)) (hc : P.cellsOf e = d.sz) (hs : 0 < d.sz) (ho : OpensU P e d ok) :
    OpensU P t d.slice (fun l => (∀ y ∈ l, ok y) ∧ l.length ≤ 1048576) := by
  intro H enc w spare held fuel cs x h hz
  rcases DataW.trod_slice ht h with ⟨rfl, _⟩ | ⟨a, len, cap, elems, rest, n, rfl, rfl, rfl, _, hl, hm, hlen, hel, _, _⟩
  · exact ⟨[], ⟨none, 0, rfl, by simp, by simp, Kd.Row.nil⟩, by simp, by simp⟩
  · simp only [Rows.uptoBulk] at hz
    have hb := ubulk_len (elems.map (·.1))
    rw [List.length_map] at hb
    have each : ∀ i, i < len → ∃ y, (∃ cs', d.K w Any y cs' ∧ w.cells? 0 (a.add (i * d.sz)) d.sz = some cs') ∧ ok y := fun i hi => by
      have h1 := hel i hi
      have hi' : i < elems.length := by omega
      rw [List.getElem?_eq_getElem hi', Option.bind_eq_some_iff, hc] at h1
      obtain ⟨cs', h2, h3⟩ := h1
      have hp := ubulk_part (List.mem_map_of_mem (f := (·.1)) (List.getElem_mem hi'))
      obtain ⟨y, h4, h5⟩ := ho enc w spare held n cs' _ h3 (by omega)
      exact ⟨y, ⟨cs', h4, h2⟩, h5⟩
    obtain ⟨l, hl1, hl2⟩ := choose_list each
    refine ⟨l, ⟨some a, cap, by rw [hl1], by omega, by omega, fun i y hy => ?_⟩, fun y hy => ?_, by omega⟩
    · obtain ⟨⟨cs', h1, h2⟩, _⟩ := hl2 i y hy
      refine ⟨a, cs', rfl, trivial, ?_, h1, fun j u hu => ?_⟩
      · have := World.cells?_block h2 hs
        rwa [Kd.block_add] at this
      · have hj : j < d.sz := by have := (List.getElem?_eq_some_iff.1 hu).1; have h5 := (World.cells?_some h2).2.1; omega
        have := (World.cells?_some h2).2.2 j hj
        rw [Kd.add_add] at this
        rw [this]; exact hu
    · obtain ⟨i, hi⟩ := List.getElem?_of_mem hy
      exact (hl2 i y hi).2
theorem openedU {α : Type} {d : Kd α} {ok : α → Prop} (ho : OpensU P t d ok) {H : Type} {enc : TypeId × Value → H} {W : World} {spare : Nat → Bool} {held : Bool} {v : Value} {x : DataW H} {ps : List MemPlace} {ds : List (DataW H)} {j : Nat}
    (h : DataW.Trod enc P W 0 spare held t v x ps) (hz : Rows.uptoBulkAll ds ≤ 1048576) (hd : ds[j]? = some x) : ∃ y, d.K W Any y v.cells.toList ∧ ok y := by
  obtain ⟨fuel, hf⟩ := h
  exact ho enc W spare held fuel _ _ hf (Nat.le_trans (ubulk_part (List.mem_of_getElem? hd)) hz)
end
theorem Try.opensUStrs : OpensU Try.prog 22 Kd.str.slice (fun l => (∀ y ∈ l, y.size ≤ 1048576) ∧ l.length ≤ 1048576) := opensU_slice Try.underlying22 (by kernel_rfl) (by decide) (opensU_str Try.underlying9)
theorem opensU_two {P : Program} {t e : TypeId} {k : IntKind} {fs : Array Field} (ht : P.underlying t = some (.struct fs)) (he : P.underlying e = some (.int k)) (hc : P.cellsOf t = 2) (hc1 : P.cellsOf e = 1) (hf : fs.toList.map (fun f => (f.type, f.offset)) = [(e, 0), (e, 1)]) : OpensU P t (Kd.pair (Kd.int k) (Kd.int k)) (fun _ => True) := by
  intro H enc w spare held fuel cs x hx _
  obtain ⟨xs, n, rfl, rfl, hl, hlen, hh⟩ := DataW.trod_struct ht hx
  have h2 : cs.length = 2 := by omega
  have hfl : fs.toList.length = 2 := by have := congrArg List.length hf; simpa using this
  have hx2 : xs.length = 2 := by rw [hlen]; simpa using hfl
  match hq : fs.toList, hfl with
  | [f0, f1], _ =>
    rw [hq] at hf
    simp only [List.map_cons, List.map_nil, List.cons.injEq, Prod.mk.injEq, and_true] at hf
    obtain ⟨⟨a0, b0⟩, a1, b1⟩ := hf
    have q0 := hh 0 f0 (by rw [← Array.getElem?_toList, hq]; rfl)
    have q1 := hh 1 f1 (by rw [← Array.getElem?_toList, hq]; rfl)
    rw [a0, b0, hc1] at q0
    rw [a1, b1, hc1] at q1
    match cs, h2, xs, hx2 with
    | [c0, c1], _, [z0, z1], _ =>
      obtain ⟨a, ha, _, _⟩ := DataW.trod_int he q0
      obtain ⟨b, hb, _, _⟩ := DataW.trod_int he q1
      exact ⟨(a, b), ⟨[c0], [c1], rfl, ha, hb⟩, trivial⟩
theorem Try.opensUNode : OpensU Try.prog 122 Kd.node (fun _ => True) := by
  intro H enc w spare held fuel cs x hx hb
  obtain ⟨y, ⟨c0, c1, rfl, h0, h1⟩, _⟩ := opensU_two Try.underlying122 Try.underlying3 (by kernel_rfl) (by kernel_rfl) (by kernel_rfl) enc w spare held fuel cs x hx hb
  cases h0; cases h1
  exact ⟨⟨y.1, y.2⟩, rfl, trivial⟩
theorem Try.opensUNodes : OpensU Try.prog 57 Kd.node.slice (fun l => (∀ y ∈ l, True) ∧ l.length ≤ 1048576) := opensU_slice Try.underlying57 (by kernel_rfl) (by decide) Try.opensUNode
end Go.Proofs.Ytolckkckheiceaa
