/- What comes in as a struct: by its fields. No Go program in sight. -/
import Derived.Test.YtolckkckheiceaaOpen
namespace Go.Proofs.Ytolckkckheiceaa
open Go.RowKit

/-- A struct type's fields: each one's type and the cell at which it begins. -/
def fieldsOf (P : Program) (t : TypeId) : List (TypeId × Nat) := match P.underlying t with
  | some (.struct fs) => fs.toList.map (fun f => (f.type, f.offset))
  | _ => []

def OpensF {α : Type} (P : Program) (l : List (TypeId × Nat)) (o : Nat) (d : Kd α) (ok : α → Prop) : Prop :=
  ∀ {H : Type} (enc : TypeId × Value → H) (w : World) (spare : Nat → Bool) (held : Bool) (fuel : Nat) (cs : List Value) (xs : List (DataW H × List MemPlace)),
    cs.length = d.sz → xs.length = l.length → (∀ (i : Nat) (t : TypeId) (off : Nat), l[i]? = some (t, off) → DataW.trod enc P w 0 spare held fuel t ((cs.drop (off - o)).take (P.cellsOf t)) = xs[i]?) →
    (∀ n ∈ DataW.weightsEach P (l.map (·.1)) (xs.map (·.1)), n ≤ reachBytes) → ∃ y, d.K w Any y cs ∧ ok y

section
variable {P : Program} {t : TypeId} {α β : Type} {d : Kd α} {a : Kd α} {b : Kd β} {ok oka : α → Prop} {okb : β → Prop} {o : Nat} {l : List (TypeId × Nat)}
theorem opensF_one (hc : P.cellsOf t = d.sz) (h : Opens P t d ok) : OpensF P [(t, o)] o d ok := by
  intro H enc w spare held fuel cs xs hl hx hf hw
  match xs, hx with
  | [x], _ =>
    have h1 := hf 0 t o rfl
    rw [Nat.sub_self, List.drop_zero, hc, List.take_of_length_le (by omega)] at h1
    exact h enc w spare held fuel cs x h1 (fun n hn => hw n (by simp only [List.map_cons, List.map_nil, DataW.weightsEach, List.mem_append]; exact .inl hn))
theorem opensF_cons (hc : P.cellsOf t = a.sz) (h : Opens P t a oka) (ho : l.all (fun p => decide (o + a.sz ≤ p.2)) = true) (k : OpensF P l (o + a.sz) b okb) : OpensF P ((t, o) :: l) o (Kd.pair a b) (fun y => oka y.1 ∧ okb y.2) := by
  intro H enc w spare held fuel cs xs hl hx hf hw
  match xs, hx with
  | x :: xs, hx =>
    have hl' : cs.length = a.sz + b.sz := hl
    have h1 := hf 0 t o rfl
    rw [Nat.sub_self, List.drop_zero, hc] at h1
    obtain ⟨y0, k0, o0⟩ := h enc w spare held fuel _ x h1 (fun n hn => hw n (by simp only [List.map_cons, DataW.weightsEach, List.mem_append]; exact .inl hn))
    obtain ⟨y1, k1, o1⟩ := k enc w spare held fuel (cs.drop a.sz) xs (by rw [List.length_drop]; omega) (by simpa using hx) (fun i t' off hi => by
        have h2 := hf (i + 1) t' off (by simpa using hi)
        have h3 : o + a.sz ≤ off := by simpa using List.all_eq_true.1 ho _ (List.mem_of_getElem? hi)
        rw [List.drop_drop, show a.sz + (off - (o + a.sz)) = off - o by omega]
        simpa using h2) (fun n hn => hw n (by simp only [List.map_cons, DataW.weightsEach, List.mem_append]; exact .inr hn))
    exact ⟨(y0, y1), ⟨_, _, (List.take_append_drop a.sz cs).symm, k0, k1⟩, o0, o1⟩
theorem opens_struct (hf : fieldsOf P t = l) (hne : l ≠ []) (hc : P.cellsOf t = d.sz) (h : OpensF P l 0 d ok) : Opens P t d ok := by
  intro H enc w spare held fuel cs x hx hw
  unfold fieldsOf at hf
  split at hf
  · rename_i fs hu
    obtain ⟨xs, n, rfl, rfl, hl, hlen, he⟩ := DataW.trod_struct hu hx
    subst hf
    refine h enc w spare held n cs xs (by omega) (by simpa using hlen) (fun i t' off hi => ?_) (fun k hk => hw k ?_)
    · rw [List.getElem?_map, Option.map_eq_some_iff] at hi
      obtain ⟨f, h1, h2⟩ := hi
      obtain ⟨rfl, rfl⟩ := Prod.mk.inj h2
      exact he i f (by simpa using h1)
    · simp only [DataW.weights, hu]
      simpa [List.map_map, Function.comp_def] using hk
  · exact absurd hf.symm hne
theorem opens_iso (f : β → α) (g : α → β) (hg : ∀ x, f (g x) = x) (h : Opens P t d ok) : Opens P t (Kd.iso d f) (fun y => ok (f y)) := by
  intro H enc w spare held fuel cs x hx hw
  obtain ⟨y, h1, h2⟩ := h enc w spare held fuel cs x hx hw
  exact ⟨g y, by show d.K w Any (f (g y)) cs; rw [hg]; exact h1, by show ok (f (g y)); rw [hg]; exact h2⟩
end

end Go.Proofs.Ytolckkckheiceaa
