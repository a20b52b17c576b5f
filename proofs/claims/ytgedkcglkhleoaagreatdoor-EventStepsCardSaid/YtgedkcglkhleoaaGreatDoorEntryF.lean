/- Entries whose list of workers may be written: where each lies. -/
import Derived.Test.YtgedkcglkhleoaaGreatDoorBookS
import Derived.Test.YtgedkcglkhleoaaGreatDoorBase
namespace Go.Proofs.YtgedkcglkhleoaaGreatDoor
open Go.RowKit

def BoundFree (w : World) (S : Nat → Prop) (x : EntryS) (cs : List Value) : Prop :=
  ∃ B c, cs[4]? = some (.slice B x.bound.length c) ∧ (x.bound.length = 0 ∨ ∃ gb cur, B = some ⟨gb, 0, none⟩ ∧ S gb ∧ w.heap[gb]? = some (.cells cur 3 (0, 0)) ∧ x.bound.length ≤ cur.size)
def Kd.entryF : Kd EntryS where
  sz := 6
  K := fun w S x cs => Kd.entry.K w S x cs ∧ BoundFree w S x cs
  len := fun h => Kd.entry.len h.1
  one := fun h => Kd.entry.one h.1
  mono := by
    rintro w S S' x cs hS ⟨h, B, c, h4, h5⟩
    refine ⟨Kd.entry.mono hS h, B, c, h4, ?_⟩
    rcases h5 with h5 | ⟨gb, cur, h6, h7, h8, h9⟩
    · exact .inl h5
    · exact .inr ⟨gb, cur, h6, hS gb h7 (Array.getElem?_eq_some_iff.1 h8).1, h8, h9⟩
  move := by
    rintro w w1 S x cs hS ⟨h, B, c, h4, h5⟩
    refine ⟨Kd.entry.move hS h, B, c, h4, ?_⟩
    rcases h5 with h5 | ⟨gb, cur, h6, h7, h8, h9⟩
    · exact .inl h5
    · exact .inr ⟨gb, cur, h6, h7, (hS gb h7 (Array.getElem?_eq_some_iff.1 h8).1).trans h8, h9⟩
theorem Kd.Row.plain {w : World} {S : Nat → Prop} {A : Option Addr} {xs : List EntryS} (h : Kd.entryF.Row w S A xs) : Kd.entry.Row w S A xs := fun i x hx => by
  obtain ⟨a, cs, h1, h2, h3, h4, h5⟩ := h i x hx
  exact ⟨a, cs, h1, h2, h3, h4.1, h5⟩
theorem entryF_K {w : World} {S : Nat → Prop} {xs : List EntryS} {cs : List Value} (h : Kd.entryF.slice.K w S xs cs) : Kd.entry.slice.K w S xs cs := by
  obtain ⟨A, c, h1, h2, h3, h4⟩ := h
  exact ⟨A, c, h1, h2, h3, h4.plain⟩
/-- A list of one's own: its block. -/
theorem own_block {e : TypeId} {w : World} {B : Nat} {T : Nat → Prop} {A : Option Addr} {n c : Nat} {l : List Int} (h : Own I64 e w B T (.slice A n c) l) : n = 0 ∨ ∃ gb cur, A = some ⟨gb, 0, none⟩ ∧ B ≤ gb ∧ w.heap[gb]? = some (.cells cur e (0, 0)) ∧ n ≤ cur.size := by
  obtain ⟨_, cells, h1, _⟩ := h
  obtain ⟨hl, h2⟩ := h1
  rcases h2 with ⟨h3, _⟩ | ⟨g, cap, cur, h3, h4, h5, h6, _, h7, _⟩
  · injection h3 with _ h3 _
    exact .inl h3
  · injection h3 with h8 h9 h10
    refine .inr ⟨g, cur, h8, h4, h5, ?_⟩
    have h11 : cap * I64.sz ≤ cur.size := h7
    have h12 : I64.sz = 1 := rfl
    rw [h12] at h11
    omega
theorem Slots.entriesF {e : TypeId} {w : World} {B : Nat} {o : Value} {ts : List SlotE} (h : Slots e w B o ts) (hs : 9 ≠ e) (hi : 3 ≠ e) (hb : 4 ≠ e) : Own Kd.entryF e w B (fun k => B ≤ k) o (ts.map (·.E)) := by
  have hk : ∀ x ∈ ts, Kd.entryF.K w (fun b => B ≤ b ∧ some b ≠ o.ownBlock) x.E [.int .i64 x.E.id, .int .i64 x.E.sched, .int .i64 x.E.epoch, .slice x.EA x.E.needs.length x.ea, .slice x.EB x.E.bound.length x.eb, .slice x.ED x.E.done.length x.ed] := fun x hx =>
    ⟨entry_of x.E (own_cut (h.own x hx).needs h.row hs) (own_cut (h.own x hx).bound h.row hi) (own_cut (h.own x hx).done h.row hb), x.EB, x.eb, rfl, by
      rcases own_block (h.own x hx).bound with h0 | ⟨gb, cur, h1, h2, h3, h4⟩
      · exact .inl h0
      · refine .inr ⟨gb, cur, h1, ⟨h2, fun e3 => ?_⟩, h3, h4⟩
        exact (h.own x hx).bound.other h.row hi gb (by rw [h1]; rfl) e3.symm⟩
  obtain ⟨h0, cells, h1, h2⟩ := h.row
  refine ⟨by rw [List.length_map]; exact h0, cells, by rw [List.length_map]; exact h1, ?_⟩
  clear h0 h1
  generalize (fun b => NoT b ∧ some b ≠ o.ownBlock) = S at h2
  have key : ∀ (l : List SlotE) (cs : List Value), (∀ x ∈ l, x ∈ ts) → Cells Kd.slotE w S l cs → Cells Kd.entryF w (fun b => B ≤ b ∧ some b ≠ o.ownBlock) (l.map (·.E)) cs := by
    intro l
    induction l with
    | nil => intro cs _ hc; exact hc
    | cons x l ih =>
      rintro cs hl ⟨c, r, rfl, hx, hr⟩
      refine ⟨c, r, rfl, ?_, ih r (fun y hy => hl y (List.mem_cons_of_mem _ hy)) hr⟩
      have : c = _ := hx
      rw [this]
      exact hk x (hl x List.mem_cons_self)
  exact key ts cells (fun x hx => hx) h2
set_option maxHeartbeats 4000000 in
set_option maxRecDepth 100000 in
theorem bcloneF_calls (b : List EntryS) (v : Value) (w : World) (hb : Kd.entry.slice.K w Any b [v]) (hF : ∀ E ∈ b, Fits E) (hl : b.length ≤ 1000000) :
    Calls Tryz.prog 9 #[v] w fun e w' => ∃ o, e = .returned o ∧ Own Kd.entryF 45 w' w.heap.size (fun k => w.heap.size ≤ k) o b ∧ Below w.heap.size w w' := by
  refine (bcloneS_calls b v w hb hF hl).mono ?_
  rintro e w' ⟨o, ts, rfl, hts, hsl, hb'⟩
  have h := hsl.entriesF (by decide) (by decide) (by decide)
  rw [hts] at h
  exact ⟨o, rfl, h, hb'⟩
/-! ### what is written into such lists -/
/-- A row of entries in block g; each one's list of workers in a block from B on, which may be written. -/
def MutRow (w : World) (B g : Nat) (xs : List EntryS) : Prop :=
  ∀ (i : Nat) E, xs[i]? = some E → ∃ A c, w.cell? ⟨g, i * 6 + 4, none⟩ = some (.slice A E.bound.length c) ∧ (E.bound.length = 0 ∨ ∃ gb cur, A = some ⟨gb, 0, none⟩ ∧ B ≤ gb ∧ gb ≠ g ∧ w.heap[gb]? = some (.cells cur 3 (0, 0)) ∧ E.bound.length ≤ cur.size)
theorem mutRow_of {e : TypeId} {w : World} {B g n c : Nat} {xs : List EntryS} (h : Own Kd.entryF e w B (fun k => B ≤ k) (.slice (some ⟨g, 0, none⟩) n c) xs) : MutRow w B g xs := by
  obtain ⟨h0, cells, h1, h2⟩ := h
  intro i E hE
  obtain ⟨cs, hk, hcs⟩ := h2.get i E hE
  obtain ⟨A, c', h4, h5⟩ := hk.2
  have h6 := h1.cells (g := g) rfl _ _ (hcs 4 _ h4)
  have h7 : i * Kd.entryF.sz = i * 6 := rfl
  rw [h7, add_lit0] at h6
  refine ⟨A, c', h6, ?_⟩
  rcases h5 with h5 | ⟨gb, cur, h8, h9, h10, h11⟩
  · exact .inl h5
  · exact .inr ⟨gb, cur, h8, h9.1, fun e9 => h9.2 (by rw [e9]; rfl), h10, h11⟩
theorem MutRow.set {w : World} {B g gb k : Nat} {xs : List EntryS} {v : Value} (h : MutRow w B g xs) (hg : gb ≠ g) : MutRow (w.setCell ⟨gb, k, none⟩ v) B g xs := by
  intro i E hE
  obtain ⟨A, c, h1, h2⟩ := h i E hE
  refine ⟨A, c, (World.cell?_of_block (w := w) (Below.heap_setCell w ⟨gb, k, none⟩ v g (fun e => hg e.symm))).trans h1, ?_⟩
  rcases h2 with h2 | ⟨gc, cur, h3, h4, h5, h6, h7⟩
  · exact .inl h2
  · by_cases he : gc = gb
    · subst he
      exact .inr ⟨gc, _, h3, h4, h5, heap_set h6 k v, by simpa using h7⟩
    · exact .inr ⟨gc, cur, h3, h4, h5, (Below.heap_setCell w ⟨gb, k, none⟩ v gc he).trans h6, h7⟩
end Go.Proofs.YtgedkcglkhleoaaGreatDoor
