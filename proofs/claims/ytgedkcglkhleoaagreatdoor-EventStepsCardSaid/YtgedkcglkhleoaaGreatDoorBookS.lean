/- book.Clone: each entry's lists are its own, no two share a block. -/
import Derived.Test.YtgedkcglkhleoaaGreatDoorBookC
import Derived.Test.YtgedkcglkhleoaaGreatDoorBase
namespace Go.Proofs.YtgedkcglkhleoaaGreatDoor
open Go.RowKit

theorem Own.typed {α : Type} {d : Kd α} {e : TypeId} {w : World} {base : Nat} {T : Nat → Prop} {v : Value} {xs : List α} (h : Own d e w base T v xs) (k : Nat) (hk : v.ownBlock = some k) : ∃ cur, w.heap[k]? = some (.cells cur e (0, 0)) := by
  obtain ⟨_, cells, h1, _⟩ := h
  rcases h1.2 with ⟨h3, _⟩ | ⟨g, cap, cur, h3, hb, h5, _⟩
  · rw [h3] at hk; cases hk
  · rw [h3] at hk
    cases hk
    exact ⟨cur, h5⟩
theorem Own.other {α β : Type} {d : Kd α} {d2 : Kd β} {e e2 : TypeId} {w : World} {base base2 : Nat} {T T2 : Nat → Prop} {v v2 : Value} {xs : List α} {ys : List β} (h : Own d e w base T v xs) (h2 : Own d2 e2 w base2 T2 v2 ys) (he : e ≠ e2) (k : Nat) (hk : v.ownBlock = some k) : v2.ownBlock ≠ some k := fun h3 => by
  obtain ⟨c1, q1⟩ := h.typed k hk
  obtain ⟨c2, q2⟩ := h2.typed k h3
  rw [q1] at q2
  injection q2 with q2
  injection q2 with _ q2 _
  exact he q2
theorem add_lit0 (g k : Nat) : (⟨g, 0, none⟩ : Addr).add k = ⟨g, k, none⟩ := by
  unfold Addr.add
  split
  · rename_i h; rw [h]
  · simp
/-- An entry with where its lists lie. -/
structure SlotE where
  E : EntryS
  EA : Option Addr
  EB : Option Addr
  ED : Option Addr
  ea : Nat
  eb : Nat
  ed : Nat
/-- An entry's six cells, told to the letter. -/
def Kd.slotE : Kd SlotE := Kd.flat 6 (fun x => [.int .i64 x.E.id, .int .i64 x.E.sched, .int .i64 x.E.epoch, .slice x.EA x.E.needs.length x.ea, .slice x.EB x.E.bound.length x.eb, .slice x.ED x.E.done.length x.ed]) (fun _ => rfl) (fun x u hu => by simp at hu; rcases hu with rfl | rfl | rfl | rfl | rfl | rfl <;> rfl)
def SlotE.own (x : SlotE) (w : World) (B : Nat) : Prop := EOwn w B x.E x.EA x.EB x.ED x.ea x.eb x.ed
/-- The blocks of its two lists that may be written. -/
def SlotE.bb (x : SlotE) : Option Nat := (Value.slice x.EB x.E.bound.length x.eb).ownBlock
def SlotE.db (x : SlotE) : Option Nat := (Value.slice x.ED x.E.done.length x.ed).ownBlock
/-- A row of entries, each with lists of its own. -/
structure Slots (e : TypeId) (w : World) (B : Nat) (o : Value) (ts : List SlotE) : Prop where
  row : Own Kd.slotE e w B NoT o ts
  own : ∀ x ∈ ts, x.own w B
  bb : ∀ (i j : Nat) (x y : SlotE) (g : Nat), i < j → ts[i]? = some x → ts[j]? = some y → x.bb = some g → y.bb ≠ some g
  db : ∀ (i j : Nat) (x y : SlotE) (g : Nat), i < j → ts[i]? = some x → ts[j]? = some y → x.db = some g → y.db ≠ some g
theorem EOwn.below {w w1 : World} {B : Nat} {E : EntryS} {EA EB ED : Option Addr} {ea eb ed : Nat} (h : EOwn w B E EA EB ED ea eb ed) (hb : Below w.heap.size w w1) : EOwn w1 B E EA EB ED ea eb ed := ⟨h.needs.below hb, h.bound.below hb, h.done.below hb⟩
theorem EOwn.lower {w : World} {B B' : Nat} {E : EntryS} {EA EB ED : Option Addr} {ea eb ed : Nat} (h : EOwn w B E EA EB ED ea eb ed) (hb : B' ≤ B) : EOwn w B' E EA EB ED ea eb ed := ⟨h.needs.lower hb, h.bound.lower hb, h.done.lower hb⟩
theorem Slots.below {e : TypeId} {w w1 : World} {B : Nat} {o : Value} {ts : List SlotE} (h : Slots e w B o ts) (hb : Below w.heap.size w w1) : Slots e w1 B o ts :=
  ⟨h.row.below hb, fun x hx => (h.own x hx).below hb, h.bb, h.db⟩
theorem Slots.nil (e : TypeId) (w : World) (B : Nat) : Slots e w B (.slice none 0 0) [] :=
  ⟨Own.nil _ _ _ _ _, fun x hx => (by simp at hx), fun i j x y g _ hx => (by simp at hx), fun i j x y g _ hx => (by simp at hx)⟩
theorem snoc_at {α : Type} {l : List α} {t x : α} {i : Nat} (h : (l ++ [t])[i]? = some x) : l[i]? = some x ∨ (i = l.length ∧ x = t) := by
  rcases Nat.lt_or_ge i l.length with hi | hi
  · rw [List.getElem?_append_left hi] at h; exact .inl h
  · rw [List.getElem?_append_right hi] at h
    have h0 : i - l.length = 0 := by
      cases hk : i - l.length with
      | zero => rfl
      | succ n => rw [hk] at h; simp at h
    rw [h0] at h
    simp at h
    exact .inr ⟨by omega, h.symm⟩
/-- One more, whose lists are newer than all that is there. -/
theorem Slots.snoc {e : TypeId} {w : World} {B M : Nat} {o : Value} {ts : List SlotE} {t : SlotE} (hrow : Own Kd.slotE e w B NoT o (ts ++ [t])) (hown : ∀ x ∈ ts, x.own w B) (hM : ∀ x ∈ ts, (∀ g, x.bb = some g → g < M) ∧ ∀ g, x.db = some g → g < M)
    (hbb : ∀ (i j : Nat) (x y : SlotE) (g : Nat), i < j → ts[i]? = some x → ts[j]? = some y → x.bb = some g → y.bb ≠ some g) (hdb : ∀ (i j : Nat) (x y : SlotE) (g : Nat), i < j → ts[i]? = some x → ts[j]? = some y → x.db = some g → y.db ≠ some g)
    (ht : t.own w M) (hBM : B ≤ M) : Slots e w B o (ts ++ [t]) := by
  have key : ∀ (i j : Nat) (x y : SlotE), i < j → (ts ++ [t])[i]? = some x → (ts ++ [t])[j]? = some y → ts[i]? = some x ∧ (ts[j]? = some y ∨ y = t) := fun i j x y hij hx hy => by
    rcases snoc_at hy with hy1 | ⟨hj, hy1⟩
    · rcases snoc_at hx with hx1 | ⟨hi, _⟩
      · exact ⟨hx1, .inl hy1⟩
      · have := (List.getElem?_eq_some_iff.1 hy1).1; omega
    · rcases snoc_at hx with hx1 | ⟨hi, _⟩
      · exact ⟨hx1, .inr hy1⟩
      · omega
  refine ⟨hrow, fun x hx => ?_, fun i j x y g hij hx hy hg hg2 => ?_, fun i j x y g hij hx hy hg hg2 => ?_⟩
  · rcases List.mem_append.1 hx with hx | hx
    · exact hown x hx
    · rw [List.mem_singleton] at hx; subst hx; exact EOwn.lower ht hBM
  · obtain ⟨h1, h2 | rfl⟩ := key i j x y hij hx hy
    · exact hbb i j x y g hij h1 h2 hg hg2
    · have := (hM x (List.mem_of_getElem? h1)).1 g hg
      have := (ht.bound.lt g hg2).1
      omega
  · obtain ⟨h1, h2 | rfl⟩ := key i j x y hij hx hy
    · exact hdb i j x y g hij h1 h2 hg hg2
    · have := (hM x (List.mem_of_getElem? h1)).2 g hg
      have := (ht.done.lt g hg2).1
      omega
/-- As Own.K, told of the row's own block alone. -/
theorem Own.KO {α : Type} {d : Kd α} {e : TypeId} {w : World} {base : Nat} {T : Nat → Prop} {v : Value} {xs : List α} (h : Own d e w base T v xs) : d.slice.K w (fun b => T b ∨ v.ownBlock = some b) xs [v] := by
  obtain ⟨A, c, rfl, hc⟩ := h.shape
  obtain ⟨h0, cells, h1, h2⟩ := h
  refine ⟨A, c, rfl, hc, h0, fun i x hx => ?_⟩
  obtain ⟨cs, hk, hcs⟩ := h2.get i x hx
  rcases h1.2 with ⟨h3, h4⟩ | ⟨g, cap, cur, h3, hg, hh, _⟩
  · have := (List.getElem?_eq_some_iff.1 hx).1
    omega
  · injection h3 with h3 h4 h5
    subst h3
    refine ⟨⟨g, 0, none⟩, cs, rfl, .inr rfl, (Array.getElem?_eq_some_iff.1 hh).1, d.mono (fun b hb _ => .inl hb.1) hk, fun j u hu => ?_⟩
    exact h1.cells (g := g) rfl _ u (hcs j u hu)
theorem own_cut {α β : Type} {d : Kd α} {d2 : Kd β} {e e2 : TypeId} {w : World} {B B2 : Nat} {T : Nat → Prop} {v v2 : Value} {xs : List α} {ys : List β} (h : Own d e w B NoT v xs) (h2 : Own d2 e2 w B2 T v2 ys) (hne : e ≠ e2) : d.slice.K w (fun b => B ≤ b ∧ some b ≠ v2.ownBlock) xs [v] :=
  d.slice.mono (fun b hb _ => by
    rcases hb with hb | hb
    · exact hb.elim
    · exact ⟨(h.lt b hb).1, fun e3 => h.other h2 hne b hb e3.symm⟩) h.KO
/-- The row as a row of entries. -/
theorem Slots.entries {e : TypeId} {w : World} {B : Nat} {o : Value} {ts : List SlotE} (h : Slots e w B o ts) (hs : 9 ≠ e) (hi : 3 ≠ e) (hb : 4 ≠ e) : Own Kd.entry e w B (fun k => B ≤ k) o (ts.map (·.E)) := by
  have hk : ∀ x ∈ ts, Kd.entry.K w (fun b => B ≤ b ∧ some b ≠ o.ownBlock) x.E [.int .i64 x.E.id, .int .i64 x.E.sched, .int .i64 x.E.epoch, .slice x.EA x.E.needs.length x.ea, .slice x.EB x.E.bound.length x.eb, .slice x.ED x.E.done.length x.ed] := fun x hx =>
    entry_of x.E (own_cut (h.own x hx).needs h.row hs) (own_cut (h.own x hx).bound h.row hi) (own_cut (h.own x hx).done h.row hb)
  obtain ⟨h0, cells, h1, h2⟩ := h.row
  refine ⟨by rw [List.length_map]; exact h0, cells, by rw [List.length_map]; exact h1, ?_⟩
  clear h0 h1
  generalize (fun b => NoT b ∧ some b ≠ o.ownBlock) = S at h2
  have key : ∀ (l : List SlotE) (cs : List Value), (∀ x ∈ l, x ∈ ts) → Cells Kd.slotE w S l cs → Cells Kd.entry w (fun b => B ≤ b ∧ some b ≠ o.ownBlock) (l.map (·.E)) cs := by
    intro l
    induction l with
    | nil => intro cs _ hc; exact hc
    | cons x l ih =>
      rintro cs hl ⟨c, r, rfl, hx, hr⟩
      refine ⟨c, r, rfl, ?_, ih r (fun y hy => hl y (List.mem_cons_of_mem _ hy)) hr⟩
      have : c = _ := hx
      rw [this]
      exact hk x (hl x List.mem_cons_self)
  exact key ts cells (fun x hx => hx) h2
theorem slot_cells {w : World} {S : Nat → Prop} : ∀ (ts : List SlotE) (cs : List Value) (i : Nat) (x y : SlotE), ts[i]? = some x → (∀ c, Kd.slotE.K w S x c → Kd.slotE.K w S y c) → Cells Kd.slotE w S ts cs → Cells Kd.slotE w S (ts.set i y) cs
  | [], _, i, x, y, hx, _, _ => by simp at hx
  | t :: ts, cs, 0, x, y, hx, hxy, ⟨c, r, h1, h2, h3⟩ => by
    simp at hx
    subst hx
    exact ⟨c, r, h1, hxy c h2, h3⟩
  | t :: ts, cs, i + 1, x, y, hx, hxy, ⟨c, r, h1, h2, h3⟩ => ⟨c, r, h1, h2, slot_cells ts r i x y hx hxy h3⟩
theorem set_at {α : Type} {l : List α} {i k : Nat} {x y z : α} (hx : l[i]? = some x) (h : (l.set i y)[k]? = some z) : (k = i ∧ z = y) ∨ (k ≠ i ∧ l[k]? = some z) := by
  by_cases hk : k = i
  · subst hk
    rw [List.getElem?_set_self (List.getElem?_eq_some_iff.1 hx).1] at h
    exact .inl ⟨rfl, (Option.some.inj h).symm⟩
  · rw [List.getElem?_set_ne (fun e => hk e.symm)] at h
    exact .inr ⟨hk, h⟩
/-- One slot's entry is written anew, in a world that differs in one block of its own. -/
theorem Slots.put {e : TypeId} {w w' : World} {B : Nat} {o : Value} {ts : List SlotE} (h : Slots e w B o ts) (i : Nat) (x y : SlotE) (hx : ts[i]? = some x) (henc : ∀ c, Kd.slotE.K w' (fun b => NoT b ∧ some b ≠ o.ownBlock) x c → Kd.slotE.K w' (fun b => NoT b ∧ some b ≠ o.ownBlock) y c)
    (hb : y.bb = x.bb) (hd : y.db = x.db) (hrow : Own Kd.slotE e w' B NoT o ts) (hown : y.own w' B) (hoth : ∀ j z, j ≠ i → ts[j]? = some z → z.own w' B) : Slots e w' B o (ts.set i y) := by
  have key : ∀ (k : Nat) (z : SlotE), (ts.set i y)[k]? = some z → ∃ z0 : SlotE, ts[k]? = some z0 ∧ z.bb = z0.bb ∧ z.db = z0.db := fun k z hz => by
    rcases set_at hx hz with ⟨rfl, rfl⟩ | ⟨_, hz⟩
    · exact ⟨x, hx, hb, hd⟩
    · exact ⟨z, hz, rfl, rfl⟩
  refine ⟨?_, fun z hz => ?_, fun k l z u g hkl hz hu hg hg2 => ?_, fun k l z u g hkl hz hu hg hg2 => ?_⟩
  · obtain ⟨h0, cells, h1, h2⟩ := hrow
    exact ⟨by rw [List.length_set]; exact h0, cells, by rw [List.length_set]; exact h1, slot_cells ts cells i x y hx henc h2⟩
  · obtain ⟨k, hk⟩ := List.getElem?_of_mem hz
    rcases set_at hx hk with ⟨_, rfl⟩ | ⟨hne, hk⟩
    · exact hown
    · exact hoth k z hne hk
  · obtain ⟨z0, h1, h2, _⟩ := key k z hz
    obtain ⟨u0, h3, h4, _⟩ := key l u hu
    exact h.bb k l z0 u0 g hkl h1 h3 (h2 ▸ hg) (h4 ▸ hg2)
  · obtain ⟨z0, h1, _, h2⟩ := key k z hz
    obtain ⟨u0, h3, _, h4⟩ := key l u hu
    exact h.db k l z0 u0 g hkl h1 h3 (h2 ▸ hg) (h4 ▸ hg2)
theorem Slots.ne_bb {e : TypeId} {w : World} {B : Nat} {o : Value} {ts : List SlotE} (h : Slots e w B o ts) {i j : Nat} {x z : SlotE} {g : Nat} (hx : ts[i]? = some x) (hz : ts[j]? = some z) (hij : j ≠ i) (hg : x.bb = some g) : z.bb ≠ some g := by
  rcases Nat.lt_or_gt_of_ne hij with hlt | hlt
  · intro h2; exact h.bb j i z x g hlt hz hx h2 hg
  · exact h.bb i j x z g hlt hx hz hg
theorem Slots.ne_db {e : TypeId} {w : World} {B : Nat} {o : Value} {ts : List SlotE} (h : Slots e w B o ts) {i j : Nat} {x z : SlotE} {g : Nat} (hx : ts[i]? = some x) (hz : ts[j]? = some z) (hij : j ≠ i) (hg : x.db = some g) : z.db ≠ some g := by
  rcases Nat.lt_or_gt_of_ne hij with hlt | hlt
  · intro h2; exact h.db j i z x g hlt hz hx h2 hg
  · exact h.db i j x z g hlt hx hz hg
def SlotE.setB (x : SlotE) (t : Nat) (v : Int) : SlotE := { x with E := { x.E with bound := x.E.bound.set t v } }
def SlotE.setD (x : SlotE) (t : Nat) : SlotE := { x with E := { x.E with done := x.E.done.set t true } }
theorem enc_setB (x : SlotE) (t : Nat) (v : Int) {w : World} {S : Nat → Prop} (c : List Value) (h : Kd.slotE.K w S x c) : Kd.slotE.K w S (x.setB t v) c := by
  have : c = _ := h
  rw [this]
  show _ = _
  simp [SlotE.setB]
theorem enc_setD (x : SlotE) (t : Nat) {w : World} {S : Nat → Prop} (c : List Value) (h : Kd.slotE.K w S x c) : Kd.slotE.K w S (x.setD t) c := by
  have : c = _ := h
  rw [this]
  show _ = _
  simp [SlotE.setD]
/-- One bound is written anew. -/
theorem Slots.setB {e : TypeId} {w : World} {B : Nat} {o : Value} {ts : List SlotE} (h : Slots e w B o ts) (hi : 3 ≠ e) {i : Nat} {x : SlotE} (hx : ts[i]? = some x) {g : Nat} (hg : x.EB = some ⟨g, 0, none⟩) (t : Nat) (ht : t < x.E.bound.length) (v : Int) :
    Slots e (w.setCell ⟨g, t, none⟩ (.int .i64 v)) B o (ts.set i (x.setB t v)) := by
  have hO := h.own x (List.mem_of_getElem? hx)
  have hbb : x.bb = some g := by unfold SlotE.bb; rw [hg]; rfl
  have hB : Own I64 3 w B NoT (.slice x.EB x.E.bound.length x.eb) x.E.bound := hO.bound
  have hrow : o.ownBlock ≠ some g := hB.other h.row hi g hbb
  have hne : ∀ (z : SlotE), z.own w B → z.bb ≠ some g → z.own (w.setCell ⟨g, t, none⟩ (.int .i64 v)) B := fun z hz hz2 =>
    ⟨hz.needs.setCell (fun h => h) (hB.other hz.needs (by decide) g hbb) _, hz.bound.setCell (p := ⟨g, t, none⟩) (fun h => h) hz2 _, hz.done.setCell (fun h => h) (hB.other hz.done (by decide) g hbb) _⟩
  refine h.put i x (x.setB t v) hx (fun c hc => enc_setB x t v c hc) (by simp [SlotE.bb, SlotE.setB]) rfl (h.row.setCell (fun h => h) hrow _) ?_ (fun j z hj hz => hne z (h.own z (List.mem_of_getElem? hz)) (h.ne_bb hx hz hj hbb))
  refine ⟨hO.needs.setCell (fun h => h) (hB.other hO.needs (by decide) g hbb) _, ?_, hO.done.setCell (fun h => h) (hB.other hO.done (by decide) g hbb) _⟩
  show Own I64 _ _ _ _ (.slice x.EB (x.E.bound.set t v).length x.eb) (x.E.bound.set t v)
  rw [hg] at hB ⊢
  rw [List.length_set]
  exact hB.set t (x.E.bound[t]) v (List.getElem?_eq_getElem ht) 0 (by decide) (.int .i64 v) (fun w S cs hc => by have : cs = _ := hc; rw [this]; rfl) _ (by show (⟨g, t, none⟩ : Addr) = ⟨g, t * 1 + 0, none⟩; simp)
/-- One task is done. -/
theorem Slots.setD {e : TypeId} {w : World} {B : Nat} {o : Value} {ts : List SlotE} (h : Slots e w B o ts) (hi : 4 ≠ e) {i : Nat} {x : SlotE} (hx : ts[i]? = some x) {g : Nat} (hg : x.ED = some ⟨g, 0, none⟩) (t : Nat) (ht : t < x.E.done.length) :
    Slots e (w.setCell ⟨g, t, none⟩ (.bool true)) B o (ts.set i (x.setD t)) := by
  have hO := h.own x (List.mem_of_getElem? hx)
  have hbb : x.db = some g := by unfold SlotE.db; rw [hg]; rfl
  have hB : Own Kd.bool 4 w B NoT (.slice x.ED x.E.done.length x.ed) x.E.done := hO.done
  have hrow : o.ownBlock ≠ some g := hB.other h.row hi g hbb
  have hne : ∀ (z : SlotE), z.own w B → z.db ≠ some g → z.own (w.setCell ⟨g, t, none⟩ (.bool true)) B := fun z hz hz2 =>
    ⟨hz.needs.setCell (fun h => h) (hB.other hz.needs (by decide) g hbb) _, hz.bound.setCell (fun h => h) (hB.other hz.bound (by decide) g hbb) _, hz.done.setCell (p := ⟨g, t, none⟩) (fun h => h) hz2 _⟩
  refine h.put i x (x.setD t) hx (fun c hc => enc_setD x t c hc) rfl (by simp [SlotE.db, SlotE.setD]) (h.row.setCell (fun h => h) hrow _) ?_ (fun j z hj hz => hne z (h.own z (List.mem_of_getElem? hz)) (h.ne_db hx hz hj hbb))
  refine ⟨hO.needs.setCell (fun h => h) (hB.other hO.needs (by decide) g hbb) _, hO.bound.setCell (fun h => h) (hB.other hO.bound (by decide) g hbb) _, ?_⟩
  show Own Kd.bool _ _ _ _ (.slice x.ED (x.E.done.set t true).length x.ed) (x.E.done.set t true)
  rw [hg] at hB ⊢
  rw [List.length_set]
  exact hB.set t (x.E.done[t]) true (List.getElem?_eq_getElem ht) 0 (by decide) (.bool true) (fun w S cs hc => by have : cs = _ := hc; rw [this]; rfl) _ (by show (⟨g, t, none⟩ : Addr) = ⟨g, t * 1 + 0, none⟩; simp)
theorem EOwn.grown {α : Type} {d : Kd α} {e : TypeId} {w w2 : World} {B B2 : Nat} {T : Nat → Prop} {v : Value} {xs : List α} {E : EntryS} {EA EB ED : Option Addr} {ea eb ed : Nat} (h : EOwn w B E EA EB ED ea eb ed) (hr : Own d e w B2 T v xs) (hg : w.grownBy w2 v.ownBlock) (hs : 9 ≠ e) (hi : 3 ≠ e) (hb : 4 ≠ e) : EOwn w2 B E EA EB ED ea eb ed :=
  ⟨h.needs.move (fun b hb0 hl => by
      rcases hb0 with hb0 | hb0
      · exact hb0.elim
      · exact hg.block b hl (fun e1 => h.needs.other hr hs b hb0 (e1.symm))) (fun _ h _ => h),
   h.bound.move (fun b hb0 hl => by
      rcases hb0 with hb0 | hb0
      · exact hb0.elim
      · exact hg.block b hl (fun e1 => h.bound.other hr hi b hb0 (e1.symm))) (fun _ h _ => h),
   h.done.move (fun b hb0 hl => by
      rcases hb0 with hb0 | hb0
      · exact hb0.elim
      · exact hg.block b hl (fun e1 => h.done.other hr hb b hb0 (e1.symm))) (fun _ h _ => h)⟩
theorem Tryz.infoSlot : (Tryz.prog.info? 45).map (fun i => (i.zero, i.size, i.bytes)) = some (some (.agg #[.int .i64 0, .int .i64 0, .int .i64 0, .slice none 0 0, .slice none 0 0, .slice none 0 0]), 6, 96) := Tryz.infoEntry
set_option maxHeartbeats 4000000 in
set_option maxRecDepth 100000 in
theorem bcloneS_calls (b : List EntryS) (v : Value) (w : World) (hb : Kd.entry.slice.K w Any b [v]) (hF : ∀ E ∈ b, Fits E) (hl : b.length ≤ 1000000) :
    Calls Tryz.prog 9 #[v] w fun e w' => ∃ o ts, e = .returned o ∧ ts.map (·.E) = b ∧ Slots 45 w' w.heap.size o ts ∧ Below w.heap.size w w' := by
  obtain ⟨A, c, he, hc, hm, hr⟩ := hb
  cases he
  have HR := hid hr
  have HF := hid hF
  obtain ⟨q, hq⟩ : ∃ q, b.length = q := ⟨_, rfl⟩
  have HQ := hid hq
  rw [hq] at hc hm hl ⊢
  clear hr hq hF
  go_enter Tryz.func9, Tryz.ntmps9
  go_wp2
  go_loopw [3, 8] (fun o i wr => ∃ (k : Nat) (ts : List SlotE), k ≤ q ∧ i = .int .i64 k ∧ Hid (ts.map (·.E) = b.take k) ∧ Hid (Slots 45 wr w.heap.size o ts) ∧ Hid (Below w.heap.size w wr)) (fun _ i _ => q - (intOf i).toNat)
  case atStart => exact ⟨0, [], by omega, rfl, hid (by simp), hid (Slots.nil _ _ _), hid (Below.refl _ _)⟩
  case round =>
    obtain ⟨k, ts, hk, rfl, HM, HO, HB⟩ := hrel
    obtain ⟨A3, n3, c3', rfl, hq1, hq2⟩ := HO.out.row.shape'
    clear hq1 hq2
    by_cases hlt : k < q
    · obtain ⟨a, E, EA, EB, ED, ea, eb, ed, rfl, hx, k1, k2, k3, r0, r1, r2, r3, r4, r5⟩ := (HR.out.below HB.out).at_entry k (by rw [HQ.out]; exact hlt)
      have HTS := hid (show b.take (k + 1) = b.take k ++ [E] from take_snoc hx)
      have HLT := hid (show ts.length ≤ q from by rw [← HQ.out, ← List.length_map (f := fun x : SlotE => x.E), HM.out]; exact List.length_take_le' _ _)
      have HFE := hid (HF.out E (List.mem_of_getElem? hx))
      have hltI : (k : Int) < (q : Int) := by omega
      have hk0 : (0 : Int) ≤ (k : Int) := by omega
      obtain ⟨Wa, hWa⟩ : ∃ Wa, Wa = wr.alloc (.cells #[.int .i64 E.id, .int .i64 E.sched, .int .i64 E.epoch, .slice EA E.needs.length ea, .slice EB E.bound.length eb, .slice ED E.done.length ed] 45) := ⟨_, rfl⟩
      have HBa := hid (show Below wr.heap.size wr Wa by rw [hWa]; exact bAlloc (Below.refl _ _) _)
      obtain ⟨y1, _, _⟩ := cells_of_block (show Wa.heap[wr.heap.size]? = some (.cells #[.int .i64 E.id, .int .i64 E.sched, .int .i64 E.epoch, .slice EA E.needs.length ea, .slice EB E.bound.length eb, .slice ED E.done.length ed] 45 (0, 0)) by rw [hWa]; exact heap_at rfl)
      have z0 := y1 0 _ rfl
      have z1 := y1 1 _ rfl
      have z2 := y1 2 _ rfl
      have z3 := y1 3 _ rfl
      have z4 := y1 4 _ rfl
      have z5 := y1 5 _ rfl
      have HEA := hid (show EAt Wa E EA EB ED ea eb ed from ⟨Kd.below k1 HBa.out, Kd.below k2 HBa.out, Kd.below k3 HBa.out⟩)
      have hEqa := hWa.symm
      clear hx k1 k2 k3 y1 hWa
      go_wp2_with fail
      refine (bcopiedO_calls E EA EB ED ea eb ed Wa HEA.out HFE.out).mono ?_
      rintro e w1 ⟨FA, FB, FD, fa, fb, fd, rfl, hN, hb1⟩
      have hS := HO.out.below (bThen HBa.out hb1)
      have HS := hid hS
      have hO := hS.row
      have HN := hid hN
      have hB := HB.out.trans ((bThen HBa.out hb1).mono HB.out.size)
      have hlt' := fun j h => (HO.out.row.lt j h).2
      have hsz := HB.out.size
      have hsa := HBa.out.size
      have hll := HLT.out
      have hs1 := hb1.size
      clear hN hb1 z0 z1 z2 z3 z4 z5 r0 r1 r2 r3 r4 r5
      go_wp2_with (at_builtin; go_must (refine append_arm Kd.slotE w.heap.size rfl _ _ 29 45 _ 96 rfl Tryz.underlying29 Tryz.infoSlot rfl (by decide) (by decide) (.slice A3 n3 c3') ts (⟨E, FA, FB, FD, fa, fb, fd⟩ : SlotE) [.int .i64 E.id, .int .i64 E.sched, .int .i64 E.epoch, .slice FA E.needs.length fa, .slice FB E.bound.length fb, .slice FD E.done.length fd] NoT NoT rfl rfl rfl (fun j h _ => h.elim) hO hB hB.size (by omega) ?_))
      intro v1 w2 hO1 hb2 hg _
      have HN2 := hid (HN.out.grown hO hg (by decide) (by decide) (by decide))
      have HO1 := hid (Slots.snoc (M := Wa.heap.size) hO1 (fun x hx => (HS.out.own x hx).grown hO hg (by decide) (by decide) (by decide)) (fun x hx => ⟨fun g h => by have := ((HO.out.own x hx).bound.lt g h).2; omega, fun g h => by have := ((HO.out.own x hx).done.lt g h).2; omega⟩) HS.out.bb HS.out.db HN2.out (by omega))
      have HB1 := hid hb2
      have HM1 := hid (show (ts ++ [(⟨E, FA, FB, FD, fa, fb, fd⟩ : SlotE)]).map (·.E) = b.take (k + 1) by rw [HTS.out, List.map_append, HM.out]; rfl)
      clear hO1 hb2 hO hB hlt' hg hS hs1
      go_wp2
      go_roundw
      case rel => exact ⟨k + 1, _, by omega, by go_num, HM1, HO1, HB1⟩
      case measure => simp [intOf]; omega
    · obtain rfl : k = q := by omega
      have HF := hid (show b.take k = b by rw [List.take_of_length_le (by rw [HQ.out]; exact Nat.le_refl _)])
      go_wp2
      go_ret
      exact ⟨_, ts, rfl, by rw [HM.out, HF.out], HO.out, HB.out⟩
end Go.Proofs.YtgedkcglkhleoaaGreatDoor
