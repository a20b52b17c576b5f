/- Entries as values; one of a row; slices of numbers compared. -/
import Derived.Test.YtgedkcglkhleoaaGreatDoorBase
import Derived.Outline
import Derived.Deep.RegionHeld3
import Derived.Deep.QuietTactic
import Derived.BigQuiet
namespace Go.Proofs.YtgedkcglkhleoaaGreatDoor
open Go.RowKit

theorem opens_mapO {P : Program} {t : TypeId} {α β : Type} {d : Kd α} {d' : Kd β} {ok : α → Prop} {ok' : β → Prop} (f : α → β) (h : Opens P t d ok) (hk : ∀ (w : World) (S : Nat → Prop) (x : α) (cs : List Value), ok x → d.K w S x cs → d'.K w S (f x) cs) (ho : ∀ x, ok x → ok' (f x)) : Opens P t d' ok' := by
  intro H enc w spare held fuel cs x hx hw
  obtain ⟨y, h1, h2⟩ := h enc w spare held fuel cs x hx hw
  exact ⟨f y, hk _ _ _ _ h2 h1, ho _ h2⟩
abbrev I64 := Kd.int .i64
def okStrs (l : List ByteArray) : Prop := (∀ y ∈ l, y.size ≤ 140737488351232) ∧ l.length * 16 ≤ 140737488351232

structure EntryS where
  id : Int
  sched : Int
  epoch : Int
  needs : List ByteArray
  bound : List Int
  done : List Bool
/-- As many tasks an entry has. -/
def tasksE (E : EntryS) : Nat := min (min E.needs.length E.bound.length) E.done.length
def Kd.entry : Kd EntryS := Kd.iso (Kd.pair I64 (Kd.pair I64 (Kd.pair I64 (Kd.pair Kd.str.slice (Kd.pair I64.slice Kd.bool.slice))))) (fun E => (E.id, E.sched, E.epoch, E.needs, E.bound, E.done))
theorem entry_cells {w : World} {S : Nat → Prop} {E : EntryS} {cs : List Value} (h : Kd.entry.K w S E cs) : ∃ A a B b D d, cs = [.int .i64 E.id, .int .i64 E.sched, .int .i64 E.epoch, .slice A E.needs.length a, .slice B E.bound.length b, .slice D E.done.length d] ∧ Kd.str.slice.K w S E.needs [.slice A E.needs.length a] ∧ I64.slice.K w S E.bound [.slice B E.bound.length b] ∧ Kd.bool.slice.K w S E.done [.slice D E.done.length d] := by
  obtain ⟨c0, r0, rfl, h0, k0⟩ := h
  obtain ⟨c1, r1, rfl, h1, k1⟩ := k0
  obtain ⟨c2, r2, rfl, h2, k2⟩ := k1
  obtain ⟨c3, r3, rfl, h3, k3⟩ := k2
  obtain ⟨c4, r4, rfl, h4, k4⟩ := k3
  have e3 := h3
  have e4 := h4
  have e5 := k4
  obtain ⟨A, a, rfl, _⟩ := e3
  obtain ⟨B, b, rfl, _⟩ := e4
  obtain ⟨D, d, rfl, _⟩ := e5
  cases h0; cases h1; cases h2
  exact ⟨A, a, B, b, D, d, rfl, h3, h4, k4⟩
theorem entry_of {w : World} {S : Nat → Prop} (E : EntryS) {A B D : Option Addr} {a b d : Nat} (h1 : Kd.str.slice.K w S E.needs [.slice A E.needs.length a]) (h2 : I64.slice.K w S E.bound [.slice B E.bound.length b]) (h3 : Kd.bool.slice.K w S E.done [.slice D E.done.length d]) : Kd.entry.K w S E [.int .i64 E.id, .int .i64 E.sched, .int .i64 E.epoch, .slice A E.needs.length a, .slice B E.bound.length b, .slice D E.done.length d] :=
  ⟨[_], _, rfl, rfl, [_], _, rfl, rfl, [_], _, rfl, rfl, [_], _, rfl, h1, [_], _, rfl, h2, h3⟩
/-- An entry's three lists, where they lie. -/
structure EAt (w : World) (E : EntryS) (A B D : Option Addr) (a b d : Nat) : Prop where
  needs : Kd.str.slice.K w Any E.needs [.slice A E.needs.length a]
  bound : I64.slice.K w Any E.bound [.slice B E.bound.length b]
  done : Kd.bool.slice.K w Any E.done [.slice D E.done.length d]
theorem EAt.below {w w1 : World} {E : EntryS} {A B D : Option Addr} {a b d : Nat} (h : EAt w E A B D a b d) (hb : Below w.heap.size w w1) : EAt w1 E A B D a b d := ⟨Kd.below h.needs hb, Kd.below h.bound hb, Kd.below h.done hb⟩
theorem K_row {α : Type} {d : Kd α} {w : World} {S : Nat → Prop} {xs : List α} {A : Option Addr} {n c : Nat} (h : d.slice.K w S xs [.slice A n c]) : d.Row w S A xs ∧ xs.length ≤ c := by
  obtain ⟨A', c', he, h1, _, h2⟩ := h
  injection he with he _
  injection he with e1 _ e3
  subst e1; subst e3
  exact ⟨h2, h1⟩
theorem box6 {W : World} {b : Nat} {t : TypeId} {v0 v1 v2 v3 v4 v5 : Value} (h : W.heap[b]? = some (.cells #[v0, v1, v2, v3, v4, v5] t (0, 0))) (u : World) (hb : Below W.heap.size W u) :
    u.cell? ⟨b, 0, none⟩ = some v0 ∧ u.cell? ⟨b, 1, none⟩ = some v1 ∧ u.cell? ⟨b, 2, none⟩ = some v2 ∧ u.cell? ⟨b, 3, none⟩ = some v3 ∧ u.cell? ⟨b, 4, none⟩ = some v4 ∧ u.cell? ⟨b, 5, none⟩ = some v5 := by
  obtain ⟨z, _, _⟩ := cells_of_block ((hb.block b (Array.getElem?_eq_some_iff.1 h).1).trans h)
  exact ⟨z 0 _ rfl, z 1 _ rfl, z 2 _ rfl, z 3 _ rfl, z 4 _ rfl, z 5 _ rfl⟩
theorem box1 {W : World} {b : Nat} {t : TypeId} {v0 : Value} (h : W.heap[b]? = some (.cells #[v0] t (0, 0))) (u : World) (hb : Below W.heap.size W u) : u.cell? ⟨b, 0, none⟩ = some v0 := by
  obtain ⟨z, _, _⟩ := cells_of_block ((hb.block b (Array.getElem?_eq_some_iff.1 h).1).trans h)
  exact z 0 _ rfl
def okEntry (E : EntryS) : Prop := okStrs E.needs ∧ E.bound.length * 8 ≤ 140737488351232 ∧ E.done.length * 1 ≤ 140737488351232
theorem Tryz.opensEntry : Opens Tryz.prog 45 Kd.entry okEntry :=
  opens_mapO (fun p : Int × Int × Int × List ByteArray × List Int × List Bool => (⟨p.1, p.2.1, p.2.2.1, p.2.2.2.1, p.2.2.2.2.1, p.2.2.2.2.2⟩ : EntryS))
    (opens_struct (l := [(3, 0), (3, 1), (3, 2), (22, 3), (42, 4), (43, 5)]) (by kernel_rfl) (by simp) (by kernel_rfl)
      (opensF_cons (by kernel_rfl) (opens_int Tryz.underlying3) (by decide) (opensF_cons (by kernel_rfl) (opens_int Tryz.underlying3) (by decide) (opensF_cons (by kernel_rfl) (opens_int Tryz.underlying3) (by decide)
      (opensF_cons (by kernel_rfl) (opens_slice Tryz.underlying22 (by kernel_rfl) (by kernel_rfl) (by decide) (by decide) (opens_str Tryz.underlying9)) (by decide)
      (opensF_cons (by kernel_rfl) (opens_slice Tryz.underlying42 (by kernel_rfl) (by kernel_rfl) (by decide) (by decide) (opens_int Tryz.underlying3)) (by decide)
      (opensF_one (by kernel_rfl) (opens_slice Tryz.underlying43 (by kernel_rfl) (by kernel_rfl) (by decide) (by decide) (opens_bool Tryz.underlying4))))))))
    )
    (fun w S x cs _ h => h) (fun x ho => ⟨ho.2.2.2.1, ho.2.2.2.2.1.2, ho.2.2.2.2.2.2⟩)
theorem Tryz.opensBools : Opens Tryz.prog 43 Kd.bool.slice (fun l => (∀ y ∈ l, True) ∧ l.length * 1 ≤ 140737488351232) := opens_slice Tryz.underlying43 (by kernel_rfl) (by kernel_rfl) (by decide) (by decide) (opens_bool Tryz.underlying4)
theorem Kd.Row.at_entry {w : World} {S : Nat → Prop} {A : Option Addr} {xs : List EntryS} (h : Kd.entry.Row w S A xs) (i : Nat) (hi : i < xs.length) :
    ∃ a E EA EB ED ea eb ed, A = some a ∧ xs[i]? = some E ∧ Kd.str.slice.K w S E.needs [.slice EA E.needs.length ea] ∧ I64.slice.K w S E.bound [.slice EB E.bound.length eb] ∧ Kd.bool.slice.K w S E.done [.slice ED E.done.length ed] ∧
      w.cell? (a.add (i * 6)) = some (.int .i64 E.id) ∧ w.cell? ⟨(a.add (i * 6)).block, (a.add (i * 6)).off + 1, none⟩ = some (.int .i64 E.sched) ∧ w.cell? ⟨(a.add (i * 6)).block, (a.add (i * 6)).off + 2, none⟩ = some (.int .i64 E.epoch) ∧ w.cell? ⟨(a.add (i * 6)).block, (a.add (i * 6)).off + 3, none⟩ = some (.slice EA E.needs.length ea) ∧ w.cell? ⟨(a.add (i * 6)).block, (a.add (i * 6)).off + 4, none⟩ = some (.slice EB E.bound.length eb) ∧ w.cell? ⟨(a.add (i * 6)).block, (a.add (i * 6)).off + 5, none⟩ = some (.slice ED E.done.length ed) := by
  obtain ⟨a, cs, h1, _, _, h4, h5⟩ := h i xs[i] (List.getElem?_eq_getElem hi)
  obtain ⟨EA, ea, EB, eb, ED, ed, rfl, k1, k2, k3⟩ := entry_cells h4
  have key : ∀ (j : Nat) (u : Value), 0 < j → ([.int .i64 xs[i].id, .int .i64 xs[i].sched, .int .i64 xs[i].epoch, .slice EA xs[i].needs.length ea, .slice EB xs[i].bound.length eb, .slice ED xs[i].done.length ed] : List Value)[j]? = some u → w.cell? ⟨(a.add (i * 6)).block, (a.add (i * 6)).off + j, none⟩ = some u := by
    intro j u hj hu
    have := h5 j u hu
    rwa [show i * Kd.entry.sz + j = i * 6 + j from rfl, ← Kd.add_add, Kd.add_lit (a.add (i * 6)) j hj] at this
  exact ⟨a, xs[i], EA, EB, ED, ea, eb, ed, h1, List.getElem?_eq_getElem hi, k1, k2, k3, h5 0 _ rfl, key 1 _ (by decide) rfl, key 2 _ (by decide) rfl, key 3 _ (by decide) rfl, key 4 _ (by decide) rfl, key 5 _ (by decide) rfl⟩
set_option maxHeartbeats 4000000 in
set_option maxRecDepth 100000 in
theorem isame_calls (l : List Int) (v1 v2 : Value) (w : World) (h1 : I64.slice.K w Any l [v1]) (h2 : I64.slice.K w Any l [v2]) :
    Calls Tryz.prog 46 #[v1, v2] w fun e w' => e = .returned (.bool true) ∧ ∃ n, w' = w.drewN n := by
  obtain ⟨A, c, he, hc, hm, hr⟩ := h1
  cases he
  obtain ⟨B, d, he, hd, _, hr2⟩ := h2
  cases he
  obtain ⟨q, hq⟩ : ∃ q, l.length = q := ⟨_, rfl⟩
  have HQ := hid hq
  have HR := hid hr
  have HR2 := hid hr2
  rw [hq] at hc hm hd ⊢
  have hqq : ((q : Int) == (q : Int)) = true := beq_self_eq_true _
  have hqn : ((q : Int) != (q : Int)) = false := bne_self_eq_false _
  clear hr hr2 hq
  go_enter Tryz.func46, Tryz.ntmps46
  go_wp2
  go_loopw [5] (fun i wr => ∃ k n : Nat, k ≤ q ∧ i = .int .i64 k ∧ wr = w.drewN n) (fun i _ => q - (intOf i).toNat)
  case atStart => exact ⟨0, 0, by omega, rfl, rfl⟩
  case round =>
    obtain ⟨k, n, hk, rfl, rfl⟩ := hrel
    by_cases hlt : k < q
    · obtain ⟨a, x, rfl, hx, r0⟩ := HR.out.at_int k (by rw [HQ.out]; exact hlt)
      obtain ⟨b, x', rfl, hx', s0⟩ := HR2.out.at_int k (by rw [HQ.out]; exact hlt)
      rw [hx] at hx'
      obtain rfl := Option.some.inj hx'
      have e2 : (x != x) = false := bne_self_eq_false _
      have hltI : (k : Int) < (q : Int) := by omega
      have hk0 : (0 : Int) ≤ (k : Int) := by omega
      clear hx hx'
      go_wp2
      go_quiet (fail)
      go_wp2
      go_roundw
      case rel => first | exact ⟨k + 1, _, by omega, by go_num, rfl⟩ | ((repeat apply Exists.intro); exact ⟨⟨k + 1, _, by omega, by go_num, rfl⟩, rfl⟩)
      case measure => simp [intOf]; omega
    · obtain rfl : k = q := by omega
      go_wp2
      go_ret
      exact ⟨rfl, n, rfl⟩
theorem Tryz.infoEntry : (Tryz.prog.info? 45).map (fun i => (i.zero, i.size, i.bytes)) = some (some (.agg #[.int .i64 0, .int .i64 0, .int .i64 0, .slice none 0 0, .slice none 0 0, .slice none 0 0]), 6, 96) := by kernel_rfl
theorem own_emptyE {α : Type} {d : Kd α} {e : TypeId} {W : World} {base b : Nat} {T : Nat → Prop} (h : W.heap[b]? = some (.cells #[] e (0, 0))) (hb : base ≤ b) : Own d e W base T (.slice (some ⟨b, 0, none⟩) 0 0) [] :=
  ⟨by simp, [], ⟨by simp, .inr ⟨b, 0, #[], rfl, hb, h, Nat.le_refl _, by simp only [maxLen]; omega, by simp, by simp⟩⟩, rfl⟩
end Go.Proofs.YtgedkcglkhleoaaGreatDoor
