/- book.place, copied, Find; siskinref20.Place, Find; slices.IndexFunc. -/
import Derived.Test.YtgedkcglkhleoaaGreatDoorEntryE
import Derived.Test.YtgedkcglkhleoaaGreatDoorRef06
import Derived.Test.YtgedkcglkhleoaaGreatDoorBase
namespace Go.Proofs.YtgedkcglkhleoaaGreatDoor
open Go.RowKit

/-! ### plain -/
def idxE (p : EntryS → Bool) (b : List EntryS) : Int := match b.findIdx? p with | some k => (k : Int) | none => -1
theorem idxE_at {p : EntryS → Bool} {b : List EntryS} {k : Nat} {E : EntryS} (hx : b[k]? = some E) (hp : p E = true) (hn : ∀ (j : Nat) E', j < k → b[j]? = some E' → p E' = false) : idxE p b = k := by
  obtain ⟨hk, rfl⟩ := List.getElem?_eq_some_iff.1 hx
  have : b.findIdx? p = some k := by
    rw [List.findIdx?_eq_some_iff_getElem]
    exact ⟨hk, hp, fun j hj => by rw [hn j b[j] hj (List.getElem?_eq_getElem _)]; simp⟩
  unfold idxE
  rw [this]
theorem idxE_none {p : EntryS → Bool} {b : List EntryS} (hn : ∀ (j : Nat) E', j < b.length → b[j]? = some E' → p E' = false) : idxE p b = -1 := by
  have : b.findIdx? p = none := by
    rw [List.findIdx?_eq_none_iff]
    intro E hE
    obtain ⟨j, hj⟩ := List.getElem?_of_mem hE
    exact hn j E (List.getElem?_eq_some_iff.1 hj).1 hj
  unfold idxE
  rw [this]
theorem idxE_some {p : EntryS → Bool} {b : List EntryS} (h : 0 ≤ idxE p b) : ∃ (k : Nat) (E : EntryS), idxE p b = k ∧ b[k]? = some E ∧ p E = true ∧ k < b.length := by
  unfold idxE at h ⊢
  split at h
  · rename_i k hk
    obtain ⟨h1, h2, _⟩ := List.findIdx?_eq_some_iff_getElem.1 hk
    exact ⟨k, b[k], rfl, List.getElem?_eq_getElem h1, h2, h1⟩
  · exact absurd h (by decide)
theorem idxE_neg {p : EntryS → Bool} {b : List EntryS} (h : ¬ 0 ≤ idxE p b) : idxE p b = -1 := by
  unfold idxE at h ⊢
  split at h
  · exact absurd (Int.natCast_nonneg _) h
  · rfl
def placeE (b : List EntryS) (j : Int) : Int := idxE (fun e => e.id == j) b
def zeroE : EntryS := ⟨0, 0, 0, [], [], []⟩
def findE (b : List EntryS) (j : Int) : Option EntryS := if 0 ≤ placeE b j then b[(placeE b j).toNat]? else none
theorem findE_place (b : List EntryS) (j : Int) : (findE b j).isSome = decide (0 ≤ placeE b j) := by
  unfold findE
  split
  · rename_i h
    obtain ⟨k, E, h1, h2, _⟩ := idxE_some h
    unfold placeE at h ⊢
    rw [h1, Int.toNat_natCast, h2]
    simp
  · rename_i h; rw [decide_eq_false h]; rfl

/-! ### where an entry is -/
set_option maxHeartbeats 4000000 in
set_option maxRecDepth 100000 in
theorem indexFunc_calls (F : FuncId) (c1 : Value) (hE : ∀ args w, (callFunc F args).run Tryz.prog w = .ok (.enter F args) w) (p : EntryS → Bool) (b : List EntryS) (v : Value) (w : World) (hb : Kd.entry.slice.K w Any b [v])
    (hp : ∀ (E : EntryS) (EA EB ED : Option Addr) (ea eb ed : Nat) (u : World), Below w.heap.size w u → EAt u E EA EB ED ea eb ed → Calls Tryz.prog F #[.agg #[.int .i64 E.id, .int .i64 E.sched, .int .i64 E.epoch, .slice EA E.needs.length ea, .slice EB E.bound.length eb, .slice ED E.done.length ed], c1] u fun e u' => e = .returned (.bool (p E)) ∧ Below u.heap.size u u') :
    Calls Tryz.prog 22 #[v, .func (.func F) #[] #[c1]] w fun e w' => e = .returned (.int .i64 (idxE p b)) ∧ Below w.heap.size w w' := by
  have HP := hid hp
  obtain ⟨A, c, he, hc, hm, hr⟩ := hb
  cases he
  have HR := hid hr
  obtain ⟨q, hq⟩ : ∃ q, b.length = q := ⟨_, rfl⟩
  have HQ := hid hq
  rw [hq] at hc hm ⊢
  clear hr hq hp
  go_enter Tryz.func22, Tryz.ntmps22
  go_wp2
  go_loopw [8] (fun i wr => ∃ k : Nat, k ≤ q ∧ i = .int .i64 k ∧ Hid (∀ (j : Nat) E', j < k → b[j]? = some E' → p E' = false) ∧ Hid (Below w.heap.size w wr)) (fun i _ => q - (intOf i).toNat)
  case atStart => exact ⟨0, by omega, rfl, hid (fun j E' h => by omega), hid (Below.refl _ _)⟩
  case round =>
    obtain ⟨k, hk, rfl, HN, HB⟩ := hrel
    by_cases hlt : k < q
    · obtain ⟨a, E, EA, EB, ED, ea, eb, ed, rfl, hx, k1, k2, k3, r0, r1, r2, r3, r4, r5⟩ := (HR.out.below HB.out).at_entry k (by rw [HQ.out]; exact hlt)
      have HX := hid hx
      have hltI : (k : Int) < (q : Int) := by omega
      have hk0 : (0 : Int) ≤ (k : Int) := by omega
      have HEA := hid (EAt.mk k1 k2 k3)
      clear hx k1 k2 k3
      go_wp2_with fail
      refine (HP.out E EA EB ED ea eb ed wr HB.out HEA.out).mono ?_
      rintro e w1 ⟨rfl, hb1⟩
      have HB1 := hid (bThen HB.out hb1)
      clear hb1 r0 r1 r2 r3 r4 r5
      cases hpe : p E
      case true =>
        have HF := hid (idxE_at HX.out hpe HN.out)
        clear hpe
        go_wp2
        go_ret
        rw [HF.out]
        exact ⟨rfl, HB1.out⟩
      have HN2 := hid (show ∀ (j : Nat) E', j < k + 1 → b[j]? = some E' → p E' = false from fun j E' hj hx => by
        rcases Nat.lt_or_ge j k with h | h
        · exact HN.out j E' h hx
        · rw [show j = k by omega, HX.out] at hx
          rw [← Option.some.inj hx]; exact hpe)
      clear hpe
      go_wp2
      go_roundw
      case rel => exact ⟨k + 1, by omega, by go_num, HN2, HB1⟩
      case measure => simp [intOf]; omega
    · obtain rfl : k = q := by omega
      have HF := hid (idxE_none (p := p) (b := b) (fun j E' hj hx => HN.out j E' (by rw [← HQ.out]; exact hj) hx))
      go_wp2
      go_ret
      rw [HF.out]
      exact ⟨rfl, HB.out⟩
theorem place1_enter : ∀ args w, (callFunc 66 args).run Tryz.prog w = .ok (.enter 66 args) w := by
  intro args w
  kernel_rfl
set_option maxHeartbeats 4000000 in
set_option maxRecDepth 100000 in
theorem place1_calls (E : EntryS) (EA EB ED : Option Addr) (ea eb ed : Nat) (j : Int) (b : Nat) (w : World) (hj : w.cell? ⟨b, 0, none⟩ = some (.int .i64 j)) :
    Calls Tryz.prog 66 #[.agg #[.int .i64 E.id, .int .i64 E.sched, .int .i64 E.epoch, .slice EA E.needs.length ea, .slice EB E.bound.length eb, .slice ED E.done.length ed], .pointer (some ⟨b, 0, none⟩)] w fun e w' => e = .returned (.bool (E.id == j)) ∧ Below w.heap.size w w' := by
  have hlt := World.block_lt_of_cell? w ⟨b, 0, none⟩ hj
  have h2 : (w.alloc (.cells #[.int .i64 E.id, .int .i64 E.sched, .int .i64 E.epoch, .slice EA E.needs.length ea, .slice EB E.bound.length eb, .slice ED E.done.length ed] 45)).cell? ⟨b, 0, none⟩ = some (.int .i64 j) := (((bcell (bAlloc (Below.refl w.heap.size w) (.cells #[.int .i64 E.id, .int .i64 E.sched, .int .i64 E.epoch, .slice EA E.needs.length ea, .slice EB E.bound.length eb, .slice ED E.done.length ed] 45))).1) _ _ hlt).trans hj
  go_enter Tryz.func66, Tryz.ntmps66
  go_wp2
  go_ret
  exact ⟨rfl, bAlloc (Below.refl _ _) _⟩
set_option maxHeartbeats 4000000 in
set_option maxRecDepth 100000 in
theorem place_calls20 (b : List EntryS) (j : Int) (v : Value) (w : World) (hb : Kd.entry.slice.K w Any b [v]) :
    Calls Tryz.prog 51 #[v, .int .i64 j] w fun e w' => e = .returned (.int .i64 (placeE b j)) ∧ Below w.heap.size w w' := by
  have hmf := makeFunc_run Tryz.prog
  have HK := hid (Kd.below hb (bAlloc (Below.refl w.heap.size w) (.cells #[.int .i64 j] 3)))
  have HC := hid (fun (u : World) (h : Below (w.alloc (.cells #[.int .i64 j] 3)).heap.size (w.alloc (.cells #[.int .i64 j] 3)) u) => box1 (W := w.alloc (.cells #[.int .i64 j] 3)) (b := w.heap.size) (t := 3) (v0 := .int .i64 j) (heap_at rfl) u h)
  obtain ⟨A, c, he, _, _, _⟩ := hb
  injection he with he _
  subst he
  go_enter Tryz.func51, Tryz.ntmps51
  go_wp2_with fail
  refine (indexFunc_calls 66 (.pointer (some ⟨w.heap.size, 0, none⟩)) place1_enter (fun e => e.id == j) b _ _ HK.out (fun E EA EB ED ea eb ed u hu _ => place1_calls E EA EB ED ea eb ed j w.heap.size u (HC.out u hu))).mono ?_
  rintro e w1 ⟨rfl, hb1⟩
  go_wp2
  go_ret
  exact ⟨rfl, bThen (bAlloc (Below.refl _ _) _) hb1⟩
set_option maxHeartbeats 4000000 in
set_option maxRecDepth 100000 in
theorem rplace_calls20 (b : List EntryS) (j : Int) (v : Value) (w : World) (hb : Kd.entry.slice.K w Any b [v]) :
    Calls Tryz.prog 27 #[v, .int .i64 j] w fun e w' => e = .returned (.int .i64 (placeE b j)) ∧ w = w' := by
  obtain ⟨A, c, he, hc, hm, hr⟩ := hb
  cases he
  have HR := hid hr
  obtain ⟨q, hq⟩ : ∃ q, b.length = q := ⟨_, rfl⟩
  have HQ := hid hq
  rw [hq] at hc hm ⊢
  clear hr hq
  go_enter Tryz.func27, Tryz.ntmps27
  go_wp2
  go_loop [5] (fun i => ∃ k : Nat, k ≤ q ∧ i = .int .i64 k ∧ Hid (∀ (i : Nat) E', i < k → b[i]? = some E' → (E'.id == j) = false)) (fun i => q - (intOf i).toNat)
  case atStart => exact ⟨0, by omega, rfl, hid (fun i E' h => by omega)⟩
  case round =>
    obtain ⟨k, hk, rfl, HN⟩ := hrel
    by_cases hlt : k < q
    · obtain ⟨a, E, EA, EB, ED, ea, eb, ed, rfl, hx, k1, k2, k3, r0, r1, r2, r3, r4, r5⟩ := HR.out.at_entry k (by rw [HQ.out]; exact hlt)
      have HX := hid hx
      have hltI : (k : Int) < (q : Int) := by omega
      have hk0 : (0 : Int) ≤ (k : Int) := by omega
      clear hx k1 k2 k3 r1 r2 r3 r4 r5
      cases hpe : E.id == j
      case true =>
        have HF := hid (show placeE b j = k from idxE_at (p := fun e => e.id == j) HX.out hpe HN.out)
        go_wp2
        go_ret
        rw [HF.out]
        exact ⟨rfl, rfl⟩
      have HN2 := hid (show ∀ (i : Nat) E', i < k + 1 → b[i]? = some E' → (E'.id == j) = false from fun i E' hj hx => by
        rcases Nat.lt_or_ge i k with h | h
        · exact HN.out i E' h hx
        · rw [show i = k by omega, HX.out] at hx
          rw [← Option.some.inj hx]; exact hpe)
      go_wp2
      go_round
      case rel => exact ⟨k + 1, by omega, by go_num, HN2⟩
      case measure => simp [intOf]; omega
    · obtain rfl : k = q := by omega
      have HF := hid (show placeE b j = -1 from idxE_none (p := fun e => e.id == j) (b := b) (fun i E' hj hx => HN.out i E' (by rw [← HQ.out]; exact hj) hx))
      go_wp2
      go_ret
      rw [HF.out]
      exact ⟨rfl, rfl⟩
/-! ### an entry in memory of its own -/
theorem grown_none {W W' : World} (h : W.grownBy W' none) : Below W.heap.size W W' := (Below.refl W.heap.size W).grown h (Nat.le_refl _) (fun k e => by cases e)
theorem set6 {W : World} {rb : Nat} {t : TypeId} {z0 z1 z2 z3 z4 z5 : Value} (h : W.heap[rb]? = some (.cells #[z0, z1, z2, z3, z4, z5] t (0, 0))) (v0 v1 v2 v3 v4 v5 : Value) :
    ∃ W', W' = ((((((W.setCell ⟨rb, 0, none⟩ v0).setCell ⟨rb, 1, none⟩ v1).setCell ⟨rb, 2, none⟩ v2).setCell ⟨rb, 3, none⟩ v3).setCell ⟨rb, 4, none⟩ v4).setCell ⟨rb, 5, none⟩ v5) ∧ W'.heap[rb]? = some (.cells #[v0, v1, v2, v3, v4, v5] t (0, 0)) ∧
      W'.cell? ⟨rb, 0, none⟩ = some v0 ∧ W'.cell? ⟨rb, 1, none⟩ = some v1 ∧ W'.cell? ⟨rb, 2, none⟩ = some v2 ∧ W'.cell? ⟨rb, 3, none⟩ = some v3 ∧ W'.cell? ⟨rb, 4, none⟩ = some v4 ∧ W'.cell? ⟨rb, 5, none⟩ = some v5 ∧ Below rb W W' ∧ (∀ k, k ≠ rb → W'.heap[k]? = W.heap[k]?) ∧ W'.heap.size = W.heap.size := by
  have g0 := heap_set h 0 v0
  have g1 := heap_set g0 1 v1
  have g2 := heap_set g1 2 v2
  have g3 := heap_set g2 3 v3
  have g4 := heap_set g3 4 v4
  have g5 := heap_set g4 5 v5
  have e : (((((#[z0, z1, z2, z3, z4, z5].setIfInBounds 0 v0).setIfInBounds 1 v1).setIfInBounds 2 v2).setIfInBounds 3 v3).setIfInBounds 4 v4).setIfInBounds 5 v5 = #[v0, v1, v2, v3, v4, v5] := by simp
  rw [e] at g5
  have b0 := (Below.refl rb W).setCell (p := ⟨rb, 0, none⟩) (Nat.le_refl _) v0
  have b1 := b0.setCell (p := ⟨rb, 1, none⟩) (Nat.le_refl _) v1
  have b2 := b1.setCell (p := ⟨rb, 2, none⟩) (Nat.le_refl _) v2
  have b3 := b2.setCell (p := ⟨rb, 3, none⟩) (Nat.le_refl _) v3
  have b4 := b3.setCell (p := ⟨rb, 4, none⟩) (Nat.le_refl _) v4
  have b5 := b4.setCell (p := ⟨rb, 5, none⟩) (Nat.le_refl _) v5
  obtain ⟨q, _, _⟩ := cells_of_block g5
  refine ⟨_, rfl, g5, q 0 v0 rfl, q 1 v1 rfl, q 2 v2 rfl, q 3 v3 rfl, q 4 v4 rfl, q 5 v5 rfl, b5, fun k hk => ?_, by simp⟩
  rw [Below.heap_setCell _ _ _ _ (by simpa using hk), Below.heap_setCell _ _ _ _ (by simpa using hk), Below.heap_setCell _ _ _ _ (by simpa using hk), Below.heap_setCell _ _ _ _ (by simpa using hk), Below.heap_setCell _ _ _ _ (by simpa using hk), Below.heap_setCell _ _ _ _ (by simpa using hk)]
theorem Tryz.infoBool : (Tryz.prog.info? 4).map (fun i => (i.zero, i.size, i.bytes)) = some (some (.bool false), 1, 1) := by kernel_rfl
/-- An entry is not longer than what may be made. -/
structure Fits (E : EntryS) : Prop where
  needs : E.needs.length ≤ 1000000
  bound : E.bound.length ≤ 1000000
  done : E.done.length ≤ 1000000
/-- An entry whose lists lie from block B on. -/
structure ENew (w : World) (B : Nat) (E : EntryS) (EA EB ED : Option Addr) (ea eb ed : Nat) : Prop where
  needs : Kd.str.slice.K w (fun k => B ≤ k) E.needs [.slice EA E.needs.length ea]
  bound : I64.slice.K w (fun k => B ≤ k) E.bound [.slice EB E.bound.length eb]
  done : Kd.bool.slice.K w (fun k => B ≤ k) E.done [.slice ED E.done.length ed]
/-- An entry whose lists are its own, from block B on. -/
structure EOwn (w : World) (B : Nat) (E : EntryS) (EA EB ED : Option Addr) (ea eb ed : Nat) : Prop where
  needs : Own Kd.str 9 w B NoT (.slice EA E.needs.length ea) E.needs
  bound : Own I64 3 w B NoT (.slice EB E.bound.length eb) E.bound
  done : Own Kd.bool 4 w B NoT (.slice ED E.done.length ed) E.done
theorem EOwn.new {w : World} {B : Nat} {E : EntryS} {EA EB ED : Option Addr} {ea eb ed : Nat} (h : EOwn w B E EA EB ED ea eb ed) : ENew w B E EA EB ED ea eb ed :=
  ⟨Kd.str.slice.mono (fun k hk _ => by rcases hk with hk | hk; exact hk.elim; exact hk) h.needs.K, I64.slice.mono (fun k hk _ => by rcases hk with hk | hk; exact hk.elim; exact hk) h.bound.K, Kd.bool.slice.mono (fun k hk _ => by rcases hk with hk | hk; exact hk.elim; exact hk) h.done.K⟩
set_option maxHeartbeats 4000000 in
set_option maxRecDepth 100000 in
theorem bcopiedO_calls (E : EntryS) (EA EB ED : Option Addr) (ea eb ed : Nat) (w : World) (hE : EAt w E EA EB ED ea eb ed) (hF : Fits E) :
    Calls Tryz.prog 20 #[.agg #[.int .i64 E.id, .int .i64 E.sched, .int .i64 E.epoch, .slice EA E.needs.length ea, .slice EB E.bound.length eb, .slice ED E.done.length ed]] w fun e w' => ∃ FA FB FD fa fb fd, e = .returned (.agg #[.int .i64 E.id, .int .i64 E.sched, .int .i64 E.epoch, .slice FA E.needs.length fa, .slice FB E.bound.length fb, .slice FD E.done.length fd]) ∧ EOwn w' w.heap.size E FA FB FD fa fb fd ∧ Below w.heap.size w w' := by
  obtain ⟨W0, hW0⟩ : ∃ W0, W0 = (w.alloc (.cells #[.int .i64 E.id, .int .i64 E.sched, .int .i64 E.epoch, .slice EA E.needs.length ea, .slice EB E.bound.length eb, .slice ED E.done.length ed] 45)).alloc (.cells #[.int .i64 0, .int .i64 0, .int .i64 0, .slice none 0 0, .slice none 0 0, .slice none 0 0] 45) := ⟨_, rfl⟩
  have b0 := hid (show Below w.heap.size w W0 by rw [hW0]; exact bAlloc (bAlloc (Below.refl _ _) _) _)
  have HX0 := hid (show W0.heap[w.heap.size]? = some (.cells #[.int .i64 E.id, .int .i64 E.sched, .int .i64 E.epoch, .slice EA E.needs.length ea, .slice EB E.bound.length eb, .slice ED E.done.length ed] 45 (0, 0)) by rw [hW0]; exact heap_old (by simp) (heap_at rfl))
  have HZ0 := hid (show W0.heap[w.heap.size + 1]? = some (.cells #[.int .i64 0, .int .i64 0, .int .i64 0, .slice none 0 0, .slice none 0 0, .slice none 0 0] 45 (0, 0)) by rw [hW0]; exact heap_at (by simp))
  have hs0 : W0.heap.size = w.heap.size + 2 := by rw [hW0]; simp
  have H1 := hid (Kd.str.slice.mono (S' := fun b => b < w.heap.size) (fun _ _ h => h) hE.needs)
  have H2 := hid (I64.slice.mono (S' := fun b => b < w.heap.size) (fun _ _ h => h) hE.bound)
  have H3 := hid (Kd.bool.slice.mono (S' := fun b => b < w.heap.size) (fun _ _ h => h) hE.done)
  obtain ⟨n1, hn1⟩ : ∃ n, n = E.needs.length := ⟨_, rfl⟩
  obtain ⟨n2, hn2⟩ : ∃ n, n = E.bound.length := ⟨_, rfl⟩
  obtain ⟨n3, hn3⟩ : ∃ n, n = E.done.length := ⟨_, rfl⟩
  have N1 := hid hn1
  have N2 := hid hn2
  have N3 := hid hn3
  have l1 : n1 ≤ 1000000 := by rw [hn1]; exact hF.needs
  have l2 : n2 ≤ 1000000 := by rw [hn2]; exact hF.bound
  have l3 : n3 ≤ 1000000 := by rw [hn3]; exact hF.done
  rw [← hn1] at H1 HX0 hW0 ⊢
  rw [← hn2] at H2 HX0 hW0 ⊢
  rw [← hn3] at H3 HX0 hW0 ⊢
  have HW0 := hid hW0
  clear hE hF hn1 hn2 hn3 hW0
  have R1 := hid (K_row (Kd.str.slice.move (w1 := W0) (fun b hb _ => b0.out.block b hb) H1.out))
  go_enter Tryz.func20, Tryz.ntmps20
  have HS0 := hid hs0
  clear hs0
  have hEq := HW0.out.symm
  have S0 := hid (show w.heap.size + 2 ≤ W0.heap.size by have := HS0.out; omega)
  obtain ⟨p0, g0, _⟩ := cells_of_block HX0.out
  have x0 := p0 3 _ rfl
  have xf0 := g0 3
  clear p0 g0
  go_wp2_with (at_builtin; go_must (refine appends_arm Kd.str (w0 := W0) W0.heap.size rfl _ _ 22 9 _ 16 rfl Tryz.underlying22 Tryz.infoStr rfl (by decide) (by decide) (.slice none 0 0) [] E.needs EA n1 ea NoT (fun b => b < w.heap.size) NoT rfl rfl N1.out.symm R1.out.1 (fun _ _ h => h) (fun _ h => h.elim) (Own.nil _ _ _ _ _) (Below.refl _ _) (Nat.le_refl _) (by simp; omega) ?_))
  intro v1 V1 hO1 _ hg1 _
  have hb1 := grown_none hg1
  obtain ⟨A1, m1, c1, rfl, hm1, _⟩ := hO1.shape'
  have hmn1 : m1 = n1 := by rw [hm1, N1.out]; try simp
  subst hmn1
  obtain ⟨W1, hW1⟩ : ∃ W, W = V1.setCell ⟨w.heap.size, 3, none⟩ (.slice A1 m1 c1) := ⟨_, rfl⟩
  have HV1 := hid (show V1.heap[w.heap.size]? = some (.cells _ 45 (0, 0)) from (hb1.block w.heap.size (by have := S0.out; omega)).trans HX0.out)
  obtain ⟨p1, g1, l1'⟩ := cells_of_block HV1.out
  have y1 := p1 3 _ rfl
  have yf1 := g1 3
  clear p1 g1
  have HX1 := hid (show W1.heap[w.heap.size]? = some (.cells #[.int .i64 E.id, .int .i64 E.sched, .int .i64 E.epoch, .slice A1 m1 c1, .slice EB n2 eb, .slice ED n3 ed] 45 (0, 0)) by rw [hW1]; have := heap_set HV1.out 3 (.slice A1 m1 c1); simpa using this)
  have b1 := hid (show Below w.heap.size w W1 by rw [hW1]; exact (b0.out.trans (hb1.mono (by have := S0.out; omega))).setCell (p := ⟨w.heap.size, 3, none⟩) (Nat.le_refl _) _)
  have HZ1 := hid (show W1.heap[w.heap.size + 1]? = some (.cells #[.int .i64 0, .int .i64 0, .int .i64 0, .slice none 0 0, .slice none 0 0, .slice none 0 0] 45 (0, 0)) by rw [hW1, Below.heap_setCell _ _ _ _ (by simp)]; exact (hb1.block _ (by have := S0.out; omega)).trans HZ0.out)
  have hOb1 := hO1.lower (base' := w.heap.size + 2) S0.out
  have O1 := hid (show Own Kd.str 9 W1 (w.heap.size + 2) NoT (.slice A1 m1 c1) E.needs by rw [hW1]; have h := hOb1.setCell (p := ⟨w.heap.size, 3, none⟩) (fun h => h) (fun e => by have h1 := (hOb1.lt _ e).1; simp at h1; omega) (.slice A1 m1 c1); simpa using h)
  have hs1 : w.heap.size + 2 ≤ W1.heap.size := by rw [hW1]; simp; have := hb1.size; have := S0.out; omega
  have hEq1 := hW1.symm
  clear hO1 hOb1 hg1 hb1 hW1 hm1 x0 xf0
  have R2 := hid (K_row ((Kd.int .i64).slice.move (w1 := W1) (fun b hb _ => b1.out.block b hb) H2.out))
  have S1 := hid (show w.heap.size + 2 ≤ W1.heap.size by have := hs1; omega)
  clear hs1
  obtain ⟨p1, g1, _⟩ := cells_of_block HX1.out
  have x1 := p1 4 _ rfl
  have xf1 := g1 4
  clear p1 g1
  go_wp2_with (at_builtin; go_must (refine appends_arm (Kd.int .i64) (w0 := W1) W1.heap.size rfl _ _ 42 3 _ 8 rfl Tryz.underlying42 Tryz.infoInt rfl (by decide) (by decide) (.slice none 0 0) [] E.bound EB n2 eb NoT (fun b => b < w.heap.size) NoT rfl rfl N2.out.symm R2.out.1 (fun _ _ h => h) (fun _ h => h.elim) (Own.nil _ _ _ _ _) (Below.refl _ _) (Nat.le_refl _) (by simp; omega) ?_))
  intro v2 V2 hO2 _ hg2 _
  have hb2 := grown_none hg2
  obtain ⟨A2, m2, c2, rfl, hm2, _⟩ := hO2.shape'
  have hmn2 : m2 = n2 := by rw [hm2, N2.out]; try simp
  subst hmn2
  obtain ⟨W2, hW2⟩ : ∃ W, W = V2.setCell ⟨w.heap.size, 4, none⟩ (.slice A2 m2 c2) := ⟨_, rfl⟩
  have HV2 := hid (show V2.heap[w.heap.size]? = some (.cells _ 45 (0, 0)) from (hb2.block w.heap.size (by have := S1.out; omega)).trans HX1.out)
  obtain ⟨p2, g2, l2'⟩ := cells_of_block HV2.out
  have y2 := p2 4 _ rfl
  have yf2 := g2 4
  clear p2 g2
  have HX2 := hid (show W2.heap[w.heap.size]? = some (.cells #[.int .i64 E.id, .int .i64 E.sched, .int .i64 E.epoch, .slice A1 m1 c1, .slice A2 m2 c2, .slice ED n3 ed] 45 (0, 0)) by rw [hW2]; have := heap_set HV2.out 4 (.slice A2 m2 c2); simpa using this)
  have b2 := hid (show Below w.heap.size w W2 by rw [hW2]; exact (b1.out.trans (hb2.mono (by have := S1.out; omega))).setCell (p := ⟨w.heap.size, 4, none⟩) (Nat.le_refl _) _)
  have HZ2 := hid (show W2.heap[w.heap.size + 1]? = some (.cells #[.int .i64 0, .int .i64 0, .int .i64 0, .slice none 0 0, .slice none 0 0, .slice none 0 0] 45 (0, 0)) by rw [hW2, Below.heap_setCell _ _ _ _ (by simp)]; exact (hb2.block _ (by have := S1.out; omega)).trans HZ1.out)
  have O1_2 := hid (show Own Kd.str 9 W2 (w.heap.size + 2) NoT (.slice A1 m1 c1) E.needs by rw [hW2]; exact (O1.out.below hb2).setCell (p := ⟨w.heap.size, 4, none⟩) (fun h => h) (fun e => by have h1 := (O1.out.lt _ e).1; simp at h1; omega) _)
  have hOb2 := hO2.lower (base' := w.heap.size + 2) S1.out
  have O2 := hid (show Own (Kd.int .i64) 3 W2 (w.heap.size + 2) NoT (.slice A2 m2 c2) E.bound by rw [hW2]; have h := hOb2.setCell (p := ⟨w.heap.size, 4, none⟩) (fun h => h) (fun e => by have h1 := (hOb2.lt _ e).1; simp at h1; omega) (.slice A2 m2 c2); simpa using h)
  have hs2 : w.heap.size + 2 ≤ W2.heap.size := by rw [hW2]; simp; have := hb2.size; have := S1.out; omega
  have hEq2 := hW2.symm
  clear hO2 hOb2 hg2 hb2 hW2 hm2 x1 xf1
  have R3 := hid (K_row (Kd.bool.slice.move (w1 := W2) (fun b hb _ => b2.out.block b hb) H3.out))
  have S2 := hid (show w.heap.size + 2 ≤ W2.heap.size by have := hs2; omega)
  clear hs2
  obtain ⟨p2, g2, _⟩ := cells_of_block HX2.out
  have x2 := p2 5 _ rfl
  have xf2 := g2 5
  clear p2 g2
  go_wp2_with (at_builtin; go_must (refine appends_arm Kd.bool (w0 := W2) W2.heap.size rfl _ _ 43 4 _ 1 rfl Tryz.underlying43 Tryz.infoBool rfl (by decide) (by decide) (.slice none 0 0) [] E.done ED n3 ed NoT (fun b => b < w.heap.size) NoT rfl rfl N3.out.symm R3.out.1 (fun _ _ h => h) (fun _ h => h.elim) (Own.nil _ _ _ _ _) (Below.refl _ _) (Nat.le_refl _) (by simp; omega) ?_))
  intro v3 V3 hO3 _ hg3 _
  have hb3 := grown_none hg3
  obtain ⟨A3, m3, c3, rfl, hm3, _⟩ := hO3.shape'
  have hmn3 : m3 = n3 := by rw [hm3, N3.out]; try simp
  subst hmn3
  obtain ⟨W3, hW3⟩ : ∃ W, W = V3.setCell ⟨w.heap.size, 5, none⟩ (.slice A3 m3 c3) := ⟨_, rfl⟩
  have HV3 := hid (show V3.heap[w.heap.size]? = some (.cells _ 45 (0, 0)) from (hb3.block w.heap.size (by have := S2.out; omega)).trans HX2.out)
  obtain ⟨p3, g3, l3'⟩ := cells_of_block HV3.out
  have y3 := p3 5 _ rfl
  have yf3 := g3 5
  clear p3 g3
  have HX3 := hid (show W3.heap[w.heap.size]? = some (.cells #[.int .i64 E.id, .int .i64 E.sched, .int .i64 E.epoch, .slice A1 m1 c1, .slice A2 m2 c2, .slice A3 m3 c3] 45 (0, 0)) by rw [hW3]; have := heap_set HV3.out 5 (.slice A3 m3 c3); simpa using this)
  have b3 := hid (show Below w.heap.size w W3 by rw [hW3]; exact (b2.out.trans (hb3.mono (by have := S2.out; omega))).setCell (p := ⟨w.heap.size, 5, none⟩) (Nat.le_refl _) _)
  have HZ3 := hid (show W3.heap[w.heap.size + 1]? = some (.cells #[.int .i64 0, .int .i64 0, .int .i64 0, .slice none 0 0, .slice none 0 0, .slice none 0 0] 45 (0, 0)) by rw [hW3, Below.heap_setCell _ _ _ _ (by simp)]; exact (hb3.block _ (by have := S2.out; omega)).trans HZ2.out)
  have O1_2_3 := hid (show Own Kd.str 9 W3 (w.heap.size + 2) NoT (.slice A1 m1 c1) E.needs by rw [hW3]; exact (O1_2.out.below hb3).setCell (p := ⟨w.heap.size, 5, none⟩) (fun h => h) (fun e => by have h1 := (O1_2.out.lt _ e).1; simp at h1; omega) _)
  have O2_3 := hid (show Own (Kd.int .i64) 3 W3 (w.heap.size + 2) NoT (.slice A2 m2 c2) E.bound by rw [hW3]; exact (O2.out.below hb3).setCell (p := ⟨w.heap.size, 5, none⟩) (fun h => h) (fun e => by have h1 := (O2.out.lt _ e).1; simp at h1; omega) _)
  have hOb3 := hO3.lower (base' := w.heap.size + 2) S2.out
  have O3 := hid (show Own Kd.bool 4 W3 (w.heap.size + 2) NoT (.slice A3 m3 c3) E.done by rw [hW3]; have h := hOb3.setCell (p := ⟨w.heap.size, 5, none⟩) (fun h => h) (fun e => by have h1 := (hOb3.lt _ e).1; simp at h1; omega) (.slice A3 m3 c3); simpa using h)
  have hs3 : w.heap.size + 2 ≤ W3.heap.size := by rw [hW3]; simp; have := hb3.size; have := S2.out; omega
  have hEq3 := hW3.symm
  clear hO3 hOb3 hg3 hb3 hW3 hm3 x2 xf2
  obtain ⟨p4, g4, l4⟩ := cells_of_block HX3.out
  have z0 := p4 0 _ rfl
  have z1 := p4 1 _ rfl
  have z2 := p4 2 _ rfl
  have z3 := p4 3 _ rfl
  have z4 := p4 4 _ rfl
  have z5 := p4 5 _ rfl
  clear p4 g4
  obtain ⟨W', hW', _, T0, T1, T2, T3, T4, T5, TB, TN, _⟩ := set6 HZ3.out (.int .i64 E.id) (.int .i64 E.sched) (.int .i64 E.epoch) (.slice A1 m1 c1) (.slice A2 m2 c2) (.slice A3 m3 c3)
  obtain ⟨p5, g5, l5⟩ := cells_of_block HZ3.out
  have r0 := p5 0 _ rfl
  have r1 := p5 1 _ rfl
  have r2 := p5 2 _ rfl
  have r3 := p5 3 _ rfl
  have r4 := p5 4 _ rfl
  have r5 := p5 5 _ rfl
  have u0 := g5 0
  have u1 := g5 1
  have u2 := g5 2
  have u3 := g5 3
  have u4 := g5 4
  have u5 := g5 5
  clear p5 g5
  have B4 := hid (show Below w.heap.size w W' from b3.out.trans (TB.mono (by omega)))
  have K1 := hid ((O1_2_3.out.move (w1 := W') (fun k hk hl => TN k (by rcases hk with hk | hk; exact hk.elim; have := (O1_2_3.out.lt k hk).1; omega)) (fun _ h _ => h)))
  have K2 := hid ((O2_3.out.move (w1 := W') (fun k hk hl => TN k (by rcases hk with hk | hk; exact hk.elim; have := (O2_3.out.lt k hk).1; omega)) (fun _ h _ => h)))
  have K3 := hid ((O3.out.move (w1 := W') (fun k hk hl => TN k (by rcases hk with hk | hk; exact hk.elim; have := (O3.out.lt k hk).1; omega)) (fun _ h _ => h)))
  clear TB TN
  go_wp2
  rw [← hW']
  refine bodyPost_ret (by simp [results, Tryz.results20, go_sem, T0, T1, T2, T3, T4, T5]; try rfl) rfl ?_
  exact ⟨A1, A2, A3, c1, c2, c3, rfl, ⟨by rw [← N1.out]; exact K1.out.lower (by omega), by rw [← N2.out]; exact K2.out.lower (by omega), by rw [← N3.out]; exact K3.out.lower (by omega)⟩, B4.out⟩
theorem bcopied_calls (E : EntryS) (EA EB ED : Option Addr) (ea eb ed : Nat) (w : World) (hE : EAt w E EA EB ED ea eb ed) (hF : Fits E) :
    Calls Tryz.prog 20 #[.agg #[.int .i64 E.id, .int .i64 E.sched, .int .i64 E.epoch, .slice EA E.needs.length ea, .slice EB E.bound.length eb, .slice ED E.done.length ed]] w fun e w' => ∃ FA FB FD fa fb fd, e = .returned (.agg #[.int .i64 E.id, .int .i64 E.sched, .int .i64 E.epoch, .slice FA E.needs.length fa, .slice FB E.bound.length fb, .slice FD E.done.length fd]) ∧ ENew w' w.heap.size E FA FB FD fa fb fd ∧ Below w.heap.size w w' := by
  refine (bcopiedO_calls E EA EB ED ea eb ed w hE hF).mono ?_
  rintro e w' ⟨FA, FB, FD, fa, fb, fd, rfl, h, hb⟩
  exact ⟨FA, FB, FD, fa, fb, fd, rfl, h.new, hb⟩
theorem findE_some {b : List EntryS} {j : Int} {k : Nat} {E : EntryS} (h : placeE b j = k) (hx : b[k]? = some E) : findE b j = some E := by
  unfold findE
  rw [h, if_pos (by omega), Int.toNat_natCast, hx]
theorem findE_none {b : List EntryS} {j : Int} (h : ¬ 0 ≤ placeE b j) : findE b j = none := by
  unfold findE
  rw [if_neg h]
theorem Fits.of_le {E : EntryS} (h : E.needs.length ≤ 1000000 ∧ E.bound.length ≤ 1000000 ∧ E.done.length ≤ 1000000) : Fits E := ⟨h.1, h.2.1, h.2.2⟩
set_option maxHeartbeats 4000000 in
set_option maxRecDepth 100000 in
theorem bfind_calls (b : List EntryS) (j : Int) (v : Value) (w : World) (hb : Kd.entry.slice.K w Any b [v]) (hF : ∀ E ∈ b, Fits E) :
    Calls Tryz.prog 35 #[v, .int .i64 j] w fun e w' => ∃ FA FB FD fa fb fd, e = .returned (.tuple #[.agg #[.int .i64 ((findE b j).getD zeroE).id, .int .i64 ((findE b j).getD zeroE).sched, .int .i64 ((findE b j).getD zeroE).epoch, .slice FA ((findE b j).getD zeroE).needs.length fa, .slice FB ((findE b j).getD zeroE).bound.length fb, .slice FD ((findE b j).getD zeroE).done.length fd], .bool (findE b j).isSome]) ∧ ENew w' w.heap.size ((findE b j).getD zeroE) FA FB FD fa fb fd ∧ Below w.heap.size w w' := by
  obtain ⟨W0, hW0⟩ : ∃ W0, W0 = w.alloc (.cells #[.int .i64 0, .int .i64 0, .int .i64 0, .slice none 0 0, .slice none 0 0, .slice none 0 0] 45) := ⟨_, rfl⟩
  have b0 := hid (show Below w.heap.size w W0 by rw [hW0]; exact bAlloc (Below.refl _ _) _)
  have HZ0 := hid (show W0.heap[w.heap.size]? = some (.cells #[.int .i64 0, .int .i64 0, .int .i64 0, .slice none 0 0, .slice none 0 0, .slice none 0 0] 45 (0, 0)) by rw [hW0]; exact heap_at rfl)
  have HS0 := hid (show w.heap.size < W0.heap.size by rw [hW0]; simp)
  have HK := hid (Kd.below hb b0.out)
  have HF := hid hF
  obtain ⟨A, c, he, hc, hm, _⟩ := hb
  injection he with he _
  subst he
  have hEq := hW0.symm
  obtain ⟨q, hq⟩ : ∃ q, q = b.length := ⟨_, rfl⟩
  have HQ := hid hq
  rw [← hq] at hc hm HK ⊢
  clear hW0 hF hq
  go_enter Tryz.func35, Tryz.ntmps35
  go_wp2_with fail
  refine (place_calls20 b j _ W0 HK.out).mono ?_
  rintro e w1 ⟨rfl, hb1⟩
  have hz1 := (hb1.block _ HS0.out).trans HZ0.out
  have HZ1 := hid hz1
  have B1 := hid (bThen b0.out hb1)
  have HS1 := hid (Nat.lt_of_lt_of_le HS0.out hb1.size)
  have HK1 := hid (Kd.below HK.out hb1)
  clear hb1 hz1
  by_cases hp : 0 ≤ placeE b j
  · obtain ⟨k, E, hpk, hx, _, hkl⟩ := idxE_some hp
    have hpk' : placeE b j = k := hpk
    have HFE := hid (findE_some hpk' hx)
    rw [hpk']
    have hk0 : (0 : Int) ≤ (k : Int) := by omega
    have hkq : (k : Int) < (q : Int) := by rw [HQ.out]; omega
    obtain ⟨a, E', EA, EB, ED, ea, eb, ed, rfl, hx', k1, k2, k3, r0, r1, r2, r3, r4, r5⟩ := (K_row HK1.out).1.at_entry k hkl
    rw [hx] at hx'
    obtain rfl := Option.some.inj hx'
    have HEA := hid (EAt.mk k1 k2 k3)
    have HFT := hid (HF.out E (List.mem_of_getElem? hx))
    clear hpk hx k1 k2 k3 hp hpk' hx'
    go_wp2_with fail
    refine (bcopied_calls E EA EB ED ea eb ed w1 HEA.out HFT.out).mono ?_
    rintro e w2 ⟨FA, FB, FD, fa, fb, fd, rfl, hN, hb2⟩
    have hz2 := (hb2.block _ HS1.out).trans HZ1.out
    obtain ⟨W', hW', _, T0, T1, T2, T3, T4, T5, TB, TN, _⟩ := set6 hz2 (.int .i64 E.id) (.int .i64 E.sched) (.int .i64 E.epoch) (.slice FA E.needs.length fa) (.slice FB E.bound.length fb) (.slice FD E.done.length fd)
    obtain ⟨p5, g5, l5⟩ := cells_of_block hz2
    have q0 := p5 0 _ rfl
    have q1 := p5 1 _ rfl
    have q2 := p5 2 _ rfl
    have q3 := p5 3 _ rfl
    have q4 := p5 4 _ rfl
    have q5 := p5 5 _ rfl
    have u0 := g5 0
    have u1 := g5 1
    have u2 := g5 2
    have u3 := g5 3
    have u4 := g5 4
    have u5 := g5 5
    have B4 := hid (show Below w.heap.size w W' from (bThen B1.out hb2).trans TB)
    have M1 := hid (Kd.str.slice.move (w1 := W') (fun k (hk : w1.heap.size ≤ k) _ => TN k (by have := HS1.out; omega)) hN.needs)
    have M2 := hid (I64.slice.move (w1 := W') (fun k (hk : w1.heap.size ≤ k) _ => TN k (by have := HS1.out; omega)) hN.bound)
    have M3 := hid (Kd.bool.slice.move (w1 := W') (fun k (hk : w1.heap.size ≤ k) _ => TN k (by have := HS1.out; omega)) hN.done)
    clear p5 g5 hz2 TB TN hN hb2
    go_wp2
    rw [← hW']
    refine bodyPost_ret (by simp [results, Tryz.results35, go_sem, T0, T1, T2, T3, T4, T5]; try rfl) rfl ?_
    rw [HFE.out]
    simp only [Option.getD_some, Option.isSome_some]
    exact ⟨FA, FB, FD, fa, fb, fd, rfl, ⟨Kd.str.slice.mono (fun k hk _ => by have := HS1.out; omega) M1.out, I64.slice.mono (fun k hk _ => by have := HS1.out; omega) M2.out, Kd.bool.slice.mono (fun k hk _ => by have := HS1.out; omega) M3.out⟩, B4.out⟩
  · have HFE := hid (findE_none hp)
    have hpn : placeE b j = -1 := idxE_neg hp
    rw [hpn]
    obtain ⟨W', hW', _, T0, T1, T2, T3, T4, T5, TB, TN, _⟩ := set6 HZ1.out (.int .i64 0) (.int .i64 0) (.int .i64 0) (.slice none 0 0) (.slice none 0 0) (.slice none 0 0)
    obtain ⟨p5, g5, l5⟩ := cells_of_block HZ1.out
    have q0 := p5 0 _ rfl
    have q1 := p5 1 _ rfl
    have q2 := p5 2 _ rfl
    have q3 := p5 3 _ rfl
    have q4 := p5 4 _ rfl
    have q5 := p5 5 _ rfl
    have u0 := g5 0
    have u1 := g5 1
    have u2 := g5 2
    have u3 := g5 3
    have u4 := g5 4
    have u5 := g5 5
    have B4 := hid (show Below w.heap.size w W' from B1.out.trans TB)
    clear p5 g5 TB TN hp hpn
    go_wp2
    rw [← hW']
    refine bodyPost_ret (by simp [results, Tryz.results35, go_sem, T0, T1, T2, T3, T4, T5]; try rfl) rfl ?_
    rw [HFE.out]
    exact ⟨none, none, none, 0, 0, 0, rfl, ⟨⟨none, 0, rfl, Nat.le_refl _, by decide, Kd.Row.nil⟩, ⟨none, 0, rfl, Nat.le_refl _, by decide, Kd.Row.nil⟩, ⟨none, 0, rfl, Nat.le_refl _, by decide, Kd.Row.nil⟩⟩, B4.out⟩
end Go.Proofs.YtgedkcglkhleoaaGreatDoor
