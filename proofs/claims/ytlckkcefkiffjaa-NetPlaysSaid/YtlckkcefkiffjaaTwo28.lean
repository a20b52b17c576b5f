/- Both nets side by side. -/
import Derived.Test.YtlckkcefkiffjaaAct28
import Derived.Test.YtlckkcefkiffjaaNet4
import Derived.Test.YtlckkcefkiffjaaLaw28O
namespace Go.Proofs.Ytlckkcefkiffjaa
open Go.RowKit

def NetS.takeS (N : NetS) (k : Int) : ThingS × Int × NetS := if k < 0 ∨ (N.l.length : Int) ≤ k then (⟨0, 0, ⟨#[]⟩, false⟩, 6, N) else match N.l[k.toNat]? with
  | some x => (x, 0, ⟨N.l.eraseIdx k.toNat, N.most⟩)
  | none => (⟨0, 0, ⟨#[]⟩, false⟩, 6, N)
def NetS.twiceS (N : NetS) (k : Int) : NetS × Int := if k < 0 ∨ (N.l.length : Int) ≤ k then (N, 6) else match N.l[k.toNat]? with
  | some x => (if (N.l.length : Int) < N.most then ⟨N.l ++ [x], N.most⟩ else N, 0)
  | none => (N, 6)
theorem NetS.takeS_no {N : NetS} {k : Int} (h : k < 0 ∨ (N.l.length : Int) ≤ k) : N.takeS k = (⟨0, 0, ⟨#[]⟩, false⟩, 6, N) := by unfold NetS.takeS; rw [if_pos h]
theorem NetS.takeS_yes {N : NetS} {k : Nat} {x : ThingS} (h : N.l[k]? = some x) : N.takeS k = (x, 0, ⟨N.l.eraseIdx k, N.most⟩) := by
  have hk := (List.getElem?_eq_some_iff.1 h).1
  unfold NetS.takeS
  rw [if_neg (by omega), Int.toNat_natCast, h]
theorem NetS.twiceS_no {N : NetS} {k : Int} (h : k < 0 ∨ (N.l.length : Int) ≤ k) : N.twiceS k = (N, 6) := by unfold NetS.twiceS; rw [if_pos h]
theorem NetS.twiceS_yes {N : NetS} {k : Nat} {x : ThingS} (h : N.l[k]? = some x) : N.twiceS k = (if (N.l.length : Int) < N.most then ⟨N.l ++ [x], N.most⟩ else N, 0) := by
  have hk := (List.getElem?_eq_some_iff.1 h).1
  unfold NetS.twiceS
  rw [if_neg (by omega), Int.toNat_natCast, h]
/-- What lasts: it may be, and no text is too long. -/
def NOK (N : NetS) : Prop := N.ok ∧ ∀ x ∈ N.l, x.s.size ≤ 1000
theorem NOK.send {N : NetS} (h : NOK N) (f t : Int) (l : List ByteArray) (hl : ∀ s ∈ l, s.size ≤ 1000) : NOK (N.send f t l) := by
  refine ⟨NetS.send_ok h.1 f t l, fun x hx => ?_⟩
  unfold NetS.send at hx
  rcases List.mem_append.1 hx with hx | hx
  · exact h.2 x hx
  · obtain ⟨s, hs, rfl⟩ := List.mem_map.1 hx
    exact hl s (List.mem_of_mem_take hs)
theorem NOK.take {N : NetS} (h : NOK N) (k : Int) : NOK (N.takeS k).2.2 := by
  by_cases hk : k < 0 ∨ (N.l.length : Int) ≤ k
  · rw [NetS.takeS_no hk]; exact h
  · obtain ⟨n, rfl⟩ := Int.eq_ofNat_of_zero_le (show 0 ≤ k by omega)
    rw [NetS.takeS_yes (List.getElem?_eq_getElem (show n < N.l.length by omega))]
    refine ⟨⟨?_, h.1.2⟩, fun x hx => h.2 x (List.mem_of_mem_eraseIdx hx)⟩
    have := List.length_eraseIdx_le N.l n
    have := h.1.1
    show ((N.l.eraseIdx n).length : Int) ≤ N.most
    omega
theorem NOK.twice {N : NetS} (h : NOK N) (k : Int) : NOK (N.twiceS k).1 := by
  by_cases hk : k < 0 ∨ (N.l.length : Int) ≤ k
  · rw [NetS.twiceS_no hk]; exact h
  · obtain ⟨n, rfl⟩ := Int.eq_ofNat_of_zero_le (show 0 ≤ k by omega)
    rw [NetS.twiceS_yes (List.getElem?_eq_getElem (show n < N.l.length by omega))]
    simp only
    split
    · rename_i hlt
      refine ⟨⟨by simp; omega, h.1.2⟩, fun x hx => ?_⟩
      rcases List.mem_append.1 hx with hx | hx
      · exact h.2 x hx
      · rw [List.mem_singleton.1 hx]; exact h.2 _ (List.getElem_mem _)
    · exact h
theorem turnS_size (s : ByteArray) (a b : Nat) : (turnS s a b).size = s.size := by unfold turnS; rw [mkB_size, turnL_len, data_len]
theorem NOK.turn {N : NetS} (h : NOK N) (k a : Int) (b : Nat) : NOK (N.turn k a b).1 := by
  by_cases hk : k < 0 ∨ (N.l.length : Int) ≤ k
  · rw [NetS.turn_out hk]; exact h
  · obtain ⟨n, rfl⟩ := Int.eq_ofNat_of_zero_le (show 0 ≤ k by omega)
    have hx : N.l[n]? = some (N.l[n]'(by omega)) := List.getElem?_eq_getElem _
    generalize N.l[n]'(by omega) = x at hx
    cases htr : x.turned with
    | true => rw [NetS.turn_turned hx htr]; exact h
    | false =>
      by_cases hr : a < 0 ∨ 8 * ((x.s.size : Int) - 1) ≤ a
      · rw [NetS.turn_range hx htr hr]; exact h
      · obtain ⟨m, rfl⟩ := Int.eq_ofNat_of_zero_le (show 0 ≤ a by omega)
        rw [NetS.turn_yes hx htr (by omega)]
        refine ⟨⟨by simpa using h.1.1, h.1.2⟩, fun y hy => ?_⟩
        rcases List.mem_or_eq_of_mem_set hy with hy | hy
        · exact h.2 y hy
        · rw [hy]; show (turnS x.s m b).size ≤ 1000; rw [turnS_size]; exact h.2 x (List.mem_of_getElem? hx)

theorem netTake_all (T : Nat → Prop) (g : Nat) (N : NetS) (k : Int) (w : World) (hd : NetAt w T g N) :
    Calls Try.prog 43 #[.pointer (some ⟨g, 0, none⟩), .int .i64 k] w fun e w' => e = .returned (.tuple #[.agg #[.int .i64 (N.takeS k).1.f, .int .i64 (N.takeS k).1.t, .string (N.takeS k).1.s, .bool (N.takeS k).1.turned], .int .i64 (N.takeS k).2.1]) ∧
      NetAt w' (fun k => T k ∨ w.heap.size ≤ k) g (N.takeS k).2.2 ∧ Mod T w w' := by
  by_cases hk : k < 0 ∨ (N.l.length : Int) ≤ k
  · refine (netTake_no T g N k w hd hk).mono ?_
    rintro e w' ⟨rfl, hb⟩
    rw [NetS.takeS_no hk]
    exact ⟨rfl, (hd.below hb).mono (fun _ _ h => .inl h), Mod.of_below hb⟩
  · obtain ⟨n, rfl⟩ := Int.eq_ofNat_of_zero_le (show 0 ≤ k by omega)
    refine (netTake_yes T g N n w hd (by omega)).mono ?_
    rintro e w' ⟨x, hx, rfl, hn, hm⟩
    rw [NetS.takeS_yes hx]
    exact ⟨rfl, hn.mono (fun _ _ h => .inl h), hm⟩
theorem rTake_all (S : Nat → Prop) (g : Nat) (N : NetS) (k : Int) (w : World) (hd : RNet w S g N) (hok : N.ok) :
    Calls Try.prog 58 #[.pointer (some ⟨g, 0, none⟩), .int .i64 k] w fun e w' => e = .returned (.tuple #[.agg #[.int .i64 (N.takeS k).1.f, .int .i64 (N.takeS k).1.t, .string (N.takeS k).1.s, .bool (N.takeS k).1.turned], .int .i64 (N.takeS k).2.1]) ∧
      RNet w' (fun k => S k ∨ w.heap.size ≤ k) g (N.takeS k).2.2 ∧ Mod S w w' := by
  by_cases hk : k < 0 ∨ (N.l.length : Int) ≤ k
  · refine (rTake_no S g N k w hd hk).mono ?_
    rintro e w' ⟨rfl, hb⟩
    rw [NetS.takeS_no hk]
    exact ⟨rfl, (hd.below hb).mono (fun _ _ h => .inl h), Mod.of_below hb⟩
  · obtain ⟨n, rfl⟩ := Int.eq_ofNat_of_zero_le (show 0 ≤ k by omega)
    refine (rTake_yes S g N n w hd hok (by omega)).mono ?_
    rintro e w' ⟨x, hx, rfl, hn, hm⟩
    rw [NetS.takeS_yes hx]
    exact ⟨rfl, hn, hm⟩
theorem netTwice_all (T : Nat → Prop) (g : Nat) (N : NetS) (k : Int) (w : World) (hd : NetAt w T g N) :
    Calls Try.prog 60 #[.pointer (some ⟨g, 0, none⟩), .int .i64 k] w fun e w' => e = .returned (.int .i64 (N.twiceS k).2) ∧ NetAt w' (fun k => T k ∨ w.heap.size ≤ k) g (N.twiceS k).1 ∧ Mod T w w' := by
  by_cases hk : k < 0 ∨ (N.l.length : Int) ≤ k
  · refine (netTwice_no T g N k w hd hk).mono ?_
    rintro e w' ⟨rfl, rfl⟩
    rw [NetS.twiceS_no hk]
    exact ⟨rfl, hd.mono (fun _ _ h => .inl h), Mod.refl _ _⟩
  · obtain ⟨n, rfl⟩ := Int.eq_ofNat_of_zero_le (show 0 ≤ k by omega)
    have hx : N.l[n]? = some (N.l[n]'(by omega)) := List.getElem?_eq_getElem _
    by_cases hf : (N.l.length : Int) < N.most
    · refine (netTwice_yes T g N n w hd (by omega) hf).mono ?_
      rintro e w' ⟨rfl, x, hx, hn, hm⟩
      rw [NetS.twiceS_yes hx, if_pos hf]
      exact ⟨rfl, hn, hm⟩
    · refine (netTwice_full T g N n w hd (by omega) (by omega)).mono ?_
      rintro e w' ⟨rfl, m, rfl⟩
      rw [NetS.twiceS_yes hx, if_neg hf]
      exact ⟨rfl, (hd.below (below_drewN (Below.refl _ _) m)).mono (fun _ _ h => .inl h), (Mod.refl _ _).drewN m⟩
theorem rTwice_all (S : Nat → Prop) (g : Nat) (N : NetS) (k : Int) (w : World) (hd : RNet w S g N) (hok : N.ok) :
    Calls Try.prog 61 #[.pointer (some ⟨g, 0, none⟩), .int .i64 k] w fun e w' => e = .returned (.int .i64 (N.twiceS k).2) ∧ RNet w' (fun k => S k ∨ w.heap.size ≤ k) g (N.twiceS k).1 ∧ Mod S w w' := by
  by_cases hk : k < 0 ∨ (N.l.length : Int) ≤ k
  · refine (rTwice_no S g N k w hd hk).mono ?_
    rintro e w' ⟨rfl, rfl⟩
    rw [NetS.twiceS_no hk]
    exact ⟨rfl, hd.mono (fun _ _ h => .inl h), Mod.refl _ _⟩
  · obtain ⟨n, rfl⟩ := Int.eq_ofNat_of_zero_le (show 0 ≤ k by omega)
    have hx : N.l[n]? = some (N.l[n]'(by omega)) := List.getElem?_eq_getElem _
    by_cases hf : (N.l.length : Int) < N.most
    · refine (rTwice_yes S g N n w hd hok (by omega) hf).mono ?_
      rintro e w' ⟨rfl, x, hx, hn, hm⟩
      rw [NetS.twiceS_yes hx, if_pos hf]
      exact ⟨rfl, hn, hm⟩
    · refine (rTwice_full S g N n w hd (by omega) (by omega)).mono ?_
      rintro e w' ⟨rfl, m, rfl⟩
      rw [NetS.twiceS_yes hx, if_neg hf]
      exact ⟨rfl, (hd.below (below_drewN (Below.refl _ _) m)).mono (fun _ _ h => .inl h), (Mod.refl _ _).drewN m⟩
theorem netTurn_all (T : Nat → Prop) (g : Nat) (N : NetS) (k at_ : Int) (bt : Nat) (w : World) (hd : NetAt w T g N) (hn : NOK N) (hb : bt < 4294967296) :
    Calls Try.prog 62 #[.pointer (some ⟨g, 0, none⟩), .int .i64 k, .int .i64 at_, .int .u32 bt] w fun e w' => e = .returned (.int .i64 (N.turn k at_ bt).2) ∧ NetAt w' (fun k => T k ∨ w.heap.size ≤ k) g (N.turn k at_ bt).1 ∧ Mod T w w' :=
  (netTurn_calls T g N k at_ bt w hd hb hn.2).mono fun _ _ h => ⟨h.1, h.2.1.mono (fun _ _ h => .inl h), h.2.2⟩

/-- Both hold the same, apart from one another, at or beyond B. -/
def Two (w : World) (B p r : Nat) (N : NetS) : Prop :=
  ∃ T S : Nat → Prop, (∀ k, T k → ¬ S k) ∧ (∀ k, T k → B ≤ k ∧ k < w.heap.size) ∧ (∀ k, S k → B ≤ k ∧ k < w.heap.size) ∧ NetAt w T p N ∧ RNet w S r N
section
variable {W W1 W2 : World} {B p p' r : Nat} {N N' : NetS} {T S : Nat → Prop}
theorem two_mid (hd : ∀ k, T k → ¬ S k) (hR : RNet W S r N) (hm : Mod T W W1) : RNet W1 S r N := hR.move (fun k hk hs => hm.block k hk (fun h => hd k h hs))
theorem two_step (hd : ∀ k, T k → ¬ S k) (hT : ∀ k, T k → B ≤ k ∧ k < W.heap.size) (hS : ∀ k, S k → B ≤ k ∧ k < W.heap.size) (hBW : B ≤ W.heap.size) (hN : NetAt W1 (fun k => T k ∨ W.heap.size ≤ k) p N') (hm : Mod T W W1)
    (hR : RNet W2 (fun k => S k ∨ W1.heap.size ≤ k) r N') (hm2 : Mod S W1 W2) : Two W2 B p r N' ∧ Below B W W2 := by
  have h1 := hm.size
  have h2 := hm2.size
  refine ⟨⟨fun k => (T k ∨ W.heap.size ≤ k) ∧ k < W1.heap.size, fun k => (S k ∨ W1.heap.size ≤ k) ∧ k < W2.heap.size, ?_, ?_, ?_, ?_, hR.narrow⟩, ?_⟩
  · rintro k ⟨h | h, h3⟩ ⟨h4 | h4, h5⟩
    · exact hd k h h4
    · omega
    · have := hS k h4; omega
    · omega
  · rintro k ⟨h | h, h3⟩
    · have := hT k h; omega
    · omega
  · rintro k ⟨h | h, h3⟩
    · have := hS k h; omega
    · omega
  · refine hN.narrow.move (fun k hk hT' => hm2.block k hk (fun hs => ?_))
    rcases hT'.1 with h | h
    · exact hd k h hs
    · have := hS k hs; omega
  · exact (hm.below (fun k _ h => (hT k h).1) hBW).trans (hm2.below (fun k _ h => (hS k h).1) (by omega))
theorem Two.below (h : Two W B p r N) (hb : Below W.heap.size W W1) : Two W1 B p r N := by
  obtain ⟨T, S, h1, h2, h3, h4, h5⟩ := h
  have hs := hb.size
  exact ⟨T, S, h1, fun k hk => by have := h2 k hk; omega, fun k hk => by have := h3 k hk; omega, h4.below hb, h5.below hb⟩
end
theorem Mod.of_drew {F : Nat → Prop} {w w1 : World} (h : Mod F w.drew w1) : Mod F w w1 := ⟨h.os, h.tape, h.output, h.size, h.block⟩
theorem K_one {α : Type} {d : Kd α} {W : World} {b : Nat} {cs : List Value} {te : TypeId} {fr : Nat × Nat} {p : α} (hb : W.heap[b]? = some (.cells cs.toArray te fr)) (hp : ∀ S, d.K W S p cs) : d.slice.K W Any [p] [.slice (some ⟨b, 0, none⟩) 1 1] :=
  ⟨some ⟨b, 0, none⟩, 1, rfl, by simp, by simp, (row_one hb hp).any⟩
section
end
end Go.Proofs.Ytlckkcefkiffjaa
