import Derived.Test.YtlckkcefkiffjaaNet
import Derived.Outline
namespace Go.Proofs.Ytlckkcefkiffjaa
open Go.RowKit

theorem Own.head {α : Type} {d : Kd α} {e : TypeId} {w : World} {base : Nat} {T : Nat → Prop} {A : Option Addr} {n c : Nat} {xs : List α} (h : Own d e w base T (.slice A n c) xs) (hn : 0 < xs.length) : ∃ b, A = some ⟨b, 0, none⟩ ∧ b < w.heap.size := by
  obtain ⟨_, cells, h1, _⟩ := h
  rcases h1.2 with ⟨h3, h4⟩ | ⟨g, cap, cur, h3, _, h5, _⟩
  · omega
  · injection h3 with h3
    subst h3
    exact ⟨g, rfl, (Array.getElem?_eq_some_iff.1 h5).1⟩
/-- The cells of a thing in its row. -/
theorem at_thing {w : World} {S : Nat → Prop} {b : Nat} {xs : List ThingS} (h : Kd.thing.Row w S (some ⟨b, 0, none⟩) xs) (i : Nat) (hi : i < xs.length) :
    ∃ x, xs[i]? = some x ∧ w.cell? ⟨b, i * 4, none⟩ = some (.int .i64 x.f) ∧ w.cell? ⟨b, i * 4 + 1, none⟩ = some (.int .i64 x.t) ∧ w.cell? ⟨b, i * 4 + 2, none⟩ = some (.string x.s) ∧ w.cell? ⟨b, i * 4 + 3, none⟩ = some (.bool x.turned) := by
  obtain ⟨a, cs, he, _, _, hcs, h2⟩ := h i xs[i] (List.getElem?_eq_getElem hi)
  cases he
  cases hcs
  have e : ∀ j, (⟨b, 0, none⟩ : Addr).add (i * 4 + j) = ⟨b, i * 4 + j, none⟩ := fun j => by unfold Addr.add; split <;> simp_all
  have h3 : ∀ (j : Nat) u, _ → w.cell? ⟨b, i * 4 + j, none⟩ = some u := fun j u hu => (e j) ▸ h2 j u hu
  exact ⟨_, List.getElem?_eq_getElem hi, h3 0 _ rfl, h3 1 _ rfl, h3 2 _ rfl, h3 3 _ rfl⟩

set_option maxHeartbeats 1600000 in
set_option maxRecDepth 100000 in
theorem netTake_no (T : Nat → Prop) (g : Nat) (N : NetS) (k : Int) (w : World) (hd : NetAt w T g N) (h : k < 0 ∨ (N.l.length : Int) ≤ k) :
    Calls Try.prog 43 #[.pointer (some ⟨g, 0, none⟩), .int .i64 k] w fun e w' => e = .returned (.tuple #[.agg #[.int .i64 0, .int .i64 0,   .string ⟨#[]⟩, .bool false], .int .i64 6]) ∧ Below w.heap.size w w' := by
  have HD := hid hd
  have HV := hid (show N.may k = 6 by unfold NetS.may; rw [if_pos h])
  clear hd
  go_enter Try.func43, Try.ntmps43
  go_wp2_with fail
  refine (netMay_calls T g N k _ (HD.out.below ?_)).mono ?_
  · exact bAlloc (Below.refl _ _) _
  rintro e w1 ⟨rfl, rfl⟩
  rw [HV.out]
  go_wp2
  refine bodyPost_ret (v := .tuple #[.agg #[.int .i64 0, .int .i64 0,   .string ⟨#[]⟩, .bool false], .int .i64 6]) (by simp [results, Try.results43, go_sem]) rfl ⟨rfl, ?_⟩
  exact bAlloc (Below.refl _ _) _

set_option maxHeartbeats 1600000 in
set_option maxRecDepth 100000 in
theorem netTake_yes (T : Nat → Prop) (g : Nat) (N : NetS) (k : Nat) (w : World) (hd : NetAt w T g N) (h : k < N.l.length) :
    Calls Try.prog 43 #[.pointer (some ⟨g, 0, none⟩), .int .i64 k] w fun e w' => ∃ x, N.l[k]? = some x ∧ e = .returned (.tuple #[.agg #[.int .i64 x.f, .int .i64 x.t, .string x.s, .bool x.turned], .int .i64 0]) ∧
      NetAt w' T g ⟨N.l.eraseIdx k, N.most⟩ ∧ Mod T w w' := by
  have HD := hid hd
  have HV := hid (show N.may k = 0 by unfold NetS.may; rw [if_neg (by omega)])
  obtain ⟨⟨k1, k2, k3⟩, hT, hg, A, c, hc, c0, c1, hf, hh, hO, hne⟩ := hd.cells
  obtain ⟨b, rfl, hb⟩ := Own.head hO.out (by omega)
  obtain ⟨x, hx, e0, e1, e2, e3⟩ := at_thing (hd.2.row c0) k h
  have HX := hid hx
  have hff := hf.out 0
  clear hd hx c1
  obtain ⟨q, hq⟩ : ∃ q, N.l.length = q := ⟨_, rfl⟩
  have HQ := hid hq
  rw [hq] at h hc c0 hh hO hne k1
  have h1 : k ≤ q := by omega
  have h2 : ¬ c = k := by omega
  have h3 : k + 1 ≤ q := by omega
  clear hq
  have main : ∀ (A2 : Option Addr) (d1 d2 s1 s2 : Nat) (W : World), d1 = q - k → s1 = q - (k + 1) → A2 = (if c = k + 1 then some ⟨b, 0, none⟩ else some ⟨b, (k + 1) * 4, none⟩) → Below w.heap.size w W →
      ∃ w1, (Builtin.copy_ #[96, 96] 3 #[.slice (some ⟨b, k * 4, none⟩) d1 d2, .slice A2 s1 s2]).run Try.prog W = .ok (.int .i64 s1) w1 ∧
        Hid (Own Kd.thing 64 w1 0 NoT (.slice (some ⟨b, 0, none⟩) q c) (N.l.take k ++ N.l.drop (k + 1) ++ N.l.drop (q - 1))) ∧ Hid (W.grownBy w1 (some b)) := by
    intro A2 d1 d2 s1 s2 W hd1 hs1 hA2 hW
    subst hd1 hs1
    have hOW := hO.out.below hW
    obtain ⟨A', c', he, _, _, hrow⟩ := hOW.K
    have hrow2 : Kd.thing.Row W (fun b => NoT b ∨ 0 ≤ b) (some ⟨b, 0, none⟩) N.l := by cases he; exact hrow
    have hr := Kd.Row.drop hrow2 (k + 1) c (by rw [HQ.out]; omega) (by rw [HQ.out]; omega)
    have hA : A2 = (if c = k + 1 then some ⟨b, 0, none⟩ else (some (⟨b, 0, none⟩ : Addr)).map (·.add ((k + 1) * Kd.thing.sz))) := by
      rw [hA2]
      split
      · rfl
      · simp only [Option.map_some]
        rw [Kd.add_lit _ _ (by show 0 < (k + 1) * 4; omega)]
        simp; rfl
    rw [← hA] at hr
    obtain ⟨w1, hrun, hO2, hg2⟩ := Own.copy_run (P := Try.prog) (dT := 96) (sT := 96) (ty := 3) (dp := some ⟨b, k * 4, none⟩) (dLen := q - k) (dCap := d2) (sLen := q - (k + 1)) (sCap := s2) (k := k) (m := q - (k + 1)) (Tp := NoT) Try.underlying96 Try.infoThing hOW (by rw [HQ.out]) (by simp [Nat.min_def]; omega) (by rw [List.length_drop, HQ.out]) (by omega) (fun _ => rfl) hr (fun _ _ h => h) (fun _ h => h.elim)
    refine ⟨w1, hrun, ?_, hg2⟩
    rw [show k + (q - (k + 1)) = q - 1 by omega] at hO2
    exact hO2
  have MAIN := hid main
  have hok2 : NetS.ok ⟨N.l.eraseIdx k, N.most⟩ := ⟨by simp only [List.length_eraseIdx, HQ.out]; split <;> omega, k2, k3⟩
  have fin : ∀ (W : World) (u0 u1 u2 u3 : Value), Below w.heap.size W ((((W.setCell ⟨w.heap.size, 0, none⟩ u0).setCell ⟨w.heap.size, 1, none⟩ u1).setCell ⟨w.heap.size, 2, none⟩ u2).setCell ⟨w.heap.size, 3, none⟩ u3) := fun W u0 u1 u2 u3 =>
    ((((Below.refl _ W).setCell (p := ⟨w.heap.size, 0, none⟩) (Nat.le_refl _) _).setCell (p := ⟨w.heap.size, 1, none⟩) (Nat.le_refl _) _).setCell (p := ⟨w.heap.size, 2, none⟩) (Nat.le_refl _) _).setCell (p := ⟨w.heap.size, 3, none⟩) (Nat.le_refl _) _
  clear main
  by_cases h4 : c = k + 1
  · obtain rfl : k + 1 = q := by omega
    obtain rfl : k + 1 = c := by omega
    have h5 : ¬ k + 1 = k := by omega
    have h6 : (k : Int) ≤ (k : Int) + 1 := by omega
    go_enter Try.func43, Try.ntmps43
    go_wp2_with fail
    refine (netMay_calls T g N k _ (HD.out.below ?_)).mono ?_
    · exact bAlloc (Below.refl _ _) _
    rintro e w1 ⟨rfl, rfl⟩
    rw [HV.out]
    go_wp2_with fail
    have hw1 : IntKind.i64.wrap ((k : Int) + 1) = k + 1 := IntWalk.i64_in _ (by omega)
    have hw3 : (0 : Int) ≤ (k : Int) + 1 := by omega
    have hw2 : ((k : Int) + 1).toNat = k + 1 := by omega
    refine wp_tail 13 (by kernel_rfl) (by kernel_rfl) ?_
    simp only [List.take_succ_cons, List.take_zero, List.drop_succ_cons, List.drop_zero]
    repeat (refine wpStill_step (fun K hK => ?_); go_simp; refine hK _ ?_; clear hK K)
    refine wpStill_nil ?_
    clear hw1 hw2 hw3
    obtain ⟨w1, hrun, hO1, hG1⟩ := MAIN.out (some ⟨b, 0, none⟩) 1 1 0 0 _ (by omega) (by omega) (by simp) (bAlloc (bAlloc (Below.refl w.heap.size w) (Obj.cells #[.int .i64 0, .int .i64 0, .string ⟨#[]⟩, .bool false] 64)) (Obj.cells #[.int .i64 x.f, .int .i64 x.t, .string x.s, .bool x.turned] 64)).drew
    have hh1 := (World.grownBy.block hG1.out g (by simp; omega) (fun e => by cases e; exact (hne.out g rfl).2 rfl)).trans (show _ = some (Obj.cells #[.slice (some ⟨b, 0, none⟩) (k + 1) (k + 1), .int .i64 N.most] 121 (0, 0)) from heap_old (by simp; omega) (heap_old hg hh.out))
    have hh2 := (World.grownBy.block hG1.out w.heap.size (by simp; omega) (fun e => by cases e; omega)).trans (show _ = some (Obj.cells #[.int .i64 0, .int .i64 0, .string ⟨#[]⟩, .bool false] 64 (0, 0)) from heap_old (by simp) (heap_at rfl))
    have hh3 := (World.grownBy.block hG1.out (w.heap.size + 1) (by simp) (fun e => by cases e; omega)).trans (show _ = some (Obj.cells #[.int .i64 x.f, .int .i64 x.t, .string x.s, .bool x.turned] 64 (0, 0)) from heap_at (by simp))
    obtain ⟨g1, g2, hg1⟩ := cells_of_block hh1
    obtain ⟨y1, y2, y3⟩ := cells_of_block hh2
    obtain ⟨z1, z2, z3⟩ := cells_of_block hh3
    have g1' := g1 0 _ rfl
    have g2' := g2 0
    have y10 := y1 0 _ rfl
    have y11 := y1 1 _ rfl
    have y12 := y1 2 _ rfl
    have y13 := y1 3 _ rfl
    have y20 := y2 0
    have y21 := y2 1
    have y22 := y2 2
    have y23 := y2 3
    have z10 := z1 0 _ rfl
    have z11 := z1 1 _ rfl
    have z12 := z1 2 _ rfl
    have z13 := z1 3 _ rfl
    have HH1 := hid hh1
    have HH2 := hid hh2
    clear hh1 hh2 hh3 g1 g2 y1 y2 z1 z2
    clear c0 e0 e1 e2 e3
    go_wp2_with fail
    have hv1 : IntKind.i64.wrap (k : Int) = k := IntWalk.i64_in _ (by omega)
    refine wp_tail 14 (by kernel_rfl) (by kernel_rfl) ?_
    simp only [List.take_succ_cons, List.take_zero, List.drop_succ_cons, List.drop_zero]
    repeat (refine wpStill_step (fun K hK => ?_); go_simp; refine hK _ ?_; clear hK K)
    refine wpStill_nil ?_
    clear hv1
    go_wp2_with fail
    have hO2 : Own Kd.thing _ w1 0 NoT (.slice (some ⟨b, 0, none⟩) k (k + 1)) ((N.l.take k ++ N.l.drop (k + 1) ++ N.l.drop k).take k) := hO1.out.short k (by omega) (by rw [List.length_append, List.length_append, List.length_take, List.length_drop, List.length_drop, HQ.out]; omega)
    have he : (N.l.take k ++ N.l.drop (k + 1) ++ N.l.drop k).take k = N.l.eraseIdx k := by
      rw [List.eraseIdx_eq_take_drop_succ, List.take_append_of_le_length (by simp [HQ.out]; try omega), List.take_of_length_le (by simp [HQ.out]; try omega)]
    rw [he] at hO2
    have hb2 : BoxAt Kd.thing 64 121 (w1.setCell ⟨g, 0, none⟩ (.slice (some ⟨b, 0, none⟩) k (k + 1))) (fun k => T k ∧ k < w.heap.size) g (N.l.eraseIdx k) [.int .i64 N.most] :=
      ⟨⟨hT, hg⟩, _, heap_set (show w1.heap[g]? = _ from HH1.out) 0 _, hO2.setCell (fun h => h) (fun e => by cases e; exact (hne.out g rfl).2 rfl) _, fun k hk => by cases hk; exact ⟨⟨(hne.out b rfl).1, hb⟩, (hne.out b rfl).2⟩⟩
    have hm2 : Mod T w (w1.setCell ⟨g, 0, none⟩ (.slice (some ⟨b, 0, none⟩) k (k + 1))) := (((((Mod.refl T w).alloc _).alloc _).drew).grown hG1.out (fun k hk _ => by cases hk; exact (hne.out b rfl).1)).setCell (p := ⟨g, 0, none⟩) (fun _ => hT) _
    refine bodyPost_ret (v := .tuple #[.agg #[.int .i64 x.f, .int .i64 x.t, .string x.s, .bool x.turned], .int .i64 0]) (by simp [results, Try.results43, go_sem, y10, y11, y12, y13]) rfl ⟨x, HX.out, rfl, ?_, ?_⟩
    · have hbF := fin (w1.setCell ⟨g, 0, none⟩ (.slice (some ⟨b, 0, none⟩) k (k + 1)))
      exact ⟨hok2, (BoxAt.move hb2 (fun k hk h => (hbF _ _ _ _).drew.block k h.2)).mono (fun _ _ h => h.1)⟩
    · exact ((((hm2.setCell (p := ⟨w.heap.size, 0, none⟩) (fun h => absurd h (Nat.lt_irrefl _)) _).setCell (p := ⟨w.heap.size, 1, none⟩) (fun h => absurd h (Nat.lt_irrefl _)) _).setCell (p := ⟨w.heap.size, 2, none⟩) (fun h => absurd h (Nat.lt_irrefl _)) _).setCell (p := ⟨w.heap.size, 3, none⟩) (fun h => absurd h (Nat.lt_irrefl _)) _).drew
  · go_enter Try.func43, Try.ntmps43
    go_wp2_with fail
    refine (netMay_calls T g N k _ (HD.out.below ?_)).mono ?_
    · exact bAlloc (Below.refl _ _) _
    rintro e w1 ⟨rfl, rfl⟩
    rw [HV.out]
    go_wp2_with fail
    have hw1 : IntKind.i64.wrap ((k : Int) + 1) = k + 1 := IntWalk.i64_in _ (by omega)
    have hw3 : (0 : Int) ≤ (k : Int) + 1 := by omega
    have hw4 : (k : Int) + 1 ≤ (q : Int) := by omega
    have hw2 : ((k : Int) + 1).toNat = k + 1 := by omega
    refine wp_tail 13 (by kernel_rfl) (by kernel_rfl) ?_
    simp only [List.take_succ_cons, List.take_zero, List.drop_succ_cons, List.drop_zero]
    repeat (refine wpStill_step (fun K hK => ?_); go_simp; refine hK _ ?_; clear hK K)
    refine wpStill_nil ?_
    clear hw1 hw2 hw3 hw4
    obtain ⟨w1, hrun, hO1, hG1⟩ := MAIN.out (some ⟨b, (k + 1) * 4, none⟩) (q - k) (c - k) (q - (k + 1)) (c - (k + 1)) _ rfl rfl (by rw [if_neg h4]) (bAlloc (bAlloc (Below.refl w.heap.size w) (Obj.cells #[.int .i64 0, .int .i64 0, .string ⟨#[]⟩, .bool false] 64)) (Obj.cells #[.int .i64 x.f, .int .i64 x.t, .string x.s, .bool x.turned] 64)).drew
    have hh1 := (World.grownBy.block hG1.out g (by simp; omega) (fun e => by cases e; exact (hne.out g rfl).2 rfl)).trans (show _ = some (Obj.cells #[.slice (some ⟨b, 0, none⟩) q c, .int .i64 N.most] 121 (0, 0)) from heap_old (by simp; omega) (heap_old hg hh.out))
    have hh2 := (World.grownBy.block hG1.out w.heap.size (by simp; omega) (fun e => by cases e; omega)).trans (show _ = some (Obj.cells #[.int .i64 0, .int .i64 0, .string ⟨#[]⟩, .bool false] 64 (0, 0)) from heap_old (by simp) (heap_at rfl))
    have hh3 := (World.grownBy.block hG1.out (w.heap.size + 1) (by simp) (fun e => by cases e; omega)).trans (show _ = some (Obj.cells #[.int .i64 x.f, .int .i64 x.t, .string x.s, .bool x.turned] 64 (0, 0)) from heap_at (by simp))
    obtain ⟨g1, g2, hg1⟩ := cells_of_block hh1
    obtain ⟨y1, y2, y3⟩ := cells_of_block hh2
    obtain ⟨z1, z2, z3⟩ := cells_of_block hh3
    have g1' := g1 0 _ rfl
    have g2' := g2 0
    have y10 := y1 0 _ rfl
    have y11 := y1 1 _ rfl
    have y12 := y1 2 _ rfl
    have y13 := y1 3 _ rfl
    have y20 := y2 0
    have y21 := y2 1
    have y22 := y2 2
    have y23 := y2 3
    have z10 := z1 0 _ rfl
    have z11 := z1 1 _ rfl
    have z12 := z1 2 _ rfl
    have z13 := z1 3 _ rfl
    have HH1 := hid hh1
    have HH2 := hid hh2
    clear hh1 hh2 hh3 g1 g2 y1 y2 z1 z2
    clear c0 e0 e1 e2 e3
    go_wp2_with fail
    have hv1 : IntKind.i64.wrap ((q : Int) - 1) = q - 1 := IntWalk.i64_in _ (by omega)
    have hv3 : (1 : Int) ≤ (q : Int) := by omega
    have hv4 : (q : Int) - 1 ≤ (c : Int) := by omega
    have hv2 : ((q : Int) - 1).toNat = q - 1 := by omega
    refine wp_tail 14 (by kernel_rfl) (by kernel_rfl) ?_
    simp only [List.take_succ_cons, List.take_zero, List.drop_succ_cons, List.drop_zero]
    repeat (refine wpStill_step (fun K hK => ?_); go_simp; refine hK _ ?_; clear hK K)
    refine wpStill_nil ?_
    clear hv1 hv2 hv3 hv4
    go_wp2_with fail
    have hO2 : Own Kd.thing _ w1 0 NoT (.slice (some ⟨b, 0, none⟩) (q - 1) c) ((N.l.take k ++ N.l.drop (k + 1) ++ N.l.drop (q - 1)).take (q - 1)) := hO1.out.short (q - 1) (by omega) (by rw [List.length_append, List.length_append, List.length_take, List.length_drop, List.length_drop, HQ.out]; omega)
    have he : (N.l.take k ++ N.l.drop (k + 1) ++ N.l.drop (q - 1)).take (q - 1) = N.l.eraseIdx k := by
      rw [List.eraseIdx_eq_take_drop_succ, List.take_append_of_le_length (by simp [HQ.out]; try omega), List.take_of_length_le (by simp [HQ.out]; try omega)]
    rw [he] at hO2
    have hb2 : BoxAt Kd.thing 64 121 (w1.setCell ⟨g, 0, none⟩ (.slice (some ⟨b, 0, none⟩) (q - 1) c)) (fun k => T k ∧ k < w.heap.size) g (N.l.eraseIdx k) [.int .i64 N.most] :=
      ⟨⟨hT, hg⟩, _, heap_set (show w1.heap[g]? = _ from HH1.out) 0 _, hO2.setCell (fun h => h) (fun e => by cases e; exact (hne.out g rfl).2 rfl) _, fun k hk => by cases hk; exact ⟨⟨(hne.out b rfl).1, hb⟩, (hne.out b rfl).2⟩⟩
    have hm2 : Mod T w (w1.setCell ⟨g, 0, none⟩ (.slice (some ⟨b, 0, none⟩) (q - 1) c)) := (((((Mod.refl T w).alloc _).alloc _).drew).grown hG1.out (fun k hk _ => by cases hk; exact (hne.out b rfl).1)).setCell (p := ⟨g, 0, none⟩) (fun _ => hT) _
    refine bodyPost_ret (v := .tuple #[.agg #[.int .i64 x.f, .int .i64 x.t, .string x.s, .bool x.turned], .int .i64 0]) (by simp [results, Try.results43, go_sem, y10, y11, y12, y13]) rfl ⟨x, HX.out, rfl, ?_, ?_⟩
    · have hbF := fin (w1.setCell ⟨g, 0, none⟩ (.slice (some ⟨b, 0, none⟩) (q - 1) c))
      exact ⟨hok2, (BoxAt.move hb2 (fun k hk h => (hbF _ _ _ _).drew.block k h.2)).mono (fun _ _ h => h.1)⟩
    · exact ((((hm2.setCell (p := ⟨w.heap.size, 0, none⟩) (fun h => absurd h (Nat.lt_irrefl _)) _).setCell (p := ⟨w.heap.size, 1, none⟩) (fun h => absurd h (Nat.lt_irrefl _)) _).setCell (p := ⟨w.heap.size, 2, none⟩) (fun h => absurd h (Nat.lt_irrefl _)) _).setCell (p := ⟨w.heap.size, 3, none⟩) (fun h => absurd h (Nat.lt_irrefl _)) _).drew

/-- What is known behind an append to a box's row, in a world that has only grown. -/
theorem BoxAt.grow2 {α : Type} {d : Kd α} {e t : TypeId} {w w1 W : World} {T : Nat → Prop} {g : Nat} {rest : List Value} {v v1 : Value} {ys : List α} (hT : T g) (hbW : Below w.heap.size w W) (hg : g < w.heap.size)
    (HH : w.heap[g]? = some (.cells (v :: rest).toArray t (0, 0))) (HNE : ∀ k, v.ownBlock = some k → T k ∧ k ≠ g)
    (hO1 : Own d e w1 0 NoT v1 ys) (hg1 : W.grownBy w1 v.ownBlock) (hat : v1.ownBlock = v.ownBlock ∨ ∃ b, v1.ownBlock = some b ∧ W.heap.size ≤ b) :
    ∃ A1 m1 c1, v1 = .slice A1 m1 c1 ∧ g < w1.heap.size ∧ w1.cell? ⟨g, 0, none⟩ = some v ∧ w1.frozen? ⟨g, 0, none⟩ = false ∧ Hid (Mod T w w1) ∧ Hid (BoxAt d e t (w1.setCell ⟨g, 0, none⟩ (.slice A1 m1 c1)) (fun k => T k ∨ w.heap.size ≤ k) g ys rest) := by
  obtain ⟨A1, m1, c1, h1, h2, h3, h4, h5, h6, h7⟩ := BoxAt.grow (T := fun k => T k ∨ w.heap.size ≤ k) (w := w) (W := W) (B := w.heap.size) (.inl hT) (Mod.of_below hbW) (Nat.lt_of_lt_of_le hg hbW.size) hbW.size ((hbW.block g hg).trans HH) (fun k hk => ⟨.inl (HNE k hk).1, (HNE k hk).2⟩) (fun _ h => .inr h) hO1 hg1 hat
  exact ⟨A1, m1, c1, h1, h2, h3 0 _ rfl, h4 0, h6.out.mono (fun k hk h => h.elim id (fun h => absurd hk (by omega))), h7⟩

theorem netTwice_no (T : Nat → Prop) (g : Nat) (N : NetS) (k : Int) (w : World) (hd : NetAt w T g N) (h : k < 0 ∨ (N.l.length : Int) ≤ k) :
    Calls Try.prog 60 #[.pointer (some ⟨g, 0, none⟩), .int .i64 k] w fun e w' => e = .returned (.int .i64 6) ∧ w = w' := by
  have HD := hid hd
  have HV := hid (show N.may k = 6 by unfold NetS.may; rw [if_pos h])
  clear hd
  go_enter Try.func60, Try.ntmps60
  go_wp2_with fail
  refine (netMay_calls T g N k _ HD.out).mono ?_
  rintro e w1 ⟨rfl, rfl⟩
  rw [HV.out]
  go_wp2
  go_ret
  exact ⟨rfl, rfl⟩

set_option maxHeartbeats 1600000 in
set_option maxRecDepth 100000 in
theorem netTwice_full (T : Nat → Prop) (g : Nat) (N : NetS) (k : Nat) (w : World) (hd : NetAt w T g N) (h : k < N.l.length) (hf : N.most ≤ N.l.length) :
    Calls Try.prog 60 #[.pointer (some ⟨g, 0, none⟩), .int .i64 k] w fun e w' => e = .returned (.int .i64 0) ∧ ∃ n, w' = w.drewN n := by
  have HD := hid hd
  have HV := hid (show N.may k = 0 by unfold NetS.may; rw [if_neg (by omega)])
  obtain ⟨⟨k1, k2, k3⟩, hT, hg, A, c, hc, c0, c1, hfz, hh, hO, hne⟩ := hd.cells
  have hf2 : ¬ (N.l.length : Int) < N.most := by omega
  clear hd
  go_enter Try.func60, Try.ntmps60
  go_wp2_with fail
  refine (netMay_calls T g N k _ HD.out).mono ?_
  rintro e w1 ⟨rfl, rfl⟩
  rw [HV.out]
  go_wp2_with fail
  go_quiet (fail)
  go_wp2
  go_ret
  exact ⟨rfl, _, rfl⟩

set_option maxHeartbeats 1600000 in
set_option maxRecDepth 100000 in
theorem netTwice_yes (T : Nat → Prop) (g : Nat) (N : NetS) (k : Nat) (w : World) (hd : NetAt w T g N) (h : k < N.l.length) (hf : (N.l.length : Int) < N.most) :
    Calls Try.prog 60 #[.pointer (some ⟨g, 0, none⟩), .int .i64 k] w fun e w' => e = .returned (.int .i64 0) ∧ ∃ x, N.l[k]? = some x ∧ NetAt w' (fun k => T k ∨ w.heap.size ≤ k) g ⟨N.l ++ [x], N.most⟩ ∧ Mod T w w' := by
  have HD := hid hd
  have HV := hid (show N.may k = 0 by unfold NetS.may; rw [if_neg (by omega)])
  obtain ⟨⟨k1, k2, k3⟩, hT, hg, A, c, hc, c0, c1, hfz, hh, hO, hne⟩ := hd.cells
  obtain ⟨b, rfl, hb⟩ := Own.head hO.out (by omega)
  obtain ⟨x, hx, e0, e1, e2, e3⟩ := at_thing (hd.2.row c0) k h
  have HX := hid hx
  have hff := hfz.out 0
  have hok2 : NetS.ok ⟨N.l ++ [x], N.most⟩ := ⟨by simp; omega, k2, k3⟩
  have hlen : (N.l.length + 1) * 40 ≤ 140737488355328 := by omega
  have hk : ∀ n o, Below w.heap.size w ((w.drewN n).alloc o) := fun n o => bAlloc (below_drewN (Below.refl _ _) _) _
  have m0 : ∀ n o, ((w.drewN n).alloc o).cell? ⟨g, 0, none⟩ = some (.slice (some ⟨b, 0, none⟩) N.l.length c) := fun n o => ((bcell (hk n o)).1 _ _ hg).trans c0
  have mf : ∀ n o, ((w.drewN n).alloc o).frozen? ⟨g, 0, none⟩ = false := fun n o => ((bcell (hk n o)).2 _ _ hg).trans hff
  have m1 : ∀ n o, ((w.drewN n).alloc o).cell? ⟨b, k * 4, none⟩ = some (.int .i64 x.f) := fun n o => ((bcell (hk n o)).1 _ _ hb).trans e0
  have m2 : ∀ n o, ((w.drewN n).alloc o).cell? ⟨b, k * 4 + 1, none⟩ = some (.int .i64 x.t) := fun n o => ((bcell (hk n o)).1 _ _ hb).trans e1
  have m3 : ∀ n o, ((w.drewN n).alloc o).cell? ⟨b, k * 4 + 2, none⟩ = some (.string x.s) := fun n o => ((bcell (hk n o)).1 _ _ hb).trans e2
  have m4 : ∀ n o, ((w.drewN n).alloc o).cell? ⟨b, k * 4 + 3, none⟩ = some (.bool x.turned) := fun n o => ((bcell (hk n o)).1 _ _ hb).trans e3
  clear hk
  clear hd hx
  go_enter Try.func60, Try.ntmps60
  go_wp2_with fail
  refine (netMay_calls T g N k _ HD.out).mono ?_
  rintro e w1 ⟨rfl, rfl⟩
  rw [HV.out]
  go_wp2_with fail
  go_quiet (fail)
  go_wp2_with fail
  go_region_law (refine appends_step Kd.thing 0 rfl _ _ 96 64 _ 40 rfl Try.underlying96 Try.infoThing rfl (by decide) (by decide) (.slice (some ⟨b, 0, none⟩) N.l.length c) N.l [x] (some ⟨w.heap.size, 0, none⟩) 1 1 NoT (fun k => k = w.heap.size) NoT rfl rfl rfl (row_one (d := Kd.thing) (te := 64) (fr := (0, 0)) (cs := [.int .i64 x.f, .int .i64 x.t, .string x.s, .bool x.turned]) (heap_at rfl) (fun _ => rfl)) (fun _ _ h => h) (fun _ h => h.elim) (Own.below hO.out (bAlloc (below_drewN (Below.refl _ _) _) _)) (Nat.zero_le _) hlen ?_; intro v1 w1 hO1 hg1 hat; obtain ⟨A1, n9, c9, rfl, hg2, d0, f0, HM1, HB1⟩ := BoxAt.grow2 hT (bAlloc (below_drewN (Below.refl _ _) _) _) hg hh.out hne.out hO1 hg1 hat; clear hO1 hg1 hat c0 c1 hff e0 e1 e2 e3 m0 mf m1 m2 m3 m4)
  all_goals
    go_wp2
    go_ret
    exact ⟨rfl, x, HX.out, ⟨hok2, HB1.out⟩, HM1.out.setCell (p := ⟨g, 0, none⟩) (fun _ => hT) _⟩
end Go.Proofs.Ytlckkcefkiffjaa
