import Derived.Test.YtlckkcefkiffjaaNet2
import Derived.Deep.RegionHeld3
import Derived.Test.YtlckkcefkiffjaaKeep
namespace Go.Proofs.Ytlckkcefkiffjaa
open Go.RowKit

set_option maxHeartbeats 1600000 in
set_option maxRecDepth 100000 in
theorem netList_calls (T : Nat → Prop) (g : Nat) (N : NetS) (w : World) (hd : NetAt w T g N) :
    Calls Try.prog 65 #[.pointer (some ⟨g, 0, none⟩)] w fun e w' => ∃ v, e = .returned v ∧ Own Kd.thing 64 w' w.heap.size NoT v N.l ∧ Below w.heap.size w w' := by
  obtain ⟨⟨k1, k2, k3⟩, hT, hg, A, c, hc, c0, c1, _, _, _, _⟩ := hd.cells
  have HR := hid (hd.2.row c0)
  clear hd c1
  go_enter Try.func65, Try.ntmps65
  go_wp2_with (at_builtin; go_must (refine appends_arm Kd.thing (w0 := w) w.heap.size rfl _ _ 96 64 _ 40 rfl Try.underlying96 Try.infoThing rfl (by decide) (by decide) (.slice none 0 0) [] N.l A N.l.length c NoT T NoT rfl rfl rfl HR.out (fun _ _ h => h) (fun _ h => h.elim) (Own.nil _ _ _ _ _) (Below.refl _ _) (Nat.le_refl _) (by simp; omega) ?_))
  intro v1 w1 hO1 hb1 _ _
  try rw [List.nil_append] at hO1
  go_wp2
  go_ret
  exact ⟨_, rfl, hO1, hb1⟩
set_option maxHeartbeats 1600000 in
set_option maxRecDepth 100000 in
theorem netClone_calls (T : Nat → Prop) (g : Nat) (N : NetS) (w : World) (hd : NetAt w T g N) :
    Calls Try.prog 64 #[.pointer (some ⟨g, 0, none⟩)] w fun e w' => ∃ p, e = .returned (.pointer (some ⟨p, 0, none⟩)) ∧ NetAt w' (fun k => w.heap.size ≤ k) p N ∧ Below w.heap.size w w' := by
  obtain ⟨hok, hT, hg, A, c, hc, c0, c1, _, _, _, _⟩ := hd.cells
  have HD := hid hd
  have HOK := hid hok
  clear hd c0 hok
  go_enter Try.func64, Try.ntmps64
  go_wp2_with fail
  go_region_held3 (fun w' => w'.cell? ⟨g, 1, none⟩ = some (.int .i64 N.most)) (first | exact c1 | exact c2 | go_keep | fail) (first
    | ((with_reducible refine (netList_calls T g N w.drew (HD.out.below (Below.refl _ _).drew)).mono ?_); rintro e w1 ⟨v, rfl, hO1, hb1⟩; have c2 := cell_keep hb1 c1; have HO1 := hid hO1; have HB1 := hid hb1; obtain ⟨A1, n1, m1, rfl, hq1, hq2⟩ := hO1.shape'; clear hO1 hb1 hq1 hq2)
    | fail)
  go_wp2
  go_ret
  have hs := HB1.out.size
  refine ⟨_, rfl, ⟨HOK.out, ⟨hs, .slice A1 n1 m1, heap_at rfl, (HO1.out.alloc _).lower (Nat.zero_le _), fun k hk => ?_⟩⟩, bAlloc ((Below.refl _ _).drew.trans HB1.out) _⟩
  have := HO1.out.lt k hk
  exact ⟨this.1, by omega⟩

/-! ### no net -/
theorem netTake_nil (k : Int) (w : World) : Calls Try.prog 43 #[.pointer none, .int .i64 k] w fun e w' => e = .returned (.tuple #[.agg #[.int .i64 0, .int .i64 0,   .string ⟨#[]⟩, .bool false], .int .i64 1]) ∧ Below w.heap.size w w' := by
  have hmay : ∀ w, Calls Try.prog 78 #[.pointer none, .int .i64 k] w fun e w' => e = .returned (.int .i64 1) ∧ w = w' := by
    intro w
    go_enter Try.func78, Try.ntmps78
    go_wp2
    go_ret
    exact ⟨rfl, rfl⟩
  go_enter Try.func43, Try.ntmps43
  go_wp2_with fail
  refine (hmay _).mono ?_
  rintro e w1 ⟨rfl, rfl⟩
  go_wp2
  refine bodyPost_ret (v := .tuple #[.agg #[.int .i64 0, .int .i64 0,   .string ⟨#[]⟩, .bool false], .int .i64 1]) (by simp [results, Try.results43, go_sem]) rfl ⟨rfl, ?_⟩
  exact bAlloc (Below.refl _ _) _
theorem netSend_nil (f t : Int) (v : Value) (w : World) : Calls Try.prog 42 #[.pointer none, .int .i64 f, .int .i64 t, v] w fun e w' => e = .returned (.int .i64 0) ∧ w = w' := by
  go_enter Try.func42, Try.ntmps42
  go_wp2
  go_ret
  exact ⟨rfl, rfl⟩
theorem netLen_nil (w : World) : Calls Try.prog 66 #[.pointer none] w fun e w' => e = .returned (.int .i64 0) ∧ w = w' := by
  go_enter Try.func66, Try.ntmps66
  go_wp2
  go_ret
  exact ⟨rfl, rfl⟩
theorem netList_nil (w : World) : Calls Try.prog 65 #[.pointer none] w fun e w' => e = .returned (.slice none 0 0) ∧ w = w' := by
  go_enter Try.func65, Try.ntmps65
  go_wp2
  go_ret
  exact ⟨rfl, rfl⟩
theorem netClone_nil (w : World) : Calls Try.prog 64 #[.pointer none] w fun e w' => e = .returned (.pointer none) ∧ w = w' := by
  go_enter Try.func64, Try.ntmps64
  go_wp2
  go_ret
  exact ⟨rfl, rfl⟩
theorem netMay_nil (k : Int) (w : World) : Calls Try.prog 78 #[.pointer none, .int .i64 k] w fun e w' => e = .returned (.int .i64 1) ∧ w = w' := by
  go_enter Try.func78, Try.ntmps78
  go_wp2
  go_ret
  exact ⟨rfl, rfl⟩
theorem netTwice_nil (k : Int) (w : World) : Calls Try.prog 60 #[.pointer none, .int .i64 k] w fun e w' => e = .returned (.int .i64 1) ∧ w = w' := by
  go_enter Try.func60, Try.ntmps60
  go_wp2_with fail
  refine (netMay_nil _ _).mono ?_
  rintro e w1 ⟨rfl, rfl⟩
  go_wp2
  go_ret
  exact ⟨rfl, rfl⟩
set_option maxRecDepth 100000 in
theorem netTurn_nil (k a b : Int) (w : World) : Calls Try.prog 62 #[.pointer none, .int .i64 k, .int .i64 a, .int .u32 b] w fun e w' => e = .returned (.int .i64 1) ∧ w = w' := by
  go_enter Try.func62, Try.ntmps62
  go_wp2_with fail
  refine (netMay_nil _ _).mono ?_
  rintro e w1 ⟨rfl, rfl⟩
  go_wp2
  go_ret
  exact ⟨rfl, rfl⟩
end Go.Proofs.Ytlckkcefkiffjaa
