import Derived.Test.YtlckkcefkiffjaaNet2
import Derived.Test.YtlckkcefkiffjaaRef03
import Derived.Test.YtlckkcefkiffjaaKeep
namespace Go.Proofs.Ytlckkcefkiffjaa
open Go.RowKit

theorem NetAt.narrow {w : World} {T : Nat → Prop} {g : Nat} {N : NetS} (h : NetAt w T g N) : NetAt w (fun k => T k ∧ k < w.heap.size) g N := h.mono (fun _ h1 h2 => ⟨h2, h1⟩)
/-- A Send of texts that were just laid. -/
theorem netSend_lit (T : Nat → Prop) (g : Nat) (N : NetS) (f t : Int) (l : List ByteArray) (n : Nat) (hn : n = l.length) (W : World) (b : Nat) (hb : b = W.heap.size) (hd : NetAt W T g N) (hT : ∀ k, T k → k < W.heap.size) (hm : l.length ≤ 140737488355328) (cs : Array Value) (hcs : cs = (l.map Value.string).toArray) :
    Calls Try.prog 42 #[.pointer (some ⟨g, 0, none⟩), .int .i64 f, .int .i64 t, .slice (some ⟨b, 0, none⟩) n n] (W.alloc (.cells cs 9)) fun e w' => e = .returned (.int .i64 (N.sent l)) ∧ Hid (NetAt w' (fun k => (T k ∨ W.heap.size ≤ k) ∧ k < w'.heap.size) g (N.send f t l)) ∧ Mod T W w' ∧ W.heap.size ≤ w'.heap.size := by
  subst hn hcs hb
  have hK := K_new (n := 1) (enc := fun x => [Value.string x]) (hl := fun _ => rfl) (h1 := fun x u hu => by rw [List.mem_singleton.1 hu]; rfl) W W.heap.size rfl 9 l hm
  rw [show l.flatMap (fun x => [Value.string x]) = l.map Value.string from flatMap_one _ _] at hK
  refine (netSend_calls T g N f t l _ (W.alloc (.cells (l.map Value.string).toArray 9)) (hd.below (bAlloc (Below.refl _ _) _)) (Kd.mono _ (fun b hb _ hTb => by have := hT b hTb; omega) hK)).mono ?_
  rintro e w' ⟨rfl, h1, h2⟩
  have hs := h2.size
  have hM : Mod T W w' := ((Mod.refl T W).alloc _).trans h2 (fun _ _ h => h)
  refine ⟨rfl, (h1.mono (T' := fun k => T k ∨ W.heap.size ≤ k) (fun k _ h => h.elim .inl (fun h => .inr (by simp at h; omega)))).narrow, hM, hM.size⟩

theorem works28_a : (NetS.mk [] 9).send 1 2 [⟨#[97]⟩, ⟨#[98]⟩] = ⟨[⟨1, 2, ⟨#[97]⟩, false⟩, ⟨1, 2, ⟨#[98]⟩, false⟩], 9⟩ := rfl
set_option maxHeartbeats 1600000 in
set_option maxRecDepth 100000 in
theorem works28_calls (w : World) : Calls Try.prog 40 #[] w fun e w' => e = .returned (.bool true) ∧ Below w.heap.size w w' := by
  go_enter Try.func40, Try.ntmps40
  go_wp2_with fail
  refine (netNew_yes 9 _ (by decide) (by decide)).mono ?_
  rintro e w1 ⟨rfl, hN1, hb1⟩
  have HN1 := hid hN1.narrow
  clear hN1
  go_wp2_with fail
  refine (netSend_lit _ _ _ 1 2 [⟨#[97]⟩, ⟨#[98]⟩] 2 rfl w1 _ rfl HN1.out (fun k h => h.2) (by decide) _ rfl).mono ?_
  rintro e w2 ⟨rfl, HN2, hm2, hs2⟩
  have b2 : Below w.heap.size w w2 := below_mod hb1 hm2 (fun k h => h.1) hb1.size
  rw [show (NetS.mk [] 9).sent [⟨#[97]⟩, ⟨#[98]⟩] = 2 from rfl]
  rw [works28_a] at HN2
  clear hm2
  go_wp2_with fail
  refine (netTwice_yes _ _ _ 0 _ HN2.out (by decide) (by decide)).mono ?_
  rintro e w3 ⟨rfl, x, hx, hN3, hm3⟩
  obtain rfl : (⟨1, 2, ⟨#[97]⟩, false⟩ : ThingS) = x := by simpa using hx
  have b3 : Below w.heap.size w w3 := below_mod b2 hm3 (fun k h => h.1.elim (fun h => h.1) (fun h => Nat.le_trans hb1.size h)) b2.size
  have HN3 := hid hN3
  clear hx hm3 hN3
  go_wp2_with fail
  refine (netLen_calls _ _ _ _ HN3.out).mono ?_
  rintro e w4 ⟨rfl, rfl⟩
  go_wp2_with fail
  refine (netTake_yes _ _ _ 1 _ HN3.out (by decide)).mono ?_
  rintro e w5 ⟨x, hx, rfl, hN5, hm5⟩
  obtain rfl : (⟨1, 2, ⟨#[98]⟩, false⟩ : ThingS) = x := by simpa using hx
  have hbb := b2.size
  have b5 : Below w.heap.size w w5 := below_mod b3 hm5 (fun k h => h.elim (fun h => h.1.elim (fun h => h.1) (fun h => Nat.le_trans hb1.size h)) (fun h => Nat.le_trans b2.size h)) b3.size
  have HN5 := hid hN5
  clear hx hm5 hN5
  go_wp2_with fail
  refine (netLen_calls _ _ _ _ (HN5.out.below ?_)).mono ?_
  · exact bAlloc (Below.refl _ _) _
  rintro e w6 ⟨rfl, rfl⟩
  go_wp2
  go_ret
  exact ⟨rfl, bAlloc b5 _⟩
end Go.Proofs.Ytlckkcefkiffjaa
