/- spec.Answer; siskinref40.Answer. -/
import Derived.Test.YtolckkckheiceaaSpec1
import Derived.Test.YtolckkckheiceaaBase
namespace Go.Proofs.Ytolckkckheiceaa
open Go.RowKit

set_option maxHeartbeats 4000000 in
set_option maxRecDepth 100000 in
theorem answer_calls (C : ConfS) (CA CB : Option Addr) (ca cb : Nat) (b : List EntryS) (v : Value) (J : JobS) (JA : Option Addr) (jc : Nat) (w : World) (hC : CAt w C CA CB ca cb) (hb : Kd.entry.slice.K w Any b [v]) (hj : Kd.str.slice.K w Any J.needs [.slice JA J.needs.length jc]) (ho : AnsOk b J) :
    Calls Try.prog 58 #[.agg #[.int .i64 C.scheds, .int .i64 C.lease, .int .i64 C.again, .int .i64 C.room, .int .i64 C.out, .slice CA C.names.length ca, .slice CB C.workers.length cb], v, .agg #[.int .i64 J.id, .slice JA J.needs.length jc]] w fun e w' => e = .returned (.int .i64 (answerS C b J)) ∧ Below w.heap.size w w' := by
  have hmf := makeFunc_run Try.prog
  obtain ⟨V, hV⟩ : ∃ V, V = ((w.alloc (.cells #[.int .i64 C.scheds, .int .i64 C.lease, .int .i64 C.again, .int .i64 C.room, .int .i64 C.out, .slice CA C.names.length ca, .slice CB C.workers.length cb] 25)).alloc (.cells #[v] 33)).alloc (.cells #[.int .i64 J.id, .slice JA J.needs.length jc] 67) := ⟨_, rfl⟩
  have hb0 : Below w.heap.size w V := by rw [hV]; exact bAlloc (bAlloc (bAlloc (Below.refl _ _) _) _) _
  have hz1 : V.heap[w.heap.size]? = some (.cells #[.int .i64 C.scheds, .int .i64 C.lease, .int .i64 C.again, .int .i64 C.room, .int .i64 C.out, .slice CA C.names.length ca, .slice CB C.workers.length cb] 25 (0, 0)) := by rw [hV, Below.heap_alloc _ _ _ (by simp; try omega), Below.heap_alloc _ _ _ (by simp)]; exact heap_at rfl
  have hz2 : V.heap[w.heap.size + 1]? = some (.cells #[v] 33 (0, 0)) := by rw [hV, Below.heap_alloc _ _ _ (by simp)]; exact heap_at (by simp)
  have hz3 : V.heap[w.heap.size + 1 + 1]? = some (.cells #[.int .i64 J.id, .slice JA J.needs.length jc] 67 (0, 0)) := by rw [hV]; exact heap_at (by simp)
  obtain ⟨z2, _, _⟩ := cells_of_block hz2
  obtain ⟨z3, _, _⟩ := cells_of_block hz3
  have HX := hid (show AnsBox V C CA CB ca cb b v J JA jc w.heap.size (w.heap.size + 1) (w.heap.size + 1 + 1) from ⟨conf_box hz1 V (Below.refl _ _), z2 0 _ rfl, z3 0 _ rfl, z3 1 _ rfl, hC.below hb0, Kd.below hb hb0, Kd.below hj hb0⟩)
  have HO := hid ho
  have HBV := hid hb0
  have hEq := hV.symm
  obtain ⟨A, c, he, _, _, _⟩ := hb
  injection he with he _
  subst he
  have HVS := hid (show V.heap.size = w.heap.size + 3 by rw [hV]; simp)
  have HA := hid (show answerS C b J = if ans1 C J ≠ 0 then ans1 C J else if ans2 b J ≠ 0 then ans2 b J else ans3 C b J from rfl)
  have HLA := hid (show True from trivial)
  obtain ⟨q, hq⟩ : ∃ q, q = b.length := ⟨_, rfl⟩
  rw [← hq] at HX hEq ⊢
  clear hV hC hj hb0 hz1 hz2 hz3 z2 z3 ho hq
  go_enter Try.func58, Try.ntmps58
  obtain ⟨U, hU⟩ : ∃ U, U = V.alloc (.cells #[.func (.func 107) #[] #[.pointer (some ⟨w.heap.size, 0, none⟩), .pointer (some ⟨w.heap.size + 1 + 1, 0, none⟩)], .func (.func 108) #[] #[.pointer (some ⟨w.heap.size + 1, 0, none⟩), .pointer (some ⟨w.heap.size + 1 + 1, 0, none⟩)], .func (.func 110) #[] #[.pointer (some ⟨w.heap.size + 1, 0, none⟩), .pointer (some ⟨w.heap.size + 1 + 1, 0, none⟩), .pointer (some ⟨w.heap.size, 0, none⟩)]] 147) := ⟨_, rfl⟩
  have hbu : Below V.heap.size V U := by rw [hU]; exact bAlloc (Below.refl _ _) _
  have HZU := hid (show U.heap[V.heap.size]? = some (.cells #[.func (.func 107) #[] #[.pointer (some ⟨w.heap.size, 0, none⟩), .pointer (some ⟨w.heap.size + 1 + 1, 0, none⟩)], .func (.func 108) #[] #[.pointer (some ⟨w.heap.size + 1, 0, none⟩), .pointer (some ⟨w.heap.size + 1 + 1, 0, none⟩)], .func (.func 110) #[] #[.pointer (some ⟨w.heap.size + 1, 0, none⟩), .pointer (some ⟨w.heap.size + 1 + 1, 0, none⟩), .pointer (some ⟨w.heap.size, 0, none⟩)]] 147 (0, 0)) by rw [hU]; exact heap_at rfl)
  have HUS := hid (show V.heap.size < U.heap.size by rw [hU]; simp)
  have HXU := hid (HX.out.below hbu)
  have HBU := hid (bThen HBV.out hbu)
  have hEq2 := hU.symm
  clear hU hbu
  go_wp2
  go_loopw [17] (fun i wr => ∃ k : Nat, k ≤ 3 ∧ i = .int .i64 k ∧ Hid (Below U.heap.size U wr) ∧ Hid ((1 ≤ k → ans1 C J = 0) ∧ (2 ≤ k → ans2 b J = 0) ∧ (3 ≤ k → ans3 C b J = 0))) (fun i _ => 3 - (intOf i).toNat)
  case atStart => exact ⟨0, by omega, rfl, hid (Below.refl _ _), hid ⟨fun h => by omega, fun h => by omega, fun h => by omega⟩⟩
  case round =>
    obtain ⟨k, hk, rfl, HB, HN⟩ := hrel
    have HXR := hid (HXU.out.below HB.out)
    obtain ⟨zu, _, _⟩ := cells_of_block ((HB.out.block _ HUS.out).trans HZU.out)
    by_cases hlt : k < 3
    · rcases (show k = 0 ∨ k = 1 ∨ k = 2 by omega) with rfl | rfl | rfl
      · have y0 := zu 0 _ rfl
        have HAN := hid (show ∀ h : ans1 C J ≠ 0, answerS C b J = ans1 C J from fun h => by rw [HA.out, if_pos h])
        clear zu
        go_wp2_with fail
        refine (ans1_calls wr C CA CB ca cb b _ J JA jc _ _ _ HXR.out HO.out).mono ?_
        rintro e w1 ⟨rfl, hb1⟩
        have HB1 := hid (bThen HB.out hb1)
        clear hb1
        by_cases h0 : ans1 C J = 0
        · have HN2 := hid (show (1 ≤ 1 → ans1 C J = 0) ∧ (2 ≤ 1 → ans2 b J = 0) ∧ (3 ≤ 1 → ans3 C b J = 0) from ⟨fun _ => h0, fun h => by omega, fun h => by omega⟩)
          rw [h0]
          clear h0
          go_wp2
          go_roundw
          case rel => exact ⟨1, by omega, by go_num, HB1, HN2⟩
          case measure => simp [intOf]
        · have HF := hid (HAN.out h0)
          have hne : (ans1 C J != 0) = true := by rw [bne_iff_ne]; exact h0
          have hne2 : (ans1 C J == 0) = false := by rw [beq_eq_false_iff_ne]; exact h0
          obtain ⟨z, hz⟩ : ∃ z, z = ans1 C J := ⟨_, rfl⟩
          rw [← hz] at HF hne hne2 ⊢
          clear h0 hz
          go_wp2
          go_ret
          rw [HF.out]
          exact ⟨rfl, bThen HBU.out HB1.out⟩
      · have y0 := zu 1 _ rfl
        have HAN := hid (show ∀ h : ans2 b J ≠ 0, answerS C b J = ans2 b J from fun h => by rw [HA.out, if_neg (by rw [HN.out.1 (by omega)]; decide), if_pos h])
        clear zu
        go_wp2_with fail
        refine (ans2_calls wr C CA CB ca cb b _ J JA jc _ _ _ HXR.out HO.out).mono ?_
        rintro e w1 ⟨rfl, hb1⟩
        have HB1 := hid (bThen HB.out hb1)
        clear hb1
        by_cases h0 : ans2 b J = 0
        · have HN2 := hid (show (1 ≤ 2 → ans1 C J = 0) ∧ (2 ≤ 2 → ans2 b J = 0) ∧ (3 ≤ 2 → ans3 C b J = 0) from ⟨fun _ => HN.out.1 (by omega), fun _ => h0, fun h => by omega⟩)
          rw [h0]
          clear h0
          go_wp2
          go_roundw
          case rel => exact ⟨2, by omega, by go_num, HB1, HN2⟩
          case measure => simp [intOf]
        · have HF := hid (HAN.out h0)
          have hne : (ans2 b J != 0) = true := by rw [bne_iff_ne]; exact h0
          have hne2 : (ans2 b J == 0) = false := by rw [beq_eq_false_iff_ne]; exact h0
          obtain ⟨z, hz⟩ : ∃ z, z = ans2 b J := ⟨_, rfl⟩
          rw [← hz] at HF hne hne2 ⊢
          clear h0 hz
          go_wp2
          go_ret
          rw [HF.out]
          exact ⟨rfl, bThen HBU.out HB1.out⟩
      · have y0 := zu 2 _ rfl
        have HAN := hid (show ∀ h : ans3 C b J ≠ 0, answerS C b J = ans3 C b J from fun h => by rw [HA.out, if_neg (by rw [HN.out.1 (by omega)]; decide), if_neg (by rw [HN.out.2.1 (by omega)]; decide)])
        clear zu
        go_wp2_with fail
        refine (ans3_calls wr C CA CB ca cb b _ J JA jc _ _ _ HXR.out HO.out).mono ?_
        rintro e w1 ⟨rfl, hb1⟩
        have HB1 := hid (bThen HB.out hb1)
        clear hb1
        by_cases h0 : ans3 C b J = 0
        · have HN2 := hid (show (1 ≤ 3 → ans1 C J = 0) ∧ (2 ≤ 3 → ans2 b J = 0) ∧ (3 ≤ 3 → ans3 C b J = 0) from ⟨fun _ => HN.out.1 (by omega), fun _ => HN.out.2.1 (by omega), fun _ => h0⟩)
          rw [h0]
          clear h0
          go_wp2
          go_roundw
          case rel => exact ⟨3, by omega, by go_num, HB1, HN2⟩
          case measure => simp [intOf]
        · have HF := hid (HAN.out h0)
          have hne : (ans3 C b J != 0) = true := by rw [bne_iff_ne]; exact h0
          have hne2 : (ans3 C b J == 0) = false := by rw [beq_eq_false_iff_ne]; exact h0
          obtain ⟨z, hz⟩ : ∃ z, z = ans3 C b J := ⟨_, rfl⟩
          rw [← hz] at HF hne hne2 ⊢
          clear h0 hz
          go_wp2
          go_ret
          rw [HF.out]
          exact ⟨rfl, bThen HBU.out HB1.out⟩
    · obtain rfl : k = 3 := by omega
      have HF := hid (show answerS C b J = 0 by rw [HA.out, if_neg (by rw [HN.out.1 (by omega)]; decide), if_neg (by rw [HN.out.2.1 (by omega)]; decide)]; exact HN.out.2.2 (by omega))
      clear zu
      go_wp2
      go_ret
      rw [HF.out]
      exact ⟨rfl, bThen HBU.out HB.out⟩
theorem Try.infoEntry : (Try.prog.info? 29).map (fun i => (i.zero, i.size, i.bytes)) = some (some (.agg #[.int .i64 0, .int .i64 0, .int .i64 0, .slice none 0 0, .slice none 0 0, .slice none 0 0]), 6, 96) := by kernel_rfl
theorem own_emptyE {α : Type} {d : Kd α} {e : TypeId} {W : World} {base b : Nat} {T : Nat → Prop} (h : W.heap[b]? = some (.cells #[] e (0, 0))) (hb : base ≤ b) : Own d e W base T (.slice (some ⟨b, 0, none⟩) 0 0) [] :=
  ⟨by simp, [], ⟨by simp, .inr ⟨b, 0, #[], rfl, hb, h, Nat.le_refl _, by simp only [maxLen]; omega, by simp, by simp⟩⟩, rfl⟩
def bareE (J : JobS) : EntryS := ⟨J.id, 0, 0, J.needs, [], []⟩
end Go.Proofs.Ytolckkckheiceaa
