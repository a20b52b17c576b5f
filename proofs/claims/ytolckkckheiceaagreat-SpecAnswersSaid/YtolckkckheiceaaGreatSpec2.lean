/- spec.Answer; siskinref40.Answer. -/
import Derived.Test.YtolckkckheiceaaGreatSpec1
import Derived.Test.YtolckkckheiceaaGreatBase
namespace Go.Proofs.YtolckkckheiceaaGreat
open Go.RowKit

set_option maxHeartbeats 4000000 in
set_option maxRecDepth 100000 in
theorem answer_calls (C : ConfS) (CA CB : Option Addr) (ca cb : Nat) (b : List EntryS) (v : Value) (J : JobS) (JA : Option Addr) (jc : Nat) (w : World) (hC : CAt w C CA CB ca cb) (hb : Kd.entry.slice.K w Any b [v]) (hj : Kd.str.slice.K w Any J.needs [.slice JA J.needs.length jc]) (ho : AnsOk b J) :
    Calls Tryz.prog 9 #[.agg #[.int .i64 C.scheds, .int .i64 C.lease, .int .i64 C.again, .int .i64 C.room, .int .i64 C.out, .slice CA C.names.length ca, .slice CB C.workers.length cb], v, .agg #[.int .i64 J.id, .slice JA J.needs.length jc]] w fun e w' => e = .returned (.int .i64 (answerS C b J)) ∧ Below w.heap.size w w' := by
  have hmf := makeFunc_run Tryz.prog
  obtain ⟨V, hV⟩ : ∃ V, V = ((w.alloc (.cells #[.int .i64 C.scheds, .int .i64 C.lease, .int .i64 C.again, .int .i64 C.room, .int .i64 C.out, .slice CA C.names.length ca, .slice CB C.workers.length cb] 25)).alloc (.cells #[v] 26)).alloc (.cells #[.int .i64 J.id, .slice JA J.needs.length jc] 28) := ⟨_, rfl⟩
  have hb0 : Below w.heap.size w V := by rw [hV]; exact bAlloc (bAlloc (bAlloc (Below.refl _ _) _) _) _
  have hz1 : V.heap[w.heap.size]? = some (.cells #[.int .i64 C.scheds, .int .i64 C.lease, .int .i64 C.again, .int .i64 C.room, .int .i64 C.out, .slice CA C.names.length ca, .slice CB C.workers.length cb] 25 (0, 0)) := by rw [hV, Below.heap_alloc _ _ _ (by simp; try omega), Below.heap_alloc _ _ _ (by simp)]; exact heap_at rfl
  have hz2 : V.heap[w.heap.size + 1]? = some (.cells #[v] 26 (0, 0)) := by rw [hV, Below.heap_alloc _ _ _ (by simp)]; exact heap_at (by simp)
  have hz3 : V.heap[w.heap.size + 1 + 1]? = some (.cells #[.int .i64 J.id, .slice JA J.needs.length jc] 28 (0, 0)) := by rw [hV]; exact heap_at (by simp)
  obtain ⟨z2, _, _⟩ := cells_of_block hz2
  obtain ⟨z3, _, _⟩ := cells_of_block hz3
  have HX := hid (show AnsBox V C CA CB ca cb b v J JA jc w.heap.size (w.heap.size + 1) (w.heap.size + 1 + 1) from ⟨conf_box hz1 V (Below.refl _ _), z2 0 _ rfl, z3 0 _ rfl, z3 1 _ rfl, hC.below hb0, Kd.below hb hb0, Kd.below hj hb0⟩)
  have HO := hid ho
  have HBV := hid hb0
  have hEq := hV.symm
  obtain ⟨A, c, he, _, _, _⟩ := hb
  injection he with he _
  subst he
  have HVS := hid (show V.heap.size = w.heap.size + 3 by rw [hV]; simp)
  have HA := hid (show answerS C b J = if ans1 C J ≠ 0 then ans1 C J else if ans2 b J ≠ 0 then ans2 b J else ans3 C b J from rfl)
  have HLA := hid (show True from trivial)
  obtain ⟨q, hq⟩ : ∃ q, q = b.length := ⟨_, rfl⟩
  rw [← hq] at HX hEq ⊢
  clear hV hC hj hb0 hz1 hz2 hz3 z2 z3 ho hq
  go_enter Tryz.func9, Tryz.ntmps9
  obtain ⟨U, hU⟩ : ∃ U, U = V.alloc (.cells #[.func (.func 35) #[] #[.pointer (some ⟨w.heap.size, 0, none⟩), .pointer (some ⟨w.heap.size + 1 + 1, 0, none⟩)], .func (.func 37) #[] #[.pointer (some ⟨w.heap.size + 1, 0, none⟩), .pointer (some ⟨w.heap.size + 1 + 1, 0, none⟩)], .func (.func 39) #[] #[.pointer (some ⟨w.heap.size + 1, 0, none⟩), .pointer (some ⟨w.heap.size + 1 + 1, 0, none⟩), .pointer (some ⟨w.heap.size, 0, none⟩)]] 89) := ⟨_, rfl⟩
  have hbu : Below V.heap.size V U := by rw [hU]; exact bAlloc (Below.refl _ _) _
  have HZU := hid (show U.heap[V.heap.size]? = some (.cells #[.func (.func 35) #[] #[.pointer (some ⟨w.heap.size, 0, none⟩), .pointer (some ⟨w.heap.size + 1 + 1, 0, none⟩)], .func (.func 37) #[] #[.pointer (some ⟨w.heap.size + 1, 0, none⟩), .pointer (some ⟨w.heap.size + 1 + 1, 0, none⟩)], .func (.func 39) #[] #[.pointer (some ⟨w.heap.size + 1, 0, none⟩), .pointer (some ⟨w.heap.size + 1 + 1, 0, none⟩), .pointer (some ⟨w.heap.size, 0, none⟩)]] 89 (0, 0)) by rw [hU]; exact heap_at rfl)
  have HUS := hid (show V.heap.size < U.heap.size by rw [hU]; simp)
  have HXU := hid (HX.out.below hbu)
  have HBU := hid (bThen HBV.out hbu)
  have hEq2 := hU.symm
  clear hU hbu
  go_wp2
  go_loopw [17] (fun i wr => ∃ k : Nat, k ≤ 3 ∧ i = .int .i64 k ∧ Hid (Below U.heap.size U wr) ∧ Hid ((1 ≤ k → ans1 C J = 0) ∧ (2 ≤ k → ans2 b J = 0) ∧ (3 ≤ k → ans3 C b J = 0))) (fun i _ => 3 - (intOf i).toNat)
  case atStart => exact ⟨0, by omega, rfl, hid (Below.refl _ _), hid ⟨fun h => by omega, fun h => by omega, fun h => by omega⟩⟩
  case round =>
    obtain ⟨k, hk, rfl, HB, HN⟩ := hrel
    have HXR := hid (HXU.out.below HB.out)
    obtain ⟨zu, _, _⟩ := cells_of_block ((HB.out.block _ HUS.out).trans HZU.out)
    by_cases hlt : k < 3
    · rcases (show k = 0 ∨ k = 1 ∨ k = 2 by omega) with rfl | rfl | rfl
      · have y0 := zu 0 _ rfl
        have HAN := hid (show ∀ h : ans1 C J ≠ 0, answerS C b J = ans1 C J from fun h => by rw [HA.out, if_pos h])
        clear zu
        go_wp2_with fail
        refine (ans1_calls wr C CA CB ca cb b _ J JA jc _ _ _ HXR.out HO.out).mono ?_
        rintro e w1 ⟨rfl, hb1⟩
        have HB1 := hid (bThen HB.out hb1)
        clear hb1
        by_cases h0 : ans1 C J = 0
        · have HN2 := hid (show (1 ≤ 1 → ans1 C J = 0) ∧ (2 ≤ 1 → ans2 b J = 0) ∧ (3 ≤ 1 → ans3 C b J = 0) from ⟨fun _ => h0, fun h => by omega, fun h => by omega⟩)
          rw [h0]
          clear h0
          go_wp2
          go_roundw
          case rel => exact ⟨1, by omega, by go_num, HB1, HN2⟩
          case measure => simp [intOf]
        · have HF := hid (HAN.out h0)
          have hne : (ans1 C J != 0) = true := by rw [bne_iff_ne]; exact h0
          have hne2 : (ans1 C J == 0) = false := by rw [beq_eq_false_iff_ne]; exact h0
          obtain ⟨z, hz⟩ : ∃ z, z = ans1 C J := ⟨_, rfl⟩
          rw [← hz] at HF hne hne2 ⊢
          clear h0 hz
          go_wp2
          go_ret
          rw [HF.out]
          exact ⟨rfl, bThen HBU.out HB1.out⟩
      · have y0 := zu 1 _ rfl
        have HAN := hid (show ∀ h : ans2 b J ≠ 0, answerS C b J = ans2 b J from fun h => by rw [HA.out, if_neg (by rw [HN.out.1 (by omega)]; decide), if_pos h])
        clear zu
        go_wp2_with fail
        refine (ans2_calls wr C CA CB ca cb b _ J JA jc _ _ _ HXR.out HO.out).mono ?_
        rintro e w1 ⟨rfl, hb1⟩
        have HB1 := hid (bThen HB.out hb1)
        clear hb1
        by_cases h0 : ans2 b J = 0
        · have HN2 := hid (show (1 ≤ 2 → ans1 C J = 0) ∧ (2 ≤ 2 → ans2 b J = 0) ∧ (3 ≤ 2 → ans3 C b J = 0) from ⟨fun _ => HN.out.1 (by omega), fun _ => h0, fun h => by omega⟩)
          rw [h0]
          clear h0
          go_wp2
          go_roundw
          case rel => exact ⟨2, by omega, by go_num, HB1, HN2⟩
          case measure => simp [intOf]
        · have HF := hid (HAN.out h0)
          have hne : (ans2 b J != 0) = true := by rw [bne_iff_ne]; exact h0
          have hne2 : (ans2 b J == 0) = false := by rw [beq_eq_false_iff_ne]; exact h0
          obtain ⟨z, hz⟩ : ∃ z, z = ans2 b J := ⟨_, rfl⟩
          rw [← hz] at HF hne hne2 ⊢
          clear h0 hz
          go_wp2
          go_ret
          rw [HF.out]
          exact ⟨rfl, bThen HBU.out HB1.out⟩
      · have y0 := zu 2 _ rfl
        have HAN := hid (show ∀ h : ans3 C b J ≠ 0, answerS C b J = ans3 C b J from fun h => by rw [HA.out, if_neg (by rw [HN.out.1 (by omega)]; decide), if_neg (by rw [HN.out.2.1 (by omega)]; decide)])
        clear zu
        go_wp2_with fail
        refine (ans3_calls wr C CA CB ca cb b _ J JA jc _ _ _ HXR.out HO.out).mono ?_
        rintro e w1 ⟨rfl, hb1⟩
        have HB1 := hid (bThen HB.out hb1)
        clear hb1
        by_cases h0 : ans3 C b J = 0
        · have HN2 := hid (show (1 ≤ 3 → ans1 C J = 0) ∧ (2 ≤ 3 → ans2 b J = 0) ∧ (3 ≤ 3 → ans3 C b J = 0) from ⟨fun _ => HN.out.1 (by omega), fun _ => HN.out.2.1 (by omega), fun _ => h0⟩)
          rw [h0]
          clear h0
          go_wp2
          go_roundw
          case rel => exact ⟨3, by omega, by go_num, HB1, HN2⟩
          case measure => simp [intOf]
        · have HF := hid (HAN.out h0)
          have hne : (ans3 C b J != 0) = true := by rw [bne_iff_ne]; exact h0
          have hne2 : (ans3 C b J == 0) = false := by rw [beq_eq_false_iff_ne]; exact h0
          obtain ⟨z, hz⟩ : ∃ z, z = ans3 C b J := ⟨_, rfl⟩
          rw [← hz] at HF hne hne2 ⊢
          clear h0 hz
          go_wp2
          go_ret
          rw [HF.out]
          exact ⟨rfl, bThen HBU.out HB1.out⟩
    · obtain rfl : k = 3 := by omega
      have HF := hid (show answerS C b J = 0 by rw [HA.out, if_neg (by rw [HN.out.1 (by omega)]; decide), if_neg (by rw [HN.out.2.1 (by omega)]; decide)]; exact HN.out.2.2 (by omega))
      clear zu
      go_wp2
      go_ret
      rw [HF.out]
      exact ⟨rfl, bThen HBU.out HB.out⟩
theorem Tryz.infoEntry : (Tryz.prog.info? 69).map (fun i => (i.zero, i.size, i.bytes)) = some (some (.agg #[.int .i64 0, .int .i64 0, .int .i64 0, .slice none 0 0, .slice none 0 0, .slice none 0 0]), 6, 96) := by kernel_rfl
theorem own_emptyE {α : Type} {d : Kd α} {e : TypeId} {W : World} {base b : Nat} {T : Nat → Prop} (h : W.heap[b]? = some (.cells #[] e (0, 0))) (hb : base ≤ b) : Own d e W base T (.slice (some ⟨b, 0, none⟩) 0 0) [] :=
  ⟨by simp, [], ⟨by simp, .inr ⟨b, 0, #[], rfl, hb, h, Nat.le_refl _, by simp only [maxLen]; omega, by simp, by simp⟩⟩, rfl⟩
theorem idx3 (x y z : Int) (W : World) : (Instr.index 92 (.agg #[.int .i64 x, .int .i64 y, .int .i64 z]) (.int .i64 2)).run Tryz.prog W = .ok (.int .i64 z) W := by kernel_rfl
def bareE (J : JobS) : EntryS := ⟨J.id, 0, 0, J.needs, [], []⟩
set_option maxHeartbeats 4000000 in
set_option maxRecDepth 100000 in
theorem ranswer_calls (C : ConfS) (CA CB : Option Addr) (ca cb : Nat) (b : List EntryS) (v : Value) (J : JobS) (JA : Option Addr) (jc : Nat) (w : World) (hC : CAt w C CA CB ca cb) (hb : Kd.entry.slice.K w Any b [v]) (hj : Kd.str.slice.K w Any J.needs [.slice JA J.needs.length jc]) (ho : AnsOk b J) (hwl : C.workers.length ≤ 1000) :
    Calls Tryz.prog 10 #[.agg #[.int .i64 C.scheds, .int .i64 C.lease, .int .i64 C.again, .int .i64 C.room, .int .i64 C.out, .slice CA C.names.length ca, .slice CB C.workers.length cb], v, .agg #[.int .i64 J.id, .slice JA J.needs.length jc]] w fun e w' => e = .returned (.int .i64 (answerS C b J)) ∧ Below w.heap.size w w' := by
  obtain ⟨V, hV⟩ : ∃ V, V = (w.alloc (.cells #[.int .i64 C.scheds, .int .i64 C.lease, .int .i64 C.again, .int .i64 C.room, .int .i64 C.out, .slice CA C.names.length ca, .slice CB C.workers.length cb] 25)).alloc (.cells #[.int .i64 J.id, .slice JA J.needs.length jc] 28) := ⟨_, rfl⟩
  have hb0 : Below w.heap.size w V := by rw [hV]; exact bAlloc (bAlloc (Below.refl _ _) _) _
  have hz1 : V.heap[w.heap.size]? = some (.cells #[.int .i64 C.scheds, .int .i64 C.lease, .int .i64 C.again, .int .i64 C.room, .int .i64 C.out, .slice CA C.names.length ca, .slice CB C.workers.length cb] 25 (0, 0)) := by rw [hV, Below.heap_alloc _ _ _ (by simp)]; exact heap_at rfl
  have hz3 : V.heap[w.heap.size + 1]? = some (.cells #[.int .i64 J.id, .slice JA J.needs.length jc] 28 (0, 0)) := by rw [hV]; exact heap_at (by simp)
  have HZ1 := hid hz1
  have HZ3 := hid hz3
  have HVS := hid (show V.heap.size = w.heap.size + 2 by rw [hV]; simp)
  have HBV := hid hb0
  have HO := hid ho
  have HC := hid (hC.below hb0)
  have HBK := hid (Kd.entry.slice.move (w1 := V) (fun k hk _ => hb0.block k hk) (Kd.entry.slice.mono (S' := fun k => k < w.heap.size) (fun _ _ h => h) hb))
  have HJN := hid (Kd.str.slice.move (w1 := V) (fun k hk _ => hb0.block k hk) (Kd.str.slice.mono (S' := fun k => k < w.heap.size) (fun _ _ h => h) hj))
  have hEq := hV.symm
  obtain ⟨A, c, he, _, _, _⟩ := hb
  injection he with he _
  subst he
  have HA := hid (show answerS C b J = if ans1 C J ≠ 0 then ans1 C J else if ans2 b J ≠ 0 then ans2 b J else ans3 C b J from rfl)
  obtain ⟨q, hq⟩ : ∃ q, q = b.length := ⟨_, rfl⟩
  have HQ := hid hq
  obtain ⟨n, hn⟩ : ∃ n, n = J.needs.length := ⟨_, rfl⟩
  have HN := hid hn
  rw [← hq] at HBK ⊢
  rw [← hn] at HJN HZ3 hEq ⊢
  have HWL := hid hwl
  have HSZ := hid (show ∀ s ∈ J.needs, s.size * 24 ≤ 140737488351232 from fun s hs => by have := ho.sz s hs; omega)
  clear hV hC hj hb0 hz1 hz3 ho hq hn hwl
  have HCB := hid (fun (u : World) (hb : Below V.heap.size V u) => conf_box HZ1.out u hb)
  have HJB := hid (fun (u : World) (h : Below V.heap.size V u) => (show u.cell? ⟨w.heap.size + 1, 0, none⟩ = some (.int .i64 J.id) ∧ u.cell? ⟨w.heap.size + 1, 1, none⟩ = some (.slice JA n jc) from by
    obtain ⟨y0, _, _⟩ := cells_of_block ((h.block (w.heap.size + 1) (Array.getElem?_eq_some_iff.1 HZ3.out).1).trans HZ3.out)
    exact ⟨y0 0 _ rfl, y0 1 _ rfl⟩))
  have hidx := idx3
  go_enter Tryz.func10, Tryz.ntmps10
  obtain ⟨x0, x1, x2, x3, x4, x5, x6⟩ := HCB.out V (Below.refl _ _)
  obtain ⟨j0, j1⟩ := HJB.out V (Below.refl _ _)
  go_wp2_with fail
  refine (rcheck15_calls C.names C.workers J.id J.needs C.scheds C.lease C.again C.room C.out _ _ _ V HC.out.names HC.out.workers HC.out.attrs (Kd.any HJN.out) HSZ.out (by have := HWL.out; omega)).mono ?_
  rintro e w2 ⟨rfl, hb2⟩
  have HB2 := hid hb2
  have HS2 := hid hb2.size
  have HE1 := hid (show ans1 C J = (checkJ C.names C.workers J.id J.needs).2.2 from rfl)
  obtain ⟨p1, p2, er, hck⟩ : ∃ x y z, checkJ C.names C.workers J.id J.needs = (x, y, z) := ⟨_, _, _, rfl⟩
  rw [hck] at HE1 ⊢
  dsimp only at HE1 ⊢
  clear hck hb2 x0 x1 x2 x3 x4 x5 x6 j0 j1 hEq
  by_cases h0 : er = 0
  case neg =>
    have hne : (er != 0) = true := by rw [bne_iff_ne]; exact h0
    have HF := hid (show answerS C b J = er by rw [HA.out, if_pos (by rw [HE1.out]; exact h0), HE1.out])
    clear h0
    go_wp2
    go_ret
    rw [HF.out]
    exact ⟨rfl, bThen HBV.out HB2.out⟩
  subst h0
  obtain ⟨j0, j1⟩ := HJB.out w2 HB2.out
  go_wp2_with fail
  refine (rplace_calls20 b J.id _ w2 (Kd.any (Kd.below HBK.out HB2.out))).mono ?_
  rintro e w2' ⟨rfl, rfl⟩
  clear j0 j1
  by_cases hp : 0 ≤ placeE b J.id
  case pos =>
    have HF := hid (show answerS C b J = 9 by rw [HA.out, if_neg (by rw [HE1.out]; decide)]; unfold ans2; rw [if_pos hp]; rfl)
    go_wp2
    go_ret
    rw [HF.out]
    exact ⟨rfl, bThen HBV.out HB2.out⟩
  have HA3 := hid (show answerS C b J = ans3 C b J by rw [HA.out, if_neg (by rw [HE1.out]; decide)]; unfold ans2; rw [if_neg hp]; rfl)
  have HS := hid (fun (u : World) (hb : Below w2.heap.size w2 u) => show (u.cell? ⟨w.heap.size + 1, 0, none⟩ = some (.int .i64 J.id) ∧ u.cell? ⟨w.heap.size + 1, 1, none⟩ = some (.slice JA n jc) ∧ u.cell? ⟨w.heap.size, 3, none⟩ = some (.int .i64 C.room)) from
    ⟨(HJB.out u (bThen HB2.out hb)).1, (HJB.out u (bThen HB2.out hb)).2, (HCB.out u (bThen HB2.out hb)).2.2.2.1⟩)
  have q0 := HS.out w2.drew (Below.refl _ _).drew
  have U0 := hid (Below.refl w2.heap.size w2).drew
  have hpn : placeE b J.id = -1 := idxE_neg hp
  rw [hpn]
  have HBK2 := hid (Kd.below HBK.out HB2.out)
  have HJN2 := hid (Kd.below HJN.out HB2.out)
  have HSZ2 := hid (show w.heap.size + 2 ≤ w2.heap.size by have := HVS.out; have := HS2.out; omega)
  clear hp hpn
  by_cases h40 : 40 ≤ q
  · have h40I : (40 : Int) ≤ (q : Int) := by omega
    have h40d : decide ((40 : Int) ≤ (q : Int)) = true := decide_eq_true h40I
    have HV := hid (show answerS C b J = 7 by rw [HA3.out]; unfold ans3; rw [if_pos (.inl (by rw [← HQ.out]; exact h40))])
    go_wp2_with fail
    refine wp_region_held_drew (S := fun w' => w'.cell? ⟨w.heap.size + 1, 0, none⟩ = some (.int .i64 J.id) ∧ w'.cell? ⟨w.heap.size + 1, 1, none⟩ = some (.slice JA n jc) ∧ w'.cell? ⟨w.heap.size, 3, none⟩ = some (.int .i64 C.room)) (by kernel_rfl) q0 (fun hHeld => ?_)
    refine anyH_take 0 (v := ?_) rfl (by kernel_rfl) (by kernel_rfl) (by kernel_rfl) (fun _ _ _ h => h) (by rfl) hHeld ?_ ?_
    rotate_left
    · (intro w hSw; (try dsimp only at hSw); go_split_ands; go_simp; try with_reducible rfl)
    (try simp only [Act.put, List.setIfInBounds_toArray, List.set_cons_zero, List.set_cons_succ])
    refine anyH_take 1 (v := ?_) rfl (by kernel_rfl) (by kernel_rfl) (by kernel_rfl) (fun _ _ _ h => h) (by rfl) hHeld ?_ ?_
    rotate_left
    · (intro w hSw; (try dsimp only at hSw); go_split_ands; go_simp; try with_reducible rfl)
    (try simp only [Act.put, List.setIfInBounds_toArray, List.set_cons_zero, List.set_cons_succ])
    refine anyH_take 2 (v := ?_) rfl (by kernel_rfl) (by kernel_rfl) (by kernel_rfl) (fun _ _ _ h => h) (by rfl) hHeld ?_ ?_
    rotate_left
    · (intro w hSw; (try dsimp only at hSw); go_split_ands; go_simp; try with_reducible rfl)
    (try simp only [Act.put, List.setIfInBounds_toArray, List.set_cons_zero, List.set_cons_succ])
    refine anyH_take 3 (v := ?_) rfl (by kernel_rfl) (by kernel_rfl) (by kernel_rfl) (fun _ _ _ h => h) (by rfl) hHeld ?_ ?_
    rotate_left
    · (intro w hSw; (try dsimp only at hSw); go_split_ands; go_simp; try with_reducible rfl)
    (try simp only [Act.put, List.setIfInBounds_toArray, List.set_cons_zero, List.set_cons_succ])
    refine anyH_skip 4 rfl (by kernel_rfl) (by kernel_rfl) (by kernel_rfl) (fun _ _ _ h => h) (by rfl) hHeld ?_
    (try simp only [Act.put, List.setIfInBounds_toArray, List.set_cons_zero, List.set_cons_succ])
    refine anyH_skip 5 rfl (by kernel_rfl) (by kernel_rfl) (by kernel_rfl) (fun _ _ _ h => h) (by rfl) hHeld ?_
    (try simp only [Act.put, List.setIfInBounds_toArray, List.set_cons_zero, List.set_cons_succ])
    refine anyH_skip 6 rfl (by kernel_rfl) (by kernel_rfl) (by kernel_rfl) (fun _ _ _ h => h) (by rfl) hHeld ?_
    (try simp only [Act.put, List.setIfInBounds_toArray, List.set_cons_zero, List.set_cons_succ])
    refine anyH_skip 7 rfl (by kernel_rfl) (by kernel_rfl) (by kernel_rfl) (fun _ _ _ h => h) (by rfl) hHeld ?_
    (try simp only [Act.put, List.setIfInBounds_toArray, List.set_cons_zero, List.set_cons_succ])
    refine anyH_skip 8 rfl (by kernel_rfl) (by kernel_rfl) (by kernel_rfl) (fun _ _ _ h => h) (by rfl) hHeld ?_
    (try simp only [Act.put, List.setIfInBounds_toArray, List.set_cons_zero, List.set_cons_succ])
    refine anyH_skip 9 rfl (by kernel_rfl) (by kernel_rfl) (by kernel_rfl) (fun _ _ _ h => h) (by rfl) hHeld ?_
    (try simp only [Act.put, List.setIfInBounds_toArray, List.set_cons_zero, List.set_cons_succ])
    refine anyH_skip 10 rfl (by kernel_rfl) (by kernel_rfl) (by kernel_rfl) (fun _ _ _ h => h) (by rfl) hHeld ?_
    (try simp only [Act.put, List.setIfInBounds_toArray, List.set_cons_zero, List.set_cons_succ])
    refine anyH_skip 11 rfl (by kernel_rfl) (by kernel_rfl) (by kernel_rfl) (fun _ _ _ h => h) (by rfl) hHeld ?_
    (try simp only [Act.put, List.setIfInBounds_toArray, List.set_cons_zero, List.set_cons_succ])
    refine anyH_skip 12 rfl (by kernel_rfl) (by kernel_rfl) (by kernel_rfl) (fun _ _ _ h => h) (by rfl) hHeld ?_
    (try simp only [Act.put, List.setIfInBounds_toArray, List.set_cons_zero, List.set_cons_succ])
    refine anyH_skip 13 rfl (by kernel_rfl) (by kernel_rfl) (by kernel_rfl) (fun _ _ _ h => h) (by rfl) hHeld ?_
    (try simp only [Act.put, List.setIfInBounds_toArray, List.set_cons_zero, List.set_cons_succ])
    refine anyH_skip 14 rfl (by kernel_rfl) (by kernel_rfl) (by kernel_rfl) (fun _ _ _ h => h) (by rfl) hHeld ?_
    (try simp only [Act.put, List.setIfInBounds_toArray, List.set_cons_zero, List.set_cons_succ])
    refine anyH_skip 15 rfl (by kernel_rfl) (by kernel_rfl) (by kernel_rfl) (fun _ _ _ h => h) (by rfl) hHeld ?_
    (try simp only [Act.put, List.setIfInBounds_toArray, List.set_cons_zero, List.set_cons_succ])
    refine anyH_skip 16 rfl (by kernel_rfl) (by kernel_rfl) (by kernel_rfl) (fun _ _ _ h => h) (by rfl) hHeld ?_
    (try simp only [Act.put, List.setIfInBounds_toArray, List.set_cons_zero, List.set_cons_succ])
    refine anyH_skip 17 rfl (by kernel_rfl) (by kernel_rfl) (by kernel_rfl) (fun _ _ _ h => h) (by rfl) hHeld ?_
    (try simp only [Act.put, List.setIfInBounds_toArray, List.set_cons_zero, List.set_cons_succ])
    refine anyH_take 18 (v := ?_) rfl (by kernel_rfl) (by kernel_rfl) (by kernel_rfl) (fun _ _ _ h => h) (by rfl) hHeld ?_ ?_
    rotate_left
    · (intro w hSw; (try dsimp only at hSw); go_split_ands; go_simp; try with_reducible rfl)
    (try simp only [Act.put, List.setIfInBounds_toArray, List.set_cons_zero, List.set_cons_succ])
    refine wpAnyH_done (by kernel_rfl) ?_ _
    go_wp2
    go_ret
    rw [HV.out]
    exact ⟨rfl, bThen HBV.out (bThen HB2.out U0.out)⟩
  have h40I : ¬ (40 : Int) ≤ (q : Int) := by omega
  have h40d : decide ((40 : Int) ≤ (q : Int)) = false := decide_eq_false h40I
  have HBD := hid (keptS_bound (b ++ [bareE J]) (fun E hE => by rcases List.mem_append.1 hE with h | h; exact HO.out.en E h; rw [List.mem_singleton.1 h]; exact HO.out.nl))
  have HKS := hid (show keptS (b ++ [bareE J]) = keptS b + mostR J.id 0 J.needs from keptS_snoc b (bareE J))
  have HEN := hid (show ∀ E ∈ b ++ [bareE J], E.needs.length ≤ 1000 from fun E hE => by rcases List.mem_append.1 hE with h | h; exact HO.out.en E h; rw [List.mem_singleton.1 h]; exact HO.out.nl)
  have KEEP := hid (show ∀ t : Bool, decide (C.room < keptS (b ++ [bareE J])) = t → answerS C b J = if t then 7 else 0 from fun t ht => by
    rw [HA3.out, ← ht, HKS.out]
    unfold ans3
    have hl : ¬ 40 ≤ b.length := by rw [← HQ.out]; omega
    by_cases h1 : C.room < keptS b + mostR J.id 0 J.needs
    · rw [if_pos (.inr h1), decide_eq_true h1]; rfl
    · rw [if_neg (by omega), decide_eq_false h1]; rfl)
  obtain ⟨m, hm⟩ : ∃ m, m = keptS (b ++ [bareE J]) := ⟨_, rfl⟩
  have HM := hid hm
  rw [← hm] at KEEP
  have h40N : q < 40 := by omega
  clear hm h40 h40I
  by_cases hr : C.room < m
  · have HV := hid (KEEP.out true (decide_eq_true hr))
    go_wp2_with fail
    refine wp_region_held_drew (S := fun w' => w'.cell? ⟨w.heap.size + 1, 0, none⟩ = some (.int .i64 J.id) ∧ w'.cell? ⟨w.heap.size + 1, 1, none⟩ = some (.slice JA n jc) ∧ w'.cell? ⟨w.heap.size, 3, none⟩ = some (.int .i64 C.room)) (by kernel_rfl) q0 (fun hHeld => ?_)
    refine anyH_take 0 (v := ?_) rfl (by kernel_rfl) (by kernel_rfl) (by kernel_rfl) (fun _ _ _ h => h) (by rfl) hHeld ?_ ?_
    rotate_left
    · (intro w hSw; (try dsimp only at hSw); go_split_ands; go_simp; try with_reducible rfl)
    (try simp only [Act.put, List.setIfInBounds_toArray, List.set_cons_zero, List.set_cons_succ])
    refine anyH_take 1 (v := ?_) rfl (by kernel_rfl) (by kernel_rfl) (by kernel_rfl) (fun _ _ _ h => h) (by rfl) hHeld ?_ ?_
    rotate_left
    · (intro w hSw; (try dsimp only at hSw); go_split_ands; go_simp; try with_reducible rfl)
    (try simp only [Act.put, List.setIfInBounds_toArray, List.set_cons_zero, List.set_cons_succ])
    refine anyH_take 2 (v := ?_) rfl (by kernel_rfl) (by kernel_rfl) (by kernel_rfl) (fun _ _ _ h => h) (by rfl) hHeld ?_ ?_
    rotate_left
    · (intro w hSw; (try dsimp only at hSw); go_split_ands; go_simp; try with_reducible rfl)
    (try simp only [Act.put, List.setIfInBounds_toArray, List.set_cons_zero, List.set_cons_succ])
    refine anyH_take 3 (v := ?_) rfl (by kernel_rfl) (by kernel_rfl) (by kernel_rfl) (fun _ _ _ h => h) (by rfl) hHeld ?_ ?_
    rotate_left
    · (intro w hSw; (try dsimp only at hSw); go_split_ands; go_simp; try with_reducible rfl)
    (try simp only [Act.put, List.setIfInBounds_toArray, List.set_cons_zero, List.set_cons_succ])
    refine anyH_take 5 (v := ?_) rfl (by kernel_rfl) (by kernel_rfl) (by kernel_rfl) (fun _ _ _ h => h) (by rfl) hHeld ?_ ?_
    rotate_left
    · (intro w hSw; (try dsimp only at hSw); go_split_ands; go_simp; try with_reducible rfl)
    (try simp only [Act.put, List.setIfInBounds_toArray, List.set_cons_zero, List.set_cons_succ])
    refine anyH_take 7 (v := ?_) rfl (by kernel_rfl) (by kernel_rfl) (by kernel_rfl) (fun _ _ _ h => h) (by rfl) hHeld ?_ ?_
    rotate_left
    · (intro w hSw; (try dsimp only at hSw); go_split_ands; go_simp; try with_reducible rfl)
    (try simp only [Act.put, List.setIfInBounds_toArray, List.set_cons_zero, List.set_cons_succ])
    refine anyH_take 8 (v := ?_) rfl (by kernel_rfl) (by kernel_rfl) (by kernel_rfl) (fun _ _ _ h => h) (by rfl) hHeld ?_ ?_
    rotate_left
    · (intro w hSw; (try dsimp only at hSw); go_split_ands; go_simp; try with_reducible rfl)
    (try simp only [Act.put, List.setIfInBounds_toArray, List.set_cons_zero, List.set_cons_succ])
    refine anyH_take 9 (v := ?_) rfl (by kernel_rfl) (by kernel_rfl) (by kernel_rfl) (fun _ _ _ h => h) (by rfl) hHeld ?_ ?_
    rotate_left
    · (intro w hSw; (try dsimp only at hSw); go_split_ands; go_simp; try with_reducible rfl)
    (try simp only [Act.put, List.setIfInBounds_toArray, List.set_cons_zero, List.set_cons_succ])
    refine anyH_take 10 (v := ?_) rfl (by kernel_rfl) (by kernel_rfl) (by kernel_rfl) (fun _ _ _ h => h) (by rfl) hHeld ?_ ?_
    rotate_left
    · (intro w hSw; (try dsimp only at hSw); go_split_ands; go_simp; try with_reducible rfl)
    (try simp only [Act.put, List.setIfInBounds_toArray, List.set_cons_zero, List.set_cons_succ])
    refine anyH_take 11 (v := ?_) rfl (by kernel_rfl) (by kernel_rfl) (by kernel_rfl) (fun _ _ _ h => h) (by rfl) hHeld ?_ ?_
    rotate_left
    · (intro w hSw; (try dsimp only at hSw); go_split_ands; go_simp; try with_reducible rfl)
    (try simp only [Act.put, List.setIfInBounds_toArray, List.set_cons_zero, List.set_cons_succ])
    refine anyH_take 15 (v := ?_) rfl (by kernel_rfl) (by kernel_rfl) (by kernel_rfl) (fun _ _ _ h => h) (by rfl) hHeld ?_ ?_
    rotate_left
    · (intro w hSw; (try dsimp only at hSw); go_split_ands; go_simp; try with_reducible rfl)
    (try simp only [Act.put, List.setIfInBounds_toArray, List.set_cons_zero, List.set_cons_succ])
    refine anyH_take 16 (v := ?_) rfl (by kernel_rfl) (by kernel_rfl) (by kernel_rfl) (fun _ _ _ h => h) (by rfl) hHeld ?_ ?_
    rotate_left
    · (intro w hSw; (try dsimp only at hSw); go_split_ands; go_simp; try with_reducible rfl)
    (try simp only [Act.put, List.setIfInBounds_toArray, List.set_cons_zero, List.set_cons_succ])
    refine anyH_two 4 12 rfl rfl (by kernel_rfl) (fun K hK => ?_) (fun K hK => ?_)
    · go_simp
      have U1 := hid (show Below w2.heap.size w2 (w2.alloc (.cells #[] 69)).drew from bAlloc U0.out (.cells #[] 69))
      have HO0 := hid (show Own Kd.entry 69 (w2.alloc (.cells #[] 69)).drew w2.heap.size Any (.slice (some ⟨w2.heap.size, 0, none⟩) 0 0) [] from own_emptyE (by first | exact heap_at rfl | exact heap_at (by simp)) (by omega))
      refine hK.out _ _ (HS.out _ U1.out) (fun hHeld => ?_)
      clear hK K
      (try simp only [Act.put, List.setIfInBounds_toArray, List.set_cons_zero, List.set_cons_succ])
      refine anyH_two 6 12 rfl rfl (by kernel_rfl) (fun K hK => ?_) (fun K hK => ?_)
      · refine appendsG_step Kd.entry w2.heap.size rfl _ _ 26 69 _ 96 rfl Tryz.underlying26 Tryz.infoEntry rfl (by decide) (by decide) (.slice (some ⟨w2.heap.size, 0, none⟩) 0 0) [] b A q c Any (fun k => k < w.heap.size) (fun k => k < w.heap.size) rfl rfl HQ.out.symm (K_row (Kd.below HBK2.out U1.out)).1 (fun _ _ h => h) (fun k hk _ => ⟨trivial, fun e => by simp [Value.ownBlock] at e; have := HSZ2.out; omega⟩) HO0.out U1.out.size (by simp; omega) ?_
        intro va wa hOa hga hata
        rw [List.nil_append] at hOa
        have HOa := hid hOa
        have U2 := hid (U1.out.trans ⟨hga.os, hga.tape, hga.output, hga.size, fun k hk => hga.block k (Nat.lt_of_lt_of_le hk U1.out.size) (fun e => by simp [Value.ownBlock] at e; have := HSZ2.out; omega)⟩)
        obtain ⟨Aa, na, ca', rfl, hna, _⟩ := hOa.shape'
        have hnq : na = q := by rw [hna, HQ.out]
        subst hnq
        clear hOa hga hata hna
        refine hK.out _ _ (HS.out _ U2.out) (fun hHeld => ?_)
        clear hK K
        (try simp only [Act.put, List.setIfInBounds_toArray, List.set_cons_zero, List.set_cons_succ])
        refine anyH_one 12 rfl (by kernel_rfl) (fun K hK => ?_)
        go_simp
        have U3 := hid (show Below w2.heap.size w2 (wa.alloc (.cells #[.int .i64 J.id, .int .i64 0, .int .i64 0, .slice JA n jc, .slice none 0 0, .slice none 0 0] 69)) from bAlloc U2.out (.cells #[.int .i64 J.id, .int .i64 0, .int .i64 0, .slice JA n jc, .slice none 0 0, .slice none 0 0] 69))
        have hnn : Kd.str.slice.K (wa.alloc (.cells #[.int .i64 J.id, .int .i64 0, .int .i64 0, .slice JA n jc, .slice none 0 0, .slice none 0 0] 69)) (fun k => k < w.heap.size ∨ k = wa.heap.size) J.needs [.slice JA J.needs.length jc] := by rw [← HN.out]; exact Kd.str.slice.mono (fun k h _ => .inl h) (Kd.below HJN2.out U3.out)
        have HR2 := hid (show Kd.entry.slice.K (wa.alloc (.cells #[.int .i64 J.id, .int .i64 0, .int .i64 0, .slice JA n jc, .slice none 0 0, .slice none 0 0] 69)) (fun k => k < w.heap.size ∨ k = wa.heap.size) [bareE J] [.slice (some ⟨wa.heap.size, 0, none⟩) 1 1] from by
          have he := entry_of (bareE J) hnn (show I64.slice.K (wa.alloc (.cells #[.int .i64 J.id, .int .i64 0, .int .i64 0, .slice JA n jc, .slice none 0 0, .slice none 0 0] 69)) (fun k => k < w.heap.size ∨ k = wa.heap.size) [] [.slice none 0 0] from ⟨none, 0, rfl, Nat.le_refl _, by decide, Kd.Row.nil⟩) (show Kd.bool.slice.K (wa.alloc (.cells #[.int .i64 J.id, .int .i64 0, .int .i64 0, .slice JA n jc, .slice none 0 0, .slice none 0 0] 69)) (fun k => k < w.heap.size ∨ k = wa.heap.size) [] [.slice none 0 0] from ⟨none, 0, rfl, Nat.le_refl _, by decide, Kd.Row.nil⟩)
          have hnl : (bareE J).needs.length = n := HN.out.symm
          rw [hnl] at he
          exact K_of_block (d := Kd.entry) 1 1 rfl (by first | exact heap_at rfl | exact heap_at (by simp)) (.inr rfl) ⟨_, [], by simp [bareE], he, rfl⟩ (Nat.le_refl _) (show 1 ≤ 140737488355328 by decide))
        clear hnn
        have HNE2 := hid (show ∀ k, (Value.slice Aa na ca').ownBlock = some k → k ≠ wa.heap.size from fun k hk => by have h1 := (HOa.out.lt k hk).2; have h2 : (wa).heap.size = wa.heap.size := (by first | rfl | simp); omega)
        have HO2 := hid (show Own Kd.entry 69 (wa.alloc (.cells #[.int .i64 J.id, .int .i64 0, .int .i64 0, .slice JA n jc, .slice none 0 0, .slice none 0 0] 69)) w2.heap.size Any (.slice Aa na ca') (b) from HOa.out.below (bAlloc (Below.refl _ _) _))
        refine hK.out _ _ (HS.out _ U3.out) (fun hHeld => ?_)
        clear hK K
        (try simp only [Act.put, List.setIfInBounds_toArray, List.set_cons_zero, List.set_cons_succ])
        refine anyH_one 13 rfl (by kernel_rfl) (fun K hK => ?_)
        refine appendsG_step Kd.entry w2.heap.size rfl _ _ 26 69 _ 96 rfl Tryz.underlying26 Tryz.infoEntry rfl (by decide) (by decide) (.slice Aa na ca') b [bareE J] (some ⟨wa.heap.size, 0, none⟩) 1 1 Any (fun k => k < w.heap.size ∨ k = wa.heap.size) (fun k => k < w.heap.size ∨ k = wa.heap.size) rfl rfl rfl (K_row HR2.out).1 (fun _ _ h => h) (fun k hk _ => ⟨trivial, fun e => by rcases hk with hk | hk; (have h1 := (HO2.out.lt k e.symm).1; have := HSZ2.out; omega); exact HNE2.out k e.symm hk⟩) HO2.out U3.out.size (by rw [← HQ.out]; omega) ?_
        intro vb wb hOb hgb _
        have HOb := hid (Kd.any hOb.K)
        have U4 := hid (U3.out.trans ⟨hgb.os, hgb.tape, hgb.output, hgb.size, fun k hk => hgb.block k (Nat.lt_of_lt_of_le hk U3.out.size) (fun e => by have h1 := (HO2.out.lt k e.symm).1; omega)⟩)
        obtain ⟨Ab, nb, cb', rfl, hnb, _⟩ := hOb.shape'
        clear hOb hgb hnb
        refine hK.out _ _ (HS.out _ U4.out) (fun hHeld => ?_)
        clear hK K
        (try simp only [Act.put, List.setIfInBounds_toArray, List.set_cons_zero, List.set_cons_succ])
        refine anyH_one 14 rfl (by kernel_rfl) (fun K hK => ?_)
        go_simp
        refine (rkept_calls (b ++ [bareE J]) _ wb HOb.out HEN.out (by rw [List.length_append, ← HQ.out]; simp; omega)).mono ?_
        rintro e wc ⟨rfl, hbc⟩
        rw [← HM.out]
        have U5 := hid (bThen U4.out hbc)
        go_simp
        refine hK.out _ _ (HS.out _ U5.out) (fun hHeld => ?_)
        clear hK K
        (try simp only [Act.put, List.setIfInBounds_toArray, List.set_cons_zero, List.set_cons_succ])
        refine anyH_take 17 (v := ?_) rfl (by kernel_rfl) (by kernel_rfl) (by kernel_rfl) (fun _ _ _ h => h) (by rfl) hHeld ?_ ?_
        rotate_left
        · (intro w hSw; (try dsimp only at hSw); go_split_ands; go_simp; try with_reducible rfl)
        (try simp only [Act.put, List.setIfInBounds_toArray, List.set_cons_zero, List.set_cons_succ])
        refine anyH_take 18 (v := ?_) rfl (by kernel_rfl) (by kernel_rfl) (by kernel_rfl) (fun _ _ _ h => h) (by rfl) hHeld ?_ ?_
        rotate_left
        · (intro w hSw; (try dsimp only at hSw); go_split_ands; go_simp; try with_reducible rfl)
        (try simp only [Act.put, List.setIfInBounds_toArray, List.set_cons_zero, List.set_cons_succ])
        refine wpAnyH_done (by kernel_rfl) ?_ _
        go_wp2
        go_ret
        rw [HV.out]
        exact ⟨rfl, bThen HBV.out (bThen HB2.out U5.out)⟩
      · go_simp
        have U2 := hid (show Below w2.heap.size w2 ((w2.alloc (.cells #[] 69)).alloc (.cells #[.int .i64 J.id, .int .i64 0, .int .i64 0, .slice JA n jc, .slice none 0 0, .slice none 0 0] 69)).drew from bAlloc U1.out (.cells #[.int .i64 J.id, .int .i64 0, .int .i64 0, .slice JA n jc, .slice none 0 0, .slice none 0 0] 69))
        have hnn : Kd.str.slice.K ((w2.alloc (.cells #[] 69)).alloc (.cells #[.int .i64 J.id, .int .i64 0, .int .i64 0, .slice JA n jc, .slice none 0 0, .slice none 0 0] 69)).drew (fun k => k < w.heap.size ∨ k = w2.heap.size + 1) J.needs [.slice JA J.needs.length jc] := by rw [← HN.out]; exact Kd.str.slice.mono (fun k h _ => .inl h) (Kd.below HJN2.out U2.out)
        have HR1 := hid (show Kd.entry.slice.K ((w2.alloc (.cells #[] 69)).alloc (.cells #[.int .i64 J.id, .int .i64 0, .int .i64 0, .slice JA n jc, .slice none 0 0, .slice none 0 0] 69)).drew (fun k => k < w.heap.size ∨ k = w2.heap.size + 1) [bareE J] [.slice (some ⟨w2.heap.size + 1, 0, none⟩) 1 1] from by
          have he := entry_of (bareE J) hnn (show I64.slice.K ((w2.alloc (.cells #[] 69)).alloc (.cells #[.int .i64 J.id, .int .i64 0, .int .i64 0, .slice JA n jc, .slice none 0 0, .slice none 0 0] 69)).drew (fun k => k < w.heap.size ∨ k = w2.heap.size + 1) [] [.slice none 0 0] from ⟨none, 0, rfl, Nat.le_refl _, by decide, Kd.Row.nil⟩) (show Kd.bool.slice.K ((w2.alloc (.cells #[] 69)).alloc (.cells #[.int .i64 J.id, .int .i64 0, .int .i64 0, .slice JA n jc, .slice none 0 0, .slice none 0 0] 69)).drew (fun k => k < w.heap.size ∨ k = w2.heap.size + 1) [] [.slice none 0 0] from ⟨none, 0, rfl, Nat.le_refl _, by decide, Kd.Row.nil⟩)
          have hnl : (bareE J).needs.length = n := HN.out.symm
          rw [hnl] at he
          exact K_of_block (d := Kd.entry) 1 1 rfl (by first | exact heap_at rfl | exact heap_at (by simp)) (.inr rfl) ⟨_, [], by simp [bareE], he, rfl⟩ (Nat.le_refl _) (show 1 ≤ 140737488355328 by decide))
        clear hnn
        have HNE1 := hid (show ∀ k, (Value.slice (some ⟨w2.heap.size, 0, none⟩) 0 0).ownBlock = some k → k ≠ w2.heap.size + 1 from fun k hk => by have h1 := (HO0.out.lt k hk).2; have h2 : ((w2.alloc (.cells #[] 69)).drew).heap.size = w2.heap.size + 1 := (by first | rfl | simp); omega)
        have HO1 := hid (show Own Kd.entry 69 ((w2.alloc (.cells #[] 69)).alloc (.cells #[.int .i64 J.id, .int .i64 0, .int .i64 0, .slice JA n jc, .slice none 0 0, .slice none 0 0] 69)).drew w2.heap.size Any (.slice (some ⟨w2.heap.size, 0, none⟩) 0 0) ([]) from HO0.out.below (bAlloc (Below.refl _ _) _))
        refine hK.out _ _ (HS.out _ U2.out) (fun hHeld => ?_)
        clear hK K
        (try simp only [Act.put, List.setIfInBounds_toArray, List.set_cons_zero, List.set_cons_succ])
        refine anyH_one 6 rfl (by kernel_rfl) (fun K hK => ?_)
        refine appendsG_step Kd.entry w2.heap.size rfl _ _ 26 69 _ 96 rfl Tryz.underlying26 Tryz.infoEntry rfl (by decide) (by decide) (.slice (some ⟨w2.heap.size, 0, none⟩) 0 0) [] b A q c Any (fun k => k < w.heap.size) (fun k => k < w.heap.size) rfl rfl HQ.out.symm (K_row (Kd.below HBK2.out U2.out)).1 (fun _ _ h => h) (fun k hk _ => ⟨trivial, fun e => by simp [Value.ownBlock] at e; have := HSZ2.out; omega⟩) HO1.out U2.out.size (by simp; omega) ?_
        intro va wa hOa hga hata
        rw [List.nil_append] at hOa
        have HOa := hid hOa
        have U3 := hid (U2.out.trans ⟨hga.os, hga.tape, hga.output, hga.size, fun k hk => hga.block k (Nat.lt_of_lt_of_le hk U2.out.size) (fun e => by simp [Value.ownBlock] at e; have := HSZ2.out; omega)⟩)
        have HRa := hid (show Kd.entry.slice.K wa (fun k => k < w.heap.size ∨ k = w2.heap.size + 1) [bareE J] [.slice (some ⟨w2.heap.size + 1, 0, none⟩) 1 1] from Kd.entry.slice.move (fun k hk hl => hga.block k hl (fun e => by rcases hk with hk | hk; (simp [Value.ownBlock] at e; have := HSZ2.out; omega); exact HNE1.out k e.symm hk)) HR1.out)
        have hlt1 : w2.heap.size + 1 < (((w2.alloc (.cells #[] 69)).alloc (.cells #[.int .i64 J.id, .int .i64 0, .int .i64 0, .slice JA n jc, .slice none 0 0, .slice none 0 0] 69)).drew).heap.size := (by first | omega | (simp; omega) | (simp; done))
        have HNEa := hid (show ∀ k, va.ownBlock = some k → k ≠ w2.heap.size + 1 from fun k hk => by rcases hata with h | ⟨p, h, hp⟩; exact HNE1.out k (h ▸ hk); rw [h] at hk; injection hk with hk; omega)
        obtain ⟨Aa, na, ca', rfl, hna, _⟩ := hOa.shape'
        have hnq : na = q := by rw [hna, HQ.out]
        subst hnq
        clear hOa hga hata hna
        refine hK.out _ _ (HS.out _ U3.out) (fun hHeld => ?_)
        clear hK K
        (try simp only [Act.put, List.setIfInBounds_toArray, List.set_cons_zero, List.set_cons_succ])
        refine anyH_one 13 rfl (by kernel_rfl) (fun K hK => ?_)
        refine appendsG_step Kd.entry w2.heap.size rfl _ _ 26 69 _ 96 rfl Tryz.underlying26 Tryz.infoEntry rfl (by decide) (by decide) (.slice Aa na ca') b [bareE J] (some ⟨w2.heap.size + 1, 0, none⟩) 1 1 Any (fun k => k < w.heap.size ∨ k = w2.heap.size + 1) (fun k => k < w.heap.size ∨ k = w2.heap.size + 1) rfl rfl rfl (K_row HRa.out).1 (fun _ _ h => h) (fun k hk _ => ⟨trivial, fun e => by rcases hk with hk | hk; (have h1 := (HOa.out.lt k e.symm).1; have := HSZ2.out; omega); exact HNEa.out k e.symm hk⟩) HOa.out U3.out.size (by rw [← HQ.out]; omega) ?_
        intro vb wb hOb hgb _
        have HOb := hid (Kd.any hOb.K)
        have U4 := hid (U3.out.trans ⟨hgb.os, hgb.tape, hgb.output, hgb.size, fun k hk => hgb.block k (Nat.lt_of_lt_of_le hk U3.out.size) (fun e => by have h1 := (HOa.out.lt k e.symm).1; omega)⟩)
        obtain ⟨Ab, nb, cb', rfl, hnb, _⟩ := hOb.shape'
        clear hOb hgb hnb
        refine hK.out _ _ (HS.out _ U4.out) (fun hHeld => ?_)
        clear hK K
        (try simp only [Act.put, List.setIfInBounds_toArray, List.set_cons_zero, List.set_cons_succ])
        refine anyH_one 14 rfl (by kernel_rfl) (fun K hK => ?_)
        go_simp
        refine (rkept_calls (b ++ [bareE J]) _ wb HOb.out HEN.out (by rw [List.length_append, ← HQ.out]; simp; omega)).mono ?_
        rintro e wc ⟨rfl, hbc⟩
        rw [← HM.out]
        have U5 := hid (bThen U4.out hbc)
        go_simp
        refine hK.out _ _ (HS.out _ U5.out) (fun hHeld => ?_)
        clear hK K
        (try simp only [Act.put, List.setIfInBounds_toArray, List.set_cons_zero, List.set_cons_succ])
        refine anyH_take 17 (v := ?_) rfl (by kernel_rfl) (by kernel_rfl) (by kernel_rfl) (fun _ _ _ h => h) (by rfl) hHeld ?_ ?_
        rotate_left
        · (intro w hSw; (try dsimp only at hSw); go_split_ands; go_simp; try with_reducible rfl)
        (try simp only [Act.put, List.setIfInBounds_toArray, List.set_cons_zero, List.set_cons_succ])
        refine anyH_take 18 (v := ?_) rfl (by kernel_rfl) (by kernel_rfl) (by kernel_rfl) (fun _ _ _ h => h) (by rfl) hHeld ?_ ?_
        rotate_left
        · (intro w hSw; (try dsimp only at hSw); go_split_ands; go_simp; try with_reducible rfl)
        (try simp only [Act.put, List.setIfInBounds_toArray, List.set_cons_zero, List.set_cons_succ])
        refine wpAnyH_done (by kernel_rfl) ?_ _
        go_wp2
        go_ret
        rw [HV.out]
        exact ⟨rfl, bThen HBV.out (bThen HB2.out U5.out)⟩
    · go_simp
      have U1 := hid (show Below w2.heap.size w2 (w2.alloc (.cells #[.int .i64 J.id, .int .i64 0, .int .i64 0, .slice JA n jc, .slice none 0 0, .slice none 0 0] 69)).drew from bAlloc U0.out (.cells #[.int .i64 J.id, .int .i64 0, .int .i64 0, .slice JA n jc, .slice none 0 0, .slice none 0 0] 69))
      have hnn : Kd.str.slice.K (w2.alloc (.cells #[.int .i64 J.id, .int .i64 0, .int .i64 0, .slice JA n jc, .slice none 0 0, .slice none 0 0] 69)).drew (fun k => k < w.heap.size ∨ k = w2.heap.size) J.needs [.slice JA J.needs.length jc] := by rw [← HN.out]; exact Kd.str.slice.mono (fun k h _ => .inl h) (Kd.below HJN2.out U1.out)
      have HR0 := hid (show Kd.entry.slice.K (w2.alloc (.cells #[.int .i64 J.id, .int .i64 0, .int .i64 0, .slice JA n jc, .slice none 0 0, .slice none 0 0] 69)).drew (fun k => k < w.heap.size ∨ k = w2.heap.size) [bareE J] [.slice (some ⟨w2.heap.size, 0, none⟩) 1 1] from by
        have he := entry_of (bareE J) hnn (show I64.slice.K (w2.alloc (.cells #[.int .i64 J.id, .int .i64 0, .int .i64 0, .slice JA n jc, .slice none 0 0, .slice none 0 0] 69)).drew (fun k => k < w.heap.size ∨ k = w2.heap.size) [] [.slice none 0 0] from ⟨none, 0, rfl, Nat.le_refl _, by decide, Kd.Row.nil⟩) (show Kd.bool.slice.K (w2.alloc (.cells #[.int .i64 J.id, .int .i64 0, .int .i64 0, .slice JA n jc, .slice none 0 0, .slice none 0 0] 69)).drew (fun k => k < w.heap.size ∨ k = w2.heap.size) [] [.slice none 0 0] from ⟨none, 0, rfl, Nat.le_refl _, by decide, Kd.Row.nil⟩)
        have hnl : (bareE J).needs.length = n := HN.out.symm
        rw [hnl] at he
        exact K_of_block (d := Kd.entry) 1 1 rfl (by first | exact heap_at rfl | exact heap_at (by simp)) (.inr rfl) ⟨_, [], by simp [bareE], he, rfl⟩ (Nat.le_refl _) (show 1 ≤ 140737488355328 by decide))
      clear hnn
      refine hK.out _ _ (HS.out _ U1.out) (fun hHeld => ?_)
      clear hK K
      (try simp only [Act.put, List.setIfInBounds_toArray, List.set_cons_zero, List.set_cons_succ])
      refine anyH_one 4 rfl (by kernel_rfl) (fun K hK => ?_)
      go_simp
      have U2 := hid (show Below w2.heap.size w2 ((w2.alloc (.cells #[.int .i64 J.id, .int .i64 0, .int .i64 0, .slice JA n jc, .slice none 0 0, .slice none 0 0] 69)).alloc (.cells #[] 69)).drew from bAlloc U1.out (.cells #[] 69))
      have HO1 := hid (show Own Kd.entry 69 ((w2.alloc (.cells #[.int .i64 J.id, .int .i64 0, .int .i64 0, .slice JA n jc, .slice none 0 0, .slice none 0 0] 69)).alloc (.cells #[] 69)).drew w2.heap.size Any (.slice (some ⟨w2.heap.size + 1, 0, none⟩) 0 0) [] from own_emptyE (by first | exact heap_at rfl | exact heap_at (by simp)) (by omega))
      have HR1 := hid (show Kd.entry.slice.K ((w2.alloc (.cells #[.int .i64 J.id, .int .i64 0, .int .i64 0, .slice JA n jc, .slice none 0 0, .slice none 0 0] 69)).alloc (.cells #[] 69)).drew (fun k => k < w.heap.size ∨ k = w2.heap.size) [bareE J] [.slice (some ⟨w2.heap.size, 0, none⟩) 1 1] from Kd.below HR0.out (bAlloc (Below.refl _ _) _))
      have HNE1 := hid (show ∀ k, (Value.slice (some ⟨w2.heap.size + 1, 0, none⟩) 0 0).ownBlock = some k → k ≠ w2.heap.size from fun k hk => by simp [Value.ownBlock] at hk; omega)
      refine hK.out _ _ (HS.out _ U2.out) (fun hHeld => ?_)
      clear hK K
      (try simp only [Act.put, List.setIfInBounds_toArray, List.set_cons_zero, List.set_cons_succ])
      refine anyH_one 6 rfl (by kernel_rfl) (fun K hK => ?_)
      refine appendsG_step Kd.entry w2.heap.size rfl _ _ 26 69 _ 96 rfl Tryz.underlying26 Tryz.infoEntry rfl (by decide) (by decide) (.slice (some ⟨w2.heap.size + 1, 0, none⟩) 0 0) [] b A q c Any (fun k => k < w.heap.size) (fun k => k < w.heap.size) rfl rfl HQ.out.symm (K_row (Kd.below HBK2.out U2.out)).1 (fun _ _ h => h) (fun k hk _ => ⟨trivial, fun e => by simp [Value.ownBlock] at e; have := HSZ2.out; omega⟩) HO1.out U2.out.size (by simp; omega) ?_
      intro va wa hOa hga hata
      rw [List.nil_append] at hOa
      have HOa := hid hOa
      have U3 := hid (U2.out.trans ⟨hga.os, hga.tape, hga.output, hga.size, fun k hk => hga.block k (Nat.lt_of_lt_of_le hk U2.out.size) (fun e => by simp [Value.ownBlock] at e; have := HSZ2.out; omega)⟩)
      have HRa := hid (show Kd.entry.slice.K wa (fun k => k < w.heap.size ∨ k = w2.heap.size) [bareE J] [.slice (some ⟨w2.heap.size, 0, none⟩) 1 1] from Kd.entry.slice.move (fun k hk hl => hga.block k hl (fun e => by rcases hk with hk | hk; (simp [Value.ownBlock] at e; have := HSZ2.out; omega); exact HNE1.out k e.symm hk)) HR1.out)
      have hlt1 : w2.heap.size < (((w2.alloc (.cells #[.int .i64 J.id, .int .i64 0, .int .i64 0, .slice JA n jc, .slice none 0 0, .slice none 0 0] 69)).alloc (.cells #[] 69)).drew).heap.size := (by first | omega | (simp; omega) | (simp; done))
      have HNEa := hid (show ∀ k, va.ownBlock = some k → k ≠ w2.heap.size from fun k hk => by rcases hata with h | ⟨p, h, hp⟩; exact HNE1.out k (h ▸ hk); rw [h] at hk; injection hk with hk; omega)
      obtain ⟨Aa, na, ca', rfl, hna, _⟩ := hOa.shape'
      have hnq : na = q := by rw [hna, HQ.out]
      subst hnq
      clear hOa hga hata hna
      refine hK.out _ _ (HS.out _ U3.out) (fun hHeld => ?_)
      clear hK K
      (try simp only [Act.put, List.setIfInBounds_toArray, List.set_cons_zero, List.set_cons_succ])
      refine anyH_one 13 rfl (by kernel_rfl) (fun K hK => ?_)
      refine appendsG_step Kd.entry w2.heap.size rfl _ _ 26 69 _ 96 rfl Tryz.underlying26 Tryz.infoEntry rfl (by decide) (by decide) (.slice Aa na ca') b [bareE J] (some ⟨w2.heap.size, 0, none⟩) 1 1 Any (fun k => k < w.heap.size ∨ k = w2.heap.size) (fun k => k < w.heap.size ∨ k = w2.heap.size) rfl rfl rfl (K_row HRa.out).1 (fun _ _ h => h) (fun k hk _ => ⟨trivial, fun e => by rcases hk with hk | hk; (have h1 := (HOa.out.lt k e.symm).1; have := HSZ2.out; omega); exact HNEa.out k e.symm hk⟩) HOa.out U3.out.size (by rw [← HQ.out]; omega) ?_
      intro vb wb hOb hgb _
      have HOb := hid (Kd.any hOb.K)
      have U4 := hid (U3.out.trans ⟨hgb.os, hgb.tape, hgb.output, hgb.size, fun k hk => hgb.block k (Nat.lt_of_lt_of_le hk U3.out.size) (fun e => by have h1 := (HOa.out.lt k e.symm).1; omega)⟩)
      obtain ⟨Ab, nb, cb', rfl, hnb, _⟩ := hOb.shape'
      clear hOb hgb hnb
      refine hK.out _ _ (HS.out _ U4.out) (fun hHeld => ?_)
      clear hK K
      (try simp only [Act.put, List.setIfInBounds_toArray, List.set_cons_zero, List.set_cons_succ])
      refine anyH_one 14 rfl (by kernel_rfl) (fun K hK => ?_)
      go_simp
      refine (rkept_calls (b ++ [bareE J]) _ wb HOb.out HEN.out (by rw [List.length_append, ← HQ.out]; simp; omega)).mono ?_
      rintro e wc ⟨rfl, hbc⟩
      rw [← HM.out]
      have U5 := hid (bThen U4.out hbc)
      go_simp
      refine hK.out _ _ (HS.out _ U5.out) (fun hHeld => ?_)
      clear hK K
      (try simp only [Act.put, List.setIfInBounds_toArray, List.set_cons_zero, List.set_cons_succ])
      refine anyH_take 17 (v := ?_) rfl (by kernel_rfl) (by kernel_rfl) (by kernel_rfl) (fun _ _ _ h => h) (by rfl) hHeld ?_ ?_
      rotate_left
      · (intro w hSw; (try dsimp only at hSw); go_split_ands; go_simp; try with_reducible rfl)
      (try simp only [Act.put, List.setIfInBounds_toArray, List.set_cons_zero, List.set_cons_succ])
      refine anyH_take 18 (v := ?_) rfl (by kernel_rfl) (by kernel_rfl) (by kernel_rfl) (fun _ _ _ h => h) (by rfl) hHeld ?_ ?_
      rotate_left
      · (intro w hSw; (try dsimp only at hSw); go_split_ands; go_simp; try with_reducible rfl)
      (try simp only [Act.put, List.setIfInBounds_toArray, List.set_cons_zero, List.set_cons_succ])
      refine wpAnyH_done (by kernel_rfl) ?_ _
      go_wp2
      go_ret
      rw [HV.out]
      exact ⟨rfl, bThen HBV.out (bThen HB2.out U5.out)⟩
  · have HV := hid (KEEP.out false (decide_eq_false hr))
    go_wp2_with fail
    refine wp_region_held_drew (S := fun w' => w'.cell? ⟨w.heap.size + 1, 0, none⟩ = some (.int .i64 J.id) ∧ w'.cell? ⟨w.heap.size + 1, 1, none⟩ = some (.slice JA n jc) ∧ w'.cell? ⟨w.heap.size, 3, none⟩ = some (.int .i64 C.room)) (by kernel_rfl) q0 (fun hHeld => ?_)
    refine anyH_take 0 (v := ?_) rfl (by kernel_rfl) (by kernel_rfl) (by kernel_rfl) (fun _ _ _ h => h) (by rfl) hHeld ?_ ?_
    rotate_left
    · (intro w hSw; (try dsimp only at hSw); go_split_ands; go_simp; try with_reducible rfl)
    (try simp only [Act.put, List.setIfInBounds_toArray, List.set_cons_zero, List.set_cons_succ])
    refine anyH_take 1 (v := ?_) rfl (by kernel_rfl) (by kernel_rfl) (by kernel_rfl) (fun _ _ _ h => h) (by rfl) hHeld ?_ ?_
    rotate_left
    · (intro w hSw; (try dsimp only at hSw); go_split_ands; go_simp; try with_reducible rfl)
    (try simp only [Act.put, List.setIfInBounds_toArray, List.set_cons_zero, List.set_cons_succ])
    refine anyH_take 2 (v := ?_) rfl (by kernel_rfl) (by kernel_rfl) (by kernel_rfl) (fun _ _ _ h => h) (by rfl) hHeld ?_ ?_
    rotate_left
    · (intro w hSw; (try dsimp only at hSw); go_split_ands; go_simp; try with_reducible rfl)
    (try simp only [Act.put, List.setIfInBounds_toArray, List.set_cons_zero, List.set_cons_succ])
    refine anyH_take 3 (v := ?_) rfl (by kernel_rfl) (by kernel_rfl) (by kernel_rfl) (fun _ _ _ h => h) (by rfl) hHeld ?_ ?_
    rotate_left
    · (intro w hSw; (try dsimp only at hSw); go_split_ands; go_simp; try with_reducible rfl)
    (try simp only [Act.put, List.setIfInBounds_toArray, List.set_cons_zero, List.set_cons_succ])
    refine anyH_take 5 (v := ?_) rfl (by kernel_rfl) (by kernel_rfl) (by kernel_rfl) (fun _ _ _ h => h) (by rfl) hHeld ?_ ?_
    rotate_left
    · (intro w hSw; (try dsimp only at hSw); go_split_ands; go_simp; try with_reducible rfl)
    (try simp only [Act.put, List.setIfInBounds_toArray, List.set_cons_zero, List.set_cons_succ])
    refine anyH_take 7 (v := ?_) rfl (by kernel_rfl) (by kernel_rfl) (by kernel_rfl) (fun _ _ _ h => h) (by rfl) hHeld ?_ ?_
    rotate_left
    · (intro w hSw; (try dsimp only at hSw); go_split_ands; go_simp; try with_reducible rfl)
    (try simp only [Act.put, List.setIfInBounds_toArray, List.set_cons_zero, List.set_cons_succ])
    refine anyH_take 8 (v := ?_) rfl (by kernel_rfl) (by kernel_rfl) (by kernel_rfl) (fun _ _ _ h => h) (by rfl) hHeld ?_ ?_
    rotate_left
    · (intro w hSw; (try dsimp only at hSw); go_split_ands; go_simp; try with_reducible rfl)
    (try simp only [Act.put, List.setIfInBounds_toArray, List.set_cons_zero, List.set_cons_succ])
    refine anyH_take 9 (v := ?_) rfl (by kernel_rfl) (by kernel_rfl) (by kernel_rfl) (fun _ _ _ h => h) (by rfl) hHeld ?_ ?_
    rotate_left
    · (intro w hSw; (try dsimp only at hSw); go_split_ands; go_simp; try with_reducible rfl)
    (try simp only [Act.put, List.setIfInBounds_toArray, List.set_cons_zero, List.set_cons_succ])
    refine anyH_take 10 (v := ?_) rfl (by kernel_rfl) (by kernel_rfl) (by kernel_rfl) (fun _ _ _ h => h) (by rfl) hHeld ?_ ?_
    rotate_left
    · (intro w hSw; (try dsimp only at hSw); go_split_ands; go_simp; try with_reducible rfl)
    (try simp only [Act.put, List.setIfInBounds_toArray, List.set_cons_zero, List.set_cons_succ])
    refine anyH_take 11 (v := ?_) rfl (by kernel_rfl) (by kernel_rfl) (by kernel_rfl) (fun _ _ _ h => h) (by rfl) hHeld ?_ ?_
    rotate_left
    · (intro w hSw; (try dsimp only at hSw); go_split_ands; go_simp; try with_reducible rfl)
    (try simp only [Act.put, List.setIfInBounds_toArray, List.set_cons_zero, List.set_cons_succ])
    refine anyH_take 15 (v := ?_) rfl (by kernel_rfl) (by kernel_rfl) (by kernel_rfl) (fun _ _ _ h => h) (by rfl) hHeld ?_ ?_
    rotate_left
    · (intro w hSw; (try dsimp only at hSw); go_split_ands; go_simp; try with_reducible rfl)
    (try simp only [Act.put, List.setIfInBounds_toArray, List.set_cons_zero, List.set_cons_succ])
    refine anyH_take 16 (v := ?_) rfl (by kernel_rfl) (by kernel_rfl) (by kernel_rfl) (fun _ _ _ h => h) (by rfl) hHeld ?_ ?_
    rotate_left
    · (intro w hSw; (try dsimp only at hSw); go_split_ands; go_simp; try with_reducible rfl)
    (try simp only [Act.put, List.setIfInBounds_toArray, List.set_cons_zero, List.set_cons_succ])
    refine anyH_two 4 12 rfl rfl (by kernel_rfl) (fun K hK => ?_) (fun K hK => ?_)
    · go_simp
      have U1 := hid (show Below w2.heap.size w2 (w2.alloc (.cells #[] 69)).drew from bAlloc U0.out (.cells #[] 69))
      have HO0 := hid (show Own Kd.entry 69 (w2.alloc (.cells #[] 69)).drew w2.heap.size Any (.slice (some ⟨w2.heap.size, 0, none⟩) 0 0) [] from own_emptyE (by first | exact heap_at rfl | exact heap_at (by simp)) (by omega))
      refine hK.out _ _ (HS.out _ U1.out) (fun hHeld => ?_)
      clear hK K
      (try simp only [Act.put, List.setIfInBounds_toArray, List.set_cons_zero, List.set_cons_succ])
      refine anyH_two 6 12 rfl rfl (by kernel_rfl) (fun K hK => ?_) (fun K hK => ?_)
      · refine appendsG_step Kd.entry w2.heap.size rfl _ _ 26 69 _ 96 rfl Tryz.underlying26 Tryz.infoEntry rfl (by decide) (by decide) (.slice (some ⟨w2.heap.size, 0, none⟩) 0 0) [] b A q c Any (fun k => k < w.heap.size) (fun k => k < w.heap.size) rfl rfl HQ.out.symm (K_row (Kd.below HBK2.out U1.out)).1 (fun _ _ h => h) (fun k hk _ => ⟨trivial, fun e => by simp [Value.ownBlock] at e; have := HSZ2.out; omega⟩) HO0.out U1.out.size (by simp; omega) ?_
        intro va wa hOa hga hata
        rw [List.nil_append] at hOa
        have HOa := hid hOa
        have U2 := hid (U1.out.trans ⟨hga.os, hga.tape, hga.output, hga.size, fun k hk => hga.block k (Nat.lt_of_lt_of_le hk U1.out.size) (fun e => by simp [Value.ownBlock] at e; have := HSZ2.out; omega)⟩)
        obtain ⟨Aa, na, ca', rfl, hna, _⟩ := hOa.shape'
        have hnq : na = q := by rw [hna, HQ.out]
        subst hnq
        clear hOa hga hata hna
        refine hK.out _ _ (HS.out _ U2.out) (fun hHeld => ?_)
        clear hK K
        (try simp only [Act.put, List.setIfInBounds_toArray, List.set_cons_zero, List.set_cons_succ])
        refine anyH_one 12 rfl (by kernel_rfl) (fun K hK => ?_)
        go_simp
        have U3 := hid (show Below w2.heap.size w2 (wa.alloc (.cells #[.int .i64 J.id, .int .i64 0, .int .i64 0, .slice JA n jc, .slice none 0 0, .slice none 0 0] 69)) from bAlloc U2.out (.cells #[.int .i64 J.id, .int .i64 0, .int .i64 0, .slice JA n jc, .slice none 0 0, .slice none 0 0] 69))
        have hnn : Kd.str.slice.K (wa.alloc (.cells #[.int .i64 J.id, .int .i64 0, .int .i64 0, .slice JA n jc, .slice none 0 0, .slice none 0 0] 69)) (fun k => k < w.heap.size ∨ k = wa.heap.size) J.needs [.slice JA J.needs.length jc] := by rw [← HN.out]; exact Kd.str.slice.mono (fun k h _ => .inl h) (Kd.below HJN2.out U3.out)
        have HR2 := hid (show Kd.entry.slice.K (wa.alloc (.cells #[.int .i64 J.id, .int .i64 0, .int .i64 0, .slice JA n jc, .slice none 0 0, .slice none 0 0] 69)) (fun k => k < w.heap.size ∨ k = wa.heap.size) [bareE J] [.slice (some ⟨wa.heap.size, 0, none⟩) 1 1] from by
          have he := entry_of (bareE J) hnn (show I64.slice.K (wa.alloc (.cells #[.int .i64 J.id, .int .i64 0, .int .i64 0, .slice JA n jc, .slice none 0 0, .slice none 0 0] 69)) (fun k => k < w.heap.size ∨ k = wa.heap.size) [] [.slice none 0 0] from ⟨none, 0, rfl, Nat.le_refl _, by decide, Kd.Row.nil⟩) (show Kd.bool.slice.K (wa.alloc (.cells #[.int .i64 J.id, .int .i64 0, .int .i64 0, .slice JA n jc, .slice none 0 0, .slice none 0 0] 69)) (fun k => k < w.heap.size ∨ k = wa.heap.size) [] [.slice none 0 0] from ⟨none, 0, rfl, Nat.le_refl _, by decide, Kd.Row.nil⟩)
          have hnl : (bareE J).needs.length = n := HN.out.symm
          rw [hnl] at he
          exact K_of_block (d := Kd.entry) 1 1 rfl (by first | exact heap_at rfl | exact heap_at (by simp)) (.inr rfl) ⟨_, [], by simp [bareE], he, rfl⟩ (Nat.le_refl _) (show 1 ≤ 140737488355328 by decide))
        clear hnn
        have HNE2 := hid (show ∀ k, (Value.slice Aa na ca').ownBlock = some k → k ≠ wa.heap.size from fun k hk => by have h1 := (HOa.out.lt k hk).2; have h2 : (wa).heap.size = wa.heap.size := (by first | rfl | simp); omega)
        have HO2 := hid (show Own Kd.entry 69 (wa.alloc (.cells #[.int .i64 J.id, .int .i64 0, .int .i64 0, .slice JA n jc, .slice none 0 0, .slice none 0 0] 69)) w2.heap.size Any (.slice Aa na ca') (b) from HOa.out.below (bAlloc (Below.refl _ _) _))
        refine hK.out _ _ (HS.out _ U3.out) (fun hHeld => ?_)
        clear hK K
        (try simp only [Act.put, List.setIfInBounds_toArray, List.set_cons_zero, List.set_cons_succ])
        refine anyH_one 13 rfl (by kernel_rfl) (fun K hK => ?_)
        refine appendsG_step Kd.entry w2.heap.size rfl _ _ 26 69 _ 96 rfl Tryz.underlying26 Tryz.infoEntry rfl (by decide) (by decide) (.slice Aa na ca') b [bareE J] (some ⟨wa.heap.size, 0, none⟩) 1 1 Any (fun k => k < w.heap.size ∨ k = wa.heap.size) (fun k => k < w.heap.size ∨ k = wa.heap.size) rfl rfl rfl (K_row HR2.out).1 (fun _ _ h => h) (fun k hk _ => ⟨trivial, fun e => by rcases hk with hk | hk; (have h1 := (HO2.out.lt k e.symm).1; have := HSZ2.out; omega); exact HNE2.out k e.symm hk⟩) HO2.out U3.out.size (by rw [← HQ.out]; omega) ?_
        intro vb wb hOb hgb _
        have HOb := hid (Kd.any hOb.K)
        have U4 := hid (U3.out.trans ⟨hgb.os, hgb.tape, hgb.output, hgb.size, fun k hk => hgb.block k (Nat.lt_of_lt_of_le hk U3.out.size) (fun e => by have h1 := (HO2.out.lt k e.symm).1; omega)⟩)
        obtain ⟨Ab, nb, cb', rfl, hnb, _⟩ := hOb.shape'
        clear hOb hgb hnb
        refine hK.out _ _ (HS.out _ U4.out) (fun hHeld => ?_)
        clear hK K
        (try simp only [Act.put, List.setIfInBounds_toArray, List.set_cons_zero, List.set_cons_succ])
        refine anyH_one 14 rfl (by kernel_rfl) (fun K hK => ?_)
        go_simp
        refine (rkept_calls (b ++ [bareE J]) _ wb HOb.out HEN.out (by rw [List.length_append, ← HQ.out]; simp; omega)).mono ?_
        rintro e wc ⟨rfl, hbc⟩
        rw [← HM.out]
        have U5 := hid (bThen U4.out hbc)
        go_simp
        refine hK.out _ _ (HS.out _ U5.out) (fun hHeld => ?_)
        clear hK K
        (try simp only [Act.put, List.setIfInBounds_toArray, List.set_cons_zero, List.set_cons_succ])
        refine anyH_take 17 (v := ?_) rfl (by kernel_rfl) (by kernel_rfl) (by kernel_rfl) (fun _ _ _ h => h) (by rfl) hHeld ?_ ?_
        rotate_left
        · (intro w hSw; (try dsimp only at hSw); go_split_ands; go_simp; try with_reducible rfl)
        (try simp only [Act.put, List.setIfInBounds_toArray, List.set_cons_zero, List.set_cons_succ])
        refine anyH_take 18 (v := ?_) rfl (by kernel_rfl) (by kernel_rfl) (by kernel_rfl) (fun _ _ _ h => h) (by rfl) hHeld ?_ ?_
        rotate_left
        · (intro w hSw; (try dsimp only at hSw); go_split_ands; go_simp; try with_reducible rfl)
        (try simp only [Act.put, List.setIfInBounds_toArray, List.set_cons_zero, List.set_cons_succ])
        refine wpAnyH_done (by kernel_rfl) ?_ _
        go_wp2
        go_ret
        rw [HV.out]
        exact ⟨rfl, bThen HBV.out (bThen HB2.out U5.out)⟩
      · go_simp
        have U2 := hid (show Below w2.heap.size w2 ((w2.alloc (.cells #[] 69)).alloc (.cells #[.int .i64 J.id, .int .i64 0, .int .i64 0, .slice JA n jc, .slice none 0 0, .slice none 0 0] 69)).drew from bAlloc U1.out (.cells #[.int .i64 J.id, .int .i64 0, .int .i64 0, .slice JA n jc, .slice none 0 0, .slice none 0 0] 69))
        have hnn : Kd.str.slice.K ((w2.alloc (.cells #[] 69)).alloc (.cells #[.int .i64 J.id, .int .i64 0, .int .i64 0, .slice JA n jc, .slice none 0 0, .slice none 0 0] 69)).drew (fun k => k < w.heap.size ∨ k = w2.heap.size + 1) J.needs [.slice JA J.needs.length jc] := by rw [← HN.out]; exact Kd.str.slice.mono (fun k h _ => .inl h) (Kd.below HJN2.out U2.out)
        have HR1 := hid (show Kd.entry.slice.K ((w2.alloc (.cells #[] 69)).alloc (.cells #[.int .i64 J.id, .int .i64 0, .int .i64 0, .slice JA n jc, .slice none 0 0, .slice none 0 0] 69)).drew (fun k => k < w.heap.size ∨ k = w2.heap.size + 1) [bareE J] [.slice (some ⟨w2.heap.size + 1, 0, none⟩) 1 1] from by
          have he := entry_of (bareE J) hnn (show I64.slice.K ((w2.alloc (.cells #[] 69)).alloc (.cells #[.int .i64 J.id, .int .i64 0, .int .i64 0, .slice JA n jc, .slice none 0 0, .slice none 0 0] 69)).drew (fun k => k < w.heap.size ∨ k = w2.heap.size + 1) [] [.slice none 0 0] from ⟨none, 0, rfl, Nat.le_refl _, by decide, Kd.Row.nil⟩) (show Kd.bool.slice.K ((w2.alloc (.cells #[] 69)).alloc (.cells #[.int .i64 J.id, .int .i64 0, .int .i64 0, .slice JA n jc, .slice none 0 0, .slice none 0 0] 69)).drew (fun k => k < w.heap.size ∨ k = w2.heap.size + 1) [] [.slice none 0 0] from ⟨none, 0, rfl, Nat.le_refl _, by decide, Kd.Row.nil⟩)
          have hnl : (bareE J).needs.length = n := HN.out.symm
          rw [hnl] at he
          exact K_of_block (d := Kd.entry) 1 1 rfl (by first | exact heap_at rfl | exact heap_at (by simp)) (.inr rfl) ⟨_, [], by simp [bareE], he, rfl⟩ (Nat.le_refl _) (show 1 ≤ 140737488355328 by decide))
        clear hnn
        have HNE1 := hid (show ∀ k, (Value.slice (some ⟨w2.heap.size, 0, none⟩) 0 0).ownBlock = some k → k ≠ w2.heap.size + 1 from fun k hk => by have h1 := (HO0.out.lt k hk).2; have h2 : ((w2.alloc (.cells #[] 69)).drew).heap.size = w2.heap.size + 1 := (by first | rfl | simp); omega)
        have HO1 := hid (show Own Kd.entry 69 ((w2.alloc (.cells #[] 69)).alloc (.cells #[.int .i64 J.id, .int .i64 0, .int .i64 0, .slice JA n jc, .slice none 0 0, .slice none 0 0] 69)).drew w2.heap.size Any (.slice (some ⟨w2.heap.size, 0, none⟩) 0 0) ([]) from HO0.out.below (bAlloc (Below.refl _ _) _))
        refine hK.out _ _ (HS.out _ U2.out) (fun hHeld => ?_)
        clear hK K
        (try simp only [Act.put, List.setIfInBounds_toArray, List.set_cons_zero, List.set_cons_succ])
        refine anyH_one 6 rfl (by kernel_rfl) (fun K hK => ?_)
        refine appendsG_step Kd.entry w2.heap.size rfl _ _ 26 69 _ 96 rfl Tryz.underlying26 Tryz.infoEntry rfl (by decide) (by decide) (.slice (some ⟨w2.heap.size, 0, none⟩) 0 0) [] b A q c Any (fun k => k < w.heap.size) (fun k => k < w.heap.size) rfl rfl HQ.out.symm (K_row (Kd.below HBK2.out U2.out)).1 (fun _ _ h => h) (fun k hk _ => ⟨trivial, fun e => by simp [Value.ownBlock] at e; have := HSZ2.out; omega⟩) HO1.out U2.out.size (by simp; omega) ?_
        intro va wa hOa hga hata
        rw [List.nil_append] at hOa
        have HOa := hid hOa
        have U3 := hid (U2.out.trans ⟨hga.os, hga.tape, hga.output, hga.size, fun k hk => hga.block k (Nat.lt_of_lt_of_le hk U2.out.size) (fun e => by simp [Value.ownBlock] at e; have := HSZ2.out; omega)⟩)
        have HRa := hid (show Kd.entry.slice.K wa (fun k => k < w.heap.size ∨ k = w2.heap.size + 1) [bareE J] [.slice (some ⟨w2.heap.size + 1, 0, none⟩) 1 1] from Kd.entry.slice.move (fun k hk hl => hga.block k hl (fun e => by rcases hk with hk | hk; (simp [Value.ownBlock] at e; have := HSZ2.out; omega); exact HNE1.out k e.symm hk)) HR1.out)
        have hlt1 : w2.heap.size + 1 < (((w2.alloc (.cells #[] 69)).alloc (.cells #[.int .i64 J.id, .int .i64 0, .int .i64 0, .slice JA n jc, .slice none 0 0, .slice none 0 0] 69)).drew).heap.size := (by first | omega | (simp; omega) | (simp; done))
        have HNEa := hid (show ∀ k, va.ownBlock = some k → k ≠ w2.heap.size + 1 from fun k hk => by rcases hata with h | ⟨p, h, hp⟩; exact HNE1.out k (h ▸ hk); rw [h] at hk; injection hk with hk; omega)
        obtain ⟨Aa, na, ca', rfl, hna, _⟩ := hOa.shape'
        have hnq : na = q := by rw [hna, HQ.out]
        subst hnq
        clear hOa hga hata hna
        refine hK.out _ _ (HS.out _ U3.out) (fun hHeld => ?_)
        clear hK K
        (try simp only [Act.put, List.setIfInBounds_toArray, List.set_cons_zero, List.set_cons_succ])
        refine anyH_one 13 rfl (by kernel_rfl) (fun K hK => ?_)
        refine appendsG_step Kd.entry w2.heap.size rfl _ _ 26 69 _ 96 rfl Tryz.underlying26 Tryz.infoEntry rfl (by decide) (by decide) (.slice Aa na ca') b [bareE J] (some ⟨w2.heap.size + 1, 0, none⟩) 1 1 Any (fun k => k < w.heap.size ∨ k = w2.heap.size + 1) (fun k => k < w.heap.size ∨ k = w2.heap.size + 1) rfl rfl rfl (K_row HRa.out).1 (fun _ _ h => h) (fun k hk _ => ⟨trivial, fun e => by rcases hk with hk | hk; (have h1 := (HOa.out.lt k e.symm).1; have := HSZ2.out; omega); exact HNEa.out k e.symm hk⟩) HOa.out U3.out.size (by rw [← HQ.out]; omega) ?_
        intro vb wb hOb hgb _
        have HOb := hid (Kd.any hOb.K)
        have U4 := hid (U3.out.trans ⟨hgb.os, hgb.tape, hgb.output, hgb.size, fun k hk => hgb.block k (Nat.lt_of_lt_of_le hk U3.out.size) (fun e => by have h1 := (HOa.out.lt k e.symm).1; omega)⟩)
        obtain ⟨Ab, nb, cb', rfl, hnb, _⟩ := hOb.shape'
        clear hOb hgb hnb
        refine hK.out _ _ (HS.out _ U4.out) (fun hHeld => ?_)
        clear hK K
        (try simp only [Act.put, List.setIfInBounds_toArray, List.set_cons_zero, List.set_cons_succ])
        refine anyH_one 14 rfl (by kernel_rfl) (fun K hK => ?_)
        go_simp
        refine (rkept_calls (b ++ [bareE J]) _ wb HOb.out HEN.out (by rw [List.length_append, ← HQ.out]; simp; omega)).mono ?_
        rintro e wc ⟨rfl, hbc⟩
        rw [← HM.out]
        have U5 := hid (bThen U4.out hbc)
        go_simp
        refine hK.out _ _ (HS.out _ U5.out) (fun hHeld => ?_)
        clear hK K
        (try simp only [Act.put, List.setIfInBounds_toArray, List.set_cons_zero, List.set_cons_succ])
        refine anyH_take 17 (v := ?_) rfl (by kernel_rfl) (by kernel_rfl) (by kernel_rfl) (fun _ _ _ h => h) (by rfl) hHeld ?_ ?_
        rotate_left
        · (intro w hSw; (try dsimp only at hSw); go_split_ands; go_simp; try with_reducible rfl)
        (try simp only [Act.put, List.setIfInBounds_toArray, List.set_cons_zero, List.set_cons_succ])
        refine anyH_take 18 (v := ?_) rfl (by kernel_rfl) (by kernel_rfl) (by kernel_rfl) (fun _ _ _ h => h) (by rfl) hHeld ?_ ?_
        rotate_left
        · (intro w hSw; (try dsimp only at hSw); go_split_ands; go_simp; try with_reducible rfl)
        (try simp only [Act.put, List.setIfInBounds_toArray, List.set_cons_zero, List.set_cons_succ])
        refine wpAnyH_done (by kernel_rfl) ?_ _
        go_wp2
        go_ret
        rw [HV.out]
        exact ⟨rfl, bThen HBV.out (bThen HB2.out U5.out)⟩
    · go_simp
      have U1 := hid (show Below w2.heap.size w2 (w2.alloc (.cells #[.int .i64 J.id, .int .i64 0, .int .i64 0, .slice JA n jc, .slice none 0 0, .slice none 0 0] 69)).drew from bAlloc U0.out (.cells #[.int .i64 J.id, .int .i64 0, .int .i64 0, .slice JA n jc, .slice none 0 0, .slice none 0 0] 69))
      have hnn : Kd.str.slice.K (w2.alloc (.cells #[.int .i64 J.id, .int .i64 0, .int .i64 0, .slice JA n jc, .slice none 0 0, .slice none 0 0] 69)).drew (fun k => k < w.heap.size ∨ k = w2.heap.size) J.needs [.slice JA J.needs.length jc] := by rw [← HN.out]; exact Kd.str.slice.mono (fun k h _ => .inl h) (Kd.below HJN2.out U1.out)
      have HR0 := hid (show Kd.entry.slice.K (w2.alloc (.cells #[.int .i64 J.id, .int .i64 0, .int .i64 0, .slice JA n jc, .slice none 0 0, .slice none 0 0] 69)).drew (fun k => k < w.heap.size ∨ k = w2.heap.size) [bareE J] [.slice (some ⟨w2.heap.size, 0, none⟩) 1 1] from by
        have he := entry_of (bareE J) hnn (show I64.slice.K (w2.alloc (.cells #[.int .i64 J.id, .int .i64 0, .int .i64 0, .slice JA n jc, .slice none 0 0, .slice none 0 0] 69)).drew (fun k => k < w.heap.size ∨ k = w2.heap.size) [] [.slice none 0 0] from ⟨none, 0, rfl, Nat.le_refl _, by decide, Kd.Row.nil⟩) (show Kd.bool.slice.K (w2.alloc (.cells #[.int .i64 J.id, .int .i64 0, .int .i64 0, .slice JA n jc, .slice none 0 0, .slice none 0 0] 69)).drew (fun k => k < w.heap.size ∨ k = w2.heap.size) [] [.slice none 0 0] from ⟨none, 0, rfl, Nat.le_refl _, by decide, Kd.Row.nil⟩)
        have hnl : (bareE J).needs.length = n := HN.out.symm
        rw [hnl] at he
        exact K_of_block (d := Kd.entry) 1 1 rfl (by first | exact heap_at rfl | exact heap_at (by simp)) (.inr rfl) ⟨_, [], by simp [bareE], he, rfl⟩ (Nat.le_refl _) (show 1 ≤ 140737488355328 by decide))
      clear hnn
      refine hK.out _ _ (HS.out _ U1.out) (fun hHeld => ?_)
      clear hK K
      (try simp only [Act.put, List.setIfInBounds_toArray, List.set_cons_zero, List.set_cons_succ])
      refine anyH_one 4 rfl (by kernel_rfl) (fun K hK => ?_)
      go_simp
      have U2 := hid (show Below w2.heap.size w2 ((w2.alloc (.cells #[.int .i64 J.id, .int .i64 0, .int .i64 0, .slice JA n jc, .slice none 0 0, .slice none 0 0] 69)).alloc (.cells #[] 69)).drew from bAlloc U1.out (.cells #[] 69))
      have HO1 := hid (show Own Kd.entry 69 ((w2.alloc (.cells #[.int .i64 J.id, .int .i64 0, .int .i64 0, .slice JA n jc, .slice none 0 0, .slice none 0 0] 69)).alloc (.cells #[] 69)).drew w2.heap.size Any (.slice (some ⟨w2.heap.size + 1, 0, none⟩) 0 0) [] from own_emptyE (by first | exact heap_at rfl | exact heap_at (by simp)) (by omega))
      have HR1 := hid (show Kd.entry.slice.K ((w2.alloc (.cells #[.int .i64 J.id, .int .i64 0, .int .i64 0, .slice JA n jc, .slice none 0 0, .slice none 0 0] 69)).alloc (.cells #[] 69)).drew (fun k => k < w.heap.size ∨ k = w2.heap.size) [bareE J] [.slice (some ⟨w2.heap.size, 0, none⟩) 1 1] from Kd.below HR0.out (bAlloc (Below.refl _ _) _))
      have HNE1 := hid (show ∀ k, (Value.slice (some ⟨w2.heap.size + 1, 0, none⟩) 0 0).ownBlock = some k → k ≠ w2.heap.size from fun k hk => by simp [Value.ownBlock] at hk; omega)
      refine hK.out _ _ (HS.out _ U2.out) (fun hHeld => ?_)
      clear hK K
      (try simp only [Act.put, List.setIfInBounds_toArray, List.set_cons_zero, List.set_cons_succ])
      refine anyH_one 6 rfl (by kernel_rfl) (fun K hK => ?_)
      refine appendsG_step Kd.entry w2.heap.size rfl _ _ 26 69 _ 96 rfl Tryz.underlying26 Tryz.infoEntry rfl (by decide) (by decide) (.slice (some ⟨w2.heap.size + 1, 0, none⟩) 0 0) [] b A q c Any (fun k => k < w.heap.size) (fun k => k < w.heap.size) rfl rfl HQ.out.symm (K_row (Kd.below HBK2.out U2.out)).1 (fun _ _ h => h) (fun k hk _ => ⟨trivial, fun e => by simp [Value.ownBlock] at e; have := HSZ2.out; omega⟩) HO1.out U2.out.size (by simp; omega) ?_
      intro va wa hOa hga hata
      rw [List.nil_append] at hOa
      have HOa := hid hOa
      have U3 := hid (U2.out.trans ⟨hga.os, hga.tape, hga.output, hga.size, fun k hk => hga.block k (Nat.lt_of_lt_of_le hk U2.out.size) (fun e => by simp [Value.ownBlock] at e; have := HSZ2.out; omega)⟩)
      have HRa := hid (show Kd.entry.slice.K wa (fun k => k < w.heap.size ∨ k = w2.heap.size) [bareE J] [.slice (some ⟨w2.heap.size, 0, none⟩) 1 1] from Kd.entry.slice.move (fun k hk hl => hga.block k hl (fun e => by rcases hk with hk | hk; (simp [Value.ownBlock] at e; have := HSZ2.out; omega); exact HNE1.out k e.symm hk)) HR1.out)
      have hlt1 : w2.heap.size < (((w2.alloc (.cells #[.int .i64 J.id, .int .i64 0, .int .i64 0, .slice JA n jc, .slice none 0 0, .slice none 0 0] 69)).alloc (.cells #[] 69)).drew).heap.size := (by first | omega | (simp; omega) | (simp; done))
      have HNEa := hid (show ∀ k, va.ownBlock = some k → k ≠ w2.heap.size from fun k hk => by rcases hata with h | ⟨p, h, hp⟩; exact HNE1.out k (h ▸ hk); rw [h] at hk; injection hk with hk; omega)
      obtain ⟨Aa, na, ca', rfl, hna, _⟩ := hOa.shape'
      have hnq : na = q := by rw [hna, HQ.out]
      subst hnq
      clear hOa hga hata hna
      refine hK.out _ _ (HS.out _ U3.out) (fun hHeld => ?_)
      clear hK K
      (try simp only [Act.put, List.setIfInBounds_toArray, List.set_cons_zero, List.set_cons_succ])
      refine anyH_one 13 rfl (by kernel_rfl) (fun K hK => ?_)
      refine appendsG_step Kd.entry w2.heap.size rfl _ _ 26 69 _ 96 rfl Tryz.underlying26 Tryz.infoEntry rfl (by decide) (by decide) (.slice Aa na ca') b [bareE J] (some ⟨w2.heap.size, 0, none⟩) 1 1 Any (fun k => k < w.heap.size ∨ k = w2.heap.size) (fun k => k < w.heap.size ∨ k = w2.heap.size) rfl rfl rfl (K_row HRa.out).1 (fun _ _ h => h) (fun k hk _ => ⟨trivial, fun e => by rcases hk with hk | hk; (have h1 := (HOa.out.lt k e.symm).1; have := HSZ2.out; omega); exact HNEa.out k e.symm hk⟩) HOa.out U3.out.size (by rw [← HQ.out]; omega) ?_
      intro vb wb hOb hgb _
      have HOb := hid (Kd.any hOb.K)
      have U4 := hid (U3.out.trans ⟨hgb.os, hgb.tape, hgb.output, hgb.size, fun k hk => hgb.block k (Nat.lt_of_lt_of_le hk U3.out.size) (fun e => by have h1 := (HOa.out.lt k e.symm).1; omega)⟩)
      obtain ⟨Ab, nb, cb', rfl, hnb, _⟩ := hOb.shape'
      clear hOb hgb hnb
      refine hK.out _ _ (HS.out _ U4.out) (fun hHeld => ?_)
      clear hK K
      (try simp only [Act.put, List.setIfInBounds_toArray, List.set_cons_zero, List.set_cons_succ])
      refine anyH_one 14 rfl (by kernel_rfl) (fun K hK => ?_)
      go_simp
      refine (rkept_calls (b ++ [bareE J]) _ wb HOb.out HEN.out (by rw [List.length_append, ← HQ.out]; simp; omega)).mono ?_
      rintro e wc ⟨rfl, hbc⟩
      rw [← HM.out]
      have U5 := hid (bThen U4.out hbc)
      go_simp
      refine hK.out _ _ (HS.out _ U5.out) (fun hHeld => ?_)
      clear hK K
      (try simp only [Act.put, List.setIfInBounds_toArray, List.set_cons_zero, List.set_cons_succ])
      refine anyH_take 17 (v := ?_) rfl (by kernel_rfl) (by kernel_rfl) (by kernel_rfl) (fun _ _ _ h => h) (by rfl) hHeld ?_ ?_
      rotate_left
      · (intro w hSw; (try dsimp only at hSw); go_split_ands; go_simp; try with_reducible rfl)
      (try simp only [Act.put, List.setIfInBounds_toArray, List.set_cons_zero, List.set_cons_succ])
      refine anyH_take 18 (v := ?_) rfl (by kernel_rfl) (by kernel_rfl) (by kernel_rfl) (fun _ _ _ h => h) (by rfl) hHeld ?_ ?_
      rotate_left
      · (intro w hSw; (try dsimp only at hSw); go_split_ands; go_simp; try with_reducible rfl)
      (try simp only [Act.put, List.setIfInBounds_toArray, List.set_cons_zero, List.set_cons_succ])
      refine wpAnyH_done (by kernel_rfl) ?_ _
      go_wp2
      go_ret
      rw [HV.out]
      exact ⟨rfl, bThen HBV.out (bThen HB2.out U5.out)⟩
end Go.Proofs.YtolckkckheiceaaGreat
