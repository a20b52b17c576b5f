import Derived.Test.YtahhhnbpohcbfaaPS19
import Derived.Deep.CutBlock
namespace Go.Proofs.Ytahhhnbpohcbfaa
open Go.RowKit Go.Lib

set_option maxHeartbeats 12800000 in
set_option maxRecDepth 100000 in
theorem annalPlaysLaw_calls (w : World) (room : Int) (l : List Act19) (L : Option Addr) (e : Nat) (hl : Kd.act19.slice.K w Any l [.slice L l.length e]) (hok : ∀ y ∈ l, okAct19 y) :
    Calls Try.prog 11 #[.int .i64 room, .slice L l.length e] w fun e w' => e = .returned (.bool true) ∧ Below w.heap.size w w' := by
  have HL := hid hl
  have HR : Hid (Kd.act19.Row w (fun k => k < w.heap.size) L l) := by
    obtain ⟨A', n', he, _, _, h⟩ := Kd.mono _ (S' := fun k => k < w.heap.size) (fun k _ h => h) hl
    cases he
    exact h
  have HOK := hid hok
  clear hl hok
  by_cases hroom : room < 0 ∨ 65536 < room
  case pos =>
    have hdec : (decide (0 ≤ room) && decide (room ≤ 65536)) = false := by
      rw [Bool.and_eq_false_iff, decide_eq_false_iff_not, decide_eq_false_iff_not]; omega
    go_enter Try.func11, Try.ntmps11
    go_wp2_with fail
    refine (diskNew_no room _ hroom).mono ?_
    rintro e w1 ⟨rfl, rfl⟩
    go_wp2_with fail
    refine (r16New_calls room _).mono ?_
    rintro e w2 ⟨rfl, hb2⟩
    rw [hdec]
    have B2 := hid (bAlloc hb2 (.cells #[.string (mkB []), .int .i64 room, .int .i64 (-1)] 64))
    clear hb2
    go_wp2_with fail
    refine (works19_calls _).mono ?_
    rintro e w3 ⟨rfl, hb3⟩
    go_wp2
    go_ret
    exact ⟨rfl, bThen B2.out hb3⟩
  have hr0 : 0 ≤ room := by omega
  have hr1 : room ≤ 65536 := by omega
  have hdec : (decide (0 ≤ room) && decide (room ≤ 65536)) = true := by rw [decide_eq_true hr0, decide_eq_true hr1]; rfl
  cases hsm : small19 l 40
  case false =>
    go_enter Try.func11, Try.ntmps11
    go_wp2_with fail
    refine (diskNew_yes room _ hr0 hr1).mono ?_
    rintro e w1 ⟨rfl, _, hb1⟩
    have B1 := hid hb1
    clear hb1
    go_wp2_with fail
    refine (r16New_calls room _).mono ?_
    rintro e w2 ⟨rfl, hb2⟩
    rw [hdec]
    have B2 := hid (bAlloc (bThen B1.out hb2) (.cells #[.string (mkB []), .int .i64 room, .int .i64 (-1)] 64))
    clear hb2
    go_wp2_with fail
    refine (small19_calls l 40 _ _ (Kd.below HL.out B2.out)).mono ?_
    rintro e w3 ⟨rfl, hb3⟩
    rw [hsm]
    have B3 := hid (bThen B2.out hb3)
    clear hb3
    go_wp2_with fail
    refine (works19_calls _).mono ?_
    rintro e w4 ⟨rfl, hb4⟩
    go_wp2
    go_ret
    exact ⟨rfl, bThen B3.out hb4⟩
  have hl40 : l.length ≤ 40 := by
    have h := hsm
    unfold small19 at h
    rw [Bool.and_eq_true, decide_eq_true_iff] at h
    omega
  have HBL : Hid (∀ y ∈ l, y.b.length ≤ 200) := by
    have h := hsm
    unfold small19 at h
    rw [Bool.and_eq_true, List.all_eq_true] at h
    intro y hy
    have h2 := h.1 y hy
    rw [Bool.and_eq_true, decide_eq_true_iff] at h2
    exact h2.2
  go_enter Try.func11, Try.ntmps11
  go_wp2_with fail
  refine (diskNew_yes room _ hr0 hr1).mono ?_
  rintro e w1 ⟨rfl, hd1, hb1⟩
  have B1 := hid hb1
  have HD1 := hid (hd1.mono (T' := fun k => w.heap.size ≤ k ∧ k < w1.heap.size) (fun k hk h => ⟨h, hk⟩))
  clear hb1 hd1
  go_wp2_with fail
  refine (r16New_calls room _).mono ?_
  rintro e w2 ⟨rfl, hb2⟩
  rw [hdec]
  have B2 := hid (bAlloc (bThen B1.out hb2) (.cells #[.string (mkB []), .int .i64 room, .int .i64 (-1)] 64))
  have HM2 : Hid (RefAt (w2.alloc (.cells #[.string (mkB []), .int .i64 room, .int .i64 (-1)] 64)) w2.heap.size ⟨[], room, -1⟩) := heap_at rfl
  have HD2 := hid (HD1.out.below (show Below w1.heap.size w1 (w2.alloc (.cells #[.string (mkB []), .int .i64 room, .int .i64 (-1)] 64)) from bAlloc hb2 _))
  have s12 := hb2.size
  have s01 := B1.out.size
  clear hb2
  go_wp2_with fail
  refine (small19_calls l 40 _ _ (Kd.below HL.out B2.out)).mono ?_
  rintro e w3 ⟨rfl, hb3⟩
  rw [hsm]
  have B3 := hid (bThen B2.out hb3)
  have HM3 := hid (HM2.out.below hb3)
  have HD3 := hid (HD2.out.below hb3)
  have s23 := hb3.size
  clear hb3
  go_wp2_with fail
  refine (firstOpen_calls HD3.out).mono ?_
  rintro e w4 ⟨ga0, rfl, hp4, hm4⟩
  rw [show (DiskS.mk [] room (-1)).b = [] from rfl, recsS_nil] at hp4
  have HP4 := hid (show Pair w4 (fun k => w.heap.size ≤ k ∧ k < w1.heap.size ∨ w3.heap.size ≤ k ∧ k < w4.heap.size) ga0 w.heap.size ⟨[], room, -1⟩ [] false from hp4.mono (fun k hk h => h.elim .inl (fun h => .inr ⟨h, hk⟩)))
  have s2 : w2.heap.size < w3.heap.size := by simp at s23; omega
  have s34 := hm4.size
  have HM4 := hid (HM3.out.mod hm4 (fun h => by omega))
  have B4 := hid (below_mod B3.out hm4 (fun k h => h.1) B3.out.size)
  clear hp4 hm4
  go_wp2_with fail
  refine (rOpen19_calls w2.heap.size ⟨[], room, -1⟩ _ HM4.out ⟨hr0, hr1, by simpa using hr0⟩).mono ?_
  rintro e w5 ⟨gw0, rfl, hw5, hr5, hm5⟩
  rw [show (DiskS.mk [] room (-1)).b = [] from rfl, recsS_nil] at hw5 hr5
  have s45 := hm5.size
  have B5 := hid (below_mod B4.out hm5 (fun k h => by subst h; omega) B4.out.size)
  have HPS := hid (show PS w.heap.size w.heap.size w2.heap.size 0 w5 ga0 gw0 from
    ⟨⟨[], room, -1⟩, ⟨[], room, -1⟩, [], false, fun k => w.heap.size ≤ k ∧ k < w1.heap.size ∨ w3.heap.size ≤ k ∧ k < w4.heap.size, fun k => k < w.heap.size ∨ w4.heap.size ≤ k ∧ k < w5.heap.size,
      HP4.out.move (fun k hk h => hm5.block k hk (fun e => by subst e; omega)), hw5.mono (fun k hk h => .inr ⟨h, hk⟩), hr5, ⟨rfl, rfl, by simp⟩, fun k h => by omega, fun k h => by omega, by omega, by omega, fun k h => .inl h, by omega, by have := hw5.1; omega, by simp, by simp⟩)
  clear hw5 hr5 hm5
  go_wp2_with fail
  go_loopw [8, 9, 10] (fun av wv iv wr => ∃ k ga gw : Nat, k ≤ l.length ∧ av = .pointer (some ⟨ga, 0, none⟩) ∧ wv = .pointer (some ⟨gw, 0, none⟩) ∧ iv = .int .i64 k ∧ Hid (PS w.heap.size w.heap.size w2.heap.size k wr ga gw) ∧ Below w.heap.size w wr) (fun _ _ iv _ => l.length - (intOf iv).toNat)
  case atStart => exact ⟨0, ga0, gw0, by omega, rfl, rfl, rfl, HPS, B5.out⟩
  case round =>
    obtain ⟨k, ga, gw, hk, rfl, rfl, rfl, HQ, hbw⟩ := hrel
    have hsw := hbw.size
    by_cases hlt : k < l.length
    · obtain ⟨a, x, B, n, c, D, d, rfl, hx, y0, y1, y2, y3, y4, y5, y6, y7, y8, y9, hK, hKb⟩ := at_act19 (HR.out.below hbw) k hlt
      have hltI : (k : Int) < l.length := by omega
      have HKx := hid hK
      have HKb := hid hKb
      have HBX := hid (HBL.out x (List.mem_of_getElem? hx))
      have HOX := hid (HOK.out x (List.mem_of_getElem? hx))
      clear hx hK hKb
      go_upto_if 43 with fail
      obtain ⟨V, hV⟩ : ∃ V, V = wr.alloc (.cells #[.int .i64 x.op, .int .i64 x.n, .int .i64 x.x.kind, .int .i64 x.x.job, .int .i64 x.x.task, .int .i64 x.x.worker, .int .i64 x.x.sched, .int .i64 x.x.epoch, .slice B n c, .slice D x.b.length d] 72) := ⟨_, rfl⟩
      rw [← hV]
      have HXV : Hid (V.heap[wr.heap.size]? = some (.cells #[.int .i64 x.op, .int .i64 x.n, .int .i64 x.x.kind, .int .i64 x.x.job, .int .i64 x.x.task, .int .i64 x.x.worker, .int .i64 x.x.sched, .int .i64 x.x.epoch, .slice B n c, .slice D x.b.length d] 72 (0, 0))) := by rw [hV]; exact heap_at rfl
      have hxV : wr.heap.size < V.heap.size := by rw [hV]; simp
      have BV := hid (show Below wr.heap.size wr V by rw [hV]; exact bAlloc (Below.refl _ _) _)
      have bV := hid (bThen hbw BV.out)
      have HKV := hid (show Kd.str.slice.K V (fun k => k < w.heap.size) x.x.needs [.slice B n c] from Kd.below HKx.out BV.out)
      have HKbV := hid (show Kd.u8.slice.K V (fun k => k < w.heap.size) x.b [.slice D x.b.length d] from Kd.below HKb.out BV.out)
      obtain ⟨DD, RR, lr, down, F, T, hP, hW, hR, hA, hF, hT, hNF, hNT, hTB, hgmB, hgwB, hokl, hlen⟩ := HQ.out
      have hgmr := (Array.getElem?_eq_some_iff.1 hR).1
      have hgwr := (hT gw hW.1).2
      have HPV := hid (hP.below BV.out)
      have HWV := hid (hW.below BV.out)
      have HRV := hid (hR.below BV.out)
      have HF := hid (show ∀ k, F k → w.heap.size ≤ k ∧ k < V.heap.size from fun k h => ⟨(hF k h).1, by have := (hF k h).2; omega⟩)
      have HT := hid (show ∀ k, T k → ¬ F k ∧ k < V.heap.size from fun k h => ⟨(hT k h).1, by have := (hT k h).2; omega⟩)
      have HNF := hid hNF
      have HNT := hid hNT
      have HTB := hid hTB
      have HAL := hid hA
      have HOKL := hid hokl
      have hFx : ¬ F wr.heap.size := fun h => by have := (hF _ h).2; omega
      have hxg : ¬ (wr.heap.size = w2.heap.size ∨ wr.heap.size = gw) := by omega
      have hFw : ¬ F gw := (hT gw hW.1).1
      have hr16 := hA.ok hP.ok
      clear hV hP hW hR hA hF hT hNF hNT hTB hokl y0 y1 y2 y3 y4 y5 y6 y7 y8 y9
      have y0 := (cells_of_block HXV.out).1 0 (.int .i64 x.op) rfl
      have y1 := (cells_of_block HXV.out).1 1 (.int .i64 x.n) rfl
      go_cut [8, 9] from 41 to 79 (fun av wv wx => ∃ ga' gw' : Nat, av = .pointer (some ⟨ga', 0, none⟩) ∧ wv = .pointer (some ⟨gw', 0, none⟩) ∧ Hid (PS w.heap.size w.heap.size w2.heap.size (k + 1) wx ga' gw') ∧ Below w.heap.size w wx)
      case first =>
        by_cases hop : x.op = 0
        · have HEQ := hid (anApp_alike HAL.out lr down x.x)
          have HOK2 := hid (anApp_ok (D := RR) (down := down) (x := x.x) HOKL.out)
          have e0 : (x.op == (0 : Int)) = true := by rw [beq_iff_eq]; exact hop
          clear y0 y1 hop
          go_wp2_with fail
          have q2 := (cells_of_block (w := V.drew) HXV.out).1 2 (.int .i64 x.x.kind) rfl
          have q3 := (cells_of_block (w := V.drew) HXV.out).1 3 (.int .i64 x.x.job) rfl
          have q4 := (cells_of_block (w := V.drew) HXV.out).1 4 (.int .i64 x.x.task) rfl
          have q5 := (cells_of_block (w := V.drew) HXV.out).1 5 (.int .i64 x.x.worker) rfl
          have q6 := (cells_of_block (w := V.drew) HXV.out).1 6 (.int .i64 x.x.sched) rfl
          have q7 := (cells_of_block (w := V.drew) HXV.out).1 7 (.int .i64 x.x.epoch) rfl
          have q8 := (cells_of_block (w := V.drew) HXV.out).1 8 (.slice B n c) rfl
          refine wp_region_held_drew (S := fun w' => w'.cell? ⟨wr.heap.size, 2, none⟩ = some (.int .i64 x.x.kind) ∧ w'.cell? ⟨wr.heap.size, 3, none⟩ = some (.int .i64 x.x.job) ∧ w'.cell? ⟨wr.heap.size, 4, none⟩ = some (.int .i64 x.x.task) ∧ w'.cell? ⟨wr.heap.size, 5, none⟩ = some (.int .i64 x.x.worker) ∧ w'.cell? ⟨wr.heap.size, 6, none⟩ = some (.int .i64 x.x.sched) ∧ w'.cell? ⟨wr.heap.size, 7, none⟩ = some (.int .i64 x.x.epoch) ∧ w'.cell? ⟨wr.heap.size, 8, none⟩ = some (.slice B n c)) (by kernel_rfl) ⟨q2, q3, q4, q5, q6, q7, q8⟩ (fun hHeld => ?_)
          refine anyH_take 0 (v := ?_) rfl (by kernel_rfl) (by kernel_rfl) (by kernel_rfl) (fun _ _ _ h => h) (by rfl) hHeld ?_ ?_
          rotate_left
          · (intro w hSw; (try dsimp only at hSw); go_split_ands; go_simp; try with_reducible rfl)
          (try simp only [Act.put, List.setIfInBounds_toArray, List.set_cons_zero, List.set_cons_succ])
          refine anyH_take 1 (v := ?_) rfl (by kernel_rfl) (by kernel_rfl) (by kernel_rfl) (fun _ _ _ h => h) (by rfl) hHeld ?_ ?_
          rotate_left
          · (intro w hSw; (try dsimp only at hSw); go_split_ands; go_simp; try with_reducible rfl)
          (try simp only [Act.put, List.setIfInBounds_toArray, List.set_cons_zero, List.set_cons_succ])
          refine anyH_take 2 (v := ?_) rfl (by kernel_rfl) (by kernel_rfl) (by kernel_rfl) (fun _ _ _ h => h) (by rfl) hHeld ?_ ?_
          rotate_left
          · (intro w hSw; (try dsimp only at hSw); go_split_ands; go_simp; try with_reducible rfl)
          (try simp only [Act.put, List.setIfInBounds_toArray, List.set_cons_zero, List.set_cons_succ])
          refine anyH_take 4 (v := ?_) rfl (by kernel_rfl) (by kernel_rfl) (by kernel_rfl) (fun _ _ _ h => h) (by rfl) hHeld ?_ ?_
          rotate_left
          · (intro w hSw; (try dsimp only at hSw); go_split_ands; go_simp; try with_reducible rfl)
          (try simp only [Act.put, List.setIfInBounds_toArray, List.set_cons_zero, List.set_cons_succ])
          refine anyH_take 5 (v := ?_) rfl (by kernel_rfl) (by kernel_rfl) (by kernel_rfl) (fun _ _ _ h => h) (by rfl) hHeld ?_ ?_
          rotate_left
          · (intro w hSw; (try dsimp only at hSw); go_split_ands; go_simp; try with_reducible rfl)
          (try simp only [Act.put, List.setIfInBounds_toArray, List.set_cons_zero, List.set_cons_succ])
          refine anyH_take 6 (v := ?_) rfl (by kernel_rfl) (by kernel_rfl) (by kernel_rfl) (fun _ _ _ h => h) (by rfl) hHeld ?_ ?_
          rotate_left
          · (intro w hSw; (try dsimp only at hSw); go_split_ands; go_simp; try with_reducible rfl)
          (try simp only [Act.put, List.setIfInBounds_toArray, List.set_cons_zero, List.set_cons_succ])
          refine anyH_one 3 rfl (by kernel_rfl) (fun K hK => ?_)
          go_simp
          refine (anAppend_calls F ga w.heap.size DD lr down _ (HPV.out.below (Below.refl V.heap.size V).drew) x.x B n c (Kd.mono _ (fun k hk _ h => by have := (HF.out k h).1; have hk' : k < w.heap.size := hk; omega) (Kd.below HKV.out (Below.refl V.heap.size V).drew)) (by omega)).mono ?_
          rintro e0 u1 ⟨rfl, hp1, hm1⟩
          rw [HEQ.out.1] at hp1 ⊢
          have hm1' : Mod F V u1 := (Mod.of_below (Below.refl V.heap.size V).drew).trans hm1 (fun _ _ h => h)
          have HQ1 := hid (ps_prog (B := w.heap.size) (W := V) (T := T) (hp1.mono (fun k _ h => h)) hm1' HWV.out HRV.out HF.out HT.out HNF.out (by omega))
          have hs1 := hm1'.size
          have HX1 := hid ((hm1'.block wr.heap.size hxV (fun h => hFx h)).trans HXV.out)
          have HK1 := hid (show Kd.str.slice.K u1 (fun k => k < w.heap.size) x.x.needs [.slice B n c] from Kd.mod HKV.out hm1' (fun k _ h1 h2 => by have := (HF.out k h2).1; have h1' : k < w.heap.size := h1; omega))
          have HM1 := hid hm1'
          clear hp1 hm1 hm1'
          have px := (cells_of_block (HX1.out)).1
          have p2 := px 2 (.int .i64 x.x.kind) rfl
          have p3 := px 3 (.int .i64 x.x.job) rfl
          have p4 := px 4 (.int .i64 x.x.task) rfl
          have p5 := px 5 (.int .i64 x.x.worker) rfl
          have p6 := px 6 (.int .i64 x.x.sched) rfl
          have p7 := px 7 (.int .i64 x.x.epoch) rfl
          have p8 := px 8 (.slice B n c) rfl
          clear px
          go_simp
          refine hK.out _ _ ⟨p2, p3, p4, p5, p6, p7, p8⟩ (fun hHeld => ?_)
          clear hK K
          (try simp only [Act.put, List.setIfInBounds_toArray, List.set_cons_zero, List.set_cons_succ])
          clear p2 p3 p4 p5 p6 p7 p8
          refine anyH_one 7 rfl (by kernel_rfl) (fun K hK => ?_)
          go_simp
          refine (rAppend19_calls T gw w2.heap.size RR lr down _ HQ1.out.2.1 HQ1.out.2.2.1 hr16 HNT.out x.x B n c (Kd.mono _ (fun k hk _ => ⟨HTB.out k hk, fun e => by have hk' : k < w.heap.size := hk; omega⟩) HK1.out) (by omega)).mono ?_
          rintro e1 u2 ⟨rfl, hw2, hr2, hm2⟩
          have hs2 := hm2.size
          have HW2 := hid hw2
          have HR2 := hid hr2
          have HM2' := hid hm2
          have HX2 := hid ((hm2.block wr.heap.size (Nat.lt_of_lt_of_le hxV hs1) (fun h => hxg h)).trans HX1.out)
          clear hw2 hr2 hm2
          have px := (cells_of_block (HX2.out)).1
          have p2 := px 2 (.int .i64 x.x.kind) rfl
          have p3 := px 3 (.int .i64 x.x.job) rfl
          have p4 := px 4 (.int .i64 x.x.task) rfl
          have p5 := px 5 (.int .i64 x.x.worker) rfl
          have p6 := px 6 (.int .i64 x.x.sched) rfl
          have p7 := px 7 (.int .i64 x.x.epoch) rfl
          have p8 := px 8 (.slice B n c) rfl
          clear px
          go_simp
          refine hK.out _ _ ⟨p2, p3, p4, p5, p6, p7, p8⟩ (fun hHeld => ?_)
          clear hK K
          (try simp only [Act.put, List.setIfInBounds_toArray, List.set_cons_zero, List.set_cons_succ])
          clear p2 p3 p4 p5 p6 p7 p8
          refine anyH_take 8 (v := ?_) rfl (by kernel_rfl) (by kernel_rfl) (by kernel_rfl) (fun _ _ _ h => h) (by rfl) hHeld ?_ ?_
          rotate_left
          · (intro w hSw; (try dsimp only at hSw); go_split_ands; go_simp; try with_reducible rfl)
          (try simp only [Act.put, List.setIfInBounds_toArray, List.set_cons_zero, List.set_cons_succ])
          refine wpAnyH_done (by kernel_rfl) ?_ _
          clear hHeld q2 q3 q4 q5 q6 q7 q8
          go_wp2_with fail
          go_meet
          have hsV1 := HM1.out.size
          have hs12 := HM2'.out.size
          refine ⟨ga, gw, rfl, rfl, ⟨_, _, _, _, fun k => F k ∨ V.heap.size ≤ k ∧ k < u1.heap.size, fun k => T k ∨ u1.heap.size ≤ k ∧ k < u2.heap.size,
            HQ1.out.1.move (fun j hj h => HM2'.out.block j hj (fun e => ?_)), HW2.out.mono (fun j hj h => h.elim .inl (fun h => .inr ⟨h, hj⟩)), HR2.out, HEQ.out.2, fun j h => ?_, fun j h => ?_, HQ1.out.2.2.2.2.2, fun h => ?_, fun j h => .inl (HTB.out j h), hgmB, hgwB, HOK2.out.1, by have := HOK2.out.2; omega⟩, ?_⟩
          · rcases e with e | e
            · subst e; exact HQ1.out.2.2.2.2.2 h
            · subst e; exact h.elim hFw (fun h => by omega)
          · have h2 := HQ1.out.2.2.2.1 j h
            omega
          · rcases h with h | h
            · have h2 := HQ1.out.2.2.2.2.1 j h
              exact ⟨h2.1, by omega⟩
            · exact ⟨fun h3 => by have h2 := HQ1.out.2.2.2.1 j h3; omega, h.2⟩
          · exact h.elim HNT.out (fun h => by omega)
          · exact below_mod (below_mod bV.out HM1.out (fun j h => (HF.out j h).1) (by omega)) HM2'.out (fun j h => by omega) (by omega)
        · by_cases hop1 : x.op = 1
          · have e0 : (x.op == (0 : Int)) = false := by rw [beq_eq_false_iff_ne]; exact hop
            have e1 : (x.op == (1 : Int)) = true := by rw [beq_iff_eq]; exact hop1
            clear hop hop1
            go_wp2_with fail
            refine (pairFuse_calls HPV.out x.n (i64_hi2 HOX.out.2.1)).mono ?_
            rintro e0 u1 ⟨rfl, hp1, hm1⟩
            have HP1 := hid hp1
            have HM1 := hid hm1
            have HX1 := hid ((hm1.block wr.heap.size hxV hFx).trans HXV.out)
            have z1 := (cells_of_block HX1.out).1 1 (.int .i64 x.n) rfl
            have HR1 := hid (HRV.out.mod hm1 HNF.out)
            obtain ⟨_, _, g2, gf, hgl⟩ := HR1.out.cells
            have gf2 := gf 2
            have hsV1 := hm1.size
            clear hp1 hm1 gf y0 y1
            go_wp2_with fail
            go_meet
            refine ⟨ga, gw, rfl, rfl, ⟨DD.burn x.n, ⟨RR.b, RR.room, x.n⟩, lr, down, F, T,
              HP1.out.move (fun j hj h => Below.heap_setCell _ ⟨w2.heap.size, 2, none⟩ _ j (fun e => by subst e; exact HNF.out h)), (HWV.out.move (fun j hj h => HM1.out.block j hj (HT.out j h).1)).move (fun j hj h => Below.heap_setCell _ ⟨w2.heap.size, 2, none⟩ _ j (fun e => by subst e; exact HNT.out h)), heap_set HR1.out 2 _, HAL.out.burn x.n,
              fun j h => ⟨(HF.out j h).1, by have := (HF.out j h).2; simp [World.setCell]; omega⟩, fun j h => ⟨(HT.out j h).1, by have := (HT.out j h).2; simp [World.setCell]; omega⟩, HNF.out, HNT.out, HTB.out, hgmB, hgwB, HOKL.out, by omega⟩, ?_⟩
            exact (below_mod bV.out HM1.out (fun j h => (HF.out j h).1) (by omega)).setCell (p := ⟨w2.heap.size, 2, none⟩) hgmB _
          · have e0 : (x.op == (0 : Int)) = false := by rw [beq_eq_false_iff_ne]; exact hop
            have e1 : (x.op == (1 : Int)) = false := by rw [beq_eq_false_iff_ne]; exact hop1
            clear hop hop1
            have q0 := (cells_of_block (w := V.drew) HXV.out).1 0 (.int .i64 x.op) rfl
            have q9 := (cells_of_block (w := V.drew) HXV.out).1 9 (.slice D x.b.length d) rfl
            by_cases hop3 : x.op = 3
            · have e3 : (x.op == (3 : Int)) = true := by rw [beq_iff_eq]; exact hop3
              have HAP := hid (HAL.out.app x.b)
              have HROK2 := hid (HAP.out.2.ok (DiskS.append_ok HPV.out.ok x.b))
              clear hop3
              go_wp2_with fail
              refine wp_region_held_drew (S := fun w' => w'.cell? ⟨wr.heap.size, 0, none⟩ = some (.int .i64 x.op) ∧ w'.cell? ⟨wr.heap.size, 9, none⟩ = some (.slice D x.b.length d) ∧ (convert 27 9 (.slice D x.b.length d)).run Try.prog w' = .ok (.string (mkB x.b)) w') (by kernel_rfl) ⟨q0, q9, conv_u8 (Kd.any (Kd.below HKbV.out (Below.refl V.heap.size V).drew))⟩ (fun hHeld => ?_)
              have q3_ := hHeld.1
              refine anyH_take 0 (v := ?_) rfl (by kernel_rfl) (by kernel_rfl) (by kernel_rfl) (fun _ _ _ h => h) (by rfl) hHeld ?_ ?_
              rotate_left
              · (intro w hSw; (try dsimp only at hSw); go_split_ands; go_simp; try with_reducible rfl)
              (try simp only [Act.put, List.setIfInBounds_toArray, List.set_cons_zero, List.set_cons_succ])
              refine anyH_take 1 (v := ?_) rfl (by kernel_rfl) (by kernel_rfl) (by kernel_rfl) (fun _ _ _ h => h) (by rfl) hHeld ?_ ?_
              rotate_left
              · (intro w hSw; (try dsimp only at hSw); go_split_ands; go_simp; try with_reducible rfl)
              (try simp only [Act.put, List.setIfInBounds_toArray, List.set_cons_zero, List.set_cons_succ])
              refine anyH_take 2 (v := ?_) rfl (by kernel_rfl) (by kernel_rfl) (by kernel_rfl) (fun _ _ _ h => h) (by rfl) hHeld ?_ ?_
              rotate_left
              · (intro w hSw; (try dsimp only at hSw); go_split_ands; go_simp; try with_reducible rfl)
              (try simp only [Act.put, List.setIfInBounds_toArray, List.set_cons_zero, List.set_cons_succ])
              refine anyH_take 3 (v := ?_) rfl (by kernel_rfl) (by kernel_rfl) (by kernel_rfl) (fun _ _ _ h => h) (by rfl) hHeld ?_ ?_
              rotate_left
              · (intro w hSw; (try dsimp only at hSw); go_split_ands; go_simp; try with_reducible rfl)
              (try simp only [Act.put, List.setIfInBounds_toArray, List.set_cons_zero, List.set_cons_succ])
              (try simp only [e3])
              refine anyH_take 4 (v := ?_) rfl (by kernel_rfl) (by kernel_rfl) (by kernel_rfl) (fun _ _ _ h => h) (by rfl) hHeld ?_ ?_
              rotate_left
              · (intro w hSw; (try dsimp only at hSw); go_split_ands; go_simp; try with_reducible rfl)
              (try simp only [Act.put, List.setIfInBounds_toArray, List.set_cons_zero, List.set_cons_succ])
              refine anyH_take 5 (v := ?_) rfl (by kernel_rfl) (by kernel_rfl) (by kernel_rfl) (fun _ _ _ h => h) (by rfl) hHeld ?_ ?_
              rotate_left
              · (intro w hSw; (try dsimp only at hSw); go_split_ands; go_simp; try with_reducible rfl)
              (try simp only [Act.put, List.setIfInBounds_toArray, List.set_cons_zero, List.set_cons_succ])
              refine anyH_take 6 (v := ?_) rfl (by kernel_rfl) (by kernel_rfl) (by kernel_rfl) (fun _ _ _ h => h) (by rfl) hHeld ?_ ?_
              rotate_left
              · (intro w hSw; (try dsimp only at hSw); go_split_ands; go_simp; try with_reducible rfl)
              (try simp only [Act.put, List.setIfInBounds_toArray, List.set_cons_zero, List.set_cons_succ])
              refine anyH_take 8 (v := ?_) rfl (by kernel_rfl) (by kernel_rfl) (by kernel_rfl) (fun _ _ _ h => h) (by rfl) hHeld ?_ ?_
              rotate_left
              · (intro w hSw; (try dsimp only at hSw); go_split_ands; go_simp; try with_reducible rfl)
              (try simp only [Act.put, List.setIfInBounds_toArray, List.set_cons_zero, List.set_cons_succ])
              refine anyH_take 9 (v := ?_) rfl (by kernel_rfl) (by kernel_rfl) (by kernel_rfl) (fun _ _ _ h => h) (by rfl) hHeld ?_ ?_
              rotate_left
              · (intro w hSw; (try dsimp only at hSw); go_split_ands; go_simp; try with_reducible rfl)
              (try simp only [Act.put, List.setIfInBounds_toArray, List.set_cons_zero, List.set_cons_succ])
              refine anyH_take 10 (v := ?_) rfl (by kernel_rfl) (by kernel_rfl) (by kernel_rfl) (fun _ _ _ h => h) (by rfl) hHeld ?_ ?_
              rotate_left
              · (intro w hSw; (try dsimp only at hSw); go_split_ands; go_simp; try with_reducible rfl)
              (try simp only [Act.put, List.setIfInBounds_toArray, List.set_cons_zero, List.set_cons_succ])
              refine anyH_one 7 rfl (by kernel_rfl) (fun K hK => ?_)
              go_simp
              refine (pairDisk_calls (HPV.out.below (Below.refl V.heap.size V).drew) x.b _ (Kd.mono _ (fun k hk _ h => by have := (HF.out k h).1; have hk' : k < w.heap.size := hk; omega) (Kd.below HKbV.out (Below.refl V.heap.size V).drew))).mono ?_
              rintro e0_ u1 ⟨rfl, hp1, hm1⟩
              rw [HAP.out.1]
              have hm1' : Mod F V u1 := (Mod.of_below (Below.refl V.heap.size V).drew).trans hm1 (fun _ _ h => h)
              have HQ1 := hid (ps_prog (B := w.heap.size) (W := V) (T := T) (hp1.mono (fun k _ h => h)) hm1' HWV.out HRV.out HF.out HT.out HNF.out (by omega))
              have hs1 := hm1'.size
              have HM1 := hid hm1'
              have HX1 := hid ((hm1'.block wr.heap.size hxV (fun h => hFx h)).trans HXV.out)
              have HKb1 := hid (show Kd.u8.slice.K u1 (fun k => k < w.heap.size) x.b [.slice D x.b.length d] from Kd.mod HKbV.out hm1' (fun k _ h1 h2 => by have := (HF.out k h2).1; have h1' : k < w.heap.size := h1; omega))
              clear hp1 hm1 hm1'
              have px := (cells_of_block (HX1.out)).1
              have p0 := px 0 (.int .i64 x.op) rfl
              have p9 := px 9 (.slice D x.b.length d) rfl
              clear px
              go_simp
              refine hK.out _ _ ⟨p0, p9, conv_u8 (Kd.any HKb1.out)⟩ (fun hHeld => ?_)
              clear hK K
              (try simp only [Act.put, List.setIfInBounds_toArray, List.set_cons_zero, List.set_cons_succ])
              clear p0 p9
              refine anyH_one 11 rfl (by kernel_rfl) (fun K hK => ?_)
              go_simp
              refine (r16Append_calls w2.heap.size RR x.b _ HQ1.out.2.2.1 hr16 (by have := HBX.out; omega)).mono ?_
              rintro e1_ u2 ⟨rfl, hr2, hm2⟩
              have hs2 := hm2.size
              have HR2 := hid hr2
              have HM2' := hid hm2
              have HX2 := hid ((hm2.block wr.heap.size (Nat.lt_of_lt_of_le hxV hs1) (fun h => hxg (.inl h))).trans HX1.out)
              have HKb2 := hid (show Kd.u8.slice.K u2 (fun k => k < w.heap.size) x.b [.slice D x.b.length d] from Kd.mod HKb1.out hm2 (fun k _ h1 h2 => by have h1' : k < w.heap.size := h1; omega))
              clear hr2 hm2
              have px := (cells_of_block (HX2.out)).1
              have p0 := px 0 (.int .i64 x.op) rfl
              have p9 := px 9 (.slice D x.b.length d) rfl
              clear px
              go_simp
              refine hK.out _ _ ⟨p0, p9, conv_u8 (Kd.any HKb2.out)⟩ (fun hHeld => ?_)
              clear hK K
              (try simp only [Act.put, List.setIfInBounds_toArray, List.set_cons_zero, List.set_cons_succ])
              clear p0 p9
              refine anyH_take 12 (v := ?_) rfl (by kernel_rfl) (by kernel_rfl) (by kernel_rfl) (fun _ _ _ h => h) (by rfl) hHeld ?_ ?_
              rotate_left
              · (intro w hSw; (try dsimp only at hSw); go_split_ands; go_simp; try with_reducible rfl)
              (try simp only [Act.put, List.setIfInBounds_toArray, List.set_cons_zero, List.set_cons_succ])
              refine anyH_take 13 (v := ?_) rfl (by kernel_rfl) (by kernel_rfl) (by kernel_rfl) (fun _ _ _ h => h) (by rfl) hHeld ?_ ?_
              rotate_left
              · (intro w hSw; (try dsimp only at hSw); go_split_ands; go_simp; try with_reducible rfl)
              (try simp only [Act.put, List.setIfInBounds_toArray, List.set_cons_zero, List.set_cons_succ])
              refine wpAnyH_done (by kernel_rfl) ?_ _
              clear hHeld q3_
              clear q0 q9 y0 y1
              have HF2 := hid (show ∀ k, (F k ∨ V.heap.size ≤ k ∧ k < u1.heap.size) → w.heap.size ≤ k ∧ k < u2.heap.size from fun k h => by have := HQ1.out.2.2.2.1 k h; omega)
              go_wp2_with fail
              refine (pairOpen_calls (HQ1.out.1.move (fun j hj h => HM2'.out.block j hj (fun e => by subst e; exact HQ1.out.2.2.2.2.2 h)))).mono ?_
              rintro e2_ u3 ⟨gb, rfl, _, hq3, hm3⟩
              have s3 := hm3.size
              have HM3_ := hid hm3
              have HQ3 := hid hq3
              have HR3 := hid ((HR2.out).mod hm3 (HQ1.out.2.2.2.2.2))
              clear hq3 hm3
              go_wp2_with fail
              refine (rOpen19_calls w2.heap.size (RR.append x.b).1 _ HR3.out HROK2.out).mono ?_
              rintro e3_ u4 ⟨gx, rfl, hw4, hr4, hm4⟩
              have s4 := hm4.size
              have HW4 := hid hw4
              have HR4 := hid hr4
              have HM4_ := hid hm4
              clear hw4 hr4 hm4
              go_wp2_with fail
              go_meet
              have hab : (DD.append x.b).1.b = (RR.append x.b).1.b := (HAP.out.2).1
              have hrb := recsS_bytes (RR.append x.b).1.b
              have hrl : (RR.append x.b).1.b.length ≤ 65536 := by have h1 := (HROK2.out).2.1; have h2 := (HROK2.out).2.2; omega
              rw [hab] at HQ3
              refine ⟨gb, gx, rfl, rfl, ps_open (D := (DD.append x.b).1) (R := (RR.append x.b).1) (F := fun k => F k ∨ V.heap.size ≤ k ∧ k < u1.heap.size) (U := u2) (q := (recsS (RR.append x.b).1.b).2) ?_ HM3_.out HW4.out HR4.out HM4_.out (HAP.out.2) (HF2.out) (by omega) (HQ1.out.2.2.2.2.2) hgmB (by omega) hrb.2.2.1 (by have := hrb.2.2.2; have := hrb.2.1; omega), ?_⟩
              · rw [hab]; exact HQ3.out
              · exact below_mod (below_mod ((below_mod (below_mod bV.out HM1.out (fun j h => (HF.out j h).1) (by omega)) HM2'.out (fun j h => by omega) (by omega))) HM3_.out (fun j h => ((HF2.out) j h).1) (by omega)) HM4_.out (fun j h => by omega) (by omega)
            · have e3 : (x.op == (3 : Int)) = false := by rw [beq_eq_false_iff_ne]; exact hop3
              clear hop3
              have hsd : V.drew.heap.size = V.heap.size := rfl
              go_wp2_with fail
              refine wp_region_held_drew (S := fun w' => w'.cell? ⟨wr.heap.size, 0, none⟩ = some (.int .i64 x.op)) (by kernel_rfl) q0 (fun hHeld => ?_)
              refine anyH_take 0 (v := ?_) rfl (by kernel_rfl) (by kernel_rfl) (by kernel_rfl) (fun _ _ _ h => h) (by rfl) hHeld ?_ ?_
              rotate_left
              · (intro w hSw; (try dsimp only at hSw); go_split_ands; go_simp; try with_reducible rfl)
              (try simp only [Act.put, List.setIfInBounds_toArray, List.set_cons_zero, List.set_cons_succ])
              refine anyH_take 1 (v := ?_) rfl (by kernel_rfl) (by kernel_rfl) (by kernel_rfl) (fun _ _ _ h => h) (by rfl) hHeld ?_ ?_
              rotate_left
              · (intro w hSw; (try dsimp only at hSw); go_split_ands; go_simp; try with_reducible rfl)
              (try simp only [Act.put, List.setIfInBounds_toArray, List.set_cons_zero, List.set_cons_succ])
              refine anyH_take 2 (v := ?_) rfl (by kernel_rfl) (by kernel_rfl) (by kernel_rfl) (fun _ _ _ h => h) (by rfl) hHeld ?_ ?_
              rotate_left
              · (intro w hSw; (try dsimp only at hSw); go_split_ands; go_simp; try with_reducible rfl)
              (try simp only [Act.put, List.setIfInBounds_toArray, List.set_cons_zero, List.set_cons_succ])
              refine anyH_take 3 (v := ?_) rfl (by kernel_rfl) (by kernel_rfl) (by kernel_rfl) (fun _ _ _ h => h) (by rfl) hHeld ?_ ?_
              rotate_left
              · (intro w hSw; (try dsimp only at hSw); go_split_ands; go_simp; try with_reducible rfl)
              (try simp only [Act.put, List.setIfInBounds_toArray, List.set_cons_zero, List.set_cons_succ])
              (try simp only [e3])
              refine anyH_skip 4 rfl (by kernel_rfl) (by kernel_rfl) (by kernel_rfl) (fun _ _ _ h => h) (by rfl) hHeld ?_
              (try simp only [Act.put, List.setIfInBounds_toArray, List.set_cons_zero, List.set_cons_succ])
              refine anyH_skip 5 rfl (by kernel_rfl) (by kernel_rfl) (by kernel_rfl) (fun _ _ _ h => h) (by rfl) hHeld ?_
              (try simp only [Act.put, List.setIfInBounds_toArray, List.set_cons_zero, List.set_cons_succ])
              refine anyH_skip 6 rfl (by kernel_rfl) (by kernel_rfl) (by kernel_rfl) (fun _ _ _ h => h) (by rfl) hHeld ?_
              (try simp only [Act.put, List.setIfInBounds_toArray, List.set_cons_zero, List.set_cons_succ])
              refine anyH_skip 7 rfl (by kernel_rfl) (by kernel_rfl) (by kernel_rfl) (fun _ _ _ h => h) (by rfl) hHeld ?_
              (try simp only [Act.put, List.setIfInBounds_toArray, List.set_cons_zero, List.set_cons_succ])
              refine anyH_skip 8 rfl (by kernel_rfl) (by kernel_rfl) (by kernel_rfl) (fun _ _ _ h => h) (by rfl) hHeld ?_
              (try simp only [Act.put, List.setIfInBounds_toArray, List.set_cons_zero, List.set_cons_succ])
              refine anyH_skip 9 rfl (by kernel_rfl) (by kernel_rfl) (by kernel_rfl) (fun _ _ _ h => h) (by rfl) hHeld ?_
              (try simp only [Act.put, List.setIfInBounds_toArray, List.set_cons_zero, List.set_cons_succ])
              refine anyH_skip 10 rfl (by kernel_rfl) (by kernel_rfl) (by kernel_rfl) (fun _ _ _ h => h) (by rfl) hHeld ?_
              (try simp only [Act.put, List.setIfInBounds_toArray, List.set_cons_zero, List.set_cons_succ])
              refine anyH_skip 11 rfl (by kernel_rfl) (by kernel_rfl) (by kernel_rfl) (fun _ _ _ h => h) (by rfl) hHeld ?_
              (try simp only [Act.put, List.setIfInBounds_toArray, List.set_cons_zero, List.set_cons_succ])
              refine anyH_skip 12 rfl (by kernel_rfl) (by kernel_rfl) (by kernel_rfl) (fun _ _ _ h => h) (by rfl) hHeld ?_
              (try simp only [Act.put, List.setIfInBounds_toArray, List.set_cons_zero, List.set_cons_succ])
              refine anyH_take 13 (v := ?_) rfl (by kernel_rfl) (by kernel_rfl) (by kernel_rfl) (fun _ _ _ h => h) (by rfl) hHeld ?_ ?_
              rotate_left
              · (intro w hSw; (try dsimp only at hSw); go_split_ands; go_simp; try with_reducible rfl)
              (try simp only [Act.put, List.setIfInBounds_toArray, List.set_cons_zero, List.set_cons_succ])
              refine wpAnyH_done (by kernel_rfl) ?_ _
              clear hHeld
              clear q0 q9 y0 y1
              go_wp2_with fail
              refine (pairOpen_calls (HPV.out.below (Below.refl V.heap.size V).drew)).mono ?_
              rintro e2_ u3 ⟨gb, rfl, _, hq3, hm3⟩
              have s3 := hm3.size
              have HM3_ := hid hm3
              have HQ3 := hid hq3
              have HR3 := hid (((HRV.out.below (Below.refl V.heap.size V).drew)).mod hm3 (HNF.out))
              clear hq3 hm3
              go_wp2_with fail
              refine (rOpen19_calls w2.heap.size RR _ HR3.out hr16).mono ?_
              rintro e3_ u4 ⟨gx, rfl, hw4, hr4, hm4⟩
              have s4 := hm4.size
              have HW4 := hid hw4
              have HR4 := hid hr4
              have HM4_ := hid hm4
              clear hw4 hr4 hm4
              go_wp2_with fail
              go_meet
              have hab : DD.b = RR.b := (HAL.out).1
              have hrb := recsS_bytes RR.b
              have hrl : RR.b.length ≤ 65536 := by have h1 := (hr16).2.1; have h2 := (hr16).2.2; omega
              rw [hab] at HQ3
              refine ⟨gb, gx, rfl, rfl, ps_open (D := DD) (R := RR) (F := F) (U := V.drew) (q := (recsS RR.b).2) ?_ HM3_.out HW4.out HR4.out HM4_.out (HAL.out) (HF.out) (by omega) (HNF.out) hgmB (by omega) hrb.2.2.1 (by have := hrb.2.2.2; have := hrb.2.1; omega), ?_⟩
              · rw [hab]; exact HQ3.out
              · exact below_mod (below_mod (bV.out.drew) HM3_.out (fun j h => ((HF.out) j h).1) (by omega)) HM4_.out (fun j h => by omega) (by omega)
      case rest =>
        obtain ⟨ga', gw', rfl, rfl, HPx, hbx⟩ := hcut
        obtain ⟨D2, R2, l2, dn, F2, T2, hP2, hW2, hR2, hA2, _, _, _, _, _, _, _, hok2, _⟩ := HPx.out
        have HOK3 := hid hok2
        have HP2 := hid hP2
        obtain ⟨_, hll, v2, hgx, Aw, cw, he2, hcw, hmw, hrw⟩ := hW2
        cases he2
        have HKW := hid (show Kd.recK.slice.K wc Any l2 [.slice Aw l2.length cw] from Kd.any ⟨Aw, cw, rfl, hcw, hmw, hrw⟩)
        have hwc1 := (cells_of_block hgx).1 1 (.slice Aw l2.length cw) rfl
        have hwc2 := (cells_of_block hgx).1 2 (.bool dn) rfl
        obtain ⟨m0, m1, _, _, _⟩ := hR2.cells
        have HCB := hid (show ∀ w', Below wc.heap.size wc w' → w'.cell? ⟨gw', 1, none⟩ = some (.slice Aw l2.length cw) ∧ w'.cell? ⟨gw', 2, none⟩ = some (.bool dn) ∧ w'.cell? ⟨w2.heap.size, 0, none⟩ = some (.string (mkB R2.b)) ∧ w'.cell? ⟨w2.heap.size, 1, none⟩ = some (.int .i64 R2.room) from
          fun w' h => ⟨cell_keep h hwc1, cell_keep h hwc2, cell_keep h m0, cell_keep h m1⟩)
        have HBW := hid hbx
        have hdb : D2.b = R2.b := hA2.1
        have hdr : D2.room = R2.room := hA2.2.1
        have hrk := hA2.ok hP2.ok
        have hwr : IntKind.i64.wrap (R2.room - (R2.b.length : Int)) = R2.room - R2.b.length := IntWalk.i64_in _ (by have := hrk.1; have := hrk.2.1; have := hrk.2.2; omega)
        have HDB := hid hdb
        have HDR := hid hdr
        clear hrw hmw hcw hgx hwc1 hwc2 m0 m1 hok2 hP2 hR2 hA2 hbx hdb hdr hrk
        go_wp2_with fail
        refine wp_region_held_drew (S := fun w' => w'.cell? ⟨gw', 1, none⟩ = some (.slice Aw l2.length cw) ∧ w'.cell? ⟨gw', 2, none⟩ = some (.bool dn) ∧ w'.cell? ⟨w2.heap.size, 0, none⟩ = some (.string (mkB R2.b)) ∧ w'.cell? ⟨w2.heap.size, 1, none⟩ = some (.int .i64 R2.room)) (by kernel_rfl) (HCB.out _ (Below.refl wc.heap.size wc).drew) (fun hHeld => ?_)
        refine anyH_take 0 (v := ?_) rfl (by kernel_rfl) (by kernel_rfl) (by kernel_rfl) (fun _ _ _ h => h) (by rfl) hHeld ?_ ?_
        rotate_left
        · (intro w hSw; (try dsimp only at hSw); go_split_ands; go_simp; try with_reducible rfl)
        (try simp only [Act.put, List.setIfInBounds_toArray, List.set_cons_zero, List.set_cons_succ])
        refine anyH_take 2 (v := ?_) rfl (by kernel_rfl) (by kernel_rfl) (by kernel_rfl) (fun _ _ _ h => h) (by rfl) hHeld ?_ ?_
        rotate_left
        · (intro w hSw; (try dsimp only at hSw); go_split_ands; go_simp; try with_reducible rfl)
        (try simp only [Act.put, List.setIfInBounds_toArray, List.set_cons_zero, List.set_cons_succ])
        refine anyH_take 3 (v := ?_) rfl (by kernel_rfl) (by kernel_rfl) (by kernel_rfl) (fun _ _ _ h => h) (by rfl) hHeld ?_ ?_
        rotate_left
        · (intro w hSw; (try dsimp only at hSw); go_split_ands; go_simp; try with_reducible rfl)
        (try simp only [Act.put, List.setIfInBounds_toArray, List.set_cons_zero, List.set_cons_succ])
        refine anyH_take 4 (v := ?_) rfl (by kernel_rfl) (by kernel_rfl) (by kernel_rfl) (fun _ _ _ h => h) (by rfl) hHeld ?_ ?_
        rotate_left
        · (intro w hSw; (try dsimp only at hSw); go_split_ands; go_simp; try with_reducible rfl)
        (try simp only [Act.put, List.setIfInBounds_toArray, List.set_cons_zero, List.set_cons_succ])
        refine anyH_take 5 (v := ?_) rfl (by kernel_rfl) (by kernel_rfl) (by kernel_rfl) (fun _ _ _ h => h) (by rfl) hHeld ?_ ?_
        rotate_left
        · (intro w hSw; (try dsimp only at hSw); go_split_ands; go_simp; try with_reducible rfl)
        (try simp only [Act.put, List.setIfInBounds_toArray, List.set_cons_zero, List.set_cons_succ])
        refine anyH_one 1 rfl (by kernel_rfl) (fun K hK => ?_)
        go_simp
        refine (pairRecords_calls (HP2.out.below (Below.refl wc.heap.size wc).drew) HOK3.out).mono ?_
        rintro e_ u1 ⟨A7, n7, c7, rfl, hO7, hb1⟩
        have HK7 := hid (show Kd.recK.slice.K u1 Any l2 [.slice A7 n7 c7] from Kd.any (Own.K hO7))
        have U1 := hid (show Below wc.heap.size wc u1 from bThen (Below.refl wc.heap.size wc).drew hb1)
        clear hO7 hb1
        go_simp
        refine hK.out _ _ (HCB.out _ U1.out) (fun hHeld => ?_)
        clear hK K
        (try simp only [Act.put, List.setIfInBounds_toArray, List.set_cons_zero, List.set_cons_succ])
        refine anyH_one 6 rfl (by kernel_rfl) (fun K hK => ?_)
        go_simp
        refine (rfSame18_calls l2 l2 _ _ _ HK7.out (Kd.below HKW.out U1.out)).mono ?_
        rintro e_ u2 ⟨rfl, hb2⟩
        rw [show decide (l2 = l2) = true from decide_eq_true rfl]
        have U2 := hid (show Below wc.heap.size wc u2 from bThen U1.out hb2)
        clear hb2
        go_simp
        refine hK.out _ _ (HCB.out _ U2.out) (fun hHeld => ?_)
        clear hK K
        (try simp only [Act.put, List.setIfInBounds_toArray, List.set_cons_zero, List.set_cons_succ])
        refine anyH_take 7 (v := ?_) rfl (by kernel_rfl) (by kernel_rfl) (by kernel_rfl) (fun _ _ _ h => h) (by rfl) (HCB.out _ U2.out) ?_ ?_
        rotate_left
        · (intro w hSw; (try dsimp only at hSw); go_split_ands; go_simp; try with_reducible rfl)
        (try simp only [Act.put, List.setIfInBounds_toArray, List.set_cons_zero, List.set_cons_succ])
        refine anyH_take 8 (v := ?_) rfl (by kernel_rfl) (by kernel_rfl) (by kernel_rfl) (fun _ _ _ h => h) (by rfl) (HCB.out _ U2.out) ?_ ?_
        rotate_left
        · (intro w hSw; (try dsimp only at hSw); go_split_ands; go_simp; try with_reducible rfl)
        (try simp only [Act.put, List.setIfInBounds_toArray, List.set_cons_zero, List.set_cons_succ])
        refine anyH_take 9 (v := ?_) rfl (by kernel_rfl) (by kernel_rfl) (by kernel_rfl) (fun _ _ _ h => h) (by rfl) (HCB.out _ U2.out) ?_ ?_
        rotate_left
        · (intro w hSw; (try dsimp only at hSw); go_split_ands; go_simp; try with_reducible rfl)
        (try simp only [Act.put, List.setIfInBounds_toArray, List.set_cons_zero, List.set_cons_succ])
        refine anyH_take 11 (v := ?_) rfl (by kernel_rfl) (by kernel_rfl) (by kernel_rfl) (fun _ _ _ h => h) (by rfl) (HCB.out _ U2.out) ?_ ?_
        rotate_left
        · (intro w hSw; (try dsimp only at hSw); go_split_ands; go_simp; try with_reducible rfl)
        (try simp only [Act.put, List.setIfInBounds_toArray, List.set_cons_zero, List.set_cons_succ])
        refine anyH_take 12 (v := ?_) rfl (by kernel_rfl) (by kernel_rfl) (by kernel_rfl) (fun _ _ _ h => h) (by rfl) (HCB.out _ U2.out) ?_ ?_
        rotate_left
        · (intro w hSw; (try dsimp only at hSw); go_split_ands; go_simp; try with_reducible rfl)
        (try simp only [Act.put, List.setIfInBounds_toArray, List.set_cons_zero, List.set_cons_succ])
        refine anyH_take 13 (v := ?_) rfl (by kernel_rfl) (by kernel_rfl) (by kernel_rfl) (fun _ _ _ h => h) (by rfl) (HCB.out _ U2.out) ?_ ?_
        rotate_left
        · (intro w hSw; (try dsimp only at hSw); go_split_ands; go_simp; try with_reducible rfl)
        (try simp only [Act.put, List.setIfInBounds_toArray, List.set_cons_zero, List.set_cons_succ])
        refine anyH_take 14 (v := ?_) rfl (by kernel_rfl) (by kernel_rfl) (by kernel_rfl) (fun _ _ _ h => h) (by rfl) (HCB.out _ U2.out) ?_ ?_
        rotate_left
        · (intro w hSw; (try dsimp only at hSw); go_split_ands; go_simp; try with_reducible rfl)
        (try simp only [Act.put, List.setIfInBounds_toArray, List.set_cons_zero, List.set_cons_succ])
        refine anyH_take 15 (v := ?_) rfl (by kernel_rfl) (by kernel_rfl) (by kernel_rfl) (fun _ _ _ h => h) (by rfl) (HCB.out _ U2.out) ?_ ?_
        rotate_left
        · (intro w hSw; (try dsimp only at hSw); go_split_ands; go_simp; try with_reducible rfl)
        (try simp only [Act.put, List.setIfInBounds_toArray, List.set_cons_zero, List.set_cons_succ])
        refine anyH_one 10 rfl (by kernel_rfl) (fun K hK => ?_)
        go_simp
        refine (pairLen_calls (HP2.out.below U2.out)).mono ?_
        rintro e_ u3 ⟨rfl, rfl⟩
        go_simp
        refine hK.out _ _ (HCB.out _ U2.out) (fun hHeld => ?_)
        clear hK K
        (try simp only [Act.put, List.setIfInBounds_toArray, List.set_cons_zero, List.set_cons_succ])
        refine anyH_take 16 (v := ?_) rfl (by kernel_rfl) (by kernel_rfl) (by kernel_rfl) (fun _ _ _ h => h) (by rfl) (HCB.out _ U2.out) ?_ ?_
        rotate_left
        · (intro w hSw; (try dsimp only at hSw); go_split_ands; go_simp; try with_reducible rfl)
        (try simp only [Act.put, List.setIfInBounds_toArray, List.set_cons_zero, List.set_cons_succ])
        refine anyH_take 17 (v := ?_) rfl (by kernel_rfl) (by kernel_rfl) (by kernel_rfl) (fun _ _ _ h => h) (by rfl) (HCB.out _ U2.out) ?_ ?_
        rotate_left
        · (intro w hSw; (try dsimp only at hSw); go_split_ands; go_simp; try with_reducible rfl)
        (try simp only [Act.put, List.setIfInBounds_toArray, List.set_cons_zero, List.set_cons_succ])
        refine anyH_take 18 (v := ?_) rfl (by kernel_rfl) (by kernel_rfl) (by kernel_rfl) (fun _ _ _ h => h) (by rfl) (HCB.out _ U2.out) ?_ ?_
        rotate_left
        · (intro w hSw; (try dsimp only at hSw); go_split_ands; go_simp; try with_reducible rfl)
        (try simp only [Act.put, List.setIfInBounds_toArray, List.set_cons_zero, List.set_cons_succ])
        refine anyH_take 19 (v := ?_) rfl (by kernel_rfl) (by kernel_rfl) (by kernel_rfl) (fun _ _ _ h => h) (by rfl) (HCB.out _ U2.out) ?_ ?_
        rotate_left
        · (intro w hSw; (try dsimp only at hSw); go_split_ands; go_simp; try with_reducible rfl)
        (try simp only [Act.put, List.setIfInBounds_toArray, List.set_cons_zero, List.set_cons_succ])
        refine anyH_take 21 (v := ?_) rfl (by kernel_rfl) (by kernel_rfl) (by kernel_rfl) (fun _ _ _ h => h) (by rfl) (HCB.out _ U2.out) ?_ ?_
        rotate_left
        · (intro w hSw; (try dsimp only at hSw); go_split_ands; go_simp; try with_reducible rfl)
        (try simp only [Act.put, List.setIfInBounds_toArray, List.set_cons_zero, List.set_cons_succ])
        refine anyH_take 22 (v := ?_) rfl (by kernel_rfl) (by kernel_rfl) (by kernel_rfl) (fun _ _ _ h => h) (by rfl) (HCB.out _ U2.out) ?_ ?_
        rotate_left
        · (intro w hSw; (try dsimp only at hSw); go_split_ands; go_simp; try with_reducible rfl)
        (try simp only [Act.put, List.setIfInBounds_toArray, List.set_cons_zero, List.set_cons_succ])
        refine anyH_take 23 (v := ?_) rfl (by kernel_rfl) (by kernel_rfl) (by kernel_rfl) (fun _ _ _ h => h) (by rfl) (HCB.out _ U2.out) ?_ ?_
        rotate_left
        · (intro w hSw; (try dsimp only at hSw); go_split_ands; go_simp; try with_reducible rfl)
        (try simp only [Act.put, List.setIfInBounds_toArray, List.set_cons_zero, List.set_cons_succ])
        refine anyH_take 24 (v := ?_) rfl (by kernel_rfl) (by kernel_rfl) (by kernel_rfl) (fun _ _ _ h => h) (by rfl) (HCB.out _ U2.out) ?_ ?_
        rotate_left
        · (intro w hSw; (try dsimp only at hSw); go_split_ands; go_simp; try with_reducible rfl)
        (try simp only [Act.put, List.setIfInBounds_toArray, List.set_cons_zero, List.set_cons_succ])
        refine anyH_one 20 rfl (by kernel_rfl) (fun K hK => ?_)
        go_simp
        refine (pairDown_calls (HP2.out.below U2.out)).mono ?_
        rintro e_ u3 ⟨rfl, rfl⟩
        go_simp
        refine hK.out _ _ (HCB.out _ U2.out) (fun hHeld => ?_)
        clear hK K
        (try simp only [Act.put, List.setIfInBounds_toArray, List.set_cons_zero, List.set_cons_succ])
        refine anyH_take 25 (v := ?_) rfl (by kernel_rfl) (by kernel_rfl) (by kernel_rfl) (fun _ _ _ h => h) (by rfl) (HCB.out _ U2.out) ?_ ?_
        rotate_left
        · (intro w hSw; (try dsimp only at hSw); go_split_ands; go_simp; try with_reducible rfl)
        (try simp only [Act.put, List.setIfInBounds_toArray, List.set_cons_zero, List.set_cons_succ])
        (try simp only [show (dn != dn) = false from by cases dn <;> rfl])
        refine anyH_take 26 (v := ?_) rfl (by kernel_rfl) (by kernel_rfl) (by kernel_rfl) (fun _ _ _ h => h) (by rfl) (HCB.out _ U2.out) ?_ ?_
        rotate_left
        · (intro w hSw; (try dsimp only at hSw); go_split_ands; go_simp; try with_reducible rfl)
        (try simp only [Act.put, List.setIfInBounds_toArray, List.set_cons_zero, List.set_cons_succ])
        refine anyH_take 27 (v := ?_) rfl (by kernel_rfl) (by kernel_rfl) (by kernel_rfl) (fun _ _ _ h => h) (by rfl) (HCB.out _ U2.out) ?_ ?_
        rotate_left
        · (intro w hSw; (try dsimp only at hSw); go_split_ands; go_simp; try with_reducible rfl)
        (try simp only [Act.put, List.setIfInBounds_toArray, List.set_cons_zero, List.set_cons_succ])
        refine anyH_take 28 (v := ?_) rfl (by kernel_rfl) (by kernel_rfl) (by kernel_rfl) (fun _ _ _ h => h) (by rfl) (HCB.out _ U2.out) ?_ ?_
        rotate_left
        · (intro w hSw; (try dsimp only at hSw); go_split_ands; go_simp; try with_reducible rfl)
        (try simp only [Act.put, List.setIfInBounds_toArray, List.set_cons_zero, List.set_cons_succ])
        refine anyH_take 30 (v := ?_) rfl (by kernel_rfl) (by kernel_rfl) (by kernel_rfl) (fun _ _ _ h => h) (by rfl) (HCB.out _ U2.out) ?_ ?_
        rotate_left
        · (intro w hSw; (try dsimp only at hSw); go_split_ands; go_simp; try with_reducible rfl)
        (try simp only [Act.put, List.setIfInBounds_toArray, List.set_cons_zero, List.set_cons_succ])
        refine anyH_take 31 (v := ?_) rfl (by kernel_rfl) (by kernel_rfl) (by kernel_rfl) (fun _ _ _ h => h) (by rfl) (HCB.out _ U2.out) ?_ ?_
        rotate_left
        · (intro w hSw; (try dsimp only at hSw); go_split_ands; go_simp; try with_reducible rfl)
        (try simp only [Act.put, List.setIfInBounds_toArray, List.set_cons_zero, List.set_cons_succ])
        refine anyH_take 32 (v := ?_) rfl (by kernel_rfl) (by kernel_rfl) (by kernel_rfl) (fun _ _ _ h => h) (by rfl) (HCB.out _ U2.out) ?_ ?_
        rotate_left
        · (intro w hSw; (try dsimp only at hSw); go_split_ands; go_simp; try with_reducible rfl)
        (try simp only [Act.put, List.setIfInBounds_toArray, List.set_cons_zero, List.set_cons_succ])
        refine anyH_take 33 (v := ?_) rfl (by kernel_rfl) (by kernel_rfl) (by kernel_rfl) (fun _ _ _ h => h) (by rfl) (HCB.out _ U2.out) ?_ ?_
        rotate_left
        · (intro w hSw; (try dsimp only at hSw); go_split_ands; go_simp; try with_reducible rfl)
        (try simp only [Act.put, List.setIfInBounds_toArray, List.set_cons_zero, List.set_cons_succ])
        refine anyH_take 34 (v := ?_) rfl (by kernel_rfl) (by kernel_rfl) (by kernel_rfl) (fun _ _ _ h => h) (by rfl) (HCB.out _ U2.out) ?_ ?_
        rotate_left
        · (intro w hSw; (try dsimp only at hSw); go_split_ands; go_simp; try with_reducible rfl)
        (try simp only [Act.put, List.setIfInBounds_toArray, List.set_cons_zero, List.set_cons_succ])
        refine anyH_take 35 (v := ?_) rfl (by kernel_rfl) (by kernel_rfl) (by kernel_rfl) (fun _ _ _ h => h) (by rfl) (HCB.out _ U2.out) ?_ ?_
        rotate_left
        · (intro w hSw; (try dsimp only at hSw); go_split_ands; go_simp; try with_reducible rfl)
        (try simp only [Act.put, List.setIfInBounds_toArray, List.set_cons_zero, List.set_cons_succ])
        refine anyH_one 29 rfl (by kernel_rfl) (fun K hK => ?_)
        go_simp
        refine (pairFree_calls (HP2.out.below U2.out)).mono ?_
        rintro e_ u3 ⟨rfl, n3, rfl⟩
        rw [HDB.out, HDR.out]
        have U3 := hid (show Below wc.heap.size wc (u2.drewN n3) from below_drewN U2.out n3)
        go_simp
        refine hK.out _ _ (HCB.out _ U3.out) (fun hHeld => ?_)
        clear hK K
        (try simp only [Act.put, List.setIfInBounds_toArray, List.set_cons_zero, List.set_cons_succ])
        refine anyH_take 36 (v := ?_) rfl (by kernel_rfl) (by kernel_rfl) (by kernel_rfl) (fun _ _ _ h => h) (by rfl) (HCB.out _ U3.out) ?_ ?_
        rotate_left
        · (intro w hSw; (try dsimp only at hSw); go_split_ands; go_simp; try with_reducible rfl)
        (try simp only [Act.put, List.setIfInBounds_toArray, List.set_cons_zero, List.set_cons_succ])
        (try simp only [show (mkB R2.b).size = R2.b.length from by simp [mkB, ByteArray.size], hwr, bne_self_eq_false])
        refine anyH_take 37 (v := ?_) rfl (by kernel_rfl) (by kernel_rfl) (by kernel_rfl) (fun _ _ _ h => h) (by rfl) (HCB.out _ U3.out) ?_ ?_
        rotate_left
        · (intro w hSw; (try dsimp only at hSw); go_split_ands; go_simp; try with_reducible rfl)
        (try simp only [Act.put, List.setIfInBounds_toArray, List.set_cons_zero, List.set_cons_succ])
        refine anyH_take 38 (v := ?_) rfl (by kernel_rfl) (by kernel_rfl) (by kernel_rfl) (fun _ _ _ h => h) (by rfl) (HCB.out _ U3.out) ?_ ?_
        rotate_left
        · (intro w hSw; (try dsimp only at hSw); go_split_ands; go_simp; try with_reducible rfl)
        (try simp only [Act.put, List.setIfInBounds_toArray, List.set_cons_zero, List.set_cons_succ])
        refine anyH_take 39 (v := ?_) rfl (by kernel_rfl) (by kernel_rfl) (by kernel_rfl) (fun _ _ _ h => h) (by rfl) (HCB.out _ U3.out) ?_ ?_
        rotate_left
        · (intro w hSw; (try dsimp only at hSw); go_split_ands; go_simp; try with_reducible rfl)
        (try simp only [Act.put, List.setIfInBounds_toArray, List.set_cons_zero, List.set_cons_succ])
        refine anyH_take 42 (v := ?_) rfl (by kernel_rfl) (by kernel_rfl) (by kernel_rfl) (fun _ _ _ h => h) (by rfl) (HCB.out _ U3.out) ?_ ?_
        rotate_left
        · (intro w hSw; (try dsimp only at hSw); go_split_ands; go_simp; try with_reducible rfl)
        (try simp only [Act.put, List.setIfInBounds_toArray, List.set_cons_zero, List.set_cons_succ])
        refine anyH_take 43 (v := ?_) rfl (by kernel_rfl) (by kernel_rfl) (by kernel_rfl) (fun _ _ _ h => h) (by rfl) (HCB.out _ U3.out) ?_ ?_
        rotate_left
        · (intro w hSw; (try dsimp only at hSw); go_split_ands; go_simp; try with_reducible rfl)
        (try simp only [Act.put, List.setIfInBounds_toArray, List.set_cons_zero, List.set_cons_succ])
        refine anyH_one 40 rfl (by kernel_rfl) (fun K hK => ?_)
        go_simp
        refine (pairBytes_calls (HP2.out.below U3.out)).mono ?_
        rintro e_ u4 ⟨A8, c8, rfl, _, hO8, hb4⟩
        rw [HDB.out] at hO8 ⊢
        have HCV := hid (show ∀ W, Below u4.heap.size u4 W → (convert 27 9 (.slice (some ⟨A8, 0, none⟩) R2.b.length c8)).run Try.prog W = .ok (.string (mkB R2.b)) W from fun W hW => conv_u8 (Kd.any (Own.K (hO8.below hW))))
        have U4 := hid (show Below wc.heap.size wc u4 from bThen U3.out hb4)
        clear hO8 hb4
        go_simp
        refine hK.out _ _ (HCB.out _ U4.out) (fun hHeld => ?_)
        clear hK K
        (try simp only [Act.put, List.setIfInBounds_toArray, List.set_cons_zero, List.set_cons_succ])
        refine wpAnyH_more (S1 := fun w' => (w'.cell? ⟨gw', 1, none⟩ = some (.slice Aw l2.length cw) ∧ w'.cell? ⟨gw', 2, none⟩ = some (.bool dn) ∧ w'.cell? ⟨w2.heap.size, 0, none⟩ = some (.string (mkB R2.b)) ∧ w'.cell? ⟨w2.heap.size, 1, none⟩ = some (.int .i64 R2.room)) ∧ (convert 27 9 (.slice (some ⟨A8, 0, none⟩) R2.b.length c8)).run Try.prog w' = .ok (.string (mkB R2.b)) w') (fun _ h => h.1) _ _ _ _ ?_
        refine anyH_take 41 (v := ?_) rfl (by kernel_rfl) (by kernel_rfl) (by kernel_rfl) (fun _ _ _ h => h) (by rfl) ⟨HCB.out _ U4.out, HCV.out _ (Below.refl _ _)⟩ ?_ ?_
        rotate_left
        · (intro w hSw; (try dsimp only at hSw); go_split_ands; go_simp; try with_reducible rfl)
        (try simp only [Act.put, List.setIfInBounds_toArray, List.set_cons_zero, List.set_cons_succ])
        refine anyH_take 44 (v := ?_) rfl (by kernel_rfl) (by kernel_rfl) (by kernel_rfl) (fun _ _ _ h => h) (by rfl) ⟨HCB.out _ U4.out, HCV.out _ (Below.refl _ _)⟩ ?_ ?_
        rotate_left
        · (intro w hSw; (try dsimp only at hSw); go_split_ands; go_simp; try with_reducible rfl)
        (try simp only [Act.put, List.setIfInBounds_toArray, List.set_cons_zero, List.set_cons_succ])
        refine anyH_take 45 (v := ?_) rfl (by kernel_rfl) (by kernel_rfl) (by kernel_rfl) (fun _ _ _ h => h) (by rfl) ⟨HCB.out _ U4.out, HCV.out _ (Below.refl _ _)⟩ ?_ ?_
        rotate_left
        · (intro w hSw; (try dsimp only at hSw); go_split_ands; go_simp; try with_reducible rfl)
        (try simp only [Act.put, List.setIfInBounds_toArray, List.set_cons_zero, List.set_cons_succ])
        have U6 := U4
        refine wpAnyH_done (by kernel_rfl) ?_ _
        go_wp2
        go_roundw
        case rel => exact ⟨k + 1, ga', gw', by omega, rfl, rfl, by go_num, hid (PS.below HPx.out U6.out), bThen HBW.out U6.out⟩
        case measure => simp [intOf]; omega
    · obtain rfl : l.length = k := by omega
      have hgeI : ¬ (l.length : Int) < l.length := by omega
      go_wp2_with fail
      refine (nilOpen_calls _).mono ?_
      rintro e w6 ⟨rfl, rfl⟩
      go_wp2_with fail
      refine (nilAppend_calls ⟨3, 1, 0, 0, 0, 0, []⟩ none 0 0 _).mono ?_
      rintro e w6 ⟨rfl, hb6⟩
      have B6 := hid (bThen hbw hb6)
      clear hb6
      go_wp2_with fail
      refine (nilRecords_calls _).mono ?_
      rintro e w7 ⟨rfl, rfl⟩
      go_wp2_with fail
      refine (nilLen_calls _).mono ?_
      rintro e w7 ⟨rfl, rfl⟩
      go_wp2_with fail
      refine (nilFree_calls _).mono ?_
      rintro e w7 ⟨rfl, rfl⟩
      go_wp2_with fail
      refine (nilDown_calls _).mono ?_
      rintro e w7 ⟨rfl, rfl⟩
      go_wp2_with fail
      refine (works19_calls _).mono ?_
      rintro e w8 ⟨rfl, hb8⟩
      go_wp2
      go_ret
      exact ⟨rfl, bThen B6.out hb8⟩

theorem annalPlays_walk (W : World) (room : Int) (_h : (Lit.int .i64 room).wf = true) (l : List Act19) (v : Value) (hl : Kd.act19.slice.K W Any l [v]) (hok : (∀ y ∈ l, okAct19 y) ∧ l.length * 112 ≤ 140737488351232) :
    Calls Try.prog 11 #[.int .i64 room, v] W fun e W' => e = .returned (.bool true) ∧ Below W.heap.size W W' := by
  have hl2 := hl
  obtain ⟨L, e, he, _, _, _⟩ := hl2
  obtain rfl : v = .slice L l.length e := by simpa using he
  exact annalPlaysLaw_calls W room l L e hl hok.1
end Go.Proofs.Ytahhhnbpohcbfaa
