/- ledger.Open, Put. -/
import Derived.Test.YtkjncmmombkllaaLedg1
import Derived.Test.YtkjncmmombkllaaBase
namespace Go.Proofs.Ytkjncmmombkllaa
open Go.RowKit Go.Lib

/-- What a Put answers, and leaves. -/
structure GS where
  D : DiskS
  l : List RecS
  down : Bool
  b : List EntryS
  e : Int
def putG (D : DiskS) (l : List RecS) (down : Bool) (b : List EntryS) (room : Int) (x : RecS) : GS :=
  if down then ⟨D, l, down, b, 15⟩
  else if whyB b x ≠ 0 then ⟨D, l, down, b, whyB b x⟩
  else if x.kind = 1 ∧ room < keptL b + mostR x.job 0 x.needs then ⟨D, l, down, b, 7⟩
  else ⟨(anApp D l down x).1, (anApp D l down x).2.1, (anApp D l down x).2.2.1, if (anApp D l down x).2.2.2 = 0 then nextB b x else b, (anApp D l down x).2.2.2⟩
section
variable {w w1 : World} {F F' : Nat → Prop} {gl ga gd : Nat} {D : DiskS} {l : List RecS} {down : Bool} {b : List EntryS} {room : Int}
theorem LgAt.parts (h : LgAt w F gl ga gd D l down b room) : ∃ FP SB A c, Pair w FP ga gd D l down ∧ (∀ k, FP k → F k ∧ k < w.heap.size) ∧ F gl ∧ ¬ FP gl ∧ w.heap[gl]? = some (.cells #[.pointer (some ⟨ga, 0, none⟩), .slice A b.length c, .int .i64 room] 54 (0, 0)) ∧ Kd.entry.slice.K w SB b [.slice A b.length c] ∧ (∀ k, SB k → F k ∧ ¬ FP k ∧ k ≠ gl ∧ k < w.heap.size) := by
  obtain ⟨FP, SB, v, h1, h2, h3, h4, h5, h6, h7⟩ := h
  obtain ⟨A, c, he, _⟩ := id h6
  injection he with he _
  subst he
  exact ⟨fun k => FP k ∧ k < w.heap.size, fun k => SB k ∧ k < w.heap.size, A, c, h1.mono (fun k a b => ⟨b, a⟩), fun k hk => ⟨h2 k hk.1, hk.2⟩, h3, fun h => h4 h.1, h5, Kd.mono _ (fun k a b => ⟨a, b⟩) h6, fun k hk => ⟨(h7 k hk.1).1, fun h => (h7 k hk.1).2.1 h.1, (h7 k hk.1).2.2, hk.2⟩⟩
/-- Its annal has gone on. -/
theorem lg_annal {FP : Nat → Prop} {v : Value} {D' : DiskS} {l' : List RecS} {down' : Bool} {B : Nat} (hp : Pair w1 (fun k => FP k ∨ w.heap.size ≤ k) ga gd D' l' down') (hm : Mod FP w w1) (hF : ∀ k, FP k → F k ∧ k < w.heap.size) (h3 : F gl) (h4 : ¬ FP gl)
    (h5 : w.heap[gl]? = some (.cells #[.pointer (some ⟨ga, 0, none⟩), v, .int .i64 room] 54 (0, 0))) (hB : B ≤ w.heap.size) (u : Value) (b' : List EntryS) (SB' : Nat → Prop) (h6 : Kd.entry.slice.K w SB' b' [u]) (h7 : ∀ k, k < w.heap.size → SB' k → (F k ∨ B ≤ k) ∧ ¬ FP k ∧ k ≠ gl) :
    LgAt (w1.setCell ⟨gl, 1, none⟩ u) (fun k => F k ∨ B ≤ k) gl ga gd D' l' down' b' room := by
  have hgl := (Array.getElem?_eq_some_iff.1 h5).1
  have hs := hm.size
  obtain ⟨T, TD, a1, a2, a3, a4, a5⟩ := hp.mono (F' := fun k => FP k ∨ w.heap.size ≤ k ∧ k < w1.heap.size) (fun k hk h => h.elim .inl (fun h => .inr ⟨h, hk⟩))
  have hN : ∀ k, k ≠ gl → (w1.setCell ⟨gl, 1, none⟩ u).heap[k]? = w1.heap[k]? := fun k hk => Below.heap_setCell _ _ _ _ hk
  have hne : ∀ k, (FP k ∨ w.heap.size ≤ k ∧ k < w1.heap.size) → k ≠ gl := fun k hk e => by
    subst e
    rcases hk with hk | hk
    · exact h4 hk
    · omega
  refine ⟨fun k => FP k ∨ w.heap.size ≤ k ∧ k < w1.heap.size, fun k => SB' k ∧ k < w.heap.size, u, ⟨T, TD, a1, a2, a3, a4.move (fun k hk hT => hN k (hne k (a1 k hT))), a5.move (fun k hk hT => hN k (hne k (a2 k hT)))⟩, fun k hk => ?_, .inl h3, fun h => hne gl h rfl, ?_, ?_, fun k hk => ?_⟩
  · rcases hk with hk | hk
    · exact .inl (hF k hk).1
    · exact .inr (by omega)
  · have h := heap_set ((hm.block gl hgl h4).trans h5) 1 u
    simpa using h
  · exact Kd.entry.slice.move (fun k hk hl => (hN k (h7 k hk.2 hk.1).2.2).trans (hm.block k hk.2 (h7 k hk.2 hk.1).2.1)) (Kd.mono _ (fun k a b => ⟨a, b⟩) h6)
  · obtain ⟨q1, q2, q3⟩ := h7 k hk.2 hk.1
    exact ⟨q1, fun h => h.elim q2 (fun h => by have := hk.2; omega), q3⟩
theorem setCell_same {W : World} {g : Nat} {cs : Array Value} {t : TypeId} {fr : Nat × Nat} (h : W.heap[g]? = some (.cells cs t fr)) (j : Nat) (u : Value) (hu : cs[j]? = some u) : W.setCell ⟨g, j, none⟩ u = W := by
  have h2 := heap_set h j u
  have : cs.setIfInBounds j u = cs := by
    obtain ⟨hj, he⟩ := Array.getElem?_eq_some_iff.1 hu
    subst he
    apply Array.ext_getElem?
    intro k
    rw [Array.getElem?_setIfInBounds]
    split
    · rename_i e
      subst e
      simp [hj]
    · rfl
  rw [this] at h2
  have h3 : (W.setCell ⟨g, j, none⟩ u).heap = W.heap := by
    apply Array.ext_getElem?
    intro k
    by_cases hk : k = g
    · subst hk; exact h2.trans h.symm
    · exact Below.heap_setCell _ _ _ _ hk
  unfold World.setCell at h3 ⊢
  cases W
  simp only [World.mk.injEq, and_true] at h3 ⊢
  simpa using h3
end
set_option maxHeartbeats 4000000 in
set_option maxRecDepth 100000 in
theorem lput_nil (x : RecS) (XA : Option Addr) (xc : Nat) (w : World) : Calls Try.prog 9 #[.pointer none, .agg #[.int .i64 x.kind, .int .i64 x.job, .int .i64 x.task, .int .i64 x.worker, .int .i64 x.sched, .int .i64 x.epoch, .slice XA x.needs.length xc]] w fun e w' => e = .returned (.int .i64 1) ∧ Below w.heap.size w w' := by
  go_enter Try.func9, Try.ntmps9
  go_wp2
  go_ret
  exact ⟨rfl, bAlloc (Below.refl _ _) _⟩
set_option maxHeartbeats 4000000 in
set_option maxRecDepth 100000 in
theorem lput_calls {w : World} {F : Nat → Prop} {gl ga gd : Nat} {D : DiskS} {l : List RecS} {down : Bool} {b : List EntryS} {room : Int} (h : LgAt w F gl ga gd D l down b room) (hok : BOk b) (x : RecS) (XA : Option Addr) (xc : Nat) (hx : Kd.str.slice.K w (fun k => ¬ F k) x.needs [.slice XA x.needs.length xc]) (hll : l.length < 100000) :
    Calls Try.prog 9 #[.pointer (some ⟨gl, 0, none⟩), .agg #[.int .i64 x.kind, .int .i64 x.job, .int .i64 x.task, .int .i64 x.worker, .int .i64 x.sched, .int .i64 x.epoch, .slice XA x.needs.length xc]] w fun e w' => e = .returned (.int .i64 (putG D l down b room x).e) ∧ LgAt w' (fun k => F k ∨ w.heap.size ≤ k) gl ga gd (putG D l down b room x).D (putG D l down b room x).l (putG D l down b room x).down (putG D l down b room x).b room ∧ Mod F w w' := by
  obtain ⟨V, hV⟩ : ∃ V, V = w.alloc (.cells #[.int .i64 x.kind, .int .i64 x.job, .int .i64 x.task, .int .i64 x.worker, .int .i64 x.sched, .int .i64 x.epoch, .slice XA x.needs.length xc] 35) := ⟨_, rfl⟩
  have hb0 : Below w.heap.size w V := by rw [hV]; exact bAlloc (Below.refl _ _) _
  have HZ := hid (show V.heap[w.heap.size]? = some (.cells #[.int .i64 x.kind, .int .i64 x.job, .int .i64 x.task, .int .i64 x.worker, .int .i64 x.sched, .int .i64 x.epoch, .slice XA x.needs.length xc] 35 (0, 0)) by rw [hV]; exact heap_at rfl)
  have HVS := hid (show V.heap.size = w.heap.size + 1 by rw [hV]; simp)
  have HBV := hid hb0
  have HL := hid (h.below hb0)
  obtain ⟨FP, SB, A, c, hp, hF, h3, h4, h5, h6, h7⟩ := h.parts
  have HPP := hid hp
  have HFP := hid hF
  have HF3 := hid h3
  have HF4 := hid h4
  have HF5 := hid h5
  have HF6 := hid h6
  have HF7 := hid h7
  have HXN := hid (show Kd.str.slice.K w (fun k => ¬ FP k) x.needs [.slice XA x.needs.length xc] from Kd.mono _ (fun k hk _ h => hk (hF k h).1) hx)
  have HX := hid (Kd.below hx hb0)
  have HOK := hid hok
  have HLL := hid hll
  have HG := hid (show ∃ G, G = putG D l down b room x from ⟨_, rfl⟩)
  have hEq := hV.symm
  obtain ⟨q, hq⟩ : ∃ q, q = b.length := ⟨_, rfl⟩
  have HQ := hid hq
  obtain ⟨n, hn⟩ : ∃ n, n = x.needs.length := ⟨_, rfl⟩
  have HN := hid hn
  rw [← hn] at HX HZ hEq ⊢
  have HR := hid (fun (u : World) (h : Below V.heap.size V u) => rec_cells (x := x) (A := XA) (n := n) (c := xc) ((h.block w.heap.size (Array.getElem?_eq_some_iff.1 HZ.out).1).trans HZ.out))
  have hgl : gl < V.heap.size := Nat.lt_of_lt_of_le (Array.getElem?_eq_some_iff.1 h5).1 hb0.size
  obtain ⟨p1, pf, _⟩ := cells_of_block ((hb0.block _ (Array.getElem?_eq_some_iff.1 h5).1).trans h5)
  have c0 := p1 0 _ rfl
  have c1 := p1 1 _ rfl
  have c2 := p1 2 _ rfl
  have HK := hid (Kd.any (Kd.below h6 hb0))
  rw [← hn] at HXN
  rw [← hq] at HK HF5 HF6
  dsimp only [List.getElem_toArray] at c0 c1 c2
  change _ = some (Value.slice A b.length c) at c1
  change _ = some (Value.pointer (some ⟨ga, 0, none⟩)) at c0
  change _ = some (Value.int .i64 room) at c2
  rw [← hq] at c1
  clear p1 pf
  have HCL := hid (fun (u : World) (h : Below V.heap.size V u) => show (u.cell? ⟨gl, 0, none⟩ = some (.pointer (some ⟨ga, 0, none⟩)) ∧ u.cell? ⟨gl, 1, none⟩ = some (.slice A q c) ∧ u.cell? ⟨gl, 2, none⟩ = some (.int .i64 room)) from ⟨((bcell h).1 _ _ hgl).trans c0, ((bcell h).1 _ _ hgl).trans c1, ((bcell h).1 _ _ hgl).trans c2⟩)
  clear hV hb0 h hx hok hll hq hn hp hF h3 h4 h5 h6 h7
  go_enter Try.func9, Try.ntmps9
  go_wp2_with fail
  refine (sdown_calls (HPP.out.below HBV.out)).mono ?_
  rintro e w1 ⟨rfl, hb1⟩
  have HB1 := hid hb1
  clear hb1 hEq c0 c1 c2
  obtain ⟨c0, c1, c2⟩ := HCL.out w1 HB1.out
  cases hdn : down
  case true =>
    have HE := hid (show putG D l true b room x = ⟨D, l, true, b, 15⟩ from rfl)
    subst hdn
    go_wp2
    go_ret
    rw [HE.out]
    exact ⟨rfl, ((HL.out.below HB1.out).mono (fun k _ h => .inl h)), Mod.of_below (bThen HBV.out HB1.out)⟩
  subst hdn
  have HG0 := hid (show putG D l false b room x = if whyB b x ≠ 0 then ⟨D, l, false, b, whyB b x⟩ else if x.kind = 1 ∧ room < keptL b + mostR x.job 0 x.needs then ⟨D, l, false, b, 7⟩ else ⟨(anApp D l false x).1, (anApp D l false x).2.1, (anApp D l false x).2.2.1, if (anApp D l false x).2.2.2 = 0 then nextB b x else b, (anApp D l false x).2.2.2⟩ from rfl)
  have HS1 := hid (fun (u : World) (h : Below w1.heap.size w1 u) => And.intro (HCL.out u (bThen HB1.out h)) (HR.out u (bThen HB1.out h)))
  have U0 := hid (Below.refl w1.heap.size w1).drew
  have q0 := HS1.out w1.drew U0.out
  have HKV := hid (Kd.below HK.out HB1.out)
  have HXV := hid (Kd.any (Kd.below HX.out HB1.out))
  go_wp2_with fail
  refine wp_region_held_drew (S := fun w' => (w'.cell? ⟨gl, 0, none⟩ = some (.pointer (some ⟨ga, 0, none⟩)) ∧ w'.cell? ⟨gl, 1, none⟩ = some (.slice A q c) ∧ w'.cell? ⟨gl, 2, none⟩ = some (.int .i64 room)) ∧ w'.cell? ⟨w.heap.size, 0, none⟩ = some (.int .i64 x.kind) ∧ w'.cell? ⟨w.heap.size, 1, none⟩ = some (.int .i64 x.job) ∧ w'.cell? ⟨w.heap.size, 2, none⟩ = some (.int .i64 x.task) ∧ w'.cell? ⟨w.heap.size, 3, none⟩ = some (.int .i64 x.worker) ∧ w'.cell? ⟨w.heap.size, 4, none⟩ = some (.int .i64 x.sched) ∧ w'.cell? ⟨w.heap.size, 5, none⟩ = some (.int .i64 x.epoch) ∧ w'.cell? ⟨w.heap.size, 6, none⟩ = some (.slice XA n xc)) (by kernel_rfl) q0 (fun hHeld => ?_)
  refine anyH_take 0 (v := ?_) rfl (by kernel_rfl) (by kernel_rfl) (by kernel_rfl) (fun _ _ _ h => h) (by rfl) hHeld ?_ ?_
  rotate_left
  · (intro w hSw; (try dsimp only at hSw); go_split_ands; go_simp; try with_reducible rfl)
  (try simp only [Act.put, List.setIfInBounds_toArray, List.set_cons_zero, List.set_cons_succ])
  refine anyH_take 1 (v := ?_) rfl (by kernel_rfl) (by kernel_rfl) (by kernel_rfl) (fun _ _ _ h => h) (by rfl) hHeld ?_ ?_
  rotate_left
  · (intro w hSw; (try dsimp only at hSw); go_split_ands; go_simp; try with_reducible rfl)
  (try simp only [Act.put, List.setIfInBounds_toArray, List.set_cons_zero, List.set_cons_succ])
  refine anyH_take 2 (v := ?_) rfl (by kernel_rfl) (by kernel_rfl) (by kernel_rfl) (fun _ _ _ h => h) (by rfl) hHeld ?_ ?_
  rotate_left
  · (intro w hSw; (try dsimp only at hSw); go_split_ands; go_simp; try with_reducible rfl)
  (try simp only [Act.put, List.setIfInBounds_toArray, List.set_cons_zero, List.set_cons_succ])
  refine anyH_take 3 (v := ?_) rfl (by kernel_rfl) (by kernel_rfl) (by kernel_rfl) (fun _ _ _ h => h) (by rfl) hHeld ?_ ?_
  rotate_left
  · (intro w hSw; (try dsimp only at hSw); go_split_ands; go_simp; try with_reducible rfl)
  (try simp only [Act.put, List.setIfInBounds_toArray, List.set_cons_zero, List.set_cons_succ])
  refine anyH_take 4 (v := ?_) rfl (by kernel_rfl) (by kernel_rfl) (by kernel_rfl) (fun _ _ _ h => h) (by rfl) hHeld ?_ ?_
  rotate_left
  · (intro w hSw; (try dsimp only at hSw); go_split_ands; go_simp; try with_reducible rfl)
  (try simp only [Act.put, List.setIfInBounds_toArray, List.set_cons_zero, List.set_cons_succ])
  refine anyH_one 5 rfl (by kernel_rfl) (fun K hK => ?_)
  go_simp
  have hst := bstep_calls b (.slice A q c) x XA xc w1.drew (Kd.below HKV.out U0.out) (by rw [← HN.out]; exact Kd.below HXV.out U0.out) HOK.out
  rw [← HN.out] at hst
  refine hst.mono ?_
  clear hst
  rintro e w2 ⟨o, rfl, hO, hb2⟩
  have U1 := hid (bThen U0.out hb2)
  have HO := hid hO
  obtain ⟨Ao, co, he, _, _, _⟩ := hO
  injection he with he _
  subst he
  clear hb2
  go_simp
  refine hK.out _ _ (HS1.out _ U1.out) (fun hHeld => ?_)
  clear hK K
  (try simp only [Act.put, List.setIfInBounds_toArray, List.set_cons_zero, List.set_cons_succ])
  refine anyH_take 6 (v := ?_) rfl (by kernel_rfl) (by kernel_rfl) (by kernel_rfl) (fun _ _ _ h => h) (by rfl) hHeld ?_ ?_
  rotate_left
  · (intro w hSw; (try dsimp only at hSw); go_split_ands; go_simp; try with_reducible rfl)
  (try simp only [Act.put, List.setIfInBounds_toArray, List.set_cons_zero, List.set_cons_succ])
  refine anyH_take 7 (v := ?_) rfl (by kernel_rfl) (by kernel_rfl) (by kernel_rfl) (fun _ _ _ h => h) (by rfl) hHeld ?_ ?_
  rotate_left
  · (intro w hSw; (try dsimp only at hSw); go_split_ands; go_simp; try with_reducible rfl)
  (try simp only [Act.put, List.setIfInBounds_toArray, List.set_cons_zero, List.set_cons_succ])
  refine anyH_take 8 (v := ?_) rfl (by kernel_rfl) (by kernel_rfl) (by kernel_rfl) (fun _ _ _ h => h) (by rfl) hHeld ?_ ?_
  rotate_left
  · (intro w hSw; (try dsimp only at hSw); go_split_ands; go_simp; try with_reducible rfl)
  (try simp only [Act.put, List.setIfInBounds_toArray, List.set_cons_zero, List.set_cons_succ])
  refine anyH_take 9 (v := ?_) rfl (by kernel_rfl) (by kernel_rfl) (by kernel_rfl) (fun _ _ _ h => h) (by rfl) hHeld ?_ ?_
  rotate_left
  · (intro w hSw; (try dsimp only at hSw); go_split_ands; go_simp; try with_reducible rfl)
  (try simp only [Act.put, List.setIfInBounds_toArray, List.set_cons_zero, List.set_cons_succ])
  refine anyH_take 10 (v := ?_) rfl (by kernel_rfl) (by kernel_rfl) (by kernel_rfl) (fun _ _ _ h => h) (by rfl) hHeld ?_ ?_
  rotate_left
  · (intro w hSw; (try dsimp only at hSw); go_split_ands; go_simp; try with_reducible rfl)
  (try simp only [Act.put, List.setIfInBounds_toArray, List.set_cons_zero, List.set_cons_succ])
  refine wpAnyH_done (by kernel_rfl) ?_ _
  have HB2 := hid (bThen HB1.out U1.out)
  have HO2 := hid (Kd.entry.slice.mono (S' := fun k => w1.heap.size ≤ k) (fun k (hk : w1.drew.heap.size ≤ k) _ => hk) HO.out)
  have HL2 := hid (HL.out.below HB2.out)
  clear c0 c1 c2 q0 hHeld HS1 HO HK HKV HXV
  obtain ⟨⟨c0, c1, c2⟩, x0, x1, x2, x3, x4, x5, x6⟩ := And.intro (HCL.out w2 HB2.out) (HR.out w2 HB2.out)
  by_cases hwy : whyB b x = 0
  case neg =>
    have hne : (whyB b x != 0) = true := by rw [bne_iff_ne]; exact hwy
    have HE := hid (HG0.out.trans (if_pos hwy))
    clear hwy
    go_wp2
    go_ret
    rw [HE.out]
    exact ⟨rfl, HL2.out.mono (fun k _ h => .inl h), Mod.of_below (bThen HBV.out HB2.out)⟩
  have HG1 := hid (HG0.out.trans (if_neg (fun h => h hwy)))
  have HWY := hid hwy
  have HREC := hid (whyB_rec hwy)
  rw [hwy]
  clear hwy HG0

  by_cases hk : x.kind = 1
  case neg =>
    have hk1 : (x.kind == (1 : Int)) = false := by rw [beq_eq_false_iff_ne]; exact hk
    have HG2 := hid (HG1.out.trans (if_neg (fun h => hk h.1)))
    have HS2 := hid (fun (u : World) (h : Below w2.heap.size w2 u) => And.intro (HCL.out u (bThen HB2.out h)) (HR.out u (bThen HB2.out h)))
    have V0 := hid (Below.refl w2.heap.size w2).drew
    have q0 := HS2.out w2.drew V0.out
    clear hk
    go_wp2_with fail
    refine wp_region_held_drew (S := fun w' => (w'.cell? ⟨gl, 0, none⟩ = some (.pointer (some ⟨ga, 0, none⟩)) ∧ w'.cell? ⟨gl, 1, none⟩ = some (.slice A q c) ∧ w'.cell? ⟨gl, 2, none⟩ = some (.int .i64 room)) ∧ w'.cell? ⟨w.heap.size, 0, none⟩ = some (.int .i64 x.kind) ∧ w'.cell? ⟨w.heap.size, 1, none⟩ = some (.int .i64 x.job) ∧ w'.cell? ⟨w.heap.size, 2, none⟩ = some (.int .i64 x.task) ∧ w'.cell? ⟨w.heap.size, 3, none⟩ = some (.int .i64 x.worker) ∧ w'.cell? ⟨w.heap.size, 4, none⟩ = some (.int .i64 x.sched) ∧ w'.cell? ⟨w.heap.size, 5, none⟩ = some (.int .i64 x.epoch) ∧ w'.cell? ⟨w.heap.size, 6, none⟩ = some (.slice XA n xc)) (by kernel_rfl) q0 (fun hHeld => ?_)
    refine anyH_take 0 (v := ?_) rfl (by kernel_rfl) (by kernel_rfl) (by kernel_rfl) (fun _ _ _ h => h) (by rfl) hHeld ?_ ?_
    rotate_left
    · (intro w hSw; (try dsimp only at hSw); go_split_ands; go_simp; try with_reducible rfl)
    (try simp only [Act.put, List.setIfInBounds_toArray, List.set_cons_zero, List.set_cons_succ])
    refine anyH_take 1 (v := ?_) rfl (by kernel_rfl) (by kernel_rfl) (by kernel_rfl) (fun _ _ _ h => h) (by rfl) hHeld ?_ ?_
    rotate_left
    · (intro w hSw; (try dsimp only at hSw); go_split_ands; go_simp; try with_reducible rfl)
    (try simp only [Act.put, List.setIfInBounds_toArray, List.set_cons_zero, List.set_cons_succ])
    refine anyH_take 2 (v := ?_) rfl (by kernel_rfl) (by kernel_rfl) (by kernel_rfl) (fun _ _ _ h => h) (by rfl) hHeld ?_ ?_
    rotate_left
    · (intro w hSw; (try dsimp only at hSw); go_split_ands; go_simp; try with_reducible rfl)
    (try simp only [Act.put, List.setIfInBounds_toArray, List.set_cons_zero, List.set_cons_succ])
    refine anyH_take 3 (v := ?_) rfl (by kernel_rfl) (by kernel_rfl) (by kernel_rfl) (fun _ _ _ h => h) (by rfl) hHeld ?_ ?_
    rotate_left
    · (intro w hSw; (try dsimp only at hSw); go_split_ands; go_simp; try with_reducible rfl)
    (try simp only [Act.put, List.setIfInBounds_toArray, List.set_cons_zero, List.set_cons_succ])
    refine anyH_skip 4 rfl (by kernel_rfl) (by kernel_rfl) (by kernel_rfl) (fun _ _ _ h => h) (by rfl) hHeld ?_
    (try simp only [Act.put, List.setIfInBounds_toArray, List.set_cons_zero, List.set_cons_succ])
    refine anyH_skip 5 rfl (by kernel_rfl) (by kernel_rfl) (by kernel_rfl) (fun _ _ _ h => h) (by rfl) hHeld ?_
    (try simp only [Act.put, List.setIfInBounds_toArray, List.set_cons_zero, List.set_cons_succ])
    refine anyH_skip 6 rfl (by kernel_rfl) (by kernel_rfl) (by kernel_rfl) (fun _ _ _ h => h) (by rfl) hHeld ?_
    (try simp only [Act.put, List.setIfInBounds_toArray, List.set_cons_zero, List.set_cons_succ])
    refine anyH_skip 7 rfl (by kernel_rfl) (by kernel_rfl) (by kernel_rfl) (fun _ _ _ h => h) (by rfl) hHeld ?_
    (try simp only [Act.put, List.setIfInBounds_toArray, List.set_cons_zero, List.set_cons_succ])
    refine anyH_skip 8 rfl (by kernel_rfl) (by kernel_rfl) (by kernel_rfl) (fun _ _ _ h => h) (by rfl) hHeld ?_
    (try simp only [Act.put, List.setIfInBounds_toArray, List.set_cons_zero, List.set_cons_succ])
    refine anyH_skip 9 rfl (by kernel_rfl) (by kernel_rfl) (by kernel_rfl) (fun _ _ _ h => h) (by rfl) hHeld ?_
    (try simp only [Act.put, List.setIfInBounds_toArray, List.set_cons_zero, List.set_cons_succ])
    refine anyH_skip 10 rfl (by kernel_rfl) (by kernel_rfl) (by kernel_rfl) (fun _ _ _ h => h) (by rfl) hHeld ?_
    (try simp only [Act.put, List.setIfInBounds_toArray, List.set_cons_zero, List.set_cons_succ])
    refine anyH_skip 11 rfl (by kernel_rfl) (by kernel_rfl) (by kernel_rfl) (fun _ _ _ h => h) (by rfl) hHeld ?_
    (try simp only [Act.put, List.setIfInBounds_toArray, List.set_cons_zero, List.set_cons_succ])
    refine anyH_skip 12 rfl (by kernel_rfl) (by kernel_rfl) (by kernel_rfl) (fun _ _ _ h => h) (by rfl) hHeld ?_
    (try simp only [Act.put, List.setIfInBounds_toArray, List.set_cons_zero, List.set_cons_succ])
    refine anyH_skip 13 rfl (by kernel_rfl) (by kernel_rfl) (by kernel_rfl) (fun _ _ _ h => h) (by rfl) hHeld ?_
    (try simp only [Act.put, List.setIfInBounds_toArray, List.set_cons_zero, List.set_cons_succ])
    refine anyH_skip 14 rfl (by kernel_rfl) (by kernel_rfl) (by kernel_rfl) (fun _ _ _ h => h) (by rfl) hHeld ?_
    (try simp only [Act.put, List.setIfInBounds_toArray, List.set_cons_zero, List.set_cons_succ])
    refine anyH_skip 15 rfl (by kernel_rfl) (by kernel_rfl) (by kernel_rfl) (fun _ _ _ h => h) (by rfl) hHeld ?_
    (try simp only [Act.put, List.setIfInBounds_toArray, List.set_cons_zero, List.set_cons_succ])
    refine anyH_skip 16 rfl (by kernel_rfl) (by kernel_rfl) (by kernel_rfl) (fun _ _ _ h => h) (by rfl) hHeld ?_
    (try simp only [Act.put, List.setIfInBounds_toArray, List.set_cons_zero, List.set_cons_succ])
    refine anyH_take 17 (v := ?_) rfl (by kernel_rfl) (by kernel_rfl) (by kernel_rfl) (fun _ _ _ h => h) (by rfl) hHeld ?_ ?_
    rotate_left
    · (intro w hSw; (try dsimp only at hSw); go_split_ands; go_simp; try with_reducible rfl)
    (try simp only [Act.put, List.setIfInBounds_toArray, List.set_cons_zero, List.set_cons_succ])
    refine wpAnyH_done (by kernel_rfl) ?_ _
    have HBT := hid V0.out
    have HB3 := hid (bThen HB2.out V0.out)
    clear hHeld q0 HG1 c0 c1 c2 x0 x1 x2 x3 x4 x5 x6
    obtain ⟨w3, hw3⟩ : ∃ w3, w3 = w2.drew := ⟨_, rfl⟩
    rw [← hw3] at HBT HB3 ⊢
    clear hw3 V0 HS2
    have T0 := hid (Below.refl w3.heap.size w3).drew
    have HST := hid (fun (u : World) (h : Below w3.heap.size w3 u) => And.intro (HCL.out u (bThen HB3.out h)) (HR.out u (bThen HB3.out h)))
    have q0 := HST.out w3.drew T0.out
    have HPW := hid (HPP.out.below (bThen (bThen HBV.out HB3.out) T0.out))
    have HXW := hid (Kd.below HXN.out (bThen (bThen HBV.out HB3.out) T0.out))
    have HAP := hid (anAppend_calls FP ga gd D l false w3.drew HPW.out x XA n xc HXW.out HLL.out)
    have HWS := hid (show w.heap.size < w3.heap.size by have := HB3.out.size; have := HVS.out; omega)
    obtain ⟨r, hr⟩ : ∃ r, r = anApp D l false x := ⟨_, rfl⟩
    rw [← hr] at HG2 HAP
    clear hr
    go_wp2_with fail
    refine wp_region_held_drew (S := fun w' => (w'.cell? ⟨gl, 0, none⟩ = some (.pointer (some ⟨ga, 0, none⟩)) ∧ w'.cell? ⟨gl, 1, none⟩ = some (.slice A q c) ∧ w'.cell? ⟨gl, 2, none⟩ = some (.int .i64 room)) ∧ w'.cell? ⟨w.heap.size, 0, none⟩ = some (.int .i64 x.kind) ∧ w'.cell? ⟨w.heap.size, 1, none⟩ = some (.int .i64 x.job) ∧ w'.cell? ⟨w.heap.size, 2, none⟩ = some (.int .i64 x.task) ∧ w'.cell? ⟨w.heap.size, 3, none⟩ = some (.int .i64 x.worker) ∧ w'.cell? ⟨w.heap.size, 4, none⟩ = some (.int .i64 x.sched) ∧ w'.cell? ⟨w.heap.size, 5, none⟩ = some (.int .i64 x.epoch) ∧ w'.cell? ⟨w.heap.size, 6, none⟩ = some (.slice XA n xc)) (by kernel_rfl) q0 (fun hHeld => ?_)
    refine anyH_take 0 (v := ?_) rfl (by kernel_rfl) (by kernel_rfl) (by kernel_rfl) (fun _ _ _ h => h) (by rfl) hHeld ?_ ?_
    rotate_left
    · (intro w hSw; (try dsimp only at hSw); go_split_ands; go_simp; try with_reducible rfl)
    (try simp only [Act.put, List.setIfInBounds_toArray, List.set_cons_zero, List.set_cons_succ])
    refine anyH_take 1 (v := ?_) rfl (by kernel_rfl) (by kernel_rfl) (by kernel_rfl) (fun _ _ _ h => h) (by rfl) hHeld ?_ ?_
    rotate_left
    · (intro w hSw; (try dsimp only at hSw); go_split_ands; go_simp; try with_reducible rfl)
    (try simp only [Act.put, List.setIfInBounds_toArray, List.set_cons_zero, List.set_cons_succ])
    refine anyH_take 2 (v := ?_) rfl (by kernel_rfl) (by kernel_rfl) (by kernel_rfl) (fun _ _ _ h => h) (by rfl) hHeld ?_ ?_
    rotate_left
    · (intro w hSw; (try dsimp only at hSw); go_split_ands; go_simp; try with_reducible rfl)
    (try simp only [Act.put, List.setIfInBounds_toArray, List.set_cons_zero, List.set_cons_succ])
    refine anyH_take 3 (v := ?_) rfl (by kernel_rfl) (by kernel_rfl) (by kernel_rfl) (fun _ _ _ h => h) (by rfl) hHeld ?_ ?_
    rotate_left
    · (intro w hSw; (try dsimp only at hSw); go_split_ands; go_simp; try with_reducible rfl)
    (try simp only [Act.put, List.setIfInBounds_toArray, List.set_cons_zero, List.set_cons_succ])
    refine anyH_take 4 (v := ?_) rfl (by kernel_rfl) (by kernel_rfl) (by kernel_rfl) (fun _ _ _ h => h) (by rfl) hHeld ?_ ?_
    rotate_left
    · (intro w hSw; (try dsimp only at hSw); go_split_ands; go_simp; try with_reducible rfl)
    (try simp only [Act.put, List.setIfInBounds_toArray, List.set_cons_zero, List.set_cons_succ])
    refine anyH_take 5 (v := ?_) rfl (by kernel_rfl) (by kernel_rfl) (by kernel_rfl) (fun _ _ _ h => h) (by rfl) hHeld ?_ ?_
    rotate_left
    · (intro w hSw; (try dsimp only at hSw); go_split_ands; go_simp; try with_reducible rfl)
    (try simp only [Act.put, List.setIfInBounds_toArray, List.set_cons_zero, List.set_cons_succ])
    refine anyH_one 6 rfl (by kernel_rfl) (fun K hK => ?_)
    go_simp
    refine HAP.out.mono ?_
    rintro e w4 ⟨rfl, hp4, hm4⟩
    have HP4 := hid hp4
    have HM4 := hid hm4
    have q4 := HST.out w3.drew T0.out
    have HG4 := hid (show ∀ j, w4.cell? ⟨gl, j, none⟩ = w3.drew.cell? ⟨gl, j, none⟩ from fun j => World.cell?_of_block (hm4.block gl (Nat.lt_of_lt_of_le hgl (Nat.le_trans HB3.out.size (Nat.le_refl _))) HF4.out))
    have HR4 := hid (show ∀ j, w4.cell? ⟨w.heap.size, j, none⟩ = w3.drew.cell? ⟨w.heap.size, j, none⟩ from fun j => World.cell?_of_block (hm4.block w.heap.size HWS.out (fun h => by have := (HFP.out _ h).2; omega)))
    have q5 : (w4.cell? ⟨gl, 0, none⟩ = some (.pointer (some ⟨ga, 0, none⟩)) ∧ w4.cell? ⟨gl, 1, none⟩ = some (.slice A q c) ∧ w4.cell? ⟨gl, 2, none⟩ = some (.int .i64 room)) ∧ w4.cell? ⟨w.heap.size, 0, none⟩ = some (.int .i64 x.kind) ∧ w4.cell? ⟨w.heap.size, 1, none⟩ = some (.int .i64 x.job) ∧ w4.cell? ⟨w.heap.size, 2, none⟩ = some (.int .i64 x.task) ∧ w4.cell? ⟨w.heap.size, 3, none⟩ = some (.int .i64 x.worker) ∧ w4.cell? ⟨w.heap.size, 4, none⟩ = some (.int .i64 x.sched) ∧ w4.cell? ⟨w.heap.size, 5, none⟩ = some (.int .i64 x.epoch) ∧ w4.cell? ⟨w.heap.size, 6, none⟩ = some (.slice XA n xc) := ⟨⟨(HG4.out 0).trans q4.1.1, (HG4.out 1).trans q4.1.2.1, (HG4.out 2).trans q4.1.2.2⟩, (HR4.out 0).trans q4.2.1, (HR4.out 1).trans q4.2.2.1, (HR4.out 2).trans q4.2.2.2.1, (HR4.out 3).trans q4.2.2.2.2.1, (HR4.out 4).trans q4.2.2.2.2.2.1, (HR4.out 5).trans q4.2.2.2.2.2.2.1, (HR4.out 6).trans q4.2.2.2.2.2.2.2⟩
    clear hp4 hm4
    go_simp
    refine hK.out _ _ q5 (fun hHeld => ?_)
    clear hK K
    (try simp only [Act.put, List.setIfInBounds_toArray, List.set_cons_zero, List.set_cons_succ])
    refine anyH_take 7 (v := ?_) rfl (by kernel_rfl) (by kernel_rfl) (by kernel_rfl) (fun _ _ _ h => h) (by rfl) hHeld ?_ ?_
    rotate_left
    · (intro w hSw; (try dsimp only at hSw); go_split_ands; go_simp; try with_reducible rfl)
    (try simp only [Act.put, List.setIfInBounds_toArray, List.set_cons_zero, List.set_cons_succ])
    refine wpAnyH_done (by kernel_rfl) ?_ _
    have HWL := hid (show w.heap.size ≤ w3.drew.heap.size from Nat.le_of_lt HWS.out)
    have HFW := hid (show ∀ k, FP k → F k ∧ k < w3.drew.heap.size from fun k hk => ⟨(HFP.out k hk).1, Nat.lt_of_lt_of_le (HFP.out k hk).2 HWL.out⟩)
    have H5W := hid (show w3.drew.heap[gl]? = some (.cells #[.pointer (some ⟨ga, 0, none⟩), .slice A q c, .int .i64 room] 54 (0, 0)) from ((bThen (bThen HBV.out HB3.out) T0.out).block gl (Array.getElem?_eq_some_iff.1 HF5.out).1).trans HF5.out)
    have HMW := hid (show Mod F w w4 from (Mod.of_below (bThen (bThen HBV.out HB3.out) T0.out)).trans HM4.out (fun k _ h => (HFP.out k h).1))
    have H54 := hid ((HM4.out.block gl (Nat.lt_of_lt_of_le hgl HB3.out.size) HF4.out).trans H5W.out)
    obtain ⟨⟨c0, c1, c2⟩, _⟩ := q5
    have cf := (cells_of_block H54.out).2.1 1
    clear hHeld q0 q4
    by_cases h0 : r.2.2.2 = 0
    case neg =>
      have hne : (r.2.2.2 != 0) = true := by rw [bne_iff_ne]; exact h0
      have HE := hid (HG2.out.trans (by rw [if_neg h0]))
      have HLG := hid (lg_annal HP4.out HM4.out HFW.out HF3.out HF4.out H5W.out HWL.out (.slice A q c) b SB (Kd.below HF6.out (bThen (bThen HBV.out HB3.out) T0.out)) (fun k _ hk => ⟨.inl (HF7.out k hk).1, (HF7.out k hk).2.1, (HF7.out k hk).2.2.1⟩))
      have HSM := hid (setCell_same H54.out 1 (.slice A q c) rfl)
      clear h0
      go_wp2
      go_ret
      rw [HE.out]
      rw [HSM.out] at HLG
      exact ⟨rfl, HLG.out, HMW.out⟩
    have HE := hid (HG2.out.trans (by rw [if_pos h0]))
    have HLG := hid (lg_annal HP4.out HM4.out HFW.out HF3.out HF4.out H5W.out HWL.out (.slice Ao (nextB b x).length co) (nextB b x) (fun k => w1.heap.size ≤ k) (Kd.below HO2.out (bThen HBT.out T0.out)) (fun k _ hk => ⟨.inr (by have : w1.heap.size ≤ k := hk; have := HB1.out.size; have := HVS.out; omega), fun h => by have := (HFP.out k h).2; have : w1.heap.size ≤ k := hk; have := HB1.out.size; have := HVS.out; omega, fun e => by have := (Array.getElem?_eq_some_iff.1 HF5.out).1; have : w1.heap.size ≤ k := hk; have := HB1.out.size; have := HVS.out; omega⟩))
    have HM5 := hid (HMW.out.setCell (p := ⟨gl, 1, none⟩) (fun _ => HF3.out) (.slice Ao (nextB b x).length co))
    obtain ⟨nl, hnl⟩ : ∃ nl, nl = (nextB b x).length := ⟨_, rfl⟩
    rw [← hnl] at HLG HM5 ⊢
    clear hnl
    rw [h0]
    go_wp2
    go_ret
    rw [HE.out, h0]
    exact ⟨rfl, HLG.out, HM5.out⟩
  have hk1 : (x.kind == (1 : Int)) = true := by rw [hk]; decide
  have HACC := hid (recOk_accept HREC.out hk)
  have hnl : n ≤ 16 := by have := HACC.out.2.1; have := HN.out; omega
  obtain ⟨kl, hkl⟩ : ∃ kl, kl = keptL b := ⟨_, rfl⟩
  obtain ⟨m, hm⟩ : ∃ m, m = mostR x.job 0 x.needs := ⟨_, rfl⟩
  have hklb := keptL_bound b HOK.out.1
  have hb40 := HOK.out.2
  have hmb := mostR16 x.job 0 x.needs HACC.out.2.1
  have HKM := hid (And.intro hkl hm)
  rw [← hkl] at hklb HG1
  rw [← hm] at hmb HG1
  have hww : IntKind.i64.wrap (kl + m) = kl + m := IntWalk.i64_in _ (by omega)
  have HS2 := hid (fun (u : World) (h : Below w2.heap.size w2 u) => And.intro (HCL.out u (bThen HB2.out h)) (HR.out u (bThen HB2.out h)))
  have V0 := hid (Below.refl w2.heap.size w2).drew
  have q0 := HS2.out w2.drew V0.out
  have HXM := hid (Kd.any (Kd.below HX.out HB2.out))
  have HKD := hid hk
  clear hkl hm hklb hb40 hmb hk
  by_cases hro : room < kl + m
  case pos =>
    have hrd : decide (room < kl + m) = true := decide_eq_true hro
    have HE := hid (HG1.out.trans (if_pos ⟨HKD.out, hro⟩))
    go_wp2_with fail
    refine wp_region_held_drew (S := fun w' => (w'.cell? ⟨gl, 0, none⟩ = some (.pointer (some ⟨ga, 0, none⟩)) ∧ w'.cell? ⟨gl, 1, none⟩ = some (.slice A q c) ∧ w'.cell? ⟨gl, 2, none⟩ = some (.int .i64 room)) ∧ w'.cell? ⟨w.heap.size, 0, none⟩ = some (.int .i64 x.kind) ∧ w'.cell? ⟨w.heap.size, 1, none⟩ = some (.int .i64 x.job) ∧ w'.cell? ⟨w.heap.size, 2, none⟩ = some (.int .i64 x.task) ∧ w'.cell? ⟨w.heap.size, 3, none⟩ = some (.int .i64 x.worker) ∧ w'.cell? ⟨w.heap.size, 4, none⟩ = some (.int .i64 x.sched) ∧ w'.cell? ⟨w.heap.size, 5, none⟩ = some (.int .i64 x.epoch) ∧ w'.cell? ⟨w.heap.size, 6, none⟩ = some (.slice XA n xc)) (by kernel_rfl) q0 (fun hHeld => ?_)
    refine anyH_take 0 (v := ?_) rfl (by kernel_rfl) (by kernel_rfl) (by kernel_rfl) (fun _ _ _ h => h) (by rfl) hHeld ?_ ?_
    rotate_left
    · (intro w hSw; (try dsimp only at hSw); go_split_ands; go_simp; try with_reducible rfl)
    (try simp only [Act.put, List.setIfInBounds_toArray, List.set_cons_zero, List.set_cons_succ])
    refine anyH_take 1 (v := ?_) rfl (by kernel_rfl) (by kernel_rfl) (by kernel_rfl) (fun _ _ _ h => h) (by rfl) hHeld ?_ ?_
    rotate_left
    · (intro w hSw; (try dsimp only at hSw); go_split_ands; go_simp; try with_reducible rfl)
    (try simp only [Act.put, List.setIfInBounds_toArray, List.set_cons_zero, List.set_cons_succ])
    refine anyH_take 2 (v := ?_) rfl (by kernel_rfl) (by kernel_rfl) (by kernel_rfl) (fun _ _ _ h => h) (by rfl) hHeld ?_ ?_
    rotate_left
    · (intro w hSw; (try dsimp only at hSw); go_split_ands; go_simp; try with_reducible rfl)
    (try simp only [Act.put, List.setIfInBounds_toArray, List.set_cons_zero, List.set_cons_succ])
    refine anyH_take 3 (v := ?_) rfl (by kernel_rfl) (by kernel_rfl) (by kernel_rfl) (fun _ _ _ h => h) (by rfl) hHeld ?_ ?_
    rotate_left
    · (intro w hSw; (try dsimp only at hSw); go_split_ands; go_simp; try with_reducible rfl)
    (try simp only [Act.put, List.setIfInBounds_toArray, List.set_cons_zero, List.set_cons_succ])
    refine anyH_take 4 (v := ?_) rfl (by kernel_rfl) (by kernel_rfl) (by kernel_rfl) (fun _ _ _ h => h) (by rfl) hHeld ?_ ?_
    rotate_left
    · (intro w hSw; (try dsimp only at hSw); go_split_ands; go_simp; try with_reducible rfl)
    (try simp only [Act.put, List.setIfInBounds_toArray, List.set_cons_zero, List.set_cons_succ])
    refine anyH_take 6 (v := ?_) rfl (by kernel_rfl) (by kernel_rfl) (by kernel_rfl) (fun _ _ _ h => h) (by rfl) hHeld ?_ ?_
    rotate_left
    · (intro w hSw; (try dsimp only at hSw); go_split_ands; go_simp; try with_reducible rfl)
    (try simp only [Act.put, List.setIfInBounds_toArray, List.set_cons_zero, List.set_cons_succ])
    refine anyH_take 7 (v := ?_) rfl (by kernel_rfl) (by kernel_rfl) (by kernel_rfl) (fun _ _ _ h => h) (by rfl) hHeld ?_ ?_
    rotate_left
    · (intro w hSw; (try dsimp only at hSw); go_split_ands; go_simp; try with_reducible rfl)
    (try simp only [Act.put, List.setIfInBounds_toArray, List.set_cons_zero, List.set_cons_succ])
    refine anyH_take 8 (v := ?_) rfl (by kernel_rfl) (by kernel_rfl) (by kernel_rfl) (fun _ _ _ h => h) (by rfl) hHeld ?_ ?_
    rotate_left
    · (intro w hSw; (try dsimp only at hSw); go_split_ands; go_simp; try with_reducible rfl)
    (try simp only [Act.put, List.setIfInBounds_toArray, List.set_cons_zero, List.set_cons_succ])
    refine anyH_take 9 (v := ?_) rfl (by kernel_rfl) (by kernel_rfl) (by kernel_rfl) (fun _ _ _ h => h) (by rfl) hHeld ?_ ?_
    rotate_left
    · (intro w hSw; (try dsimp only at hSw); go_split_ands; go_simp; try with_reducible rfl)
    (try simp only [Act.put, List.setIfInBounds_toArray, List.set_cons_zero, List.set_cons_succ])
    refine anyH_take 12 (v := ?_) rfl (by kernel_rfl) (by kernel_rfl) (by kernel_rfl) (fun _ _ _ h => h) (by rfl) hHeld ?_ ?_
    rotate_left
    · (intro w hSw; (try dsimp only at hSw); go_split_ands; go_simp; try with_reducible rfl)
    (try simp only [Act.put, List.setIfInBounds_toArray, List.set_cons_zero, List.set_cons_succ])
    refine anyH_take 13 (v := ?_) rfl (by kernel_rfl) (by kernel_rfl) (by kernel_rfl) (fun _ _ _ h => h) (by rfl) hHeld ?_ ?_
    rotate_left
    · (intro w hSw; (try dsimp only at hSw); go_split_ands; go_simp; try with_reducible rfl)
    (try simp only [Act.put, List.setIfInBounds_toArray, List.set_cons_zero, List.set_cons_succ])
    refine anyH_take 14 (v := ?_) rfl (by kernel_rfl) (by kernel_rfl) (by kernel_rfl) (fun _ _ _ h => h) (by rfl) hHeld ?_ ?_
    rotate_left
    · (intro w hSw; (try dsimp only at hSw); go_split_ands; go_simp; try with_reducible rfl)
    (try simp only [Act.put, List.setIfInBounds_toArray, List.set_cons_zero, List.set_cons_succ])
    refine anyH_take 15 (v := ?_) rfl (by kernel_rfl) (by kernel_rfl) (by kernel_rfl) (fun _ _ _ h => h) (by rfl) hHeld ?_ ?_
    rotate_left
    · (intro w hSw; (try dsimp only at hSw); go_split_ands; go_simp; try with_reducible rfl)
    (try simp only [Act.put, List.setIfInBounds_toArray, List.set_cons_zero, List.set_cons_succ])
    refine anyH_one 5 rfl (by kernel_rfl) (fun K hK => ?_)
    go_simp
    have hst := lkept_calls (HL.out.below (bThen HB2.out V0.out)) HOK.out
    rw [← HKM.out.1] at hst
    refine hst.mono ?_
    clear hst
    rintro e w3 ⟨rfl, hb3⟩
    have V1 := hid (bThen V0.out hb3)
    clear hb3
    go_simp
    refine hK.out _ _ (HS2.out _ V1.out) (fun hHeld => ?_)
    clear hK K
    (try simp only [Act.put, List.setIfInBounds_toArray, List.set_cons_zero, List.set_cons_succ])
    refine anyH_one 10 rfl (by kernel_rfl) (fun K hK => ?_)
    go_simp
    have hst := lmost_calls x.job x.needs XA n xc w3 (Kd.below HXM.out V1.out) (by omega)
    rw [← HKM.out.2] at hst
    refine hst.mono ?_
    clear hst
    rintro e w5 ⟨rfl, hb5⟩
    have V2 := hid (bThen V1.out hb5)
    clear hb5
    go_simp
    refine hK.out _ _ (HS2.out _ V2.out) (fun hHeld => ?_)
    clear hK K
    (try simp only [Act.put, List.setIfInBounds_toArray, List.set_cons_zero, List.set_cons_succ])
    refine anyH_take 11 (v := ?_) rfl (by kernel_rfl) (by kernel_rfl) (by kernel_rfl) (fun _ _ _ h => h) (by rfl) hHeld ?_ ?_
    rotate_left
    · (intro w hSw; (try dsimp only at hSw); go_split_ands; go_simp; try with_reducible rfl)
    (try simp only [Act.put, List.setIfInBounds_toArray, List.set_cons_zero, List.set_cons_succ])
    refine anyH_take 16 (v := ?_) rfl (by kernel_rfl) (by kernel_rfl) (by kernel_rfl) (fun _ _ _ h => h) (by rfl) hHeld ?_ ?_
    rotate_left
    · (intro w hSw; (try dsimp only at hSw); go_split_ands; go_simp; try with_reducible rfl)
    (try simp only [Act.put, List.setIfInBounds_toArray, List.set_cons_zero, List.set_cons_succ])
    refine anyH_take 17 (v := ?_) rfl (by kernel_rfl) (by kernel_rfl) (by kernel_rfl) (fun _ _ _ h => h) (by rfl) hHeld ?_ ?_
    rotate_left
    · (intro w hSw; (try dsimp only at hSw); go_split_ands; go_simp; try with_reducible rfl)
    (try simp only [Act.put, List.setIfInBounds_toArray, List.set_cons_zero, List.set_cons_succ])
    refine wpAnyH_done (by kernel_rfl) ?_ _
    go_wp2
    go_ret
    rw [HE.out]
    exact ⟨rfl, (HL2.out.below V2.out).mono (fun k _ h => .inl h), Mod.of_below (bThen HBV.out (bThen HB2.out V2.out))⟩
  have hrd : decide (room < kl + m) = false := decide_eq_false hro
  have HG2 := hid (HG1.out.trans (if_neg (fun h => hro h.2)))
  go_wp2_with fail
  refine wp_region_held_drew (S := fun w' => (w'.cell? ⟨gl, 0, none⟩ = some (.pointer (some ⟨ga, 0, none⟩)) ∧ w'.cell? ⟨gl, 1, none⟩ = some (.slice A q c) ∧ w'.cell? ⟨gl, 2, none⟩ = some (.int .i64 room)) ∧ w'.cell? ⟨w.heap.size, 0, none⟩ = some (.int .i64 x.kind) ∧ w'.cell? ⟨w.heap.size, 1, none⟩ = some (.int .i64 x.job) ∧ w'.cell? ⟨w.heap.size, 2, none⟩ = some (.int .i64 x.task) ∧ w'.cell? ⟨w.heap.size, 3, none⟩ = some (.int .i64 x.worker) ∧ w'.cell? ⟨w.heap.size, 4, none⟩ = some (.int .i64 x.sched) ∧ w'.cell? ⟨w.heap.size, 5, none⟩ = some (.int .i64 x.epoch) ∧ w'.cell? ⟨w.heap.size, 6, none⟩ = some (.slice XA n xc)) (by kernel_rfl) q0 (fun hHeld => ?_)
  refine anyH_take 0 (v := ?_) rfl (by kernel_rfl) (by kernel_rfl) (by kernel_rfl) (fun _ _ _ h => h) (by rfl) hHeld ?_ ?_
  rotate_left
  · (intro w hSw; (try dsimp only at hSw); go_split_ands; go_simp; try with_reducible rfl)
  (try simp only [Act.put, List.setIfInBounds_toArray, List.set_cons_zero, List.set_cons_succ])
  refine anyH_take 1 (v := ?_) rfl (by kernel_rfl) (by kernel_rfl) (by kernel_rfl) (fun _ _ _ h => h) (by rfl) hHeld ?_ ?_
  rotate_left
  · (intro w hSw; (try dsimp only at hSw); go_split_ands; go_simp; try with_reducible rfl)
  (try simp only [Act.put, List.setIfInBounds_toArray, List.set_cons_zero, List.set_cons_succ])
  refine anyH_take 2 (v := ?_) rfl (by kernel_rfl) (by kernel_rfl) (by kernel_rfl) (fun _ _ _ h => h) (by rfl) hHeld ?_ ?_
  rotate_left
  · (intro w hSw; (try dsimp only at hSw); go_split_ands; go_simp; try with_reducible rfl)
  (try simp only [Act.put, List.setIfInBounds_toArray, List.set_cons_zero, List.set_cons_succ])
  refine anyH_take 3 (v := ?_) rfl (by kernel_rfl) (by kernel_rfl) (by kernel_rfl) (fun _ _ _ h => h) (by rfl) hHeld ?_ ?_
  rotate_left
  · (intro w hSw; (try dsimp only at hSw); go_split_ands; go_simp; try with_reducible rfl)
  (try simp only [Act.put, List.setIfInBounds_toArray, List.set_cons_zero, List.set_cons_succ])
  refine anyH_take 4 (v := ?_) rfl (by kernel_rfl) (by kernel_rfl) (by kernel_rfl) (fun _ _ _ h => h) (by rfl) hHeld ?_ ?_
  rotate_left
  · (intro w hSw; (try dsimp only at hSw); go_split_ands; go_simp; try with_reducible rfl)
  (try simp only [Act.put, List.setIfInBounds_toArray, List.set_cons_zero, List.set_cons_succ])
  refine anyH_take 6 (v := ?_) rfl (by kernel_rfl) (by kernel_rfl) (by kernel_rfl) (fun _ _ _ h => h) (by rfl) hHeld ?_ ?_
  rotate_left
  · (intro w hSw; (try dsimp only at hSw); go_split_ands; go_simp; try with_reducible rfl)
  (try simp only [Act.put, List.setIfInBounds_toArray, List.set_cons_zero, List.set_cons_succ])
  refine anyH_take 7 (v := ?_) rfl (by kernel_rfl) (by kernel_rfl) (by kernel_rfl) (fun _ _ _ h => h) (by rfl) hHeld ?_ ?_
  rotate_left
  · (intro w hSw; (try dsimp only at hSw); go_split_ands; go_simp; try with_reducible rfl)
  (try simp only [Act.put, List.setIfInBounds_toArray, List.set_cons_zero, List.set_cons_succ])
  refine anyH_take 8 (v := ?_) rfl (by kernel_rfl) (by kernel_rfl) (by kernel_rfl) (fun _ _ _ h => h) (by rfl) hHeld ?_ ?_
  rotate_left
  · (intro w hSw; (try dsimp only at hSw); go_split_ands; go_simp; try with_reducible rfl)
  (try simp only [Act.put, List.setIfInBounds_toArray, List.set_cons_zero, List.set_cons_succ])
  refine anyH_take 9 (v := ?_) rfl (by kernel_rfl) (by kernel_rfl) (by kernel_rfl) (fun _ _ _ h => h) (by rfl) hHeld ?_ ?_
  rotate_left
  · (intro w hSw; (try dsimp only at hSw); go_split_ands; go_simp; try with_reducible rfl)
  (try simp only [Act.put, List.setIfInBounds_toArray, List.set_cons_zero, List.set_cons_succ])
  refine anyH_take 12 (v := ?_) rfl (by kernel_rfl) (by kernel_rfl) (by kernel_rfl) (fun _ _ _ h => h) (by rfl) hHeld ?_ ?_
  rotate_left
  · (intro w hSw; (try dsimp only at hSw); go_split_ands; go_simp; try with_reducible rfl)
  (try simp only [Act.put, List.setIfInBounds_toArray, List.set_cons_zero, List.set_cons_succ])
  refine anyH_take 13 (v := ?_) rfl (by kernel_rfl) (by kernel_rfl) (by kernel_rfl) (fun _ _ _ h => h) (by rfl) hHeld ?_ ?_
  rotate_left
  · (intro w hSw; (try dsimp only at hSw); go_split_ands; go_simp; try with_reducible rfl)
  (try simp only [Act.put, List.setIfInBounds_toArray, List.set_cons_zero, List.set_cons_succ])
  refine anyH_take 14 (v := ?_) rfl (by kernel_rfl) (by kernel_rfl) (by kernel_rfl) (fun _ _ _ h => h) (by rfl) hHeld ?_ ?_
  rotate_left
  · (intro w hSw; (try dsimp only at hSw); go_split_ands; go_simp; try with_reducible rfl)
  (try simp only [Act.put, List.setIfInBounds_toArray, List.set_cons_zero, List.set_cons_succ])
  refine anyH_take 15 (v := ?_) rfl (by kernel_rfl) (by kernel_rfl) (by kernel_rfl) (fun _ _ _ h => h) (by rfl) hHeld ?_ ?_
  rotate_left
  · (intro w hSw; (try dsimp only at hSw); go_split_ands; go_simp; try with_reducible rfl)
  (try simp only [Act.put, List.setIfInBounds_toArray, List.set_cons_zero, List.set_cons_succ])
  refine anyH_one 5 rfl (by kernel_rfl) (fun K hK => ?_)
  go_simp
  have hst := lkept_calls (HL.out.below (bThen HB2.out V0.out)) HOK.out
  rw [← HKM.out.1] at hst
  refine hst.mono ?_
  clear hst
  rintro e w3 ⟨rfl, hb3⟩
  have V1 := hid (bThen V0.out hb3)
  clear hb3
  go_simp
  refine hK.out _ _ (HS2.out _ V1.out) (fun hHeld => ?_)
  clear hK K
  (try simp only [Act.put, List.setIfInBounds_toArray, List.set_cons_zero, List.set_cons_succ])
  refine anyH_one 10 rfl (by kernel_rfl) (fun K hK => ?_)
  go_simp
  have hst := lmost_calls x.job x.needs XA n xc w3 (Kd.below HXM.out V1.out) (by omega)
  rw [← HKM.out.2] at hst
  refine hst.mono ?_
  clear hst
  rintro e w5 ⟨rfl, hb5⟩
  have V2 := hid (bThen V1.out hb5)
  clear hb5
  go_simp
  refine hK.out _ _ (HS2.out _ V2.out) (fun hHeld => ?_)
  clear hK K
  (try simp only [Act.put, List.setIfInBounds_toArray, List.set_cons_zero, List.set_cons_succ])
  refine anyH_take 11 (v := ?_) rfl (by kernel_rfl) (by kernel_rfl) (by kernel_rfl) (fun _ _ _ h => h) (by rfl) hHeld ?_ ?_
  rotate_left
  · (intro w hSw; (try dsimp only at hSw); go_split_ands; go_simp; try with_reducible rfl)
  (try simp only [Act.put, List.setIfInBounds_toArray, List.set_cons_zero, List.set_cons_succ])
  refine anyH_take 16 (v := ?_) rfl (by kernel_rfl) (by kernel_rfl) (by kernel_rfl) (fun _ _ _ h => h) (by rfl) hHeld ?_ ?_
  rotate_left
  · (intro w hSw; (try dsimp only at hSw); go_split_ands; go_simp; try with_reducible rfl)
  (try simp only [Act.put, List.setIfInBounds_toArray, List.set_cons_zero, List.set_cons_succ])
  refine anyH_take 17 (v := ?_) rfl (by kernel_rfl) (by kernel_rfl) (by kernel_rfl) (fun _ _ _ h => h) (by rfl) hHeld ?_ ?_
  rotate_left
  · (intro w hSw; (try dsimp only at hSw); go_split_ands; go_simp; try with_reducible rfl)
  (try simp only [Act.put, List.setIfInBounds_toArray, List.set_cons_zero, List.set_cons_succ])
  refine wpAnyH_done (by kernel_rfl) ?_ _
  have HBT := hid V2.out
  have HB3 := hid (bThen HB2.out V2.out)
  clear hHeld q0 HG1 c0 c1 c2 x0 x1 x2 x3 x4 x5 x6
  clear V0 V1 V2 HS2 hrd hro
  obtain ⟨w6, hw6⟩ : ∃ w6, w6 = w5 := ⟨_, rfl⟩
  subst hw6
  have T0 := hid (Below.refl w6.heap.size w6).drew
  have HST := hid (fun (u : World) (h : Below w6.heap.size w6 u) => And.intro (HCL.out u (bThen HB3.out h)) (HR.out u (bThen HB3.out h)))
  have q0 := HST.out w6.drew T0.out
  have HPW := hid (HPP.out.below (bThen (bThen HBV.out HB3.out) T0.out))
  have HXW := hid (Kd.below HXN.out (bThen (bThen HBV.out HB3.out) T0.out))
  have HAP := hid (anAppend_calls FP ga gd D l false w6.drew HPW.out x XA n xc HXW.out HLL.out)
  have HWS := hid (show w.heap.size < w6.heap.size by have := HB3.out.size; have := HVS.out; omega)
  obtain ⟨r, hr⟩ : ∃ r, r = anApp D l false x := ⟨_, rfl⟩
  rw [← hr] at HG2 HAP
  clear hr
  go_wp2_with fail
  refine wp_region_held_drew (S := fun w' => (w'.cell? ⟨gl, 0, none⟩ = some (.pointer (some ⟨ga, 0, none⟩)) ∧ w'.cell? ⟨gl, 1, none⟩ = some (.slice A q c) ∧ w'.cell? ⟨gl, 2, none⟩ = some (.int .i64 room)) ∧ w'.cell? ⟨w.heap.size, 0, none⟩ = some (.int .i64 x.kind) ∧ w'.cell? ⟨w.heap.size, 1, none⟩ = some (.int .i64 x.job) ∧ w'.cell? ⟨w.heap.size, 2, none⟩ = some (.int .i64 x.task) ∧ w'.cell? ⟨w.heap.size, 3, none⟩ = some (.int .i64 x.worker) ∧ w'.cell? ⟨w.heap.size, 4, none⟩ = some (.int .i64 x.sched) ∧ w'.cell? ⟨w.heap.size, 5, none⟩ = some (.int .i64 x.epoch) ∧ w'.cell? ⟨w.heap.size, 6, none⟩ = some (.slice XA n xc)) (by kernel_rfl) q0 (fun hHeld => ?_)
  refine anyH_take 0 (v := ?_) rfl (by kernel_rfl) (by kernel_rfl) (by kernel_rfl) (fun _ _ _ h => h) (by rfl) hHeld ?_ ?_
  rotate_left
  · (intro w hSw; (try dsimp only at hSw); go_split_ands; go_simp; try with_reducible rfl)
  (try simp only [Act.put, List.setIfInBounds_toArray, List.set_cons_zero, List.set_cons_succ])
  refine anyH_take 1 (v := ?_) rfl (by kernel_rfl) (by kernel_rfl) (by kernel_rfl) (fun _ _ _ h => h) (by rfl) hHeld ?_ ?_
  rotate_left
  · (intro w hSw; (try dsimp only at hSw); go_split_ands; go_simp; try with_reducible rfl)
  (try simp only [Act.put, List.setIfInBounds_toArray, List.set_cons_zero, List.set_cons_succ])
  refine anyH_take 2 (v := ?_) rfl (by kernel_rfl) (by kernel_rfl) (by kernel_rfl) (fun _ _ _ h => h) (by rfl) hHeld ?_ ?_
  rotate_left
  · (intro w hSw; (try dsimp only at hSw); go_split_ands; go_simp; try with_reducible rfl)
  (try simp only [Act.put, List.setIfInBounds_toArray, List.set_cons_zero, List.set_cons_succ])
  refine anyH_take 3 (v := ?_) rfl (by kernel_rfl) (by kernel_rfl) (by kernel_rfl) (fun _ _ _ h => h) (by rfl) hHeld ?_ ?_
  rotate_left
  · (intro w hSw; (try dsimp only at hSw); go_split_ands; go_simp; try with_reducible rfl)
  (try simp only [Act.put, List.setIfInBounds_toArray, List.set_cons_zero, List.set_cons_succ])
  refine anyH_take 4 (v := ?_) rfl (by kernel_rfl) (by kernel_rfl) (by kernel_rfl) (fun _ _ _ h => h) (by rfl) hHeld ?_ ?_
  rotate_left
  · (intro w hSw; (try dsimp only at hSw); go_split_ands; go_simp; try with_reducible rfl)
  (try simp only [Act.put, List.setIfInBounds_toArray, List.set_cons_zero, List.set_cons_succ])
  refine anyH_take 5 (v := ?_) rfl (by kernel_rfl) (by kernel_rfl) (by kernel_rfl) (fun _ _ _ h => h) (by rfl) hHeld ?_ ?_
  rotate_left
  · (intro w hSw; (try dsimp only at hSw); go_split_ands; go_simp; try with_reducible rfl)
  (try simp only [Act.put, List.setIfInBounds_toArray, List.set_cons_zero, List.set_cons_succ])
  refine anyH_one 6 rfl (by kernel_rfl) (fun K hK => ?_)
  go_simp
  refine HAP.out.mono ?_
  rintro e w4 ⟨rfl, hp4, hm4⟩
  have HP4 := hid hp4
  have HM4 := hid hm4
  have q4 := HST.out w6.drew T0.out
  have HG4 := hid (show ∀ j, w4.cell? ⟨gl, j, none⟩ = w6.drew.cell? ⟨gl, j, none⟩ from fun j => World.cell?_of_block (hm4.block gl (Nat.lt_of_lt_of_le hgl (Nat.le_trans HB3.out.size (Nat.le_refl _))) HF4.out))
  have HR4 := hid (show ∀ j, w4.cell? ⟨w.heap.size, j, none⟩ = w6.drew.cell? ⟨w.heap.size, j, none⟩ from fun j => World.cell?_of_block (hm4.block w.heap.size HWS.out (fun h => by have := (HFP.out _ h).2; omega)))
  have q5 : (w4.cell? ⟨gl, 0, none⟩ = some (.pointer (some ⟨ga, 0, none⟩)) ∧ w4.cell? ⟨gl, 1, none⟩ = some (.slice A q c) ∧ w4.cell? ⟨gl, 2, none⟩ = some (.int .i64 room)) ∧ w4.cell? ⟨w.heap.size, 0, none⟩ = some (.int .i64 x.kind) ∧ w4.cell? ⟨w.heap.size, 1, none⟩ = some (.int .i64 x.job) ∧ w4.cell? ⟨w.heap.size, 2, none⟩ = some (.int .i64 x.task) ∧ w4.cell? ⟨w.heap.size, 3, none⟩ = some (.int .i64 x.worker) ∧ w4.cell? ⟨w.heap.size, 4, none⟩ = some (.int .i64 x.sched) ∧ w4.cell? ⟨w.heap.size, 5, none⟩ = some (.int .i64 x.epoch) ∧ w4.cell? ⟨w.heap.size, 6, none⟩ = some (.slice XA n xc) := ⟨⟨(HG4.out 0).trans q4.1.1, (HG4.out 1).trans q4.1.2.1, (HG4.out 2).trans q4.1.2.2⟩, (HR4.out 0).trans q4.2.1, (HR4.out 1).trans q4.2.2.1, (HR4.out 2).trans q4.2.2.2.1, (HR4.out 3).trans q4.2.2.2.2.1, (HR4.out 4).trans q4.2.2.2.2.2.1, (HR4.out 5).trans q4.2.2.2.2.2.2.1, (HR4.out 6).trans q4.2.2.2.2.2.2.2⟩
  clear hp4 hm4
  go_simp
  refine hK.out _ _ q5 (fun hHeld => ?_)
  clear hK K
  (try simp only [Act.put, List.setIfInBounds_toArray, List.set_cons_zero, List.set_cons_succ])
  refine anyH_take 7 (v := ?_) rfl (by kernel_rfl) (by kernel_rfl) (by kernel_rfl) (fun _ _ _ h => h) (by rfl) hHeld ?_ ?_
  rotate_left
  · (intro w hSw; (try dsimp only at hSw); go_split_ands; go_simp; try with_reducible rfl)
  (try simp only [Act.put, List.setIfInBounds_toArray, List.set_cons_zero, List.set_cons_succ])
  refine wpAnyH_done (by kernel_rfl) ?_ _
  have HWL := hid (show w.heap.size ≤ w6.drew.heap.size from Nat.le_of_lt HWS.out)
  have HFW := hid (show ∀ k, FP k → F k ∧ k < w6.drew.heap.size from fun k hk => ⟨(HFP.out k hk).1, Nat.lt_of_lt_of_le (HFP.out k hk).2 HWL.out⟩)
  have H5W := hid (show w6.drew.heap[gl]? = some (.cells #[.pointer (some ⟨ga, 0, none⟩), .slice A q c, .int .i64 room] 54 (0, 0)) from ((bThen (bThen HBV.out HB3.out) T0.out).block gl (Array.getElem?_eq_some_iff.1 HF5.out).1).trans HF5.out)
  have HMW := hid (show Mod F w w4 from (Mod.of_below (bThen (bThen HBV.out HB3.out) T0.out)).trans HM4.out (fun k _ h => (HFP.out k h).1))
  have H54 := hid ((HM4.out.block gl (Nat.lt_of_lt_of_le hgl HB3.out.size) HF4.out).trans H5W.out)
  obtain ⟨⟨c0, c1, c2⟩, _⟩ := q5
  have cf := (cells_of_block H54.out).2.1 1
  clear hHeld q0 q4
  by_cases h0 : r.2.2.2 = 0
  case neg =>
    have hne : (r.2.2.2 != 0) = true := by rw [bne_iff_ne]; exact h0
    have HE := hid (HG2.out.trans (by rw [if_neg h0]))
    have HLG := hid (lg_annal HP4.out HM4.out HFW.out HF3.out HF4.out H5W.out HWL.out (.slice A q c) b SB (Kd.below HF6.out (bThen (bThen HBV.out HB3.out) T0.out)) (fun k _ hk => ⟨.inl (HF7.out k hk).1, (HF7.out k hk).2.1, (HF7.out k hk).2.2.1⟩))
    have HSM := hid (setCell_same H54.out 1 (.slice A q c) rfl)
    clear h0
    go_wp2
    go_ret
    rw [HE.out]
    rw [HSM.out] at HLG
    exact ⟨rfl, HLG.out, HMW.out⟩
  have HE := hid (HG2.out.trans (by rw [if_pos h0]))
  have HLG := hid (lg_annal HP4.out HM4.out HFW.out HF3.out HF4.out H5W.out HWL.out (.slice Ao (nextB b x).length co) (nextB b x) (fun k => w1.heap.size ≤ k) (Kd.below HO2.out (bThen HBT.out T0.out)) (fun k _ hk => ⟨.inr (by have : w1.heap.size ≤ k := hk; have := HB1.out.size; have := HVS.out; omega), fun h => by have := (HFP.out k h).2; have : w1.heap.size ≤ k := hk; have := HB1.out.size; have := HVS.out; omega, fun e => by have := (Array.getElem?_eq_some_iff.1 HF5.out).1; have : w1.heap.size ≤ k := hk; have := HB1.out.size; have := HVS.out; omega⟩))
  have HM5 := hid (HMW.out.setCell (p := ⟨gl, 1, none⟩) (fun _ => HF3.out) (.slice Ao (nextB b x).length co))
  obtain ⟨nl, hnl⟩ : ∃ nl, nl = (nextB b x).length := ⟨_, rfl⟩
  rw [← hnl] at HLG HM5 ⊢
  clear hnl
  rw [h0]
  go_wp2
  go_ret
  rw [HE.out, h0]
  exact ⟨rfl, HLG.out, HM5.out⟩
end Go.Proofs.Ytkjncmmombkllaa
