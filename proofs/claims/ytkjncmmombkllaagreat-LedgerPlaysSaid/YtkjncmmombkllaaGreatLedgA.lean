import Derived.Test.YtkjncmmombkllaaGreatBook9
import Derived.Test.YtkjncmmombkllaaGreatR17B
import Derived.Test.YtkjncmmombkllaaGreatAnnal3
import Derived.Test.YtkjncmmombkllaaGreatBase
/- ledger: the state, and what only reads it. -/
namespace Go.Proofs.YtkjncmmombkllaaGreat
open Go.RowKit Go.Lib

/-! ### plain -/
def keptL : List EntryS → Int
  | [] => 0
  | E :: r => mostR E.id 0 E.needs + keptL r
theorem keptL_snoc (b : List EntryS) (E : EntryS) : keptL (b ++ [E]) = keptL b + mostR E.id 0 E.needs := by
  induction b with
  | nil => simp [keptL]
  | cons x r ih => simp only [List.cons_append, keptL, ih]; omega
theorem mostR16 (job sched : Int) (l : List ByteArray) (h : l.length ≤ 16) : 0 ≤ mostR job sched l ∧ mostR job sched l ≤ 205000 := by
  have hs1 := sizeR_bound ⟨1, job, 0, 0, sched, 0, l⟩
  have hs2 := sizeR_bound ⟨2, job, 0, 0, 0, 1, []⟩
  have hs3 := sizeR_bound ⟨3, job, 0, 0, 0, 0, []⟩
  have hs4 := sizeR_bound ⟨4, job, 0, 0, 0, 1, []⟩
  unfold mostR
  split
  · omega
  · have h1 : 0 ≤ (l.length : Int) * (sizeR ⟨2, job, 0, 0, 0, 1, []⟩ + sizeR ⟨3, job, 0, 0, 0, 0, []⟩) := Int.mul_nonneg (by omega) (by omega)
    have h2 : (l.length : Int) * (sizeR ⟨2, job, 0, 0, 0, 1, []⟩ + sizeR ⟨3, job, 0, 0, 0, 0, []⟩) ≤ 16 * 10000 := Int.mul_le_mul (by omega) (by omega) (by omega) (by omega)
    omega
theorem keptL_bound : ∀ (b : List EntryS), (∀ E ∈ b, EOk E) → 0 ≤ keptL b ∧ keptL b ≤ 205000 * b.length
  | [], _ => by simp [keptL]
  | E :: r, h => by
    have h1 := mostR16 E.id 0 E.needs (h E (by simp)).nl
    have h2 := keptL_bound r (fun E hE => h E (by simp [hE]))
    simp only [keptL, List.length_cons]
    omega
/-! ### a ledger in block gl, over the annal in block ga -/
def LgAt (w : World) (F : Nat → Prop) (gl ga gd : Nat) (D : DiskS) (l : List RecS) (down : Bool) (b : List EntryS) (room : Int) : Prop :=
  ∃ FP SB v, Pair w FP ga gd D l down ∧ (∀ k, FP k → F k) ∧ F gl ∧ ¬ FP gl ∧ w.heap[gl]? = some (.cells #[.pointer (some ⟨ga, 0, none⟩), v, .int .i64 room] 82 (0, 0)) ∧ Kd.entry.slice.K w SB b [v] ∧ (∀ k, SB k → F k ∧ ¬ FP k ∧ k ≠ gl)
section
variable {w w1 : World} {F F' : Nat → Prop} {gl ga gd : Nat} {D : DiskS} {l : List RecS} {down : Bool} {b : List EntryS} {room : Int}
theorem LgAt.mono (h : LgAt w F gl ga gd D l down b room) (hF : ∀ k, k < w.heap.size → F k → F' k) : LgAt w F' gl ga gd D l down b room := by
  obtain ⟨FP, SB, v, h1, h2, h3, h4, h5, h6, h7⟩ := h
  exact ⟨fun k => FP k ∧ k < w.heap.size, fun k => SB k ∧ k < w.heap.size, v, h1.mono (fun k a b => ⟨b, a⟩), fun k hk => hF k hk.2 (h2 k hk.1), hF gl (Array.getElem?_eq_some_iff.1 h5).1 h3, fun h => h4 h.1, h5, Kd.mono _ (fun k a b => ⟨a, b⟩) h6, fun k hk => ⟨hF k hk.2 (h7 k hk.1).1, fun h => (h7 k hk.1).2.1 h.1, (h7 k hk.1).2.2⟩⟩
theorem LgAt.move (h : LgAt w F gl ga gd D l down b room) (hm : ∀ k, k < w.heap.size → F k → w1.heap[k]? = w.heap[k]?) : LgAt w1 F gl ga gd D l down b room := by
  obtain ⟨FP, SB, v, h1, h2, h3, h4, h5, h6, h7⟩ := h
  obtain ⟨T, TD, a1, a2, a3, a4, a5⟩ := h1
  exact ⟨FP, SB, v, ⟨T, TD, a1, a2, a3, a4.move (fun k hk hT => hm k hk (h2 k (a1 k hT))), a5.move (fun k hk hT => hm k hk (h2 k (a2 k hT)))⟩, h2, h3, h4, (hm gl (Array.getElem?_eq_some_iff.1 h5).1 h3).trans h5, Kd.entry.slice.move (fun k hk hl => hm k hl (h7 k hk).1) h6, h7⟩
theorem LgAt.below (h : LgAt w F gl ga gd D l down b room) (hb : Below w.heap.size w w1) : LgAt w1 F gl ga gd D l down b room := h.move (fun k hk _ => hb.block k hk)
theorem LgAt.cells (h : LgAt w F gl ga gd D l down b room) : ∃ A c, w.cell? ⟨gl, 0, none⟩ = some (.pointer (some ⟨ga, 0, none⟩)) ∧ w.cell? ⟨gl, 1, none⟩ = some (.slice A b.length c) ∧ w.cell? ⟨gl, 2, none⟩ = some (.int .i64 room) ∧ (∀ j, w.frozen? ⟨gl, j, none⟩ = false) ∧ gl < w.heap.size ∧ Hid (Kd.entry.slice.K w Any b [.slice A b.length c]) ∧ Hid (∃ FP, Pair w FP ga gd D l down) := by
  obtain ⟨FP, SB, v, h1, h2, h3, h4, h5, h6, h7⟩ := h
  obtain ⟨A, c, he, _⟩ := id h6
  injection he with he _
  subst he
  obtain ⟨q1, q2, q3⟩ := cells_of_block h5
  exact ⟨A, c, q1 0 _ rfl, q1 1 _ rfl, q1 2 _ rfl, q2, q3, Kd.any h6, FP, h1⟩
end
set_option maxHeartbeats 4000000 in
set_option maxRecDepth 100000 in
theorem sdown_calls {w : World} {F : Nat → Prop} {ga gd : Nat} {D : DiskS} {l : List RecS} {down : Bool} (hp : Pair w F ga gd D l down) : Calls Tryz.prog 32 #[.agg #[.pointer (some ⟨ga, 0, none⟩)]] w fun e w' => e = .returned (.bool down) ∧ Below w.heap.size w w' := by
  have HP := hid hp
  obtain ⟨V, hV⟩ : ∃ V, V = w.alloc (.cells #[.pointer (some ⟨ga, 0, none⟩)] 80) := ⟨_, rfl⟩
  have HB := hid (show Below w.heap.size w V by rw [hV]; exact bAlloc (Below.refl _ _) _)
  have x0 := (cells_of_block (show V.heap[w.heap.size]? = some (.cells #[.pointer (some ⟨ga, 0, none⟩)] 80 (0, 0)) by rw [hV]; exact heap_at rfl)).1 0 _ rfl
  have hEq := hV.symm
  clear hp hV
  go_enter Tryz.func32, Tryz.ntmps32
  go_wp2_with fail
  refine (pairDown_calls (HP.out.below HB.out)).mono ?_
  rintro e w1 ⟨rfl, rfl⟩
  go_wp2
  go_ret
  exact ⟨rfl, HB.out⟩
set_option maxHeartbeats 4000000 in
set_option maxRecDepth 100000 in
theorem lmost_calls (job : Int) (l : List ByteArray) (A : Option Addr) (n c : Nat) (w : World) (hn : Kd.str.slice.K w Any l [.slice A n c]) (hn16 : n ≤ 1000000) :
    Calls Tryz.prog 34 #[.int .i64 job, .slice A n c] w fun e w' => e = .returned (.int .i64 (mostR job 0 l)) ∧ Below w.heap.size w w' := by
  have HC := hid (recMost_calls job 0 l A n c w hn hn16)
  clear hn
  go_enter Tryz.func34, Tryz.ntmps34
  go_wp2_with fail
  refine HC.out.mono ?_
  rintro e w1 ⟨rfl, hb1⟩
  go_wp2
  go_ret
  exact ⟨rfl, hb1⟩
set_option maxHeartbeats 4000000 in
set_option maxRecDepth 100000 in
theorem ldown_calls {w : World} {F : Nat → Prop} {gl ga gd : Nat} {D : DiskS} {l : List RecS} {down : Bool} {b : List EntryS} {room : Int} (h : LgAt w F gl ga gd D l down b room) :
    Calls Tryz.prog 23 #[.pointer (some ⟨gl, 0, none⟩)] w fun e w' => e = .returned (.bool down) ∧ Below w.heap.size w w' := by
  obtain ⟨A, c, c0, c1, c2, _, _, _, HP⟩ := h.cells
  clear h
  go_enter Tryz.func23, Tryz.ntmps23
  go_wp2_with fail
  obtain ⟨FP, hp⟩ := HP.out
  refine (sdown_calls hp).mono ?_
  rintro e w1 ⟨rfl, hb1⟩
  go_wp2
  go_ret
  exact ⟨rfl, hb1⟩
set_option maxHeartbeats 4000000 in
set_option maxRecDepth 100000 in
theorem ldown_nil (w : World) : Calls Tryz.prog 23 #[.pointer none] w fun e w' => e = .returned (.bool true) ∧ Below w.heap.size w w' := by
  go_enter Tryz.func23, Tryz.ntmps23
  go_wp2
  go_ret
  exact ⟨rfl, Below.refl _ _⟩
set_option maxHeartbeats 4000000 in
set_option maxRecDepth 100000 in
theorem llen_calls {w : World} {F : Nat → Prop} {gl ga gd : Nat} {D : DiskS} {l : List RecS} {down : Bool} {b : List EntryS} {room : Int} (h : LgAt w F gl ga gd D l down b room) :
    Calls Tryz.prog 24 #[.pointer (some ⟨gl, 0, none⟩)] w fun e w' => e = .returned (.int .i64 l.length) ∧ Below w.heap.size w w' := by
  obtain ⟨A, c, c0, c1, c2, _, _, _, HP⟩ := h.cells
  clear h
  go_enter Tryz.func24, Tryz.ntmps24
  go_wp2_with fail
  obtain ⟨FP, hp⟩ := HP.out
  refine (pairLen_calls hp).mono ?_
  rintro e w1 ⟨rfl, rfl⟩
  go_wp2
  go_ret
  exact ⟨rfl, Below.refl _ _⟩
set_option maxHeartbeats 4000000 in
set_option maxRecDepth 100000 in
theorem llen_nil (w : World) : Calls Tryz.prog 24 #[.pointer none] w fun e w' => e = .returned (.int .i64 0) ∧ Below w.heap.size w w' := by
  go_enter Tryz.func24, Tryz.ntmps24
  go_wp2
  go_ret
  exact ⟨rfl, Below.refl _ _⟩
set_option maxHeartbeats 4000000 in
set_option maxRecDepth 100000 in
theorem lkept_nil (w : World) : Calls Tryz.prog 21 #[.pointer none] w fun e w' => e = .returned (.int .i64 0) ∧ Below w.heap.size w w' := by
  go_enter Tryz.func21, Tryz.ntmps21
  go_wp2
  go_ret
  exact ⟨rfl, Below.refl _ _⟩
set_option maxHeartbeats 4000000 in
set_option maxRecDepth 100000 in
theorem lkept_calls {w : World} {F : Nat → Prop} {gl ga gd : Nat} {D : DiskS} {l : List RecS} {down : Bool} {b : List EntryS} {room : Int} (h : LgAt w F gl ga gd D l down b room) (hok : BOk b) :
    Calls Tryz.prog 21 #[.pointer (some ⟨gl, 0, none⟩)] w fun e w' => e = .returned (.int .i64 (keptL b)) ∧ Below w.heap.size w w' := by
  obtain ⟨A, c, c0, c1, c2, _, _, HK, _⟩ := h.cells
  clear h
  have HOK := hid hok
  obtain ⟨q, hq⟩ : ∃ q, q = b.length := ⟨_, rfl⟩
  have HQ := hid hq
  have hq40 : q ≤ 40 := by rw [hq]; exact hok.2
  rw [← hq] at c1 HK
  clear hok hq
  go_enter Tryz.func21, Tryz.ntmps21
  go_wp2
  go_loopw [3, 13] (fun o i wr => ∃ (k : Nat) (s : Int), k ≤ q ∧ o = .int .i64 s ∧ i = .int .i64 k ∧ Hid (s = keptL (b.take k)) ∧ Hid (Below w.heap.size w wr)) (fun _ i _ => q - (intOf i).toNat)
  case atStart => exact ⟨0, 0, by omega, rfl, rfl, hid (by simp [keptL]), hid (Below.refl _ _)⟩
  case round =>
    obtain ⟨k, s, hk, rfl, rfl, HS, HB⟩ := hrel
    by_cases hlt : k < q
    · obtain ⟨a, E, EA, EB, ED, ea, eb, ed, rfl, hx, k1, k2, k3, r0, r1, r2, r3, r4, r5⟩ := (K_row (Kd.below HK.out HB.out)).1.at_entry k (by rw [← HQ.out]; exact hlt)
      have HEO := hid (HOK.out.1 E (List.mem_of_getElem? hx))
      have HTS := hid (show keptL (b.take (k + 1)) = keptL (b.take k) + mostR E.id 0 E.needs by rw [take_snoc hx, keptL_snoc])
      have hmb := mostR16 E.id 0 E.needs HEO.out.nl
      have hsb := keptL_bound (b.take k) (fun E hE => HOK.out.1 E (List.mem_of_mem_take hE))
      rw [← HS.out] at hsb
      have hkl : (b.take k).length ≤ 40 := by rw [List.length_take]; have := HQ.out; omega
      have hltI : (k : Int) < (q : Int) := by omega
      have hk0 : (0 : Int) ≤ (k : Int) := by omega
      have hw : IntKind.i64.wrap ((k : Int) + 1) = (k : Int) + 1 := IntWalk.i64_in _ (by omega)
      have hw2 : IntKind.i64.wrap (s + mostR E.id 0 E.needs) = s + mostR E.id 0 E.needs := IntWalk.i64_in _ (by omega)
      obtain ⟨Wa, hWa⟩ : ∃ Wa, Wa = wr.alloc (.cells #[.int .i64 E.id, .int .i64 E.sched, .int .i64 E.epoch, .slice EA E.needs.length ea, .slice EB E.bound.length eb, .slice ED E.done.length ed] 55) := ⟨_, rfl⟩
      have HBa := hid (show Below wr.heap.size wr Wa by rw [hWa]; exact bAlloc (Below.refl _ _) _)
      obtain ⟨y1, _, _⟩ := cells_of_block (show Wa.heap[wr.heap.size]? = some (.cells #[.int .i64 E.id, .int .i64 E.sched, .int .i64 E.epoch, .slice EA E.needs.length ea, .slice EB E.bound.length eb, .slice ED E.done.length ed] 55 (0, 0)) by rw [hWa]; exact heap_at rfl)
      have z0 := y1 0 _ rfl
      have z3 := y1 3 _ rfl
      have HK1 := hid (Kd.below k1 HBa.out)
      have hEq := hWa.symm
      clear hx k1 k2 k3 y1 hWa hmb hsb hkl
      go_wp2_with fail
      refine (lmost_calls E.id E.needs EA E.needs.length ea Wa HK1.out (by have := HEO.out.nl; omega)).mono ?_
      rintro e w1 ⟨rfl, hb1⟩
      have HB1 := hid (bThen HB.out (bThen HBa.out hb1))
      clear hb1 z0 z3 r0 r1 r2 r3 r4 r5 hEq
      obtain ⟨m, hm⟩ : ∃ m, m = mostR E.id 0 E.needs := ⟨_, rfl⟩
      rw [← hm] at hw2 HTS ⊢
      clear hm
      go_wp2
      go_roundw
      case rel => exact ⟨k + 1, s + m, by omega, by go_num, by go_num, hid (by rw [HTS.out, HS.out]), HB1⟩
      case measure => simp [intOf]; omega
    · obtain rfl : k = q := by omega
      have HF := hid (show s = keptL b by rw [HS.out, List.take_of_length_le (by rw [HQ.out]; exact Nat.le_refl _)])
      go_wp2
      go_ret
      rw [HF.out]
      exact ⟨rfl, HB.out⟩
set_option maxHeartbeats 4000000 in
set_option maxRecDepth 100000 in
theorem lbook_calls {w : World} {F : Nat → Prop} {gl ga gd : Nat} {D : DiskS} {l : List RecS} {down : Bool} {b : List EntryS} {room : Int} (h : LgAt w F gl ga gd D l down b room) (hok : BOk b) :
    Calls Tryz.prog 20 #[.pointer (some ⟨gl, 0, none⟩)] w fun e w' => ∃ o, e = .returned o ∧ Own Kd.entry 55 w' w.heap.size (fun k => w.heap.size ≤ k) o b ∧ Below w.heap.size w w' := by
  obtain ⟨A, c, c0, c1, c2, _, _, HK, _⟩ := h.cells
  clear h
  have HC := hid (bclone_calls b _ w HK.out (fun E hE => (hok.1 E hE).fits) (by have := hok.2; omega))
  clear hok
  go_enter Tryz.func20, Tryz.ntmps20
  go_wp2_with fail
  refine HC.out.mono ?_
  rintro e w1 ⟨o, rfl, hO, hb1⟩
  have HO := hid hO
  obtain ⟨Ao, no, co, rfl, hno, _⟩ := hO.shape'
  clear hno hO
  go_wp2
  go_ret
  exact ⟨_, rfl, HO.out, hb1⟩
set_option maxHeartbeats 4000000 in
set_option maxRecDepth 100000 in
theorem lbook_nil (w : World) : Calls Tryz.prog 20 #[.pointer none] w fun e w' => e = .returned (.slice none 0 0) ∧ Below w.heap.size w w' := by
  go_enter Tryz.func20, Tryz.ntmps20
  go_wp2
  go_ret
  exact ⟨rfl, Below.refl _ _⟩
set_option maxHeartbeats 4000000 in
set_option maxRecDepth 100000 in
theorem lentry_calls {w : World} {F : Nat → Prop} {gl ga gd : Nat} {D : DiskS} {l : List RecS} {down : Bool} {b : List EntryS} {room : Int} (h : LgAt w F gl ga gd D l down b room) (hok : BOk b) (j : Int) :
    Calls Tryz.prog 16 #[.pointer (some ⟨gl, 0, none⟩), .int .i64 j] w fun e w' => ∃ FA FB FD fa fb fd, e = .returned (.tuple #[.agg #[.int .i64 ((findE b j).getD zeroE).id, .int .i64 ((findE b j).getD zeroE).sched, .int .i64 ((findE b j).getD zeroE).epoch, .slice FA ((findE b j).getD zeroE).needs.length fa, .slice FB ((findE b j).getD zeroE).bound.length fb, .slice FD ((findE b j).getD zeroE).done.length fd], .bool (findE b j).isSome]) ∧ ENew w' w.heap.size ((findE b j).getD zeroE) FA FB FD fa fb fd ∧ Below w.heap.size w w' := by
  obtain ⟨A, c, c0, c1, c2, hf, hg, HK, _⟩ := h.cells
  obtain ⟨W0, hW0⟩ : ∃ W0, W0 = w.alloc (.cells #[.int .i64 0, .int .i64 0, .int .i64 0, .slice none 0 0, .slice none 0 0, .slice none 0 0] 55) := ⟨_, rfl⟩
  have b0 := hid (show Below w.heap.size w W0 by rw [hW0]; exact bAlloc (Below.refl _ _) _)
  have HZ0 := hid (show W0.heap[w.heap.size]? = some (.cells #[.int .i64 0, .int .i64 0, .int .i64 0, .slice none 0 0, .slice none 0 0, .slice none 0 0] 55 (0, 0)) by rw [hW0]; exact heap_at rfl)
  have HS0 := hid (show w.heap.size < W0.heap.size by rw [hW0]; simp)
  have c1' := ((bcell b0.out).1 gl 1 hg).trans c1
  have HC := hid (bfind_calls b j _ W0 (Kd.below HK.out b0.out) (fun E hE => (hok.1 E hE).fits))
  have hEq := hW0.symm
  clear h hok c0 c1 c2 hf HK hW0
  go_enter Tryz.func16, Tryz.ntmps16
  go_wp2_with fail
  refine HC.out.mono ?_
  rintro e w2 ⟨FA, FB, FD, fa, fb, fd, rfl, hN, hb2⟩
  obtain ⟨E, hE⟩ : ∃ E, E = (findE b j).getD zeroE := ⟨_, rfl⟩
  obtain ⟨is, his⟩ : ∃ is, is = (findE b j).isSome := ⟨_, rfl⟩
  rw [← hE] at hN ⊢
  rw [← his]
  have HE := hid hE
  have HIS := hid his
  clear hE his HC
  have hz2 := (hb2.block _ HS0.out).trans HZ0.out
  obtain ⟨W', hW', _, T0, T1, T2, T3, T4, T5, TB, TN, _⟩ := set6 hz2 (.int .i64 E.id) (.int .i64 E.sched) (.int .i64 E.epoch) (.slice FA E.needs.length fa) (.slice FB E.bound.length fb) (.slice FD E.done.length fd)
  obtain ⟨p5, g5, l5⟩ := cells_of_block hz2
  have q0 := p5 0 _ rfl
  have q1 := p5 1 _ rfl
  have q2 := p5 2 _ rfl
  have q3 := p5 3 _ rfl
  have q4 := p5 4 _ rfl
  have q5 := p5 5 _ rfl
  have u0 := g5 0
  have u1 := g5 1
  have u2 := g5 2
  have u3 := g5 3
  have u4 := g5 4
  have u5 := g5 5
  have B4 := hid (show Below w.heap.size w W' from (bThen b0.out hb2).trans TB)
  have M1 := hid (Kd.str.slice.move (w1 := W') (fun k (hk : W0.heap.size ≤ k) _ => TN k (by have := HS0.out; omega)) hN.needs)
  have M2 := hid (I64.slice.move (w1 := W') (fun k (hk : W0.heap.size ≤ k) _ => TN k (by have := HS0.out; omega)) hN.bound)
  have M3 := hid (Kd.bool.slice.move (w1 := W') (fun k (hk : W0.heap.size ≤ k) _ => TN k (by have := HS0.out; omega)) hN.done)
  clear p5 g5 hz2 TB TN hN hb2
  go_wp2
  rw [← hW']
  refine bodyPost_ret (by simp [results, Tryz.results16, go_sem, T0, T1, T2, T3, T4, T5]; try rfl) rfl ?_
  rw [← HE.out, ← HIS.out]
  exact ⟨FA, FB, FD, fa, fb, fd, rfl, ⟨Kd.str.slice.mono (fun k hk _ => by have := HS0.out; omega) M1.out, I64.slice.mono (fun k hk _ => by have := HS0.out; omega) M2.out, Kd.bool.slice.mono (fun k hk _ => by have := HS0.out; omega) M3.out⟩, B4.out⟩
end Go.Proofs.YtkjncmmombkllaaGreat
/- ledger.Open, Put. -/
namespace Go.Proofs.YtkjncmmombkllaaGreat
open Go.RowKit Go.Lib

/-- What a Put answers, and leaves. -/
structure GS where
  D : DiskS
  l : List RecS
  down : Bool
  b : List EntryS
  e : Int
def putG (D : DiskS) (l : List RecS) (down : Bool) (b : List EntryS) (room : Int) (x : RecS) : GS :=
  if down then ⟨D, l, down, b, 15⟩
  else if whyB b x ≠ 0 then ⟨D, l, down, b, whyB b x⟩
  else if x.kind = 1 ∧ room < keptL b + mostR x.job 0 x.needs then ⟨D, l, down, b, 7⟩
  else ⟨(anApp D l down x).1, (anApp D l down x).2.1, (anApp D l down x).2.2.1, if (anApp D l down x).2.2.2 = 0 then nextB b x else b, (anApp D l down x).2.2.2⟩
section
variable {w w1 : World} {F F' : Nat → Prop} {gl ga gd : Nat} {D : DiskS} {l : List RecS} {down : Bool} {b : List EntryS} {room : Int}
theorem LgAt.parts (h : LgAt w F gl ga gd D l down b room) : ∃ FP SB A c, Pair w FP ga gd D l down ∧ (∀ k, FP k → F k ∧ k < w.heap.size) ∧ F gl ∧ ¬ FP gl ∧ w.heap[gl]? = some (.cells #[.pointer (some ⟨ga, 0, none⟩), .slice A b.length c, .int .i64 room] 82 (0, 0)) ∧ Kd.entry.slice.K w SB b [.slice A b.length c] ∧ (∀ k, SB k → F k ∧ ¬ FP k ∧ k ≠ gl ∧ k < w.heap.size) := by
  obtain ⟨FP, SB, v, h1, h2, h3, h4, h5, h6, h7⟩ := h
  obtain ⟨A, c, he, _⟩ := id h6
  injection he with he _
  subst he
  exact ⟨fun k => FP k ∧ k < w.heap.size, fun k => SB k ∧ k < w.heap.size, A, c, h1.mono (fun k a b => ⟨b, a⟩), fun k hk => ⟨h2 k hk.1, hk.2⟩, h3, fun h => h4 h.1, h5, Kd.mono _ (fun k a b => ⟨a, b⟩) h6, fun k hk => ⟨(h7 k hk.1).1, fun h => (h7 k hk.1).2.1 h.1, (h7 k hk.1).2.2, hk.2⟩⟩
/-- Its annal has gone on. -/
theorem lg_annal {FP : Nat → Prop} {v : Value} {D' : DiskS} {l' : List RecS} {down' : Bool} {B : Nat} (hp : Pair w1 (fun k => FP k ∨ w.heap.size ≤ k) ga gd D' l' down') (hm : Mod FP w w1) (hF : ∀ k, FP k → F k ∧ k < w.heap.size) (h3 : F gl) (h4 : ¬ FP gl)
    (h5 : w.heap[gl]? = some (.cells #[.pointer (some ⟨ga, 0, none⟩), v, .int .i64 room] 82 (0, 0))) (hB : B ≤ w.heap.size) (u : Value) (b' : List EntryS) (SB' : Nat → Prop) (h6 : Kd.entry.slice.K w SB' b' [u]) (h7 : ∀ k, k < w.heap.size → SB' k → (F k ∨ B ≤ k) ∧ ¬ FP k ∧ k ≠ gl) :
    LgAt (w1.setCell ⟨gl, 1, none⟩ u) (fun k => F k ∨ B ≤ k) gl ga gd D' l' down' b' room := by
  have hgl := (Array.getElem?_eq_some_iff.1 h5).1
  have hs := hm.size
  obtain ⟨T, TD, a1, a2, a3, a4, a5⟩ := hp.mono (F' := fun k => FP k ∨ w.heap.size ≤ k ∧ k < w1.heap.size) (fun k hk h => h.elim .inl (fun h => .inr ⟨h, hk⟩))
  have hN : ∀ k, k ≠ gl → (w1.setCell ⟨gl, 1, none⟩ u).heap[k]? = w1.heap[k]? := fun k hk => Below.heap_setCell _ _ _ _ hk
  have hne : ∀ k, (FP k ∨ w.heap.size ≤ k ∧ k < w1.heap.size) → k ≠ gl := fun k hk e => by
    subst e
    rcases hk with hk | hk
    · exact h4 hk
    · omega
  refine ⟨fun k => FP k ∨ w.heap.size ≤ k ∧ k < w1.heap.size, fun k => SB' k ∧ k < w.heap.size, u, ⟨T, TD, a1, a2, a3, a4.move (fun k hk hT => hN k (hne k (a1 k hT))), a5.move (fun k hk hT => hN k (hne k (a2 k hT)))⟩, fun k hk => ?_, .inl h3, fun h => hne gl h rfl, ?_, ?_, fun k hk => ?_⟩
  · rcases hk with hk | hk
    · exact .inl (hF k hk).1
    · exact .inr (by omega)
  · have h := heap_set ((hm.block gl hgl h4).trans h5) 1 u
    simpa using h
  · exact Kd.entry.slice.move (fun k hk hl => (hN k (h7 k hk.2 hk.1).2.2).trans (hm.block k hk.2 (h7 k hk.2 hk.1).2.1)) (Kd.mono _ (fun k a b => ⟨a, b⟩) h6)
  · obtain ⟨q1, q2, q3⟩ := h7 k hk.2 hk.1
    exact ⟨q1, fun h => h.elim q2 (fun h => by have := hk.2; omega), q3⟩
theorem setCell_same {W : World} {g : Nat} {cs : Array Value} {t : TypeId} {fr : Nat × Nat} (h : W.heap[g]? = some (.cells cs t fr)) (j : Nat) (u : Value) (hu : cs[j]? = some u) : W.setCell ⟨g, j, none⟩ u = W := by
  have h2 := heap_set h j u
  have : cs.setIfInBounds j u = cs := by
    obtain ⟨hj, he⟩ := Array.getElem?_eq_some_iff.1 hu
    subst he
    apply Array.ext_getElem?
    intro k
    rw [Array.getElem?_setIfInBounds]
    split
    · rename_i e
      subst e
      simp [hj]
    · rfl
  rw [this] at h2
  have h3 : (W.setCell ⟨g, j, none⟩ u).heap = W.heap := by
    apply Array.ext_getElem?
    intro k
    by_cases hk : k = g
    · subst hk; exact h2.trans h.symm
    · exact Below.heap_setCell _ _ _ _ hk
  unfold World.setCell at h3 ⊢
  cases W
  simp only [World.mk.injEq, and_true] at h3 ⊢
  simpa using h3
end
set_option maxHeartbeats 4000000 in
set_option maxRecDepth 100000 in
theorem lput_nil (x : RecS) (XA : Option Addr) (xc : Nat) (w : World) : Calls Tryz.prog 13 #[.pointer none, .agg #[.int .i64 x.kind, .int .i64 x.job, .int .i64 x.task, .int .i64 x.worker, .int .i64 x.sched, .int .i64 x.epoch, .slice XA x.needs.length xc]] w fun e w' => e = .returned (.int .i64 1) ∧ Below w.heap.size w w' := by
  go_enter Tryz.func13, Tryz.ntmps13
  go_wp2
  go_ret
  exact ⟨rfl, bAlloc (Below.refl _ _) _⟩
set_option maxHeartbeats 4000000 in
set_option maxRecDepth 100000 in
theorem lput_calls {w : World} {F : Nat → Prop} {gl ga gd : Nat} {D : DiskS} {l : List RecS} {down : Bool} {b : List EntryS} {room : Int} (h : LgAt w F gl ga gd D l down b room) (hok : BOk b) (x : RecS) (XA : Option Addr) (xc : Nat) (hx : Kd.str.slice.K w (fun k => ¬ F k) x.needs [.slice XA x.needs.length xc]) (hll : l.length < 100000) :
    Calls Tryz.prog 13 #[.pointer (some ⟨gl, 0, none⟩), .agg #[.int .i64 x.kind, .int .i64 x.job, .int .i64 x.task, .int .i64 x.worker, .int .i64 x.sched, .int .i64 x.epoch, .slice XA x.needs.length xc]] w fun e w' => e = .returned (.int .i64 (putG D l down b room x).e) ∧ LgAt w' (fun k => F k ∨ w.heap.size ≤ k) gl ga gd (putG D l down b room x).D (putG D l down b room x).l (putG D l down b room x).down (putG D l down b room x).b room ∧ Mod F w w' := by
  obtain ⟨V, hV⟩ : ∃ V, V = w.alloc (.cells #[.int .i64 x.kind, .int .i64 x.job, .int .i64 x.task, .int .i64 x.worker, .int .i64 x.sched, .int .i64 x.epoch, .slice XA x.needs.length xc] 46) := ⟨_, rfl⟩
  have hb0 : Below w.heap.size w V := by rw [hV]; exact bAlloc (Below.refl _ _) _
  have HZ := hid (show V.heap[w.heap.size]? = some (.cells #[.int .i64 x.kind, .int .i64 x.job, .int .i64 x.task, .int .i64 x.worker, .int .i64 x.sched, .int .i64 x.epoch, .slice XA x.needs.length xc] 46 (0, 0)) by rw [hV]; exact heap_at rfl)
  have HVS := hid (show V.heap.size = w.heap.size + 1 by rw [hV]; simp)
  have HBV := hid hb0
  have HL := hid (h.below hb0)
  obtain ⟨FP, SB, A, c, hp, hF, h3, h4, h5, h6, h7⟩ := h.parts
  have HPP := hid hp
  have HFP := hid hF
  have HF3 := hid h3
  have HF4 := hid h4
  have HF5 := hid h5
  have HF6 := hid h6
  have HF7 := hid h7
  have HXN := hid (show Kd.str.slice.K w (fun k => ¬ FP k) x.needs [.slice XA x.needs.length xc] from Kd.mono _ (fun k hk _ h => hk (hF k h).1) hx)
  have HX := hid (Kd.below hx hb0)
  have HOK := hid hok
  have HLL := hid hll
  have HG := hid (show ∃ G, G = putG D l down b room x from ⟨_, rfl⟩)
  have hEq := hV.symm
  obtain ⟨q, hq⟩ : ∃ q, q = b.length := ⟨_, rfl⟩
  have HQ := hid hq
  obtain ⟨n, hn⟩ : ∃ n, n = x.needs.length := ⟨_, rfl⟩
  have HN := hid hn
  rw [← hn] at HX HZ hEq ⊢
  have HR := hid (fun (u : World) (h : Below V.heap.size V u) => rec_cells (x := x) (A := XA) (n := n) (c := xc) ((h.block w.heap.size (Array.getElem?_eq_some_iff.1 HZ.out).1).trans HZ.out))
  have hgl : gl < V.heap.size := Nat.lt_of_lt_of_le (Array.getElem?_eq_some_iff.1 h5).1 hb0.size
  obtain ⟨p1, pf, _⟩ := cells_of_block ((hb0.block _ (Array.getElem?_eq_some_iff.1 h5).1).trans h5)
  have c0 := p1 0 _ rfl
  have c1 := p1 1 _ rfl
  have c2 := p1 2 _ rfl
  have HK := hid (Kd.any (Kd.below h6 hb0))
  rw [← hn] at HXN
  rw [← hq] at HK HF5 HF6
  dsimp only [List.getElem_toArray] at c0 c1 c2
  change _ = some (Value.slice A b.length c) at c1
  change _ = some (Value.pointer (some ⟨ga, 0, none⟩)) at c0
  change _ = some (Value.int .i64 room) at c2
  rw [← hq] at c1
  clear p1 pf
  have HCL := hid (fun (u : World) (h : Below V.heap.size V u) => show (u.cell? ⟨gl, 0, none⟩ = some (.pointer (some ⟨ga, 0, none⟩)) ∧ u.cell? ⟨gl, 1, none⟩ = some (.slice A q c) ∧ u.cell? ⟨gl, 2, none⟩ = some (.int .i64 room)) from ⟨((bcell h).1 _ _ hgl).trans c0, ((bcell h).1 _ _ hgl).trans c1, ((bcell h).1 _ _ hgl).trans c2⟩)
  clear hV hb0 h hx hok hll hq hn hp hF h3 h4 h5 h6 h7
  go_enter Tryz.func13, Tryz.ntmps13
  go_wp2_with fail
  refine (sdown_calls (HPP.out.below HBV.out)).mono ?_
  rintro e w1 ⟨rfl, hb1⟩
  have HB1 := hid hb1
  clear hb1 hEq c0 c1 c2
  obtain ⟨c0, c1, c2⟩ := HCL.out w1 HB1.out
  cases hdn : down
  case true =>
    have HE := hid (show putG D l true b room x = ⟨D, l, true, b, 15⟩ from rfl)
    subst hdn
    go_wp2
    go_ret
    rw [HE.out]
    exact ⟨rfl, ((HL.out.below HB1.out).mono (fun k _ h => .inl h)), Mod.of_below (bThen HBV.out HB1.out)⟩
  subst hdn
  have HG0 := hid (show putG D l false b room x = if whyB b x ≠ 0 then ⟨D, l, false, b, whyB b x⟩ else if x.kind = 1 ∧ room < keptL b + mostR x.job 0 x.needs then ⟨D, l, false, b, 7⟩ else ⟨(anApp D l false x).1, (anApp D l false x).2.1, (anApp D l false x).2.2.1, if (anApp D l false x).2.2.2 = 0 then nextB b x else b, (anApp D l false x).2.2.2⟩ from rfl)
  have HS1 := hid (fun (u : World) (h : Below w1.heap.size w1 u) => And.intro (HCL.out u (bThen HB1.out h)) (HR.out u (bThen HB1.out h)))
  have U0 := hid (Below.refl w1.heap.size w1).drew
  have q0 := HS1.out w1.drew U0.out
  have HKV := hid (Kd.below HK.out HB1.out)
  have HXV := hid (Kd.any (Kd.below HX.out HB1.out))
  go_wp2_with fail
  refine wp_region_held_drew (S := fun w' => (w'.cell? ⟨gl, 0, none⟩ = some (.pointer (some ⟨ga, 0, none⟩)) ∧ w'.cell? ⟨gl, 1, none⟩ = some (.slice A q c) ∧ w'.cell? ⟨gl, 2, none⟩ = some (.int .i64 room)) ∧ w'.cell? ⟨w.heap.size, 0, none⟩ = some (.int .i64 x.kind) ∧ w'.cell? ⟨w.heap.size, 1, none⟩ = some (.int .i64 x.job) ∧ w'.cell? ⟨w.heap.size, 2, none⟩ = some (.int .i64 x.task) ∧ w'.cell? ⟨w.heap.size, 3, none⟩ = some (.int .i64 x.worker) ∧ w'.cell? ⟨w.heap.size, 4, none⟩ = some (.int .i64 x.sched) ∧ w'.cell? ⟨w.heap.size, 5, none⟩ = some (.int .i64 x.epoch) ∧ w'.cell? ⟨w.heap.size, 6, none⟩ = some (.slice XA n xc)) (by kernel_rfl) q0 (fun hHeld => ?_)
  refine anyH_take 0 (v := ?_) rfl (by kernel_rfl) (by kernel_rfl) (by kernel_rfl) (fun _ _ _ h => h) (by rfl) hHeld ?_ ?_
  rotate_left
  · (intro w hSw; (try dsimp only at hSw); go_split_ands; go_simp; try with_reducible rfl)
  (try simp only [Act.put, List.setIfInBounds_toArray, List.set_cons_zero, List.set_cons_succ])
  refine anyH_take 1 (v := ?_) rfl (by kernel_rfl) (by kernel_rfl) (by kernel_rfl) (fun _ _ _ h => h) (by rfl) hHeld ?_ ?_
  rotate_left
  · (intro w hSw; (try dsimp only at hSw); go_split_ands; go_simp; try with_reducible rfl)
  (try simp only [Act.put, List.setIfInBounds_toArray, List.set_cons_zero, List.set_cons_succ])
  refine anyH_take 2 (v := ?_) rfl (by kernel_rfl) (by kernel_rfl) (by kernel_rfl) (fun _ _ _ h => h) (by rfl) hHeld ?_ ?_
  rotate_left
  · (intro w hSw; (try dsimp only at hSw); go_split_ands; go_simp; try with_reducible rfl)
  (try simp only [Act.put, List.setIfInBounds_toArray, List.set_cons_zero, List.set_cons_succ])
  refine anyH_take 3 (v := ?_) rfl (by kernel_rfl) (by kernel_rfl) (by kernel_rfl) (fun _ _ _ h => h) (by rfl) hHeld ?_ ?_
  rotate_left
  · (intro w hSw; (try dsimp only at hSw); go_split_ands; go_simp; try with_reducible rfl)
  (try simp only [Act.put, List.setIfInBounds_toArray, List.set_cons_zero, List.set_cons_succ])
  refine anyH_take 4 (v := ?_) rfl (by kernel_rfl) (by kernel_rfl) (by kernel_rfl) (fun _ _ _ h => h) (by rfl) hHeld ?_ ?_
  rotate_left
  · (intro w hSw; (try dsimp only at hSw); go_split_ands; go_simp; try with_reducible rfl)
  (try simp only [Act.put, List.setIfInBounds_toArray, List.set_cons_zero, List.set_cons_succ])
  refine anyH_one 5 rfl (by kernel_rfl) (fun K hK => ?_)
  go_simp
  have hst := bstep_calls b (.slice A q c) x XA xc w1.drew (Kd.below HKV.out U0.out) (by rw [← HN.out]; exact Kd.below HXV.out U0.out) HOK.out
  rw [← HN.out] at hst
  refine hst.mono ?_
  clear hst
  rintro e w2 ⟨o, rfl, hO, hb2⟩
  have U1 := hid (bThen U0.out hb2)
  have HO := hid hO
  obtain ⟨Ao, co, he, _, _, _⟩ := hO
  injection he with he _
  subst he
  clear hb2
  go_simp
  refine hK.out _ _ (HS1.out _ U1.out) (fun hHeld => ?_)
  clear hK K
  (try simp only [Act.put, List.setIfInBounds_toArray, List.set_cons_zero, List.set_cons_succ])
  refine anyH_take 6 (v := ?_) rfl (by kernel_rfl) (by kernel_rfl) (by kernel_rfl) (fun _ _ _ h => h) (by rfl) hHeld ?_ ?_
  rotate_left
  · (intro w hSw; (try dsimp only at hSw); go_split_ands; go_simp; try with_reducible rfl)
  (try simp only [Act.put, List.setIfInBounds_toArray, List.set_cons_zero, List.set_cons_succ])
  refine anyH_take 7 (v := ?_) rfl (by kernel_rfl) (by kernel_rfl) (by kernel_rfl) (fun _ _ _ h => h) (by rfl) hHeld ?_ ?_
  rotate_left
  · (intro w hSw; (try dsimp only at hSw); go_split_ands; go_simp; try with_reducible rfl)
  (try simp only [Act.put, List.setIfInBounds_toArray, List.set_cons_zero, List.set_cons_succ])
  refine anyH_take 8 (v := ?_) rfl (by kernel_rfl) (by kernel_rfl) (by kernel_rfl) (fun _ _ _ h => h) (by rfl) hHeld ?_ ?_
  rotate_left
  · (intro w hSw; (try dsimp only at hSw); go_split_ands; go_simp; try with_reducible rfl)
  (try simp only [Act.put, List.setIfInBounds_toArray, List.set_cons_zero, List.set_cons_succ])
  refine anyH_take 9 (v := ?_) rfl (by kernel_rfl) (by kernel_rfl) (by kernel_rfl) (fun _ _ _ h => h) (by rfl) hHeld ?_ ?_
  rotate_left
  · (intro w hSw; (try dsimp only at hSw); go_split_ands; go_simp; try with_reducible rfl)
  (try simp only [Act.put, List.setIfInBounds_toArray, List.set_cons_zero, List.set_cons_succ])
  refine anyH_take 10 (v := ?_) rfl (by kernel_rfl) (by kernel_rfl) (by kernel_rfl) (fun _ _ _ h => h) (by rfl) hHeld ?_ ?_
  rotate_left
  · (intro w hSw; (try dsimp only at hSw); go_split_ands; go_simp; try with_reducible rfl)
  (try simp only [Act.put, List.setIfInBounds_toArray, List.set_cons_zero, List.set_cons_succ])
  refine wpAnyH_done (by kernel_rfl) ?_ _
  have HB2 := hid (bThen HB1.out U1.out)
  have HO2 := hid (Kd.entry.slice.mono (S' := fun k => w1.heap.size ≤ k) (fun k (hk : w1.drew.heap.size ≤ k) _ => hk) HO.out)
  have HL2 := hid (HL.out.below HB2.out)
  clear c0 c1 c2 q0 hHeld HS1 HO HK HKV HXV
  obtain ⟨⟨c0, c1, c2⟩, x0, x1, x2, x3, x4, x5, x6⟩ := And.intro (HCL.out w2 HB2.out) (HR.out w2 HB2.out)
  by_cases hwy : whyB b x = 0
  case neg =>
    have hne : (whyB b x != 0) = true := by rw [bne_iff_ne]; exact hwy
    have HE := hid (HG0.out.trans (if_pos hwy))
    clear hwy
    go_wp2
    go_ret
    rw [HE.out]
    exact ⟨rfl, HL2.out.mono (fun k _ h => .inl h), Mod.of_below (bThen HBV.out HB2.out)⟩
  have HG1 := hid (HG0.out.trans (if_neg (fun h => h hwy)))
  have HWY := hid hwy
  have HREC := hid (whyB_rec hwy)
  rw [hwy]
  clear hwy HG0

  by_cases hk : x.kind = 1
  case neg =>
    have hk1 : (x.kind == (1 : Int)) = false := by rw [beq_eq_false_iff_ne]; exact hk
    have HG2 := hid (HG1.out.trans (if_neg (fun h => hk h.1)))
    have HS2 := hid (fun (u : World) (h : Below w2.heap.size w2 u) => And.intro (HCL.out u (bThen HB2.out h)) (HR.out u (bThen HB2.out h)))
    have V0 := hid (Below.refl w2.heap.size w2).drew
    have q0 := HS2.out w2.drew V0.out
    clear hk
    go_wp2_with fail
    refine wp_region_held_drew (S := fun w' => (w'.cell? ⟨gl, 0, none⟩ = some (.pointer (some ⟨ga, 0, none⟩)) ∧ w'.cell? ⟨gl, 1, none⟩ = some (.slice A q c) ∧ w'.cell? ⟨gl, 2, none⟩ = some (.int .i64 room)) ∧ w'.cell? ⟨w.heap.size, 0, none⟩ = some (.int .i64 x.kind) ∧ w'.cell? ⟨w.heap.size, 1, none⟩ = some (.int .i64 x.job) ∧ w'.cell? ⟨w.heap.size, 2, none⟩ = some (.int .i64 x.task) ∧ w'.cell? ⟨w.heap.size, 3, none⟩ = some (.int .i64 x.worker) ∧ w'.cell? ⟨w.heap.size, 4, none⟩ = some (.int .i64 x.sched) ∧ w'.cell? ⟨w.heap.size, 5, none⟩ = some (.int .i64 x.epoch) ∧ w'.cell? ⟨w.heap.size, 6, none⟩ = some (.slice XA n xc)) (by kernel_rfl) q0 (fun hHeld => ?_)
    refine anyH_take 0 (v := ?_) rfl (by kernel_rfl) (by kernel_rfl) (by kernel_rfl) (fun _ _ _ h => h) (by rfl) hHeld ?_ ?_
    rotate_left
    · (intro w hSw; (try dsimp only at hSw); go_split_ands; go_simp; try with_reducible rfl)
    (try simp only [Act.put, List.setIfInBounds_toArray, List.set_cons_zero, List.set_cons_succ])
    refine anyH_take 1 (v := ?_) rfl (by kernel_rfl) (by kernel_rfl) (by kernel_rfl) (fun _ _ _ h => h) (by rfl) hHeld ?_ ?_
    rotate_left
    · (intro w hSw; (try dsimp only at hSw); go_split_ands; go_simp; try with_reducible rfl)
    (try simp only [Act.put, List.setIfInBounds_toArray, List.set_cons_zero, List.set_cons_succ])
    refine anyH_take 2 (v := ?_) rfl (by kernel_rfl) (by kernel_rfl) (by kernel_rfl) (fun _ _ _ h => h) (by rfl) hHeld ?_ ?_
    rotate_left
    · (intro w hSw; (try dsimp only at hSw); go_split_ands; go_simp; try with_reducible rfl)
    (try simp only [Act.put, List.setIfInBounds_toArray, List.set_cons_zero, List.set_cons_succ])
    refine anyH_take 3 (v := ?_) rfl (by kernel_rfl) (by kernel_rfl) (by kernel_rfl) (fun _ _ _ h => h) (by rfl) hHeld ?_ ?_
    rotate_left
    · (intro w hSw; (try dsimp only at hSw); go_split_ands; go_simp; try with_reducible rfl)
    (try simp only [Act.put, List.setIfInBounds_toArray, List.set_cons_zero, List.set_cons_succ])
    refine anyH_skip 4 rfl (by kernel_rfl) (by kernel_rfl) (by kernel_rfl) (fun _ _ _ h => h) (by rfl) hHeld ?_
    (try simp only [Act.put, List.setIfInBounds_toArray, List.set_cons_zero, List.set_cons_succ])
    refine anyH_skip 5 rfl (by kernel_rfl) (by kernel_rfl) (by kernel_rfl) (fun _ _ _ h => h) (by rfl) hHeld ?_
    (try simp only [Act.put, List.setIfInBounds_toArray, List.set_cons_zero, List.set_cons_succ])
    refine anyH_skip 6 rfl (by kernel_rfl) (by kernel_rfl) (by kernel_rfl) (fun _ _ _ h => h) (by rfl) hHeld ?_
    (try simp only [Act.put, List.setIfInBounds_toArray, List.set_cons_zero, List.set_cons_succ])
    refine anyH_skip 7 rfl (by kernel_rfl) (by kernel_rfl) (by kernel_rfl) (fun _ _ _ h => h) (by rfl) hHeld ?_
    (try simp only [Act.put, List.setIfInBounds_toArray, List.set_cons_zero, List.set_cons_succ])
    refine anyH_skip 8 rfl (by kernel_rfl) (by kernel_rfl) (by kernel_rfl) (fun _ _ _ h => h) (by rfl) hHeld ?_
    (try simp only [Act.put, List.setIfInBounds_toArray, List.set_cons_zero, List.set_cons_succ])
    refine anyH_skip 9 rfl (by kernel_rfl) (by kernel_rfl) (by kernel_rfl) (fun _ _ _ h => h) (by rfl) hHeld ?_
    (try simp only [Act.put, List.setIfInBounds_toArray, List.set_cons_zero, List.set_cons_succ])
    refine anyH_skip 10 rfl (by kernel_rfl) (by kernel_rfl) (by kernel_rfl) (fun _ _ _ h => h) (by rfl) hHeld ?_
    (try simp only [Act.put, List.setIfInBounds_toArray, List.set_cons_zero, List.set_cons_succ])
    refine anyH_skip 11 rfl (by kernel_rfl) (by kernel_rfl) (by kernel_rfl) (fun _ _ _ h => h) (by rfl) hHeld ?_
    (try simp only [Act.put, List.setIfInBounds_toArray, List.set_cons_zero, List.set_cons_succ])
    refine anyH_skip 12 rfl (by kernel_rfl) (by kernel_rfl) (by kernel_rfl) (fun _ _ _ h => h) (by rfl) hHeld ?_
    (try simp only [Act.put, List.setIfInBounds_toArray, List.set_cons_zero, List.set_cons_succ])
    refine anyH_skip 13 rfl (by kernel_rfl) (by kernel_rfl) (by kernel_rfl) (fun _ _ _ h => h) (by rfl) hHeld ?_
    (try simp only [Act.put, List.setIfInBounds_toArray, List.set_cons_zero, List.set_cons_succ])
    refine anyH_skip 14 rfl (by kernel_rfl) (by kernel_rfl) (by kernel_rfl) (fun _ _ _ h => h) (by rfl) hHeld ?_
    (try simp only [Act.put, List.setIfInBounds_toArray, List.set_cons_zero, List.set_cons_succ])
    refine anyH_skip 15 rfl (by kernel_rfl) (by kernel_rfl) (by kernel_rfl) (fun _ _ _ h => h) (by rfl) hHeld ?_
    (try simp only [Act.put, List.setIfInBounds_toArray, List.set_cons_zero, List.set_cons_succ])
    refine anyH_skip 16 rfl (by kernel_rfl) (by kernel_rfl) (by kernel_rfl) (fun _ _ _ h => h) (by rfl) hHeld ?_
    (try simp only [Act.put, List.setIfInBounds_toArray, List.set_cons_zero, List.set_cons_succ])
    refine anyH_take 17 (v := ?_) rfl (by kernel_rfl) (by kernel_rfl) (by kernel_rfl) (fun _ _ _ h => h) (by rfl) hHeld ?_ ?_
    rotate_left
    · (intro w hSw; (try dsimp only at hSw); go_split_ands; go_simp; try with_reducible rfl)
    (try simp only [Act.put, List.setIfInBounds_toArray, List.set_cons_zero, List.set_cons_succ])
    refine wpAnyH_done (by kernel_rfl) ?_ _
    have HBT := hid V0.out
    have HB3 := hid (bThen HB2.out V0.out)
    clear hHeld q0 HG1 c0 c1 c2 x0 x1 x2 x3 x4 x5 x6
    obtain ⟨w3, hw3⟩ : ∃ w3, w3 = w2.drew := ⟨_, rfl⟩
    rw [← hw3] at HBT HB3 ⊢
    clear hw3 V0 HS2
    have T0 := hid (Below.refl w3.heap.size w3).drew
    have HST := hid (fun (u : World) (h : Below w3.heap.size w3 u) => And.intro (HCL.out u (bThen HB3.out h)) (HR.out u (bThen HB3.out h)))
    have q0 := HST.out w3.drew T0.out
    have HPW := hid (HPP.out.below (bThen (bThen HBV.out HB3.out) T0.out))
    have HXW := hid (Kd.below HXN.out (bThen (bThen HBV.out HB3.out) T0.out))
    have HAP := hid (anAppend_calls FP ga gd D l false w3.drew HPW.out x XA n xc HXW.out HLL.out)
    have HWS := hid (show w.heap.size < w3.heap.size by have := HB3.out.size; have := HVS.out; omega)
    obtain ⟨r, hr⟩ : ∃ r, r = anApp D l false x := ⟨_, rfl⟩
    rw [← hr] at HG2 HAP
    clear hr
    go_wp2_with fail
    refine wp_region_held_drew (S := fun w' => (w'.cell? ⟨gl, 0, none⟩ = some (.pointer (some ⟨ga, 0, none⟩)) ∧ w'.cell? ⟨gl, 1, none⟩ = some (.slice A q c) ∧ w'.cell? ⟨gl, 2, none⟩ = some (.int .i64 room)) ∧ w'.cell? ⟨w.heap.size, 0, none⟩ = some (.int .i64 x.kind) ∧ w'.cell? ⟨w.heap.size, 1, none⟩ = some (.int .i64 x.job) ∧ w'.cell? ⟨w.heap.size, 2, none⟩ = some (.int .i64 x.task) ∧ w'.cell? ⟨w.heap.size, 3, none⟩ = some (.int .i64 x.worker) ∧ w'.cell? ⟨w.heap.size, 4, none⟩ = some (.int .i64 x.sched) ∧ w'.cell? ⟨w.heap.size, 5, none⟩ = some (.int .i64 x.epoch) ∧ w'.cell? ⟨w.heap.size, 6, none⟩ = some (.slice XA n xc)) (by kernel_rfl) q0 (fun hHeld => ?_)
    refine anyH_take 0 (v := ?_) rfl (by kernel_rfl) (by kernel_rfl) (by kernel_rfl) (fun _ _ _ h => h) (by rfl) hHeld ?_ ?_
    rotate_left
    · (intro w hSw; (try dsimp only at hSw); go_split_ands; go_simp; try with_reducible rfl)
    (try simp only [Act.put, List.setIfInBounds_toArray, List.set_cons_zero, List.set_cons_succ])
    refine anyH_take 1 (v := ?_) rfl (by kernel_rfl) (by kernel_rfl) (by kernel_rfl) (fun _ _ _ h => h) (by rfl) hHeld ?_ ?_
    rotate_left
    · (intro w hSw; (try dsimp only at hSw); go_split_ands; go_simp; try with_reducible rfl)
    (try simp only [Act.put, List.setIfInBounds_toArray, List.set_cons_zero, List.set_cons_succ])
    refine anyH_take 2 (v := ?_) rfl (by kernel_rfl) (by kernel_rfl) (by kernel_rfl) (fun _ _ _ h => h) (by rfl) hHeld ?_ ?_
    rotate_left
    · (intro w hSw; (try dsimp only at hSw); go_split_ands; go_simp; try with_reducible rfl)
    (try simp only [Act.put, List.setIfInBounds_toArray, List.set_cons_zero, List.set_cons_succ])
    refine anyH_take 3 (v := ?_) rfl (by kernel_rfl) (by kernel_rfl) (by kernel_rfl) (fun _ _ _ h => h) (by rfl) hHeld ?_ ?_
    rotate_left
    · (intro w hSw; (try dsimp only at hSw); go_split_ands; go_simp; try with_reducible rfl)
    (try simp only [Act.put, List.setIfInBounds_toArray, List.set_cons_zero, List.set_cons_succ])
    refine anyH_take 4 (v := ?_) rfl (by kernel_rfl) (by kernel_rfl) (by kernel_rfl) (fun _ _ _ h => h) (by rfl) hHeld ?_ ?_
    rotate_left
    · (intro w hSw; (try dsimp only at hSw); go_split_ands; go_simp; try with_reducible rfl)
    (try simp only [Act.put, List.setIfInBounds_toArray, List.set_cons_zero, List.set_cons_succ])
    refine anyH_take 5 (v := ?_) rfl (by kernel_rfl) (by kernel_rfl) (by kernel_rfl) (fun _ _ _ h => h) (by rfl) hHeld ?_ ?_
    rotate_left
    · (intro w hSw; (try dsimp only at hSw); go_split_ands; go_simp; try with_reducible rfl)
    (try simp only [Act.put, List.setIfInBounds_toArray, List.set_cons_zero, List.set_cons_succ])
    refine anyH_one 6 rfl (by kernel_rfl) (fun K hK => ?_)
    go_simp
    refine HAP.out.mono ?_
    rintro e w4 ⟨rfl, hp4, hm4⟩
    have HP4 := hid hp4
    have HM4 := hid hm4
    have q4 := HST.out w3.drew T0.out
    have HG4 := hid (show ∀ j, w4.cell? ⟨gl, j, none⟩ = w3.drew.cell? ⟨gl, j, none⟩ from fun j => World.cell?_of_block (hm4.block gl (Nat.lt_of_lt_of_le hgl (Nat.le_trans HB3.out.size (Nat.le_refl _))) HF4.out))
    have HR4 := hid (show ∀ j, w4.cell? ⟨w.heap.size, j, none⟩ = w3.drew.cell? ⟨w.heap.size, j, none⟩ from fun j => World.cell?_of_block (hm4.block w.heap.size HWS.out (fun h => by have := (HFP.out _ h).2; omega)))
    have q5 : (w4.cell? ⟨gl, 0, none⟩ = some (.pointer (some ⟨ga, 0, none⟩)) ∧ w4.cell? ⟨gl, 1, none⟩ = some (.slice A q c) ∧ w4.cell? ⟨gl, 2, none⟩ = some (.int .i64 room)) ∧ w4.cell? ⟨w.heap.size, 0, none⟩ = some (.int .i64 x.kind) ∧ w4.cell? ⟨w.heap.size, 1, none⟩ = some (.int .i64 x.job) ∧ w4.cell? ⟨w.heap.size, 2, none⟩ = some (.int .i64 x.task) ∧ w4.cell? ⟨w.heap.size, 3, none⟩ = some (.int .i64 x.worker) ∧ w4.cell? ⟨w.heap.size, 4, none⟩ = some (.int .i64 x.sched) ∧ w4.cell? ⟨w.heap.size, 5, none⟩ = some (.int .i64 x.epoch) ∧ w4.cell? ⟨w.heap.size, 6, none⟩ = some (.slice XA n xc) := ⟨⟨(HG4.out 0).trans q4.1.1, (HG4.out 1).trans q4.1.2.1, (HG4.out 2).trans q4.1.2.2⟩, (HR4.out 0).trans q4.2.1, (HR4.out 1).trans q4.2.2.1, (HR4.out 2).trans q4.2.2.2.1, (HR4.out 3).trans q4.2.2.2.2.1, (HR4.out 4).trans q4.2.2.2.2.2.1, (HR4.out 5).trans q4.2.2.2.2.2.2.1, (HR4.out 6).trans q4.2.2.2.2.2.2.2⟩
    clear hp4 hm4
    go_simp
    refine hK.out _ _ q5 (fun hHeld => ?_)
    clear hK K
    (try simp only [Act.put, List.setIfInBounds_toArray, List.set_cons_zero, List.set_cons_succ])
    refine anyH_take 7 (v := ?_) rfl (by kernel_rfl) (by kernel_rfl) (by kernel_rfl) (fun _ _ _ h => h) (by rfl) hHeld ?_ ?_
    rotate_left
    · (intro w hSw; (try dsimp only at hSw); go_split_ands; go_simp; try with_reducible rfl)
    (try simp only [Act.put, List.setIfInBounds_toArray, List.set_cons_zero, List.set_cons_succ])
    refine wpAnyH_done (by kernel_rfl) ?_ _
    have HWL := hid (show w.heap.size ≤ w3.drew.heap.size from Nat.le_of_lt HWS.out)
    have HFW := hid (show ∀ k, FP k → F k ∧ k < w3.drew.heap.size from fun k hk => ⟨(HFP.out k hk).1, Nat.lt_of_lt_of_le (HFP.out k hk).2 HWL.out⟩)
    have H5W := hid (show w3.drew.heap[gl]? = some (.cells #[.pointer (some ⟨ga, 0, none⟩), .slice A q c, .int .i64 room] 82 (0, 0)) from ((bThen (bThen HBV.out HB3.out) T0.out).block gl (Array.getElem?_eq_some_iff.1 HF5.out).1).trans HF5.out)
    have HMW := hid (show Mod F w w4 from (Mod.of_below (bThen (bThen HBV.out HB3.out) T0.out)).trans HM4.out (fun k _ h => (HFP.out k h).1))
    have H54 := hid ((HM4.out.block gl (Nat.lt_of_lt_of_le hgl HB3.out.size) HF4.out).trans H5W.out)
    obtain ⟨⟨c0, c1, c2⟩, _⟩ := q5
    have cf := (cells_of_block H54.out).2.1 1
    clear hHeld q0 q4
    by_cases h0 : r.2.2.2 = 0
    case neg =>
      have hne : (r.2.2.2 != 0) = true := by rw [bne_iff_ne]; exact h0
      have HE := hid (HG2.out.trans (by rw [if_neg h0]))
      have HLG := hid (lg_annal HP4.out HM4.out HFW.out HF3.out HF4.out H5W.out HWL.out (.slice A q c) b SB (Kd.below HF6.out (bThen (bThen HBV.out HB3.out) T0.out)) (fun k _ hk => ⟨.inl (HF7.out k hk).1, (HF7.out k hk).2.1, (HF7.out k hk).2.2.1⟩))
      have HSM := hid (setCell_same H54.out 1 (.slice A q c) rfl)
      clear h0
      go_wp2
      go_ret
      rw [HE.out]
      rw [HSM.out] at HLG
      exact ⟨rfl, HLG.out, HMW.out⟩
    have HE := hid (HG2.out.trans (by rw [if_pos h0]))
    have HLG := hid (lg_annal HP4.out HM4.out HFW.out HF3.out HF4.out H5W.out HWL.out (.slice Ao (nextB b x).length co) (nextB b x) (fun k => w1.heap.size ≤ k) (Kd.below HO2.out (bThen HBT.out T0.out)) (fun k _ hk => ⟨.inr (by have : w1.heap.size ≤ k := hk; have := HB1.out.size; have := HVS.out; omega), fun h => by have := (HFP.out k h).2; have : w1.heap.size ≤ k := hk; have := HB1.out.size; have := HVS.out; omega, fun e => by have := (Array.getElem?_eq_some_iff.1 HF5.out).1; have : w1.heap.size ≤ k := hk; have := HB1.out.size; have := HVS.out; omega⟩))
    have HM5 := hid (HMW.out.setCell (p := ⟨gl, 1, none⟩) (fun _ => HF3.out) (.slice Ao (nextB b x).length co))
    obtain ⟨nl, hnl⟩ : ∃ nl, nl = (nextB b x).length := ⟨_, rfl⟩
    rw [← hnl] at HLG HM5 ⊢
    clear hnl
    rw [h0]
    go_wp2
    go_ret
    rw [HE.out, h0]
    exact ⟨rfl, HLG.out, HM5.out⟩
  have hk1 : (x.kind == (1 : Int)) = true := by rw [hk]; decide
  have HACC := hid (recOk_accept HREC.out hk)
  have hnl : n ≤ 16 := by have := HACC.out.2.1; have := HN.out; omega
  obtain ⟨kl, hkl⟩ : ∃ kl, kl = keptL b := ⟨_, rfl⟩
  obtain ⟨m, hm⟩ : ∃ m, m = mostR x.job 0 x.needs := ⟨_, rfl⟩
  have hklb := keptL_bound b HOK.out.1
  have hb40 := HOK.out.2
  have hmb := mostR16 x.job 0 x.needs HACC.out.2.1
  have HKM := hid (And.intro hkl hm)
  rw [← hkl] at hklb HG1
  rw [← hm] at hmb HG1
  have hww : IntKind.i64.wrap (kl + m) = kl + m := IntWalk.i64_in _ (by omega)
  have HS2 := hid (fun (u : World) (h : Below w2.heap.size w2 u) => And.intro (HCL.out u (bThen HB2.out h)) (HR.out u (bThen HB2.out h)))
  have V0 := hid (Below.refl w2.heap.size w2).drew
  have q0 := HS2.out w2.drew V0.out
  have HXM := hid (Kd.any (Kd.below HX.out HB2.out))
  have HKD := hid hk
  clear hkl hm hklb hb40 hmb hk
  by_cases hro : room < kl + m
  case pos =>
    have hrd : decide (room < kl + m) = true := decide_eq_true hro
    have HE := hid (HG1.out.trans (if_pos ⟨HKD.out, hro⟩))
    go_wp2_with fail
    refine wp_region_held_drew (S := fun w' => (w'.cell? ⟨gl, 0, none⟩ = some (.pointer (some ⟨ga, 0, none⟩)) ∧ w'.cell? ⟨gl, 1, none⟩ = some (.slice A q c) ∧ w'.cell? ⟨gl, 2, none⟩ = some (.int .i64 room)) ∧ w'.cell? ⟨w.heap.size, 0, none⟩ = some (.int .i64 x.kind) ∧ w'.cell? ⟨w.heap.size, 1, none⟩ = some (.int .i64 x.job) ∧ w'.cell? ⟨w.heap.size, 2, none⟩ = some (.int .i64 x.task) ∧ w'.cell? ⟨w.heap.size, 3, none⟩ = some (.int .i64 x.worker) ∧ w'.cell? ⟨w.heap.size, 4, none⟩ = some (.int .i64 x.sched) ∧ w'.cell? ⟨w.heap.size, 5, none⟩ = some (.int .i64 x.epoch) ∧ w'.cell? ⟨w.heap.size, 6, none⟩ = some (.slice XA n xc)) (by kernel_rfl) q0 (fun hHeld => ?_)
    refine anyH_take 0 (v := ?_) rfl (by kernel_rfl) (by kernel_rfl) (by kernel_rfl) (fun _ _ _ h => h) (by rfl) hHeld ?_ ?_
    rotate_left
    · (intro w hSw; (try dsimp only at hSw); go_split_ands; go_simp; try with_reducible rfl)
    (try simp only [Act.put, List.setIfInBounds_toArray, List.set_cons_zero, List.set_cons_succ])
    refine anyH_take 1 (v := ?_) rfl (by kernel_rfl) (by kernel_rfl) (by kernel_rfl) (fun _ _ _ h => h) (by rfl) hHeld ?_ ?_
    rotate_left
    · (intro w hSw; (try dsimp only at hSw); go_split_ands; go_simp; try with_reducible rfl)
    (try simp only [Act.put, List.setIfInBounds_toArray, List.set_cons_zero, List.set_cons_succ])
    refine anyH_take 2 (v := ?_) rfl (by kernel_rfl) (by kernel_rfl) (by kernel_rfl) (fun _ _ _ h => h) (by rfl) hHeld ?_ ?_
    rotate_left
    · (intro w hSw; (try dsimp only at hSw); go_split_ands; go_simp; try with_reducible rfl)
    (try simp only [Act.put, List.setIfInBounds_toArray, List.set_cons_zero, List.set_cons_succ])
    refine anyH_take 3 (v := ?_) rfl (by kernel_rfl) (by kernel_rfl) (by kernel_rfl) (fun _ _ _ h => h) (by rfl) hHeld ?_ ?_
    rotate_left
    · (intro w hSw; (try dsimp only at hSw); go_split_ands; go_simp; try with_reducible rfl)
    (try simp only [Act.put, List.setIfInBounds_toArray, List.set_cons_zero, List.set_cons_succ])
    refine anyH_take 4 (v := ?_) rfl (by kernel_rfl) (by kernel_rfl) (by kernel_rfl) (fun _ _ _ h => h) (by rfl) hHeld ?_ ?_
    rotate_left
    · (intro w hSw; (try dsimp only at hSw); go_split_ands; go_simp; try with_reducible rfl)
    (try simp only [Act.put, List.setIfInBounds_toArray, List.set_cons_zero, List.set_cons_succ])
    refine anyH_take 6 (v := ?_) rfl (by kernel_rfl) (by kernel_rfl) (by kernel_rfl) (fun _ _ _ h => h) (by rfl) hHeld ?_ ?_
    rotate_left
    · (intro w hSw; (try dsimp only at hSw); go_split_ands; go_simp; try with_reducible rfl)
    (try simp only [Act.put, List.setIfInBounds_toArray, List.set_cons_zero, List.set_cons_succ])
    refine anyH_take 7 (v := ?_) rfl (by kernel_rfl) (by kernel_rfl) (by kernel_rfl) (fun _ _ _ h => h) (by rfl) hHeld ?_ ?_
    rotate_left
    · (intro w hSw; (try dsimp only at hSw); go_split_ands; go_simp; try with_reducible rfl)
    (try simp only [Act.put, List.setIfInBounds_toArray, List.set_cons_zero, List.set_cons_succ])
    refine anyH_take 8 (v := ?_) rfl (by kernel_rfl) (by kernel_rfl) (by kernel_rfl) (fun _ _ _ h => h) (by rfl) hHeld ?_ ?_
    rotate_left
    · (intro w hSw; (try dsimp only at hSw); go_split_ands; go_simp; try with_reducible rfl)
    (try simp only [Act.put, List.setIfInBounds_toArray, List.set_cons_zero, List.set_cons_succ])
    refine anyH_take 9 (v := ?_) rfl (by kernel_rfl) (by kernel_rfl) (by kernel_rfl) (fun _ _ _ h => h) (by rfl) hHeld ?_ ?_
    rotate_left
    · (intro w hSw; (try dsimp only at hSw); go_split_ands; go_simp; try with_reducible rfl)
    (try simp only [Act.put, List.setIfInBounds_toArray, List.set_cons_zero, List.set_cons_succ])
    refine anyH_take 12 (v := ?_) rfl (by kernel_rfl) (by kernel_rfl) (by kernel_rfl) (fun _ _ _ h => h) (by rfl) hHeld ?_ ?_
    rotate_left
    · (intro w hSw; (try dsimp only at hSw); go_split_ands; go_simp; try with_reducible rfl)
    (try simp only [Act.put, List.setIfInBounds_toArray, List.set_cons_zero, List.set_cons_succ])
    refine anyH_take 13 (v := ?_) rfl (by kernel_rfl) (by kernel_rfl) (by kernel_rfl) (fun _ _ _ h => h) (by rfl) hHeld ?_ ?_
    rotate_left
    · (intro w hSw; (try dsimp only at hSw); go_split_ands; go_simp; try with_reducible rfl)
    (try simp only [Act.put, List.setIfInBounds_toArray, List.set_cons_zero, List.set_cons_succ])
    refine anyH_take 14 (v := ?_) rfl (by kernel_rfl) (by kernel_rfl) (by kernel_rfl) (fun _ _ _ h => h) (by rfl) hHeld ?_ ?_
    rotate_left
    · (intro w hSw; (try dsimp only at hSw); go_split_ands; go_simp; try with_reducible rfl)
    (try simp only [Act.put, List.setIfInBounds_toArray, List.set_cons_zero, List.set_cons_succ])
    refine anyH_take 15 (v := ?_) rfl (by kernel_rfl) (by kernel_rfl) (by kernel_rfl) (fun _ _ _ h => h) (by rfl) hHeld ?_ ?_
    rotate_left
    · (intro w hSw; (try dsimp only at hSw); go_split_ands; go_simp; try with_reducible rfl)
    (try simp only [Act.put, List.setIfInBounds_toArray, List.set_cons_zero, List.set_cons_succ])
    refine anyH_one 5 rfl (by kernel_rfl) (fun K hK => ?_)
    go_simp
    have hst := lkept_calls (HL.out.below (bThen HB2.out V0.out)) HOK.out
    rw [← HKM.out.1] at hst
    refine hst.mono ?_
    clear hst
    rintro e w3 ⟨rfl, hb3⟩
    have V1 := hid (bThen V0.out hb3)
    clear hb3
    go_simp
    refine hK.out _ _ (HS2.out _ V1.out) (fun hHeld => ?_)
    clear hK K
    (try simp only [Act.put, List.setIfInBounds_toArray, List.set_cons_zero, List.set_cons_succ])
    refine anyH_one 10 rfl (by kernel_rfl) (fun K hK => ?_)
    go_simp
    have hst := lmost_calls x.job x.needs XA n xc w3 (Kd.below HXM.out V1.out) (by omega)
    rw [← HKM.out.2] at hst
    refine hst.mono ?_
    clear hst
    rintro e w5 ⟨rfl, hb5⟩
    have V2 := hid (bThen V1.out hb5)
    clear hb5
    go_simp
    refine hK.out _ _ (HS2.out _ V2.out) (fun hHeld => ?_)
    clear hK K
    (try simp only [Act.put, List.setIfInBounds_toArray, List.set_cons_zero, List.set_cons_succ])
    refine anyH_take 11 (v := ?_) rfl (by kernel_rfl) (by kernel_rfl) (by kernel_rfl) (fun _ _ _ h => h) (by rfl) hHeld ?_ ?_
    rotate_left
    · (intro w hSw; (try dsimp only at hSw); go_split_ands; go_simp; try with_reducible rfl)
    (try simp only [Act.put, List.setIfInBounds_toArray, List.set_cons_zero, List.set_cons_succ])
    refine anyH_take 16 (v := ?_) rfl (by kernel_rfl) (by kernel_rfl) (by kernel_rfl) (fun _ _ _ h => h) (by rfl) hHeld ?_ ?_
    rotate_left
    · (intro w hSw; (try dsimp only at hSw); go_split_ands; go_simp; try with_reducible rfl)
    (try simp only [Act.put, List.setIfInBounds_toArray, List.set_cons_zero, List.set_cons_succ])
    refine anyH_take 17 (v := ?_) rfl (by kernel_rfl) (by kernel_rfl) (by kernel_rfl) (fun _ _ _ h => h) (by rfl) hHeld ?_ ?_
    rotate_left
    · (intro w hSw; (try dsimp only at hSw); go_split_ands; go_simp; try with_reducible rfl)
    (try simp only [Act.put, List.setIfInBounds_toArray, List.set_cons_zero, List.set_cons_succ])
    refine wpAnyH_done (by kernel_rfl) ?_ _
    go_wp2
    go_ret
    rw [HE.out]
    exact ⟨rfl, (HL2.out.below V2.out).mono (fun k _ h => .inl h), Mod.of_below (bThen HBV.out (bThen HB2.out V2.out))⟩
  have hrd : decide (room < kl + m) = false := decide_eq_false hro
  have HG2 := hid (HG1.out.trans (if_neg (fun h => hro h.2)))
  go_wp2_with fail
  refine wp_region_held_drew (S := fun w' => (w'.cell? ⟨gl, 0, none⟩ = some (.pointer (some ⟨ga, 0, none⟩)) ∧ w'.cell? ⟨gl, 1, none⟩ = some (.slice A q c) ∧ w'.cell? ⟨gl, 2, none⟩ = some (.int .i64 room)) ∧ w'.cell? ⟨w.heap.size, 0, none⟩ = some (.int .i64 x.kind) ∧ w'.cell? ⟨w.heap.size, 1, none⟩ = some (.int .i64 x.job) ∧ w'.cell? ⟨w.heap.size, 2, none⟩ = some (.int .i64 x.task) ∧ w'.cell? ⟨w.heap.size, 3, none⟩ = some (.int .i64 x.worker) ∧ w'.cell? ⟨w.heap.size, 4, none⟩ = some (.int .i64 x.sched) ∧ w'.cell? ⟨w.heap.size, 5, none⟩ = some (.int .i64 x.epoch) ∧ w'.cell? ⟨w.heap.size, 6, none⟩ = some (.slice XA n xc)) (by kernel_rfl) q0 (fun hHeld => ?_)
  refine anyH_take 0 (v := ?_) rfl (by kernel_rfl) (by kernel_rfl) (by kernel_rfl) (fun _ _ _ h => h) (by rfl) hHeld ?_ ?_
  rotate_left
  · (intro w hSw; (try dsimp only at hSw); go_split_ands; go_simp; try with_reducible rfl)
  (try simp only [Act.put, List.setIfInBounds_toArray, List.set_cons_zero, List.set_cons_succ])
  refine anyH_take 1 (v := ?_) rfl (by kernel_rfl) (by kernel_rfl) (by kernel_rfl) (fun _ _ _ h => h) (by rfl) hHeld ?_ ?_
  rotate_left
  · (intro w hSw; (try dsimp only at hSw); go_split_ands; go_simp; try with_reducible rfl)
  (try simp only [Act.put, List.setIfInBounds_toArray, List.set_cons_zero, List.set_cons_succ])
  refine anyH_take 2 (v := ?_) rfl (by kernel_rfl) (by kernel_rfl) (by kernel_rfl) (fun _ _ _ h => h) (by rfl) hHeld ?_ ?_
  rotate_left
  · (intro w hSw; (try dsimp only at hSw); go_split_ands; go_simp; try with_reducible rfl)
  (try simp only [Act.put, List.setIfInBounds_toArray, List.set_cons_zero, List.set_cons_succ])
  refine anyH_take 3 (v := ?_) rfl (by kernel_rfl) (by kernel_rfl) (by kernel_rfl) (fun _ _ _ h => h) (by rfl) hHeld ?_ ?_
  rotate_left
  · (intro w hSw; (try dsimp only at hSw); go_split_ands; go_simp; try with_reducible rfl)
  (try simp only [Act.put, List.setIfInBounds_toArray, List.set_cons_zero, List.set_cons_succ])
  refine anyH_take 4 (v := ?_) rfl (by kernel_rfl) (by kernel_rfl) (by kernel_rfl) (fun _ _ _ h => h) (by rfl) hHeld ?_ ?_
  rotate_left
  · (intro w hSw; (try dsimp only at hSw); go_split_ands; go_simp; try with_reducible rfl)
  (try simp only [Act.put, List.setIfInBounds_toArray, List.set_cons_zero, List.set_cons_succ])
  refine anyH_take 6 (v := ?_) rfl (by kernel_rfl) (by kernel_rfl) (by kernel_rfl) (fun _ _ _ h => h) (by rfl) hHeld ?_ ?_
  rotate_left
  · (intro w hSw; (try dsimp only at hSw); go_split_ands; go_simp; try with_reducible rfl)
  (try simp only [Act.put, List.setIfInBounds_toArray, List.set_cons_zero, List.set_cons_succ])
  refine anyH_take 7 (v := ?_) rfl (by kernel_rfl) (by kernel_rfl) (by kernel_rfl) (fun _ _ _ h => h) (by rfl) hHeld ?_ ?_
  rotate_left
  · (intro w hSw; (try dsimp only at hSw); go_split_ands; go_simp; try with_reducible rfl)
  (try simp only [Act.put, List.setIfInBounds_toArray, List.set_cons_zero, List.set_cons_succ])
  refine anyH_take 8 (v := ?_) rfl (by kernel_rfl) (by kernel_rfl) (by kernel_rfl) (fun _ _ _ h => h) (by rfl) hHeld ?_ ?_
  rotate_left
  · (intro w hSw; (try dsimp only at hSw); go_split_ands; go_simp; try with_reducible rfl)
  (try simp only [Act.put, List.setIfInBounds_toArray, List.set_cons_zero, List.set_cons_succ])
  refine anyH_take 9 (v := ?_) rfl (by kernel_rfl) (by kernel_rfl) (by kernel_rfl) (fun _ _ _ h => h) (by rfl) hHeld ?_ ?_
  rotate_left
  · (intro w hSw; (try dsimp only at hSw); go_split_ands; go_simp; try with_reducible rfl)
  (try simp only [Act.put, List.setIfInBounds_toArray, List.set_cons_zero, List.set_cons_succ])
  refine anyH_take 12 (v := ?_) rfl (by kernel_rfl) (by kernel_rfl) (by kernel_rfl) (fun _ _ _ h => h) (by rfl) hHeld ?_ ?_
  rotate_left
  · (intro w hSw; (try dsimp only at hSw); go_split_ands; go_simp; try with_reducible rfl)
  (try simp only [Act.put, List.setIfInBounds_toArray, List.set_cons_zero, List.set_cons_succ])
  refine anyH_take 13 (v := ?_) rfl (by kernel_rfl) (by kernel_rfl) (by kernel_rfl) (fun _ _ _ h => h) (by rfl) hHeld ?_ ?_
  rotate_left
  · (intro w hSw; (try dsimp only at hSw); go_split_ands; go_simp; try with_reducible rfl)
  (try simp only [Act.put, List.setIfInBounds_toArray, List.set_cons_zero, List.set_cons_succ])
  refine anyH_take 14 (v := ?_) rfl (by kernel_rfl) (by kernel_rfl) (by kernel_rfl) (fun _ _ _ h => h) (by rfl) hHeld ?_ ?_
  rotate_left
  · (intro w hSw; (try dsimp only at hSw); go_split_ands; go_simp; try with_reducible rfl)
  (try simp only [Act.put, List.setIfInBounds_toArray, List.set_cons_zero, List.set_cons_succ])
  refine anyH_take 15 (v := ?_) rfl (by kernel_rfl) (by kernel_rfl) (by kernel_rfl) (fun _ _ _ h => h) (by rfl) hHeld ?_ ?_
  rotate_left
  · (intro w hSw; (try dsimp only at hSw); go_split_ands; go_simp; try with_reducible rfl)
  (try simp only [Act.put, List.setIfInBounds_toArray, List.set_cons_zero, List.set_cons_succ])
  refine anyH_one 5 rfl (by kernel_rfl) (fun K hK => ?_)
  go_simp
  have hst := lkept_calls (HL.out.below (bThen HB2.out V0.out)) HOK.out
  rw [← HKM.out.1] at hst
  refine hst.mono ?_
  clear hst
  rintro e w3 ⟨rfl, hb3⟩
  have V1 := hid (bThen V0.out hb3)
  clear hb3
  go_simp
  refine hK.out _ _ (HS2.out _ V1.out) (fun hHeld => ?_)
  clear hK K
  (try simp only [Act.put, List.setIfInBounds_toArray, List.set_cons_zero, List.set_cons_succ])
  refine anyH_one 10 rfl (by kernel_rfl) (fun K hK => ?_)
  go_simp
  have hst := lmost_calls x.job x.needs XA n xc w3 (Kd.below HXM.out V1.out) (by omega)
  rw [← HKM.out.2] at hst
  refine hst.mono ?_
  clear hst
  rintro e w5 ⟨rfl, hb5⟩
  have V2 := hid (bThen V1.out hb5)
  clear hb5
  go_simp
  refine hK.out _ _ (HS2.out _ V2.out) (fun hHeld => ?_)
  clear hK K
  (try simp only [Act.put, List.setIfInBounds_toArray, List.set_cons_zero, List.set_cons_succ])
  refine anyH_take 11 (v := ?_) rfl (by kernel_rfl) (by kernel_rfl) (by kernel_rfl) (fun _ _ _ h => h) (by rfl) hHeld ?_ ?_
  rotate_left
  · (intro w hSw; (try dsimp only at hSw); go_split_ands; go_simp; try with_reducible rfl)
  (try simp only [Act.put, List.setIfInBounds_toArray, List.set_cons_zero, List.set_cons_succ])
  refine anyH_take 16 (v := ?_) rfl (by kernel_rfl) (by kernel_rfl) (by kernel_rfl) (fun _ _ _ h => h) (by rfl) hHeld ?_ ?_
  rotate_left
  · (intro w hSw; (try dsimp only at hSw); go_split_ands; go_simp; try with_reducible rfl)
  (try simp only [Act.put, List.setIfInBounds_toArray, List.set_cons_zero, List.set_cons_succ])
  refine anyH_take 17 (v := ?_) rfl (by kernel_rfl) (by kernel_rfl) (by kernel_rfl) (fun _ _ _ h => h) (by rfl) hHeld ?_ ?_
  rotate_left
  · (intro w hSw; (try dsimp only at hSw); go_split_ands; go_simp; try with_reducible rfl)
  (try simp only [Act.put, List.setIfInBounds_toArray, List.set_cons_zero, List.set_cons_succ])
  refine wpAnyH_done (by kernel_rfl) ?_ _
  have HBT := hid V2.out
  have HB3 := hid (bThen HB2.out V2.out)
  clear hHeld q0 HG1 c0 c1 c2 x0 x1 x2 x3 x4 x5 x6
  clear V0 V1 V2 HS2 hrd hro
  obtain ⟨w6, hw6⟩ : ∃ w6, w6 = w5 := ⟨_, rfl⟩
  subst hw6
  have T0 := hid (Below.refl w6.heap.size w6).drew
  have HST := hid (fun (u : World) (h : Below w6.heap.size w6 u) => And.intro (HCL.out u (bThen HB3.out h)) (HR.out u (bThen HB3.out h)))
  have q0 := HST.out w6.drew T0.out
  have HPW := hid (HPP.out.below (bThen (bThen HBV.out HB3.out) T0.out))
  have HXW := hid (Kd.below HXN.out (bThen (bThen HBV.out HB3.out) T0.out))
  have HAP := hid (anAppend_calls FP ga gd D l false w6.drew HPW.out x XA n xc HXW.out HLL.out)
  have HWS := hid (show w.heap.size < w6.heap.size by have := HB3.out.size; have := HVS.out; omega)
  obtain ⟨r, hr⟩ : ∃ r, r = anApp D l false x := ⟨_, rfl⟩
  rw [← hr] at HG2 HAP
  clear hr
  go_wp2_with fail
  refine wp_region_held_drew (S := fun w' => (w'.cell? ⟨gl, 0, none⟩ = some (.pointer (some ⟨ga, 0, none⟩)) ∧ w'.cell? ⟨gl, 1, none⟩ = some (.slice A q c) ∧ w'.cell? ⟨gl, 2, none⟩ = some (.int .i64 room)) ∧ w'.cell? ⟨w.heap.size, 0, none⟩ = some (.int .i64 x.kind) ∧ w'.cell? ⟨w.heap.size, 1, none⟩ = some (.int .i64 x.job) ∧ w'.cell? ⟨w.heap.size, 2, none⟩ = some (.int .i64 x.task) ∧ w'.cell? ⟨w.heap.size, 3, none⟩ = some (.int .i64 x.worker) ∧ w'.cell? ⟨w.heap.size, 4, none⟩ = some (.int .i64 x.sched) ∧ w'.cell? ⟨w.heap.size, 5, none⟩ = some (.int .i64 x.epoch) ∧ w'.cell? ⟨w.heap.size, 6, none⟩ = some (.slice XA n xc)) (by kernel_rfl) q0 (fun hHeld => ?_)
  refine anyH_take 0 (v := ?_) rfl (by kernel_rfl) (by kernel_rfl) (by kernel_rfl) (fun _ _ _ h => h) (by rfl) hHeld ?_ ?_
  rotate_left
  · (intro w hSw; (try dsimp only at hSw); go_split_ands; go_simp; try with_reducible rfl)
  (try simp only [Act.put, List.setIfInBounds_toArray, List.set_cons_zero, List.set_cons_succ])
  refine anyH_take 1 (v := ?_) rfl (by kernel_rfl) (by kernel_rfl) (by kernel_rfl) (fun _ _ _ h => h) (by rfl) hHeld ?_ ?_
  rotate_left
  · (intro w hSw; (try dsimp only at hSw); go_split_ands; go_simp; try with_reducible rfl)
  (try simp only [Act.put, List.setIfInBounds_toArray, List.set_cons_zero, List.set_cons_succ])
  refine anyH_take 2 (v := ?_) rfl (by kernel_rfl) (by kernel_rfl) (by kernel_rfl) (fun _ _ _ h => h) (by rfl) hHeld ?_ ?_
  rotate_left
  · (intro w hSw; (try dsimp only at hSw); go_split_ands; go_simp; try with_reducible rfl)
  (try simp only [Act.put, List.setIfInBounds_toArray, List.set_cons_zero, List.set_cons_succ])
  refine anyH_take 3 (v := ?_) rfl (by kernel_rfl) (by kernel_rfl) (by kernel_rfl) (fun _ _ _ h => h) (by rfl) hHeld ?_ ?_
  rotate_left
  · (intro w hSw; (try dsimp only at hSw); go_split_ands; go_simp; try with_reducible rfl)
  (try simp only [Act.put, List.setIfInBounds_toArray, List.set_cons_zero, List.set_cons_succ])
  refine anyH_take 4 (v := ?_) rfl (by kernel_rfl) (by kernel_rfl) (by kernel_rfl) (fun _ _ _ h => h) (by rfl) hHeld ?_ ?_
  rotate_left
  · (intro w hSw; (try dsimp only at hSw); go_split_ands; go_simp; try with_reducible rfl)
  (try simp only [Act.put, List.setIfInBounds_toArray, List.set_cons_zero, List.set_cons_succ])
  refine anyH_take 5 (v := ?_) rfl (by kernel_rfl) (by kernel_rfl) (by kernel_rfl) (fun _ _ _ h => h) (by rfl) hHeld ?_ ?_
  rotate_left
  · (intro w hSw; (try dsimp only at hSw); go_split_ands; go_simp; try with_reducible rfl)
  (try simp only [Act.put, List.setIfInBounds_toArray, List.set_cons_zero, List.set_cons_succ])
  refine anyH_one 6 rfl (by kernel_rfl) (fun K hK => ?_)
  go_simp
  refine HAP.out.mono ?_
  rintro e w4 ⟨rfl, hp4, hm4⟩
  have HP4 := hid hp4
  have HM4 := hid hm4
  have q4 := HST.out w6.drew T0.out
  have HG4 := hid (show ∀ j, w4.cell? ⟨gl, j, none⟩ = w6.drew.cell? ⟨gl, j, none⟩ from fun j => World.cell?_of_block (hm4.block gl (Nat.lt_of_lt_of_le hgl (Nat.le_trans HB3.out.size (Nat.le_refl _))) HF4.out))
  have HR4 := hid (show ∀ j, w4.cell? ⟨w.heap.size, j, none⟩ = w6.drew.cell? ⟨w.heap.size, j, none⟩ from fun j => World.cell?_of_block (hm4.block w.heap.size HWS.out (fun h => by have := (HFP.out _ h).2; omega)))
  have q5 : (w4.cell? ⟨gl, 0, none⟩ = some (.pointer (some ⟨ga, 0, none⟩)) ∧ w4.cell? ⟨gl, 1, none⟩ = some (.slice A q c) ∧ w4.cell? ⟨gl, 2, none⟩ = some (.int .i64 room)) ∧ w4.cell? ⟨w.heap.size, 0, none⟩ = some (.int .i64 x.kind) ∧ w4.cell? ⟨w.heap.size, 1, none⟩ = some (.int .i64 x.job) ∧ w4.cell? ⟨w.heap.size, 2, none⟩ = some (.int .i64 x.task) ∧ w4.cell? ⟨w.heap.size, 3, none⟩ = some (.int .i64 x.worker) ∧ w4.cell? ⟨w.heap.size, 4, none⟩ = some (.int .i64 x.sched) ∧ w4.cell? ⟨w.heap.size, 5, none⟩ = some (.int .i64 x.epoch) ∧ w4.cell? ⟨w.heap.size, 6, none⟩ = some (.slice XA n xc) := ⟨⟨(HG4.out 0).trans q4.1.1, (HG4.out 1).trans q4.1.2.1, (HG4.out 2).trans q4.1.2.2⟩, (HR4.out 0).trans q4.2.1, (HR4.out 1).trans q4.2.2.1, (HR4.out 2).trans q4.2.2.2.1, (HR4.out 3).trans q4.2.2.2.2.1, (HR4.out 4).trans q4.2.2.2.2.2.1, (HR4.out 5).trans q4.2.2.2.2.2.2.1, (HR4.out 6).trans q4.2.2.2.2.2.2.2⟩
  clear hp4 hm4
  go_simp
  refine hK.out _ _ q5 (fun hHeld => ?_)
  clear hK K
  (try simp only [Act.put, List.setIfInBounds_toArray, List.set_cons_zero, List.set_cons_succ])
  refine anyH_take 7 (v := ?_) rfl (by kernel_rfl) (by kernel_rfl) (by kernel_rfl) (fun _ _ _ h => h) (by rfl) hHeld ?_ ?_
  rotate_left
  · (intro w hSw; (try dsimp only at hSw); go_split_ands; go_simp; try with_reducible rfl)
  (try simp only [Act.put, List.setIfInBounds_toArray, List.set_cons_zero, List.set_cons_succ])
  refine wpAnyH_done (by kernel_rfl) ?_ _
  have HWL := hid (show w.heap.size ≤ w6.drew.heap.size from Nat.le_of_lt HWS.out)
  have HFW := hid (show ∀ k, FP k → F k ∧ k < w6.drew.heap.size from fun k hk => ⟨(HFP.out k hk).1, Nat.lt_of_lt_of_le (HFP.out k hk).2 HWL.out⟩)
  have H5W := hid (show w6.drew.heap[gl]? = some (.cells #[.pointer (some ⟨ga, 0, none⟩), .slice A q c, .int .i64 room] 82 (0, 0)) from ((bThen (bThen HBV.out HB3.out) T0.out).block gl (Array.getElem?_eq_some_iff.1 HF5.out).1).trans HF5.out)
  have HMW := hid (show Mod F w w4 from (Mod.of_below (bThen (bThen HBV.out HB3.out) T0.out)).trans HM4.out (fun k _ h => (HFP.out k h).1))
  have H54 := hid ((HM4.out.block gl (Nat.lt_of_lt_of_le hgl HB3.out.size) HF4.out).trans H5W.out)
  obtain ⟨⟨c0, c1, c2⟩, _⟩ := q5
  have cf := (cells_of_block H54.out).2.1 1
  clear hHeld q0 q4
  by_cases h0 : r.2.2.2 = 0
  case neg =>
    have hne : (r.2.2.2 != 0) = true := by rw [bne_iff_ne]; exact h0
    have HE := hid (HG2.out.trans (by rw [if_neg h0]))
    have HLG := hid (lg_annal HP4.out HM4.out HFW.out HF3.out HF4.out H5W.out HWL.out (.slice A q c) b SB (Kd.below HF6.out (bThen (bThen HBV.out HB3.out) T0.out)) (fun k _ hk => ⟨.inl (HF7.out k hk).1, (HF7.out k hk).2.1, (HF7.out k hk).2.2.1⟩))
    have HSM := hid (setCell_same H54.out 1 (.slice A q c) rfl)
    clear h0
    go_wp2
    go_ret
    rw [HE.out]
    rw [HSM.out] at HLG
    exact ⟨rfl, HLG.out, HMW.out⟩
  have HE := hid (HG2.out.trans (by rw [if_pos h0]))
  have HLG := hid (lg_annal HP4.out HM4.out HFW.out HF3.out HF4.out H5W.out HWL.out (.slice Ao (nextB b x).length co) (nextB b x) (fun k => w1.heap.size ≤ k) (Kd.below HO2.out (bThen HBT.out T0.out)) (fun k _ hk => ⟨.inr (by have : w1.heap.size ≤ k := hk; have := HB1.out.size; have := HVS.out; omega), fun h => by have := (HFP.out k h).2; have : w1.heap.size ≤ k := hk; have := HB1.out.size; have := HVS.out; omega, fun e => by have := (Array.getElem?_eq_some_iff.1 HF5.out).1; have : w1.heap.size ≤ k := hk; have := HB1.out.size; have := HVS.out; omega⟩))
  have HM5 := hid (HMW.out.setCell (p := ⟨gl, 1, none⟩) (fun _ => HF3.out) (.slice Ao (nextB b x).length co))
  obtain ⟨nl, hnl⟩ : ∃ nl, nl = (nextB b x).length := ⟨_, rfl⟩
  rw [← hnl] at HLG HM5 ⊢
  clear hnl
  rw [h0]
  go_wp2
  go_ret
  rw [HE.out, h0]
  exact ⟨rfl, HLG.out, HM5.out⟩
end Go.Proofs.YtkjncmmombkllaaGreat
/- ledger.Open. -/
namespace Go.Proofs.YtkjncmmombkllaaGreat
open Go.RowKit Go.Lib

theorem foldB_le : ∀ (l : List RecS) (b : List EntryS) (n : Nat), (foldB l b n).2 ≤ n + l.length
  | [], _, _ => Nat.le_refl _
  | x :: r, b, n => by
    unfold foldB
    split
    · exact Nat.le_add_right _ _
    · have := foldB_le r (nextB b x) (n + 1)
      simp only [List.length_cons]
      omega
theorem LgAt.disk {w : World} {F : Nat → Prop} {gl ga gd : Nat} {D : DiskS} {l : List RecS} {down : Bool} {b : List EntryS} {room : Int} (h : LgAt w F gl ga gd D l down b room) : ∃ TD, (∀ k, TD k → F k) ∧ DiskAt w TD gd D := by
  obtain ⟨FP, SB, v, ⟨T, TD, h1, h2, h3, h4, h5⟩, k2, _⟩ := h
  exact ⟨TD, fun k hk => k2 k (h2 k hk), h5⟩
set_option maxHeartbeats 4000000 in
set_option maxRecDepth 100000 in
theorem lopen_nil (room : Int) (w : World) : Calls Tryz.prog 10 #[.pointer none, .int .i64 room] w fun e w' => e = .returned (.tuple #[.pointer none, .int .i64 1]) ∧ w = w' := by
  go_enter Tryz.func10, Tryz.ntmps10
  go_wp2
  go_ret2
  exact ⟨rfl, rfl⟩
set_option maxHeartbeats 4000000 in
set_option maxRecDepth 100000 in
theorem lopen_no (a : Addr) (room : Int) (w : World) (h : room < 0 ∨ 65536 < room) : Calls Tryz.prog 10 #[.pointer (some a), .int .i64 room] w fun e w' => e = .returned (.tuple #[.pointer none, .int .i64 1]) ∧ w = w' := by
  by_cases h0 : room < 0
  · have hd : decide (room < 0) = true := decide_eq_true h0
    clear h
    go_enter Tryz.func10, Tryz.ntmps10
    go_wp2
    go_ret2
    exact ⟨rfl, rfl⟩
  · have h1 : 65536 < room := by omega
    have hd : decide (room < 0) = false := decide_eq_false h0
    have hd2 : decide (65536 < room) = true := decide_eq_true h1
    clear h
    go_enter Tryz.func10, Tryz.ntmps10
    go_wp2
    go_ret2
    exact ⟨rfl, rfl⟩
set_option maxHeartbeats 4000000 in
set_option maxRecDepth 100000 in
theorem lopen_calls {w : World} {TD : Nat → Prop} {gd : Nat} {D : DiskS} (hd : DiskAt w TD gd D) (room : Int) (h0 : 0 ≤ room) (h1 : room ≤ 65536) (rs : List RecS) (q : Nat) (hq : recsS D.b = (rs, q)) :
    Calls Tryz.prog 10 #[.pointer (some ⟨gd, 0, none⟩), .int .i64 room] w fun e w' =>
      ((foldB rs [] 0).2 < rs.length ∧ e = .returned (.tuple #[.pointer none, .int .i64 3]) ∧ DiskAt w' (fun k => TD k ∨ w.heap.size ≤ k) gd ⟨D.b.take q, D.room, D.fuse⟩ ∧ Mod TD w w') ∨
      (¬ (foldB rs [] 0).2 < rs.length ∧ ∃ gl ga, e = .returned (.tuple #[.pointer (some ⟨gl, 0, none⟩), .int .i64 0]) ∧ w.heap.size ≤ gl ∧ LgAt w' (fun k => TD k ∨ w.heap.size ≤ k) gl ga gd ⟨D.b.take q, D.room, D.fuse⟩ rs false (foldB rs [] 0).1 room ∧ Mod TD w w') := by
  have HD := hid (hd.mono (T' := fun k => TD k ∧ k < w.heap.size) (fun k a b => ⟨b, a⟩))
  have HFO := hid (firstOpen_calls (w := w) HD.out)
  rw [hq] at HFO
  have HRK := hid (show ∀ x ∈ rs, recOk x = true from by have := (recsS_bytes D.b).2.2.1; rw [hq] at this; exact this)
  have hle := foldB_le rs [] 0
  have HBL := hid hle
  have hd1 : decide (room < 0) = false := decide_eq_false (by omega)
  have hd2 : decide (65536 < room) = false := decide_eq_false (by omega)
  have hn1 : ¬ room < 0 := by omega
  have hn2 : ¬ 65536 < room := by omega
  obtain ⟨n, hn⟩ : ∃ n, n = rs.length := ⟨_, rfl⟩
  have HN := hid hn
  rw [← hn]
  obtain ⟨R, hR⟩ : ∃ R, R = foldB rs [] 0 := ⟨_, rfl⟩
  have HR := hid hR
  rw [← hR]
  clear hd hq hle hn hR h0 h1
  go_enter Tryz.func10, Tryz.ntmps10
  go_wp2_with fail
  refine HFO.out.mono ?_
  rintro e w1 ⟨ga, rfl, hp1, hm1⟩
  have HP1 := hid hp1
  have HM1 := hid hm1
  clear hp1 hm1
  go_wp2_with fail
  refine (pairRecords_calls HP1.out HRK.out).mono ?_
  rintro e w2 ⟨A2, n2, c2, rfl, hO2, hb2⟩
  have hn2' : n2 = n := by
    obtain ⟨A', c', he, _⟩ := hO2.shape
    injection he with he he2 _
    rw [he2, HN.out]
  subst hn2'
  have HK2 := hid (Kd.any (Own.K hO2))
  have HB2 := hid hb2
  clear hO2 hb2
  go_wp2_with fail
  refine (bfold_calls rs _ w2 HK2.out).mono ?_
  rintro e w3 ⟨o, rfl, hK3, hb3⟩
  rw [← HR.out] at hK3 ⊢
  have HK3 := hid hK3
  have HB3 := hid (bThen HB2.out hb3)
  obtain ⟨Ao, co, he, _, _, _⟩ := hK3
  injection he with he _
  subst he
  clear hb3
  have HP3 := hid (HP1.out.below HB3.out)
  have s1 := HM1.out.size
  have s3 := HB3.out.size
  have S2 := hid HB2.out.size
  by_cases hlt : R.2 < n2
  · have hltI : (R.2 : Int) < (n2 : Int) := by omega
    have HLT := hid hlt
    have HDK := hid (show DiskAt w3 (fun k => TD k ∨ w.heap.size ≤ k) gd ⟨D.b.take q, D.room, D.fuse⟩ from by
      obtain ⟨T, TD', a1, a2, a3, a4, a5⟩ := HP3.out
      exact a5.mono (fun k _ hk => (a2 k hk).elim (fun h => .inl h.1) .inr))
    have HM3 := hid (show Mod TD w w3 from (HM1.out.then_below HB3.out).mono (fun k _ h => h.1))
    clear hlt
    go_wp2
    go_ret2
    exact .inl ⟨HLT.out, rfl, HDK.out, HM3.out⟩
  have hltI : ¬ (R.2 : Int) < (n2 : Int) := by omega
  have HLT := hid hlt
  obtain ⟨W4, hW4⟩ : ∃ W, W = w3.alloc (.cells #[.pointer (some ⟨ga, 0, none⟩), .slice Ao R.1.length co, .int .i64 room] 82) := ⟨_, rfl⟩
  have HB4 := hid (show Below w3.heap.size w3 W4 by rw [hW4]; exact bAlloc (Below.refl _ _) _)
  have HZ4 := hid (show W4.heap[w3.heap.size]? = some (.cells #[.pointer (some ⟨ga, 0, none⟩), .slice Ao R.1.length co, .int .i64 room] 82 (0, 0)) by rw [hW4]; exact heap_at rfl)
  have HLG := hid (show LgAt W4 (fun k => TD k ∨ w.heap.size ≤ k) w3.heap.size ga gd ⟨D.b.take q, D.room, D.fuse⟩ rs false R.1 room from
    ⟨fun k => ((TD k ∧ k < w.heap.size) ∨ w.heap.size ≤ k) ∧ k < w1.heap.size, fun k => w2.heap.size ≤ k ∧ k < w3.heap.size, .slice Ao R.1.length co,
      ((HP1.out.mono (F' := fun k => ((TD k ∧ k < w.heap.size) ∨ w.heap.size ≤ k) ∧ k < w1.heap.size) (fun k a b => ⟨b, a⟩)).below HB3.out).below HB4.out, fun k hk => hk.1.elim (fun h => .inl h.1) .inr, .inr (by omega), fun h => by have := h.2; omega, HZ4.out,
      Kd.below (Kd.mono _ (fun k (a : w2.heap.size ≤ k) b => ⟨a, b⟩) HK3.out) HB4.out, fun k hk => ⟨.inr (by have := S2.out; omega), fun h => by have := S2.out; omega, by omega⟩⟩)
  have HM4 := hid (show Mod TD w W4 from (HM1.out.then_below (bThen HB3.out HB4.out)).mono (fun k _ h => h.1))
  have HS4 := hid (show w.heap.size ≤ w3.heap.size by omega)
  have hEq := hW4.symm
  clear hW4 hlt s1 s3
  go_wp2
  go_ret2
  exact .inr ⟨HLT.out, _, _, rfl, HS4.out, HLG.out, HM4.out⟩
end Go.Proofs.YtkjncmmombkllaaGreat
