/- ledger: the state, and what only reads it. -/
import Derived.Test.YtkjncmmombkllaaBook9
import Derived.Test.YtkjncmmombkllaaR17B
import Derived.Test.YtkjncmmombkllaaAnnal3
import Derived.Test.YtkjncmmombkllaaBase
namespace Go.Proofs.Ytkjncmmombkllaa
open Go.RowKit Go.Lib

/-! ### plain -/
def keptL : List EntryS → Int
  | [] => 0
  | E :: r => mostR E.id 0 E.needs + keptL r
theorem keptL_snoc (b : List EntryS) (E : EntryS) : keptL (b ++ [E]) = keptL b + mostR E.id 0 E.needs := by
  induction b with
  | nil => simp [keptL]
  | cons x r ih => simp only [List.cons_append, keptL, ih]; omega
theorem mostR16 (job sched : Int) (l : List ByteArray) (h : l.length ≤ 16) : 0 ≤ mostR job sched l ∧ mostR job sched l ≤ 205000 := by
  have hs1 := sizeR_bound ⟨1, job, 0, 0, sched, 0, l⟩
  have hs2 := sizeR_bound ⟨2, job, 0, 0, 0, 1, []⟩
  have hs3 := sizeR_bound ⟨3, job, 0, 0, 0, 0, []⟩
  have hs4 := sizeR_bound ⟨4, job, 0, 0, 0, 1, []⟩
  unfold mostR
  split
  · omega
  · have h1 : 0 ≤ (l.length : Int) * (sizeR ⟨2, job, 0, 0, 0, 1, []⟩ + sizeR ⟨3, job, 0, 0, 0, 0, []⟩) := Int.mul_nonneg (by omega) (by omega)
    have h2 : (l.length : Int) * (sizeR ⟨2, job, 0, 0, 0, 1, []⟩ + sizeR ⟨3, job, 0, 0, 0, 0, []⟩) ≤ 16 * 10000 := Int.mul_le_mul (by omega) (by omega) (by omega) (by omega)
    omega
theorem keptL_bound : ∀ (b : List EntryS), (∀ E ∈ b, EOk E) → 0 ≤ keptL b ∧ keptL b ≤ 205000 * b.length
  | [], _ => by simp [keptL]
  | E :: r, h => by
    have h1 := mostR16 E.id 0 E.needs (h E (by simp)).nl
    have h2 := keptL_bound r (fun E hE => h E (by simp [hE]))
    simp only [keptL, List.length_cons]
    omega
/-! ### a ledger in block gl, over the annal in block ga -/
def LgAt (w : World) (F : Nat → Prop) (gl ga gd : Nat) (D : DiskS) (l : List RecS) (down : Bool) (b : List EntryS) (room : Int) : Prop :=
  ∃ FP SB v, Pair w FP ga gd D l down ∧ (∀ k, FP k → F k) ∧ F gl ∧ ¬ FP gl ∧ w.heap[gl]? = some (.cells #[.pointer (some ⟨ga, 0, none⟩), v, .int .i64 room] 54 (0, 0)) ∧ Kd.entry.slice.K w SB b [v] ∧ (∀ k, SB k → F k ∧ ¬ FP k ∧ k ≠ gl)
section
variable {w w1 : World} {F F' : Nat → Prop} {gl ga gd : Nat} {D : DiskS} {l : List RecS} {down : Bool} {b : List EntryS} {room : Int}
theorem LgAt.mono (h : LgAt w F gl ga gd D l down b room) (hF : ∀ k, k < w.heap.size → F k → F' k) : LgAt w F' gl ga gd D l down b room := by
  obtain ⟨FP, SB, v, h1, h2, h3, h4, h5, h6, h7⟩ := h
  exact ⟨fun k => FP k ∧ k < w.heap.size, fun k => SB k ∧ k < w.heap.size, v, h1.mono (fun k a b => ⟨b, a⟩), fun k hk => hF k hk.2 (h2 k hk.1), hF gl (Array.getElem?_eq_some_iff.1 h5).1 h3, fun h => h4 h.1, h5, Kd.mono _ (fun k a b => ⟨a, b⟩) h6, fun k hk => ⟨hF k hk.2 (h7 k hk.1).1, fun h => (h7 k hk.1).2.1 h.1, (h7 k hk.1).2.2⟩⟩
theorem LgAt.move (h : LgAt w F gl ga gd D l down b room) (hm : ∀ k, k < w.heap.size → F k → w1.heap[k]? = w.heap[k]?) : LgAt w1 F gl ga gd D l down b room := by
  obtain ⟨FP, SB, v, h1, h2, h3, h4, h5, h6, h7⟩ := h
  obtain ⟨T, TD, a1, a2, a3, a4, a5⟩ := h1
  exact ⟨FP, SB, v, ⟨T, TD, a1, a2, a3, a4.move (fun k hk hT => hm k hk (h2 k (a1 k hT))), a5.move (fun k hk hT => hm k hk (h2 k (a2 k hT)))⟩, h2, h3, h4, (hm gl (Array.getElem?_eq_some_iff.1 h5).1 h3).trans h5, Kd.entry.slice.move (fun k hk hl => hm k hl (h7 k hk).1) h6, h7⟩
theorem LgAt.below (h : LgAt w F gl ga gd D l down b room) (hb : Below w.heap.size w w1) : LgAt w1 F gl ga gd D l down b room := h.move (fun k hk _ => hb.block k hk)
theorem LgAt.cells (h : LgAt w F gl ga gd D l down b room) : ∃ A c, w.cell? ⟨gl, 0, none⟩ = some (.pointer (some ⟨ga, 0, none⟩)) ∧ w.cell? ⟨gl, 1, none⟩ = some (.slice A b.length c) ∧ w.cell? ⟨gl, 2, none⟩ = some (.int .i64 room) ∧ (∀ j, w.frozen? ⟨gl, j, none⟩ = false) ∧ gl < w.heap.size ∧ Hid (Kd.entry.slice.K w Any b [.slice A b.length c]) ∧ Hid (∃ FP, Pair w FP ga gd D l down) := by
  obtain ⟨FP, SB, v, h1, h2, h3, h4, h5, h6, h7⟩ := h
  obtain ⟨A, c, he, _⟩ := id h6
  injection he with he _
  subst he
  obtain ⟨q1, q2, q3⟩ := cells_of_block h5
  exact ⟨A, c, q1 0 _ rfl, q1 1 _ rfl, q1 2 _ rfl, q2, q3, Kd.any h6, FP, h1⟩
end
set_option maxHeartbeats 4000000 in
set_option maxRecDepth 100000 in
theorem sdown_calls {w : World} {F : Nat → Prop} {ga gd : Nat} {D : DiskS} {l : List RecS} {down : Bool} (hp : Pair w F ga gd D l down) : Calls Try.prog 21 #[.agg #[.pointer (some ⟨ga, 0, none⟩)]] w fun e w' => e = .returned (.bool down) ∧ Below w.heap.size w w' := by
  have HP := hid hp
  obtain ⟨V, hV⟩ : ∃ V, V = w.alloc (.cells #[.pointer (some ⟨ga, 0, none⟩)] 52) := ⟨_, rfl⟩
  have HB := hid (show Below w.heap.size w V by rw [hV]; exact bAlloc (Below.refl _ _) _)
  have x0 := (cells_of_block (show V.heap[w.heap.size]? = some (.cells #[.pointer (some ⟨ga, 0, none⟩)] 52 (0, 0)) by rw [hV]; exact heap_at rfl)).1 0 _ rfl
  have hEq := hV.symm
  clear hp hV
  go_enter Try.func21, Try.ntmps21
  go_wp2_with fail
  refine (pairDown_calls (HP.out.below HB.out)).mono ?_
  rintro e w1 ⟨rfl, rfl⟩
  go_wp2
  go_ret
  exact ⟨rfl, HB.out⟩
set_option maxHeartbeats 4000000 in
set_option maxRecDepth 100000 in
theorem lmost_calls (job : Int) (l : List ByteArray) (A : Option Addr) (n c : Nat) (w : World) (hn : Kd.str.slice.K w Any l [.slice A n c]) (hn16 : n ≤ 1000000) :
    Calls Try.prog 23 #[.int .i64 job, .slice A n c] w fun e w' => e = .returned (.int .i64 (mostR job 0 l)) ∧ Below w.heap.size w w' := by
  have HC := hid (recMost_calls job 0 l A n c w hn hn16)
  clear hn
  go_enter Try.func23, Try.ntmps23
  go_wp2_with fail
  refine HC.out.mono ?_
  rintro e w1 ⟨rfl, hb1⟩
  go_wp2
  go_ret
  exact ⟨rfl, hb1⟩
set_option maxHeartbeats 4000000 in
set_option maxRecDepth 100000 in
theorem ldown_calls {w : World} {F : Nat → Prop} {gl ga gd : Nat} {D : DiskS} {l : List RecS} {down : Bool} {b : List EntryS} {room : Int} (h : LgAt w F gl ga gd D l down b room) :
    Calls Try.prog 15 #[.pointer (some ⟨gl, 0, none⟩)] w fun e w' => e = .returned (.bool down) ∧ Below w.heap.size w w' := by
  obtain ⟨A, c, c0, c1, c2, _, _, _, HP⟩ := h.cells
  clear h
  go_enter Try.func15, Try.ntmps15
  go_wp2_with fail
  obtain ⟨FP, hp⟩ := HP.out
  refine (sdown_calls hp).mono ?_
  rintro e w1 ⟨rfl, hb1⟩
  go_wp2
  go_ret
  exact ⟨rfl, hb1⟩
set_option maxHeartbeats 4000000 in
set_option maxRecDepth 100000 in
theorem ldown_nil (w : World) : Calls Try.prog 15 #[.pointer none] w fun e w' => e = .returned (.bool true) ∧ Below w.heap.size w w' := by
  go_enter Try.func15, Try.ntmps15
  go_wp2
  go_ret
  exact ⟨rfl, Below.refl _ _⟩
set_option maxHeartbeats 4000000 in
set_option maxRecDepth 100000 in
theorem lkept_nil (w : World) : Calls Try.prog 10 #[.pointer none] w fun e w' => e = .returned (.int .i64 0) ∧ Below w.heap.size w w' := by
  go_enter Try.func10, Try.ntmps10
  go_wp2
  go_ret
  exact ⟨rfl, Below.refl _ _⟩
set_option maxHeartbeats 4000000 in
set_option maxRecDepth 100000 in
theorem lkept_calls {w : World} {F : Nat → Prop} {gl ga gd : Nat} {D : DiskS} {l : List RecS} {down : Bool} {b : List EntryS} {room : Int} (h : LgAt w F gl ga gd D l down b room) (hok : BOk b) :
    Calls Try.prog 10 #[.pointer (some ⟨gl, 0, none⟩)] w fun e w' => e = .returned (.int .i64 (keptL b)) ∧ Below w.heap.size w w' := by
  obtain ⟨A, c, c0, c1, c2, _, _, HK, _⟩ := h.cells
  clear h
  have HOK := hid hok
  obtain ⟨q, hq⟩ : ∃ q, q = b.length := ⟨_, rfl⟩
  have HQ := hid hq
  have hq40 : q ≤ 40 := by rw [hq]; exact hok.2
  rw [← hq] at c1 HK
  clear hok hq
  go_enter Try.func10, Try.ntmps10
  go_wp2
  go_loopw [3, 13] (fun o i wr => ∃ (k : Nat) (s : Int), k ≤ q ∧ o = .int .i64 s ∧ i = .int .i64 k ∧ Hid (s = keptL (b.take k)) ∧ Hid (Below w.heap.size w wr)) (fun _ i _ => q - (intOf i).toNat)
  case atStart => exact ⟨0, 0, by omega, rfl, rfl, hid (by simp [keptL]), hid (Below.refl _ _)⟩
  case round =>
    obtain ⟨k, s, hk, rfl, rfl, HS, HB⟩ := hrel
    by_cases hlt : k < q
    · obtain ⟨a, E, EA, EB, ED, ea, eb, ed, rfl, hx, k1, k2, k3, r0, r1, r2, r3, r4, r5⟩ := (K_row (Kd.below HK.out HB.out)).1.at_entry k (by rw [← HQ.out]; exact hlt)
      have HEO := hid (HOK.out.1 E (List.mem_of_getElem? hx))
      have HTS := hid (show keptL (b.take (k + 1)) = keptL (b.take k) + mostR E.id 0 E.needs by rw [take_snoc hx, keptL_snoc])
      have hmb := mostR16 E.id 0 E.needs HEO.out.nl
      have hsb := keptL_bound (b.take k) (fun E hE => HOK.out.1 E (List.mem_of_mem_take hE))
      rw [← HS.out] at hsb
      have hkl : (b.take k).length ≤ 40 := by rw [List.length_take]; have := HQ.out; omega
      have hltI : (k : Int) < (q : Int) := by omega
      have hk0 : (0 : Int) ≤ (k : Int) := by omega
      have hw : IntKind.i64.wrap ((k : Int) + 1) = (k : Int) + 1 := IntWalk.i64_in _ (by omega)
      have hw2 : IntKind.i64.wrap (s + mostR E.id 0 E.needs) = s + mostR E.id 0 E.needs := IntWalk.i64_in _ (by omega)
      obtain ⟨Wa, hWa⟩ : ∃ Wa, Wa = wr.alloc (.cells #[.int .i64 E.id, .int .i64 E.sched, .int .i64 E.epoch, .slice EA E.needs.length ea, .slice EB E.bound.length eb, .slice ED E.done.length ed] 64) := ⟨_, rfl⟩
      have HBa := hid (show Below wr.heap.size wr Wa by rw [hWa]; exact bAlloc (Below.refl _ _) _)
      obtain ⟨y1, _, _⟩ := cells_of_block (show Wa.heap[wr.heap.size]? = some (.cells #[.int .i64 E.id, .int .i64 E.sched, .int .i64 E.epoch, .slice EA E.needs.length ea, .slice EB E.bound.length eb, .slice ED E.done.length ed] 64 (0, 0)) by rw [hWa]; exact heap_at rfl)
      have z0 := y1 0 _ rfl
      have z3 := y1 3 _ rfl
      have HK1 := hid (Kd.below k1 HBa.out)
      have hEq := hWa.symm
      clear hx k1 k2 k3 y1 hWa hmb hsb hkl
      go_wp2_with fail
      refine (lmost_calls E.id E.needs EA E.needs.length ea Wa HK1.out (by have := HEO.out.nl; omega)).mono ?_
      rintro e w1 ⟨rfl, hb1⟩
      have HB1 := hid (bThen HB.out (bThen HBa.out hb1))
      clear hb1 z0 z3 r0 r1 r2 r3 r4 r5 hEq
      obtain ⟨m, hm⟩ : ∃ m, m = mostR E.id 0 E.needs := ⟨_, rfl⟩
      rw [← hm] at hw2 HTS ⊢
      clear hm
      go_wp2
      go_roundw
      case rel => exact ⟨k + 1, s + m, by omega, by go_num, by go_num, hid (by rw [HTS.out, HS.out]), HB1⟩
      case measure => simp [intOf]; omega
    · obtain rfl : k = q := by omega
      have HF := hid (show s = keptL b by rw [HS.out, List.take_of_length_le (by rw [HQ.out]; exact Nat.le_refl _)])
      go_wp2
      go_ret
      rw [HF.out]
      exact ⟨rfl, HB.out⟩
set_option maxHeartbeats 4000000 in
set_option maxRecDepth 100000 in
theorem lbook_calls {w : World} {F : Nat → Prop} {gl ga gd : Nat} {D : DiskS} {l : List RecS} {down : Bool} {b : List EntryS} {room : Int} (h : LgAt w F gl ga gd D l down b room) (hok : BOk b) :
    Calls Try.prog 11 #[.pointer (some ⟨gl, 0, none⟩)] w fun e w' => ∃ o, e = .returned o ∧ Own Kd.entry 64 w' w.heap.size (fun k => w.heap.size ≤ k) o b ∧ Below w.heap.size w w' := by
  obtain ⟨A, c, c0, c1, c2, _, _, HK, _⟩ := h.cells
  clear h
  have HC := hid (bclone_calls b _ w HK.out (fun E hE => (hok.1 E hE).fits) (by have := hok.2; omega))
  clear hok
  go_enter Try.func11, Try.ntmps11
  go_wp2_with fail
  refine HC.out.mono ?_
  rintro e w1 ⟨o, rfl, hO, hb1⟩
  have HO := hid hO
  obtain ⟨Ao, no, co, rfl, hno, _⟩ := hO.shape'
  clear hno hO
  go_wp2
  go_ret
  exact ⟨_, rfl, HO.out, hb1⟩
set_option maxHeartbeats 4000000 in
set_option maxRecDepth 100000 in
theorem lbook_nil (w : World) : Calls Try.prog 11 #[.pointer none] w fun e w' => e = .returned (.slice none 0 0) ∧ Below w.heap.size w w' := by
  go_enter Try.func11, Try.ntmps11
  go_wp2
  go_ret
  exact ⟨rfl, Below.refl _ _⟩
end Go.Proofs.Ytkjncmmombkllaa
