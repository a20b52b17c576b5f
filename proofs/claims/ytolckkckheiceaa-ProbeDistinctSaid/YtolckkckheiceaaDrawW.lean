import Derived.Test.YtolckkckheiceaaRef06
import Derived.RangeFuncFrom
import Derived.RangeFuncLeaves
import Derived.RangeFuncCalls
import Derived.WalkKit
import Derived.OwnWalkIn
import Derived.TacticsInMore
import Derived.LoopNIn
import Derived.LoopIn
import Derived.Shelf.Abstract
import Derived.Test.YtolckkckheiceaaBoxW
import Derived.BigQuiet
import Derived.Test.YtolckkckheiceaaBookA
/- Draws: plain. -/
namespace Go.Proofs.Ytolckkckheiceaa
open Go.RowKit

theorem bitsN_sorted (s : Nat) : ∀ k, (bitsN s k).Pairwise (· < ·)
  | 0 => List.Pairwise.nil
  | k + 1 => by
    have ih := bitsN_sorted s k
    simp only [bitsN]
    split
    · rw [List.pairwise_append]
      refine ⟨ih, List.pairwise_singleton _ _, fun a ha b hb => ?_⟩
      rw [List.mem_singleton] at hb
      subst hb
      exact ((bitsN_mem s a k).1 ha).2.1
    · exact ih
theorem filter_erase : ∀ (l : List Int) (i : Nat) (x : Int), l.Pairwise (· < ·) → l[i]? = some x → l.filter (fun y => decide (y ≠ x)) = l.eraseIdx i
  | [], _, _, _, h => by simp at h
  | a :: l, 0, x, hp, h => by
    rw [List.pairwise_cons] at hp
    simp only [List.getElem?_cons_zero, Option.some.injEq] at h
    subst h
    rw [List.eraseIdx_zero, List.tail_cons, List.filter_cons_of_neg (by simp)]
    exact List.filter_eq_self.2 (fun y hy => by have := hp.1 y hy; simp; omega)
  | a :: l, i + 1, x, hp, h => by
    rw [List.pairwise_cons] at hp
    rw [List.getElem?_cons_succ] at h
    have h1 := hp.1 x (List.mem_of_getElem? h)
    rw [List.eraseIdx_cons_succ, List.filter_cons_of_pos (by simp; omega), filter_erase l i x hp.2 h]
/-- A set without k. -/
def clrS (s k : Nat) : Nat := s &&& (18446744073709551615 - 1 <<< k)
theorem clrS_lt (s k : Nat) : clrS s k < 2 ^ 64 := Nat.and_lt_two_pow _ (Nat.lt_of_le_of_lt (Nat.sub_le _ _) (by decide))
theorem clrS_bit (s k j : Nat) (hk : k < 64) (hj : j < 64) : (clrS s k).testBit j = (s.testBit j && decide (j ≠ k)) := by
  have h1 : 1 <<< k < 2 ^ 64 := by rw [Nat.one_shiftLeft]; exact pow_lt64 hk
  unfold clrS
  rw [show 18446744073709551615 - 1 <<< k = 2 ^ 64 - (1 <<< k + 1) by omega, Nat.testBit_and, Nat.testBit_two_pow_sub_succ h1, Nat.one_shiftLeft, Nat.testBit_two_pow]
  by_cases hjk : k = j
  · subst hjk; simp
  · have : j ≠ k := fun e => hjk e.symm
    simp [hj, hjk, this]
theorem bitsN_clr (s k : Nat) (hk : k < 64) : ∀ n, n ≤ 64 → bitsN (clrS s k) n = (bitsN s n).filter (fun y => decide (y ≠ (k : Int)))
  | 0, _ => rfl
  | n + 1, hn => by
    have ih := bitsN_clr s k hk n (by omega)
    simp only [bitsN, clrS_bit s k n hk (by omega)]
    cases h : s.testBit n
    · simp [ih]
    · by_cases hn : n = k
      · subst hn; simp [ih]
      · have : ((n : Int) ≠ (k : Int)) := by omega
        simp [ih, List.filter_cons, hn, this]
/-- A draw below n. -/
def drawB (l : List Nat) (n : Nat) : Nat × List Nat := if n = 0 then (0, l) else match l with | [] => (0, []) | x :: r => (x % n, r)
/-- As many of a list as k, as draws tell which. -/
def someS : Nat → List Nat → List Int → Int → List Int → List Int × List Nat
  | 0, l, _, _, out => (out, l)
  | f + 1, l, left, k, out => if left ≠ [] ∧ (out.length : Int) < k then someS f (drawB l left.length).2 (left.eraseIdx (drawB l left.length).1) k (out ++ [left.getD (drawB l left.length).1 0]) else (out, l)
theorem drawB_lt {l : List Nat} {n : Nat} (h : n ≠ 0) : (drawB l n).1 < n := by
  unfold drawB
  rw [if_neg h]
  cases l with
  | nil => exact Nat.pos_of_ne_zero h
  | cons x r => exact Nat.mod_lt _ (Nat.pos_of_ne_zero h)
end Go.Proofs.Ytolckkckheiceaa
/- flock.Each, Count, Nth, Without. -/
namespace Go.Proofs.Ytolckkckheiceaa
open Go.RowKit Go.Lib Go.Shelf
attribute [local go_sem] Oper.semAt_some

theorem bitsN_pre (s k : Nat) : ∀ j, bitsN s k <+: bitsN s (k + j)
  | 0 => List.prefix_rfl
  | j + 1 => by
    refine (bitsN_pre s k j).trans ?_
    show bitsN s (k + j) <+: bitsN s (k + j + 1)
    simp only [bitsN]
    split
    · exact List.prefix_append _ _
    · exact List.prefix_rfl
theorem bitsN_lt {s k : Nat} (hk : k < 64) (h : s.testBit k = true) : (bitsN s k).length < (bitsN s 64).length := by
  have h1 := (bitsN_pre s (k + 1) (64 - (k + 1))).length_le
  rw [show k + 1 + (64 - (k + 1)) = 64 by omega] at h1
  have h2 : bitsN s (k + 1) = bitsN s k ++ [(k : Int)] := by simp only [bitsN, h, if_true]
  rw [h2, List.length_append] at h1
  simp at h1; omega
theorem hasB_nat (s k : Nat) (hk : k < 64) : TreeS.hasB s (k : Int) = s.testBit k := by
  unfold TreeS.hasB
  rw [Int.toNat_natCast]
  simp; omega
set_option maxRecDepth 100000 in
set_option maxHeartbeats 2000000 in
theorem eachF_in (n : Nat) (hn : 1 ≤ n) (l Bs s : Nat) (hs : s < 2 ^ 64) (J Jx : List Int → World → Prop) (W : World)
    (hY : ∀ pre x W1, J pre W1 → pre.length < (bitsN s 64).length → YieldAt Fence.wide (n - 1) Try.prog l #[.int .i64 x] W1 fun e W' =>
      (e = .returned (.bool true) ∧ J (pre ++ [x]) W' ∧ W'.heap[Bs]? = W1.heap[Bs]?) ∨ (e = .returned (.bool false) ∧ Jx (pre ++ [x]) W'))
    (hBs : W.heap[Bs]? = some (.cells #[.int .u64 s] 39 (0, 0))) (h0 : J [] W) :
    CallsIn Fence.wide n Try.prog 200 #[.func (.yield l) #[] #[], .pointer (some ⟨Bs, 0, none⟩)] W fun e W' => (∃ v, e = .returned v) ∧
      ((∃ ys, ys = bitsN s 64 ∧ J ys W') ∨ (∃ pre, pre <+: bitsN s 64 ∧ Jx pre W')) := by
  have hro : Fence.wide.round = none := rfl
  refine callsIn_of_wp Try.func200 rfl trivial ?_ hro
  simp only [Try.ntmps200, List.size_toArray, List.length_cons, List.length_nil, Nat.reduceAdd, Nat.reduceSub, Array.replicate_succ, Array.replicate_zero, List.push_toArray, List.append_toArray, List.nil_append, List.cons_append]
  have HY := hid hY
  clear hY
  gi_wp2
  gi_loopw [4] (fun i wr => ∃ k : Nat, k ≤ 64 ∧ i = .int .i64 k ∧ Hid (wr.heap[Bs]? = some (.cells #[.int .u64 s] 39 (0, 0))) ∧ Hid (J (bitsN s k) wr)) (fun i _ => 64 - (intOf i).toNat)
  case atStart => exact ⟨0, by omega, rfl, hBs, h0⟩
  case round =>
    obtain ⟨k, hk, rfl, HB, HJ⟩ := hrel
    have hc := (cells_of_block HB.out).1 0 _ rfl
    by_cases hlt : k < 64
    · gi_wp2
      refine ⟨trivial, (callsIn_wide.2 (has_calls s k _ hs)).mono ?_⟩
      rintro e w2 ⟨rfl, rfl⟩
      rw [hasB_nat s k hlt]
      cases hb : s.testBit k
      · have HJ1 := hid (show J (bitsN s (k + 1)) wr by simp only [bitsN, hb]; exact HJ.out)
        gi_wp2
        refine ⟨(fun f h => by cases h), ?_⟩
        gi_wp2
        go_roundw
        case rel => exact ⟨k + 1, by omega, by go_num, HB, HJ1⟩
        case measure => simp [intOf]; omega
      · have HE := hid (show bitsN s (k + 1) = bitsN s k ++ [(k : Int)] by simp only [bitsN, hb, if_true])
        obtain ⟨fn, tmps, assign, body, hy, hR⟩ := HY.out (bitsN s k) (k : Int) _ HJ.out (bitsN_lt hlt hb)
        gi_wp2
        refine hR.mono ?_
        rintro e W3 (⟨rfl, hJ3, hk3⟩ | ⟨rfl, hJx3⟩)
        · have HB3 := hid (hk3.trans HB.out)
          have HJ3 := hid (show J (bitsN s (k + 1)) W3 by rw [HE.out]; exact hJ3)
          gi_wp2
          go_roundw
          case rel => exact ⟨k + 1, by omega, by go_num, HB3, HJ3⟩
          case measure => simp [intOf]; omega
        · have HP := hid (show bitsN s k ++ [(k : Int)] <+: bitsN s 64 by
            have h1 := bitsN_pre s (k + 1) (64 - (k + 1))
            rw [show k + 1 + (64 - (k + 1)) = 64 by omega, HE.out] at h1
            exact h1)
          gi_wp2
          refine bodyPost_ret (results_none rfl _ _ _) rfl ?_
          exact ⟨⟨_, rfl⟩, .inr ⟨_, HP.out, hJx3⟩⟩
    · obtain rfl : k = 64 := by omega
      gi_wp2
      go_end0
      exact ⟨⟨_, rfl⟩, .inl ⟨_, rfl, HJ.out⟩⟩
/-- The iterator's contract. -/
theorem eachF_stops (n : Nat) (hn : 1 ≤ n) (Bs s : Nat) (hs : s < 2 ^ 64) (w : World) (hB : Bs < w.heap.size) (hc : w.heap[Bs]? = some (.cells #[.int .u64 s] 39 (0, 0))) :
    SeqStopsK Fence.wide n Try.prog 200 #[.pointer (some ⟨Bs, 0, none⟩)] (fun x : Int => #[Value.int .i64 x]) (fun A B => B.heap[Bs]? = A.heap[Bs]?) (fun ys => ys = bitsN s 64) (fun pre => pre <+: bitsN s 64) (bitsN s 64).length w :=
  fun l J Jx W hW _ _ hY h0 => eachF_in n hn l Bs s hs J Jx W hY ((hW.block _ hB).trans hc) h0
theorem equalIn_func_nilF {P : Program} {w : World} (d : Nat) {t : TypeId} {ps rs : Array TypeId} {vd : Bool} (h : P.underlying t = some (.func ps rs vd)) (f : Fn) (a c : Array Value) : (Op.equalIn (d + 1) t (.func f a c) .nilFunc).run P w = .ok false w := by
  simp [Op.equalIn, run_underlying h]
theorem equal_func_nilF {P : Program} {w : World} {t : TypeId} {ps rs : Array TypeId} {vd : Bool} (h : P.underlying t = some (.func ps rs vd)) (f : Fn) (a c : Array Value) : (Op.equal t (.func f a c) .nilFunc).run P w = .ok false w := equalIn_func_nilF 9999 h f a c
theorem eql_func_nilF {P : Program} {w : World} {t : TypeId} {ps rs : Array TypeId} {vd : Bool} (h : P.underlying t = some (.func ps rs vd)) (f : Fn) (a c : Array Value) : (binOp .eql t (.func f a c) .nilFunc).run P w = .ok (.bool false) w := by
  simp only [binOp]
  simp [equal_func_nilF h]
set_option maxRecDepth 100000 in
theorem seqI_func : ∃ ps rs vd, Try.prog.underlying 264 = some (.func ps rs vd) := ⟨_, _, _, rfl⟩
theorem eachF_calls (s : Nat) (w : World) : Calls Try.prog 186 #[.int .u64 s] w fun e w' => e = .returned (.func (.func 200) #[] #[.pointer (some ⟨w.heap.size, 0, none⟩)]) ∧ w' = w.alloc (.cells #[.int .u64 s] 39) := by
  go_enter Try.func186, Try.ntmps186
  go_wp2
  go_ret
  exact ⟨rfl, rfl⟩
end Go.Proofs.Ytolckkckheiceaa
/- flock.Count, Nth, Without. -/
namespace Go.Proofs.Ytolckkckheiceaa
open Go.RowKit Go.Lib Go.Shelf
attribute [local go_sem] Oper.semAt_some

set_option maxRecDepth 100000 in
set_option maxHeartbeats 4000000 in
theorem fcount_calls (s : Nat) (w : World) (hs : s < 2 ^ 64) :
    Calls Try.prog 160 #[.int .u64 s] w fun e w' => e = .returned (.int .i64 ((bitsN s 64).length : Nat)) ∧ Below w.heap.size w w' := by
  refine (callsIn_wide (n := 5)).1 ?_
  refine callsIn_of_wp_marks Try.func160 rfl trivial ?_ rfl
  refine wpIn_wide.2 ?_
  simp only [Try.ntmps160, List.size_toArray, List.length_cons, List.length_nil, Nat.reduceAdd, Nat.reduceSub, Array.replicate_succ, Array.replicate_zero, List.push_toArray, List.append_toArray, List.nil_append, List.cons_append]
  obtain ⟨ps, rs, vd, hu⟩ := seqI_func
  have hfn := fun (W : World) => eql_func_nilF (w := W) hu (.func 200)
  go_wp2_with fail
  refine (eachF_calls s _).mono ?_
  rintro e w2 ⟨rfl, rfl⟩
  go_wp2_with fail
  obtain ⟨W0, hW0⟩ : ∃ W0, W0 = (w.alloc (.cells #[.int .i64 0] 3)).alloc (.cells #[.int .u64 s] 39) := ⟨_, rfl⟩
  rw [← hW0]
  have hs0 : W0.heap.size = w.heap.size + 2 := by rw [hW0]; simp
  have HB0 := hid (show Below w.heap.size w W0 by rw [hW0]; exact bAlloc (bAlloc (Below.refl _ _) _) _)
  have HN0 := hid (show W0.heap[w.heap.size]? = some (.cells #[.int .i64 0] 3 (0, 0)) by rw [hW0]; exact heap_old (by simp) (heap_at rfl))
  have HS0 := hid (show W0.heap[w.heap.size + 1]? = some (.cells #[.int .u64 s] 39 (0, 0)) by rw [hW0]; exact heap_at (by simp))
  clear hW0
  refine (wpIn_wide (n := 5)).1 ?_
  refine wpIn_rangeFunc_ownF rfl (by omega) (gf := 200) (lb := #[.pointer (some ⟨w.heap.size + 1, 0, none⟩)]) rfl trivial (enters_of Try.func200 (by kernel_rfl) rfl)
    (eachF_stops (5 - 1) (by omega) (w.heap.size + 1) s hs W0 (by omega) HS0.out) (fun h k => k.trans h) (fun W l o o' hl _ _ _ => World.putObj_heap_other (by omega)) (Below.refl _ _) (fun _ => rfl)
    (fun pre W => W.heap[w.heap.size]? = some (.cells #[.int .i64 (pre.length : Nat)] 3 (0, 0)) ∧ Mod (fun b => b = w.heap.size) W0 W)
    (fun _ _ _ => False)
    (fun pre W W' row hs hg hr => ⟨(hg.block _ (by have := hs.2.size; omega) (fun e => by have := (hr _ e.symm).1; omega)).trans hs.1, hs.2.grown hg (fun k e _ => by have := (hr k e).1; omega)⟩)
    (fun _ _ _ _ _ hs _ _ => hs)
    ⟨HN0.out, Mod.refl _ _⟩
    (fun x => { tmps := #[.int .u64 s, undef, .int .i64 0, .pointer (some ⟨w.heap.size, 0, none⟩), .int .u64 s, .func (.func 200) #[] #[.pointer (some ⟨w.heap.size + 1, 0, none⟩)], .int .i64 x, undef, undef, undef], defers := [] }) ?assign ?body ?done ?stop
  case assign =>
    intro l x W K hK
    gi_wp2
    first | exact hK | (simpa using hK) | (simpa [Array.zip, Array.zipWith] using hK)
  case body =>
    rintro l pre x W ⟨hN, hm⟩ hlen
    have c0 := (cells_of_block hN).1 0 _ rfl
    have c1 := (cells_of_block hN).2.1 0
    have hl64 := bitsN_len s 64
    have HF : Hid (∀ v, v = Value.int .i64 ((pre ++ [x]).length : Nat) → KeepsOthers W (W.setCell ⟨w.heap.size, 0, none⟩ v) ∧ (W.setCell ⟨w.heap.size, 0, none⟩ v).heap[w.heap.size + 1]? = W.heap[w.heap.size + 1]? ∧
        (W.setCell ⟨w.heap.size, 0, none⟩ v).heap[w.heap.size]? = some (.cells #[.int .i64 ((pre ++ [x]).length : Nat)] 3 (0, 0)) ∧ Mod (fun b => b = w.heap.size) W0 (W.setCell ⟨w.heap.size, 0, none⟩ v)) := by
      intro v hv
      subst hv
      exact ⟨KeepsOthers.setCell _ _ _, Below.heap_setCell _ _ _ _ (by simp), by simpa using heap_set hN 0 _, hm.setCell (p := ⟨w.heap.size, 0, none⟩) (fun _ => rfl) _⟩
    have HV := hid (show Value.int .i64 ((pre.length : Int) + 1) = Value.int .i64 ((pre ++ [x]).length : Nat) by simp)
    clear hN hm
    gi_wp2
    exact HF.out _ HV.out
  case done =>
    rintro D xs W hD rfl ⟨hN, hm⟩ hK
    have HK := hid hK
    have c0 := (cells_of_block hN).1 0 _ rfl
    have HB := hid (below_mod HB0.out hm (fun i e => by omega) (by omega))
    clear hN hm hK
    go_wp2_with fail
    refine ⟨by simp, .inl ⟨_, _, rfl, run_takeDeferred HK.out, ?_⟩⟩
    refine ⟨.int .i64 ((bitsN s 64).length : Nat), ?_, rfl, HB.out.trans (belowK_b (w := w) (Nat.le_refl _) _ D _ _ (by omega) HK.out rfl rfl)⟩
    simp [results, Try.f160, go_sem]
  case stop =>
    intro D c pre W hD hp hI hK
    exact hI.elim
set_option maxRecDepth 100000 in
set_option maxHeartbeats 4000000 in
theorem nth_calls (s k : Nat) (y : Int) (w : World) (hs : s < 2 ^ 64) (hy : (bitsN s 64)[k]? = some y) :
    Calls Try.prog 159 #[.int .u64 s, .int .i64 k] w fun e w' => e = .returned (.int .i64 y) ∧ Below w.heap.size w w' := by
  refine (callsIn_wide (n := 5)).1 ?_
  refine callsIn_of_wp_marks Try.func159 rfl trivial ?_ rfl
  refine wpIn_wide.2 ?_
  simp only [Try.ntmps159, List.size_toArray, List.length_cons, List.length_nil, Nat.reduceAdd, Nat.reduceSub, Array.replicate_succ, Array.replicate_zero, List.push_toArray, List.append_toArray, List.nil_append, List.cons_append]
  obtain ⟨ps, rs, vd, hu⟩ := seqI_func
  have hfn := fun (W : World) => eql_func_nilF (w := W) hu (.func 200)
  have HY := hid hy
  have hkl : k < 64 := by have := (List.getElem?_eq_some_iff.1 hy).1; have := bitsN_len s 64; omega
  clear hy
  go_wp2_with fail
  refine (eachF_calls s _).mono ?_
  rintro e w2 ⟨rfl, rfl⟩
  go_wp2_with fail
  obtain ⟨W0, hW0⟩ : ∃ W0, W0 = ((w.alloc (.cells #[.int .i64 k] 3)).alloc (.cells #[.int .i64 0] 3)).alloc (.cells #[.int .u64 s] 39) := ⟨_, rfl⟩
  rw [← hW0]
  have hs0 : W0.heap.size = w.heap.size + 3 := by rw [hW0]; simp
  have HB0 := hid (show Below w.heap.size w W0 by rw [hW0]; exact bAlloc (bAlloc (bAlloc (Below.refl _ _) _) _) _)
  have HN0 := hid (show W0.heap[w.heap.size]? = some (.cells #[.int .i64 k] 3 (0, 0)) by rw [hW0]; exact heap_old (by simp; try omega) (heap_old (by simp) (heap_at rfl)))
  have HR0 := hid (show W0.heap[w.heap.size + 1]? = some (.cells #[.int .i64 0] 3 (0, 0)) by rw [hW0]; exact heap_old (by simp) (heap_at (by simp)))
  have HS0 := hid (show W0.heap[w.heap.size + 1 + 1]? = some (.cells #[.int .u64 s] 39 (0, 0)) by rw [hW0]; exact heap_at (by simp))
  clear hW0
  refine (wpIn_wide (n := 5)).1 ?_
  refine wpIn_rangeFunc_ownF rfl (by omega) (gf := 200) (lb := #[.pointer (some ⟨w.heap.size + 1 + 1, 0, none⟩)]) rfl trivial (enters_of Try.func200 (by kernel_rfl) rfl)
    (eachF_stops (5 - 1) (by omega) (w.heap.size + 1 + 1) s hs W0 (by omega) HS0.out) (fun h k => k.trans h) (fun W l o o' hl _ _ _ => World.putObj_heap_other (by omega)) (Below.refl _ _) (fun _ => rfl)
    (fun pre W => (W.heap[w.heap.size]? = some (.cells #[.int .i64 ((k : Int) - (pre.length : Nat))] 3 (0, 0)) ∧ W.heap[w.heap.size + 1]? = some (.cells #[.int .i64 0] 3 (0, 0)) ∧ Mod (fun b => b = w.heap.size ∨ b = w.heap.size + 1) W0 W) ∧ pre.length ≤ k)
    (fun c pre W => (W.heap[w.heap.size + 1]? = some (.cells #[.int .i64 (pre[k]?.getD 0)] 3 (0, 0)) ∧ Mod (fun b => b = w.heap.size ∨ b = w.heap.size + 1) W0 W) ∧ c = .ret ∧ pre.length = k + 1)
    (fun pre W W' row hs hg hr => ⟨⟨(hg.block _ (by have := hs.1.2.2.size; omega) (fun e => by have := (hr _ e.symm).1; omega)).trans hs.1.1, (hg.block _ (by have := hs.1.2.2.size; omega) (fun e => by have := (hr _ e.symm).1; omega)).trans hs.1.2.1, hs.1.2.2.grown hg (fun k e _ => by have := (hr k e).1; omega)⟩, hs.2⟩)
    (fun c pre W W' row hs hg hr => ⟨⟨(hg.block _ (by have := hs.1.2.size; omega) (fun e => by have := (hr _ e.symm).1; omega)).trans hs.1.1, hs.1.2.grown hg (fun k e _ => by have := (hr k e).1; omega)⟩, hs.2⟩)
    ⟨⟨by simpa using HN0.out, HR0.out, Mod.refl _ _⟩, by simp⟩
    (fun x => { tmps := #[.int .u64 s, .int .i64 k, undef, .pointer (some ⟨w.heap.size, 0, none⟩), .pointer (some ⟨w.heap.size + 1, 0, none⟩), .int .i64 x, .int .u64 s, .func (.func 200) #[] #[.pointer (some ⟨w.heap.size + 1 + 1, 0, none⟩)], .int .i64 x, undef, undef, undef, undef, undef], defers := [] }) ?assign ?body ?done ?stop
  case assign =>
    intro l x W K hK
    gi_wp2
    first | exact hK | (simpa using hK)
  case body =>
    rintro l pre x W ⟨⟨hN, hR, hm⟩, hl⟩ hlen
    obtain ⟨j, hj⟩ : ∃ j : Int, j = (k : Int) - (pre.length : Nat) := ⟨_, rfl⟩
    rw [← hj] at hN
    have hj0 : 0 ≤ j := by omega
    have hj1 : j ≤ 64 := by omega
    have c0 := (cells_of_block hN).1 0 _ rfl
    have c1 := (cells_of_block hN).2.1 0
    have r0 := (cells_of_block hR).1 0 _ rfl
    have r1 := (cells_of_block hR).2.1 0
    by_cases h0 : j = 0
    · have HF := hid (show KeepsOthers W (W.setCell ⟨w.heap.size + 1, 0, none⟩ (.int .i64 x)) ∧ ((W.setCell ⟨w.heap.size + 1, 0, none⟩ (.int .i64 x)).heap[w.heap.size + 1]? = some (.cells #[.int .i64 ((pre ++ [x])[k]?.getD 0)] 3 (0, 0)) ∧ Mod (fun b => b = w.heap.size ∨ b = w.heap.size + 1) W0 (W.setCell ⟨w.heap.size + 1, 0, none⟩ (.int .i64 x))) ∧ (pre ++ [x]).length = k + 1 from by
        have hk : pre.length = k := by omega
        refine ⟨KeepsOthers.setCell _ _ _, ⟨?_, hm.setCell (p := ⟨w.heap.size + 1, 0, none⟩) (fun _ => .inr rfl) _⟩, by simp [hk]⟩
        have := heap_set hR 0 (.int .i64 x)
        rw [← hk]
        simpa using this)
      have e0 : (j == (0 : Int)) = true := by rw [beq_iff_eq]; exact h0
      clear hN hR hm hj h0 hlen hl
      gi_wp2
      exact (show KeepsOthers _ _ ∧ ((_ ∧ _) ∧ Code.ret = Code.ret ∧ _) from ⟨HF.out.1, HF.out.2.1, rfl, HF.out.2.2⟩)
    · have HF := hid (show KeepsOthers W (W.setCell ⟨w.heap.size, 0, none⟩ (.int .i64 (j - 1))) ∧ (W.setCell ⟨w.heap.size, 0, none⟩ (.int .i64 (j - 1))).heap[w.heap.size + 1 + 1]? = W.heap[w.heap.size + 1 + 1]? ∧ ((W.setCell ⟨w.heap.size, 0, none⟩ (.int .i64 (j - 1))).heap[w.heap.size]? = some (.cells #[.int .i64 ((k : Int) - ((pre ++ [x]).length : Nat))] 3 (0, 0)) ∧ (W.setCell ⟨w.heap.size, 0, none⟩ (.int .i64 (j - 1))).heap[w.heap.size + 1]? = some (.cells #[.int .i64 0] 3 (0, 0)) ∧ Mod (fun b => b = w.heap.size ∨ b = w.heap.size + 1) W0 (W.setCell ⟨w.heap.size, 0, none⟩ (.int .i64 (j - 1)))) ∧ (pre ++ [x]).length ≤ k from by
        refine ⟨KeepsOthers.setCell _ _ _, Below.heap_setCell _ _ _ _ (by simp; try omega), ⟨?_, (Below.heap_setCell _ _ _ _ (by simp)).trans hR, hm.setCell (p := ⟨w.heap.size, 0, none⟩) (fun _ => .inl rfl) _⟩, by simp; omega⟩
        have := heap_set hN 0 (.int .i64 (j - 1))
        rw [show (k : Int) - ((pre ++ [x]).length : Nat) = j - 1 by simp; omega]
        simpa using this)
      have e0 : (j == (0 : Int)) = false := by rw [beq_eq_false_iff_ne]; exact h0
      have hw : IntKind.i64.wrap (j - 1) = j - 1 := IntWalk.i64_in _ (by omega)
      clear hN hR hm hj h0 hlen hl
      gi_wp2
      exact HF.out
  case done =>
    rintro D xs W hD rfl ⟨_, hl⟩ hK
    have := (List.getElem?_eq_some_iff.1 HY.out).1
    omega
  case stop =>
    rintro D c pre W hD hp ⟨⟨hR, hm⟩, rfl, hln⟩ hK
    have HK := hid hK
    have hv : pre[k]?.getD 0 = y := by
      obtain ⟨t, ht⟩ := hp
      have h1 := HY.out
      rw [← ht, List.getElem?_append_left (by omega)] at h1
      rw [h1]; rfl
    rw [hv] at hR
    have c0 := (cells_of_block hR).1 0 _ rfl
    have HB := hid (below_mod HB0.out hm (fun i e => by omega) (by omega))
    clear hm hR hK
    refine wpIn_wide.2 ?_
    go_wp2_with fail
    refine ⟨by simp, .inl ⟨_, _, rfl, run_takeDeferred HK.out, ?_⟩⟩
    have hc5 := cell_kept c0 (grownBy_putObj' _ D (.deferred none)) (fun r e => by cases e; exact ⟨_, HK.out, rfl⟩)
    refine ⟨.int .i64 y, ?_, rfl, HB.out.trans (belowK_b (w := w) (Nat.le_refl _) _ D _ _ (by omega) HK.out rfl rfl)⟩
    simp [results, Try.f159, go_sem, hc5]
set_option maxHeartbeats 1000000 in
set_option maxRecDepth 100000 in
theorem without_calls (s k : Nat) (w : World) (hs : s < 2 ^ 64) (hk : k < 64) : Calls Try.prog 161 #[.int .u64 s, .int .i64 k] w fun e w' => e = .returned (.int .u64 (clrS s k : Nat)) ∧ w = w' := by
  have hd : (decide (0 ≤ (k : Int)) && decide ((k : Int) < 64)) = true := by simp; omega
  have h1 : bits .andNot .u64 (s : Int) (IntKind.u64.wrap (2 ^ k)) = ((clrS s k : Nat) : Int) := by
    rw [wrap_pow hk]
    exact u64_andNot_nat _ _ (by omega) (by rw [Nat.one_shiftLeft]; exact pow_lt64 hk)
  have HD := hid hd
  clear hd
  go_enter Try.func161, Try.ntmps161
  go_wp2_with fail
  refine (is_calls k w).mono ?_
  rintro e w1 ⟨rfl, rfl⟩
  rw [HD.out]
  go_wp2
  go_ret
  exact ⟨rfl, rfl⟩
end Go.Proofs.Ytolckkckheiceaa
/- draw.Tape. -/
namespace Go.Proofs.Ytolckkckheiceaa
open Go.RowKit

def Kd.n64 : Kd Nat := Kd.flat 1 (fun x => [.int .u64 x]) (fun _ => rfl) (fun x u hu => by rw [List.mem_singleton.1 hu]; rfl)
theorem Kd.Row.at_n64 {w : World} {S : Nat → Prop} {A : Option Addr} {xs : List Nat} (h : Kd.n64.Row w S A xs) (i : Nat) (hi : i < xs.length) : ∃ a x, A = some a ∧ xs[i]? = some x ∧ w.cell? (a.add i) = some (.int .u64 x) := by
  obtain ⟨a, cs, h1, _, _, h4, h5⟩ := h i xs[i] (List.getElem?_eq_getElem hi)
  cases h4
  exact ⟨a, xs[i], h1, List.getElem?_eq_getElem hi, by have := h5 0 _ rfl; rwa [show i * Kd.n64.sz + 0 = i from mul_one' i] at this⟩
/-- A tape in block g; its draws lie elsewhere in T. -/
def TapeAt (w : World) (T : Nat → Prop) (g : Nat) (l : List Nat) : Prop :=
  T g ∧ (∀ x ∈ l, x < 2 ^ 64) ∧ ∃ A c, w.heap[g]? = some (.cells #[.slice A l.length c] 107 (0, 0)) ∧ l.length ≤ c ∧ l.length ≤ 1000000 ∧ Kd.n64.Row w (fun k => T k ∧ k ≠ g) A l
section
variable {w w1 : World} {T T' : Nat → Prop} {g : Nat} {l : List Nat}
theorem TapeAt.mono (h : TapeAt w T g l) (hT : ∀ k, k < w.heap.size → T k → T' k) : TapeAt w T' g l := by
  obtain ⟨h1, h0, A, c, h2, h3, h4, h5⟩ := h
  exact ⟨hT g (Array.getElem?_eq_some_iff.1 h2).1 h1, h0, A, c, h2, h3, h4, Kd.Row.mono (fun b hb hl => ⟨hT b hl hb.1, hb.2⟩) h5⟩
theorem TapeAt.move (h : TapeAt w T g l) (hm : ∀ k, k < w.heap.size → T k → w1.heap[k]? = w.heap[k]?) : TapeAt w1 T g l := by
  obtain ⟨h1, h0, A, c, h2, h3, h4, h5⟩ := h
  exact ⟨h1, h0, A, c, (hm g (Array.getElem?_eq_some_iff.1 h2).1 h1).trans h2, h3, h4, Kd.Row.move (fun b hb hl => hm b hl hb.1) h5⟩
theorem TapeAt.below (h : TapeAt w T g l) (hb : Below w.heap.size w w1) : TapeAt w1 T g l := h.move (fun k hk _ => hb.block k hk)
theorem TapeAt.setL (h : TapeAt w T g l) {l' : List Nat} (hs : ∀ x ∈ l', x < 2 ^ 64) {A' : Option Addr} {n' c' : Nat} (hn : n' = l'.length) (hc : l'.length ≤ c') (hm : l'.length ≤ 1000000) (hr : Kd.n64.Row w (fun k => T k ∧ k ≠ g) A' l') : TapeAt (w.setCell ⟨g, 0, none⟩ (.slice A' n' c')) T g l' := by
  obtain ⟨h1, h0, A, c, h2, h3, h4, h5⟩ := h
  subst hn
  exact ⟨h1, hs, A', c', heap_set h2 0 _, hc, hm, Kd.Row.move (fun b hb _ => Below.heap_setCell w ⟨g, 0, none⟩ _ b hb.2) hr⟩
end
theorem modOne {w : World} {p : Addr} (u : Value) : Mod (fun k => k = p.block) w (w.setCell p u) := Mod.setCell (Mod.refl (fun k => k = p.block) w) (fun _ => rfl) u
set_option maxHeartbeats 1600000 in
set_option maxRecDepth 100000 in
theorem tnext_calls (T : Nat → Prop) (g : Nat) (l : List Nat) (w : World) (hd : TapeAt w T g l) : Calls Try.prog 158 #[.pointer (some ⟨g, 0, none⟩)] w fun en w' => en = .returned (.int .u64 (l.headD 0 : Nat)) ∧ TapeAt w' T g l.tail ∧ Mod (fun k => k = g) w w' := by
  have HD := hid hd
  obtain ⟨_, h0, A, c, hb, hc, hm, hr⟩ := hd
  have c0 := (cells_of_block hb).1 0 _ rfl
  have f0 := (cells_of_block hb).2.1 0
  clear hb
  cases l with
  | nil =>
    clear hr h0
    go_enter Try.func158, Try.ntmps158
    go_wp2
    go_ret
    exact ⟨rfl, HD.out, Mod.refl _ _⟩
  | cons x r =>
    obtain ⟨a, y, rfl, hy, hx⟩ := hr.at_n64 0 (by simp)
    simp only [List.getElem?_cons_zero, Option.some.injEq] at hy
    subst hy
    have ha0 : a.add 0 = a := by unfold Addr.add; rw [if_pos rfl]
    have hx' := hx
    rw [ha0] at hx'
    have hR2 := Kd.Row.drop hr 1 c (by simp) hc
    have H0 := hid (fun z hz => h0 z (List.mem_cons_of_mem _ hz))
    have hle : (x :: r).length = r.length + 1 := rfl
    rw [hle] at c0 hc hm
    clear hr h0 hle
    by_cases hc1 : c = 1
    · rw [if_pos hc1] at hR2
      have HX := hid (HD.out.setL (l' := r) (A' := some a) (n' := r.length + 1 - 1) (c' := 0) H0.out (by omega) (by omega) (by omega) hR2)
      clear hR2
      go_enter Try.func158, Try.ntmps158
      go_wp2
      go_ret
      exact ⟨rfl, HX.out, modOne (p := ⟨g, 0, none⟩) _⟩
    · rw [if_neg hc1] at hR2
      have HX := hid (HD.out.setL (l' := r) (A' := some (a.add 1)) (n' := r.length + 1 - 1) (c' := c - 1) H0.out (by omega) (by omega) (by omega) hR2)
      clear hR2
      go_enter Try.func158, Try.ntmps158
      go_wp2
      go_ret
      exact ⟨rfl, HX.out, modOne (p := ⟨g, 0, none⟩) _⟩
theorem drawB_eq (l : List Nat) {n : Nat} (h : n ≠ 0) : drawB l n = (l.headD 0 % n, l.tail) := by
  unfold drawB
  rw [if_neg h]
  cases l with
  | nil => simp
  | cons x r => rfl
set_option maxHeartbeats 1600000 in
set_option maxRecDepth 100000 in
theorem tbelow_calls (T : Nat → Prop) (g : Nat) (l : List Nat) (n : Nat) (w : World) (hn : n ≤ 1000000) (hd : TapeAt w T g l) : Calls Try.prog 113 #[.pointer (some ⟨g, 0, none⟩), .int .i64 n] w fun en w' => en = .returned (.int .i64 ((drawB l n).1 : Nat)) ∧ TapeAt w' T g (drawB l n).2 ∧ Mod (fun k => k = g) w w' := by
  have HD := hid hd
  clear hd
  by_cases h0 : n = 0
  · have HV := hid (show drawB l n = (0, l) by unfold drawB; rw [if_pos h0])
    have h1 : (n : Int) < 1 := by omega
    clear h0
    go_enter Try.func113, Try.ntmps113
    go_wp2
    go_ret
    rw [HV.out]
    exact ⟨rfl, HD.out, Mod.refl _ _⟩
  · have HV := hid (drawB_eq l h0)
    have h1 : ¬ (n : Int) < 1 := by omega
    have hn0 : ((n : Int) == 0) = false := by rw [beq_eq_false_iff_ne]; omega
    have hw : IntKind.u64.wrap (n : Int) = n := by rw [IntKind.wrap_u64]; omega
    obtain ⟨q, hq⟩ : ∃ q, q = l.headD 0 % n := ⟨_, rfl⟩
    have hqn : q < n := by rw [hq]; exact Nat.mod_lt _ (by omega)
    have hqi : ((l.headD 0 : Nat) : Int) % (n : Int) = (q : Int) := by rw [hq]; simp
    have hqt : Int.tmod ((l.headD 0 : Nat) : Int) (n : Int) = (q : Int) := by rw [Int.tmod_eq_emod_of_nonneg (by omega)]; exact hqi
    have hw1 : IntKind.u64.wrap (q : Int) = q := by rw [IntKind.wrap_u64]; omega
    have hw2 : IntKind.i64.wrap (q : Int) = q := IntWalk.i64_in _ (by omega)
    have HQ := hid hq
    clear hq h0
    go_enter Try.func113, Try.ntmps113
    go_wp2_with fail
    refine (tnext_calls T g l _ HD.out).mono ?_
    rintro e w1 ⟨rfl, hA, hM⟩
    have HA := hid hA
    have HM := hid hM
    clear hA hM
    go_wp2
    go_ret
    rw [HV.out]
    exact ⟨ret_int (by
      rw [← HQ.out]
      show wrap64 (((l.head?.getD 0 : Nat) : Int) % (n : Int)) = (q : Int)
      rw [← List.headD_eq_head?_getD, hqi]
      first | exact hw2 | (unfold wrap64; omega)), HA.out, HM.out⟩
theorem Try.infoU64 : (Try.prog.info? 39).map (fun i => (i.zero, i.size, i.bytes)) = some (some (.int .u64 0), 1, 8) := by kernel_rfl
theorem nil_own64 (w : World) : Own Kd.n64 39 w w.heap.size NoT (.slice none 0 0) [] := Own.nil _ _ _ _ _
set_option maxHeartbeats 1600000 in
set_option maxRecDepth 100000 in
theorem tnew_calls (l : List Nat) (v : Value) (w : World) (hb : Kd.n64.slice.K w Any l [v]) (hl : l.length ≤ 1000000) (hr64 : ∀ x ∈ l, x < 2 ^ 64) :
    Calls Try.prog 14 #[v] w fun e w' => ∃ g, e = .returned (.pointer (some ⟨g, 0, none⟩)) ∧ TapeAt w' (fun k => w.heap.size ≤ k) g l ∧ Below w.heap.size w w' := by
  obtain ⟨B, d, he, hd1, hd2, hr⟩ := hb
  cases he
  have HR := hid hr
  obtain ⟨q, hq⟩ : ∃ q, l.length = q := ⟨_, rfl⟩
  have HQ := hid hq
  have HV := hid hr64
  rw [hq] at hd1 hd2 hl ⊢
  clear hr hq hr64
  go_enter Try.func14, Try.ntmps14
  go_wp2_with (at_builtin; go_must (refine appends_arm Kd.n64 (w0 := w) w.heap.size rfl _ _ 30 39 _ 8 rfl Try.underlying30 Try.infoU64 rfl (by decide) (by decide) (.slice none 0 0) [] l B q d NoT Any NoT rfl rfl HQ.out HR.out (fun _ _ h => h) (fun _ h => h.elim) (nil_own64 w) (Below.refl _ _) (Nat.le_refl _) (by simp; omega) ?_))
  intro v2 w2 hO2 hb2 _ _
  obtain ⟨A2, n2, c2, rfl, hn2, hc2⟩ := hO2.shape'
  have HO2 := hid hO2
  have HN2 := hid hn2
  have hs2 := hb2.size
  clear hO2 hn2
  go_wp2
  go_ret
  refine ⟨_, rfl, ?_, bAlloc hb2 _⟩
  have hO2 : Own Kd.n64 39 w2 w.heap.size NoT (.slice A2 n2 c2) l := by simpa using HO2.out
  have hn : n2 = l.length := by simpa using HN2.out
  subst hn
  have hrow : Kd.n64.Row w2 (fun k => NoT k ∨ w.heap.size ≤ k) A2 l := by
    obtain ⟨A', n', h1, _, _, h2⟩ := hO2.K
    cases h1
    exact h2
  refine ⟨hs2, HV.out, A2, c2, heap_alloc_new w2 _, hc2, by rw [HQ.out]; exact hl, ?_⟩
  exact Kd.Row.move (fun b hb hl => Below.heap_alloc w2 _ b hl) (Kd.Row.mono (fun b hb hl => ⟨hb.elim (fun h => h.elim) id, by omega⟩) hrow)
end Go.Proofs.Ytolckkckheiceaa
/- siskinref07: Next, Below. -/
namespace Go.Proofs.Ytolckkckheiceaa
open Go.RowKit

set_option maxHeartbeats 1600000 in
set_option maxRecDepth 100000 in
theorem rnext7_calls (S : Nat → Prop) (l : List Nat) (v : Value) (w : World) (hb : Kd.n64.slice.K w S l [v]) :
    Calls Try.prog 168 #[v] w fun e w' => ∃ A n c, e = .returned (.tuple #[.int .u64 (l.headD 0 : Nat), .slice A n c]) ∧ Kd.n64.slice.K w S l.tail [.slice A n c] ∧ Below w.heap.size w w' := by
  obtain ⟨A, c, he, hc, hm, hr⟩ := hb
  cases he
  cases l with
  | nil =>
    clear hr
    go_enter Try.func168, Try.ntmps168
    go_wp2
    go_ret2
    exact ⟨none, 0, 0, rfl, ⟨none, 0, rfl, by simp, by simp, Kd.Row.nil⟩, Below.refl _ _⟩
  | cons x r =>
    obtain ⟨a, y, rfl, hy, hx⟩ := hr.at_n64 0 (by simp)
    simp only [List.getElem?_cons_zero, Option.some.injEq] at hy
    subst hy
    have ha0 : a.add 0 = a := by unfold Addr.add; rw [if_pos rfl]
    have hx' := hx
    rw [ha0] at hx'
    have hR2 := Kd.Row.drop hr 1 c (by simp) hc
    have hle : (x :: r).length = r.length + 1 := rfl
    rw [hle] at hc hm ⊢
    clear hr hle
    by_cases hc1 : c = 1
    · rw [if_pos hc1] at hR2
      have HR2 := hid hR2
      clear hR2
      go_enter Try.func168, Try.ntmps168
      go_wp2_with fail
      go_quiet (fail)
      go_wp2
      go_ret2
      exact ⟨_, _, _, rfl, ⟨_, _, rfl, by first | omega | (show r.length ≤ _; omega), by show r.length ≤ _; omega, HR2.out⟩, below_drewN (Below.refl _ _) _⟩
    · rw [if_neg hc1] at hR2
      have HR2 := hid hR2
      clear hR2
      go_enter Try.func168, Try.ntmps168
      go_wp2_with fail
      go_quiet (fail)
      go_wp2
      go_ret2
      exact ⟨_, _, _, rfl, ⟨_, _, rfl, by first | omega | (show r.length ≤ _; omega), by show r.length ≤ _; omega, HR2.out⟩, below_drewN (Below.refl _ _) _⟩
set_option maxHeartbeats 1600000 in
set_option maxRecDepth 100000 in
theorem rbelow7_calls (S : Nat → Prop) (l : List Nat) (n : Nat) (A : Option Addr) (m c : Nat) (w : World) (hn : n ≤ 1000000) (hb : Kd.n64.slice.K w S l [.slice A m c]) :
    Calls Try.prog 121 #[.slice A m c, .int .i64 n] w fun e w' => ∃ A n' c, e = .returned (.tuple #[.int .i64 ((drawB l n).1 : Nat), .slice A n' c]) ∧ Kd.n64.slice.K w S (drawB l n).2 [.slice A n' c] ∧ Below w.heap.size w w' := by
  have HB := hid hb
  clear hb
  by_cases h0 : n = 0
  · have HV := hid (show drawB l n = (0, l) by unfold drawB; rw [if_pos h0])
    have h1 : (n : Int) < 1 := by omega
    clear h0
    go_enter Try.func121, Try.ntmps121
    go_wp2
    go_ret2
    rw [HV.out]
    exact ⟨_, _, _, rfl, HB.out, Below.refl _ _⟩
  · have HV := hid (drawB_eq l h0)
    have h1 : ¬ (n : Int) < 1 := by omega
    have hn0 : ((n : Int) == 0) = false := by rw [beq_eq_false_iff_ne]; omega
    have hw : IntKind.u64.wrap (n : Int) = n := by rw [IntKind.wrap_u64]; omega
    obtain ⟨x, hx⟩ : ∃ x, x = l.headD 0 := ⟨_, rfl⟩
    obtain ⟨q, hq⟩ : ∃ q, q = x % n := ⟨_, rfl⟩
    have hqn : q < n := by rw [hq]; exact Nat.mod_lt _ (by omega)
    have hqi : (x : Int) % (n : Int) = (q : Int) := by rw [hq]; simp
    have hw2 : IntKind.i64.wrap (q : Int) = q := IntWalk.i64_in _ (by omega)
    have hw3 : wrap64 (q : Int) = q := by first | exact hw2 | (unfold wrap64; omega)
    rw [← hx, ← hq] at HV
    have HX := hid hx
    clear hq h0 hx
    go_enter Try.func121, Try.ntmps121
    go_wp2_with fail
    refine (rnext7_calls S l _ w HB.out).mono ?_
    rintro e w1 ⟨A2, n2, c2, rfl, hK, hb1⟩
    rw [← HX.out]
    have HK := hid hK
    have HB1 := hid hb1
    clear hK hb1
    go_wp2
    go_ret2
    rw [HV.out]
    exact ⟨_, _, _, by first | rfl | (rw [hqi]; first | rfl | rw [hw3]) | simp [hqi, hw3], HK.out, HB1.out⟩
set_option maxHeartbeats 4000000 in
set_option maxRecDepth 100000 in
theorem dsame_calls (l : List Nat) (v1 v2 : Value) (w : World) (h1 : Kd.n64.slice.K w Any l [v1]) (h2 : Kd.n64.slice.K w Any l [v2]) :
    Calls Try.prog 22 #[v1, v2] w fun e w' => e = .returned (.bool true) ∧ ∃ n, w' = w.drewN n := by
  obtain ⟨A, c, he, hc, hm, hr⟩ := h1
  cases he
  obtain ⟨B, d, he, hd, _, hr2⟩ := h2
  cases he
  obtain ⟨q, hq⟩ : ∃ q, l.length = q := ⟨_, rfl⟩
  have HQ := hid hq
  have HR := hid hr
  have HR2 := hid hr2
  rw [hq] at hc hm hd ⊢
  have hqq : ((q : Int) == (q : Int)) = true := beq_self_eq_true _
  have hqn : ((q : Int) != (q : Int)) = false := bne_self_eq_false _
  clear hr hr2 hq
  go_enter Try.func22, Try.ntmps22
  go_wp2
  go_loopw [5] (fun i wr => ∃ k n : Nat, k ≤ q ∧ i = .int .i64 k ∧ wr = w.drewN n) (fun i _ => q - (intOf i).toNat)
  case atStart => exact ⟨0, 0, by omega, rfl, rfl⟩
  case round =>
    obtain ⟨k, n, hk, rfl, rfl⟩ := hrel
    by_cases hlt : k < q
    · obtain ⟨a, x, rfl, hx, r0⟩ := HR.out.at_n64 k (by rw [HQ.out]; exact hlt)
      obtain ⟨b, x', rfl, hx', s0⟩ := HR2.out.at_n64 k (by rw [HQ.out]; exact hlt)
      rw [hx] at hx'
      obtain rfl := Option.some.inj hx'
      have e2 : ((x : Int) != (x : Int)) = false := bne_self_eq_false _
      have hltI : (k : Int) < (q : Int) := by omega
      have hk0 : (0 : Int) ≤ (k : Int) := by omega
      clear hx hx'
      go_wp2
      go_quiet (fail)
      go_wp2
      go_roundw
      case rel => first | exact ⟨k + 1, _, by omega, by go_num, rfl⟩ | ((repeat apply Exists.intro); exact ⟨⟨k + 1, _, by omega, by go_num, rfl⟩, rfl⟩)
      case measure => simp [intOf]; omega
    · obtain rfl : k = q := by omega
      go_wp2
      go_ret
      exact ⟨rfl, n, rfl⟩
end Go.Proofs.Ytolckkckheiceaa
/- draw.some, Tape.Some. -/
namespace Go.Proofs.Ytolckkckheiceaa
open Go.RowKit

theorem TapeAt.len {w : World} {T : Nat → Prop} {g : Nat} {l : List Nat} (h : TapeAt w T g l) : T g ∧ g < w.heap.size := by
  obtain ⟨h1, _, A, c, h2, _⟩ := h
  exact ⟨h1, (Array.getElem?_eq_some_iff.1 h2).1⟩
theorem bitsN_nil {s : Nat} (hs : s < 2 ^ 64) (h : bitsN s 64 = []) : s = 0 := by
  apply Nat.eq_of_testBit_eq
  intro i
  rw [Nat.zero_testBit]
  by_cases hi : i < 64
  · cases hb : s.testBit i
    · rfl
    · have := (bitsN_mem s (i : Int) 64).2 ⟨by omega, by omega, by rw [Int.toNat_natCast]; exact hb⟩
      rw [h] at this; simp at this
  · exact Nat.testBit_lt_two_pow (Nat.lt_of_lt_of_le hs (Nat.pow_le_pow_right (by decide) (by omega)))
theorem bitsN_zero : ∀ k, bitsN 0 k = []
  | 0 => rfl
  | k + 1 => by simp [bitsN, bitsN_zero k]
theorem bitsN_erase {s i : Nat} {y : Int} (h : (bitsN s 64)[i]? = some y) : bitsN (clrS s y.toNat) 64 = (bitsN s 64).eraseIdx i ∧ 0 ≤ y ∧ y < 64 := by
  have hm := (bitsN_mem s y 64).1 (List.mem_of_getElem? h)
  refine ⟨?_, hm.1, by omega⟩
  rw [bitsN_clr s y.toNat (by omega) 64 (by omega), Int.toNat_of_nonneg hm.1]
  exact filter_erase _ _ _ (bitsN_sorted s 64) h
theorem someS_stop {f t : Nat} {l : List Nat} {k : Int} {out : List Int} (h : ¬ (t ≠ 0 ∧ (out.length : Int) < k)) : someS f l (bitsN t 64) k out = (out, l) := by
  cases f with
  | zero => rfl
  | succ f =>
    unfold someS
    rw [if_neg]
    rintro ⟨h1, h2⟩
    exact h ⟨fun e => by subst e; exact h1 (bitsN_zero 64), h2⟩
theorem someS_step {f : Nat} {l : List Nat} {left : List Int} {k : Int} {out : List Int} (h1 : left ≠ []) (h2 : (out.length : Int) < k) : someS (f + 1) l left k out = someS f (drawB l left.length).2 (left.eraseIdx (drawB l left.length).1) k (out ++ [left.getD (drawB l left.length).1 0]) := by
  rw [someS, if_pos ⟨h1, h2⟩]
set_option maxHeartbeats 4000000 in
set_option maxRecDepth 100000 in
theorem some_calls (T : Nat → Prop) (g s : Nat) (l : List Nat) (k : Int) (w : World) (hs : s < 2 ^ 64) (hd : TapeAt w T g l) (hT : ∀ b, T b → b < w.heap.size) :
    Calls Try.prog 114 #[.int .u64 s, .int .i64 k, .func (.func 113) #[.pointer (some ⟨g, 0, none⟩)] #[]] w fun e w' => ∃ v, e = .returned v ∧ Own (Kd.int .i64) 3 w' w.heap.size NoT v (someS 64 l (bitsN s 64) k []).1 ∧ TapeAt w' T g (someS 64 l (bitsN s 64) k []).2 ∧ Mod (fun b => b = g) w w' := by
  obtain ⟨R, hR⟩ : ∃ R, R = someS 64 l (bitsN s 64) k [] := ⟨_, rfl⟩
  rw [← hR]
  have HR := hid hR
  have HD := hid hd
  have HT := hid hT
  clear hR hd hT
  go_enter Try.func114, Try.ntmps114
  go_wp2_with fail
  go_loopw [0, 7] (fun sv ov wr => ∃ (f t : Nat) (l' : List Nat) (out : List Int), sv = .int .u64 t ∧ t < 2 ^ 64 ∧ (bitsN t 64).length ≤ f ∧ out.length + f ≤ 64 ∧ Hid (someS f l' (bitsN t 64) k out = R) ∧ Hid (Own (Kd.int .i64) 3 wr w.heap.size NoT ov out) ∧ Hid (TapeAt wr T g l') ∧ Hid (Mod (fun b => b = g) w wr)) (fun sv _ _ => (bitsN (intOf sv).toNat 64).length)
  case atStart => exact ⟨64, s, l, [], rfl, hs, bitsN_len s 64, by simp, hid HR.out.symm, Own.nil _ _ _ _ _, HD, hid (Mod.refl _ _)⟩
  case round =>
    obtain ⟨f, t, l', out, rfl, ht, hf, hof, HS, HO, HA, HM⟩ := hrel
    obtain ⟨A, n, c, rfl, hn, hcc⟩ := HO.out.shape'
    by_cases hc : t ≠ 0 ∧ (out.length : Int) < k
    · obtain ⟨h0, hk⟩ := hc
      have hne : bitsN t 64 ≠ [] := fun e => h0 (bitsN_nil ht e)
      have hpos : 0 < (bitsN t 64).length := List.length_pos_iff.2 hne
      obtain ⟨f, rfl⟩ : ∃ f', f = f' + 1 := ⟨f - 1, by omega⟩
      have HS2 := hid (HS.out.symm.trans (someS_step hne hk))
      have hi := drawB_lt (l := l') (n := (bitsN t 64).length) (by omega)
      obtain ⟨i, hie⟩ : ∃ i, i = (drawB l' (bitsN t 64).length).1 := ⟨_, rfl⟩
      rw [← hie] at HS2 hi
      have hy : (bitsN t 64)[i]? = some ((bitsN t 64).getD i 0) := by rw [List.getD_eq_getElem?_getD, List.getElem?_eq_getElem hi]; rfl
      obtain ⟨y, hye⟩ : ∃ y, y = (bitsN t 64).getD i 0 := ⟨_, rfl⟩
      rw [← hye] at HS2 hy
      obtain ⟨e1, e2, e3⟩ := bitsN_erase hy
      rw [← e1] at HS2
      obtain ⟨j, rfl⟩ : ∃ j : Nat, y = (j : Int) := ⟨y.toNat, by omega⟩
      rw [Int.toNat_natCast] at HS2 e1
      have hl1 : (bitsN (clrS t j) 64).length + 1 = (bitsN t 64).length := by rw [e1, List.length_eraseIdx_of_lt hi]; omega
      have hj64 : j < 64 := by omega
      have hnk : (n : Int) < k := by rw [hn]; exact hk
      have h0a : ((t : Int) != 0) = true := by rw [bne_iff_ne]; omega
      have HIE := hid hie
      have HY := hid hy
      have HN := hid hn
      have hb64 := bitsN_len t 64
      clear hie hye e1 hy hn h0 hk hne hcc
      go_wp2_with fail
      refine (fcount_calls t wr ht).mono ?_
      rintro e w1 ⟨rfl, hb1⟩
      have hTw : ∀ b, T b → b < wr.heap.size := fun b hb => Nat.lt_of_lt_of_le (HT.out b hb) HM.out.size
      have HA1 := hid (HA.out.move (w1 := w1) (fun b hb _ => hb1.block b hb))
      have HO1 := hid (HO.out.below hb1)
      have HM1 := hid (HM.out.trans (Mod.of_below (F := fun b => b = g) hb1) (fun _ _ h => h))
      clear hb1 hTw
      go_wp2_with fail
      refine (tbelow_calls T g l' (bitsN t 64).length w1 (by omega) HA1.out).mono ?_
      rintro e w2 ⟨rfl, hA2, hM2⟩
      rw [← HIE.out]
      have hg : g < w.heap.size := HT.out g HD.out.1
      have HA2 := hid hA2
      have HO2 := hid (HO1.out.move (w1 := w2) (fun b hb hl => hM2.block b hl (by rcases hb with hb | hb; exact hb.elim; have := (HO1.out.lt b hb).1; omega)) (fun _ h _ => h))
      have HM2 := hid (HM1.out.trans hM2 (fun _ _ h => h))
      clear hA2 hM2
      go_wp2_with fail
      refine (nth_calls t i (j : Int) w2 ht HY.out).mono ?_
      rintro e w3 ⟨rfl, hb3⟩
      have HA3 := hid (HA2.out.move (w1 := w3) (fun b hb hT => hb3.block b (by first | exact hb | exact Nat.lt_of_lt_of_le (HT.out b hT) HM2.out.size)))
      have HO3 := hid (HO2.out.below hb3)
      have HM3 := hid (HM2.out.trans (Mod.of_below (F := fun b => b = g) hb3) (fun _ _ h => h))
      clear hb3
      have hO := HO3.out
      have hms := HM3.out.size
      have hon : out.length < 1000 := by omega
      go_wp2_with (at_builtin; go_must (refine append_arm (Kd.int .i64) (w0 := w3) w.heap.size rfl _ _ 26 3 _ 8 rfl Try.underlying26 Try.infoInt rfl (by decide) (by decide) (.slice A n c) out (j : Int) [.int .i64 j] NoT NoT rfl rfl rfl (fun _ h => h.elim) hO (Below.refl _ _) hms (by omega) ?_))
      intro v4 w4 hO4 hb4 hg4 _
      have HM4 := hid (HM3.out.grown hg4 (fun b e hlt => by have := (HO3.out.lt b e).1; omega))
      have HA4 := hid (HA3.out.move (w1 := w4) (fun b hb hT => hb4.block b (by first | exact HT.out b hT | exact HT.out b hb)))
      obtain ⟨A4, n4, c4, rfl, hq1, hq2⟩ := hO4.shape'
      have HO4 := hid hO4
      clear hO hO4 hb4 hg4 hq1 hq2
      go_wp2_with fail
      refine (without_calls t j w4 ht hj64).mono ?_
      rintro e w5 ⟨rfl, rfl⟩
      go_wp2
      go_roundw
      case rel => exact ⟨f, clrS t j, _, out ++ [(j : Int)], rfl, clrS_lt t j, by omega, by simp; omega, hid HS2.out.symm, HO4, HA4, HM4⟩
      case measure => simp [intOf]; omega
    · have HV := hid (HS.out.symm.trans (someS_stop hc))
      by_cases h0 : t = 0
      · subst h0
        go_wp2
        go_ret
        exact ⟨_, rfl, by rw [HV.out]; exact HO.out, by rw [HV.out]; exact HA.out, HM.out⟩
      · have hnk : ¬ (n : Int) < k := fun h => hc ⟨h0, by rw [← hn]; exact h⟩
        have h0a : ((t : Int) != 0) = true := by rw [bne_iff_ne]; omega
        clear hn hcc hc
        go_wp2
        go_ret
        exact ⟨_, rfl, by rw [HV.out]; exact HO.out, by rw [HV.out]; exact HA.out, HM.out⟩
set_option maxHeartbeats 1600000 in
set_option maxRecDepth 100000 in
theorem tsome_calls (T : Nat → Prop) (g s : Nat) (l : List Nat) (k : Int) (w : World) (hs : s < 2 ^ 64) (hd : TapeAt w T g l) (hT : ∀ b, T b → b < w.heap.size) :
    Calls Try.prog 59 #[.pointer (some ⟨g, 0, none⟩), .int .u64 s, .int .i64 k] w fun e w' => ∃ v, e = .returned v ∧ Own (Kd.int .i64) 3 w' w.heap.size NoT v (someS 64 l (bitsN s 64) k []).1 ∧ TapeAt w' T g (someS 64 l (bitsN s 64) k []).2 ∧ Mod (fun b => b = g) w w' := by
  have hmf := makeFunc_run Try.prog
  have HD := hid hd
  clear hd
  go_enter Try.func59, Try.ntmps59
  go_wp2_with fail
  refine (some_calls T g s l k _ hs HD.out hT).mono ?_
  rintro e w1 ⟨v, rfl, hO, hA, hM⟩
  have HO := hid hO
  clear hO
  go_wp2
  go_ret
  exact ⟨_, rfl, HO.out, hA, hM⟩
set_option maxHeartbeats 1600000 in
set_option maxRecDepth 100000 in
theorem tleft_calls (T : Nat → Prop) (g : Nat) (l : List Nat) (w : World) (hd : TapeAt w T g l) :
    Calls Try.prog 23 #[.pointer (some ⟨g, 0, none⟩)] w fun e w' => ∃ v, e = .returned v ∧ Own Kd.n64 39 w' w.heap.size NoT v l ∧ Below w.heap.size w w' := by
  obtain ⟨_, h0, A, c, hb, hc, hm, hr⟩ := hd
  have c0 := (cells_of_block hb).1 0 _ rfl
  obtain ⟨q, hq⟩ : ∃ q, l.length = q := ⟨_, rfl⟩
  have HQ := hid hq
  have HR := hid hr
  rw [hq] at c0 hc hm
  clear hb hr hq h0
  go_enter Try.func23, Try.ntmps23
  go_wp2_with (at_builtin; go_must (refine appends_arm Kd.n64 (w0 := w) w.heap.size rfl _ _ 30 39 _ 8 rfl Try.underlying30 Try.infoU64 rfl (by decide) (by decide) (.slice none 0 0) [] l A q c NoT _ NoT rfl rfl HQ.out HR.out (fun _ _ h => h) (fun _ h => h.elim) (nil_own64 w) (Below.refl _ _) (Nat.le_refl _) (by simp; omega) ?_))
  intro v2 w2 hO2 hb2 _ _
  have HO2 := hid hO2
  clear hO2
  go_wp2
  go_ret
  exact ⟨_, rfl, by simpa using HO2.out, hb2⟩
end Go.Proofs.Ytolckkckheiceaa
/- siskinref07.Some. -/
namespace Go.Proofs.Ytolckkckheiceaa
open Go.RowKit

theorem take_erase (left : List Int) (i j : Nat) (h : j < left.length) : (left.take (j + 1)).eraseIdx i = (left.take j).eraseIdx i ++ (if j = i then [] else [left.getD j 0]) := by
  have ht : left.take (j + 1) = left.take j ++ [left.getD j 0] := by
    rw [List.take_add_one, List.getElem?_eq_getElem h, List.getD_eq_getElem?_getD, List.getElem?_eq_getElem h]; rfl
  have hl : (left.take j).length = j := by rw [List.length_take]; omega
  rw [ht]
  by_cases h1 : i < j
  · rw [List.eraseIdx_append_of_lt_length (by omega), if_neg (by omega)]
  · rw [List.eraseIdx_append_of_length_le (by omega), hl, List.eraseIdx_of_length_le (k := i) (l := List.take j left) (by omega)]
    by_cases h2 : j = i
    · subst h2; simp
    · rw [if_neg h2]
      obtain ⟨d, hd⟩ : ∃ d, i - j = d + 1 := ⟨i - j - 1, by omega⟩
      rw [hd]; rfl
set_option maxHeartbeats 6400000 in
set_option maxRecDepth 100000 in
theorem rsome7_calls (l : List Nat) (s : Nat) (k : Int) (v : Value) (w : World) (hs : s < 2 ^ 64) (hb : Kd.n64.slice.K w Any l [v]) :
    Calls Try.prog 64 #[v, .int .u64 s, .int .i64 k] w fun e w' => ∃ u A n c, e = .returned (.tuple #[u, .slice A n c]) ∧ Own (Kd.int .i64) 3 w' w.heap.size NoT u (someS 64 l (bitsN s 64) k []).1 ∧ Kd.n64.slice.K w' Any (someS 64 l (bitsN s 64) k []).2 [.slice A n c] ∧ Below w.heap.size w w' := by
  obtain ⟨R, hR⟩ : ∃ R, R = someS 64 l (bitsN s 64) k [] := ⟨_, rfl⟩
  rw [← hR]
  have HR := hid hR
  have HB := hid (Kd.n64.slice.mono (S' := fun b => b < w.heap.size) (fun _ _ h => h) hb)
  have hv : ∃ A n c, v = .slice A n c := by obtain ⟨A, c, he, _⟩ := hb; injection he with he _; exact ⟨_, _, _, he⟩
  obtain ⟨A0, n0, c0, rfl⟩ := hv
  clear hR hb
  go_enter Try.func64, Try.ntmps64
  go_wp2_with fail
  refine (rlist_calls s w hs).mono ?_
  rintro e w1 ⟨lv, rfl, hO, hb1⟩
  have HO := hid hO
  have HB1 := hid hb1
  have HBK := hid (Kd.below HB.out hb1)
  clear hO hb1
  go_wp2_with fail
  go_loopw [0, 8, 9] (fun dv ov xv wr => ∃ (f : Nat) (l' : List Nat) (left out : List Int) (A : Option Addr) (n c : Nat), dv = .slice A n c ∧ left.length ≤ f ∧ out.length + f ≤ 64 ∧ Hid (someS f l' left k out = R) ∧ Hid (Kd.n64.slice.K wr (fun b => b < w.heap.size) l' [.slice A n c]) ∧ Hid (Own (Kd.int .i64) 3 wr w.heap.size NoT ov out) ∧ Hid (Own (Kd.int .i64) 3 wr w.heap.size NoT xv left) ∧ Hid (∀ b, xv.ownBlock = some b → ov.ownBlock ≠ some b) ∧ Hid (∀ b, ov.ownBlock = some b → w.heap.size ≤ b) ∧ Hid (Below w.heap.size w wr)) (fun _ _ xv _ => match xv with | .slice _ n _ => n | _ => 0)
  case atStart => exact ⟨64, l, bitsN s 64, [], A0, n0, c0, rfl, bitsN_len s 64, by simp, hid HR.out.symm, HBK, Own.nil _ _ _ _ _, HO, hid (fun b h e => by simp [Value.ownBlock] at e), hid (fun b e => by simp [Value.ownBlock] at e), HB1⟩
  case round =>
    obtain ⟨f, l', left, out, A, n, c, rfl, hf, hof, HS, HL, HO8, HO9, HNE, HGE, HBW⟩ := hrel
    obtain ⟨A8, n8, c8, rfl, hn8, hc8⟩ := HO8.out.shape'
    obtain ⟨A9, n9, c9, rfl, hn9, hc9⟩ := HO9.out.shape'
    by_cases hc : left ≠ [] ∧ (out.length : Int) < k
    · obtain ⟨h0, hk⟩ := hc
      have hpos : 0 < left.length := List.length_pos_iff.2 h0
      obtain ⟨f, rfl⟩ : ∃ f', f = f' + 1 := ⟨f - 1, by omega⟩
      have HS2 := hid (HS.out.symm.trans (someS_step h0 hk))
      have hi := drawB_lt (l := l') (n := left.length) (by omega)
      obtain ⟨i, hie⟩ : ∃ i, i = (drawB l' left.length).1 := ⟨_, rfl⟩
      rw [← hie] at HS2 hi
      have hy : left[i]? = some (left.getD i 0) := by rw [List.getD_eq_getElem?_getD, List.getElem?_eq_getElem hi]; rfl
      obtain ⟨y, hye⟩ : ∃ y, y = left.getD i 0 := ⟨_, rfl⟩
      rw [← hye] at HS2 hy
      have HIE := hid hie
      have HY := hid hy
      have HN8 := hid hn8
      have HN9 := hid hn9
      have hnk : (n8 : Int) < k := by rw [hn8]; exact hk
      have hn9p : (0 : Int) < (n9 : Int) := by omega
      have hi9 : i < n9 := by omega
      have hn64 : n9 ≤ 64 := by omega
      have HBL := hid (fun u h => rbelow7_calls (fun b => b < w.heap.size) l' n9 A n c u (by omega) (Kd.below HL.out h))
      rw [← hn9] at HIE
      have HDB := hid (show (drawB l' left.length).2 = (drawB l' n9).2 by rw [hn9])
      clear hie hye hy hn8 hn9 hc8 hc9 h0 hk
      go_wp2_with fail
      refine (HBL.out _ (Below.refl _ _)).mono ?_
      rintro e w2 ⟨A2, n2, c2, rfl, hK2, hb2⟩
      rw [← HIE.out]
      have HK2 := hid hK2
      have HB2 := hid (bThen HBW.out hb2)
      have HO82 := hid (HO8.out.below hb2)
      have HO92 := hid (HO9.out.below hb2)
      clear hK2 hb2
      have hK9 := HO92.out.K
      obtain ⟨_, _, he, hc9, _, hr9⟩ := hK9
      injection he with he _
      injection he with he1 he2 he3
      subst he1
      obtain ⟨a, z, rfl, hz, hcz⟩ := hr9.at_int i (by rw [← HN9.out]; exact hi9)
      rw [HY.out] at hz
      obtain rfl := Option.some.inj hz
      have HR9 := hid hr9
      clear hr9 hz hc9 he2 he3
      have hO := HO82.out
      have hms := HB2.out.size
      have hon : out.length < 1000 := by omega
      go_wp2_with (at_builtin; go_must (refine append_arm (Kd.int .i64) (w0 := w2) w.heap.size rfl _ _ 26 3 _ 8 rfl Try.underlying26 Try.infoInt rfl (by decide) (by decide) (.slice A8 n8 c8) out y [.int .i64 y] NoT NoT rfl rfl rfl (fun _ h => h.elim) hO (Below.refl _ _) hms (by omega) ?_))
      intro v4 w4 hO4 hb4 hg4 _
      obtain ⟨A4, n4, c4, rfl, hn4, hc4⟩ := hO4.shape'
      have HO84 := hid hO4
      have HB4 := hid (HB2.out.trans hb4)
      have HL4 := hid (Kd.n64.slice.move (w1 := w4) (fun b hb _ => (HB4.out.block b hb).trans (HBW.out.block b hb).symm) HK2.out)
      have HR4 := hid ((HO92.out.move (w1 := w4) (fun b hb hl => hg4.block b hl (fun e => by rcases hb with hb | hb; exact hb.elim; first | exact HNE.out b hb e | exact HNE.out b hb e.symm)) (fun _ h _ => h)).K)
      have hms4 := HB4.out.size
      clear hO hO4 hb4 hg4 hn4 hc4
      go_wp2_with fail
      go_loopw [13, 12] (fun jv xv wr2 => ∃ j : Nat, j ≤ n9 ∧ jv = .int .i64 j ∧ Hid (Own (Kd.int .i64) 3 wr2 w4.heap.size NoT xv ((left.take j).eraseIdx i)) ∧ Hid (Below w4.heap.size w4 wr2)) (fun jv _ _ => n9 - (intOf jv).toNat)
      case atStart => exact ⟨0, by omega, rfl, hid (by simpa using Own.nil _ _ _ _ _), hid (Below.refl _ _)⟩
      case round =>
        obtain ⟨j, hj, rfl, HX, HW⟩ := hrel
        obtain ⟨A5, n5, c5, rfl, hn5, hc5⟩ := HX.out.shape'
        have hl5 : ((left.take j).eraseIdx i).length ≤ 64 := by rw [List.length_eraseIdx]; split <;> simp <;> omega
        clear hn5 hc5
        by_cases hlt : j < n9
        · have hltI : (j : Int) < (n9 : Int) := by omega
          have hj0 : (0 : Int) ≤ (j : Int) := by omega
          have HE := hid (take_erase left i j (by rw [← HN9.out]; exact hlt))
          by_cases hji : j = i
          · have hb : ((j : Int) != (i : Int)) = false := by simp [hji]
            have HE2 := hid (show (left.take (j + 1)).eraseIdx i = (left.take j).eraseIdx i by rw [HE.out, if_pos hji, List.append_nil])
            clear hji
            go_wp2
            go_roundw
            case rel => exact ⟨j + 1, by omega, by go_num, by rw [HE2.out]; exact HX, HW⟩
            case measure => simp [intOf]; omega
          · have hb : ((j : Int) != (i : Int)) = true := by rw [bne_iff_ne]; omega
            obtain ⟨a', z, ha', hz, rz⟩ := (K_row (Kd.below HR4.out HW.out)).1.at_int j (by rw [← HN9.out]; exact hlt)
            cases ha'
            have HE2 := hid (show (left.take (j + 1)).eraseIdx i = (left.take j).eraseIdx i ++ [z] by rw [HE.out, if_neg hji, List.getD_eq_getElem?_getD, hz]; rfl)
            have hX := HX.out
            have hW := HW.out
            clear hji hz
            go_wp2_with (at_builtin; go_must (refine append_arm (Kd.int .i64) w4.heap.size rfl _ _ 26 3 _ 8 rfl Try.underlying26 Try.infoInt rfl (by decide) (by decide) (.slice A5 n5 c5) _ z [.int .i64 z] NoT NoT rfl rfl rfl (fun _ h => h.elim) hX hW hW.size (by omega) ?_))
            intro v6 w6 hO6 hb6 _ _
            go_wp2
            go_roundw
            case rel => exact ⟨j + 1, by omega, by go_num, by rw [HE2.out]; exact hO6, hb6⟩
            case measure => simp [intOf]; omega
        · obtain rfl : j = n9 := by omega
          have HE2 := hid (show (left.take j).eraseIdx i = left.eraseIdx i by rw [List.take_of_length_le (by rw [← HN9.out]; exact Nat.le_refl _)])
          have HL5 := hid (Kd.below HL4.out HW.out)
          have HO85 := hid (HO84.out.below HW.out)
          have HB5 := hid (bThen HB4.out HW.out)
          have HO95 := hid (show Own (Kd.int .i64) 3 _ w4.heap.size NoT (.slice A5 n5 c5) (left.eraseIdx i) by rw [← HE2.out]; exact HX.out)
          have hn5 : n5 + 1 = j := by
            obtain ⟨_, _, _, he, h, _⟩ := HO95.out.shape'
            injection he with _ he _
            subst he
            rw [h, List.length_eraseIdx_of_lt (by rw [← HN9.out]; exact hi9), ← HN9.out]; omega
          have HNE5 := hid (show ∀ b, (Value.slice A5 n5 c5).ownBlock = some b → (Value.slice A4 n4 c4).ownBlock ≠ some b from fun b h1 h2 => by
            have := (HO95.out.lt b h1).1
            have := (HO84.out.lt b h2).2
            omega)
          have HGE5 := hid (show ∀ b, (Value.slice A4 n4 c4).ownBlock = some b → w.heap.size ≤ b from fun b h => (HO84.out.lt b h).1)
          go_wp2
          go_roundw
          case rel => exact ⟨f, _, left.eraseIdx i, out ++ [y], A2, n2, c2, rfl, by rw [List.length_eraseIdx_of_lt (by rw [← HN9.out]; exact hi9)]; omega, by simp; omega, hid HS2.out.symm, hid (by rw [HDB.out]; exact HL5.out), HO85, hid (HO95.out.lower hms4), HNE5, HGE5, HB5⟩
          case measure => simp; omega
    · have HV : Hid (R = (out, l')) := by
        show R = (out, l')
        rw [← HS.out]
        cases f with
        | zero => rfl
        | succ f => rw [someS, if_neg hc]
      by_cases h0 : left = []
      · have hn0 : n9 = 0 := by rw [hn9, h0]; rfl
        subst hn0
        clear hn8 hn9 hc8 hc9 hc
        go_wp2
        go_ret2
        exact ⟨_, _, _, _, rfl, by rw [HV.out]; exact HO8.out, by rw [HV.out]; exact Kd.any HL.out, HBW.out⟩
      · have hnk : ¬ (n8 : Int) < k := fun h => hc ⟨h0, by rw [← hn8]; exact h⟩
        have hn9p : (0 : Int) < (n9 : Int) := by have := List.length_pos_iff.2 h0; omega
        clear hn8 hn9 hc8 hc9 hc
        go_wp2
        go_ret2
        exact ⟨_, _, _, _, rfl, by rw [HV.out]; exact HO8.out, by rw [HV.out]; exact Kd.any HL.out, HBW.out⟩
end Go.Proofs.Ytolckkckheiceaa
