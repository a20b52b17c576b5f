/- glyph.Each: the iterator over a text's runes. -/
import Derived.RangeFuncFrom
import Derived.RangeFuncLeaves
import Derived.RangeFuncCalls
import Derived.WalkKit
import Derived.OwnWalkIn
import Derived.TacticsInMore
import Derived.LoopNIn
import Derived.LoopIn
import Derived.Test.YtlckkcefkiffjaaGlyph
namespace Go.Proofs.Ytlckkcefkiffjaa
open Go.RowKit Go.Lib
attribute [local go_sem] Oper.semAt_some

theorem grownBy_iterAt (W : World) (k : Nat) (s : ByteArray) (p : Nat) : W.grownBy (W.iterAt k s p) (some k) := grownBy_putObj' W k (.stringIter s p)
set_option maxRecDepth 100000 in
set_option maxHeartbeats 2000000 in
theorem each1_in (n : Nat) (hn : 1 ≤ n) (l Bs : Nat) (s : ByteArray) (J Jx : List RuneS → World → Prop) (W : World) (hJ : AbidesFrom W.heap.size J)
    (hY : ∀ pre x W1, J pre W1 → pre.length < (runes s).length → YieldAt Fence.wide (n - 1) Try.prog l #[.int .i64 x.At, .int .i32 x.C] W1 fun e W' =>
      (e = .returned (.bool true) ∧ J (pre ++ [x]) W' ∧ KeepsWalks W1 W') ∨ (e = .returned (.bool false) ∧ Jx (pre ++ [x]) W'))
    (hBs : W.cell? ⟨Bs, 0, none⟩ = some (.string s)) (h0 : J [] W) :
    CallsIn Fence.wide n Try.prog 77 #[.func (.yield l) #[] #[], .pointer (some ⟨Bs, 0, none⟩)] W fun e W' => (∃ v, e = .returned v) ∧
      ((∃ ys, ys = runes s ∧ J ys W') ∨ (∃ pre, pre <+: runes s ∧ Jx pre W')) := by
  have hro : Fence.wide.round = none := rfl
  refine callsIn_of_wp Try.func77 rfl trivial ?_ hro
  simp only [Try.ntmps77, List.size_toArray, List.length_cons, List.length_nil, Nat.reduceAdd, Nat.reduceSub, Array.replicate_succ, Array.replicate_zero, List.push_toArray, List.append_toArray, List.nil_append, List.cons_append]
  have HJ := hid hJ
  have HY := hid hY
  have HI0 := hid (show J [] (W.iter s 0) from hJ _ W _ none h0 (World.grownBy_alloc W _ none) (fun r e => by cases e))
  clear hJ hY h0
  gi_wp2
  gi_loopw [3, 4] (fun _ _ wr => ∃ (p : Nat) (l : List RuneS), wr.heap[W.heap.size]? = some (.stringIter s p) ∧ Mid s l p ∧ J l wr) (fun _ _ wr => s.size - wr.iterPos W.heap.size)
  case atStart => exact ⟨0, [], World.iter_heap W s 0, Mid.start s, HI0.out⟩
  case round =>
    obtain ⟨p, l, hk, hm, hj⟩ := hrel
    have hip := iterPos_of hk
    by_cases hp : p < s.size
    · have hnx := fun ty => run_next_any_at (P := Try.prog) wr W.heap.size s p ty hk hp
      have hnxt := hm.next hp
      have hlt : l.length < (runes s).length := (List.getElem?_eq_some_iff.1 hnxt).1
      have HM := hid (hm.step hp)
      have hwd := dec_w s p
      have HK := hid (iterAt_heap wr W.heap.size s p (p + (Utf8.decode s p).2) hk)
      have hj2 : J l (wr.iterAt W.heap.size s (p + (Utf8.decode s p).2)) := HJ.out _ wr _ (some W.heap.size) hj (grownBy_iterAt _ _ _ _) (fun r e => by cases e; exact ⟨Nat.le_refl _, _, hk, rfl⟩)
      obtain ⟨fn, tmps, assign, body, hy, hR⟩ := HY.out l (runeAt s p) _ hj2 hlt
      dsimp only [runeAt] at hy
      clear hm hnxt
      gi_wp2
      refine hR.mono ?_
      rintro e W3 (⟨rfl, hJ3, hk3⟩ | ⟨rfl, hJx3⟩)
      · have HK3 := hid (hk3.same _ _ HK.out rfl)
        gi_wp2
        go_roundw
        case rel => exact ⟨_, _, HK3.out, HM.out, hJ3⟩
        case measure => rw [hip, iterPos_of HK3.out]; omega
      · gi_wp2
        refine bodyPost_ret (results_none rfl _ _ _) rfl ?_
        exact ⟨⟨_, rfl⟩, .inr ⟨_, ⟨_, HM.out.2.symm⟩, hJx3⟩⟩
    · have hnx := fun ty => run_next_end_at (P := Try.prog) wr W.heap.size s p ty hk hp
      have HE := hid (hm.done hp)
      clear hm
      gi_wp2
      go_end0
      exact ⟨⟨_, rfl⟩, .inl ⟨_, HE.out.symm, hj⟩⟩

/-- The iterator's contract. -/
theorem each_stops (n : Nat) (hn : 1 ≤ n) (Bs : Nat) (s : ByteArray) (w : World) (hB : Bs < w.heap.size) (hc : w.cell? ⟨Bs, 0, none⟩ = some (.string s)) :
    SeqStopsK Fence.wide n Try.prog 77 #[.pointer (some ⟨Bs, 0, none⟩)] (fun x : RuneS => #[Value.int .i64 x.At, .int .i32 x.C]) KeepsWalks (fun ys => ys = runes s) (fun pre => pre <+: runes s) (runes s).length w :=
  fun l J Jx W hW hJ _ hY h0 => each1_in n hn l Bs s J Jx W hJ hY ((hW.cell (p := ⟨Bs, 0, none⟩) hB).trans hc) h0

theorem each_calls (s : ByteArray) (w : World) : Calls Try.prog 35 #[.string s] w fun e w' => e = .returned (.func (.func 77) #[] #[.pointer (some ⟨w.heap.size, 0, none⟩)]) ∧ w' = w.alloc (.cells #[.string s] 9) := by
  go_enter Try.func35, Try.ntmps35
  go_wp2
  go_ret
  exact ⟨rfl, rfl⟩
end Go.Proofs.Ytlckkcefkiffjaa
