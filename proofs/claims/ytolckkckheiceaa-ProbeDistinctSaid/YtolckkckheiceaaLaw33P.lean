/- What both laws of layer 33 need. -/
import Derived.Test.YtolckkckheiceaaPrbW
import Derived.Test.YtolckkckheiceaaLong14
namespace Go.Proofs.Ytolckkckheiceaa
open Go.RowKit

theorem longEs_one {E : EntryS} (h : longEs [E] = false) : E.needs.length ≤ 30 ∧ E.bound.length ≤ 30 ∧ E.done.length ≤ 30 ∧ ∀ s ∈ E.needs, s.size ≤ 300 := by
  have h3 : longE E = false := by
    cases hl : longE E with
    | false => rfl
    | true => simp [longEs, hl] at h
  unfold longE at h3
  rw [Bool.or_eq_false_iff, Bool.or_eq_false_iff] at h3
  obtain ⟨⟨h4, h5⟩, h6⟩ := h3
  obtain ⟨h7, h8⟩ := long_no h4
  have h9 := of_decide_eq_false h5
  have h10 := of_decide_eq_false h6
  exact ⟨by omega, by omega, by omega, fun s hs => by have := h7 s hs; omega⟩
theorem Try.opensN64 : Opens Try.prog 30 Kd.n64.slice (fun l => (∀ y ∈ l, y < 2 ^ 64) ∧ l.length * 8 ≤ 140737488351232) :=
  opens_slice Try.underlying30 (by kernel_rfl) (by kernel_rfl) (by decide) (by decide)
    (opens_mapO (d' := Kd.n64) (fun p : Int => p.toNat) (opens_int Try.underlying39)
      (fun w S x cs ho h => by
        have hr := u64_range ho
        cases h
        show [Value.int .u64 x] = [Value.int .u64 (x.toNat : Int)]
        rw [show ((x.toNat : Nat) : Int) = x by omega])
      (fun x ho => by
        have hr := u64_range ho
        show x.toNat < 2 ^ 64
        omega))
theorem someS_len : ∀ (f : Nat) (l : List Nat) (left : List Int) (k : Int) (out : List Int), (someS f l left k out).1.length ≤ out.length + f
  | 0, _, _, _, _ => Nat.le_refl _
  | f + 1, l, left, k, out => by
    unfold someS
    split
    · refine Nat.le_trans (someS_len f _ _ _ _) ?_
      simp; omega
    · simp
theorem entry_row {V : World} {E : EntryS} {EA EB ED : Option Addr} {ea eb ed : Nat} (hE : EAt V E EA EB ED ea eb ed) : Kd.entry.slice.K (V.alloc (.cells #[.int .i64 E.id, .int .i64 E.sched, .int .i64 E.epoch, .slice EA E.needs.length ea, .slice EB E.bound.length eb, .slice ED E.done.length ed] 29)) Any [E] [.slice (some ⟨V.heap.size, 0, none⟩) 1 1] := by
  have hbb := bAlloc (Below.refl V.heap.size V) (.cells #[.int .i64 E.id, .int .i64 E.sched, .int .i64 E.epoch, .slice EA E.needs.length ea, .slice EB E.bound.length eb, .slice ED E.done.length ed] 29)
  have hEE := hE.below hbb
  exact K_of_block (d := Kd.entry) 1 1 rfl (heap_alloc_new V _) trivial ⟨_, [], by simp; try rfl, entry_of E hEE.needs hEE.bound hEE.done, rfl⟩ (Nat.le_refl _) (show 1 ≤ 140737488355328 by decide)
end Go.Proofs.Ytolckkckheiceaa
