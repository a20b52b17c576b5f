/- The page's example of layer 40; the law SpecAnswers. -/
import Derived.Test.YtolckkckheiceaaSpec2
import Derived.Test.YtolckkckheiceaaLong14
namespace Go.Proofs.Ytolckkckheiceaa
open Go.RowKit

def qC : ConfS := ⟨0, 0, 0, 200, 0, [], [⟨1, 0, 0⟩]⟩
def qJ : JobS := ⟨1, [⟨#[42]⟩]⟩
def qE : EntryS := ⟨2, 0, 0, [⟨#[42]⟩], [], []⟩
theorem ansOk_small {b : List EntryS} {J : JobS} (h1 : longEs b = false) (h2 : longB J.needs 20 300 = false) : AnsOk b J := by
  obtain ⟨g1, g2⟩ := long_no h2
  unfold longEs at h1
  rw [Bool.or_eq_false_iff] at h1
  obtain ⟨h3, h4⟩ := h1
  have h4 := of_decide_eq_false h4
  have hE : ∀ E ∈ b, E.needs.length ≤ 30 ∧ E.bound.length ≤ 30 ∧ E.done.length ≤ 30 := fun E hE => by
    have h5 : longE E = false := by
      cases hl : longE E with
      | false => rfl
      | true => rw [List.any_eq_true.2 ⟨E, hE, hl⟩] at h3; cases h3
    unfold longE at h5
    rw [Bool.or_eq_false_iff, Bool.or_eq_false_iff] at h5
    obtain ⟨⟨h6, h7⟩, h8⟩ := h5
    obtain ⟨_, h9⟩ := long_no h6
    have h10 := of_decide_eq_false h7
    have h11 := of_decide_eq_false h8
    omega
  exact ⟨fun s hs => by have := g1 s hs; omega, by omega, fun E h => ⟨by have := hE E h; omega, by have := hE E h; omega, by have := hE E h; omega⟩, fun E h => by have := hE E h; omega, by omega⟩
set_option maxHeartbeats 4000000 in
set_option maxRecDepth 100000 in
theorem works40_calls (w : World) : Calls Try.prog 56 #[] w fun e w' => e = .returned (.bool true) ∧ Below w.heap.size w w' := by
  have T1 := hid (show answerS qC [] qJ = 0 by decide +kernel)
  have T2 := hid (show answerS qC [qE] qJ = 7 by decide +kernel)
  obtain ⟨V, hV⟩ : ∃ V, V = ((((w.alloc (.cells #[.int .i64 1, .int .i64 0, .int .u64 0] 139)).alloc (.cells #[.int .i64 0, .int .i64 0, .int .i64 0, .int .i64 200, .int .i64 0, .slice none 0 0, .slice (some ⟨w.heap.size, 0, none⟩) 1 1] 25)).alloc (.cells #[.string ⟨#[42]⟩] 9)).alloc (.cells #[.int .i64 1, .slice (some ⟨w.heap.size + 1 + 1, 0, none⟩) 1 1] 67)) := ⟨_, rfl⟩
  have hbv : Below w.heap.size w V := by rw [hV]; exact (bAlloc (bAlloc (bAlloc (bAlloc (Below.refl _ _) _) _) _) _)
  have hC : CAt V qC none (some ⟨w.heap.size, 0, none⟩) 0 1 := by
    rw [hV]
    exact ⟨⟨none, 0, rfl, Nat.le_refl _, by decide, Kd.Row.nil⟩, Kd.below (Kd.any (K_new (enc := fun (x : WorkerS) => [.int .i64 x.slots, .int .i64 x.limit, .int .u64 x.attrs]) (hl := fun _ => rfl) (h1 := fun x u hu => by simp at hu; rcases hu with rfl | rfl | rfl <;> rfl) w w.heap.size rfl 139 [⟨1, 0, 0⟩] (by decide))) (bAlloc (bAlloc (bAlloc (Below.refl _ _) _) _) _), by intro x hx; simp [qC] at hx; subst hx; decide⟩
  have hJ : Kd.str.slice.K V Any qJ.needs [.slice (some ⟨w.heap.size + 1 + 1, 0, none⟩) qJ.needs.length 1] := by
    rw [hV]
    exact Kd.below (K_newS ((w.alloc (.cells #[.int .i64 1, .int .i64 0, .int .u64 0] 139)).alloc (.cells #[.int .i64 0, .int .i64 0, .int .i64 0, .int .i64 200, .int .i64 0, .slice none 0 0, .slice (some ⟨w.heap.size, 0, none⟩) 1 1] 25)) (w.heap.size + 1 + 1) (by simp) 9 [⟨#[42]⟩] (by decide)) (bAlloc (Below.refl _ _) _)
  have hz1 : V.heap[w.heap.size + 1]? = some (.cells #[.int .i64 0, .int .i64 0, .int .i64 0, .int .i64 200, .int .i64 0, .slice none 0 0, .slice (some ⟨w.heap.size, 0, none⟩) 1 1] 25 (0, 0)) := by
    rw [hV, Below.heap_alloc _ _ _ (by simp; try omega), Below.heap_alloc _ _ _ (by simp; try omega)]
    exact heap_at (by simp)
  have hz2 : V.heap[w.heap.size + 1 + 1 + 1]? = some (.cells #[.int .i64 1, .slice (some ⟨w.heap.size + 1 + 1, 0, none⟩) 1 1] 67 (0, 0)) := by
    rw [hV]
    exact heap_at (by simp)
  have HZ1 := hid hz1
  have HZ2 := hid hz2
  have HBV := hid hbv
  have HC := hid hC
  have HJ := hid hJ
  have HO1 := hid (show AnsOk [] qJ from ⟨fun s hs => by simp [qJ] at hs; subst hs; decide, by decide, fun E h => (by cases h), fun E h => (by cases h), by decide⟩)
  have HO2 := hid (show AnsOk [qE] qJ from ⟨fun s hs => by simp [qJ] at hs; subst hs; decide, by decide, fun E h => by rw [List.mem_singleton.1 h]; exact ⟨by decide, by decide, by decide⟩, fun E h => by rw [List.mem_singleton.1 h]; decide, by decide⟩)
  have HCB := hid (fun (u : World) (hb : Below V.heap.size V u) => conf_box HZ1.out u hb)
  have HJB := hid (fun (u : World) (h : Below V.heap.size V u) => (show u.cell? ⟨w.heap.size + 1 + 1 + 1, 0, none⟩ = some (.int .i64 1) ∧ u.cell? ⟨w.heap.size + 1 + 1 + 1, 1, none⟩ = some (.slice (some ⟨w.heap.size + 1 + 1, 0, none⟩) 1 1) from by
    obtain ⟨y0, _, _⟩ := cells_of_block ((h.block (w.heap.size + 1 + 1 + 1) (Array.getElem?_eq_some_iff.1 HZ2.out).1).trans HZ2.out)
    exact ⟨y0 0 _ rfl, y0 1 _ rfl⟩))
  have hEq := hV.symm
  clear hV hbv hC hJ hz1 hz2
  obtain ⟨x0, x1, x2, x3, x4, x5, x6⟩ := HCB.out V (Below.refl _ _)
  obtain ⟨j0, j1⟩ := HJB.out V (Below.refl _ _)
  go_enter Try.func56, Try.ntmps56
  go_wp2_with fail
  refine (answer_calls qC none (some ⟨w.heap.size, 0, none⟩) 0 1 [] (.slice none 0 0) qJ (some ⟨w.heap.size + 1 + 1, 0, none⟩) 1 V HC.out ⟨none, 0, rfl, Nat.le_refl _, by decide, Kd.Row.nil⟩ HJ.out HO1.out).mono ?_
  rintro e w1 ⟨rfl, hb1⟩
  rw [T1.out]
  have HB1 := hid hb1
  clear hb1 x0 x1 x2 x3 x4 x5 x6 j0 j1 hEq
  obtain ⟨x0, x1, x2, x3, x4, x5, x6⟩ := HCB.out w1 HB1.out
  obtain ⟨j0, j1⟩ := HJB.out w1 HB1.out
  have HE := hid (show Kd.entry.slice.K (w1.alloc (.cells #[.int .i64 2, .int .i64 0, .int .i64 0, .slice (some ⟨w.heap.size + 1 + 1, 0, none⟩) 1 1, .slice none 0 0, .slice none 0 0] 29)) Any [qE] [.slice (some ⟨w1.heap.size, 0, none⟩) 1 1] from
    K_of_block (d := Kd.entry) 1 1 rfl (heap_alloc_new w1 _) trivial ⟨_, [], by simp [qE], entry_of qE (Kd.below HJ.out (bAlloc HB1.out _)) ⟨none, 0, rfl, Nat.le_refl _, by decide, Kd.Row.nil⟩ ⟨none, 0, rfl, Nat.le_refl _, by decide, Kd.Row.nil⟩, rfl⟩ (Nat.le_refl _) (show 1 ≤ 140737488355328 by decide))
  obtain ⟨j2, j3⟩ := HJB.out _ (bAlloc HB1.out (.cells #[.int .i64 2, .int .i64 0, .int .i64 0, .slice (some ⟨w.heap.size + 1 + 1, 0, none⟩) 1 1, .slice none 0 0, .slice none 0 0] 29))
  go_wp2_with fail
  refine (answer_calls qC none (some ⟨w.heap.size, 0, none⟩) 0 1 [qE] _ qJ (some ⟨w.heap.size + 1 + 1, 0, none⟩) 1 _ (HC.out.below (bAlloc HB1.out _)) HE.out (Kd.below HJ.out (bAlloc HB1.out _)) HO2.out).mono ?_
  rintro e w2 ⟨rfl, hb2⟩
  rw [T2.out]
  go_wp2
  go_ret
  exact ⟨rfl, bThen (bThen HBV.out (bAlloc HB1.out _)) hb2⟩
theorem Try.opensEntries : Opens Try.prog 33 Kd.entry.slice (fun l => (∀ y ∈ l, okEntry y) ∧ l.length * 96 ≤ 140737488351232) := opens_slice Try.underlying33 (by kernel_rfl) (by kernel_rfl) (by decide) (by decide) Try.opensEntry
end Go.Proofs.Ytolckkckheiceaa
