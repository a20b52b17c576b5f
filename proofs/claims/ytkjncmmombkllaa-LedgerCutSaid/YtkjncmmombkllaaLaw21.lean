/- siskinlaw21.works. -/
import Derived.Test.YtkjncmmombkllaaLedgP
import Derived.Test.YtkjncmmombkllaaBase
namespace Go.Proofs.Ytkjncmmombkllaa
open Go.RowKit Go.Lib

def xW21 : RecS := ⟨1, 1, 0, 0, 0, 0, [⟨#[42]⟩]⟩
theorem w21a : (putG ⟨[], 500, -1⟩ [] false [] 0 xW21).e = 7 := by decide +kernel
theorem w21b : (putG ⟨[], 500, -1⟩ [] false [] 500 xW21).e = 0 := by decide +kernel
theorem w21c : keptL (putG ⟨[], 500, -1⟩ [] false [] 500 xW21).b = 101 := by decide +kernel
theorem putG_bok {D : DiskS} {l : List RecS} {down : Bool} {b : List EntryS} {room : Int} {x : RecS} (h : BOk b) : BOk (putG D l down b room x).b := by
  unfold putG
  split
  · exact h
  · split
    · exact h
    · split
      · exact h
      · dsimp only
        split
        · exact nextB_ok h
        · exact h
/-- A ledger on a fresh disk. -/
theorem lopen_fresh {w : World} {TD : Nat → Prop} {gd : Nat} {r0 : Int} (hd : DiskAt w TD gd ⟨[], r0, -1⟩) (room : Int) (h0 : 0 ≤ room) (h1 : room ≤ 65536) :
    Calls Try.prog 7 #[.pointer (some ⟨gd, 0, none⟩), .int .i64 room] w fun e w' => ∃ gl ga, e = .returned (.tuple #[.pointer (some ⟨gl, 0, none⟩), .int .i64 0]) ∧ LgAt w' (fun k => TD k ∨ w.heap.size ≤ k) gl ga gd ⟨[], r0, -1⟩ [] false [] room ∧ Mod TD w w' := by
  refine (lopen_calls hd room h0 h1 [] 0 recsS_nil).mono ?_
  rintro e w' (⟨h, _⟩ | ⟨_, gl, ga, h2, _, h3, h4⟩)
  · exact absurd h (by decide)
  · exact ⟨gl, ga, h2, h3, h4⟩
set_option maxHeartbeats 4000000 in
set_option maxRecDepth 100000 in
theorem works21_calls (w : World) : Calls Try.prog 6 #[] w fun e w' => e = .returned (.bool true) ∧ Below w.heap.size w w' := by
  go_enter Try.func6, Try.ntmps6
  go_wp2_with fail
  refine (diskNew_yes 500 _ (by decide) (by decide)).mono ?_
  rintro e w1 ⟨rfl, hd1, hb1⟩
  have HD1 := hid (hd1.mono (T' := fun k => w.heap.size ≤ k ∧ k < w1.heap.size) (fun k a b => ⟨b, a⟩))
  have HB1 := hid hb1
  clear hd1 hb1
  go_wp2_with fail
  refine (lopen_fresh HD1.out 0 (by decide) (by decide)).mono ?_
  rintro e w2 ⟨gl, ga, rfl, hl2, hm2⟩
  have HL2 := hid (hl2.mono (F' := fun k => w.heap.size ≤ k ∧ k < w2.heap.size) (fun k hk h => ⟨h.elim (fun h => h.1) (fun h => Nat.le_trans HB1.out.size h), hk⟩))
  have HB2 := hid (HB1.out.trans (hm2.below (fun k _ h => h.1) HB1.out.size))
  clear hl2 hm2
  go_wp2_with fail
  refine (diskNew_yes 500 _ (by decide) (by decide)).mono ?_
  rintro e w3 ⟨rfl, hd3, hb3⟩
  have HD3 := hid (hd3.mono (T' := fun k => w2.heap.size ≤ k ∧ k < w3.heap.size) (fun k a b => ⟨b, a⟩))
  have HB3 := hid hb3
  clear hd3 hb3
  go_wp2_with fail
  refine (lopen_fresh HD3.out 500 (by decide) (by decide)).mono ?_
  rintro e w4 ⟨gm, gb, rfl, hl4, hm4⟩
  have HM4 := hid (hl4.mono (F' := fun k => w2.heap.size ≤ k ∧ k < w4.heap.size) (fun k hk h => ⟨h.elim (fun h => h.1) (fun h => Nat.le_trans HB3.out.size h), hk⟩))
  have HB4 := hid (show Below w2.heap.size w2 w4 from HB3.out.trans (hm4.below (fun k _ h => h.1) HB3.out.size))
  have HL4 := hid (HL2.out.below HB4.out)
  have HBW := hid (bThen HB2.out HB4.out)
  clear hl4 hm4
  obtain ⟨W5, hW5⟩ : ∃ W, W = (w4.alloc (.cells #[.string ⟨#[42]⟩] 9)).alloc (.cells #[.int .i64 1, .int .i64 1, .int .i64 0, .int .i64 0, .int .i64 0, .int .i64 0, .slice (some ⟨w4.heap.size, 0, none⟩) 1 1] 35) := ⟨_, rfl⟩
  have hb5 : Below w4.heap.size w4 W5 := by rw [hW5]; exact bAlloc (bAlloc (Below.refl _ _) _) _
  have hz5 : W5.heap[w4.heap.size]? = some (.cells #[.string ⟨#[42]⟩] 9 (0, 0)) := by rw [hW5]; exact heap_old (by simp) (heap_at rfl)
  obtain ⟨p5, _, _⟩ := cells_of_block (show W5.heap[w4.heap.size + 1]? = some (.cells #[.int .i64 1, .int .i64 1, .int .i64 0, .int .i64 0, .int .i64 0, .int .i64 0, .slice (some ⟨w4.heap.size, 0, none⟩) 1 1] 35 (0, 0)) by rw [hW5]; exact heap_at (by simp))
  have hz6 : W5.heap[w4.heap.size + 1]? = some (.cells #[.int .i64 1, .int .i64 1, .int .i64 0, .int .i64 0, .int .i64 0, .int .i64 0, .slice (some ⟨w4.heap.size, 0, none⟩) 1 1] 35 (0, 0)) := by rw [hW5]; exact heap_at (by simp)
  have HZ6 := hid hz6
  have HS5 := hid (show W5.heap.size = w4.heap.size + 2 by rw [hW5]; simp)
  have HB5 := hid hb5
  have HK5 := hid (show Kd.str.slice.K W5 (fun k => k = w4.heap.size) xW21.needs [.slice (some ⟨w4.heap.size, 0, none⟩) xW21.needs.length 1] from K_of_block 1 1 rfl hz5 rfl (cells_flat (n := 1) (enc := fun x => [Value.string x]) [⟨#[42]⟩]) (Nat.le_refl _) (by decide))
  have x0 := p5 0 _ rfl
  have x1 := p5 1 _ rfl
  have x2 := p5 2 _ rfl
  have x3 := p5 3 _ rfl
  have x4 := p5 4 _ rfl
  have x5 := p5 5 _ rfl
  have x6 := p5 6 _ rfl
  have hEq := hW5.symm
  clear p5 hz5 hz6 hb5 hW5
  go_wp2_with fail
  have hst := lput_calls (HL4.out.below HB5.out) BOk.nil xW21 (some ⟨w4.heap.size, 0, none⟩) 1 (Kd.mono _ (fun k hk _ h => by have h2 := h.2; have : k = w4.heap.size := hk; have := HB4.out.size; omega) HK5.out) (by decide)
  rw [w21a] at hst
  refine hst.mono ?_
  clear hst
  rintro e w6 ⟨rfl, _, hm6⟩
  have HM6 := hid hm6
  have hs2 := HB2.out.size
  have hs4 := HB4.out.size
  have hs5 := HS5.out
  have HZ7 := hid ((hm6.block (w4.heap.size + 1) (by omega) (fun h => by have := h.2; omega)).trans HZ6.out)
  have HK6 := hid (Kd.str.slice.move (w1 := w6) (fun j (hj : j = w4.heap.size) hl => hm6.block j hl (fun h => by have := h.2; omega)) HK5.out)
  have HL6 := hid ((HM4.out.below HB5.out).move (w1 := w6) (fun k hk h => hm6.block k hk (fun h2 => by have := h.1; have := h2.2; omega)))
  obtain ⟨p5, _, _⟩ := cells_of_block HZ7.out
  clear x0 x1 x2 x3 x4 x5 x6 hm6 hEq
  have x0 := p5 0 _ rfl
  have x1 := p5 1 _ rfl
  have x2 := p5 2 _ rfl
  have x3 := p5 3 _ rfl
  have x4 := p5 4 _ rfl
  have x5 := p5 5 _ rfl
  have x6 := p5 6 _ rfl
  clear p5
  go_wp2_with fail
  have hst := lput_calls HL6.out BOk.nil xW21 (some ⟨w4.heap.size, 0, none⟩) 1 (Kd.mono _ (fun k hk _ h => by have h2 := h.2; have : k = w4.heap.size := hk; omega) HK6.out) (by decide)
  rw [w21b] at hst
  refine hst.mono ?_
  clear hst
  rintro e w7 ⟨rfl, hl7, hm7⟩
  have HL7 := hid hl7
  have HM7 := hid hm7
  clear hl7 hm7 x0 x1 x2 x3 x4 x5 x6
  go_wp2_with fail
  have hst := lkept_calls HL7.out (putG_bok BOk.nil)
  rw [w21c] at hst
  refine hst.mono ?_
  clear hst
  rintro e w8 ⟨rfl, hb8⟩
  have HB8 := hid (show Below w.heap.size w w8 from by
    have a1 := (bThen HBW.out HB5.out)
    have a2 := a1.trans (HM6.out.below (fun k _ h => h.1) a1.size)
    have a3 := a2.trans (HM7.out.below (B := w.heap.size) (fun k _ h => by have := h.1; omega) a2.size)
    exact bThen a3 hb8)
  clear hb8
  go_wp2
  go_ret
  exact ⟨rfl, HB8.out⟩
end Go.Proofs.Ytkjncmmombkllaa
