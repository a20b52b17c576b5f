import Derived.Test.YtkjncmmombkllaaGreatRBook
import Derived.Test.YtkjncmmombkllaaGreatRef19
import Derived.Test.YtkjncmmombkllaaGreatLedgA
import Derived.Test.YtkjncmmombkllaaGreatLaw17B
import Derived.Test.YtkjncmmombkllaaGreatBase
/- siskinref20.Fold; siskinref21: the state, Kept, Open. -/
namespace Go.Proofs.YtkjncmmombkllaaGreat
open Go.RowKit Go.Lib

set_option maxHeartbeats 4000000 in
set_option maxRecDepth 100000 in
theorem rfold_calls (S : Nat → Prop) (l : List RecS) (v : Value) (w : World) (hl : Kd.recK.slice.K w S l [v]) :
    Calls Tryz.prog 31 #[v] w fun e w' => ∃ o, e = .returned (.tuple #[o, .int .i64 (foldB l [] 0).2]) ∧ Kd.entry.slice.K w' (fun k => S k ∨ w.heap.size ≤ k) (foldB l [] 0).1 [o] ∧ Below w.heap.size w w' := by
  obtain ⟨A, c, he, hc, hm, hr⟩ := hl
  cases he
  have HR := hid hr
  obtain ⟨q, hq⟩ : ∃ q, q = l.length := ⟨_, rfl⟩
  have HQ := hid hq
  rw [← hq] at hc hm ⊢
  obtain ⟨R, hR⟩ : ∃ R, R = foldB l [] 0 := ⟨_, rfl⟩
  have HRR := hid hR
  rw [← hR]
  clear hr hq hR
  go_enter Tryz.func31, Tryz.ntmps31
  go_wp2
  go_loopw [4, 5] (fun o i wr => ∃ (k : Nat) (b : List EntryS), k ≤ q ∧ i = .int .i64 k ∧ Hid (Kd.entry.slice.K wr (fun j => S j ∨ w.heap.size ≤ j) b [o]) ∧ Hid (R = foldB (l.drop k) b k) ∧ Hid (BOk b) ∧ Hid (Below w.heap.size w wr)) (fun _ i _ => q - (intOf i).toNat)
  case atStart => exact ⟨0, [], by omega, rfl, hid (nilKE _ _), HRR, hid BOk.nil, hid (Below.refl _ _)⟩
  case round =>
    obtain ⟨k, b, hk, rfl, HK, HF, HO, HB⟩ := hrel
    obtain ⟨Ab, cb, he, _, _, _⟩ := HK.out
    injection he with he _
    subst he
    by_cases hlt : k < q
    · obtain ⟨a, x, B1, m1, d1, rfl, hx, y0, y1, y2, y3, y4, y5, y6, hKx⟩ := at_rec (HR.out.below HB.out) k (by rw [← HQ.out]; exact hlt)
      have hml := recK_needs hKx
      subst hml
      have HX := hid hx
      have hltI : (k : Int) < (q : Int) := by omega
      have hk0 : (0 : Int) ≤ (k : Int) := by omega
      have hw : IntKind.i64.wrap ((k : Int) + 1) = (k : Int) + 1 := IntWalk.i64_in _ (by omega)
      have HKX := hid (Kd.str.slice.mono (S' := fun j => S j ∨ w.heap.size ≤ j) (fun j h _ => .inl h) hKx)
      clear hx hKx
      go_wp2_with fail
      refine (rstep_calls (fun j => S j ∨ w.heap.size ≤ j) b _ x B1 d1 wr HK.out HKX.out HO.out).mono ?_
      rintro e w1 ⟨o1, rfl, hK1, hb1⟩
      have HK1 := hid (Kd.entry.slice.mono (S' := fun j => S j ∨ w.heap.size ≤ j) (fun j h _ => h.elim id (fun h => .inr (Nat.le_trans HB.out.size h))) hK1)
      have HB1 := hid (bThen HB.out hb1)
      have HKB2 := hid (Kd.below HK.out hb1)
      clear hK1 hb1 y0 y1 y2 y3 y4 y5 y6
      obtain ⟨wy, hwy⟩ : ∃ wy, wy = whyB b x := ⟨_, rfl⟩
      have HWY := hid hwy
      rw [← hwy]
      clear hwy
      by_cases h0 : wy = 0
      case neg =>
        have hne : (wy != 0) = true := by rw [bne_iff_ne]; exact h0
        have HE := hid (HF.out.trans (foldB_stop HX.out (by rw [← HWY.out]; exact h0)))
        go_wp2
        go_ret2
        rw [HE.out]
        exact ⟨_, rfl, HKB2.out, HB1.out⟩
      subst h0
      have HE := hid (HF.out.trans (foldB_step HX.out HWY.out.symm))
      obtain ⟨A1, c1', he, _, _, _⟩ := HK1.out
      injection he with he _
      subst he
      go_wp2
      go_roundw
      case rel => exact ⟨k + 1, _, by omega, by go_num, HK1, HE, hid (nextB_ok HO.out), HB1⟩
      case measure => simp [intOf]; omega
    · obtain rfl : k = q := by omega
      have HE := hid (HF.out.trans (by rw [List.drop_eq_nil_of_le (by rw [HQ.out]; exact Nat.le_refl _)]; rfl : foldB (l.drop k) b k = (b, k)))
      go_wp2
      go_ret2
      rw [HE.out]
      exact ⟨_, rfl, HK.out, HB.out⟩
/-! ### the document's ledger in block gr, its annal in gw, its disk in gm -/
def RgAt (w : World) (T : Nat → Prop) (gr gw gm : Nat) (R : DiskS) (l : List RecS) (down : Bool) (b : List EntryS) (room : Int) : Prop :=
  RwAt w T gw gm l down ∧ RefAt w gm R ∧ R16ok R ∧ ¬ T gm ∧ ¬ T gr ∧ gr ≠ gm ∧ ∃ v, w.heap[gr]? = some (.cells #[.pointer (some ⟨gw, 0, none⟩), v, .int .i64 room] 62 (0, 0)) ∧ Kd.entry.slice.K w (fun k => T k ∧ k ≠ gw) b [v]
section
variable {w w1 : World} {T T' : Nat → Prop} {gr gw gm : Nat} {R : DiskS} {l : List RecS} {down : Bool} {b : List EntryS} {room : Int}
theorem RgAt.move (h : RgAt w T gr gw gm R l down b room) (hm : ∀ k, k < w.heap.size → (T k ∨ k = gm ∨ k = gr) → w1.heap[k]? = w.heap[k]?) : RgAt w1 T gr gw gm R l down b room := by
  obtain ⟨h1, h2, h3, h4, h5, h6, v, h7, h8⟩ := h
  exact ⟨h1.move (fun k hk hT => hm k hk (.inl hT)), (hm gm (Array.getElem?_eq_some_iff.1 h2).1 (.inr (.inl rfl))).trans h2, h3, h4, h5, h6, v, (hm gr (Array.getElem?_eq_some_iff.1 h7).1 (.inr (.inr rfl))).trans h7, Kd.entry.slice.move (fun k hk hl => hm k hl (.inl hk.1)) h8⟩
theorem RgAt.below (h : RgAt w T gr gw gm R l down b room) (hb : Below w.heap.size w w1) : RgAt w1 T gr gw gm R l down b room := h.move (fun k hk _ => hb.block k hk)
theorem RgAt.mono (h : RgAt w T gr gw gm R l down b room) (hT : ∀ k, k < w.heap.size → T k → T' k) (h4 : ¬ T' gm) (h5 : ¬ T' gr) : RgAt w T' gr gw gm R l down b room := by
  obtain ⟨h1, h2, h3, _, _, h6, v, h7, h8⟩ := h
  exact ⟨h1.mono hT, h2, h3, h4, h5, h6, v, h7, Kd.mono _ (fun k hk hl => ⟨hT k hl hk.1, hk.2⟩) h8⟩
theorem RgAt.cells (h : RgAt w T gr gw gm R l down b room) : ∃ A c, w.cell? ⟨gr, 0, none⟩ = some (.pointer (some ⟨gw, 0, none⟩)) ∧ w.cell? ⟨gr, 1, none⟩ = some (.slice A b.length c) ∧ w.cell? ⟨gr, 2, none⟩ = some (.int .i64 room) ∧ w.cell? ⟨gw, 2, none⟩ = some (.bool down) ∧ (∀ j, w.frozen? ⟨gr, j, none⟩ = false) ∧ gr < w.heap.size ∧ gw < w.heap.size ∧ Hid (Kd.entry.slice.K w (fun k => T k ∧ k ≠ gw) b [.slice A b.length c]) ∧ Hid (w.heap[gr]? = some (.cells #[.pointer (some ⟨gw, 0, none⟩), .slice A b.length c, .int .i64 room] 62 (0, 0))) := by
  obtain ⟨h1, h2, h3, _, _, h6, v, h7, h8⟩ := h
  obtain ⟨A, c, he, _⟩ := id h8
  injection he with he _
  subst he
  obtain ⟨q1, q2, q3⟩ := cells_of_block h7
  obtain ⟨_, _, u, k3, _⟩ := h1
  obtain ⟨r1, _, r3⟩ := cells_of_block k3
  exact ⟨A, c, q1 0 _ rfl, q1 1 _ rfl, q1 2 _ rfl, r1 2 _ rfl, q2, q3, r3, h8, h7⟩
end
set_option maxHeartbeats 4000000 in
set_option maxRecDepth 100000 in
theorem rkept_calls {w : World} {T : Nat → Prop} {gr gw gm : Nat} {R : DiskS} {l : List RecS} {down : Bool} {b : List EntryS} {room : Int} (h : RgAt w T gr gw gm R l down b room) (hok : BOk b) :
    Calls Tryz.prog 22 #[.pointer (some ⟨gr, 0, none⟩)] w fun e w' => e = .returned (.int .i64 (keptL b)) ∧ Below w.heap.size w w' := by
  obtain ⟨A, c, c0, c1, c2, _, _, hgr, _, HK, _⟩ := h.cells
  clear h c0 c2
  have HOK := hid hok
  obtain ⟨q, hq⟩ : ∃ q, q = b.length := ⟨_, rfl⟩
  have HQ := hid hq
  have hq40 : q ≤ 40 := by rw [hq]; exact hok.2
  rw [← hq] at c1 HK
  have HC := hid (fun (u : World) (h : Below w.heap.size w u) => (show u.cell? ⟨gr, 1, none⟩ = some (.slice A q c) from ((bcell h).1 _ _ hgr).trans c1))
  clear hok hq c1
  go_enter Tryz.func22, Tryz.ntmps22
  go_wp2
  go_loopw [3, 4] (fun o i wr => ∃ (k : Nat) (s : Int), k ≤ q ∧ o = .int .i64 s ∧ i = .int .i64 k ∧ Hid (s = keptL (b.take k)) ∧ Hid (Below w.heap.size w wr)) (fun _ i _ => q - (intOf i).toNat)
  case atStart => exact ⟨0, 0, by omega, rfl, rfl, hid (by simp [keptL]), hid (Below.refl _ _)⟩
  case round =>
    obtain ⟨k, s, hk, rfl, rfl, HS, HB⟩ := hrel
    have c1 := HC.out wr HB.out
    by_cases hlt : k < q
    · obtain ⟨a, E, EA, EB, ED, ea, eb, ed, rfl, hx, k1, k2, k3, r0, r1, r2, r3, r4, r5⟩ := (K_row (Kd.any (Kd.below HK.out HB.out))).1.at_entry k (by rw [← HQ.out]; exact hlt)
      have HEO := hid (HOK.out.1 E (List.mem_of_getElem? hx))
      have HTS := hid (show keptL (b.take (k + 1)) = keptL (b.take k) + mostR E.id 0 E.needs by rw [take_snoc hx, keptL_snoc])
      have hmb := mostR16 E.id 0 E.needs HEO.out.nl
      have hsb := keptL_bound (b.take k) (fun E hE => HOK.out.1 E (List.mem_of_mem_take hE))
      rw [← HS.out] at hsb
      have hkl : (b.take k).length ≤ 40 := by rw [List.length_take]; have := HQ.out; omega
      have hltI : (k : Int) < (q : Int) := by omega
      have hk0 : (0 : Int) ≤ (k : Int) := by omega
      have hw : IntKind.i64.wrap ((k : Int) + 1) = (k : Int) + 1 := IntWalk.i64_in _ (by omega)
      obtain ⟨m, hm⟩ : ∃ m, m = mostR E.id 0 E.needs := ⟨_, rfl⟩
      have HMC := hid (rmost17_calls E.id 0 E.needs EA E.needs.length ea wr.drew (Kd.below k1 (Below.refl _ _).drew) (by have := HEO.out.nl; omega))
      rw [← hm] at hmb HTS HMC
      have hw2 : IntKind.i64.wrap (s + m) = s + m := IntWalk.i64_in _ (by omega)
      have U0 := hid (Below.refl wr.heap.size wr).drew
      have HS1 := hid (fun (u : World) (h : Below wr.heap.size wr u) => show (u.cell? ⟨gr, 1, none⟩ = some (.slice (some a) q c) ∧ u.cell? (a.add (k * 6)) = some (.int .i64 E.id) ∧ u.cell? ⟨(a.add (k * 6)).block, (a.add (k * 6)).off + 3, none⟩ = some (.slice EA E.needs.length ea)) from ⟨HC.out u (bThen HB.out h), (h.cell (World.block_lt_of_cell? _ _ r0)).trans r0, (h.cell (World.block_lt_of_cell? _ _ r3)).trans r3⟩)
      have q0 := HS1.out wr.drew U0.out
      clear hx k1 k2 k3 hmb hsb hkl r0 r1 r2 r3 r4 r5 hm
      go_wp2_with fail
      refine wp_region_held_drew (S := fun w' => w'.cell? ⟨gr, 1, none⟩ = some (.slice (some a) q c) ∧ w'.cell? (a.add (k * 6)) = some (.int .i64 E.id) ∧ w'.cell? ⟨(a.add (k * 6)).block, (a.add (k * 6)).off + 3, none⟩ = some (.slice EA E.needs.length ea)) (by kernel_rfl) q0 (fun hHeld => ?_)
      refine anyH_take 0 (v := ?_) rfl (by kernel_rfl) (by kernel_rfl) (by kernel_rfl) (fun _ _ _ h => h) (by rfl) hHeld ?_ ?_
      rotate_left
      · (intro w hSw; (try dsimp only at hSw); go_split_ands; go_simp; try with_reducible rfl)
      (try simp only [Act.put, List.setIfInBounds_toArray, List.set_cons_zero, List.set_cons_succ])
      refine anyH_take 1 (v := ?_) rfl (by kernel_rfl) (by kernel_rfl) (by kernel_rfl) (fun _ _ _ h => h) (by rfl) hHeld ?_ ?_
      rotate_left
      · (intro w hSw; (try dsimp only at hSw); go_split_ands; go_simp; try with_reducible rfl)
      (try simp only [Act.put, List.setIfInBounds_toArray, List.set_cons_zero, List.set_cons_succ])
      refine anyH_take 2 (v := ?_) rfl (by kernel_rfl) (by kernel_rfl) (by kernel_rfl) (fun _ _ _ h => h) (by rfl) hHeld ?_ ?_
      rotate_left
      · (intro w hSw; (try dsimp only at hSw); go_split_ands; go_simp; try with_reducible rfl)
      (try simp only [Act.put, List.setIfInBounds_toArray, List.set_cons_zero, List.set_cons_succ])
      refine anyH_take 3 (v := ?_) rfl (by kernel_rfl) (by kernel_rfl) (by kernel_rfl) (fun _ _ _ h => h) (by rfl) hHeld ?_ ?_
      rotate_left
      · (intro w hSw; (try dsimp only at hSw); go_split_ands; go_simp; try with_reducible rfl)
      (try simp only [Act.put, List.setIfInBounds_toArray, List.set_cons_zero, List.set_cons_succ])
      refine anyH_take 4 (v := ?_) rfl (by kernel_rfl) (by kernel_rfl) (by kernel_rfl) (fun _ _ _ h => h) (by rfl) hHeld ?_ ?_
      rotate_left
      · (intro w hSw; (try dsimp only at hSw); go_split_ands; go_simp; try with_reducible rfl)
      (try simp only [Act.put, List.setIfInBounds_toArray, List.set_cons_zero, List.set_cons_succ])
      refine anyH_take 5 (v := ?_) rfl (by kernel_rfl) (by kernel_rfl) (by kernel_rfl) (fun _ _ _ h => h) (by rfl) hHeld ?_ ?_
      rotate_left
      · (intro w hSw; (try dsimp only at hSw); go_split_ands; go_simp; try with_reducible rfl)
      (try simp only [Act.put, List.setIfInBounds_toArray, List.set_cons_zero, List.set_cons_succ])
      refine anyH_take 6 (v := ?_) rfl (by kernel_rfl) (by kernel_rfl) (by kernel_rfl) (fun _ _ _ h => h) (by rfl) hHeld ?_ ?_
      rotate_left
      · (intro w hSw; (try dsimp only at hSw); go_split_ands; go_simp; try with_reducible rfl)
      (try simp only [Act.put, List.setIfInBounds_toArray, List.set_cons_zero, List.set_cons_succ])
      refine anyH_take 7 (v := ?_) rfl (by kernel_rfl) (by kernel_rfl) (by kernel_rfl) (fun _ _ _ h => h) (by rfl) hHeld ?_ ?_
      rotate_left
      · (intro w hSw; (try dsimp only at hSw); go_split_ands; go_simp; try with_reducible rfl)
      (try simp only [Act.put, List.setIfInBounds_toArray, List.set_cons_zero, List.set_cons_succ])
      refine anyH_take 8 (v := ?_) rfl (by kernel_rfl) (by kernel_rfl) (by kernel_rfl) (fun _ _ _ h => h) (by rfl) hHeld ?_ ?_
      rotate_left
      · (intro w hSw; (try dsimp only at hSw); go_split_ands; go_simp; try with_reducible rfl)
      (try simp only [Act.put, List.setIfInBounds_toArray, List.set_cons_zero, List.set_cons_succ])
      refine anyH_take 9 (v := ?_) rfl (by kernel_rfl) (by kernel_rfl) (by kernel_rfl) (fun _ _ _ h => h) (by rfl) hHeld ?_ ?_
      rotate_left
      · (intro w hSw; (try dsimp only at hSw); go_split_ands; go_simp; try with_reducible rfl)
      (try simp only [Act.put, List.setIfInBounds_toArray, List.set_cons_zero, List.set_cons_succ])
      refine anyH_take 10 (v := ?_) rfl (by kernel_rfl) (by kernel_rfl) (by kernel_rfl) (fun _ _ _ h => h) (by rfl) hHeld ?_ ?_
      rotate_left
      · (intro w hSw; (try dsimp only at hSw); go_split_ands; go_simp; try with_reducible rfl)
      (try simp only [Act.put, List.setIfInBounds_toArray, List.set_cons_zero, List.set_cons_succ])
      refine anyH_take 11 (v := ?_) rfl (by kernel_rfl) (by kernel_rfl) (by kernel_rfl) (fun _ _ _ h => h) (by rfl) hHeld ?_ ?_
      rotate_left
      · (intro w hSw; (try dsimp only at hSw); go_split_ands; go_simp; try with_reducible rfl)
      (try simp only [Act.put, List.setIfInBounds_toArray, List.set_cons_zero, List.set_cons_succ])
      refine anyH_take 12 (v := ?_) rfl (by kernel_rfl) (by kernel_rfl) (by kernel_rfl) (fun _ _ _ h => h) (by rfl) hHeld ?_ ?_
      rotate_left
      · (intro w hSw; (try dsimp only at hSw); go_split_ands; go_simp; try with_reducible rfl)
      (try simp only [Act.put, List.setIfInBounds_toArray, List.set_cons_zero, List.set_cons_succ])
      refine anyH_take 13 (v := ?_) rfl (by kernel_rfl) (by kernel_rfl) (by kernel_rfl) (fun _ _ _ h => h) (by rfl) hHeld ?_ ?_
      rotate_left
      · (intro w hSw; (try dsimp only at hSw); go_split_ands; go_simp; try with_reducible rfl)
      (try simp only [Act.put, List.setIfInBounds_toArray, List.set_cons_zero, List.set_cons_succ])
      refine anyH_take 14 (v := ?_) rfl (by kernel_rfl) (by kernel_rfl) (by kernel_rfl) (fun _ _ _ h => h) (by rfl) hHeld ?_ ?_
      rotate_left
      · (intro w hSw; (try dsimp only at hSw); go_split_ands; go_simp; try with_reducible rfl)
      (try simp only [Act.put, List.setIfInBounds_toArray, List.set_cons_zero, List.set_cons_succ])
      refine anyH_take 15 (v := ?_) rfl (by kernel_rfl) (by kernel_rfl) (by kernel_rfl) (fun _ _ _ h => h) (by rfl) hHeld ?_ ?_
      rotate_left
      · (intro w hSw; (try dsimp only at hSw); go_split_ands; go_simp; try with_reducible rfl)
      (try simp only [Act.put, List.setIfInBounds_toArray, List.set_cons_zero, List.set_cons_succ])
      refine anyH_take 16 (v := ?_) rfl (by kernel_rfl) (by kernel_rfl) (by kernel_rfl) (fun _ _ _ h => h) (by rfl) hHeld ?_ ?_
      rotate_left
      · (intro w hSw; (try dsimp only at hSw); go_split_ands; go_simp; try with_reducible rfl)
      (try simp only [Act.put, List.setIfInBounds_toArray, List.set_cons_zero, List.set_cons_succ])
      refine anyH_one 17 rfl (by kernel_rfl) (fun K hK => ?_)
      go_simp
      refine HMC.out.mono ?_
      rintro e w1 ⟨rfl, hb1⟩
      have U1 := hid (bThen U0.out hb1)
      clear hb1
      go_simp
      refine hK.out _ _ (HS1.out _ U1.out) (fun hHeld => ?_)
      clear hK K
      (try simp only [Act.put, List.setIfInBounds_toArray, List.set_cons_zero, List.set_cons_succ])
      refine anyH_take 18 (v := ?_) rfl (by kernel_rfl) (by kernel_rfl) (by kernel_rfl) (fun _ _ _ h => h) (by rfl) hHeld ?_ ?_
      rotate_left
      · (intro w hSw; (try dsimp only at hSw); go_split_ands; go_simp; try with_reducible rfl)
      (try simp only [Act.put, List.setIfInBounds_toArray, List.set_cons_zero, List.set_cons_succ])
      refine anyH_take 19 (v := ?_) rfl (by kernel_rfl) (by kernel_rfl) (by kernel_rfl) (fun _ _ _ h => h) (by rfl) hHeld ?_ ?_
      rotate_left
      · (intro w hSw; (try dsimp only at hSw); go_split_ands; go_simp; try with_reducible rfl)
      (try simp only [Act.put, List.setIfInBounds_toArray, List.set_cons_zero, List.set_cons_succ])
      refine wpAnyH_done (by kernel_rfl) ?_ _
      have HB1 := hid (bThen HB.out U1.out)
      clear hHeld q0 c1
      go_wp2
      go_roundw
      case rel => exact ⟨k + 1, s + m, by omega, by go_num, by go_num, hid (by rw [HTS.out, HS.out]), HB1⟩
      case measure => simp [intOf]; omega
    · obtain rfl : k = q := by omega
      have HF := hid (show s = keptL b by rw [HS.out, List.take_of_length_le (by rw [HQ.out]; exact Nat.le_refl _)])
      go_wp2
      go_ret
      rw [HF.out]
      exact ⟨rfl, HB.out⟩
set_option maxHeartbeats 4000000 in
set_option maxRecDepth 100000 in
theorem ropen21_no (p : Value) (room : Int) (w : World) (h : room < 0 ∨ 65536 < room) : Calls Tryz.prog 11 #[p, .int .i64 room] w fun e w' => e = .returned (.tuple #[.pointer none, .int .i64 1]) ∧ w = w' := by
  by_cases h0 : room < 0
  · have hd : decide (room < 0) = true := decide_eq_true h0
    clear h
    go_enter Tryz.func11, Tryz.ntmps11
    go_wp2
    go_ret2
    exact ⟨rfl, rfl⟩
  · have h1 : 65536 < room := by omega
    have hd : decide (room < 0) = false := decide_eq_false h0
    have hd2 : decide (65536 < room) = true := decide_eq_true h1
    clear h
    go_enter Tryz.func11, Tryz.ntmps11
    go_wp2
    go_ret2
    exact ⟨rfl, rfl⟩
set_option maxHeartbeats 4000000 in
set_option maxRecDepth 100000 in
theorem ropen21_calls {w : World} {gm : Nat} {R : DiskS} (hr : RefAt w gm R) (hok : R16ok R) (room : Int) (h0 : 0 ≤ room) (h1 : room ≤ 65536) (rs : List RecS) (q : Nat) (hq : recsS R.b = (rs, q)) (hql : q ≤ R.b.length) :
    Calls Tryz.prog 11 #[.pointer (some ⟨gm, 0, none⟩), .int .i64 room] w fun e w' =>
      ((foldB rs [] 0).2 < rs.length ∧ e = .returned (.tuple #[.pointer none, .int .i64 3]) ∧ RefAt w' gm ⟨R.b.take q, R.room, R.fuse⟩ ∧ Mod (fun k => k = gm) w w') ∨
      (¬ (foldB rs [] 0).2 < rs.length ∧ ∃ gr gw, e = .returned (.tuple #[.pointer (some ⟨gr, 0, none⟩), .int .i64 0]) ∧ w.heap.size ≤ gr ∧ w.heap.size ≤ gw ∧ RgAt w' (fun k => w.heap.size ≤ k ∧ k ≠ gr) gr gw gm ⟨R.b.take q, R.room, R.fuse⟩ rs false (foldB rs [] 0).1 room ∧ Mod (fun k => k = gm) w w') := by
  have HO := hid (rOpen19_calls gm R w hr hok)
  rw [hq] at HO
  have HGM := hid (Array.getElem?_eq_some_iff.1 hr).1
  have HROK := hid (show R16ok ⟨R.b.take q, R.room, R.fuse⟩ from ⟨hok.1, hok.2.1, by have := hok.2.2; simp; omega⟩)
  have hd1 : decide (room < 0) = false := decide_eq_false (by omega)
  have hd2 : decide (65536 < room) = false := decide_eq_false (by omega)
  have hn1 : ¬ room < 0 := by omega
  have hn2 : ¬ 65536 < room := by omega
  obtain ⟨n, hn⟩ : ∃ n, n = rs.length := ⟨_, rfl⟩
  have HN := hid hn
  rw [← hn]
  obtain ⟨F, hF⟩ : ∃ F, F = foldB rs [] 0 := ⟨_, rfl⟩
  have HF := hid hF
  rw [← hF]
  clear hr hok hq hql hn hF h0 h1
  go_enter Tryz.func11, Tryz.ntmps11
  go_wp2_with fail
  refine HO.out.mono ?_
  rintro e w1 ⟨gw, rfl, hw1, hr1, hm1⟩
  have HW1 := hid hw1
  have HR1 := hid hr1
  have HM1 := hid hm1
  obtain ⟨hgw, hl2, v, hz, hK⟩ := hw1
  have HGW := hid hgw
  obtain ⟨A, c, he, _⟩ := id hK
  injection he with he _
  subst he
  rw [← HN.out] at hz hK
  have HK := hid hK
  obtain ⟨p1, _, hgl⟩ := cells_of_block hz
  have c1 := p1 1 _ rfl
  have HCL := hid (fun (u : World) (h : Below w1.heap.size w1 u) => (show u.cell? ⟨gw, 1, none⟩ = some (.slice A n c) from ((bcell h).1 _ _ hgl).trans c1))
  clear hr1 hm1 hz hK p1 hl2 hgw
  go_wp2_with fail
  refine (rfold_calls (fun k => w.heap.size ≤ k ∧ k ≠ gw) rs _ w1 (by rw [HN.out] at HK; rw [HN.out]; exact HK.out)).mono ?_
  rintro e w2 ⟨o, rfl, hK2, hb2⟩
  rw [← HF.out] at hK2 ⊢
  have HK2 := hid hK2
  have HB2 := hid hb2
  obtain ⟨Ao, co, he, _, _, _⟩ := hK2
  injection he with he _
  subst he
  have c1' := HCL.out w2 hb2
  clear hb2 c1
  have HR2 := hid (HR1.out.below HB2.out)
  have HM2 := hid (HM1.out.then_below HB2.out)
  by_cases hlt : F.2 < n
  · have hltI : (F.2 : Int) < (n : Int) := by omega
    have HLT := hid hlt
    clear hlt
    go_wp2
    go_ret2
    exact .inl ⟨HLT.out, rfl, HR2.out, HM2.out⟩
  have hltI : ¬ (F.2 : Int) < (n : Int) := by omega
  have HLT := hid hlt
  obtain ⟨W4, hW4⟩ : ∃ W, W = w2.alloc (.cells #[.pointer (some ⟨gw, 0, none⟩), .slice Ao F.1.length co, .int .i64 room] 62) := ⟨_, rfl⟩
  have HB4 := hid (show Below w2.heap.size w2 W4 by rw [hW4]; exact bAlloc (Below.refl _ _) _)
  have HZ4 := hid (show W4.heap[w2.heap.size]? = some (.cells #[.pointer (some ⟨gw, 0, none⟩), .slice Ao F.1.length co, .int .i64 room] 62 (0, 0)) by rw [hW4]; exact heap_at rfl)
  have s1 := HM1.out.size
  have s2 := HB2.out.size
  have sg := HGM.out
  have HLG := hid (show RgAt W4 (fun k => w.heap.size ≤ k ∧ k ≠ w2.heap.size) w2.heap.size gw gm ⟨R.b.take q, R.room, R.fuse⟩ rs false F.1 room from
    ⟨((HW1.out.below HB2.out).mono (T' := fun k => w.heap.size ≤ k ∧ k ≠ w2.heap.size) (fun k hk h => ⟨h, by omega⟩)).below HB4.out, HR2.out.below HB4.out, HROK.out, fun h => by have := h.1; omega, fun h => h.2 rfl, by omega, .slice Ao F.1.length co, HZ4.out,
      Kd.below (Kd.entry.slice.mono (S' := fun k => (w.heap.size ≤ k ∧ k ≠ w2.heap.size) ∧ k ≠ gw) (fun k h hl => by
        rcases h with h | h
        · exact ⟨⟨h.1, by omega⟩, h.2⟩
        · have h : w1.heap.size ≤ k := h
          exact ⟨⟨by omega, by omega⟩, by omega⟩) HK2.out) HB4.out⟩)
  have HM4 := hid (HM2.out.then_below HB4.out)
  have HS4 := hid (show w.heap.size ≤ w2.heap.size by omega)
  have hEq := hW4.symm
  clear hW4 hlt s1 s2 sg
  go_wp2
  go_ret2
  exact .inr ⟨HLT.out, _, _, rfl, HS4.out, HGW.out, HLG.out, HM4.out⟩
end Go.Proofs.YtkjncmmombkllaaGreat
/- siskinref21: Put. -/
namespace Go.Proofs.YtkjncmmombkllaaGreat
open Go.RowKit Go.Lib

/-- The document's annal has gone on. -/
theorem rg_annal {w w1 : World} {T : Nat → Prop} {gr gw gm : Nat} {room : Int} {v : Value} {D' : DiskS} {l' : List RecS} {down' : Bool} (hw : RwAt w1 (fun k => T k ∨ w.heap.size ≤ k) gw gm l' down') (hr : RefAt w1 gm D') (hok : R16ok D') (hm : Mod (fun k => k = gm ∨ k = gw) w w1)
    (hgw : gw < w.heap.size) (hgm : gm < w.heap.size) (hT : ¬ T gm) (hT2 : ¬ T gr) (hne : gr ≠ gm) (hnw : gr ≠ gw) (h5 : w.heap[gr]? = some (.cells #[.pointer (some ⟨gw, 0, none⟩), v, .int .i64 room] 62 (0, 0)))
    (B : Nat) (hB : B ≤ w.heap.size) (hgrB : gr < B) (hgmB : gm < B) (u : Value) (b' : List EntryS) (h6 : Kd.entry.slice.K w (fun k => (T k ∨ B ≤ k) ∧ k ≠ gw) b' [u]) :
    RgAt (w1.setCell ⟨gr, 1, none⟩ u) (fun k => T k ∨ B ≤ k) gr gw gm D' l' down' b' room := by
  have hgl := (Array.getElem?_eq_some_iff.1 h5).1
  have hN : ∀ k, k ≠ gr → (w1.setCell ⟨gr, 1, none⟩ u).heap[k]? = w1.heap[k]? := fun k hk => Below.heap_setCell _ _ _ _ hk
  have hnT : ∀ k, (T k ∨ w.heap.size ≤ k) → k ≠ gr := fun k hk e => by
    subst e
    rcases hk with hk | hk
    · exact hT2 hk
    · omega
  refine ⟨(hw.move (fun k hk hT => hN k (hnT k hT))).mono (fun k _ h => h.elim .inl (fun h => .inr (by omega))), (hN gm (fun e => hne e.symm)).trans hr, hok, fun h => h.elim hT (fun h => by omega), fun h => h.elim hT2 (fun h => by omega), hne, u, ?_, ?_⟩
  · have h := heap_set ((hm.block gr hgl (fun h => h.elim hne hnw)).trans h5) 1 u
    simpa using h
  · refine Kd.entry.slice.move (fun k hk hl => ?_) h6
    refine (hN k (fun e => ?_)).trans (hm.block k hl (fun h => h.elim (fun e => ?_) hk.2))
    · subst e
      exact hk.1.elim hT2 (fun h => by omega)
    · subst e
      exact hk.1.elim hT (fun h => by omega)
theorem r16ok_app {R : DiskS} {l : List RecS} {down : Bool} {x : RecS} (h : R16ok R) : R16ok (anApp R l down x).1 := by
  unfold anApp
  split
  · split
    · exact h
    · obtain ⟨h1, h2, h3⟩ := h
      dsimp only
      unfold DiskS.append
      split
      · exact ⟨h1, h2, h3⟩
      · split
        · exact ⟨h1, h2, by simp; omega⟩
        · exact ⟨h1, h2, by simp; omega⟩
  · exact h
set_option maxHeartbeats 4000000 in
set_option maxRecDepth 100000 in
theorem rput21_calls {w : World} {T : Nat → Prop} {gr gw gm : Nat} {D : DiskS} {l : List RecS} {down : Bool} {b : List EntryS} {room : Int} (h : RgAt w T gr gw gm D l down b room) (hok : BOk b) (x : RecS) (XA : Option Addr) (xc : Nat) (hx : Kd.str.slice.K w (fun k => T k ∧ k ≠ gw) x.needs [.slice XA x.needs.length xc]) (hll : l.length < 100000) :
    Calls Tryz.prog 14 #[.pointer (some ⟨gr, 0, none⟩), .agg #[.int .i64 x.kind, .int .i64 x.job, .int .i64 x.task, .int .i64 x.worker, .int .i64 x.sched, .int .i64 x.epoch, .slice XA x.needs.length xc]] w fun e w' => e = .returned (.int .i64 (putG D l down b room x).e) ∧ RgAt w' (fun k => T k ∨ w.heap.size ≤ k) gr gw gm (putG D l down b room x).D (putG D l down b room x).l (putG D l down b room x).down (putG D l down b room x).b room ∧ Mod (fun k => k = gm ∨ k = gw ∨ k = gr) w w' := by
  obtain ⟨V, hV⟩ : ∃ V, V = w.alloc (.cells #[.int .i64 x.kind, .int .i64 x.job, .int .i64 x.task, .int .i64 x.worker, .int .i64 x.sched, .int .i64 x.epoch, .slice XA x.needs.length xc] 46) := ⟨_, rfl⟩
  have hb0 : Below w.heap.size w V := by rw [hV]; exact bAlloc (Below.refl _ _) _
  have HZ := hid (show V.heap[w.heap.size]? = some (.cells #[.int .i64 x.kind, .int .i64 x.job, .int .i64 x.task, .int .i64 x.worker, .int .i64 x.sched, .int .i64 x.epoch, .slice XA x.needs.length xc] 46 (0, 0)) by rw [hV]; exact heap_at rfl)
  have HVS := hid (show V.heap.size = w.heap.size + 1 by rw [hV]; simp)
  have HBV := hid hb0
  have HL := hid (h.below hb0)
  obtain ⟨A, c, c0, c1, c2, d2, _, hgr0, hgw0, hKB, hZR⟩ := h.cells
  obtain ⟨hRW, hRR, hR16, hTm, hTr, hnm, _⟩ := id h
  have HGM := hid (Array.getElem?_eq_some_iff.1 hRR).1
  have HRW := hid hRW
  have HRR := hid hRR
  have HR16 := hid hR16
  have HTM := hid hTm
  have HTR := hid hTr
  have HNM := hid hnm
  have HNW := hid (show gr ≠ gw from fun e => hTr (by rw [e]; exact hRW.1))
  have HKB := hid hKB.out
  have HZR := hid hZR.out
  have HXN := hid hx
  have HX := hid (Kd.below hx hb0)
  have HOK := hid hok
  have HLL := hid hll
  have hEq := hV.symm
  have HLM := hid (show ∀ (u : World), Below w.heap.size w u → RgAt u (fun k => T k ∨ w.heap.size ≤ k) gr gw gm D l down b room from fun u hu => (h.below hu).mono (fun k _ h => .inl h) (fun h => h.elim hTm (fun h => by have := HGM.out; omega)) (fun h => h.elim hTr (fun h => by omega)))
  obtain ⟨q, hq⟩ : ∃ q, q = b.length := ⟨_, rfl⟩
  have HQ := hid hq
  obtain ⟨n, hn⟩ : ∃ n, n = x.needs.length := ⟨_, rfl⟩
  have HN := hid hn
  rw [← hn] at HX HXN HZ hEq ⊢
  rw [← hq] at c1 HKB HZR
  have HR := hid (fun (u : World) (h : Below V.heap.size V u) => rec_cells (x := x) (A := XA) (n := n) (c := xc) ((h.block w.heap.size (Array.getElem?_eq_some_iff.1 HZ.out).1).trans HZ.out))
  have HGR := hid hgr0
  have HGW := hid hgw0
  have hgr : gr < V.heap.size := by have := HVS.out; omega
  have hgw : gw < V.heap.size := by have := HVS.out; omega
  have c0' := ((bcell hb0).1 gr 0 hgr0).trans c0
  have c1' := ((bcell hb0).1 gr 1 hgr0).trans c1
  have c2' := ((bcell hb0).1 gr 2 hgr0).trans c2
  have d2' := ((bcell hb0).1 gw 2 hgw0).trans d2
  have HCL := hid (fun (u : World) (h : Below V.heap.size V u) => show (u.cell? ⟨gr, 0, none⟩ = some (.pointer (some ⟨gw, 0, none⟩)) ∧ u.cell? ⟨gr, 1, none⟩ = some (.slice A q c) ∧ u.cell? ⟨gr, 2, none⟩ = some (.int .i64 room)) from ⟨((bcell h).1 _ _ hgr).trans c0', ((bcell h).1 _ _ hgr).trans c1', ((bcell h).1 _ _ hgr).trans c2'⟩)
  have HK := hid (Kd.below HKB.out hb0)
  clear hV hb0 h hx hok hll hq hn hKB hZR hRW hRR hR16 hTm hTr hnm c0 c1 c2 d2 hgr0 hgw0
  cases hdn : down
  case true =>
    have HE := hid (show putG D l true b room x = ⟨D, l, true, b, 15⟩ from rfl)
    subst hdn
    go_enter Tryz.func14, Tryz.ntmps14
    go_wp2
    go_ret
    rw [HE.out]
    exact ⟨rfl, HLM.out V HBV.out, Mod.of_below HBV.out⟩
  subst hdn
  have HG0 := hid (show putG D l false b room x = if whyB b x ≠ 0 then ⟨D, l, false, b, whyB b x⟩ else if x.kind = 1 ∧ room < keptL b + mostR x.job 0 x.needs then ⟨D, l, false, b, 7⟩ else ⟨(anApp D l false x).1, (anApp D l false x).2.1, (anApp D l false x).2.2.1, if (anApp D l false x).2.2.2 = 0 then nextB b x else b, (anApp D l false x).2.2.2⟩ from rfl)
  have HS1 := hid (fun (u : World) (h : Below V.heap.size V u) => And.intro (HCL.out u h) (HR.out u h))
  have U0 := hid (Below.refl V.heap.size V).drew
  have q0 := HS1.out V.drew U0.out
  go_enter Tryz.func14, Tryz.ntmps14
  go_wp2_with fail
  refine wp_region_held_drew (S := fun w' => (w'.cell? ⟨gr, 0, none⟩ = some (.pointer (some ⟨gw, 0, none⟩)) ∧ w'.cell? ⟨gr, 1, none⟩ = some (.slice A q c) ∧ w'.cell? ⟨gr, 2, none⟩ = some (.int .i64 room)) ∧ w'.cell? ⟨w.heap.size, 0, none⟩ = some (.int .i64 x.kind) ∧ w'.cell? ⟨w.heap.size, 1, none⟩ = some (.int .i64 x.job) ∧ w'.cell? ⟨w.heap.size, 2, none⟩ = some (.int .i64 x.task) ∧ w'.cell? ⟨w.heap.size, 3, none⟩ = some (.int .i64 x.worker) ∧ w'.cell? ⟨w.heap.size, 4, none⟩ = some (.int .i64 x.sched) ∧ w'.cell? ⟨w.heap.size, 5, none⟩ = some (.int .i64 x.epoch) ∧ w'.cell? ⟨w.heap.size, 6, none⟩ = some (.slice XA n xc)) (by kernel_rfl) q0 (fun hHeld => ?_)
  refine anyH_take 0 (v := ?_) rfl (by kernel_rfl) (by kernel_rfl) (by kernel_rfl) (fun _ _ _ h => h) (by rfl) hHeld ?_ ?_
  rotate_left
  · (intro w hSw; (try dsimp only at hSw); go_split_ands; go_simp; try with_reducible rfl)
  (try simp only [Act.put, List.setIfInBounds_toArray, List.set_cons_zero, List.set_cons_succ])
  refine anyH_take 1 (v := ?_) rfl (by kernel_rfl) (by kernel_rfl) (by kernel_rfl) (fun _ _ _ h => h) (by rfl) hHeld ?_ ?_
  rotate_left
  · (intro w hSw; (try dsimp only at hSw); go_split_ands; go_simp; try with_reducible rfl)
  (try simp only [Act.put, List.setIfInBounds_toArray, List.set_cons_zero, List.set_cons_succ])
  refine anyH_take 2 (v := ?_) rfl (by kernel_rfl) (by kernel_rfl) (by kernel_rfl) (fun _ _ _ h => h) (by rfl) hHeld ?_ ?_
  rotate_left
  · (intro w hSw; (try dsimp only at hSw); go_split_ands; go_simp; try with_reducible rfl)
  (try simp only [Act.put, List.setIfInBounds_toArray, List.set_cons_zero, List.set_cons_succ])
  refine anyH_take 3 (v := ?_) rfl (by kernel_rfl) (by kernel_rfl) (by kernel_rfl) (fun _ _ _ h => h) (by rfl) hHeld ?_ ?_
  rotate_left
  · (intro w hSw; (try dsimp only at hSw); go_split_ands; go_simp; try with_reducible rfl)
  (try simp only [Act.put, List.setIfInBounds_toArray, List.set_cons_zero, List.set_cons_succ])
  refine anyH_take 4 (v := ?_) rfl (by kernel_rfl) (by kernel_rfl) (by kernel_rfl) (fun _ _ _ h => h) (by rfl) hHeld ?_ ?_
  rotate_left
  · (intro w hSw; (try dsimp only at hSw); go_split_ands; go_simp; try with_reducible rfl)
  (try simp only [Act.put, List.setIfInBounds_toArray, List.set_cons_zero, List.set_cons_succ])
  refine anyH_one 5 rfl (by kernel_rfl) (fun K hK => ?_)
  go_simp
  have hst := rstep_calls (fun k => T k ∧ k ≠ gw) b (.slice A q c) x XA xc V.drew (Kd.below HK.out U0.out) (by rw [← HN.out]; exact Kd.below HX.out U0.out) HOK.out
  rw [← HN.out] at hst
  refine hst.mono ?_
  clear hst
  rintro e w2 ⟨o, rfl, hO, hb2⟩
  have U1 := hid (bThen U0.out hb2)
  have HO := hid hO
  obtain ⟨Ao, co, he, _, _, _⟩ := hO
  injection he with he _
  subst he
  clear hb2
  go_simp
  refine hK.out _ _ (HS1.out _ U1.out) (fun hHeld => ?_)
  clear hK K
  (try simp only [Act.put, List.setIfInBounds_toArray, List.set_cons_zero, List.set_cons_succ])
  refine anyH_take 6 (v := ?_) rfl (by kernel_rfl) (by kernel_rfl) (by kernel_rfl) (fun _ _ _ h => h) (by rfl) hHeld ?_ ?_
  rotate_left
  · (intro w hSw; (try dsimp only at hSw); go_split_ands; go_simp; try with_reducible rfl)
  (try simp only [Act.put, List.setIfInBounds_toArray, List.set_cons_zero, List.set_cons_succ])
  refine anyH_take 7 (v := ?_) rfl (by kernel_rfl) (by kernel_rfl) (by kernel_rfl) (fun _ _ _ h => h) (by rfl) hHeld ?_ ?_
  rotate_left
  · (intro w hSw; (try dsimp only at hSw); go_split_ands; go_simp; try with_reducible rfl)
  (try simp only [Act.put, List.setIfInBounds_toArray, List.set_cons_zero, List.set_cons_succ])
  refine anyH_take 8 (v := ?_) rfl (by kernel_rfl) (by kernel_rfl) (by kernel_rfl) (fun _ _ _ h => h) (by rfl) hHeld ?_ ?_
  rotate_left
  · (intro w hSw; (try dsimp only at hSw); go_split_ands; go_simp; try with_reducible rfl)
  (try simp only [Act.put, List.setIfInBounds_toArray, List.set_cons_zero, List.set_cons_succ])
  refine anyH_take 9 (v := ?_) rfl (by kernel_rfl) (by kernel_rfl) (by kernel_rfl) (fun _ _ _ h => h) (by rfl) hHeld ?_ ?_
  rotate_left
  · (intro w hSw; (try dsimp only at hSw); go_split_ands; go_simp; try with_reducible rfl)
  (try simp only [Act.put, List.setIfInBounds_toArray, List.set_cons_zero, List.set_cons_succ])
  refine anyH_take 10 (v := ?_) rfl (by kernel_rfl) (by kernel_rfl) (by kernel_rfl) (fun _ _ _ h => h) (by rfl) hHeld ?_ ?_
  rotate_left
  · (intro w hSw; (try dsimp only at hSw); go_split_ands; go_simp; try with_reducible rfl)
  (try simp only [Act.put, List.setIfInBounds_toArray, List.set_cons_zero, List.set_cons_succ])
  refine wpAnyH_done (by kernel_rfl) ?_ _
  have HB2 := hid U1.out
  have HO2 := hid (show Kd.entry.slice.K w2 (fun k => (T k ∨ w.heap.size ≤ k) ∧ k ≠ gw) (nextB b x) [.slice Ao (nextB b x).length co] from by
    refine Kd.entry.slice.mono (fun k hk _ => ?_) HO.out
    have := HVS.out
    rcases hk with hk | hk
    · exact ⟨.inl hk.1, hk.2⟩
    · have hk : V.heap.size ≤ k := hk
      exact ⟨.inr (by omega), by omega⟩)
  clear q0 hHeld HS1 HO HK
  obtain ⟨⟨c0, c1, c2⟩, x0, x1, x2, x3, x4, x5, x6⟩ := And.intro (HCL.out w2 HB2.out) (HR.out w2 HB2.out)
  by_cases hwy : whyB b x = 0
  case neg =>
    have hne : (whyB b x != 0) = true := by rw [bne_iff_ne]; exact hwy
    have HE := hid (HG0.out.trans (if_pos hwy))
    clear hwy
    go_wp2
    go_ret
    rw [HE.out]
    exact ⟨rfl, HLM.out w2 (bThen HBV.out HB2.out), Mod.of_below (bThen HBV.out HB2.out)⟩
  have HG1 := hid (HG0.out.trans (if_neg (fun h => h hwy)))
  have HWY := hid hwy
  have HREC := hid (whyB_rec hwy)
  rw [hwy]
  clear hwy HG0

  by_cases hk : x.kind = 1
  case neg =>
    have hk1 : (x.kind == (1 : Int)) = false := by rw [beq_eq_false_iff_ne]; exact hk
    have HG2 := hid (HG1.out.trans (if_neg (fun h => hk h.1)))
    have HS2 := hid (fun (u : World) (h : Below w2.heap.size w2 u) => And.intro (HCL.out u (bThen HB2.out h)) (HR.out u (bThen HB2.out h)))
    have V0 := hid (Below.refl w2.heap.size w2).drew
    have q0 := HS2.out w2.drew V0.out
    clear hk
    go_wp2_with fail
    refine wp_region_held_drew (S := fun w' => (w'.cell? ⟨gr, 0, none⟩ = some (.pointer (some ⟨gw, 0, none⟩)) ∧ w'.cell? ⟨gr, 1, none⟩ = some (.slice A q c) ∧ w'.cell? ⟨gr, 2, none⟩ = some (.int .i64 room)) ∧ w'.cell? ⟨w.heap.size, 0, none⟩ = some (.int .i64 x.kind) ∧ w'.cell? ⟨w.heap.size, 1, none⟩ = some (.int .i64 x.job) ∧ w'.cell? ⟨w.heap.size, 2, none⟩ = some (.int .i64 x.task) ∧ w'.cell? ⟨w.heap.size, 3, none⟩ = some (.int .i64 x.worker) ∧ w'.cell? ⟨w.heap.size, 4, none⟩ = some (.int .i64 x.sched) ∧ w'.cell? ⟨w.heap.size, 5, none⟩ = some (.int .i64 x.epoch) ∧ w'.cell? ⟨w.heap.size, 6, none⟩ = some (.slice XA n xc)) (by kernel_rfl) q0 (fun hHeld => ?_)
    refine anyH_take 0 (v := ?_) rfl (by kernel_rfl) (by kernel_rfl) (by kernel_rfl) (fun _ _ _ h => h) (by rfl) hHeld ?_ ?_
    rotate_left
    · (intro w hSw; (try dsimp only at hSw); go_split_ands; go_simp; try with_reducible rfl)
    (try simp only [Act.put, List.setIfInBounds_toArray, List.set_cons_zero, List.set_cons_succ])
    refine anyH_take 1 (v := ?_) rfl (by kernel_rfl) (by kernel_rfl) (by kernel_rfl) (fun _ _ _ h => h) (by rfl) hHeld ?_ ?_
    rotate_left
    · (intro w hSw; (try dsimp only at hSw); go_split_ands; go_simp; try with_reducible rfl)
    (try simp only [Act.put, List.setIfInBounds_toArray, List.set_cons_zero, List.set_cons_succ])
    refine anyH_take 2 (v := ?_) rfl (by kernel_rfl) (by kernel_rfl) (by kernel_rfl) (fun _ _ _ h => h) (by rfl) hHeld ?_ ?_
    rotate_left
    · (intro w hSw; (try dsimp only at hSw); go_split_ands; go_simp; try with_reducible rfl)
    (try simp only [Act.put, List.setIfInBounds_toArray, List.set_cons_zero, List.set_cons_succ])
    refine anyH_take 3 (v := ?_) rfl (by kernel_rfl) (by kernel_rfl) (by kernel_rfl) (fun _ _ _ h => h) (by rfl) hHeld ?_ ?_
    rotate_left
    · (intro w hSw; (try dsimp only at hSw); go_split_ands; go_simp; try with_reducible rfl)
    (try simp only [Act.put, List.setIfInBounds_toArray, List.set_cons_zero, List.set_cons_succ])
    refine anyH_skip 4 rfl (by kernel_rfl) (by kernel_rfl) (by kernel_rfl) (fun _ _ _ h => h) (by rfl) hHeld ?_
    (try simp only [Act.put, List.setIfInBounds_toArray, List.set_cons_zero, List.set_cons_succ])
    refine anyH_skip 5 rfl (by kernel_rfl) (by kernel_rfl) (by kernel_rfl) (fun _ _ _ h => h) (by rfl) hHeld ?_
    (try simp only [Act.put, List.setIfInBounds_toArray, List.set_cons_zero, List.set_cons_succ])
    refine anyH_skip 6 rfl (by kernel_rfl) (by kernel_rfl) (by kernel_rfl) (fun _ _ _ h => h) (by rfl) hHeld ?_
    (try simp only [Act.put, List.setIfInBounds_toArray, List.set_cons_zero, List.set_cons_succ])
    refine anyH_skip 7 rfl (by kernel_rfl) (by kernel_rfl) (by kernel_rfl) (fun _ _ _ h => h) (by rfl) hHeld ?_
    (try simp only [Act.put, List.setIfInBounds_toArray, List.set_cons_zero, List.set_cons_succ])
    refine anyH_skip 8 rfl (by kernel_rfl) (by kernel_rfl) (by kernel_rfl) (fun _ _ _ h => h) (by rfl) hHeld ?_
    (try simp only [Act.put, List.setIfInBounds_toArray, List.set_cons_zero, List.set_cons_succ])
    refine anyH_skip 9 rfl (by kernel_rfl) (by kernel_rfl) (by kernel_rfl) (fun _ _ _ h => h) (by rfl) hHeld ?_
    (try simp only [Act.put, List.setIfInBounds_toArray, List.set_cons_zero, List.set_cons_succ])
    refine anyH_skip 10 rfl (by kernel_rfl) (by kernel_rfl) (by kernel_rfl) (fun _ _ _ h => h) (by rfl) hHeld ?_
    (try simp only [Act.put, List.setIfInBounds_toArray, List.set_cons_zero, List.set_cons_succ])
    refine anyH_skip 11 rfl (by kernel_rfl) (by kernel_rfl) (by kernel_rfl) (fun _ _ _ h => h) (by rfl) hHeld ?_
    (try simp only [Act.put, List.setIfInBounds_toArray, List.set_cons_zero, List.set_cons_succ])
    refine anyH_skip 12 rfl (by kernel_rfl) (by kernel_rfl) (by kernel_rfl) (fun _ _ _ h => h) (by rfl) hHeld ?_
    (try simp only [Act.put, List.setIfInBounds_toArray, List.set_cons_zero, List.set_cons_succ])
    refine anyH_skip 13 rfl (by kernel_rfl) (by kernel_rfl) (by kernel_rfl) (fun _ _ _ h => h) (by rfl) hHeld ?_
    (try simp only [Act.put, List.setIfInBounds_toArray, List.set_cons_zero, List.set_cons_succ])
    refine anyH_skip 14 rfl (by kernel_rfl) (by kernel_rfl) (by kernel_rfl) (fun _ _ _ h => h) (by rfl) hHeld ?_
    (try simp only [Act.put, List.setIfInBounds_toArray, List.set_cons_zero, List.set_cons_succ])
    refine anyH_skip 15 rfl (by kernel_rfl) (by kernel_rfl) (by kernel_rfl) (fun _ _ _ h => h) (by rfl) hHeld ?_
    (try simp only [Act.put, List.setIfInBounds_toArray, List.set_cons_zero, List.set_cons_succ])
    refine anyH_skip 16 rfl (by kernel_rfl) (by kernel_rfl) (by kernel_rfl) (fun _ _ _ h => h) (by rfl) hHeld ?_
    (try simp only [Act.put, List.setIfInBounds_toArray, List.set_cons_zero, List.set_cons_succ])
    refine anyH_take 17 (v := ?_) rfl (by kernel_rfl) (by kernel_rfl) (by kernel_rfl) (fun _ _ _ h => h) (by rfl) hHeld ?_ ?_
    rotate_left
    · (intro w hSw; (try dsimp only at hSw); go_split_ands; go_simp; try with_reducible rfl)
    (try simp only [Act.put, List.setIfInBounds_toArray, List.set_cons_zero, List.set_cons_succ])
    refine wpAnyH_done (by kernel_rfl) ?_ _
    have HBT := hid V0.out
    have HB3 := hid (bThen HB2.out V0.out)
    clear hHeld q0 HG1 c0 c1 c2 x0 x1 x2 x3 x4 x5 x6
    obtain ⟨w3, hw3⟩ : ∃ w3, w3 = w2.drew := ⟨_, rfl⟩
    rw [← hw3] at HBT HB3 ⊢
    clear hw3 V0 HS2
    have T0 := hid (Below.refl w3.heap.size w3).drew
    have HST := hid (fun (u : World) (h : Below w3.heap.size w3 u) => And.intro (HCL.out u (bThen HB3.out h)) (HR.out u (bThen HB3.out h)))
    have q0 := HST.out w3.drew T0.out
    have HBT3 := hid (bThen (bThen HBV.out HB3.out) T0.out)
    have HXW := hid (Kd.below HXN.out HBT3.out)
    have HAP := hid (rAppend19_calls T gw gm D l false w3.drew (HRW.out.below HBT3.out) (HRR.out.below HBT3.out) HR16.out HTM.out x XA n xc HXW.out HLL.out)
    have HWS := hid (show w.heap.size < w3.heap.size by have := HB3.out.size; have := HVS.out; omega)
    have HRO := hid (r16ok_app (l := l) (down := false) (x := x) HR16.out)
    obtain ⟨r, hr⟩ : ∃ r, r = anApp D l false x := ⟨_, rfl⟩
    rw [← hr] at HG2 HAP HRO
    clear hr
    go_wp2_with fail
    refine wp_region_held_drew (S := fun w' => (w'.cell? ⟨gr, 0, none⟩ = some (.pointer (some ⟨gw, 0, none⟩)) ∧ w'.cell? ⟨gr, 1, none⟩ = some (.slice A q c) ∧ w'.cell? ⟨gr, 2, none⟩ = some (.int .i64 room)) ∧ w'.cell? ⟨w.heap.size, 0, none⟩ = some (.int .i64 x.kind) ∧ w'.cell? ⟨w.heap.size, 1, none⟩ = some (.int .i64 x.job) ∧ w'.cell? ⟨w.heap.size, 2, none⟩ = some (.int .i64 x.task) ∧ w'.cell? ⟨w.heap.size, 3, none⟩ = some (.int .i64 x.worker) ∧ w'.cell? ⟨w.heap.size, 4, none⟩ = some (.int .i64 x.sched) ∧ w'.cell? ⟨w.heap.size, 5, none⟩ = some (.int .i64 x.epoch) ∧ w'.cell? ⟨w.heap.size, 6, none⟩ = some (.slice XA n xc)) (by kernel_rfl) q0 (fun hHeld => ?_)
    refine anyH_take 0 (v := ?_) rfl (by kernel_rfl) (by kernel_rfl) (by kernel_rfl) (fun _ _ _ h => h) (by rfl) hHeld ?_ ?_
    rotate_left
    · (intro w hSw; (try dsimp only at hSw); go_split_ands; go_simp; try with_reducible rfl)
    (try simp only [Act.put, List.setIfInBounds_toArray, List.set_cons_zero, List.set_cons_succ])
    refine anyH_take 1 (v := ?_) rfl (by kernel_rfl) (by kernel_rfl) (by kernel_rfl) (fun _ _ _ h => h) (by rfl) hHeld ?_ ?_
    rotate_left
    · (intro w hSw; (try dsimp only at hSw); go_split_ands; go_simp; try with_reducible rfl)
    (try simp only [Act.put, List.setIfInBounds_toArray, List.set_cons_zero, List.set_cons_succ])
    refine anyH_take 2 (v := ?_) rfl (by kernel_rfl) (by kernel_rfl) (by kernel_rfl) (fun _ _ _ h => h) (by rfl) hHeld ?_ ?_
    rotate_left
    · (intro w hSw; (try dsimp only at hSw); go_split_ands; go_simp; try with_reducible rfl)
    (try simp only [Act.put, List.setIfInBounds_toArray, List.set_cons_zero, List.set_cons_succ])
    refine anyH_take 3 (v := ?_) rfl (by kernel_rfl) (by kernel_rfl) (by kernel_rfl) (fun _ _ _ h => h) (by rfl) hHeld ?_ ?_
    rotate_left
    · (intro w hSw; (try dsimp only at hSw); go_split_ands; go_simp; try with_reducible rfl)
    (try simp only [Act.put, List.setIfInBounds_toArray, List.set_cons_zero, List.set_cons_succ])
    refine anyH_take 4 (v := ?_) rfl (by kernel_rfl) (by kernel_rfl) (by kernel_rfl) (fun _ _ _ h => h) (by rfl) hHeld ?_ ?_
    rotate_left
    · (intro w hSw; (try dsimp only at hSw); go_split_ands; go_simp; try with_reducible rfl)
    (try simp only [Act.put, List.setIfInBounds_toArray, List.set_cons_zero, List.set_cons_succ])
    refine anyH_one 5 rfl (by kernel_rfl) (fun K hK => ?_)
    go_simp
    refine HAP.out.mono ?_
    rintro e w4 ⟨rfl, hp4, hq4, hm4⟩
    have HP4 := hid hp4
    have HQ4 := hid hq4
    have HM4 := hid hm4
    have q4 := HST.out w3.drew T0.out
    have HG4 := hid (show ∀ j, w4.cell? ⟨gr, j, none⟩ = w3.drew.cell? ⟨gr, j, none⟩ from fun j => World.cell?_of_block (hm4.block gr (Nat.lt_of_lt_of_le hgr HB3.out.size) (fun h => h.elim HNM.out HNW.out)))
    have HR4 := hid (show ∀ j, w4.cell? ⟨w.heap.size, j, none⟩ = w3.drew.cell? ⟨w.heap.size, j, none⟩ from fun j => World.cell?_of_block (hm4.block w.heap.size HWS.out (fun h => by have := HGM.out; have := HGW.out; omega)))
    have q5 : (w4.cell? ⟨gr, 0, none⟩ = some (.pointer (some ⟨gw, 0, none⟩)) ∧ w4.cell? ⟨gr, 1, none⟩ = some (.slice A q c) ∧ w4.cell? ⟨gr, 2, none⟩ = some (.int .i64 room)) ∧ w4.cell? ⟨w.heap.size, 0, none⟩ = some (.int .i64 x.kind) ∧ w4.cell? ⟨w.heap.size, 1, none⟩ = some (.int .i64 x.job) ∧ w4.cell? ⟨w.heap.size, 2, none⟩ = some (.int .i64 x.task) ∧ w4.cell? ⟨w.heap.size, 3, none⟩ = some (.int .i64 x.worker) ∧ w4.cell? ⟨w.heap.size, 4, none⟩ = some (.int .i64 x.sched) ∧ w4.cell? ⟨w.heap.size, 5, none⟩ = some (.int .i64 x.epoch) ∧ w4.cell? ⟨w.heap.size, 6, none⟩ = some (.slice XA n xc) := ⟨⟨(HG4.out 0).trans q4.1.1, (HG4.out 1).trans q4.1.2.1, (HG4.out 2).trans q4.1.2.2⟩, (HR4.out 0).trans q4.2.1, (HR4.out 1).trans q4.2.2.1, (HR4.out 2).trans q4.2.2.2.1, (HR4.out 3).trans q4.2.2.2.2.1, (HR4.out 4).trans q4.2.2.2.2.2.1, (HR4.out 5).trans q4.2.2.2.2.2.2.1, (HR4.out 6).trans q4.2.2.2.2.2.2.2⟩
    clear hp4 hm4 hq4
    go_simp
    refine hK.out _ _ q5 (fun hHeld => ?_)
    clear hK K
    (try simp only [Act.put, List.setIfInBounds_toArray, List.set_cons_zero, List.set_cons_succ])
    refine anyH_take 6 (v := ?_) rfl (by kernel_rfl) (by kernel_rfl) (by kernel_rfl) (fun _ _ _ h => h) (by rfl) hHeld ?_ ?_
    rotate_left
    · (intro w hSw; (try dsimp only at hSw); go_split_ands; go_simp; try with_reducible rfl)
    (try simp only [Act.put, List.setIfInBounds_toArray, List.set_cons_zero, List.set_cons_succ])
    refine wpAnyH_done (by kernel_rfl) ?_ _
    have HWL := hid (show w.heap.size ≤ w3.drew.heap.size from Nat.le_of_lt HWS.out)
    have H5W := hid (show w3.drew.heap[gr]? = some (.cells #[.pointer (some ⟨gw, 0, none⟩), .slice A q c, .int .i64 room] 62 (0, 0)) from (HBT3.out.block gr HGR.out).trans HZR.out)
    have HMW := hid (show Mod (fun k => k = gm ∨ k = gw ∨ k = gr) w w4 from (Mod.of_below HBT3.out).trans HM4.out (fun k _ h => h.elim .inl (fun h => .inr (.inl h))))
    have H54 := hid ((HM4.out.block gr (Nat.lt_of_lt_of_le hgr HB3.out.size) (fun h => h.elim HNM.out HNW.out)).trans H5W.out)
    have HGMW := hid (Nat.lt_of_lt_of_le HGM.out HWL.out)
    have HGWW := hid (Nat.lt_of_lt_of_le HGW.out HWL.out)
    obtain ⟨⟨c0, c1, c2⟩, _⟩ := q5
    have cf := (cells_of_block H54.out).2.1 1
    clear hHeld q0 q4
    by_cases h0 : r.2.2.2 = 0
    case neg =>
      have hne : (r.2.2.2 != 0) = true := by rw [bne_iff_ne]; exact h0
      have HE := hid (HG2.out.trans (by rw [if_neg h0]))
      have HLG := hid (rg_annal HP4.out HQ4.out HRO.out HM4.out HGWW.out HGMW.out HTM.out HTR.out HNM.out HNW.out H5W.out w.heap.size HWL.out HGR.out HGM.out (.slice A q c) b (Kd.entry.slice.mono (fun k h _ => ⟨.inl h.1, h.2⟩) (Kd.below HKB.out HBT3.out)))
      have HSM := hid (setCell_same H54.out 1 (.slice A q c) rfl)
      clear h0
      go_wp2
      go_ret
      rw [HE.out]
      rw [HSM.out] at HLG
      exact ⟨rfl, HLG.out, HMW.out⟩
    have HE := hid (HG2.out.trans (by rw [if_pos h0]))
    have HLG := hid (rg_annal HP4.out HQ4.out HRO.out HM4.out HGWW.out HGMW.out HTM.out HTR.out HNM.out HNW.out H5W.out w.heap.size HWL.out HGR.out HGM.out (.slice Ao (nextB b x).length co) (nextB b x) (Kd.below HO2.out (bThen HBT.out T0.out)))
    have HM5 := hid (HMW.out.setCell (p := ⟨gr, 1, none⟩) (fun _ => .inr (.inr rfl)) (.slice Ao (nextB b x).length co))
    obtain ⟨nl, hnl⟩ : ∃ nl, nl = (nextB b x).length := ⟨_, rfl⟩
    rw [← hnl] at HLG HM5 ⊢
    clear hnl
    rw [h0]
    go_wp2
    go_ret
    rw [HE.out, h0]
    exact ⟨rfl, HLG.out, HM5.out⟩
  have hk1 : (x.kind == (1 : Int)) = true := by rw [hk]; decide
  have HACC := hid (recOk_accept HREC.out hk)
  have hnl : n ≤ 16 := by have := HACC.out.2.1; have := HN.out; omega
  obtain ⟨kl, hkl⟩ : ∃ kl, kl = keptL b := ⟨_, rfl⟩
  obtain ⟨m, hm⟩ : ∃ m, m = mostR x.job 0 x.needs := ⟨_, rfl⟩
  have hklb := keptL_bound b HOK.out.1
  have hb40 := HOK.out.2
  have hmb := mostR16 x.job 0 x.needs HACC.out.2.1
  have HKM := hid (And.intro hkl hm)
  rw [← hkl] at hklb HG1
  rw [← hm] at hmb HG1
  have hww : IntKind.i64.wrap (kl + m) = kl + m := IntWalk.i64_in _ (by omega)
  have HS2 := hid (fun (u : World) (h : Below w2.heap.size w2 u) => And.intro (HCL.out u (bThen HB2.out h)) (HR.out u (bThen HB2.out h)))
  have V0 := hid (Below.refl w2.heap.size w2).drew
  have q0 := HS2.out w2.drew V0.out
  have HXM := hid (Kd.any (Kd.below HX.out HB2.out))
  have HKD := hid hk
  clear hkl hm hklb hb40 hmb hk
  by_cases hro : room < kl + m
  case pos =>
    have hrd : decide (room < kl + m) = true := decide_eq_true hro
    have HE := hid (HG1.out.trans (if_pos ⟨HKD.out, hro⟩))
    go_wp2_with fail
    refine wp_region_held_drew (S := fun w' => (w'.cell? ⟨gr, 0, none⟩ = some (.pointer (some ⟨gw, 0, none⟩)) ∧ w'.cell? ⟨gr, 1, none⟩ = some (.slice A q c) ∧ w'.cell? ⟨gr, 2, none⟩ = some (.int .i64 room)) ∧ w'.cell? ⟨w.heap.size, 0, none⟩ = some (.int .i64 x.kind) ∧ w'.cell? ⟨w.heap.size, 1, none⟩ = some (.int .i64 x.job) ∧ w'.cell? ⟨w.heap.size, 2, none⟩ = some (.int .i64 x.task) ∧ w'.cell? ⟨w.heap.size, 3, none⟩ = some (.int .i64 x.worker) ∧ w'.cell? ⟨w.heap.size, 4, none⟩ = some (.int .i64 x.sched) ∧ w'.cell? ⟨w.heap.size, 5, none⟩ = some (.int .i64 x.epoch) ∧ w'.cell? ⟨w.heap.size, 6, none⟩ = some (.slice XA n xc)) (by kernel_rfl) q0 (fun hHeld => ?_)
    refine anyH_take 0 (v := ?_) rfl (by kernel_rfl) (by kernel_rfl) (by kernel_rfl) (fun _ _ _ h => h) (by rfl) hHeld ?_ ?_
    rotate_left
    · (intro w hSw; (try dsimp only at hSw); go_split_ands; go_simp; try with_reducible rfl)
    (try simp only [Act.put, List.setIfInBounds_toArray, List.set_cons_zero, List.set_cons_succ])
    refine anyH_take 1 (v := ?_) rfl (by kernel_rfl) (by kernel_rfl) (by kernel_rfl) (fun _ _ _ h => h) (by rfl) hHeld ?_ ?_
    rotate_left
    · (intro w hSw; (try dsimp only at hSw); go_split_ands; go_simp; try with_reducible rfl)
    (try simp only [Act.put, List.setIfInBounds_toArray, List.set_cons_zero, List.set_cons_succ])
    refine anyH_take 2 (v := ?_) rfl (by kernel_rfl) (by kernel_rfl) (by kernel_rfl) (fun _ _ _ h => h) (by rfl) hHeld ?_ ?_
    rotate_left
    · (intro w hSw; (try dsimp only at hSw); go_split_ands; go_simp; try with_reducible rfl)
    (try simp only [Act.put, List.setIfInBounds_toArray, List.set_cons_zero, List.set_cons_succ])
    refine anyH_take 3 (v := ?_) rfl (by kernel_rfl) (by kernel_rfl) (by kernel_rfl) (fun _ _ _ h => h) (by rfl) hHeld ?_ ?_
    rotate_left
    · (intro w hSw; (try dsimp only at hSw); go_split_ands; go_simp; try with_reducible rfl)
    (try simp only [Act.put, List.setIfInBounds_toArray, List.set_cons_zero, List.set_cons_succ])
    refine anyH_take 4 (v := ?_) rfl (by kernel_rfl) (by kernel_rfl) (by kernel_rfl) (fun _ _ _ h => h) (by rfl) hHeld ?_ ?_
    rotate_left
    · (intro w hSw; (try dsimp only at hSw); go_split_ands; go_simp; try with_reducible rfl)
    (try simp only [Act.put, List.setIfInBounds_toArray, List.set_cons_zero, List.set_cons_succ])
    refine anyH_take 6 (v := ?_) rfl (by kernel_rfl) (by kernel_rfl) (by kernel_rfl) (fun _ _ _ h => h) (by rfl) hHeld ?_ ?_
    rotate_left
    · (intro w hSw; (try dsimp only at hSw); go_split_ands; go_simp; try with_reducible rfl)
    (try simp only [Act.put, List.setIfInBounds_toArray, List.set_cons_zero, List.set_cons_succ])
    refine anyH_take 7 (v := ?_) rfl (by kernel_rfl) (by kernel_rfl) (by kernel_rfl) (fun _ _ _ h => h) (by rfl) hHeld ?_ ?_
    rotate_left
    · (intro w hSw; (try dsimp only at hSw); go_split_ands; go_simp; try with_reducible rfl)
    (try simp only [Act.put, List.setIfInBounds_toArray, List.set_cons_zero, List.set_cons_succ])
    refine anyH_take 8 (v := ?_) rfl (by kernel_rfl) (by kernel_rfl) (by kernel_rfl) (fun _ _ _ h => h) (by rfl) hHeld ?_ ?_
    rotate_left
    · (intro w hSw; (try dsimp only at hSw); go_split_ands; go_simp; try with_reducible rfl)
    (try simp only [Act.put, List.setIfInBounds_toArray, List.set_cons_zero, List.set_cons_succ])
    refine anyH_take 9 (v := ?_) rfl (by kernel_rfl) (by kernel_rfl) (by kernel_rfl) (fun _ _ _ h => h) (by rfl) hHeld ?_ ?_
    rotate_left
    · (intro w hSw; (try dsimp only at hSw); go_split_ands; go_simp; try with_reducible rfl)
    (try simp only [Act.put, List.setIfInBounds_toArray, List.set_cons_zero, List.set_cons_succ])
    refine anyH_take 12 (v := ?_) rfl (by kernel_rfl) (by kernel_rfl) (by kernel_rfl) (fun _ _ _ h => h) (by rfl) hHeld ?_ ?_
    rotate_left
    · (intro w hSw; (try dsimp only at hSw); go_split_ands; go_simp; try with_reducible rfl)
    (try simp only [Act.put, List.setIfInBounds_toArray, List.set_cons_zero, List.set_cons_succ])
    refine anyH_take 13 (v := ?_) rfl (by kernel_rfl) (by kernel_rfl) (by kernel_rfl) (fun _ _ _ h => h) (by rfl) hHeld ?_ ?_
    rotate_left
    · (intro w hSw; (try dsimp only at hSw); go_split_ands; go_simp; try with_reducible rfl)
    (try simp only [Act.put, List.setIfInBounds_toArray, List.set_cons_zero, List.set_cons_succ])
    refine anyH_take 14 (v := ?_) rfl (by kernel_rfl) (by kernel_rfl) (by kernel_rfl) (fun _ _ _ h => h) (by rfl) hHeld ?_ ?_
    rotate_left
    · (intro w hSw; (try dsimp only at hSw); go_split_ands; go_simp; try with_reducible rfl)
    (try simp only [Act.put, List.setIfInBounds_toArray, List.set_cons_zero, List.set_cons_succ])
    refine anyH_take 15 (v := ?_) rfl (by kernel_rfl) (by kernel_rfl) (by kernel_rfl) (fun _ _ _ h => h) (by rfl) hHeld ?_ ?_
    rotate_left
    · (intro w hSw; (try dsimp only at hSw); go_split_ands; go_simp; try with_reducible rfl)
    (try simp only [Act.put, List.setIfInBounds_toArray, List.set_cons_zero, List.set_cons_succ])
    refine anyH_one 5 rfl (by kernel_rfl) (fun K hK => ?_)
    go_simp
    have hst := rkept_calls (HL.out.below (bThen HB2.out V0.out)) HOK.out
    rw [← HKM.out.1] at hst
    refine hst.mono ?_
    clear hst
    rintro e w3 ⟨rfl, hb3⟩
    have V1 := hid (bThen V0.out hb3)
    clear hb3
    go_simp
    refine hK.out _ _ (HS2.out _ V1.out) (fun hHeld => ?_)
    clear hK K
    (try simp only [Act.put, List.setIfInBounds_toArray, List.set_cons_zero, List.set_cons_succ])
    refine anyH_one 10 rfl (by kernel_rfl) (fun K hK => ?_)
    go_simp
    have hst := rmost17_calls x.job 0 x.needs XA n xc w3 (Kd.below HXM.out V1.out) (by omega)
    rw [← HKM.out.2] at hst
    refine hst.mono ?_
    clear hst
    rintro e w5 ⟨rfl, hb5⟩
    have V2 := hid (bThen V1.out hb5)
    clear hb5
    go_simp
    refine hK.out _ _ (HS2.out _ V2.out) (fun hHeld => ?_)
    clear hK K
    (try simp only [Act.put, List.setIfInBounds_toArray, List.set_cons_zero, List.set_cons_succ])
    refine anyH_take 11 (v := ?_) rfl (by kernel_rfl) (by kernel_rfl) (by kernel_rfl) (fun _ _ _ h => h) (by rfl) hHeld ?_ ?_
    rotate_left
    · (intro w hSw; (try dsimp only at hSw); go_split_ands; go_simp; try with_reducible rfl)
    (try simp only [Act.put, List.setIfInBounds_toArray, List.set_cons_zero, List.set_cons_succ])
    refine anyH_take 16 (v := ?_) rfl (by kernel_rfl) (by kernel_rfl) (by kernel_rfl) (fun _ _ _ h => h) (by rfl) hHeld ?_ ?_
    rotate_left
    · (intro w hSw; (try dsimp only at hSw); go_split_ands; go_simp; try with_reducible rfl)
    (try simp only [Act.put, List.setIfInBounds_toArray, List.set_cons_zero, List.set_cons_succ])
    refine anyH_take 17 (v := ?_) rfl (by kernel_rfl) (by kernel_rfl) (by kernel_rfl) (fun _ _ _ h => h) (by rfl) hHeld ?_ ?_
    rotate_left
    · (intro w hSw; (try dsimp only at hSw); go_split_ands; go_simp; try with_reducible rfl)
    (try simp only [Act.put, List.setIfInBounds_toArray, List.set_cons_zero, List.set_cons_succ])
    refine wpAnyH_done (by kernel_rfl) ?_ _
    go_wp2
    go_ret
    rw [HE.out]
    exact ⟨rfl, HLM.out w5 (bThen HBV.out (bThen HB2.out V2.out)), Mod.of_below (bThen HBV.out (bThen HB2.out V2.out))⟩
  have hrd : decide (room < kl + m) = false := decide_eq_false hro
  have HG2 := hid (HG1.out.trans (if_neg (fun h => hro h.2)))
  go_wp2_with fail
  refine wp_region_held_drew (S := fun w' => (w'.cell? ⟨gr, 0, none⟩ = some (.pointer (some ⟨gw, 0, none⟩)) ∧ w'.cell? ⟨gr, 1, none⟩ = some (.slice A q c) ∧ w'.cell? ⟨gr, 2, none⟩ = some (.int .i64 room)) ∧ w'.cell? ⟨w.heap.size, 0, none⟩ = some (.int .i64 x.kind) ∧ w'.cell? ⟨w.heap.size, 1, none⟩ = some (.int .i64 x.job) ∧ w'.cell? ⟨w.heap.size, 2, none⟩ = some (.int .i64 x.task) ∧ w'.cell? ⟨w.heap.size, 3, none⟩ = some (.int .i64 x.worker) ∧ w'.cell? ⟨w.heap.size, 4, none⟩ = some (.int .i64 x.sched) ∧ w'.cell? ⟨w.heap.size, 5, none⟩ = some (.int .i64 x.epoch) ∧ w'.cell? ⟨w.heap.size, 6, none⟩ = some (.slice XA n xc)) (by kernel_rfl) q0 (fun hHeld => ?_)
  refine anyH_take 0 (v := ?_) rfl (by kernel_rfl) (by kernel_rfl) (by kernel_rfl) (fun _ _ _ h => h) (by rfl) hHeld ?_ ?_
  rotate_left
  · (intro w hSw; (try dsimp only at hSw); go_split_ands; go_simp; try with_reducible rfl)
  (try simp only [Act.put, List.setIfInBounds_toArray, List.set_cons_zero, List.set_cons_succ])
  refine anyH_take 1 (v := ?_) rfl (by kernel_rfl) (by kernel_rfl) (by kernel_rfl) (fun _ _ _ h => h) (by rfl) hHeld ?_ ?_
  rotate_left
  · (intro w hSw; (try dsimp only at hSw); go_split_ands; go_simp; try with_reducible rfl)
  (try simp only [Act.put, List.setIfInBounds_toArray, List.set_cons_zero, List.set_cons_succ])
  refine anyH_take 2 (v := ?_) rfl (by kernel_rfl) (by kernel_rfl) (by kernel_rfl) (fun _ _ _ h => h) (by rfl) hHeld ?_ ?_
  rotate_left
  · (intro w hSw; (try dsimp only at hSw); go_split_ands; go_simp; try with_reducible rfl)
  (try simp only [Act.put, List.setIfInBounds_toArray, List.set_cons_zero, List.set_cons_succ])
  refine anyH_take 3 (v := ?_) rfl (by kernel_rfl) (by kernel_rfl) (by kernel_rfl) (fun _ _ _ h => h) (by rfl) hHeld ?_ ?_
  rotate_left
  · (intro w hSw; (try dsimp only at hSw); go_split_ands; go_simp; try with_reducible rfl)
  (try simp only [Act.put, List.setIfInBounds_toArray, List.set_cons_zero, List.set_cons_succ])
  refine anyH_take 4 (v := ?_) rfl (by kernel_rfl) (by kernel_rfl) (by kernel_rfl) (fun _ _ _ h => h) (by rfl) hHeld ?_ ?_
  rotate_left
  · (intro w hSw; (try dsimp only at hSw); go_split_ands; go_simp; try with_reducible rfl)
  (try simp only [Act.put, List.setIfInBounds_toArray, List.set_cons_zero, List.set_cons_succ])
  refine anyH_take 6 (v := ?_) rfl (by kernel_rfl) (by kernel_rfl) (by kernel_rfl) (fun _ _ _ h => h) (by rfl) hHeld ?_ ?_
  rotate_left
  · (intro w hSw; (try dsimp only at hSw); go_split_ands; go_simp; try with_reducible rfl)
  (try simp only [Act.put, List.setIfInBounds_toArray, List.set_cons_zero, List.set_cons_succ])
  refine anyH_take 7 (v := ?_) rfl (by kernel_rfl) (by kernel_rfl) (by kernel_rfl) (fun _ _ _ h => h) (by rfl) hHeld ?_ ?_
  rotate_left
  · (intro w hSw; (try dsimp only at hSw); go_split_ands; go_simp; try with_reducible rfl)
  (try simp only [Act.put, List.setIfInBounds_toArray, List.set_cons_zero, List.set_cons_succ])
  refine anyH_take 8 (v := ?_) rfl (by kernel_rfl) (by kernel_rfl) (by kernel_rfl) (fun _ _ _ h => h) (by rfl) hHeld ?_ ?_
  rotate_left
  · (intro w hSw; (try dsimp only at hSw); go_split_ands; go_simp; try with_reducible rfl)
  (try simp only [Act.put, List.setIfInBounds_toArray, List.set_cons_zero, List.set_cons_succ])
  refine anyH_take 9 (v := ?_) rfl (by kernel_rfl) (by kernel_rfl) (by kernel_rfl) (fun _ _ _ h => h) (by rfl) hHeld ?_ ?_
  rotate_left
  · (intro w hSw; (try dsimp only at hSw); go_split_ands; go_simp; try with_reducible rfl)
  (try simp only [Act.put, List.setIfInBounds_toArray, List.set_cons_zero, List.set_cons_succ])
  refine anyH_take 12 (v := ?_) rfl (by kernel_rfl) (by kernel_rfl) (by kernel_rfl) (fun _ _ _ h => h) (by rfl) hHeld ?_ ?_
  rotate_left
  · (intro w hSw; (try dsimp only at hSw); go_split_ands; go_simp; try with_reducible rfl)
  (try simp only [Act.put, List.setIfInBounds_toArray, List.set_cons_zero, List.set_cons_succ])
  refine anyH_take 13 (v := ?_) rfl (by kernel_rfl) (by kernel_rfl) (by kernel_rfl) (fun _ _ _ h => h) (by rfl) hHeld ?_ ?_
  rotate_left
  · (intro w hSw; (try dsimp only at hSw); go_split_ands; go_simp; try with_reducible rfl)
  (try simp only [Act.put, List.setIfInBounds_toArray, List.set_cons_zero, List.set_cons_succ])
  refine anyH_take 14 (v := ?_) rfl (by kernel_rfl) (by kernel_rfl) (by kernel_rfl) (fun _ _ _ h => h) (by rfl) hHeld ?_ ?_
  rotate_left
  · (intro w hSw; (try dsimp only at hSw); go_split_ands; go_simp; try with_reducible rfl)
  (try simp only [Act.put, List.setIfInBounds_toArray, List.set_cons_zero, List.set_cons_succ])
  refine anyH_take 15 (v := ?_) rfl (by kernel_rfl) (by kernel_rfl) (by kernel_rfl) (fun _ _ _ h => h) (by rfl) hHeld ?_ ?_
  rotate_left
  · (intro w hSw; (try dsimp only at hSw); go_split_ands; go_simp; try with_reducible rfl)
  (try simp only [Act.put, List.setIfInBounds_toArray, List.set_cons_zero, List.set_cons_succ])
  refine anyH_one 5 rfl (by kernel_rfl) (fun K hK => ?_)
  go_simp
  have hst := rkept_calls (HL.out.below (bThen HB2.out V0.out)) HOK.out
  rw [← HKM.out.1] at hst
  refine hst.mono ?_
  clear hst
  rintro e w3 ⟨rfl, hb3⟩
  have V1 := hid (bThen V0.out hb3)
  clear hb3
  go_simp
  refine hK.out _ _ (HS2.out _ V1.out) (fun hHeld => ?_)
  clear hK K
  (try simp only [Act.put, List.setIfInBounds_toArray, List.set_cons_zero, List.set_cons_succ])
  refine anyH_one 10 rfl (by kernel_rfl) (fun K hK => ?_)
  go_simp
  have hst := rmost17_calls x.job 0 x.needs XA n xc w3 (Kd.below HXM.out V1.out) (by omega)
  rw [← HKM.out.2] at hst
  refine hst.mono ?_
  clear hst
  rintro e w5 ⟨rfl, hb5⟩
  have V2 := hid (bThen V1.out hb5)
  clear hb5
  go_simp
  refine hK.out _ _ (HS2.out _ V2.out) (fun hHeld => ?_)
  clear hK K
  (try simp only [Act.put, List.setIfInBounds_toArray, List.set_cons_zero, List.set_cons_succ])
  refine anyH_take 11 (v := ?_) rfl (by kernel_rfl) (by kernel_rfl) (by kernel_rfl) (fun _ _ _ h => h) (by rfl) hHeld ?_ ?_
  rotate_left
  · (intro w hSw; (try dsimp only at hSw); go_split_ands; go_simp; try with_reducible rfl)
  (try simp only [Act.put, List.setIfInBounds_toArray, List.set_cons_zero, List.set_cons_succ])
  refine anyH_take 16 (v := ?_) rfl (by kernel_rfl) (by kernel_rfl) (by kernel_rfl) (fun _ _ _ h => h) (by rfl) hHeld ?_ ?_
  rotate_left
  · (intro w hSw; (try dsimp only at hSw); go_split_ands; go_simp; try with_reducible rfl)
  (try simp only [Act.put, List.setIfInBounds_toArray, List.set_cons_zero, List.set_cons_succ])
  refine anyH_take 17 (v := ?_) rfl (by kernel_rfl) (by kernel_rfl) (by kernel_rfl) (fun _ _ _ h => h) (by rfl) hHeld ?_ ?_
  rotate_left
  · (intro w hSw; (try dsimp only at hSw); go_split_ands; go_simp; try with_reducible rfl)
  (try simp only [Act.put, List.setIfInBounds_toArray, List.set_cons_zero, List.set_cons_succ])
  refine wpAnyH_done (by kernel_rfl) ?_ _
  have HBT := hid V2.out
  have HB3 := hid (bThen HB2.out V2.out)
  clear hHeld q0 HG1 c0 c1 c2 x0 x1 x2 x3 x4 x5 x6
  clear V0 V1 V2 HS2 hrd hro
  obtain ⟨w6, hw6⟩ : ∃ w6, w6 = w5 := ⟨_, rfl⟩
  subst hw6
  have T0 := hid (Below.refl w6.heap.size w6).drew
  have HST := hid (fun (u : World) (h : Below w6.heap.size w6 u) => And.intro (HCL.out u (bThen HB3.out h)) (HR.out u (bThen HB3.out h)))
  have q0 := HST.out w6.drew T0.out
  have HBT3 := hid (bThen (bThen HBV.out HB3.out) T0.out)
  have HXW := hid (Kd.below HXN.out HBT3.out)
  have HAP := hid (rAppend19_calls T gw gm D l false w6.drew (HRW.out.below HBT3.out) (HRR.out.below HBT3.out) HR16.out HTM.out x XA n xc HXW.out HLL.out)
  have HWS := hid (show w.heap.size < w6.heap.size by have := HB3.out.size; have := HVS.out; omega)
  have HRO := hid (r16ok_app (l := l) (down := false) (x := x) HR16.out)
  obtain ⟨r, hr⟩ : ∃ r, r = anApp D l false x := ⟨_, rfl⟩
  rw [← hr] at HG2 HAP HRO
  clear hr
  go_wp2_with fail
  refine wp_region_held_drew (S := fun w' => (w'.cell? ⟨gr, 0, none⟩ = some (.pointer (some ⟨gw, 0, none⟩)) ∧ w'.cell? ⟨gr, 1, none⟩ = some (.slice A q c) ∧ w'.cell? ⟨gr, 2, none⟩ = some (.int .i64 room)) ∧ w'.cell? ⟨w.heap.size, 0, none⟩ = some (.int .i64 x.kind) ∧ w'.cell? ⟨w.heap.size, 1, none⟩ = some (.int .i64 x.job) ∧ w'.cell? ⟨w.heap.size, 2, none⟩ = some (.int .i64 x.task) ∧ w'.cell? ⟨w.heap.size, 3, none⟩ = some (.int .i64 x.worker) ∧ w'.cell? ⟨w.heap.size, 4, none⟩ = some (.int .i64 x.sched) ∧ w'.cell? ⟨w.heap.size, 5, none⟩ = some (.int .i64 x.epoch) ∧ w'.cell? ⟨w.heap.size, 6, none⟩ = some (.slice XA n xc)) (by kernel_rfl) q0 (fun hHeld => ?_)
  refine anyH_take 0 (v := ?_) rfl (by kernel_rfl) (by kernel_rfl) (by kernel_rfl) (fun _ _ _ h => h) (by rfl) hHeld ?_ ?_
  rotate_left
  · (intro w hSw; (try dsimp only at hSw); go_split_ands; go_simp; try with_reducible rfl)
  (try simp only [Act.put, List.setIfInBounds_toArray, List.set_cons_zero, List.set_cons_succ])
  refine anyH_take 1 (v := ?_) rfl (by kernel_rfl) (by kernel_rfl) (by kernel_rfl) (fun _ _ _ h => h) (by rfl) hHeld ?_ ?_
  rotate_left
  · (intro w hSw; (try dsimp only at hSw); go_split_ands; go_simp; try with_reducible rfl)
  (try simp only [Act.put, List.setIfInBounds_toArray, List.set_cons_zero, List.set_cons_succ])
  refine anyH_take 2 (v := ?_) rfl (by kernel_rfl) (by kernel_rfl) (by kernel_rfl) (fun _ _ _ h => h) (by rfl) hHeld ?_ ?_
  rotate_left
  · (intro w hSw; (try dsimp only at hSw); go_split_ands; go_simp; try with_reducible rfl)
  (try simp only [Act.put, List.setIfInBounds_toArray, List.set_cons_zero, List.set_cons_succ])
  refine anyH_take 3 (v := ?_) rfl (by kernel_rfl) (by kernel_rfl) (by kernel_rfl) (fun _ _ _ h => h) (by rfl) hHeld ?_ ?_
  rotate_left
  · (intro w hSw; (try dsimp only at hSw); go_split_ands; go_simp; try with_reducible rfl)
  (try simp only [Act.put, List.setIfInBounds_toArray, List.set_cons_zero, List.set_cons_succ])
  refine anyH_take 4 (v := ?_) rfl (by kernel_rfl) (by kernel_rfl) (by kernel_rfl) (fun _ _ _ h => h) (by rfl) hHeld ?_ ?_
  rotate_left
  · (intro w hSw; (try dsimp only at hSw); go_split_ands; go_simp; try with_reducible rfl)
  (try simp only [Act.put, List.setIfInBounds_toArray, List.set_cons_zero, List.set_cons_succ])
  refine anyH_one 5 rfl (by kernel_rfl) (fun K hK => ?_)
  go_simp
  refine HAP.out.mono ?_
  rintro e w4 ⟨rfl, hp4, hq4, hm4⟩
  have HP4 := hid hp4
  have HQ4 := hid hq4
  have HM4 := hid hm4
  have q4 := HST.out w6.drew T0.out
  have HG4 := hid (show ∀ j, w4.cell? ⟨gr, j, none⟩ = w6.drew.cell? ⟨gr, j, none⟩ from fun j => World.cell?_of_block (hm4.block gr (Nat.lt_of_lt_of_le hgr HB3.out.size) (fun h => h.elim HNM.out HNW.out)))
  have HR4 := hid (show ∀ j, w4.cell? ⟨w.heap.size, j, none⟩ = w6.drew.cell? ⟨w.heap.size, j, none⟩ from fun j => World.cell?_of_block (hm4.block w.heap.size HWS.out (fun h => by have := HGM.out; have := HGW.out; omega)))
  have q5 : (w4.cell? ⟨gr, 0, none⟩ = some (.pointer (some ⟨gw, 0, none⟩)) ∧ w4.cell? ⟨gr, 1, none⟩ = some (.slice A q c) ∧ w4.cell? ⟨gr, 2, none⟩ = some (.int .i64 room)) ∧ w4.cell? ⟨w.heap.size, 0, none⟩ = some (.int .i64 x.kind) ∧ w4.cell? ⟨w.heap.size, 1, none⟩ = some (.int .i64 x.job) ∧ w4.cell? ⟨w.heap.size, 2, none⟩ = some (.int .i64 x.task) ∧ w4.cell? ⟨w.heap.size, 3, none⟩ = some (.int .i64 x.worker) ∧ w4.cell? ⟨w.heap.size, 4, none⟩ = some (.int .i64 x.sched) ∧ w4.cell? ⟨w.heap.size, 5, none⟩ = some (.int .i64 x.epoch) ∧ w4.cell? ⟨w.heap.size, 6, none⟩ = some (.slice XA n xc) := ⟨⟨(HG4.out 0).trans q4.1.1, (HG4.out 1).trans q4.1.2.1, (HG4.out 2).trans q4.1.2.2⟩, (HR4.out 0).trans q4.2.1, (HR4.out 1).trans q4.2.2.1, (HR4.out 2).trans q4.2.2.2.1, (HR4.out 3).trans q4.2.2.2.2.1, (HR4.out 4).trans q4.2.2.2.2.2.1, (HR4.out 5).trans q4.2.2.2.2.2.2.1, (HR4.out 6).trans q4.2.2.2.2.2.2.2⟩
  clear hp4 hm4 hq4
  go_simp
  refine hK.out _ _ q5 (fun hHeld => ?_)
  clear hK K
  (try simp only [Act.put, List.setIfInBounds_toArray, List.set_cons_zero, List.set_cons_succ])
  refine anyH_take 6 (v := ?_) rfl (by kernel_rfl) (by kernel_rfl) (by kernel_rfl) (fun _ _ _ h => h) (by rfl) hHeld ?_ ?_
  rotate_left
  · (intro w hSw; (try dsimp only at hSw); go_split_ands; go_simp; try with_reducible rfl)
  (try simp only [Act.put, List.setIfInBounds_toArray, List.set_cons_zero, List.set_cons_succ])
  refine wpAnyH_done (by kernel_rfl) ?_ _
  have HWL := hid (show w.heap.size ≤ w6.drew.heap.size from Nat.le_of_lt HWS.out)
  have H5W := hid (show w6.drew.heap[gr]? = some (.cells #[.pointer (some ⟨gw, 0, none⟩), .slice A q c, .int .i64 room] 62 (0, 0)) from (HBT3.out.block gr HGR.out).trans HZR.out)
  have HMW := hid (show Mod (fun k => k = gm ∨ k = gw ∨ k = gr) w w4 from (Mod.of_below HBT3.out).trans HM4.out (fun k _ h => h.elim .inl (fun h => .inr (.inl h))))
  have H54 := hid ((HM4.out.block gr (Nat.lt_of_lt_of_le hgr HB3.out.size) (fun h => h.elim HNM.out HNW.out)).trans H5W.out)
  have HGMW := hid (Nat.lt_of_lt_of_le HGM.out HWL.out)
  have HGWW := hid (Nat.lt_of_lt_of_le HGW.out HWL.out)
  obtain ⟨⟨c0, c1, c2⟩, _⟩ := q5
  have cf := (cells_of_block H54.out).2.1 1
  clear hHeld q0 q4
  by_cases h0 : r.2.2.2 = 0
  case neg =>
    have hne : (r.2.2.2 != 0) = true := by rw [bne_iff_ne]; exact h0
    have HE := hid (HG2.out.trans (by rw [if_neg h0]))
    have HLG := hid (rg_annal HP4.out HQ4.out HRO.out HM4.out HGWW.out HGMW.out HTM.out HTR.out HNM.out HNW.out H5W.out w.heap.size HWL.out HGR.out HGM.out (.slice A q c) b (Kd.entry.slice.mono (fun k h _ => ⟨.inl h.1, h.2⟩) (Kd.below HKB.out HBT3.out)))
    have HSM := hid (setCell_same H54.out 1 (.slice A q c) rfl)
    clear h0
    go_wp2
    go_ret
    rw [HE.out]
    rw [HSM.out] at HLG
    exact ⟨rfl, HLG.out, HMW.out⟩
  have HE := hid (HG2.out.trans (by rw [if_pos h0]))
  have HLG := hid (rg_annal HP4.out HQ4.out HRO.out HM4.out HGWW.out HGMW.out HTM.out HTR.out HNM.out HNW.out H5W.out w.heap.size HWL.out HGR.out HGM.out (.slice Ao (nextB b x).length co) (nextB b x) (Kd.below HO2.out (bThen HBT.out T0.out)))
  have HM5 := hid (HMW.out.setCell (p := ⟨gr, 1, none⟩) (fun _ => .inr (.inr rfl)) (.slice Ao (nextB b x).length co))
  obtain ⟨nl, hnl⟩ : ∃ nl, nl = (nextB b x).length := ⟨_, rfl⟩
  rw [← hnl] at HLG HM5 ⊢
  clear hnl
  rw [h0]
  go_wp2
  go_ret
  rw [HE.out, h0]
  exact ⟨rfl, HLG.out, HM5.out⟩
end Go.Proofs.YtkjncmmombkllaaGreat
