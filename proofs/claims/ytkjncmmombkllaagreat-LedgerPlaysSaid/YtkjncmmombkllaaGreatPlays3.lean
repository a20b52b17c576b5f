/- The law LedgerPlays. -/
import Derived.Test.YtkjncmmombkllaaGreatPlays2
import Derived.Test.YtkjncmmombkllaaGreatBase
import Derived.Deep.CutBlock
namespace Go.Proofs.YtkjncmmombkllaaGreat
open Go.RowKit Go.Lib

/-- Between the statements of a round: the act's box in block X. -/
def Mid21 (W : World) (B gd gm : Nat) (room : Int) (K : Nat) (gl gr X : Nat) (cells : Array Value) : Prop :=
  ∃ (F T : Nat → Prop) (ga gw : Nat) (D R : DiskS) (l : List RecS) (down : Bool) (b : List EntryS), Duo W B gd gm room F T gl ga gr gw D R l down b ∧ l.length ≤ 20000 + K ∧ W.heap[X]? = some (.cells cells 48 (0, 0)) ∧ ¬ F X ∧ X ≠ gm ∧ X ≠ gw ∧ X ≠ gr ∧ B ≤ X
theorem Duo.burn {W W1 : World} {B gd gm : Nat} {room : Int} {F T : Nat → Prop} {gl ga gr gw : Nat} {D R : DiskS} {l : List RecS} {down : Bool} {b : List EntryS} (h : Duo W B gd gm room F T gl ga gr gw D R l down b) (n : Int) (hl : LgAt W1 F gl ga gd (D.burn n) l down b room) (hm : Mod F W W1) :
    Duo (W1.setCell ⟨gm, 2, none⟩ (.int .i64 n)) B gd gm room F T gl ga gr gw (D.burn n) ⟨R.b, R.room, n⟩ l down b := by
  have hs := hm.size
  have hN : ∀ k, k ≠ gm → (W1.setCell ⟨gm, 2, none⟩ (.int .i64 n)).heap[k]? = W1.heap[k]? := fun k hk => Below.heap_setCell _ _ _ _ hk
  have hsz : (W1.setCell ⟨gm, 2, none⟩ (.int .i64 n)).heap.size = W1.heap.size := by simp
  obtain ⟨h1, h2, h3, h4, h5, h6, v, h7, h8⟩ := h.rl
  have h2' : W1.heap[gm]? = _ := (hm.block gm (Array.getElem?_eq_some_iff.1 h2).1 h.nm).trans h2
  refine ⟨hl.move (fun k hk hF => hN k (fun e => h.nm (by rw [← e]; exact hF))), ⟨h1.move (fun k hk hT => (hN k (fun e => h4 (by rw [← e]; exact hT))).trans (hm.block k hk (h.tb k hT).1)), ?_, h3, h4, h5, h6, v, (hN gr h6).trans ((hm.block gr (Array.getElem?_eq_some_iff.1 h7).1 h.nr).trans h7), Kd.entry.slice.move (fun k hk hl => (hN k (fun e => h4 (by rw [← e]; exact hk.1))).trans (hm.block k hl (h.tb k hk.1).1)) h8⟩, h.al.burn n, fun k hk => ⟨(h.fb k hk).1, by rw [hsz]; have := (h.fb k hk).2; omega⟩, fun k hk => ⟨(h.tb k hk).1, by rw [hsz]; have := (h.tb k hk).2; omega⟩, h.nm, h.nr, h.lo, h.hm, h.hr, h.hw, h.ok⟩
  have h9 := heap_set h2' 2 (.int .i64 n)
  show (W1.setCell ⟨gm, 2, none⟩ (.int .i64 n)).heap[gm]? = _
  simpa using h9
theorem lgFuse21_calls {w : World} {F : Nat → Prop} {gl ga gd : Nat} {D : DiskS} {l : List RecS} {down : Bool} {b : List EntryS} {room : Int} (h : LgAt w F gl ga gd D l down b room) (n : Int) (hn : n ≤ 9223372036854775807) :
    Calls Tryz.prog 15 #[.pointer (some ⟨gd, 0, none⟩), .int .i64 n] w fun e w' => e = .returned (.tuple #[]) ∧ LgAt w' F gl ga gd (D.burn n) l down b room ∧ Mod F w w' := by
  obtain ⟨FP, SB, v, h1, h2, h3, h4, h5, h6, h7⟩ := h
  refine (pairFuse_calls h1 n hn).mono ?_
  rintro e w' ⟨k1, k2, k3⟩
  exact ⟨k1, ⟨FP, SB, v, k2, h2, h3, h4, (k3.block gl (Array.getElem?_eq_some_iff.1 h5).1 h4).trans h5, Kd.entry.slice.move (fun k hk hl => k3.block k hl (h7 k hk).2.1) h6, h7⟩, k3.mono (fun k _ h => h2 k h)⟩
set_option maxHeartbeats 4000000 in
set_option maxRecDepth 100000 in
theorem ledgerPlaysLaw_calls (w : World) (r0 r1 : Int) (was : List UInt8) (WA : Option Addr) (wc : Nat) (acts : List Act21) (L : Option Addr) (e : Nat) (hwas : Kd.u8.slice.K w Any was [.slice WA was.length wc]) (hacts : Kd.act21.slice.K w Any acts [.slice L acts.length e]) (hok : ∀ y ∈ acts, okAct21 y) :
    Calls Tryz.prog 3 #[.agg #[.int .i64 r0, .int .i64 r1], .slice WA was.length wc, .slice L acts.length e] w fun e w' => e = .returned (.bool true) ∧ Below w.heap.size w w' := by
  obtain ⟨V, hV⟩ : ∃ V, V = w.alloc (.cells #[.int .i64 r0, .int .i64 r1] 22) := ⟨_, rfl⟩
  have hb0 : Below w.heap.size w V := by rw [hV]; exact bAlloc (Below.refl _ _) _
  have HVS := hid (show V.heap.size = w.heap.size + 1 by rw [hV]; simp)
  have HBV := hid hb0
  have HWAS := hid (Kd.below (Kd.u8.slice.mono (S' := fun k => k < w.heap.size) (fun k _ h => h) hwas) hb0)
  have HACT := hid (Kd.below hacts hb0)
  have HR : Hid (Kd.act21.Row V (fun k => k < w.heap.size) L acts) := by
    obtain ⟨A', n', he, _, _, h⟩ := Kd.below (Kd.act21.slice.mono (S' := fun k => k < w.heap.size) (fun k _ h => h) hacts) hb0
    cases he
    exact h
  have HRM := hid (fun (u : World) (h : Below V.heap.size V u) => show (u.cell? ⟨w.heap.size, 0, none⟩ = some (.int .i64 r0) ∧ u.cell? ⟨w.heap.size, 1, none⟩ = some (.int .i64 r1)) from by
    obtain ⟨p, _, _⟩ := cells_of_block ((h.block w.heap.size (by have := HVS.out; omega)).trans (show V.heap[w.heap.size]? = some (.cells #[.int .i64 r0, .int .i64 r1] 22 (0, 0)) by rw [hV]; exact heap_at rfl))
    exact ⟨p 0 _ rfl, p 1 _ rfl⟩)
  have HOK := hid hok
  have hEq := hV.symm
  obtain ⟨n, hn⟩ : ∃ n, n = acts.length := ⟨_, rfl⟩
  have HN := hid hn
  obtain ⟨m, hm⟩ : ∃ m, m = was.length := ⟨_, rfl⟩
  have HM := hid hm
  rw [← hn] at HACT ⊢
  rw [← hm] at HWAS ⊢
  clear hV hb0 hwas hacts hok hn hm
  obtain ⟨c0, c1⟩ := HRM.out V (Below.refl _ _)
  go_enter Tryz.func3, Tryz.ntmps3
  go_wp2_with fail
  by_cases hroom : r0 < 0 ∨ 65536 < r0
  case pos =>
    have hdec : (decide (0 ≤ r0) && decide (r0 ≤ 65536)) = false := by
      rw [Bool.and_eq_false_iff, decide_eq_false_iff_not, decide_eq_false_iff_not]; omega
    refine (diskNew_no r0 _ hroom).mono ?_
    rintro e w1 ⟨rfl, rfl⟩
    clear hroom
    go_wp2_with fail
    refine (r16New_calls r0 _).mono ?_
    rintro e w2 ⟨rfl, hb2⟩
    rw [hdec]
    have B2 := hid (bAlloc hb2 (.cells #[.string (mkB []), .int .i64 r0, .int .i64 (-1)] 28))
    clear hb2 c0 c1
    go_wp2_with fail
    refine (works21_calls _).mono ?_
    rintro e w3 ⟨rfl, hb3⟩
    have B3 := hid (bThen B2.out hb3)
    clear hb3
    go_wp2
    go_ret
    exact ⟨rfl, bThen HBV.out B3.out⟩
  have hr0 : 0 ≤ r0 := by omega
  have hr1 : r0 ≤ 65536 := by omega
  have hdec : (decide (0 ≤ r0) && decide (r0 ≤ 65536)) = true := by rw [decide_eq_true hr0, decide_eq_true hr1]; rfl
  have HRR := hid (And.intro hr0 hr1)
  clear hroom
  refine (diskNew_yes r0 _ hr0 hr1).mono ?_
  rintro e w1 ⟨rfl, hd1, hb1⟩
  have HB1 := hid hb1
  have HD1 := hid (hd1.mono (T' := fun k => V.heap.size ≤ k ∧ k < w1.heap.size) (fun k hk h => ⟨h, hk⟩))
  clear hb1 hd1 c0 c1 hr0 hr1
  obtain ⟨c0, c1⟩ := HRM.out w1 HB1.out
  go_wp2_with fail
  refine (r16New_calls r0 _).mono ?_
  rintro e w2 ⟨rfl, hb2⟩
  rw [hdec]
  obtain ⟨W2, hW2⟩ : ∃ W, W = w2.alloc (.cells #[.string (mkB []), .int .i64 r0, .int .i64 (-1)] 28) := ⟨_, rfl⟩
  have hb2' : Below w2.heap.size w2 W2 := by rw [hW2]; exact bAlloc (Below.refl _ _) _
  have HB2 := hid (bThen HB1.out (bThen hb2 hb2'))
  have HM2 : Hid (RefAt W2 w2.heap.size ⟨[], r0, -1⟩) := by rw [hW2]; exact heap_at rfl
  have HD2 := hid (HD1.out.below (bThen hb2 hb2'))
  have HS2 := hid (show w1.heap.size ≤ w2.heap.size ∧ w2.heap.size < W2.heap.size from ⟨hb2.size, by rw [hW2]; simp⟩)
  have HSV := hid HB1.out.size
  have hEq2 := hW2.symm
  clear hb2 hb2' hW2 c0 c1
  go_wp2_with fail
  have hst := small21_calls acts 40 (.slice L n e) W2 (Kd.below HACT.out HB2.out)
  refine hst.mono ?_
  clear hst
  rintro e w3 ⟨rfl, hb3⟩
  have HB3 := hid (bThen HB2.out hb3)
  have HM3 := hid (HM2.out.below hb3)
  have HD3 := hid (HD2.out.below hb3)
  have HS3 := hid hb3.size
  clear hb3 hEq2
  cases hsm : small21 acts 40
  case false =>
    go_wp2_with fail
    refine (works21_calls _).mono ?_
    rintro e w4 ⟨rfl, hb4⟩
    have HB4 := hid (bThen HB3.out hb4)
    clear hb4
    go_wp2
    go_ret
    exact ⟨rfl, bThen HBV.out HB4.out⟩
  have hn40 : n ≤ 40 := by
    have h := hsm
    unfold small21 at h
    rw [Bool.and_eq_true, decide_eq_true_iff] at h
    have := HN.out
    omega
  by_cases hwl : 2000 < m
  case pos =>
    have hwI : (2000 : Int) < (m : Int) := by omega
    clear hwl
    go_wp2_with fail
    refine (works21_calls _).mono ?_
    rintro e w4 ⟨rfl, hb4⟩
    have HB4 := hid (bThen HB3.out hb4)
    clear hb4
    go_wp2
    go_ret
    exact ⟨rfl, bThen HBV.out HB4.out⟩
  have hwI : ¬ (2000 : Int) < (m : Int) := by omega
  have hm2000 : m ≤ 2000 := by omega
  clear hwl hsm
  have HKW := hid (Kd.below HWAS.out HB3.out)
  go_wp2_with fail
  refine (diskAppend_calls _ V.heap.size _ was (.slice WA m wc) w3 HD3.out (Kd.mono _ (fun k (hk : k < w.heap.size) _ h => by have := h.1; have := HVS.out; omega) HKW.out)).mono ?_
  rintro e w4 ⟨rfl, hd4, hm4⟩
  have HD4 := hid (hd4.mono (T' := fun k => (V.heap.size ≤ k ∧ k < w1.heap.size) ∨ w3.heap.size ≤ k ∧ k < w4.heap.size) (fun k hk h => h.elim .inl (fun h => .inr ⟨h, hk⟩)))
  have HS4 := hid hm4.size
  have HB4 := hid (show Below V.heap.size V w4 from HB3.out.trans (hm4.below (fun k _ h => h.1) HB3.out.size))
  have HM4 := hid (HM3.out.mod hm4 (fun h => by have := h.2; have := HS2.out; omega))
  have HKW4 := hid (Kd.below HWAS.out HB4.out)
  have hcv : (convert 23 9 (.slice WA m wc)).run Tryz.prog w4 = .ok (.string (mkB was)) w4 := conv_u8 HKW4.out
  clear hd4 hm4
  have HA0 := hid (show Alike ⟨[], r0, -1⟩ ⟨[], r0, -1⟩ from ⟨rfl, rfl, by simp⟩)
  have HR0 := hid (show R16ok ⟨[], r0, -1⟩ from ⟨HRR.out.1, HRR.out.2, by have := HRR.out.1; simpa using this⟩)
  go_wp2_with fail
  refine (r16Append_calls w2.heap.size ⟨[], r0, -1⟩ was w4 HM4.out HR0.out (by have := HM.out; omega)).mono ?_
  rintro e w5 ⟨rfl, hr5, hm5⟩
  have HB5 := hid (show Below V.heap.size V w5 from HB4.out.trans (hm5.below (fun k _ h => by have := HS2.out; have := HSV.out; omega) HB4.out.size))
  have HDK := hid (show Dks w5 V.heap.size V.heap.size w2.heap.size (fun k => (V.heap.size ≤ k ∧ k < w1.heap.size) ∨ w3.heap.size ≤ k ∧ k < w4.heap.size) ((⟨[], r0, -1⟩ : DiskS).append was).1 ((⟨[], r0, -1⟩ : DiskS).append was).1 from by
    have := HS2.out
    have := HSV.out
    have := HS3.out
    have := HS4.out
    have s5 := hm5.size
    exact ⟨HD4.out.move (fun k hk h => hm5.block k hk (fun e => by omega)), hr5, (HA0.out.app was).2, fun k hk => by omega, fun h => by omega, by omega⟩)
  have HDO := hid HDK.out.pd.1
  clear hr5 hm5 hcv
  obtain ⟨D0, hD0⟩ : ∃ D0, D0 = ((⟨[], r0, -1⟩ : DiskS).append was).1 := ⟨_, rfl⟩
  rw [← hD0] at HDK HDO
  clear hD0
  obtain ⟨c0, c1⟩ := HRM.out w5 HB5.out
  go_wp2_with fail
  refine (lopen_any HDK.out r1).mono ?_
  rintro e w6 ⟨vl, rfl, ho6, hm6⟩
  have HO6 := hid ho6
  have HM6 := hid hm6
  have HB6 := hid (show Below V.heap.size V w6 from HB5.out.trans (hm6.below (fun k _ h => (HDK.out.tb k h).1) HB5.out.size))
  have HRD6 := hid (HDK.out.rd.mod hm6 HDK.out.nm)
  clear ho6 hm6 c0 c1
  obtain ⟨c0, c1⟩ := HRM.out w6 HB6.out
  go_wp2_with fail
  refine (ropen_any HRD6.out (HDK.out.al.ok HDO.out) r1).mono ?_
  rintro e w7 ⟨vw, rfl, ho7, hm7⟩
  have HST := hid (lst_open (K := 0) HDK.out HDO.out HO6.out HM6.out ho7 hm7)
  have HB7 := hid (show Below V.heap.size V w7 from HB6.out.trans (hm7.below (fun k _ h => by have := HS2.out; have := HSV.out; omega) HB6.out.size))
  obtain ⟨oc, hoc⟩ : ∃ oc, oc = outC r1 D0.b := ⟨_, rfl⟩
  rw [← hoc] at HST ⊢
  have HST2 := hid HST.out.2
  clear ho7 hm7 c0 c1 hoc HST
  go_wp2
  go_loopw [10, 11, 12, 13, 14] (fun vl ve vw vf i wr => ∃ k : Nat, k ≤ n ∧ i = .int .i64 k ∧ Hid (LSt wr V.heap.size V.heap.size w2.heap.size r1 k vl ve vw vf) ∧ Hid (Below V.heap.size V wr)) (fun _ _ _ _ i _ => n + 1 - (intOf i).toNat)
  case atStart => exact ⟨0, by omega, rfl, HST2, HB7⟩
  case round =>
    obtain ⟨k, hk, rfl, HS, HB⟩ := hrel
    have hkI : (k : Int) ≤ (n : Int) := by omega
    have hk0 : (0 : Int) ≤ (k : Int) := by omega
    have U0 := hid (Below.refl wr.heap.size wr).drew
    rcases HS.out with ⟨F, T, gl, ga, gr, gw, D, R, l, down, b, rfl, rfl, rfl, rfl, hduo, hlen⟩ | ⟨TD, D, R, c, hc, rfl, rfl, rfl, rfl, hdks⟩
    case inr =>
      as_aux_lemma =>
        have hc0 : (c == (0 : Int)) = false := by rw [beq_eq_false_iff_ne]; exact hc
        have hc1 : (c != (0 : Int)) = true := by rw [bne_iff_ne]; exact hc
        have hcc : (c != c) = false := by simp
        have HDK2 := hid hdks
        obtain ⟨r0c, _, _, _, _⟩ := hdks.rd.cells
        have HRC := hid (fun (u : World) (h : Below wr.heap.size wr u) => show (u.cell? ⟨w2.heap.size, 0, none⟩ = some (.string (mkB R.b))) from cell_keep h r0c)
        have q0 := HRC.out wr.drew U0.out
        clear hdks hc r0c HS
        go_wp2_with fail
        have HAL := hid HDK2.out.al
        refine wp_region_held_drew (S := fun w' => w'.cell? ⟨w2.heap.size, 0, none⟩ = some (.string (mkB R.b))) (by kernel_rfl) q0 (fun hHeld => ?_)
        refine anyH_take 0 (v := ?_) rfl (by kernel_rfl) (by kernel_rfl) (by kernel_rfl) (fun _ _ _ h => h) (by rfl) hHeld ?_ ?_
        rotate_left
        · (intro w hSw; (try dsimp only at hSw); go_split_ands; go_simp; try with_reducible rfl)
        (try simp only [Act.put, List.setIfInBounds_toArray, List.set_cons_zero, List.set_cons_succ])
        refine anyH_take 1 (v := ?_) rfl (by kernel_rfl) (by kernel_rfl) (by kernel_rfl) (fun _ _ _ h => h) (by rfl) hHeld ?_ ?_
        rotate_left
        · (intro w hSw; (try dsimp only at hSw); go_split_ands; go_simp; try with_reducible rfl)
        (try simp only [Act.put, List.setIfInBounds_toArray, List.set_cons_zero, List.set_cons_succ])
        refine anyH_take 2 (v := ?_) rfl (by kernel_rfl) (by kernel_rfl) (by kernel_rfl) (fun _ _ _ h => h) (by rfl) hHeld ?_ ?_
        rotate_left
        · (intro w hSw; (try dsimp only at hSw); go_split_ands; go_simp; try with_reducible rfl)
        (try simp only [Act.put, List.setIfInBounds_toArray, List.set_cons_zero, List.set_cons_succ])
        refine anyH_take 3 (v := ?_) rfl (by kernel_rfl) (by kernel_rfl) (by kernel_rfl) (fun _ _ _ h => h) (by rfl) hHeld ?_ ?_
        rotate_left
        · (intro w hSw; (try dsimp only at hSw); go_split_ands; go_simp; try with_reducible rfl)
        (try simp only [Act.put, List.setIfInBounds_toArray, List.set_cons_zero, List.set_cons_succ])
        refine anyH_take 4 (v := ?_) rfl (by kernel_rfl) (by kernel_rfl) (by kernel_rfl) (fun _ _ _ h => h) (by rfl) hHeld ?_ ?_
        rotate_left
        · (intro w hSw; (try dsimp only at hSw); go_split_ands; go_simp; try with_reducible rfl)
        (try simp only [Act.put, List.setIfInBounds_toArray, List.set_cons_zero, List.set_cons_succ])
        refine anyH_take 5 (v := ?_) rfl (by kernel_rfl) (by kernel_rfl) (by kernel_rfl) (fun _ _ _ h => h) (by rfl) hHeld ?_ ?_
        rotate_left
        · (intro w hSw; (try dsimp only at hSw); go_split_ands; go_simp; try with_reducible rfl)
        (try simp only [Act.put, List.setIfInBounds_toArray, List.set_cons_zero, List.set_cons_succ])
        refine anyH_take 6 (v := ?_) rfl (by kernel_rfl) (by kernel_rfl) (by kernel_rfl) (fun _ _ _ h => h) (by rfl) hHeld ?_ ?_
        rotate_left
        · (intro w hSw; (try dsimp only at hSw); go_split_ands; go_simp; try with_reducible rfl)
        (try simp only [Act.put, List.setIfInBounds_toArray, List.set_cons_zero, List.set_cons_succ])
        refine anyH_take 7 (v := ?_) rfl (by kernel_rfl) (by kernel_rfl) (by kernel_rfl) (fun _ _ _ h => h) (by rfl) hHeld ?_ ?_
        rotate_left
        · (intro w hSw; (try dsimp only at hSw); go_split_ands; go_simp; try with_reducible rfl)
        (try simp only [Act.put, List.setIfInBounds_toArray, List.set_cons_zero, List.set_cons_succ])
        refine anyH_take 8 (v := ?_) rfl (by kernel_rfl) (by kernel_rfl) (by kernel_rfl) (fun _ _ _ h => h) (by rfl) hHeld ?_ ?_
        rotate_left
        · (intro w hSw; (try dsimp only at hSw); go_split_ands; go_simp; try with_reducible rfl)
        (try simp only [Act.put, List.setIfInBounds_toArray, List.set_cons_zero, List.set_cons_succ])
        refine anyH_take 9 (v := ?_) rfl (by kernel_rfl) (by kernel_rfl) (by kernel_rfl) (fun _ _ _ h => h) (by rfl) hHeld ?_ ?_
        rotate_left
        · (intro w hSw; (try dsimp only at hSw); go_split_ands; go_simp; try with_reducible rfl)
        (try simp only [Act.put, List.setIfInBounds_toArray, List.set_cons_zero, List.set_cons_succ])
        refine anyH_take 10 (v := ?_) rfl (by kernel_rfl) (by kernel_rfl) (by kernel_rfl) (fun _ _ _ h => h) (by rfl) hHeld ?_ ?_
        rotate_left
        · (intro w hSw; (try dsimp only at hSw); go_split_ands; go_simp; try with_reducible rfl)
        (try simp only [Act.put, List.setIfInBounds_toArray, List.set_cons_zero, List.set_cons_succ])
        refine anyH_take 11 (v := ?_) rfl (by kernel_rfl) (by kernel_rfl) (by kernel_rfl) (fun _ _ _ h => h) (by rfl) hHeld ?_ ?_
        rotate_left
        · (intro w hSw; (try dsimp only at hSw); go_split_ands; go_simp; try with_reducible rfl)
        (try simp only [Act.put, List.setIfInBounds_toArray, List.set_cons_zero, List.set_cons_succ])
        refine anyH_take 14 (v := ?_) rfl (by kernel_rfl) (by kernel_rfl) (by kernel_rfl) (fun _ _ _ h => h) (by rfl) hHeld ?_ ?_
        rotate_left
        · (intro w hSw; (try dsimp only at hSw); go_split_ands; go_simp; try with_reducible rfl)
        (try simp only [Act.put, List.setIfInBounds_toArray, List.set_cons_zero, List.set_cons_succ])
        refine anyH_take 15 (v := ?_) rfl (by kernel_rfl) (by kernel_rfl) (by kernel_rfl) (fun _ _ _ h => h) (by rfl) hHeld ?_ ?_
        rotate_left
        · (intro w hSw; (try dsimp only at hSw); go_split_ands; go_simp; try with_reducible rfl)
        (try simp only [Act.put, List.setIfInBounds_toArray, List.set_cons_zero, List.set_cons_succ])
        refine anyH_one 12 rfl (by kernel_rfl) (fun K hK => ?_)
        go_simp
        refine (diskBytes_calls _ V.heap.size D wr.drew (HDK2.out.pd.below U0.out)).mono ?_
        rintro e_ u1 ⟨A8, c8, rfl, _, hO8, hb4⟩
        have U1 := hid (bThen U0.out hb4)
        rw [HAL.out.1] at hO8 ⊢
        have HCV := hid (show ∀ W, Below u1.heap.size u1 W → (convert 23 9 (.slice (some ⟨A8, 0, none⟩) R.b.length c8)).run Tryz.prog W = .ok (.string (mkB R.b)) W from fun W hW => conv_u8 (Kd.any (Own.K (hO8.below hW))))
        clear hO8 hb4
        go_simp
        refine hK.out _ _ (HRC.out _ U1.out) (fun hHeld => ?_)
        clear hK K
        (try simp only [Act.put, List.setIfInBounds_toArray, List.set_cons_zero, List.set_cons_succ])
        refine wpAnyH_more (S1 := fun w' => (w'.cell? ⟨w2.heap.size, 0, none⟩ = some (.string (mkB R.b))) ∧ (convert 23 9 (.slice (some ⟨A8, 0, none⟩) R.b.length c8)).run Tryz.prog w' = .ok (.string (mkB R.b)) w') (fun _ h => h.1) _ _ _ _ ?_
        have hHeld := And.intro hHeld (HCV.out _ (Below.refl _ _))
        refine anyH_take 13 (v := ?_) rfl (by kernel_rfl) (by kernel_rfl) (by kernel_rfl) (fun _ _ _ h => h) (by rfl) hHeld ?_ ?_
        rotate_left
        · (intro w hSw; (try dsimp only at hSw); go_split_ands; go_simp; try with_reducible rfl)
        (try simp only [Act.put, List.setIfInBounds_toArray, List.set_cons_zero, List.set_cons_succ])
        refine anyH_take 16 (v := ?_) rfl (by kernel_rfl) (by kernel_rfl) (by kernel_rfl) (fun _ _ _ h => h) (by rfl) hHeld ?_ ?_
        rotate_left
        · (intro w hSw; (try dsimp only at hSw); go_split_ands; go_simp; try with_reducible rfl)
        (try simp only [Act.put, List.setIfInBounds_toArray, List.set_cons_zero, List.set_cons_succ])
        refine anyH_take 17 (v := ?_) rfl (by kernel_rfl) (by kernel_rfl) (by kernel_rfl) (fun _ _ _ h => h) (by rfl) hHeld ?_ ?_
        rotate_left
        · (intro w hSw; (try dsimp only at hSw); go_split_ands; go_simp; try with_reducible rfl)
        (try simp only [Act.put, List.setIfInBounds_toArray, List.set_cons_zero, List.set_cons_succ])
        refine wpAnyH_done (by kernel_rfl) ?_ _
        have HB1 := hid (bThen HB.out U1.out)
        clear hHeld q0
        go_wp2_with fail
        refine (lopen_nil 9 _).mono ?_
        rintro e_ w_ ⟨rfl, rfl⟩
        go_wp2_with fail
        refine (lput_nil ⟨0, 0, 0, 0, 0, 0, []⟩ none 0 _).mono ?_
        rintro e_ z1 ⟨rfl, hz1⟩
        have Z1 := hid (bThen HB1.out hz1)
        clear hz1
        go_wp2_with fail
        refine (lbook_nil _).mono ?_
        rintro e_ z2 ⟨rfl, hz2⟩
        have Z2 := hid (bThen Z1.out hz2)
        clear hz2
        go_wp2_with fail
        refine (lkept_nil _).mono ?_
        rintro e_ z3 ⟨rfl, hz3⟩
        have Z3 := hid (bThen Z2.out hz3)
        clear hz3
        go_wp2_with fail
        refine (llen_nil _).mono ?_
        rintro e_ z4 ⟨rfl, hz4⟩
        have Z4 := hid (bThen Z3.out hz4)
        clear hz4
        go_wp2_with fail
        refine (ldown_nil _).mono ?_
        rintro e_ z5 ⟨rfl, hz5⟩
        have Z5 := hid (bThen Z4.out hz5)
        clear hz5
        go_wp2_with fail
        refine (works21_calls _).mono ?_
        rintro e_ z6 ⟨rfl, hz6⟩
        have Z6 := hid (bThen Z5.out hz6)
        clear hz6
        go_wp2
        go_ret
        exact ⟨rfl, bThen HBV.out Z6.out⟩
    have HDUO := hid hduo
    have HLEN := hid hlen
    obtain ⟨TD, hdk, _⟩ := hduo.dks
    have HDK2 := hid hdk
    have HAL := hid hdk.al
    obtain ⟨r0c, _, _, _, _⟩ := hdk.rd.cells
    have HRC := hid (fun (u : World) (h : Below wr.heap.size wr u) => show (u.cell? ⟨w2.heap.size, 0, none⟩ = some (.string (mkB R.b))) from cell_keep h r0c)
    have q0 := HRC.out wr.drew U0.out
    clear hduo hlen hdk r0c HS
    go_wp2_with fail
    refine wp_region_held_drew (S := fun w' => w'.cell? ⟨w2.heap.size, 0, none⟩ = some (.string (mkB R.b))) (by kernel_rfl) q0 (fun hHeld => ?_)
    refine anyH_take 0 (v := ?_) rfl (by kernel_rfl) (by kernel_rfl) (by kernel_rfl) (fun _ _ _ h => h) (by rfl) hHeld ?_ ?_
    rotate_left
    · (intro w hSw; (try dsimp only at hSw); go_split_ands; go_simp; try with_reducible rfl)
    (try simp only [Act.put, List.setIfInBounds_toArray, List.set_cons_zero, List.set_cons_succ])
    refine anyH_take 1 (v := ?_) rfl (by kernel_rfl) (by kernel_rfl) (by kernel_rfl) (fun _ _ _ h => h) (by rfl) hHeld ?_ ?_
    rotate_left
    · (intro w hSw; (try dsimp only at hSw); go_split_ands; go_simp; try with_reducible rfl)
    (try simp only [Act.put, List.setIfInBounds_toArray, List.set_cons_zero, List.set_cons_succ])
    refine anyH_take 2 (v := ?_) rfl (by kernel_rfl) (by kernel_rfl) (by kernel_rfl) (fun _ _ _ h => h) (by rfl) hHeld ?_ ?_
    rotate_left
    · (intro w hSw; (try dsimp only at hSw); go_split_ands; go_simp; try with_reducible rfl)
    (try simp only [Act.put, List.setIfInBounds_toArray, List.set_cons_zero, List.set_cons_succ])
    refine anyH_take 3 (v := ?_) rfl (by kernel_rfl) (by kernel_rfl) (by kernel_rfl) (fun _ _ _ h => h) (by rfl) hHeld ?_ ?_
    rotate_left
    · (intro w hSw; (try dsimp only at hSw); go_split_ands; go_simp; try with_reducible rfl)
    (try simp only [Act.put, List.setIfInBounds_toArray, List.set_cons_zero, List.set_cons_succ])
    refine anyH_take 4 (v := ?_) rfl (by kernel_rfl) (by kernel_rfl) (by kernel_rfl) (fun _ _ _ h => h) (by rfl) hHeld ?_ ?_
    rotate_left
    · (intro w hSw; (try dsimp only at hSw); go_split_ands; go_simp; try with_reducible rfl)
    (try simp only [Act.put, List.setIfInBounds_toArray, List.set_cons_zero, List.set_cons_succ])
    refine anyH_take 5 (v := ?_) rfl (by kernel_rfl) (by kernel_rfl) (by kernel_rfl) (fun _ _ _ h => h) (by rfl) hHeld ?_ ?_
    rotate_left
    · (intro w hSw; (try dsimp only at hSw); go_split_ands; go_simp; try with_reducible rfl)
    (try simp only [Act.put, List.setIfInBounds_toArray, List.set_cons_zero, List.set_cons_succ])
    refine anyH_take 6 (v := ?_) rfl (by kernel_rfl) (by kernel_rfl) (by kernel_rfl) (fun _ _ _ h => h) (by rfl) hHeld ?_ ?_
    rotate_left
    · (intro w hSw; (try dsimp only at hSw); go_split_ands; go_simp; try with_reducible rfl)
    (try simp only [Act.put, List.setIfInBounds_toArray, List.set_cons_zero, List.set_cons_succ])
    refine anyH_take 7 (v := ?_) rfl (by kernel_rfl) (by kernel_rfl) (by kernel_rfl) (fun _ _ _ h => h) (by rfl) hHeld ?_ ?_
    rotate_left
    · (intro w hSw; (try dsimp only at hSw); go_split_ands; go_simp; try with_reducible rfl)
    (try simp only [Act.put, List.setIfInBounds_toArray, List.set_cons_zero, List.set_cons_succ])
    refine anyH_take 8 (v := ?_) rfl (by kernel_rfl) (by kernel_rfl) (by kernel_rfl) (fun _ _ _ h => h) (by rfl) hHeld ?_ ?_
    rotate_left
    · (intro w hSw; (try dsimp only at hSw); go_split_ands; go_simp; try with_reducible rfl)
    (try simp only [Act.put, List.setIfInBounds_toArray, List.set_cons_zero, List.set_cons_succ])
    refine anyH_take 9 (v := ?_) rfl (by kernel_rfl) (by kernel_rfl) (by kernel_rfl) (fun _ _ _ h => h) (by rfl) hHeld ?_ ?_
    rotate_left
    · (intro w hSw; (try dsimp only at hSw); go_split_ands; go_simp; try with_reducible rfl)
    (try simp only [Act.put, List.setIfInBounds_toArray, List.set_cons_zero, List.set_cons_succ])
    refine anyH_take 10 (v := ?_) rfl (by kernel_rfl) (by kernel_rfl) (by kernel_rfl) (fun _ _ _ h => h) (by rfl) hHeld ?_ ?_
    rotate_left
    · (intro w hSw; (try dsimp only at hSw); go_split_ands; go_simp; try with_reducible rfl)
    (try simp only [Act.put, List.setIfInBounds_toArray, List.set_cons_zero, List.set_cons_succ])
    refine anyH_take 11 (v := ?_) rfl (by kernel_rfl) (by kernel_rfl) (by kernel_rfl) (fun _ _ _ h => h) (by rfl) hHeld ?_ ?_
    rotate_left
    · (intro w hSw; (try dsimp only at hSw); go_split_ands; go_simp; try with_reducible rfl)
    (try simp only [Act.put, List.setIfInBounds_toArray, List.set_cons_zero, List.set_cons_succ])
    refine anyH_take 14 (v := ?_) rfl (by kernel_rfl) (by kernel_rfl) (by kernel_rfl) (fun _ _ _ h => h) (by rfl) hHeld ?_ ?_
    rotate_left
    · (intro w hSw; (try dsimp only at hSw); go_split_ands; go_simp; try with_reducible rfl)
    (try simp only [Act.put, List.setIfInBounds_toArray, List.set_cons_zero, List.set_cons_succ])
    refine anyH_take 15 (v := ?_) rfl (by kernel_rfl) (by kernel_rfl) (by kernel_rfl) (fun _ _ _ h => h) (by rfl) hHeld ?_ ?_
    rotate_left
    · (intro w hSw; (try dsimp only at hSw); go_split_ands; go_simp; try with_reducible rfl)
    (try simp only [Act.put, List.setIfInBounds_toArray, List.set_cons_zero, List.set_cons_succ])
    refine anyH_one 12 rfl (by kernel_rfl) (fun K hK => ?_)
    go_simp
    refine (diskBytes_calls _ V.heap.size D wr.drew (HDK2.out.pd.below U0.out)).mono ?_
    rintro e_ u1 ⟨A8, c8, rfl, _, hO8, hb4⟩
    have U1 := hid (bThen U0.out hb4)
    rw [HAL.out.1] at hO8 ⊢
    have HCV := hid (show ∀ W, Below u1.heap.size u1 W → (convert 23 9 (.slice (some ⟨A8, 0, none⟩) R.b.length c8)).run Tryz.prog W = .ok (.string (mkB R.b)) W from fun W hW => conv_u8 (Kd.any (Own.K (hO8.below hW))))
    clear hO8 hb4
    go_simp
    refine hK.out _ _ (HRC.out _ U1.out) (fun hHeld => ?_)
    clear hK K
    (try simp only [Act.put, List.setIfInBounds_toArray, List.set_cons_zero, List.set_cons_succ])
    refine wpAnyH_more (S1 := fun w' => (w'.cell? ⟨w2.heap.size, 0, none⟩ = some (.string (mkB R.b))) ∧ (convert 23 9 (.slice (some ⟨A8, 0, none⟩) R.b.length c8)).run Tryz.prog w' = .ok (.string (mkB R.b)) w') (fun _ h => h.1) _ _ _ _ ?_
    have hHeld := And.intro hHeld (HCV.out _ (Below.refl _ _))
    refine anyH_take 13 (v := ?_) rfl (by kernel_rfl) (by kernel_rfl) (by kernel_rfl) (fun _ _ _ h => h) (by rfl) hHeld ?_ ?_
    rotate_left
    · (intro w hSw; (try dsimp only at hSw); go_split_ands; go_simp; try with_reducible rfl)
    (try simp only [Act.put, List.setIfInBounds_toArray, List.set_cons_zero, List.set_cons_succ])
    refine anyH_take 16 (v := ?_) rfl (by kernel_rfl) (by kernel_rfl) (by kernel_rfl) (fun _ _ _ h => h) (by rfl) hHeld ?_ ?_
    rotate_left
    · (intro w hSw; (try dsimp only at hSw); go_split_ands; go_simp; try with_reducible rfl)
    (try simp only [Act.put, List.setIfInBounds_toArray, List.set_cons_zero, List.set_cons_succ])
    refine anyH_take 17 (v := ?_) rfl (by kernel_rfl) (by kernel_rfl) (by kernel_rfl) (fun _ _ _ h => h) (by rfl) hHeld ?_ ?_
    rotate_left
    · (intro w hSw; (try dsimp only at hSw); go_split_ands; go_simp; try with_reducible rfl)
    (try simp only [Act.put, List.setIfInBounds_toArray, List.set_cons_zero, List.set_cons_succ])
    refine wpAnyH_done (by kernel_rfl) ?_ _
    have HB1 := hid (bThen HB.out U1.out)
    have HDU1 := hid (HDUO.out.below U1.out)
    clear hHeld q0 HRC HDK2 HCV
    by_cases hkn : k = n
    · skip
      as_aux_lemma =>
        have hknI : ((k : Int) == (n : Int)) = true := by rw [hkn]; simp
        clear hkn
        go_wp2_with fail
        refine (lopen_nil 9 _).mono ?_
        rintro e_ w_ ⟨rfl, rfl⟩
        go_wp2_with fail
        refine (lput_nil ⟨0, 0, 0, 0, 0, 0, []⟩ none 0 _).mono ?_
        rintro e_ z1 ⟨rfl, hz1⟩
        have Z1 := hid (bThen HB1.out hz1)
        clear hz1
        go_wp2_with fail
        refine (lbook_nil _).mono ?_
        rintro e_ z2 ⟨rfl, hz2⟩
        have Z2 := hid (bThen Z1.out hz2)
        clear hz2
        go_wp2_with fail
        refine (lkept_nil _).mono ?_
        rintro e_ z3 ⟨rfl, hz3⟩
        have Z3 := hid (bThen Z2.out hz3)
        clear hz3
        go_wp2_with fail
        refine (llen_nil _).mono ?_
        rintro e_ z4 ⟨rfl, hz4⟩
        have Z4 := hid (bThen Z3.out hz4)
        clear hz4
        go_wp2_with fail
        refine (ldown_nil _).mono ?_
        rintro e_ z5 ⟨rfl, hz5⟩
        have Z5 := hid (bThen Z4.out hz5)
        clear hz5
        go_wp2_with fail
        refine (works21_calls _).mono ?_
        rintro e_ z6 ⟨rfl, hz6⟩
        have Z6 := hid (bThen Z5.out hz6)
        clear hz6
        go_wp2
        go_ret
        exact ⟨rfl, bThen HBV.out Z6.out⟩
    have hknI : ((k : Int) == (n : Int)) = false := by rw [beq_eq_false_iff_ne]; omega
    have hltI : (k : Int) < (n : Int) := by omega
    have hkL : k < acts.length := by have := HN.out; omega
    have hw1 : IntKind.i64.wrap ((k : Int) + 1) = (k : Int) + 1 := IntWalk.i64_in _ (by omega)
    obtain ⟨a, y, XB, xc, rfl, hy, y0, y1, y2, y3, y4, y5, y6, y7, y8, hKx⟩ := at_act21 (HR.out.below HB1.out) k hkL
    have HY := hid (HOK.out y (List.mem_of_getElem? hy))
    have HKX := hid hKx
    obtain ⟨Vx, hVx⟩ : ∃ Vx, Vx = u1.alloc (.cells #[.int .i64 y.op, .int .i64 y.n, .int .i64 y.x.kind, .int .i64 y.x.job, .int .i64 y.x.task, .int .i64 y.x.worker, .int .i64 y.x.sched, .int .i64 y.x.epoch, .slice XB y.x.needs.length xc] 48) := ⟨_, rfl⟩
    have hbx : Below u1.heap.size u1 Vx := by rw [hVx]; exact bAlloc (Below.refl _ _) _
    have HZX := hid (show Vx.heap[u1.heap.size]? = some (.cells #[.int .i64 y.op, .int .i64 y.n, .int .i64 y.x.kind, .int .i64 y.x.job, .int .i64 y.x.task, .int .i64 y.x.worker, .int .i64 y.x.sched, .int .i64 y.x.epoch, .slice XB y.x.needs.length xc] 48 (0, 0)) by rw [hVx]; exact heap_at rfl)
    have HSX := hid (show Vx.heap.size = u1.heap.size + 1 by rw [hVx]; simp)
    have HBX := hid (bThen HB1.out hbx)
    have HDUX := hid (HDU1.out.below hbx)
    have HSM := hid HDU1.out.small
    have HFX := hid (show ¬ F u1.heap.size from fun h => by have := (HDU1.out.fb _ h).2; omega)
    have HKX2 := hid (Kd.below HKX.out hbx)
    have hEqx := hVx.symm
    clear hy hKx hVx hbx
    go_upto_region 16 with fail
    clear hEqx y0 y1 y2 y3 y4 y5 y6 y7 y8
    obtain ⟨p0, _, _⟩ := cells_of_block HZX.out
    have x0 := p0 0 _ rfl
    clear p0
    go_cut [113] from 64 to 214 (fun g wx => g = .bool false ∧ Hid (Mid21 wx V.heap.size V.heap.size w2.heap.size r1 (k + 1) gl gr u1.heap.size #[.int .i64 y.op, .int .i64 y.n, .int .i64 y.x.kind, .int .i64 y.x.job, .int .i64 y.x.task, .int .i64 y.x.worker, .int .i64 y.x.sched, .int .i64 y.x.epoch, .slice XB y.x.needs.length xc]) ∧ Hid (Below V.heap.size V wx))
    case first =>
      as_aux_lemma =>
        have V0 := hid (Below.refl Vx.heap.size Vx).drew
        by_cases hop : y.op = 0
        case neg =>
          have e0 : (y.op == (0 : Int)) = false := by rw [beq_eq_false_iff_ne]; exact hop
          have q0 : (Vx.drew.cell? ⟨u1.heap.size, 0, none⟩ = some (.int .i64 y.op)) := x0
          clear hop
          go_wp2_with fail
          refine wp_region_held_drew (S := fun w' => w'.cell? ⟨u1.heap.size, 0, none⟩ = some (.int .i64 y.op)) (by kernel_rfl) q0 (fun hHeld => ?_)
          refine anyH_take 0 (v := ?_) rfl (by kernel_rfl) (by kernel_rfl) (by kernel_rfl) (fun _ _ _ h => h) (by rfl) hHeld ?_ ?_
          rotate_left
          · (intro w hSw; (try dsimp only at hSw); go_split_ands; go_simp; try with_reducible rfl)
          (try simp only [Act.put, List.setIfInBounds_toArray, List.set_cons_zero, List.set_cons_succ])
          refine anyH_take 1 (v := ?_) rfl (by kernel_rfl) (by kernel_rfl) (by kernel_rfl) (fun _ _ _ h => h) (by rfl) hHeld ?_ ?_
          rotate_left
          · (intro w hSw; (try dsimp only at hSw); go_split_ands; go_simp; try with_reducible rfl)
          (try simp only [Act.put, List.setIfInBounds_toArray, List.set_cons_zero, List.set_cons_succ])
          refine anyH_take 2 (v := ?_) rfl (by kernel_rfl) (by kernel_rfl) (by kernel_rfl) (fun _ _ _ h => h) (by rfl) hHeld ?_ ?_
          rotate_left
          · (intro w hSw; (try dsimp only at hSw); go_split_ands; go_simp; try with_reducible rfl)
          (try simp only [Act.put, List.setIfInBounds_toArray, List.set_cons_zero, List.set_cons_succ])
          refine anyH_take 3 (v := ?_) rfl (by kernel_rfl) (by kernel_rfl) (by kernel_rfl) (fun _ _ _ h => h) (by rfl) hHeld ?_ ?_
          rotate_left
          · (intro w hSw; (try dsimp only at hSw); go_split_ands; go_simp; try with_reducible rfl)
          (try simp only [Act.put, List.setIfInBounds_toArray, List.set_cons_zero, List.set_cons_succ])
          refine anyH_skip 4 rfl (by kernel_rfl) (by kernel_rfl) (by kernel_rfl) (fun _ _ _ h => h) (by rfl) hHeld ?_
          (try simp only [Act.put, List.setIfInBounds_toArray, List.set_cons_zero, List.set_cons_succ])
          refine anyH_skip 5 rfl (by kernel_rfl) (by kernel_rfl) (by kernel_rfl) (fun _ _ _ h => h) (by rfl) hHeld ?_
          (try simp only [Act.put, List.setIfInBounds_toArray, List.set_cons_zero, List.set_cons_succ])
          refine anyH_skip 6 rfl (by kernel_rfl) (by kernel_rfl) (by kernel_rfl) (fun _ _ _ h => h) (by rfl) hHeld ?_
          (try simp only [Act.put, List.setIfInBounds_toArray, List.set_cons_zero, List.set_cons_succ])
          refine anyH_skip 7 rfl (by kernel_rfl) (by kernel_rfl) (by kernel_rfl) (fun _ _ _ h => h) (by rfl) hHeld ?_
          (try simp only [Act.put, List.setIfInBounds_toArray, List.set_cons_zero, List.set_cons_succ])
          refine anyH_skip 8 rfl (by kernel_rfl) (by kernel_rfl) (by kernel_rfl) (fun _ _ _ h => h) (by rfl) hHeld ?_
          (try simp only [Act.put, List.setIfInBounds_toArray, List.set_cons_zero, List.set_cons_succ])
          refine anyH_skip 9 rfl (by kernel_rfl) (by kernel_rfl) (by kernel_rfl) (fun _ _ _ h => h) (by rfl) hHeld ?_
          (try simp only [Act.put, List.setIfInBounds_toArray, List.set_cons_zero, List.set_cons_succ])
          refine anyH_skip 10 rfl (by kernel_rfl) (by kernel_rfl) (by kernel_rfl) (fun _ _ _ h => h) (by rfl) hHeld ?_
          (try simp only [Act.put, List.setIfInBounds_toArray, List.set_cons_zero, List.set_cons_succ])
          refine anyH_skip 11 rfl (by kernel_rfl) (by kernel_rfl) (by kernel_rfl) (fun _ _ _ h => h) (by rfl) hHeld ?_
          (try simp only [Act.put, List.setIfInBounds_toArray, List.set_cons_zero, List.set_cons_succ])
          refine anyH_skip 12 rfl (by kernel_rfl) (by kernel_rfl) (by kernel_rfl) (fun _ _ _ h => h) (by rfl) hHeld ?_
          (try simp only [Act.put, List.setIfInBounds_toArray, List.set_cons_zero, List.set_cons_succ])
          refine anyH_take 13 (v := ?_) rfl (by kernel_rfl) (by kernel_rfl) (by kernel_rfl) (fun _ _ _ h => h) (by rfl) hHeld ?_ ?_
          rotate_left
          · (intro w hSw; (try dsimp only at hSw); go_split_ands; go_simp; try with_reducible rfl)
          (try simp only [Act.put, List.setIfInBounds_toArray, List.set_cons_zero, List.set_cons_succ])
          refine wpAnyH_done (by kernel_rfl) ?_ _
          clear hHeld q0
          go_wp2_with fail
          go_meet
          exact ⟨rfl, hid ⟨F, T, ga, gw, D, R, l, down, b, HDUX.out.below V0.out, by have := HLEN.out; omega, HZX.out, HFX.out, by have := HSM.out; omega, by have := HSM.out; omega, by have := HSM.out; omega, by have := HB1.out.size; omega⟩, hid (bThen HBX.out V0.out)⟩
        have e0 : (y.op == (0 : Int)) = true := by rw [beq_iff_eq]; exact hop
        have HS0 := hid (fun (u : World) (h : u.heap[u1.heap.size]? = some (.cells #[.int .i64 y.op, .int .i64 y.n, .int .i64 y.x.kind, .int .i64 y.x.job, .int .i64 y.x.task, .int .i64 y.x.worker, .int .i64 y.x.sched, .int .i64 y.x.epoch, .slice XB y.x.needs.length xc] 48 (0, 0))) => show (u.cell? ⟨u1.heap.size, 0, none⟩ = some (.int .i64 y.op) ∧ u.cell? ⟨u1.heap.size, 2, none⟩ = some (.int .i64 y.x.kind) ∧ u.cell? ⟨u1.heap.size, 3, none⟩ = some (.int .i64 y.x.job) ∧ u.cell? ⟨u1.heap.size, 4, none⟩ = some (.int .i64 y.x.task) ∧ u.cell? ⟨u1.heap.size, 5, none⟩ = some (.int .i64 y.x.worker) ∧ u.cell? ⟨u1.heap.size, 6, none⟩ = some (.int .i64 y.x.sched) ∧ u.cell? ⟨u1.heap.size, 7, none⟩ = some (.int .i64 y.x.epoch) ∧ u.cell? ⟨u1.heap.size, 8, none⟩ = some (.slice XB y.x.needs.length xc)) from by
          obtain ⟨p, _, _⟩ := cells_of_block h
          exact ⟨p 0 _ rfl, p 2 _ rfl, p 3 _ rfl, p 4 _ rfl, p 5 _ rfl, p 6 _ rfl, p 7 _ rfl, p 8 _ rfl⟩)
        have HDD := hid (HDUX.out.below V0.out)
        have HPA := hid (putG_alike HAL.out l down b r1 y.x)
        have HGL := hid (putG_len R l down b r1 y.x)
        have HLP := hid (lput_calls HDD.out.pl HDD.out.ok y.x XB xc (Kd.mono _ (fun j (hj : j < w.heap.size) _ h => by have := (HDD.out.fb j h).1; have := HVS.out; omega) (Kd.below HKX2.out V0.out)) (by have := HLEN.out; omega))
        have HGK := hid (putG_bok (D := R) (l := l) (down := down) (room := r1) (x := y.x) HDD.out.ok)
        obtain ⟨GD, hGD⟩ : ∃ G, G = putG D l down b r1 y.x := ⟨_, rfl⟩
        obtain ⟨GR, hGR⟩ : ∃ G, G = putG R l down b r1 y.x := ⟨_, rfl⟩
        have HGR := hid hGR
        rw [← hGD] at HLP HPA
        rw [← hGR] at HPA HGL HGK
        have q0 := HS0.out Vx.drew HZX.out
        clear hop hGD hGR
        go_wp2_with fail
        refine wp_region_held_drew (S := fun w' => w'.cell? ⟨u1.heap.size, 0, none⟩ = some (.int .i64 y.op) ∧ w'.cell? ⟨u1.heap.size, 2, none⟩ = some (.int .i64 y.x.kind) ∧ w'.cell? ⟨u1.heap.size, 3, none⟩ = some (.int .i64 y.x.job) ∧ w'.cell? ⟨u1.heap.size, 4, none⟩ = some (.int .i64 y.x.task) ∧ w'.cell? ⟨u1.heap.size, 5, none⟩ = some (.int .i64 y.x.worker) ∧ w'.cell? ⟨u1.heap.size, 6, none⟩ = some (.int .i64 y.x.sched) ∧ w'.cell? ⟨u1.heap.size, 7, none⟩ = some (.int .i64 y.x.epoch) ∧ w'.cell? ⟨u1.heap.size, 8, none⟩ = some (.slice XB y.x.needs.length xc)) (by kernel_rfl) q0 (fun hHeld => ?_)
        refine anyH_take 0 (v := ?_) rfl (by kernel_rfl) (by kernel_rfl) (by kernel_rfl) (fun _ _ _ h => h) (by rfl) hHeld ?_ ?_
        rotate_left
        · (intro w hSw; (try dsimp only at hSw); go_split_ands; go_simp; try with_reducible rfl)
        (try simp only [Act.put, List.setIfInBounds_toArray, List.set_cons_zero, List.set_cons_succ])
        refine anyH_take 1 (v := ?_) rfl (by kernel_rfl) (by kernel_rfl) (by kernel_rfl) (fun _ _ _ h => h) (by rfl) hHeld ?_ ?_
        rotate_left
        · (intro w hSw; (try dsimp only at hSw); go_split_ands; go_simp; try with_reducible rfl)
        (try simp only [Act.put, List.setIfInBounds_toArray, List.set_cons_zero, List.set_cons_succ])
        refine anyH_take 2 (v := ?_) rfl (by kernel_rfl) (by kernel_rfl) (by kernel_rfl) (fun _ _ _ h => h) (by rfl) hHeld ?_ ?_
        rotate_left
        · (intro w hSw; (try dsimp only at hSw); go_split_ands; go_simp; try with_reducible rfl)
        (try simp only [Act.put, List.setIfInBounds_toArray, List.set_cons_zero, List.set_cons_succ])
        refine anyH_take 3 (v := ?_) rfl (by kernel_rfl) (by kernel_rfl) (by kernel_rfl) (fun _ _ _ h => h) (by rfl) hHeld ?_ ?_
        rotate_left
        · (intro w hSw; (try dsimp only at hSw); go_split_ands; go_simp; try with_reducible rfl)
        (try simp only [Act.put, List.setIfInBounds_toArray, List.set_cons_zero, List.set_cons_succ])
        refine anyH_take 4 (v := ?_) rfl (by kernel_rfl) (by kernel_rfl) (by kernel_rfl) (fun _ _ _ h => h) (by rfl) hHeld ?_ ?_
        rotate_left
        · (intro w hSw; (try dsimp only at hSw); go_split_ands; go_simp; try with_reducible rfl)
        (try simp only [Act.put, List.setIfInBounds_toArray, List.set_cons_zero, List.set_cons_succ])
        refine anyH_take 5 (v := ?_) rfl (by kernel_rfl) (by kernel_rfl) (by kernel_rfl) (fun _ _ _ h => h) (by rfl) hHeld ?_ ?_
        rotate_left
        · (intro w hSw; (try dsimp only at hSw); go_split_ands; go_simp; try with_reducible rfl)
        (try simp only [Act.put, List.setIfInBounds_toArray, List.set_cons_zero, List.set_cons_succ])
        refine anyH_take 6 (v := ?_) rfl (by kernel_rfl) (by kernel_rfl) (by kernel_rfl) (fun _ _ _ h => h) (by rfl) hHeld ?_ ?_
        rotate_left
        · (intro w hSw; (try dsimp only at hSw); go_split_ands; go_simp; try with_reducible rfl)
        (try simp only [Act.put, List.setIfInBounds_toArray, List.set_cons_zero, List.set_cons_succ])
        refine anyH_take 8 (v := ?_) rfl (by kernel_rfl) (by kernel_rfl) (by kernel_rfl) (fun _ _ _ h => h) (by rfl) hHeld ?_ ?_
        rotate_left
        · (intro w hSw; (try dsimp only at hSw); go_split_ands; go_simp; try with_reducible rfl)
        (try simp only [Act.put, List.setIfInBounds_toArray, List.set_cons_zero, List.set_cons_succ])
        refine anyH_take 9 (v := ?_) rfl (by kernel_rfl) (by kernel_rfl) (by kernel_rfl) (fun _ _ _ h => h) (by rfl) hHeld ?_ ?_
        rotate_left
        · (intro w hSw; (try dsimp only at hSw); go_split_ands; go_simp; try with_reducible rfl)
        (try simp only [Act.put, List.setIfInBounds_toArray, List.set_cons_zero, List.set_cons_succ])
        refine anyH_take 10 (v := ?_) rfl (by kernel_rfl) (by kernel_rfl) (by kernel_rfl) (fun _ _ _ h => h) (by rfl) hHeld ?_ ?_
        rotate_left
        · (intro w hSw; (try dsimp only at hSw); go_split_ands; go_simp; try with_reducible rfl)
        (try simp only [Act.put, List.setIfInBounds_toArray, List.set_cons_zero, List.set_cons_succ])
        refine anyH_one 7 rfl (by kernel_rfl) (fun K hK => ?_)
        go_simp
        refine HLP.out.mono ?_
        rintro e_ u2 ⟨rfl, hl2, hm2⟩
        obtain ⟨PA1, PA2, PA3, PA4, PA5⟩ := HPA.out
        rw [PA1, PA2, PA3] at hl2
        rw [PA4]
        have HM2x := hid hm2
        have HP2 := hid (HDD.out.prog hl2 hm2)
        have HZ2 := hid ((hm2.block u1.heap.size (by show u1.heap.size < Vx.heap.size; have := HSX.out; omega) HFX.out).trans HZX.out)
        have HK2 := hid (show Kd.str.slice.K u2 (fun j => j < w.heap.size) y.x.needs [.slice XB y.x.needs.length xc] from Kd.str.slice.move (fun j (hj : j < w.heap.size) hl => hm2.block j hl (fun h => by have := (HDD.out.fb j h).1; have := HVS.out; omega)) (Kd.below HKX2.out V0.out))
        clear hl2 hm2 PA1 PA2 PA3 PA4 PA5
        go_simp
        refine hK.out _ _ (HS0.out _ HZ2.out) (fun hHeld => ?_)
        clear hK K
        (try simp only [Act.put, List.setIfInBounds_toArray, List.set_cons_zero, List.set_cons_succ])
        refine anyH_one 11 rfl (by kernel_rfl) (fun K hK => ?_)
        go_simp
        have hst := rput21_calls HP2.out.2.1 HDD.out.ok y.x XB xc (Kd.mono _ (fun j (hj : j < w.heap.size) _ => ⟨HDD.out.lo j (by have := HVS.out; omega), fun e => by have := HDD.out.hw; have := HVS.out; omega⟩) HK2.out) (by have := HLEN.out; omega)
        rw [← HGR.out] at hst
        refine hst.mono ?_
        clear hst
        rintro e_ u3 ⟨rfl, hr3, hm3⟩
        have HR3 := hid hr3
        have HM3x := hid hm3
        have HZ3 := hid ((hm3.block u1.heap.size (Array.getElem?_eq_some_iff.1 HZ2.out).1 (fun h => by have := HSM.out; omega)).trans HZ2.out)
        clear hr3 hm3
        go_simp
        refine hK.out _ _ (HS0.out _ HZ3.out) (fun hHeld => ?_)
        clear hK K
        (try simp only [Act.put, List.setIfInBounds_toArray, List.set_cons_zero, List.set_cons_succ])
        refine anyH_take 12 (v := ?_) rfl (by kernel_rfl) (by kernel_rfl) (by kernel_rfl) (fun _ _ _ h => h) (by rfl) hHeld ?_ ?_
        rotate_left
        · (intro w hSw; (try dsimp only at hSw); go_split_ands; go_simp; try with_reducible rfl)
        (try simp only [Act.put, List.setIfInBounds_toArray, List.set_cons_zero, List.set_cons_succ])
        refine anyH_take 13 (v := ?_) rfl (by kernel_rfl) (by kernel_rfl) (by kernel_rfl) (fun _ _ _ h => h) (by rfl) hHeld ?_ ?_
        rotate_left
        · (intro w hSw; (try dsimp only at hSw); go_split_ands; go_simp; try with_reducible rfl)
        (try simp only [Act.put, List.setIfInBounds_toArray, List.set_cons_zero, List.set_cons_succ])
        refine wpAnyH_done (by kernel_rfl) ?_ _
        clear hHeld q0
        go_wp2_with fail
        go_meet
        obtain ⟨P1, P2, P3, P4, P5, P6⟩ := HP2.out
        have hs2 := HM2x.out.size
        have hs3 := HM3x.out.size
        have hvd : Vx.drew.heap.size = Vx.heap.size := rfl
        refine ⟨rfl, hid ⟨_, _, ga, gw, GD.D, GR.D, GR.l, GR.down, GR.b, duo_ref P1 HR3.out HM3x.out HPA.out.2.2.2.2 P3 P4 P5 P6 (fun h => (P4 gw HDD.out.rl.1.1).1 h) (by have := HSM.out; have := HSX.out; omega) (by have := HSM.out; have := HSX.out; omega) HDD.out.lo HDD.out.hm HDD.out.hr HDD.out.hw HGK.out, by have := HGL.out; have := HLEN.out; omega, HZ3.out, fun h => h.elim HFX.out (fun h => by have := HSX.out; omega), by have := HSM.out; omega, by have := HSM.out; omega, by have := HSM.out; omega, by have := HB1.out.size; omega⟩, hid ?_⟩
        have hx1 := bThen HBX.out V0.out
        have hx2 := hx1.trans (HM2x.out.below (fun j _ hj => (HDD.out.fb j hj).1) hx1.size)
        exact hx2.trans (HM3x.out.below (fun j _ hj => by have := HDD.out.hm; have := HDD.out.hr; have := HDD.out.hw; omega) hx2.size)
    case rest =>
      obtain ⟨rfl, HMID, HBC⟩ := hcut
      obtain ⟨F2, T2, ga2, gw2, D2, R2, l2, dn2, b2, hduo2, hlen2, hz2, hf2, hx1, hx2, hx3, hxB⟩ := HMID.out
      have HDU2 := hid hduo2
      have HLE2 := hid hlen2
      have HZ2 := hid hz2
      have HF2 := hid (And.intro hf2 (And.intro hx1 (And.intro hx2 (And.intro hx3 hxB))))
      obtain ⟨p2, _, _⟩ := cells_of_block hz2
      have x0' := p2 0 _ rfl
      have x1' := p2 1 _ rfl
      clear hduo2 hlen2 hz2 hf2 hx1 hx2 hx3 hxB p2 HMID HDUX HZX x0
      go_upto_if 116 with fail
      go_cut [14] from 64 to 214 (fun iv wx => iv = .int .i64 k ∧ Hid (Mid21 wx V.heap.size V.heap.size w2.heap.size r1 (k + 1) gl gr u1.heap.size #[.int .i64 y.op, .int .i64 y.n, .int .i64 y.x.kind, .int .i64 y.x.job, .int .i64 y.x.task, .int .i64 y.x.worker, .int .i64 y.x.sched, .int .i64 y.x.epoch, .slice XB y.x.needs.length xc]) ∧ Hid (Below V.heap.size V wx))
      case first =>
        as_aux_lemma =>
          by_cases hop : y.op = 1
          case neg =>
            have e1 : (y.op == (1 : Int)) = false := by rw [beq_eq_false_iff_ne]; exact hop
            clear hop
            go_wp2_with fail
            go_meet
            exact ⟨rfl, hid ⟨F2, T2, ga2, gw2, D2, R2, l2, dn2, b2, HDU2.out, HLE2.out, HZ2.out, HF2.out⟩, HBC⟩
          have e1 : (y.op == (1 : Int)) = true := by rw [beq_iff_eq]; exact hop
          clear hop
          go_wp2_with fail
          refine (lgFuse21_calls HDU2.out.pl y.n (i64_hi2 HY.out.2.1)).mono ?_
          rintro e_ v1 ⟨rfl, hl1, hm1⟩
          have HDB := hid (HDU2.out.burn y.n hl1 hm1)
          have HM1 := hid hm1
          have HZB := hid ((hm1.block _ (Array.getElem?_eq_some_iff.1 HZ2.out).1 HF2.out.1).trans HZ2.out)
          have HRB := hid ((hm1.block w2.heap.size (Array.getElem?_eq_some_iff.1 HDU2.out.rl.2.1).1 HDU2.out.nm).trans HDU2.out.rl.2.1)
          obtain ⟨p3, g3, _⟩ := cells_of_block HZB.out
          have x1'' := p3 1 _ rfl
          obtain ⟨p4, g4, _⟩ := cells_of_block HRB.out
          have r2c := p4 2 _ rfl
          have r2f := g4 2
          clear hl1 hm1 p3 g3 p4 g4
          go_wp2_with fail
          go_meet
          refine ⟨rfl, hid ⟨F2, T2, ga2, gw2, _, _, l2, dn2, b2, HDB.out, HLE2.out, (Below.heap_setCell _ ⟨w2.heap.size, 2, none⟩ _ _ HF2.out.2.1).trans HZB.out, HF2.out⟩, hid ?_⟩
          have hx1 := HBC.out.trans (HM1.out.below (fun j _ hj => (HDU2.out.fb j hj).1) HBC.out.size)
          exact hx1.setCell (p := ⟨w2.heap.size, 2, none⟩) HDU2.out.hm _
      case rest =>
        obtain ⟨rfl, HMID, HBC3⟩ := hcut
        clear HBC HDU2 HLE2 HZ2 HF2 x0' x1'
        obtain ⟨F3, T3, ga3, gw3, D3, R3, l3, dn3, b3, hduo3, hlen3, hz3, hf3, hx1, hx2, hx3, hxB⟩ := HMID.out
        have HDU3 := hid hduo3
        have HLE3 := hid hlen3
        have HZ3 := hid hz3
        have HBOX := hid (fun (u : World) (h : Below wc.heap.size wc u) => show (u.cell? ⟨u1.heap.size, 0, none⟩ = some (.int .i64 y.op) ∧ u.cell? ⟨u1.heap.size, 3, none⟩ = some (.int .i64 y.x.job)) from by
          obtain ⟨p, _, _⟩ := cells_of_block ((h.block _ (Array.getElem?_eq_some_iff.1 HZ3.out).1).trans HZ3.out)
          exact ⟨p 0 _ rfl, p 3 _ rfl⟩)
        clear hduo3 hlen3 hz3 hf3 hx1 hx2 hx3 hxB HMID
        obtain ⟨x0, x3⟩ := HBOX.out wc (Below.refl _ _)
        by_cases hre : y.op < 0 ∨ 1 < y.op
        case pos =>
          obtain ⟨TDx, hdk, _⟩ := HDU3.out.dks
          have HDK3 := hid hdk
          have HDO3 := hid hdk.pd.1
          obtain ⟨d0, d1⟩ := HRM.out wc HBC3.out
          clear hdk
          have HOA := hid (lopen_any HDK3.out r1)
          have hgo : ∀ {vv : Value}, vv = vv := fun {_} => rfl
          by_cases hneg : y.op < 0
          · skip
            as_aux_lemma =>
              have hnd : decide (y.op < 0) = true := decide_eq_true hneg
              clear hre hgo
              go_wp2_with fail
              refine HOA.out.mono ?_
              rintro e_ v1 ⟨vl1, rfl, ho1, hm1⟩
              have HO1 := hid ho1
              have HM1 := hid hm1
              have HV1 := hid (show Below V.heap.size V v1 from HBC3.out.trans (hm1.below (fun j _ hj => (HDK3.out.tb j hj).1) HBC3.out.size))
              have HRD1 := hid (HDK3.out.rd.mod hm1 HDK3.out.nm)
              clear ho1 hm1 d0 d1 x0 x3
              obtain ⟨d0, d1⟩ := HRM.out v1 HV1.out
              go_wp2_with fail
              refine (ropen_any HRD1.out (HDK3.out.al.ok HDO3.out) r1).mono ?_
              rintro e_ v2 ⟨vw1, rfl, ho2, hm2⟩
              have HST1 := hid (lst_open (K := k + 1) HDK3.out HDO3.out HO1.out HM1.out ho2 hm2)
              have HV2 := hid (show Below V.heap.size V v2 from HV1.out.trans (hm2.below (fun j _ hj => by have := HDK3.out.hm; omega) HV1.out.size))
              obtain ⟨oc2, hoc2⟩ : ∃ oc2, oc2 = outC r1 D3.b := ⟨_, rfl⟩
              obtain ⟨oc3, hoc3⟩ : ∃ oc3, oc3 = outC r1 R3.b := ⟨_, rfl⟩
              rw [← hoc2, ← hoc3] at HST1
              rw [← hoc3]
              try rw [← hoc2]
              have HE1 := hid HST1.out.1
              have HST3 := hid HST1.out.2
              clear ho2 hm2 hoc2 hoc3 HST1 d0 d1
              have hEo := HE1.out
              subst hEo
              go_wp2
              go_roundw
              case rel => exact ⟨k + 1, by omega, by go_num, HST3, HV2⟩
              case measure => simp [intOf]; omega
          · skip
            as_aux_lemma =>
              have hnd : decide (y.op < 0) = false := decide_eq_false hneg
              have hnd2 : decide (1 < y.op) = true := decide_eq_true (by omega)
              clear hre hgo hneg
              go_wp2_with fail
              refine HOA.out.mono ?_
              rintro e_ v1 ⟨vl1, rfl, ho1, hm1⟩
              have HO1 := hid ho1
              have HM1 := hid hm1
              have HV1 := hid (show Below V.heap.size V v1 from HBC3.out.trans (hm1.below (fun j _ hj => (HDK3.out.tb j hj).1) HBC3.out.size))
              have HRD1 := hid (HDK3.out.rd.mod hm1 HDK3.out.nm)
              clear ho1 hm1 d0 d1 x0 x3
              obtain ⟨d0, d1⟩ := HRM.out v1 HV1.out
              go_wp2_with fail
              refine (ropen_any HRD1.out (HDK3.out.al.ok HDO3.out) r1).mono ?_
              rintro e_ v2 ⟨vw1, rfl, ho2, hm2⟩
              have HST1 := hid (lst_open (K := k + 1) HDK3.out HDO3.out HO1.out HM1.out ho2 hm2)
              have HV2 := hid (show Below V.heap.size V v2 from HV1.out.trans (hm2.below (fun j _ hj => by have := HDK3.out.hm; omega) HV1.out.size))
              obtain ⟨oc2, hoc2⟩ : ∃ oc2, oc2 = outC r1 D3.b := ⟨_, rfl⟩
              obtain ⟨oc3, hoc3⟩ : ∃ oc3, oc3 = outC r1 R3.b := ⟨_, rfl⟩
              rw [← hoc2, ← hoc3] at HST1
              rw [← hoc3]
              try rw [← hoc2]
              have HE1 := hid HST1.out.1
              have HST3 := hid HST1.out.2
              clear ho2 hm2 hoc2 hoc3 HST1 d0 d1
              have hEo := HE1.out
              subst hEo
              go_wp2
              go_roundw
              case rel => exact ⟨k + 1, by omega, by go_num, HST3, HV2⟩
              case measure => simp [intOf]; omega
        have hnd : decide (y.op < 0) = false := decide_eq_false (by omega)
        have hnd2 : decide (1 < y.op) = false := decide_eq_false (by omega)
        have hng : ¬ y.op < 0 := by omega
        have hng2 : ¬ 1 < y.op := by omega
        clear hre
        have HEC := hid (lentry_calls HDU3.out.pl HDU3.out.ok y.x.job)
        obtain ⟨E0, hE0⟩ : ∃ E, E = (findE b3 y.x.job).getD zeroE := ⟨_, rfl⟩
        obtain ⟨is, his⟩ : ∃ is, is = (findE b3 y.x.job).isSome := ⟨_, rfl⟩
        have HE0 := hid (And.intro hE0 his)
        rw [← hE0, ← his] at HEC
        clear hE0 his
        go_wp2_with fail
        refine HEC.out.mono ?_
        rintro e_ v1 ⟨FA, FB, FD, fa, fb, fd, rfl, hN1, hb1⟩
        obtain ⟨v2, hv2⟩ : ∃ v, v = v1.alloc (.cells #[.int .i64 E0.id, .int .i64 E0.sched, .int .i64 E0.epoch, .slice FA E0.needs.length fa, .slice FB E0.bound.length fb, .slice FD E0.done.length fd] 55) := ⟨_, rfl⟩
        have hb2 : Below v1.heap.size v1 v2 := by rw [hv2]; exact bAlloc (Below.refl _ _) _
        have HZE := hid (show v2.heap[v1.heap.size]? = some (.cells #[.int .i64 E0.id, .int .i64 E0.sched, .int .i64 E0.epoch, .slice FA E0.needs.length fa, .slice FB E0.bound.length fb, .slice FD E0.done.length fd] 55 (0, 0)) by rw [hv2]; exact heap_at rfl)
        have HEA := hid (show EAt v2 E0 FA FB FD fa fb fd from ⟨Kd.any (Kd.below hN1.needs hb2), Kd.any (Kd.below hN1.bound hb2), Kd.any (Kd.below hN1.done hb2)⟩)
        have HV2 := hid (bThen hb1 hb2)
        have hEv := hv2.symm
        obtain ⟨A3, c3, g0, g1, g2, gd2, _, hgr, hgw, HK3, _⟩ := HDU3.out.rl.cells
        have HGR := hid (fun (u : World) (h : Below v2.heap.size v2 u) => show (u.cell? ⟨gr, 0, none⟩ = some (.pointer (some ⟨gw3, 0, none⟩)) ∧ u.cell? ⟨gr, 1, none⟩ = some (.slice A3 b3.length c3)) from ⟨cell_keep (bThen HV2.out h) g0, cell_keep (bThen HV2.out h) g1⟩)
        clear hN1 hb1 hb2 hv2 x0 x3 g0 g1 g2
        go_upto_region 25 with fail
        clear hEv
        have U2 := hid (Below.refl v2.heap.size v2).drew
        have HS25 := hid (fun (u : World) (h : Below v2.heap.size v2 u) => show (u.cell? ⟨gr, 1, none⟩ = some (.slice A3 b3.length c3) ∧ u.cell? ⟨u1.heap.size, 3, none⟩ = some (.int .i64 y.x.job)) from ⟨(HGR.out u h).2, (HBOX.out u (bThen HV2.out h)).2⟩)
        have q0 := HS25.out v2.drew U2.out
        have HK3b := hid (Kd.any (Kd.below HK3.out HV2.out))
        go_cut [18, 19] from 64 to 214 (fun p t wx => ∃ (g18 : Nat) (GA GB GD : Option Addr) (xa xb xd : Nat), p = .pointer (some ⟨g18, 0, none⟩) ∧ t = .bool is ∧ Hid (wx.heap[g18]? = some (.cells #[.int .i64 E0.id, .int .i64 E0.sched, .int .i64 E0.epoch, .slice GA E0.needs.length xa, .slice GB E0.bound.length xb, .slice GD E0.done.length xd] 55 (0, 0))) ∧ Hid (EAt wx E0 GA GB GD xa xb xd) ∧ Hid (Below v2.heap.size v2 wx))
        case first =>
          as_aux_lemma =>
            go_wp2_with fail
            refine wp_region_held_drew (S := fun w' => w'.cell? ⟨gr, 1, none⟩ = some (.slice A3 b3.length c3) ∧ w'.cell? ⟨u1.heap.size, 3, none⟩ = some (.int .i64 y.x.job)) (by kernel_rfl) q0 (fun hHeld => ?_)
            obtain ⟨y0_, hy0⟩ : ∃ z, z = v2.drew := ⟨_, rfl⟩
            have T0_ := hid (show Below v2.heap.size v2 y0_ by rw [hy0]; exact U2.out)
            have U2 := hid (show Below v2.heap.size v2 y0_ from T0_.out)
            rw [← hy0] at q0 hHeld ⊢
            clear hy0
            refine anyH_take 0 (v := ?_) rfl (by kernel_rfl) (by kernel_rfl) (by kernel_rfl) (fun _ _ _ h => h) (by rfl) hHeld ?_ ?_
            rotate_left
            · (intro w hSw; (try dsimp only at hSw); go_split_ands; go_simp; try with_reducible rfl)
            (try simp only [Act.put, List.setIfInBounds_toArray, List.set_cons_zero, List.set_cons_succ])
            refine anyH_take 1 (v := ?_) rfl (by kernel_rfl) (by kernel_rfl) (by kernel_rfl) (fun _ _ _ h => h) (by rfl) hHeld ?_ ?_
            rotate_left
            · (intro w hSw; (try dsimp only at hSw); go_split_ands; go_simp; try with_reducible rfl)
            (try simp only [Act.put, List.setIfInBounds_toArray, List.set_cons_zero, List.set_cons_succ])
            refine anyH_take 2 (v := ?_) rfl (by kernel_rfl) (by kernel_rfl) (by kernel_rfl) (fun _ _ _ h => h) (by rfl) hHeld ?_ ?_
            rotate_left
            · (intro w hSw; (try dsimp only at hSw); go_split_ands; go_simp; try with_reducible rfl)
            (try simp only [Act.put, List.setIfInBounds_toArray, List.set_cons_zero, List.set_cons_succ])
            refine anyH_take 3 (v := ?_) rfl (by kernel_rfl) (by kernel_rfl) (by kernel_rfl) (fun _ _ _ h => h) (by rfl) hHeld ?_ ?_
            rotate_left
            · (intro w hSw; (try dsimp only at hSw); go_split_ands; go_simp; try with_reducible rfl)
            (try simp only [Act.put, List.setIfInBounds_toArray, List.set_cons_zero, List.set_cons_succ])
            refine anyH_take 4 (v := ?_) rfl (by kernel_rfl) (by kernel_rfl) (by kernel_rfl) (fun _ _ _ h => h) (by rfl) hHeld ?_ ?_
            rotate_left
            · (intro w hSw; (try dsimp only at hSw); go_split_ands; go_simp; try with_reducible rfl)
            (try simp only [Act.put, List.setIfInBounds_toArray, List.set_cons_zero, List.set_cons_succ])
            refine anyH_take 5 (v := ?_) rfl (by kernel_rfl) (by kernel_rfl) (by kernel_rfl) (fun _ _ _ h => h) (by rfl) hHeld ?_ ?_
            rotate_left
            · (intro w hSw; (try dsimp only at hSw); go_split_ands; go_simp; try with_reducible rfl)
            (try simp only [Act.put, List.setIfInBounds_toArray, List.set_cons_zero, List.set_cons_succ])
            refine anyH_take 6 (v := ?_) rfl (by kernel_rfl) (by kernel_rfl) (by kernel_rfl) (fun _ _ _ h => h) (by rfl) hHeld ?_ ?_
            rotate_left
            · (intro w hSw; (try dsimp only at hSw); go_split_ands; go_simp; try with_reducible rfl)
            (try simp only [Act.put, List.setIfInBounds_toArray, List.set_cons_zero, List.set_cons_succ])
            refine anyH_two 7 11 rfl rfl (by kernel_rfl) (fun K hK => ?_) (fun K hK => ?_)
            · go_simp
              refine (rfind20S_calls (fun j => j < v2.heap.size) b3 y.x.job _ y0_ (Kd.entry.slice.move (w1 := y0_) (fun j hj hl => T0_.out.block j hj) (Kd.entry.slice.mono (fun j _ hl => hl) HK3b.out)) (fun j hj => Nat.lt_of_lt_of_le hj T0_.out.size)).mono ?_
              rintro e_ y1_ ⟨GA, GB, GD, xa, xb, xd, rfl, hE, hb⟩
              rw [← HE0.out.1] at hE ⊢
              rw [← HE0.out.2]
              have T1_ := hid (bThen T0_.out hb)
              have z1_ : y0_.heap.size ≤ y1_.heap.size := hb.size
              have A1_ := hid hE
              clear hE hb
              go_simp
              refine hK.out _ _ (HS25.out _ T1_.out) (fun hHeld => ?_)
              clear hK K
              (try simp only [Act.put, List.setIfInBounds_toArray, List.set_cons_zero, List.set_cons_succ])
              refine anyH_take 8 (v := ?_) rfl (by kernel_rfl) (by kernel_rfl) (by kernel_rfl) (fun _ _ _ h => h) (by rfl) hHeld ?_ ?_
              rotate_left
              · (intro w hSw; (try dsimp only at hSw); go_split_ands; go_simp; try with_reducible rfl)
              (try simp only [Act.put, List.setIfInBounds_toArray, List.set_cons_zero, List.set_cons_succ])
              refine anyH_take 9 (v := ?_) rfl (by kernel_rfl) (by kernel_rfl) (by kernel_rfl) (fun _ _ _ h => h) (by rfl) hHeld ?_ ?_
              rotate_left
              · (intro w hSw; (try dsimp only at hSw); go_split_ands; go_simp; try with_reducible rfl)
              (try simp only [Act.put, List.setIfInBounds_toArray, List.set_cons_zero, List.set_cons_succ])
              refine anyH_take 10 (v := ?_) rfl (by kernel_rfl) (by kernel_rfl) (by kernel_rfl) (fun _ _ _ h => h) (by rfl) hHeld ?_ ?_
              rotate_left
              · (intro w hSw; (try dsimp only at hSw); go_split_ands; go_simp; try with_reducible rfl)
              (try simp only [Act.put, List.setIfInBounds_toArray, List.set_cons_zero, List.set_cons_succ])
              refine anyH_one 11 rfl (by kernel_rfl) (fun K hK => ?_)
              go_simp
              obtain ⟨y2_, hyy⟩ : ∃ z, z = y1_.alloc (.cells #[.int .i64 0, .int .i64 0, .int .i64 0, .slice none 0 0, .slice none 0 0, .slice none 0 0] 55) := ⟨_, rfl⟩
              rw [← hyy]
              have hb : Below y1_.heap.size y1_ y2_ := by rw [hyy]; exact bAlloc (Below.refl _ _) _
              have T2_ := hid (bThen T1_.out hb)
              have z2_ : y1_.heap.size ≤ y2_.heap.size := hb.size
              have A2_ := hid (A1_.out.below hb)
              have R2_ := hid (show y2_.heap[y1_.heap.size]? = some (.cells #[.int .i64 0, .int .i64 0, .int .i64 0, .slice none 0 0, .slice none 0 0, .slice none 0 0] 55 (0, 0)) by rw [hyy]; exact heap_at rfl)
              clear hb hyy
              refine hK.out _ _ (HS25.out _ T2_.out) (fun hHeld => ?_)
              clear hK K
              (try simp only [Act.put, List.setIfInBounds_toArray, List.set_cons_zero, List.set_cons_succ])
              refine anyH_one 12 rfl (by kernel_rfl) (fun K hK => ?_)
              go_simp
              obtain ⟨y3_, hyy, HR6, G0, G1, G2, G3, G4, G5, TB, TN, hs6⟩ := set6 R2_.out (.int .i64 E0.id) (.int .i64 E0.sched) (.int .i64 E0.epoch) (.slice GA E0.needs.length xa) (.slice GB E0.bound.length xb) (.slice GD E0.done.length xd)
              obtain ⟨p5, g5, l5⟩ := cells_of_block R2_.out
              have n0_ := p5 0 _ rfl
              have n1_ := p5 1 _ rfl
              have n2_ := p5 2 _ rfl
              have n3_ := p5 3 _ rfl
              have n4_ := p5 4 _ rfl
              have n5_ := p5 5 _ rfl
              have f0_ := g5 0
              have f1_ := g5 1
              have f2_ := g5 2
              have f3_ := g5 3
              have f4_ := g5 4
              have f5_ := g5 5
              clear p5 g5
              go_simp
              rw [← hyy]
              have T3_ := hid (show Below v2.heap.size v2 y3_ from T2_.out.trans (TB.mono (by have := U2.out.size; omega)))
              have HX6 := hid HR6
              have HAE := hid (A2_.out.away6 (fun j hj => TN j (by have : j < v2.heap.size := hj; have := U2.out.size; omega)))
              clear hyy HR6 TB TN G0 G1 G2 G3 G4 G5 n0_ n1_ n2_ n3_ n4_ n5_ f0_ f1_ f2_ f3_ f4_ f5_
              refine hK.out _ _ (HS25.out _ T3_.out) (fun hHeld => ?_)
              clear hK K
              (try simp only [Act.put, List.setIfInBounds_toArray, List.set_cons_zero, List.set_cons_succ])
              refine anyH_take 13 (v := ?_) rfl (by kernel_rfl) (by kernel_rfl) (by kernel_rfl) (fun _ _ _ h => h) (by rfl) hHeld ?_ ?_
              rotate_left
              · (intro w hSw; (try dsimp only at hSw); go_split_ands; go_simp; try with_reducible rfl)
              (try simp only [Act.put, List.setIfInBounds_toArray, List.set_cons_zero, List.set_cons_succ])
              refine wpAnyH_done (by kernel_rfl) ?_ _
              clear hHeld
              go_wp2_with fail
              go_meet
              exact ⟨_, _, _, _, _, _, _, rfl, rfl, HX6, hid HAE.out.at, T3_⟩
            · go_simp
              obtain ⟨y1_, hyy⟩ : ∃ z, z = y0_.alloc (.cells #[.int .i64 0, .int .i64 0, .int .i64 0, .slice none 0 0, .slice none 0 0, .slice none 0 0] 55) := ⟨_, rfl⟩
              rw [← hyy]
              have hb : Below y0_.heap.size y0_ y1_ := by rw [hyy]; exact bAlloc (Below.refl _ _) _
              have T1_ := hid (bThen T0_.out hb)
              have z1_ : y0_.heap.size ≤ y1_.heap.size := hb.size
              have R1_ := hid (show y1_.heap[y0_.heap.size]? = some (.cells #[.int .i64 0, .int .i64 0, .int .i64 0, .slice none 0 0, .slice none 0 0, .slice none 0 0] 55 (0, 0)) by rw [hyy]; exact heap_at rfl)
              clear hb hyy
              refine hK.out _ _ (HS25.out _ T1_.out) (fun hHeld => ?_)
              clear hK K
              (try simp only [Act.put, List.setIfInBounds_toArray, List.set_cons_zero, List.set_cons_succ])
              refine anyH_one 7 rfl (by kernel_rfl) (fun K hK => ?_)
              go_simp
              refine (rfind20S_calls (fun j => j < v2.heap.size) b3 y.x.job _ y1_ (Kd.entry.slice.move (w1 := y1_) (fun j hj hl => T1_.out.block j hj) (Kd.entry.slice.mono (fun j _ hl => hl) HK3b.out)) (fun j hj => Nat.lt_of_lt_of_le hj T1_.out.size)).mono ?_
              rintro e_ y2_ ⟨GA, GB, GD, xa, xb, xd, rfl, hE, hb⟩
              rw [← HE0.out.1] at hE ⊢
              rw [← HE0.out.2]
              have T2_ := hid (bThen T1_.out hb)
              have z2_ : y1_.heap.size ≤ y2_.heap.size := hb.size
              have R2_ := hid ((hb.block _ (Array.getElem?_eq_some_iff.1 R1_.out).1).trans R1_.out)
              have A2_ := hid hE
              clear hE hb
              go_simp
              refine hK.out _ _ (HS25.out _ T2_.out) (fun hHeld => ?_)
              clear hK K
              (try simp only [Act.put, List.setIfInBounds_toArray, List.set_cons_zero, List.set_cons_succ])
              refine anyH_take 8 (v := ?_) rfl (by kernel_rfl) (by kernel_rfl) (by kernel_rfl) (fun _ _ _ h => h) (by rfl) hHeld ?_ ?_
              rotate_left
              · (intro w hSw; (try dsimp only at hSw); go_split_ands; go_simp; try with_reducible rfl)
              (try simp only [Act.put, List.setIfInBounds_toArray, List.set_cons_zero, List.set_cons_succ])
              refine anyH_take 9 (v := ?_) rfl (by kernel_rfl) (by kernel_rfl) (by kernel_rfl) (fun _ _ _ h => h) (by rfl) hHeld ?_ ?_
              rotate_left
              · (intro w hSw; (try dsimp only at hSw); go_split_ands; go_simp; try with_reducible rfl)
              (try simp only [Act.put, List.setIfInBounds_toArray, List.set_cons_zero, List.set_cons_succ])
              refine anyH_take 10 (v := ?_) rfl (by kernel_rfl) (by kernel_rfl) (by kernel_rfl) (fun _ _ _ h => h) (by rfl) hHeld ?_ ?_
              rotate_left
              · (intro w hSw; (try dsimp only at hSw); go_split_ands; go_simp; try with_reducible rfl)
              (try simp only [Act.put, List.setIfInBounds_toArray, List.set_cons_zero, List.set_cons_succ])
              refine anyH_one 12 rfl (by kernel_rfl) (fun K hK => ?_)
              go_simp
              obtain ⟨y3_, hyy, HR6, G0, G1, G2, G3, G4, G5, TB, TN, hs6⟩ := set6 R2_.out (.int .i64 E0.id) (.int .i64 E0.sched) (.int .i64 E0.epoch) (.slice GA E0.needs.length xa) (.slice GB E0.bound.length xb) (.slice GD E0.done.length xd)
              obtain ⟨p5, g5, l5⟩ := cells_of_block R2_.out
              have n0_ := p5 0 _ rfl
              have n1_ := p5 1 _ rfl
              have n2_ := p5 2 _ rfl
              have n3_ := p5 3 _ rfl
              have n4_ := p5 4 _ rfl
              have n5_ := p5 5 _ rfl
              have f0_ := g5 0
              have f1_ := g5 1
              have f2_ := g5 2
              have f3_ := g5 3
              have f4_ := g5 4
              have f5_ := g5 5
              clear p5 g5
              go_simp
              rw [← hyy]
              have T3_ := hid (show Below v2.heap.size v2 y3_ from T2_.out.trans (TB.mono (by have := U2.out.size; omega)))
              have HX6 := hid HR6
              have HAE := hid (A2_.out.away6 (fun j hj => TN j (by have : j < v2.heap.size := hj; have := U2.out.size; omega)))
              clear hyy HR6 TB TN G0 G1 G2 G3 G4 G5 n0_ n1_ n2_ n3_ n4_ n5_ f0_ f1_ f2_ f3_ f4_ f5_
              refine hK.out _ _ (HS25.out _ T3_.out) (fun hHeld => ?_)
              clear hK K
              (try simp only [Act.put, List.setIfInBounds_toArray, List.set_cons_zero, List.set_cons_succ])
              refine anyH_take 13 (v := ?_) rfl (by kernel_rfl) (by kernel_rfl) (by kernel_rfl) (fun _ _ _ h => h) (by rfl) hHeld ?_ ?_
              rotate_left
              · (intro w hSw; (try dsimp only at hSw); go_split_ands; go_simp; try with_reducible rfl)
              (try simp only [Act.put, List.setIfInBounds_toArray, List.set_cons_zero, List.set_cons_succ])
              refine wpAnyH_done (by kernel_rfl) ?_ _
              clear hHeld
              go_wp2_with fail
              go_meet
              exact ⟨_, _, _, _, _, _, _, rfl, rfl, HX6, hid HAE.out.at, T3_⟩
        case rest =>
          as_aux_lemma =>
            obtain ⟨g18, GA, GB, GD, xa, xb, xd, rfl, rfl, HZG, HEG, HVW⟩ := hcut
            have HBZ := hid (bThen HBC3.out (bThen HV2.out HVW.out))
            have HDZ := hid (HDU3.out.below (bThen HV2.out HVW.out))
            have HEF := hid (HEA.out.below HVW.out)
            have HZF := hid ((HVW.out.block v1.heap.size (Array.getElem?_eq_some_iff.1 HZE.out).1).trans HZE.out)
            obtain ⟨A4, c4, g0, g1, g2, gd2', _, hgr', hgw', HK4, _⟩ := HDZ.out.rl.cells
            obtain ⟨_, _, ul, hul, hKl⟩ := id HDZ.out.rl.1
            obtain ⟨AL, cL, heL, _⟩ := id hKl
            injection heL with heL _
            subst heL
            have gl1 := (cells_of_block hul).1 1 _ rfl
            change _ = some (Value.slice AL l3.length cL) at gl1
            have HSS := hid (fun (u : World) (h : Below wc.heap.size wc u) => show ((u.cell? ⟨v1.heap.size, 0, none⟩ = some (.int .i64 E0.id) ∧ u.cell? ⟨v1.heap.size, 1, none⟩ = some (.int .i64 E0.sched) ∧ u.cell? ⟨v1.heap.size, 2, none⟩ = some (.int .i64 E0.epoch) ∧ u.cell? ⟨v1.heap.size, 3, none⟩ = some (.slice FA E0.needs.length fa) ∧ u.cell? ⟨v1.heap.size, 4, none⟩ = some (.slice FB E0.bound.length fb) ∧ u.cell? ⟨v1.heap.size, 5, none⟩ = some (.slice FD E0.done.length fd)) ∧ (u.cell? ⟨g18, 0, none⟩ = some (.int .i64 E0.id) ∧ u.cell? ⟨g18, 1, none⟩ = some (.int .i64 E0.sched) ∧ u.cell? ⟨g18, 2, none⟩ = some (.int .i64 E0.epoch) ∧ u.cell? ⟨g18, 3, none⟩ = some (.slice GA E0.needs.length xa) ∧ u.cell? ⟨g18, 4, none⟩ = some (.slice GB E0.bound.length xb) ∧ u.cell? ⟨g18, 5, none⟩ = some (.slice GD E0.done.length xd)) ∧ u.cell? ⟨gr, 0, none⟩ = some (.pointer (some ⟨gw3, 0, none⟩)) ∧ u.cell? ⟨gr, 1, none⟩ = some (.slice A4 b3.length c4) ∧ u.cell? ⟨gw3, 1, none⟩ = some (.slice AL l3.length cL) ∧ u.cell? ⟨gw3, 2, none⟩ = some (.bool dn3)) from
              ⟨box6 HZF.out u h, box6 HZG.out u h, cell_keep h g0, cell_keep h g1, cell_keep h gl1, cell_keep h gd2'⟩)
            have HKA4 := hid (Kd.any HK4.out)
            have W0 := hid (Below.refl wc.heap.size wc).drew
            have q1 := HSS.out wc.drew W0.out
            have HBOK := hid HDZ.out.ok
            obtain ⟨kl, hkl⟩ : ∃ kl, kl = keptL b3 := ⟨_, rfl⟩
            have HKL := hid hkl
            have hbi : (is != is) = false := by cases is <;> rfl
            have hbd : (dn3 != dn3) = false := by cases dn3 <;> rfl
            have hbk : (kl != kl) = false := by simp
            have hbl : ((l3.length : Int) != (l3.length : Int)) = false := by simp
            clear hkl g0 g1 g2 gd2 gd2' hul hKl gl1 q0
            go_wp2_with fail
            refine wp_region_held_drew (S := fun w' => (w'.cell? ⟨v1.heap.size, 0, none⟩ = some (.int .i64 E0.id) ∧ w'.cell? ⟨v1.heap.size, 1, none⟩ = some (.int .i64 E0.sched) ∧ w'.cell? ⟨v1.heap.size, 2, none⟩ = some (.int .i64 E0.epoch) ∧ w'.cell? ⟨v1.heap.size, 3, none⟩ = some (.slice FA E0.needs.length fa) ∧ w'.cell? ⟨v1.heap.size, 4, none⟩ = some (.slice FB E0.bound.length fb) ∧ w'.cell? ⟨v1.heap.size, 5, none⟩ = some (.slice FD E0.done.length fd)) ∧ (w'.cell? ⟨g18, 0, none⟩ = some (.int .i64 E0.id) ∧ w'.cell? ⟨g18, 1, none⟩ = some (.int .i64 E0.sched) ∧ w'.cell? ⟨g18, 2, none⟩ = some (.int .i64 E0.epoch) ∧ w'.cell? ⟨g18, 3, none⟩ = some (.slice GA E0.needs.length xa) ∧ w'.cell? ⟨g18, 4, none⟩ = some (.slice GB E0.bound.length xb) ∧ w'.cell? ⟨g18, 5, none⟩ = some (.slice GD E0.done.length xd)) ∧ w'.cell? ⟨gr, 0, none⟩ = some (.pointer (some ⟨gw3, 0, none⟩)) ∧ w'.cell? ⟨gr, 1, none⟩ = some (.slice A4 b3.length c4) ∧ w'.cell? ⟨gw3, 1, none⟩ = some (.slice AL l3.length cL) ∧ w'.cell? ⟨gw3, 2, none⟩ = some (.bool dn3)) (by kernel_rfl) q1 (fun hHeld => ?_)
            refine anyH_take 0 (v := ?_) rfl (by kernel_rfl) (by kernel_rfl) (by kernel_rfl) (fun _ _ _ h => h) (by rfl) hHeld ?_ ?_
            rotate_left
            · (intro w hSw; (try dsimp only at hSw); go_split_ands; go_simp; try with_reducible rfl)
            (try simp only [Act.put, List.setIfInBounds_toArray, List.set_cons_zero, List.set_cons_succ])
            refine anyH_take 1 (v := ?_) rfl (by kernel_rfl) (by kernel_rfl) (by kernel_rfl) (fun _ _ _ h => h) (by rfl) hHeld ?_ ?_
            rotate_left
            · (intro w hSw; (try dsimp only at hSw); go_split_ands; go_simp; try with_reducible rfl)
            (try simp only [Act.put, List.setIfInBounds_toArray, List.set_cons_zero, List.set_cons_succ])
            refine anyH_take 2 (v := ?_) rfl (by kernel_rfl) (by kernel_rfl) (by kernel_rfl) (fun _ _ _ h => h) (by rfl) hHeld ?_ ?_
            rotate_left
            · (intro w hSw; (try dsimp only at hSw); go_split_ands; go_simp; try with_reducible rfl)
            (try simp only [Act.put, List.setIfInBounds_toArray, List.set_cons_zero, List.set_cons_succ])
            refine anyH_take 3 (v := ?_) rfl (by kernel_rfl) (by kernel_rfl) (by kernel_rfl) (fun _ _ _ h => h) (by rfl) hHeld ?_ ?_
            rotate_left
            · (intro w hSw; (try dsimp only at hSw); go_split_ands; go_simp; try with_reducible rfl)
            (try simp only [Act.put, List.setIfInBounds_toArray, List.set_cons_zero, List.set_cons_succ])
            refine anyH_take 4 (v := ?_) rfl (by kernel_rfl) (by kernel_rfl) (by kernel_rfl) (fun _ _ _ h => h) (by rfl) hHeld ?_ ?_
            rotate_left
            · (intro w hSw; (try dsimp only at hSw); go_split_ands; go_simp; try with_reducible rfl)
            (try simp only [Act.put, List.setIfInBounds_toArray, List.set_cons_zero, List.set_cons_succ])
            refine anyH_take 5 (v := ?_) rfl (by kernel_rfl) (by kernel_rfl) (by kernel_rfl) (fun _ _ _ h => h) (by rfl) hHeld ?_ ?_
            rotate_left
            · (intro w hSw; (try dsimp only at hSw); go_split_ands; go_simp; try with_reducible rfl)
            (try simp only [Act.put, List.setIfInBounds_toArray, List.set_cons_zero, List.set_cons_succ])
            refine anyH_one 6 rfl (by kernel_rfl) (fun K hK => ?_)
            go_simp
            refine (one20_calls E0 FA FB FD fa fb fd GA GB GD xa xb xd wc.drew (HEF.out.below W0.out) (HEG.out.below W0.out)).mono ?_
            rintro e_ i1 ⟨rfl, hb⟩
            have W1 := hid (bThen W0.out hb)
            clear hb
            go_simp
            refine hK.out _ _ (HSS.out _ W1.out) (fun hHeld => ?_)
            clear hK K
            (try simp only [Act.put, List.setIfInBounds_toArray, List.set_cons_zero, List.set_cons_succ])
            refine anyH_take 7 (v := ?_) rfl (by kernel_rfl) (by kernel_rfl) (by kernel_rfl) (fun _ _ _ h => h) (by rfl) hHeld ?_ ?_
            rotate_left
            · (intro w hSw; (try dsimp only at hSw); go_split_ands; go_simp; try with_reducible rfl)
            (try simp only [Act.put, List.setIfInBounds_toArray, List.set_cons_zero, List.set_cons_succ])
            refine anyH_take 8 (v := ?_) rfl (by kernel_rfl) (by kernel_rfl) (by kernel_rfl) (fun _ _ _ h => h) (by rfl) hHeld ?_ ?_
            rotate_left
            · (intro w hSw; (try dsimp only at hSw); go_split_ands; go_simp; try with_reducible rfl)
            (try simp only [Act.put, List.setIfInBounds_toArray, List.set_cons_zero, List.set_cons_succ])
            refine anyH_take 9 (v := ?_) rfl (by kernel_rfl) (by kernel_rfl) (by kernel_rfl) (fun _ _ _ h => h) (by rfl) hHeld ?_ ?_
            rotate_left
            · (intro w hSw; (try dsimp only at hSw); go_split_ands; go_simp; try with_reducible rfl)
            (try simp only [Act.put, List.setIfInBounds_toArray, List.set_cons_zero, List.set_cons_succ])
            refine anyH_take 10 (v := ?_) rfl (by kernel_rfl) (by kernel_rfl) (by kernel_rfl) (fun _ _ _ h => h) (by rfl) hHeld ?_ ?_
            rotate_left
            · (intro w hSw; (try dsimp only at hSw); go_split_ands; go_simp; try with_reducible rfl)
            (try simp only [Act.put, List.setIfInBounds_toArray, List.set_cons_zero, List.set_cons_succ])
            refine anyH_take 12 (v := ?_) rfl (by kernel_rfl) (by kernel_rfl) (by kernel_rfl) (fun _ _ _ h => h) (by rfl) hHeld ?_ ?_
            rotate_left
            · (intro w hSw; (try dsimp only at hSw); go_split_ands; go_simp; try with_reducible rfl)
            (try simp only [Act.put, List.setIfInBounds_toArray, List.set_cons_zero, List.set_cons_succ])
            refine anyH_take 13 (v := ?_) rfl (by kernel_rfl) (by kernel_rfl) (by kernel_rfl) (fun _ _ _ h => h) (by rfl) hHeld ?_ ?_
            rotate_left
            · (intro w hSw; (try dsimp only at hSw); go_split_ands; go_simp; try with_reducible rfl)
            (try simp only [Act.put, List.setIfInBounds_toArray, List.set_cons_zero, List.set_cons_succ])
            refine anyH_take 14 (v := ?_) rfl (by kernel_rfl) (by kernel_rfl) (by kernel_rfl) (fun _ _ _ h => h) (by rfl) hHeld ?_ ?_
            rotate_left
            · (intro w hSw; (try dsimp only at hSw); go_split_ands; go_simp; try with_reducible rfl)
            (try simp only [Act.put, List.setIfInBounds_toArray, List.set_cons_zero, List.set_cons_succ])
            refine anyH_take 15 (v := ?_) rfl (by kernel_rfl) (by kernel_rfl) (by kernel_rfl) (fun _ _ _ h => h) (by rfl) hHeld ?_ ?_
            rotate_left
            · (intro w hSw; (try dsimp only at hSw); go_split_ands; go_simp; try with_reducible rfl)
            (try simp only [Act.put, List.setIfInBounds_toArray, List.set_cons_zero, List.set_cons_succ])
            refine anyH_one 11 rfl (by kernel_rfl) (fun K hK => ?_)
            go_simp
            refine (lbook_calls (HDZ.out.pl.below W1.out) HBOK.out).mono ?_
            rintro e_ i2 ⟨o5, rfl, hO5, hb⟩
            have HO5 := hid (Kd.any hO5.K)
            obtain ⟨A5, n5, c5, rfl, hn5, _⟩ := hO5.shape'
            clear hO5 hn5
            have W2 := hid (bThen W1.out hb)
            clear hb
            go_simp
            refine hK.out _ _ (HSS.out _ W2.out) (fun hHeld => ?_)
            clear hK K
            (try simp only [Act.put, List.setIfInBounds_toArray, List.set_cons_zero, List.set_cons_succ])
            refine anyH_one 16 rfl (by kernel_rfl) (fun K hK => ?_)
            go_simp
            refine (same20_calls b3 _ _ i2 HO5.out (Kd.below HKA4.out W2.out)).mono ?_
            rintro e_ i3 ⟨rfl, hb⟩
            have W3 := hid (bThen W2.out hb)
            clear hb
            go_simp
            refine hK.out _ _ (HSS.out _ W3.out) (fun hHeld => ?_)
            clear hK K
            (try simp only [Act.put, List.setIfInBounds_toArray, List.set_cons_zero, List.set_cons_succ])
            refine anyH_take 17 (v := ?_) rfl (by kernel_rfl) (by kernel_rfl) (by kernel_rfl) (fun _ _ _ h => h) (by rfl) hHeld ?_ ?_
            rotate_left
            · (intro w hSw; (try dsimp only at hSw); go_split_ands; go_simp; try with_reducible rfl)
            (try simp only [Act.put, List.setIfInBounds_toArray, List.set_cons_zero, List.set_cons_succ])
            refine anyH_take 18 (v := ?_) rfl (by kernel_rfl) (by kernel_rfl) (by kernel_rfl) (fun _ _ _ h => h) (by rfl) hHeld ?_ ?_
            rotate_left
            · (intro w hSw; (try dsimp only at hSw); go_split_ands; go_simp; try with_reducible rfl)
            (try simp only [Act.put, List.setIfInBounds_toArray, List.set_cons_zero, List.set_cons_succ])
            refine anyH_take 19 (v := ?_) rfl (by kernel_rfl) (by kernel_rfl) (by kernel_rfl) (fun _ _ _ h => h) (by rfl) hHeld ?_ ?_
            rotate_left
            · (intro w hSw; (try dsimp only at hSw); go_split_ands; go_simp; try with_reducible rfl)
            (try simp only [Act.put, List.setIfInBounds_toArray, List.set_cons_zero, List.set_cons_succ])
            refine anyH_take 20 (v := ?_) rfl (by kernel_rfl) (by kernel_rfl) (by kernel_rfl) (fun _ _ _ h => h) (by rfl) hHeld ?_ ?_
            rotate_left
            · (intro w hSw; (try dsimp only at hSw); go_split_ands; go_simp; try with_reducible rfl)
            (try simp only [Act.put, List.setIfInBounds_toArray, List.set_cons_zero, List.set_cons_succ])
            refine anyH_take 22 (v := ?_) rfl (by kernel_rfl) (by kernel_rfl) (by kernel_rfl) (fun _ _ _ h => h) (by rfl) hHeld ?_ ?_
            rotate_left
            · (intro w hSw; (try dsimp only at hSw); go_split_ands; go_simp; try with_reducible rfl)
            (try simp only [Act.put, List.setIfInBounds_toArray, List.set_cons_zero, List.set_cons_succ])
            refine anyH_one 21 rfl (by kernel_rfl) (fun K hK => ?_)
            go_simp
            have hst := lkept_calls (HDZ.out.pl.below W3.out) HBOK.out
            rw [← HKL.out] at hst
            refine hst.mono ?_
            clear hst
            rintro e_ i4 ⟨rfl, hb⟩
            have W4 := hid (bThen W3.out hb)
            clear hb
            go_simp
            refine hK.out _ _ (HSS.out _ W4.out) (fun hHeld => ?_)
            clear hK K
            (try simp only [Act.put, List.setIfInBounds_toArray, List.set_cons_zero, List.set_cons_succ])
            refine anyH_one 23 rfl (by kernel_rfl) (fun K hK => ?_)
            go_simp
            have hst := rkept_calls (HDZ.out.rl.below W4.out) HBOK.out
            rw [← HKL.out] at hst
            refine hst.mono ?_
            clear hst
            rintro e_ i5 ⟨rfl, hb⟩
            have W5 := hid (bThen W4.out hb)
            clear hb
            go_simp
            refine hK.out _ _ (HSS.out _ W5.out) (fun hHeld => ?_)
            clear hK K
            (try simp only [Act.put, List.setIfInBounds_toArray, List.set_cons_zero, List.set_cons_succ])
            refine anyH_take 24 (v := ?_) rfl (by kernel_rfl) (by kernel_rfl) (by kernel_rfl) (fun _ _ _ h => h) (by rfl) hHeld ?_ ?_
            rotate_left
            · (intro w hSw; (try dsimp only at hSw); go_split_ands; go_simp; try with_reducible rfl)
            (try simp only [Act.put, List.setIfInBounds_toArray, List.set_cons_zero, List.set_cons_succ])
            refine anyH_take 25 (v := ?_) rfl (by kernel_rfl) (by kernel_rfl) (by kernel_rfl) (fun _ _ _ h => h) (by rfl) hHeld ?_ ?_
            rotate_left
            · (intro w hSw; (try dsimp only at hSw); go_split_ands; go_simp; try with_reducible rfl)
            (try simp only [Act.put, List.setIfInBounds_toArray, List.set_cons_zero, List.set_cons_succ])
            refine anyH_take 26 (v := ?_) rfl (by kernel_rfl) (by kernel_rfl) (by kernel_rfl) (fun _ _ _ h => h) (by rfl) hHeld ?_ ?_
            rotate_left
            · (intro w hSw; (try dsimp only at hSw); go_split_ands; go_simp; try with_reducible rfl)
            (try simp only [Act.put, List.setIfInBounds_toArray, List.set_cons_zero, List.set_cons_succ])
            refine anyH_take 27 (v := ?_) rfl (by kernel_rfl) (by kernel_rfl) (by kernel_rfl) (fun _ _ _ h => h) (by rfl) hHeld ?_ ?_
            rotate_left
            · (intro w hSw; (try dsimp only at hSw); go_split_ands; go_simp; try with_reducible rfl)
            (try simp only [Act.put, List.setIfInBounds_toArray, List.set_cons_zero, List.set_cons_succ])
            refine anyH_take 29 (v := ?_) rfl (by kernel_rfl) (by kernel_rfl) (by kernel_rfl) (fun _ _ _ h => h) (by rfl) hHeld ?_ ?_
            rotate_left
            · (intro w hSw; (try dsimp only at hSw); go_split_ands; go_simp; try with_reducible rfl)
            (try simp only [Act.put, List.setIfInBounds_toArray, List.set_cons_zero, List.set_cons_succ])
            refine anyH_take 30 (v := ?_) rfl (by kernel_rfl) (by kernel_rfl) (by kernel_rfl) (fun _ _ _ h => h) (by rfl) hHeld ?_ ?_
            rotate_left
            · (intro w hSw; (try dsimp only at hSw); go_split_ands; go_simp; try with_reducible rfl)
            (try simp only [Act.put, List.setIfInBounds_toArray, List.set_cons_zero, List.set_cons_succ])
            refine anyH_take 31 (v := ?_) rfl (by kernel_rfl) (by kernel_rfl) (by kernel_rfl) (fun _ _ _ h => h) (by rfl) hHeld ?_ ?_
            rotate_left
            · (intro w hSw; (try dsimp only at hSw); go_split_ands; go_simp; try with_reducible rfl)
            (try simp only [Act.put, List.setIfInBounds_toArray, List.set_cons_zero, List.set_cons_succ])
            refine anyH_take 32 (v := ?_) rfl (by kernel_rfl) (by kernel_rfl) (by kernel_rfl) (fun _ _ _ h => h) (by rfl) hHeld ?_ ?_
            rotate_left
            · (intro w hSw; (try dsimp only at hSw); go_split_ands; go_simp; try with_reducible rfl)
            (try simp only [Act.put, List.setIfInBounds_toArray, List.set_cons_zero, List.set_cons_succ])
            refine anyH_take 33 (v := ?_) rfl (by kernel_rfl) (by kernel_rfl) (by kernel_rfl) (fun _ _ _ h => h) (by rfl) hHeld ?_ ?_
            rotate_left
            · (intro w hSw; (try dsimp only at hSw); go_split_ands; go_simp; try with_reducible rfl)
            (try simp only [Act.put, List.setIfInBounds_toArray, List.set_cons_zero, List.set_cons_succ])
            refine anyH_take 34 (v := ?_) rfl (by kernel_rfl) (by kernel_rfl) (by kernel_rfl) (fun _ _ _ h => h) (by rfl) hHeld ?_ ?_
            rotate_left
            · (intro w hSw; (try dsimp only at hSw); go_split_ands; go_simp; try with_reducible rfl)
            (try simp only [Act.put, List.setIfInBounds_toArray, List.set_cons_zero, List.set_cons_succ])
            refine anyH_take 35 (v := ?_) rfl (by kernel_rfl) (by kernel_rfl) (by kernel_rfl) (fun _ _ _ h => h) (by rfl) hHeld ?_ ?_
            rotate_left
            · (intro w hSw; (try dsimp only at hSw); go_split_ands; go_simp; try with_reducible rfl)
            (try simp only [Act.put, List.setIfInBounds_toArray, List.set_cons_zero, List.set_cons_succ])
            refine anyH_one 28 rfl (by kernel_rfl) (fun K hK => ?_)
            go_simp
            refine (ldown_calls (HDZ.out.pl.below W5.out)).mono ?_
            rintro e_ i6 ⟨rfl, hb⟩
            have W6 := hid (bThen W5.out hb)
            clear hb
            go_simp
            refine hK.out _ _ (HSS.out _ W6.out) (fun hHeld => ?_)
            clear hK K
            (try simp only [Act.put, List.setIfInBounds_toArray, List.set_cons_zero, List.set_cons_succ])
            refine anyH_take 36 (v := ?_) rfl (by kernel_rfl) (by kernel_rfl) (by kernel_rfl) (fun _ _ _ h => h) (by rfl) hHeld ?_ ?_
            rotate_left
            · (intro w hSw; (try dsimp only at hSw); go_split_ands; go_simp; try with_reducible rfl)
            (try simp only [Act.put, List.setIfInBounds_toArray, List.set_cons_zero, List.set_cons_succ])
            refine anyH_take 37 (v := ?_) rfl (by kernel_rfl) (by kernel_rfl) (by kernel_rfl) (fun _ _ _ h => h) (by rfl) hHeld ?_ ?_
            rotate_left
            · (intro w hSw; (try dsimp only at hSw); go_split_ands; go_simp; try with_reducible rfl)
            (try simp only [Act.put, List.setIfInBounds_toArray, List.set_cons_zero, List.set_cons_succ])
            refine anyH_take 38 (v := ?_) rfl (by kernel_rfl) (by kernel_rfl) (by kernel_rfl) (fun _ _ _ h => h) (by rfl) hHeld ?_ ?_
            rotate_left
            · (intro w hSw; (try dsimp only at hSw); go_split_ands; go_simp; try with_reducible rfl)
            (try simp only [Act.put, List.setIfInBounds_toArray, List.set_cons_zero, List.set_cons_succ])
            refine anyH_take 39 (v := ?_) rfl (by kernel_rfl) (by kernel_rfl) (by kernel_rfl) (fun _ _ _ h => h) (by rfl) hHeld ?_ ?_
            rotate_left
            · (intro w hSw; (try dsimp only at hSw); go_split_ands; go_simp; try with_reducible rfl)
            (try simp only [Act.put, List.setIfInBounds_toArray, List.set_cons_zero, List.set_cons_succ])
            refine anyH_take 41 (v := ?_) rfl (by kernel_rfl) (by kernel_rfl) (by kernel_rfl) (fun _ _ _ h => h) (by rfl) hHeld ?_ ?_
            rotate_left
            · (intro w hSw; (try dsimp only at hSw); go_split_ands; go_simp; try with_reducible rfl)
            (try simp only [Act.put, List.setIfInBounds_toArray, List.set_cons_zero, List.set_cons_succ])
            refine anyH_take 42 (v := ?_) rfl (by kernel_rfl) (by kernel_rfl) (by kernel_rfl) (fun _ _ _ h => h) (by rfl) hHeld ?_ ?_
            rotate_left
            · (intro w hSw; (try dsimp only at hSw); go_split_ands; go_simp; try with_reducible rfl)
            (try simp only [Act.put, List.setIfInBounds_toArray, List.set_cons_zero, List.set_cons_succ])
            refine anyH_take 43 (v := ?_) rfl (by kernel_rfl) (by kernel_rfl) (by kernel_rfl) (fun _ _ _ h => h) (by rfl) hHeld ?_ ?_
            rotate_left
            · (intro w hSw; (try dsimp only at hSw); go_split_ands; go_simp; try with_reducible rfl)
            (try simp only [Act.put, List.setIfInBounds_toArray, List.set_cons_zero, List.set_cons_succ])
            refine anyH_take 44 (v := ?_) rfl (by kernel_rfl) (by kernel_rfl) (by kernel_rfl) (fun _ _ _ h => h) (by rfl) hHeld ?_ ?_
            rotate_left
            · (intro w hSw; (try dsimp only at hSw); go_split_ands; go_simp; try with_reducible rfl)
            (try simp only [Act.put, List.setIfInBounds_toArray, List.set_cons_zero, List.set_cons_succ])
            refine anyH_take 45 (v := ?_) rfl (by kernel_rfl) (by kernel_rfl) (by kernel_rfl) (fun _ _ _ h => h) (by rfl) hHeld ?_ ?_
            rotate_left
            · (intro w hSw; (try dsimp only at hSw); go_split_ands; go_simp; try with_reducible rfl)
            (try simp only [Act.put, List.setIfInBounds_toArray, List.set_cons_zero, List.set_cons_succ])
            refine anyH_take 46 (v := ?_) rfl (by kernel_rfl) (by kernel_rfl) (by kernel_rfl) (fun _ _ _ h => h) (by rfl) hHeld ?_ ?_
            rotate_left
            · (intro w hSw; (try dsimp only at hSw); go_split_ands; go_simp; try with_reducible rfl)
            (try simp only [Act.put, List.setIfInBounds_toArray, List.set_cons_zero, List.set_cons_succ])
            refine anyH_take 47 (v := ?_) rfl (by kernel_rfl) (by kernel_rfl) (by kernel_rfl) (fun _ _ _ h => h) (by rfl) hHeld ?_ ?_
            rotate_left
            · (intro w hSw; (try dsimp only at hSw); go_split_ands; go_simp; try with_reducible rfl)
            (try simp only [Act.put, List.setIfInBounds_toArray, List.set_cons_zero, List.set_cons_succ])
            refine anyH_take 48 (v := ?_) rfl (by kernel_rfl) (by kernel_rfl) (by kernel_rfl) (fun _ _ _ h => h) (by rfl) hHeld ?_ ?_
            rotate_left
            · (intro w hSw; (try dsimp only at hSw); go_split_ands; go_simp; try with_reducible rfl)
            (try simp only [Act.put, List.setIfInBounds_toArray, List.set_cons_zero, List.set_cons_succ])
            refine anyH_one 40 rfl (by kernel_rfl) (fun K hK => ?_)
            go_simp
            refine (llen_calls (HDZ.out.pl.below W6.out)).mono ?_
            rintro e_ i7 ⟨rfl, hb⟩
            have W7 := hid (bThen W6.out hb)
            clear hb
            go_simp
            refine hK.out _ _ (HSS.out _ W7.out) (fun hHeld => ?_)
            clear hK K
            (try simp only [Act.put, List.setIfInBounds_toArray, List.set_cons_zero, List.set_cons_succ])
            refine anyH_take 49 (v := ?_) rfl (by kernel_rfl) (by kernel_rfl) (by kernel_rfl) (fun _ _ _ h => h) (by rfl) hHeld ?_ ?_
            rotate_left
            · (intro w hSw; (try dsimp only at hSw); go_split_ands; go_simp; try with_reducible rfl)
            (try simp only [Act.put, List.setIfInBounds_toArray, List.set_cons_zero, List.set_cons_succ])
            refine anyH_take 50 (v := ?_) rfl (by kernel_rfl) (by kernel_rfl) (by kernel_rfl) (fun _ _ _ h => h) (by rfl) hHeld ?_ ?_
            rotate_left
            · (intro w hSw; (try dsimp only at hSw); go_split_ands; go_simp; try with_reducible rfl)
            (try simp only [Act.put, List.setIfInBounds_toArray, List.set_cons_zero, List.set_cons_succ])
            refine wpAnyH_done (by kernel_rfl) ?_ _
            have HEND := hid (bThen HBZ.out W7.out)
            have HDE := hid (HDZ.out.below W7.out)
            have HLS := hid (show LSt i7 V.heap.size V.heap.size w2.heap.size r1 (k + 1) (.pointer (some ⟨gl, 0, none⟩)) (.int .i64 0) (.pointer (some ⟨gr, 0, none⟩)) (.int .i64 0) from .inl ⟨F3, T3, gl, ga3, gr, gw3, D3, R3, l3, dn3, b3, rfl, rfl, rfl, rfl, HDE.out, HLE3.out⟩)
            clear hHeld q1
            go_wp2
            go_roundw
            case rel => exact ⟨k + 1, by omega, by go_num, HLS, HEND⟩
            case measure => simp [intOf]; omega
theorem ledgerPlays_walk (W : World) (y0 : Int × Int) (v0 : Value) (cs : Array Value) (hv : v0 = .agg cs) (K0 : (Kd.pair I64 I64).K W Any y0 cs.toList) (_w0 : (Lit.int .i64 y0.1).wf = true ∧ (Lit.int .i64 y0.2).wf = true) (was : List UInt8) (v1 : Value) (K1 : Kd.u8.slice.K W Any was [v1]) (_w1 : (∀ y ∈ was, True) ∧ was.length * 1 ≤ 140737488351232)
    (acts : List Act21) (v2 : Value) (K2 : Kd.act21.slice.K W Any acts [v2]) (w2 : (∀ y ∈ acts, okAct21 y) ∧ acts.length * 88 ≤ 140737488351232) :
    Calls Tryz.prog 3 #[v0, v1, v2] W fun e w' => e = .returned (.bool true) ∧ Below W.heap.size W w' := by
  obtain ⟨A, c, he, _⟩ := id K1
  injection he with he _
  subst he
  obtain ⟨L, d, he, _⟩ := id K2
  injection he with he _
  subst he
  obtain ⟨c0, c1, h1, h2, h3⟩ := K0
  have h2 : c0 = [.int .i64 y0.1] := h2
  have h3 : c1 = [.int .i64 y0.2] := h3
  subst h2
  subst h3
  have hcs : cs = #[.int .i64 y0.1, .int .i64 y0.2] := by
    have := congrArg List.toArray h1
    simpa using this
  subst hcs
  subst hv
  exact ledgerPlaysLaw_calls W y0.1 y0.2 was A c acts L d K1 K2 w2.1
end Go.Proofs.YtkjncmmombkllaaGreat
