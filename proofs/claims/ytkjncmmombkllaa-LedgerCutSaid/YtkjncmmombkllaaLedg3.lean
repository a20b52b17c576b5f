/- ledger.Open. -/
import Derived.Test.YtkjncmmombkllaaLedg2
import Derived.Test.YtkjncmmombkllaaBase
namespace Go.Proofs.Ytkjncmmombkllaa
open Go.RowKit Go.Lib

theorem foldB_le : ∀ (l : List RecS) (b : List EntryS) (n : Nat), (foldB l b n).2 ≤ n + l.length
  | [], _, _ => Nat.le_refl _
  | x :: r, b, n => by
    unfold foldB
    split
    · exact Nat.le_add_right _ _
    · have := foldB_le r (nextB b x) (n + 1)
      simp only [List.length_cons]
      omega
theorem LgAt.disk {w : World} {F : Nat → Prop} {gl ga gd : Nat} {D : DiskS} {l : List RecS} {down : Bool} {b : List EntryS} {room : Int} (h : LgAt w F gl ga gd D l down b room) : ∃ TD, (∀ k, TD k → F k) ∧ DiskAt w TD gd D := by
  obtain ⟨FP, SB, v, ⟨T, TD, h1, h2, h3, h4, h5⟩, k2, _⟩ := h
  exact ⟨TD, fun k hk => k2 k (h2 k hk), h5⟩
set_option maxHeartbeats 4000000 in
set_option maxRecDepth 100000 in
theorem lopen_nil (room : Int) (w : World) : Calls Try.prog 7 #[.pointer none, .int .i64 room] w fun e w' => e = .returned (.tuple #[.pointer none, .int .i64 1]) ∧ w = w' := by
  go_enter Try.func7, Try.ntmps7
  go_wp2
  go_ret2
  exact ⟨rfl, rfl⟩
set_option maxHeartbeats 4000000 in
set_option maxRecDepth 100000 in
theorem lopen_no (a : Addr) (room : Int) (w : World) (h : room < 0 ∨ 65536 < room) : Calls Try.prog 7 #[.pointer (some a), .int .i64 room] w fun e w' => e = .returned (.tuple #[.pointer none, .int .i64 1]) ∧ w = w' := by
  by_cases h0 : room < 0
  · have hd : decide (room < 0) = true := decide_eq_true h0
    clear h
    go_enter Try.func7, Try.ntmps7
    go_wp2
    go_ret2
    exact ⟨rfl, rfl⟩
  · have h1 : 65536 < room := by omega
    have hd : decide (room < 0) = false := decide_eq_false h0
    have hd2 : decide (65536 < room) = true := decide_eq_true h1
    clear h
    go_enter Try.func7, Try.ntmps7
    go_wp2
    go_ret2
    exact ⟨rfl, rfl⟩
set_option maxHeartbeats 4000000 in
set_option maxRecDepth 100000 in
theorem lopen_calls {w : World} {TD : Nat → Prop} {gd : Nat} {D : DiskS} (hd : DiskAt w TD gd D) (room : Int) (h0 : 0 ≤ room) (h1 : room ≤ 65536) (rs : List RecS) (q : Nat) (hq : recsS D.b = (rs, q)) :
    Calls Try.prog 7 #[.pointer (some ⟨gd, 0, none⟩), .int .i64 room] w fun e w' =>
      ((foldB rs [] 0).2 < rs.length ∧ e = .returned (.tuple #[.pointer none, .int .i64 3]) ∧ DiskAt w' (fun k => TD k ∨ w.heap.size ≤ k) gd ⟨D.b.take q, D.room, D.fuse⟩ ∧ Mod TD w w') ∨
      (¬ (foldB rs [] 0).2 < rs.length ∧ ∃ gl ga, e = .returned (.tuple #[.pointer (some ⟨gl, 0, none⟩), .int .i64 0]) ∧ w.heap.size ≤ gl ∧ LgAt w' (fun k => TD k ∨ w.heap.size ≤ k) gl ga gd ⟨D.b.take q, D.room, D.fuse⟩ rs false (foldB rs [] 0).1 room ∧ Mod TD w w') := by
  have HD := hid (hd.mono (T' := fun k => TD k ∧ k < w.heap.size) (fun k a b => ⟨b, a⟩))
  have HFO := hid (firstOpen_calls (w := w) HD.out)
  rw [hq] at HFO
  have HRK := hid (show ∀ x ∈ rs, recOk x = true from by have := (recsS_bytes D.b).2.2.1; rw [hq] at this; exact this)
  have hle := foldB_le rs [] 0
  have HBL := hid hle
  have hd1 : decide (room < 0) = false := decide_eq_false (by omega)
  have hd2 : decide (65536 < room) = false := decide_eq_false (by omega)
  have hn1 : ¬ room < 0 := by omega
  have hn2 : ¬ 65536 < room := by omega
  obtain ⟨n, hn⟩ : ∃ n, n = rs.length := ⟨_, rfl⟩
  have HN := hid hn
  rw [← hn]
  obtain ⟨R, hR⟩ : ∃ R, R = foldB rs [] 0 := ⟨_, rfl⟩
  have HR := hid hR
  rw [← hR]
  clear hd hq hle hn hR h0 h1
  go_enter Try.func7, Try.ntmps7
  go_wp2_with fail
  refine HFO.out.mono ?_
  rintro e w1 ⟨ga, rfl, hp1, hm1⟩
  have HP1 := hid hp1
  have HM1 := hid hm1
  clear hp1 hm1
  go_wp2_with fail
  refine (pairRecords_calls HP1.out HRK.out).mono ?_
  rintro e w2 ⟨A2, n2, c2, rfl, hO2, hb2⟩
  have hn2' : n2 = n := by
    obtain ⟨A', c', he, _⟩ := hO2.shape
    injection he with he he2 _
    rw [he2, HN.out]
  subst hn2'
  have HK2 := hid (Kd.any (Own.K hO2))
  have HB2 := hid hb2
  clear hO2 hb2
  go_wp2_with fail
  refine (bfold_calls rs _ w2 HK2.out).mono ?_
  rintro e w3 ⟨o, rfl, hK3, hb3⟩
  rw [← HR.out] at hK3 ⊢
  have HK3 := hid hK3
  have HB3 := hid (bThen HB2.out hb3)
  obtain ⟨Ao, co, he, _, _, _⟩ := hK3
  injection he with he _
  subst he
  clear hb3
  have HP3 := hid (HP1.out.below HB3.out)
  have s1 := HM1.out.size
  have s3 := HB3.out.size
  have S2 := hid HB2.out.size
  by_cases hlt : R.2 < n2
  · have hltI : (R.2 : Int) < (n2 : Int) := by omega
    have HLT := hid hlt
    have HDK := hid (show DiskAt w3 (fun k => TD k ∨ w.heap.size ≤ k) gd ⟨D.b.take q, D.room, D.fuse⟩ from by
      obtain ⟨T, TD', a1, a2, a3, a4, a5⟩ := HP3.out
      exact a5.mono (fun k _ hk => (a2 k hk).elim (fun h => .inl h.1) .inr))
    have HM3 := hid (show Mod TD w w3 from (HM1.out.then_below HB3.out).mono (fun k _ h => h.1))
    clear hlt
    go_wp2
    go_ret2
    exact .inl ⟨HLT.out, rfl, HDK.out, HM3.out⟩
  have hltI : ¬ (R.2 : Int) < (n2 : Int) := by omega
  have HLT := hid hlt
  obtain ⟨W4, hW4⟩ : ∃ W, W = w3.alloc (.cells #[.pointer (some ⟨ga, 0, none⟩), .slice Ao R.1.length co, .int .i64 room] 54) := ⟨_, rfl⟩
  have HB4 := hid (show Below w3.heap.size w3 W4 by rw [hW4]; exact bAlloc (Below.refl _ _) _)
  have HZ4 := hid (show W4.heap[w3.heap.size]? = some (.cells #[.pointer (some ⟨ga, 0, none⟩), .slice Ao R.1.length co, .int .i64 room] 54 (0, 0)) by rw [hW4]; exact heap_at rfl)
  have HLG := hid (show LgAt W4 (fun k => TD k ∨ w.heap.size ≤ k) w3.heap.size ga gd ⟨D.b.take q, D.room, D.fuse⟩ rs false R.1 room from
    ⟨fun k => ((TD k ∧ k < w.heap.size) ∨ w.heap.size ≤ k) ∧ k < w1.heap.size, fun k => w2.heap.size ≤ k ∧ k < w3.heap.size, .slice Ao R.1.length co,
      ((HP1.out.mono (F' := fun k => ((TD k ∧ k < w.heap.size) ∨ w.heap.size ≤ k) ∧ k < w1.heap.size) (fun k a b => ⟨b, a⟩)).below HB3.out).below HB4.out, fun k hk => hk.1.elim (fun h => .inl h.1) .inr, .inr (by omega), fun h => by have := h.2; omega, HZ4.out,
      Kd.below (Kd.mono _ (fun k (a : w2.heap.size ≤ k) b => ⟨a, b⟩) HK3.out) HB4.out, fun k hk => ⟨.inr (by have := S2.out; omega), fun h => by have := S2.out; omega, by omega⟩⟩)
  have HM4 := hid (show Mod TD w W4 from (HM1.out.then_below (bThen HB3.out HB4.out)).mono (fun k _ h => h.1))
  have HS4 := hid (show w.heap.size ≤ w3.heap.size by omega)
  have hEq := hW4.symm
  clear hW4 hlt s1 s3
  go_wp2
  go_ret2
  exact .inr ⟨HLT.out, _, _, rfl, HS4.out, HLG.out, HM4.out⟩
end Go.Proofs.Ytkjncmmombkllaa
