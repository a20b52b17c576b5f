/- LedgerPlays: both ledgers opened; what is between two acts. -/
import Derived.Test.YtkjncmmombkllaaGreatPlays1
import Derived.Test.YtkjncmmombkllaaGreatBase
namespace Go.Proofs.YtkjncmmombkllaaGreat
open Go.RowKit Go.Lib

/-- An entry whose lists lie in S. -/
structure EIn (w : World) (S : Nat → Prop) (E : EntryS) (EA EB ED : Option Addr) (ea eb ed : Nat) : Prop where
  needs : Kd.str.slice.K w S E.needs [.slice EA E.needs.length ea]
  bound : I64.slice.K w S E.bound [.slice EB E.bound.length eb]
  done : Kd.bool.slice.K w S E.done [.slice ED E.done.length ed]
theorem EIn.below {w w1 : World} {S : Nat → Prop} {E : EntryS} {EA EB ED : Option Addr} {ea eb ed : Nat} (h : EIn w S E EA EB ED ea eb ed) (hb : Below w.heap.size w w1) : EIn w1 S E EA EB ED ea eb ed := ⟨Kd.below h.needs hb, Kd.below h.bound hb, Kd.below h.done hb⟩
theorem EIn.away6 {w w1 : World} {S : Nat → Prop} {E : EntryS} {EA EB ED : Option Addr} {ea eb ed : Nat} (h : EIn w S E EA EB ED ea eb ed) (hN : ∀ j, S j → w1.heap[j]? = w.heap[j]?) : EIn w1 S E EA EB ED ea eb ed := ⟨Kd.str.slice.move (fun j hj _ => hN j hj) h.needs, I64.slice.move (fun j hj _ => hN j hj) h.bound, Kd.bool.slice.move (fun j hj _ => hN j hj) h.done⟩
theorem EIn.at {w : World} {S : Nat → Prop} {E : EntryS} {EA EB ED : Option Addr} {ea eb ed : Nat} (h : EIn w S E EA EB ED ea eb ed) : EAt w E EA EB ED ea eb ed := ⟨Kd.any h.needs, Kd.any h.bound, Kd.any h.done⟩
set_option maxHeartbeats 4000000 in
set_option maxRecDepth 100000 in
theorem rfind20S_calls (S : Nat → Prop) (b : List EntryS) (j : Int) (v : Value) (w : World) (hb : Kd.entry.slice.K w S b [v]) (hS : ∀ k, S k → k < w.heap.size) :
    Calls Tryz.prog 17 #[v, .int .i64 j] w fun e w' => ∃ FA FB FD fa fb fd, e = .returned (.tuple #[.agg #[.int .i64 ((findE b j).getD zeroE).id, .int .i64 ((findE b j).getD zeroE).sched, .int .i64 ((findE b j).getD zeroE).epoch, .slice FA ((findE b j).getD zeroE).needs.length fa, .slice FB ((findE b j).getD zeroE).bound.length fb, .slice FD ((findE b j).getD zeroE).done.length fd], .bool (findE b j).isSome]) ∧ EIn w' S ((findE b j).getD zeroE) FA FB FD fa fb fd ∧ Below w.heap.size w w' := by
  obtain ⟨W0, hW0⟩ : ∃ W0, W0 = w.alloc (.cells #[.int .i64 0, .int .i64 0, .int .i64 0, .slice none 0 0, .slice none 0 0, .slice none 0 0] 55) := ⟨_, rfl⟩
  have b0 := hid (show Below w.heap.size w W0 by rw [hW0]; exact bAlloc (Below.refl _ _) _)
  have HZ0 := hid (show W0.heap[w.heap.size]? = some (.cells #[.int .i64 0, .int .i64 0, .int .i64 0, .slice none 0 0, .slice none 0 0, .slice none 0 0] 55 (0, 0)) by rw [hW0]; exact heap_at rfl)
  have HK := hid (Kd.entry.slice.move (w1 := W0) (fun k hk _ => b0.out.block k (hS k hk)) hb)
  obtain ⟨A, c, he, hc, hm, _⟩ := hb
  injection he with he _
  subst he
  have hEq := hW0.symm
  obtain ⟨q, hq⟩ : ∃ q, q = b.length := ⟨_, rfl⟩
  have HQ := hid hq
  rw [← hq] at hc hm HK ⊢
  clear hW0 hq
  go_enter Tryz.func17, Tryz.ntmps17
  go_wp2_with fail
  refine (rplace_calls20 b j _ W0 (Kd.any HK.out)).mono ?_
  rintro e w1 ⟨rfl, rfl⟩
  by_cases hp : 0 ≤ placeE b j
  · obtain ⟨k, E, hpk, hx, _, hkl⟩ := idxE_some hp
    have hpk' : placeE b j = k := hpk
    have HFE := hid (findE_some hpk' hx)
    rw [hpk']
    have hk0 : (0 : Int) ≤ (k : Int) := by omega
    have hkq : (k : Int) < (q : Int) := by rw [HQ.out]; omega
    obtain ⟨a, E', EA, EB, ED, ea, eb, ed, rfl, hx', k1, k2, k3, r0, r1, r2, r3, r4, r5⟩ := (K_row HK.out).1.at_entry k hkl
    rw [hx] at hx'
    obtain rfl := Option.some.inj hx'
    obtain ⟨W', hW', _, T0, T1, T2, T3, T4, T5, TB, TN, _⟩ := set6 HZ0.out (.int .i64 E.id) (.int .i64 E.sched) (.int .i64 E.epoch) (.slice EA E.needs.length ea) (.slice EB E.bound.length eb) (.slice ED E.done.length ed)
    obtain ⟨p5, g5, l5⟩ := cells_of_block HZ0.out
    have q0 := p5 0 _ rfl
    have q1 := p5 1 _ rfl
    have q2 := p5 2 _ rfl
    have q3 := p5 3 _ rfl
    have q4 := p5 4 _ rfl
    have q5 := p5 5 _ rfl
    have u0 := g5 0
    have u1 := g5 1
    have u2 := g5 2
    have u3 := g5 3
    have u4 := g5 4
    have u5 := g5 5
    have B4 := hid (show Below w.heap.size w W' from b0.out.trans TB)
    have M1 := hid (Kd.str.slice.move (w1 := W') (fun k hk _ => TN k (by have := hS k hk; omega)) k1)
    have M2 := hid (I64.slice.move (w1 := W') (fun k hk _ => TN k (by have := hS k hk; omega)) k2)
    have M3 := hid (Kd.bool.slice.move (w1 := W') (fun k hk _ => TN k (by have := hS k hk; omega)) k3)
    clear p5 g5 TB TN k1 k2 k3 hpk hx hp hpk' hx'
    go_wp2
    rw [← hW']
    refine bodyPost_ret (by simp [results, Tryz.results17, go_sem, T0, T1, T2, T3, T4, T5]; try rfl) rfl ?_
    rw [HFE.out]
    simp only [Option.getD_some, Option.isSome_some]
    exact ⟨EA, EB, ED, ea, eb, ed, rfl, ⟨M1.out, M2.out, M3.out⟩, B4.out⟩
  · have HFE := hid (findE_none hp)
    have hpn : placeE b j = -1 := idxE_neg hp
    rw [hpn]
    obtain ⟨W', hW', _, T0, T1, T2, T3, T4, T5, TB, TN, _⟩ := set6 HZ0.out (.int .i64 0) (.int .i64 0) (.int .i64 0) (.slice none 0 0) (.slice none 0 0) (.slice none 0 0)
    obtain ⟨p5, g5, l5⟩ := cells_of_block HZ0.out
    have q0 := p5 0 _ rfl
    have q1 := p5 1 _ rfl
    have q2 := p5 2 _ rfl
    have q3 := p5 3 _ rfl
    have q4 := p5 4 _ rfl
    have q5 := p5 5 _ rfl
    have u0 := g5 0
    have u1 := g5 1
    have u2 := g5 2
    have u3 := g5 3
    have u4 := g5 4
    have u5 := g5 5
    have B4 := hid (show Below w.heap.size w W' from b0.out.trans TB)
    clear p5 g5 TB TN hp hpn
    go_wp2
    rw [← hW']
    refine bodyPost_ret (by simp [results, Tryz.results17, go_sem, T0, T1, T2, T3, T4, T5]; try rfl) rfl ?_
    rw [HFE.out]
    exact ⟨none, none, none, 0, 0, 0, rfl, ⟨⟨none, 0, rfl, Nat.le_refl _, by decide, Kd.Row.nil⟩, ⟨none, 0, rfl, Nat.le_refl _, by decide, Kd.Row.nil⟩, ⟨none, 0, rfl, Nat.le_refl _, by decide, Kd.Row.nil⟩⟩, B4.out⟩
/-- How an opening ends. -/
def outC (room : Int) (b : List UInt8) : Int := if room < 0 ∨ 65536 < room then 1 else if (foldB (recsS b).1 [] 0).2 < (recsS b).1.length then 3 else 0
def cutD (room : Int) (D : DiskS) : DiskS := if room < 0 ∨ 65536 < room then D else ⟨D.b.take (recsS D.b).2, D.room, D.fuse⟩
theorem cutD_alike {D R : DiskS} (h : Alike D R) (room : Int) : Alike (cutD room D) (cutD room R) := by
  unfold cutD
  split
  · exact h
  · exact ⟨by rw [h.1], h.2.1, h.2.2⟩
theorem lopen_any {U : World} {B gd gm : Nat} {TD : Nat → Prop} {D R : DiskS} (h : Dks U B gd gm TD D R) (room : Int) :
    Calls Tryz.prog 10 #[.pointer (some ⟨gd, 0, none⟩), .int .i64 room] U fun e U1 => ∃ vl, e = .returned (.tuple #[vl, .int .i64 (outC room D.b)]) ∧
      ((outC room D.b ≠ 0 ∧ vl = .pointer none ∧ DiskAt U1 (fun k => TD k ∨ U.heap.size ≤ k) gd (cutD room D)) ∨
       (outC room D.b = 0 ∧ ∃ gl ga, vl = .pointer (some ⟨gl, 0, none⟩) ∧ LgAt U1 (fun k => TD k ∨ U.heap.size ≤ k) gl ga gd (cutD room D) (recsS D.b).1 false (foldB (recsS D.b).1 [] 0).1 room)) ∧ Mod TD U U1 := by
  by_cases hr : room < 0 ∨ 65536 < room
  · refine (lopen_no _ room U hr).mono ?_
    rintro e w1 ⟨rfl, rfl⟩
    have h1 : outC room D.b = 1 := if_pos hr
    have h2 : cutD room D = D := if_pos hr
    exact ⟨.pointer none, by rw [h1], .inl ⟨by rw [h1]; decide, rfl, by rw [h2]; exact h.pd.mono (fun k _ hk => .inl hk)⟩, Mod.refl _ _⟩
  · refine (lopen_calls h.pd room (by omega) (by omega) (recsS D.b).1 (recsS D.b).2 rfl).mono ?_
    have h2 : cutD room D = ⟨D.b.take (recsS D.b).2, D.room, D.fuse⟩ := if_neg hr
    rintro e w1 (⟨h1, h3, h4, h5⟩ | ⟨h1, gl, ga, h3, _, h4, h5⟩)
    · have h6 : outC room D.b = 3 := by unfold outC; rw [if_neg hr, if_pos h1]
      exact ⟨.pointer none, by rw [h6]; exact h3, .inl ⟨by rw [h6]; decide, rfl, by rw [h2]; exact h4⟩, h5⟩
    · have h6 : outC room D.b = 0 := by unfold outC; rw [if_neg hr, if_neg h1]
      exact ⟨.pointer (some ⟨gl, 0, none⟩), by rw [h6]; exact h3, .inr ⟨h6, gl, ga, rfl, by rw [h2]; exact h4⟩, h5⟩
theorem ropen_any {U : World} {gm : Nat} {R : DiskS} (hr0 : RefAt U gm R) (hok : R16ok R) (room : Int) :
    Calls Tryz.prog 11 #[.pointer (some ⟨gm, 0, none⟩), .int .i64 room] U fun e U1 => ∃ vw, e = .returned (.tuple #[vw, .int .i64 (outC room R.b)]) ∧
      ((outC room R.b ≠ 0 ∧ vw = .pointer none ∧ RefAt U1 gm (cutD room R)) ∨
       (outC room R.b = 0 ∧ ∃ gr gw, vw = .pointer (some ⟨gr, 0, none⟩) ∧ U.heap.size ≤ gr ∧ U.heap.size ≤ gw ∧ RgAt U1 (fun k => U.heap.size ≤ k ∧ k ≠ gr) gr gw gm (cutD room R) (recsS R.b).1 false (foldB (recsS R.b).1 [] 0).1 room)) ∧ Mod (fun k => k = gm) U U1 := by
  by_cases hr : room < 0 ∨ 65536 < room
  · refine (ropen21_no _ room U hr).mono ?_
    rintro e w1 ⟨rfl, rfl⟩
    have h1 : outC room R.b = 1 := if_pos hr
    have h2 : cutD room R = R := if_pos hr
    exact ⟨.pointer none, by rw [h1], .inl ⟨by rw [h1]; decide, rfl, by rw [h2]; exact hr0⟩, Mod.refl _ _⟩
  · refine (ropen21_calls hr0 hok room (by omega) (by omega) (recsS R.b).1 (recsS R.b).2 rfl (recsS_bytes R.b).2.1).mono ?_
    have h2 : cutD room R = ⟨R.b.take (recsS R.b).2, R.room, R.fuse⟩ := if_neg hr
    rintro e w1 (⟨h1, h3, h4, h5⟩ | ⟨h1, gr, gw, h3, hg1, hg2, h4, h5⟩)
    · have h6 : outC room R.b = 3 := by unfold outC; rw [if_neg hr, if_pos h1]
      exact ⟨.pointer none, by rw [h6]; exact h3, .inl ⟨by rw [h6]; decide, rfl, by rw [h2]; exact h4⟩, h5⟩
    · have h6 : outC room R.b = 0 := by unfold outC; rw [if_neg hr, if_neg h1]
      exact ⟨.pointer (some ⟨gr, 0, none⟩), by rw [h6]; exact h3, .inr ⟨h6, gr, gw, rfl, hg1, hg2, by rw [h2]; exact h4⟩, h5⟩
/-- The two disks and ledgers at the head of a round. -/
def LSt (W : World) (B gd gm : Nat) (room : Int) (K : Nat) (vl ve vw vf : Value) : Prop :=
  (∃ (F T : Nat → Prop) (gl ga gr gw : Nat) (D R : DiskS) (l : List RecS) (down : Bool) (b : List EntryS), vl = .pointer (some ⟨gl, 0, none⟩) ∧ ve = .int .i64 0 ∧ vw = .pointer (some ⟨gr, 0, none⟩) ∧ vf = .int .i64 0 ∧ Duo W B gd gm room F T gl ga gr gw D R l down b ∧ l.length ≤ 20000 + K) ∨
  (∃ (TD : Nat → Prop) (D R : DiskS) (c : Int), c ≠ 0 ∧ vl = .pointer none ∧ ve = .int .i64 c ∧ vw = .pointer none ∧ vf = .int .i64 c ∧ Dks W B gd gm TD D R)
theorem LgAt.ok {w : World} {F : Nat → Prop} {gl ga gd : Nat} {D : DiskS} {l : List RecS} {down : Bool} {b : List EntryS} {room : Int} (h : LgAt w F gl ga gd D l down b room) : D.ok := by
  obtain ⟨FP, SB, v, h1, _⟩ := h
  exact h1.ok
theorem lst_open {U U1 U2 : World} {B gd gm K : Nat} {TD : Nat → Prop} {D R : DiskS} {room : Int} {vl vw : Value} (h : Dks U B gd gm TD D R) (hD : D.ok)
    (h1 : (outC room D.b ≠ 0 ∧ vl = .pointer none ∧ DiskAt U1 (fun k => TD k ∨ U.heap.size ≤ k) gd (cutD room D)) ∨ (outC room D.b = 0 ∧ ∃ gl ga, vl = .pointer (some ⟨gl, 0, none⟩) ∧ LgAt U1 (fun k => TD k ∨ U.heap.size ≤ k) gl ga gd (cutD room D) (recsS D.b).1 false (foldB (recsS D.b).1 [] 0).1 room)) (hm1 : Mod TD U U1)
    (h2 : (outC room R.b ≠ 0 ∧ vw = .pointer none ∧ RefAt U2 gm (cutD room R)) ∨ (outC room R.b = 0 ∧ ∃ gr gw, vw = .pointer (some ⟨gr, 0, none⟩) ∧ U1.heap.size ≤ gr ∧ U1.heap.size ≤ gw ∧ RgAt U2 (fun k => U1.heap.size ≤ k ∧ k ≠ gr) gr gw gm (cutD room R) (recsS R.b).1 false (foldB (recsS R.b).1 [] 0).1 room)) (hm2 : Mod (fun k => k = gm) U1 U2) :
    outC room D.b = outC room R.b ∧ LSt U2 B gd gm room K vl (.int .i64 (outC room R.b)) vw (.int .i64 (outC room R.b)) := by
  have hb := h.al.1
  refine ⟨by rw [hb], ?_⟩
  rw [hb] at h1
  have s1 := hm1.size
  have s2 := hm2.size
  have sg := (Array.getElem?_eq_some_iff.1 h.rd).1
  have hB := h.hm
  rcases h1 with ⟨n1, rfl, d1⟩ | ⟨z1, gl, ga, rfl, l1⟩
  · rcases h2 with ⟨n2, rfl, d2⟩ | ⟨z2, _⟩
    · refine .inr ⟨fun k => TD k ∨ U.heap.size ≤ k ∧ k < U1.heap.size, cutD room D, cutD room R, _, n1, rfl, rfl, rfl, rfl, (d1.mono (fun k hk h => h.elim .inl (fun h => .inr ⟨h, hk⟩))).move (fun k hk hF => hm2.block k hk (fun e => ?_)), d2, cutD_alike h.al room, fun k hk => ?_, fun h2 => ?_, hB⟩
      · subst e
        exact hF.elim h.nm (fun h => by omega)
      · rcases hk with hk | hk
        · exact ⟨(h.tb k hk).1, by have := (h.tb k hk).2; omega⟩
        · omega
      · rcases h2 with h2 | h2
        · exact h.nm h2
        · omega
    · exact absurd z2 n1
  · rcases h2 with ⟨n2, _⟩ | ⟨z2, gr, gw, rfl, g1, g2, r2⟩
    · exact absurd z1 n2
    · have hbk : BOk (foldB (recsS R.b).1 [] 0).1 := foldB_ok _ _ _ BOk.nil
      obtain ⟨a1, a2, a3, a4, a5, a6, v, a7, a8⟩ := id r2
      have sgr := (Array.getElem?_eq_some_iff.1 a7).1
      rw [z1]
      refine .inl ⟨fun k => TD k ∨ U.heap.size ≤ k ∧ k < U1.heap.size, fun k => k < B ∨ (U1.heap.size ≤ k ∧ k ≠ gr) ∧ k < U2.heap.size, gl, ga, gr, gw, cutD room D, cutD room R, _, false, _, rfl, rfl, rfl, rfl, ⟨(l1.mono (fun k hk h => h.elim .inl (fun h => .inr ⟨h, hk⟩))).move (fun k hk hF => hm2.block k hk (fun e => ?_)), r2.mono (fun k hk h => .inr ⟨h, hk⟩) (fun h2 => ?_) (fun h2 => ?_), cutD_alike h.al room, fun k hk => ?_, fun k hk => ⟨fun h2 => ?_, ?_⟩, fun h2 => ?_, fun h2 => ?_, fun k hk => .inl hk, hB, by omega, by omega, hbk⟩, ?_⟩
      · subst e
        exact hF.elim h.nm (fun h => by omega)
      · rcases h2 with h2 | h2 <;> omega
      · rcases h2 with h2 | h2
        · omega
        · exact h2.1.2 rfl
      · rcases hk with hk | hk
        · exact ⟨(h.tb k hk).1, by have := (h.tb k hk).2; omega⟩
        · omega
      · rcases hk with hk | hk <;> rcases h2 with h2 | h2
        · have := (h.tb k h2).1; omega
        · omega
        · have := (h.tb k h2).2; omega
        · omega
      · rcases hk with hk | hk <;> omega
      · rcases h2 with h2 | h2
        · exact h.nm h2
        · omega
      · rcases h2 with h2 | h2
        · have := (h.tb gr h2).2; omega
        · omega
      · have h3 := recsS_len R.b (by have h4 := hD.1; have h5 := hD.2.1; rw [← hb]; omega)
        omega
end Go.Proofs.YtkjncmmombkllaaGreat
