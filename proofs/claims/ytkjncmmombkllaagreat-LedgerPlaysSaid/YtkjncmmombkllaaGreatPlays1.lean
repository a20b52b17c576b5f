/- LedgerPlays: what comes in; the two ledgers between two acts. -/
import Derived.Test.YtkjncmmombkllaaGreatRLedg
import Derived.Test.YtkjncmmombkllaaGreatLedgB
import Derived.Test.YtkjncmmombkllaaGreatAlike
import Derived.Test.YtkjncmmombkllaaGreatBase
namespace Go.Proofs.YtkjncmmombkllaaGreat
open Go.RowKit Go.Lib

/-! ### what comes in -/
theorem opens_two {P : Program} {t e : TypeId} {k : IntKind} (ht : P.underlying t = some (.array 2 e)) (hc : P.cellsOf t = 2) (he : P.underlying e = some (.int k)) (hce : P.cellsOf e = 1) : Opens P t (Kd.pair (Kd.int k) (Kd.int k)) (fun y => (Lit.int k y.1).wf = true ∧ (Lit.int k y.2).wf = true) := by
  intro H enc w spare held fuel cs x h _
  obtain ⟨xs, m, rfl, rfl, hl, hx, hi⟩ := DataW.trod_array ht h
  rw [hc] at hl
  rw [hce] at hi
  match cs, hl with
  | [c0, c1], _ =>
    match xs, hx with
    | [a0, a1], _ =>
      have h0 := hi 0 (by decide)
      have h1 := hi 1 (by decide)
      simp at h0 h1
      obtain ⟨n0, e0, _, w0⟩ := DataW.trod_int he h0
      obtain ⟨n1, e1, _, w1⟩ := DataW.trod_int he h1
      cases e0
      cases e1
      exact ⟨(n0, n1), ⟨[_], [_], rfl, rfl, rfl⟩, w0, w1⟩
structure Act21 where
  op : Int
  n : Int
  x : RecS
def Kd.act21 : Kd Act21 := Kd.iso (Kd.pair (Kd.int .i64) (Kd.pair (Kd.int .i64) Kd.recK)) (fun a => (a.op, a.n, a.x))
def okAct21 (y : Act21) : Prop := (Lit.int .i64 y.op).wf = true ∧ (Lit.int .i64 y.n).wf = true ∧ okRec y.x
theorem Tryz.opensAct21 : Opens Tryz.prog 48 Kd.act21 okAct21 :=
  opens_iso (fun a : Act21 => (a.op, a.n, a.x)) (fun p => ⟨p.1, p.2.1, p.2.2⟩) (fun _ => rfl) (opens_struct (l := [(3, 0), (3, 1), (46, 2)]) (by kernel_rfl) (by simp) (by kernel_rfl)
    (opensF_cons (by kernel_rfl) (opens_int Tryz.underlying3) (by decide) (opensF_cons (by kernel_rfl) (opens_int Tryz.underlying3) (by decide) (opensF_one (by kernel_rfl) Tryz.opensRec))))
theorem Tryz.opensActs21 : Opens Tryz.prog 24 Kd.act21.slice (fun l => (∀ y ∈ l, okAct21 y) ∧ l.length * 88 ≤ 140737488351232) := opens_slice Tryz.underlying24 (by kernel_rfl) (by kernel_rfl) (by decide) (by decide) Tryz.opensAct21
/-- The cells of an act in its row. -/
theorem at_act21 {w : World} {S : Nat → Prop} {A : Option Addr} {xs : List Act21} (h : Kd.act21.Row w S A xs) (i : Nat) (hi : i < xs.length) :
    ∃ a y B c, A = some a ∧ xs[i]? = some y ∧ w.cell? (a.add (i * 9)) = some (.int .i64 y.op) ∧ w.cell? ⟨(a.add (i * 9)).block, (a.add (i * 9)).off + 1, none⟩ = some (.int .i64 y.n) ∧
      w.cell? ⟨(a.add (i * 9)).block, (a.add (i * 9)).off + 2, none⟩ = some (.int .i64 y.x.kind) ∧ w.cell? ⟨(a.add (i * 9)).block, (a.add (i * 9)).off + 3, none⟩ = some (.int .i64 y.x.job) ∧ w.cell? ⟨(a.add (i * 9)).block, (a.add (i * 9)).off + 4, none⟩ = some (.int .i64 y.x.task) ∧
      w.cell? ⟨(a.add (i * 9)).block, (a.add (i * 9)).off + 5, none⟩ = some (.int .i64 y.x.worker) ∧ w.cell? ⟨(a.add (i * 9)).block, (a.add (i * 9)).off + 6, none⟩ = some (.int .i64 y.x.sched) ∧ w.cell? ⟨(a.add (i * 9)).block, (a.add (i * 9)).off + 7, none⟩ = some (.int .i64 y.x.epoch) ∧
      w.cell? ⟨(a.add (i * 9)).block, (a.add (i * 9)).off + 8, none⟩ = some (.slice B y.x.needs.length c) ∧ Kd.str.slice.K w S y.x.needs [.slice B y.x.needs.length c] := by
  obtain ⟨a, cs, rfl, _, _, h1, h2⟩ := h i xs[i] (List.getElem?_eq_getElem hi)
  obtain ⟨c0, r0, rfl, k0, c1, c2, rfl, k1, k2⟩ := h1
  cases k0
  cases k1
  obtain ⟨B, n, c, h3, h4⟩ := rec_open (cs := c2.toArray) (by simpa using k2)
  have h5 : c2 = [.int .i64 (xs[i]).x.kind, .int .i64 (xs[i]).x.job, .int .i64 (xs[i]).x.task, .int .i64 (xs[i]).x.worker, .int .i64 (xs[i]).x.sched, .int .i64 (xs[i]).x.epoch, .slice B n c] := by
    have := congrArg Array.toList h3
    simpa using this
  subst h5
  have hn : n = (xs[i]).x.needs.length := recK_needs h4
  subst hn
  exact ⟨a, _, B, c, rfl, List.getElem?_eq_getElem hi, h2 0 _ rfl, by rw [← Kd.add_lit _ 1 (by decide), Kd.add_add]; exact h2 1 _ rfl, by rw [← Kd.add_lit _ 2 (by decide), Kd.add_add]; exact h2 2 _ rfl, by rw [← Kd.add_lit _ 3 (by decide), Kd.add_add]; exact h2 3 _ rfl,
    by rw [← Kd.add_lit _ 4 (by decide), Kd.add_add]; exact h2 4 _ rfl, by rw [← Kd.add_lit _ 5 (by decide), Kd.add_add]; exact h2 5 _ rfl, by rw [← Kd.add_lit _ 6 (by decide), Kd.add_add]; exact h2 6 _ rfl, by rw [← Kd.add_lit _ 7 (by decide), Kd.add_add]; exact h2 7 _ rfl,
    by rw [← Kd.add_lit _ 8 (by decide), Kd.add_add]; exact h2 8 _ rfl, h4⟩
def small21 (l : List Act21) (most : Int) : Bool := l.all (fun a => !longB a.x.needs 20 300) && decide ((l.length : Int) ≤ most)
set_option maxHeartbeats 4000000 in
set_option maxRecDepth 100000 in
theorem small21_calls (l : List Act21) (most : Int) (v : Value) (w : World) (hb : Kd.act21.slice.K w Any l [v]) :
    Calls Tryz.prog 6 #[v, .int .i64 most] w fun en w' => en = .returned (.bool (small21 l most)) ∧ Below w.heap.size w w' := by
  obtain ⟨B, d, he, hd1, hd2, hr⟩ := hb
  cases he
  have HR := hid hr
  clear hr
  go_enter Tryz.func6, Tryz.ntmps6
  go_wp2
  go_loopw [5] (fun i wr => ∃ k : Nat, k ≤ l.length ∧ i = .int .i64 k ∧ Hid ((l.take k).all (fun a => !longB a.x.needs 20 300) = true) ∧ Hid (Below w.heap.size w wr)) (fun i _ => l.length - (intOf i).toNat)
  case atStart => exact ⟨0, by omega, rfl, hid (by simp), hid (Below.refl _ _)⟩
  case round =>
    obtain ⟨k, hk, rfl, HS, HB⟩ := hrel
    by_cases hlt : k < l.length
    · obtain ⟨a, x, B1, c1, rfl, hx, y0, y1, y2, y3, y4, y5, y6, y7, y8, hK⟩ := at_act21 (HR.out.below HB.out) k hlt
      have HX := hid hx
      have HK := hid (Kd.any hK)
      have hltI : (k : Int) < l.length := by omega
      have hk0 : (0 : Int) ≤ (k : Int) := by omega
      have hw : IntKind.i64.wrap ((k : Int) + 1) = (k : Int) + 1 := IntWalk.i64_in _ (by omega)
      clear hx hK y0 y1
      cases hlg : longB x.x.needs 20 300
      · have HA := hid (show (!longB x.x.needs 20 300) = true by rw [hlg]; rfl)
        go_wp2_with fail
        refine (rlong17_calls x.x B1 x.x.needs.length c1 _ HK.out).mono ?_
        rintro e w2 ⟨rfl, hb2⟩
        rw [hlg]
        have HB2 := hid (bThen HB.out hb2)
        clear hb2 y2 y3 y4 y5 y6 y7 y8 hlg
        go_wp2
        go_roundw
        case rel => exact ⟨k + 1, by omega, by go_num, hid (by rw [take_snoc HX.out, List.all_append, HS.out]; simpa using HA.out), HB2⟩
        case measure => simp [intOf]; omega
      · have HN := hid (show small21 l most = false by
          unfold small21
          rw [Bool.and_eq_false_iff]
          left
          rw [List.all_eq_false]
          exact ⟨x, List.mem_of_getElem? HX.out, by rw [hlg]; simp⟩)
        go_wp2_with fail
        refine (rlong17_calls x.x B1 x.x.needs.length c1 _ HK.out).mono ?_
        rintro e w2 ⟨rfl, hb2⟩
        rw [hlg]
        have HB2 := hid (bThen HB.out hb2)
        clear hb2 y2 y3 y4 y5 y6 y7 y8 hlg
        go_wp2
        go_ret
        rw [HN.out]
        exact ⟨rfl, HB2.out⟩
    · obtain rfl : k = l.length := by omega
      have HF := hid (show small21 l most = decide ((l.length : Int) ≤ most) by unfold small21; have := HS.out; rw [List.take_length] at this; rw [this, Bool.true_and])
      go_wp2
      go_ret
      rw [HF.out]
      exact ⟨rfl, HB.out⟩
/-! ### plain -/
theorem putG_alike {D R : DiskS} (h : Alike D R) (l : List RecS) (down : Bool) (b : List EntryS) (room : Int) (x : RecS) :
    (putG D l down b room x).l = (putG R l down b room x).l ∧ (putG D l down b room x).down = (putG R l down b room x).down ∧ (putG D l down b room x).b = (putG R l down b room x).b ∧ (putG D l down b room x).e = (putG R l down b room x).e ∧ Alike (putG D l down b room x).D (putG R l down b room x).D := by
  obtain ⟨h1, h2⟩ := anApp_alike h l down x
  unfold putG
  split
  · exact ⟨rfl, rfl, rfl, rfl, h⟩
  · split
    · exact ⟨rfl, rfl, rfl, rfl, h⟩
    · split
      · exact ⟨rfl, rfl, rfl, rfl, h⟩
      · dsimp only
        rw [h1]
        exact ⟨rfl, rfl, rfl, rfl, h2⟩
theorem putG_len (D : DiskS) (l : List RecS) (down : Bool) (b : List EntryS) (room : Int) (x : RecS) : (putG D l down b room x).l.length ≤ l.length + 1 := by
  unfold putG
  split
  · exact Nat.le_add_right _ _
  · split
    · exact Nat.le_add_right _ _
    · split
      · exact Nat.le_add_right _ _
      · dsimp only
        unfold anApp
        repeat' split
        all_goals first | exact Nat.le_add_right _ _ | simp
theorem recsS_len (b : List UInt8) (h : b.length ≤ 65536) : (recsS b).1.length ≤ 20000 := by
  obtain ⟨_, h2, _, h4⟩ := recsS_bytes b
  omega
/-! ### the two disks, the two ledgers -/
structure Dks (W : World) (B gd gm : Nat) (TD : Nat → Prop) (D R : DiskS) : Prop where
  pd : DiskAt W TD gd D
  rd : RefAt W gm R
  al : Alike D R
  tb : ∀ k, TD k → B ≤ k ∧ k < W.heap.size
  nm : ¬ TD gm
  hm : B ≤ gm
theorem Dks.below {W W1 : World} {B gd gm : Nat} {TD : Nat → Prop} {D R : DiskS} (h : Dks W B gd gm TD D R) (hb : Below W.heap.size W W1) : Dks W1 B gd gm TD D R :=
  ⟨h.pd.below hb, h.rd.below hb, h.al, fun k hk => ⟨(h.tb k hk).1, Nat.lt_of_lt_of_le (h.tb k hk).2 hb.size⟩, h.nm, h.hm⟩
structure Duo (W : World) (B gd gm : Nat) (room : Int) (F T : Nat → Prop) (gl ga gr gw : Nat) (D R : DiskS) (l : List RecS) (down : Bool) (b : List EntryS) : Prop where
  pl : LgAt W F gl ga gd D l down b room
  rl : RgAt W T gr gw gm R l down b room
  al : Alike D R
  fb : ∀ k, F k → B ≤ k ∧ k < W.heap.size
  tb : ∀ k, T k → ¬ F k ∧ k < W.heap.size
  nm : ¬ F gm
  nr : ¬ F gr
  lo : ∀ k, k < B → T k
  hm : B ≤ gm
  hr : B ≤ gr
  hw : B ≤ gw
  ok : BOk b
section
variable {W W1 : World} {B gd gm : Nat} {room : Int} {F T : Nat → Prop} {gl ga gr gw : Nat} {D R : DiskS} {l : List RecS} {down : Bool} {b : List EntryS}
theorem Duo.below (h : Duo W B gd gm room F T gl ga gr gw D R l down b) (hb : Below W.heap.size W W1) : Duo W1 B gd gm room F T gl ga gr gw D R l down b :=
  ⟨h.pl.below hb, h.rl.below hb, h.al, fun k hk => ⟨(h.fb k hk).1, Nat.lt_of_lt_of_le (h.fb k hk).2 hb.size⟩, fun k hk => ⟨(h.tb k hk).1, Nat.lt_of_lt_of_le (h.tb k hk).2 hb.size⟩, h.nm, h.nr, h.lo, h.hm, h.hr, h.hw, h.ok⟩
theorem Duo.dks (h : Duo W B gd gm room F T gl ga gr gw D R l down b) : ∃ TD, Dks W B gd gm TD D R ∧ ∀ k, TD k → F k := by
  obtain ⟨TD, h1, h2⟩ := h.pl.disk
  exact ⟨TD, ⟨h2, h.rl.2.1, h.al, fun k hk => h.fb k (h1 k hk), fun hk => h.nm (h1 _ hk), h.hm⟩, h1⟩
theorem Duo.small (h : Duo W B gd gm room F T gl ga gr gw D R l down b) : gm < W.heap.size ∧ gr < W.heap.size ∧ gw < W.heap.size := by
  obtain ⟨h1, h2, _, _, _, _, v, h7, _⟩ := h.rl
  exact ⟨(Array.getElem?_eq_some_iff.1 h2).1, (Array.getElem?_eq_some_iff.1 h7).1, (h.tb gw h1.1).2⟩
/-- The program's ledger has gone on. -/
theorem Duo.prog {D' : DiskS} {l' : List RecS} {down' : Bool} {b' : List EntryS} (h : Duo W B gd gm room F T gl ga gr gw D R l down b) (hp : LgAt W1 (fun k => F k ∨ W.heap.size ≤ k) gl ga gd D' l' down' b' room) (hm : Mod F W W1) :
    LgAt W1 (fun k => F k ∨ W.heap.size ≤ k ∧ k < W1.heap.size) gl ga gd D' l' down' b' room ∧ RgAt W1 T gr gw gm R l down b room ∧ (∀ k, (F k ∨ W.heap.size ≤ k ∧ k < W1.heap.size) → B ≤ k ∧ k < W1.heap.size) ∧ (∀ k, T k → ¬ (F k ∨ W.heap.size ≤ k ∧ k < W1.heap.size) ∧ k < W1.heap.size) ∧
      ¬ (F gm ∨ W.heap.size ≤ gm ∧ gm < W1.heap.size) ∧ ¬ (F gr ∨ W.heap.size ≤ gr ∧ gr < W1.heap.size) := by
  obtain ⟨s1, s2, s3⟩ := h.small
  have hs := hm.size
  have hBW : B ≤ W.heap.size := by have := h.hm; omega
  refine ⟨hp.mono (fun k hk h => h.elim .inl (fun h => .inr ⟨h, hk⟩)), h.rl.move (fun k hk hT => hm.block k hk ?_), fun k hk => ?_, fun k hk => ⟨fun h2 => ?_, by have := (h.tb k hk).2; omega⟩, fun h2 => h2.elim h.nm (fun h => by omega), fun h2 => h2.elim h.nr (fun h => by omega)⟩
  · rcases hT with hT | rfl | rfl
    · exact (h.tb k hT).1
    · exact h.nm
    · exact h.nr
  · rcases hk with hk | hk
    · exact ⟨(h.fb k hk).1, by have := (h.fb k hk).2; omega⟩
    · omega
  · rcases h2 with h2 | h2
    · exact (h.tb k hk).1 h2
    · have := (h.tb k hk).2; omega
end
/-- The document's ledger has gone on. -/
theorem duo_ref {W W1 : World} {B gd gm : Nat} {room : Int} {F T : Nat → Prop} {gl ga gr gw : Nat} {D R : DiskS} {l : List RecS} {down : Bool} {b : List EntryS} (hp : LgAt W F gl ga gd D l down b room) (hr : RgAt W1 (fun k => T k ∨ W.heap.size ≤ k) gr gw gm R l down b room) (hm : Mod (fun k => k = gm ∨ k = gw ∨ k = gr) W W1)
    (al : Alike D R) (fb : ∀ k, F k → B ≤ k ∧ k < W.heap.size) (tb : ∀ k, T k → ¬ F k ∧ k < W.heap.size) (nm : ¬ F gm) (nr : ¬ F gr) (nw : ¬ F gw) (sm : gm < W.heap.size) (sr : gr < W.heap.size) (lo : ∀ k, k < B → T k) (h1 : B ≤ gm) (h2 : B ≤ gr) (h3 : B ≤ gw) (ok : BOk b) :
    Duo W1 B gd gm room F (fun k => T k ∨ W.heap.size ≤ k ∧ k < W1.heap.size) gl ga gr gw D R l down b := by
  have hs := hm.size
  obtain ⟨_, _, _, k4, k5, _⟩ := id hr
  refine ⟨hp.move (fun k hk hF => hm.block k hk (fun h => ?_)), hr.mono (fun k hk h => h.elim .inl (fun h => .inr ⟨h, hk⟩)) (fun h => k4 (h.elim .inl (fun h => .inr h.1))) (fun h => k5 (h.elim .inl (fun h => .inr h.1))), al, fun k hk => ⟨(fb k hk).1, by have := (fb k hk).2; omega⟩, fun k hk => ?_, nm, nr, fun k hk => .inl (lo k hk), h1, h2, h3, ok⟩
  · rcases h with rfl | rfl | rfl
    · exact nm hF
    · exact nw hF
    · exact nr hF
  · rcases hk with hk | hk
    · exact ⟨(tb k hk).1, by have := (tb k hk).2; omega⟩
    · exact ⟨fun h => by have := (fb k h).2; omega, hk.2⟩
end Go.Proofs.YtkjncmmombkllaaGreat
