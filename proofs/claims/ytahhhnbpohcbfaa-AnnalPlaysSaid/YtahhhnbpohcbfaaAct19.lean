/- The acts of siskinlaw19, as they come in; two disks that are alike. -/
import Derived.Test.YtahhhnbpohcbfaaRef19
import Derived.Test.YtahhhnbpohcbfaaOpens2
namespace Go.Proofs.Ytahhhnbpohcbfaa
open Go.RowKit Go.Lib

def Alike (D R : DiskS) : Prop := D.b = R.b ∧ D.room = R.room ∧ D.fuse = max R.fuse (-1)
theorem Alike.app {D R : DiskS} (h : Alike D R) (x : List UInt8) : (D.append x).2 = (R.append x).2 ∧ Alike (D.append x).1 (R.append x).1 := by
  obtain ⟨db, dr, df⟩ := D
  obtain ⟨rb, rr, rf⟩ := R
  obtain ⟨h1, h2, h3⟩ := h
  simp only at h1 h2 h3
  subst h1 h2 h3
  unfold DiskS.append
  simp only
  split
  · exact ⟨rfl, rfl, rfl, rfl⟩
  · by_cases h : 0 ≤ rf
    · rw [if_pos (by omega), if_pos h, show (max rf (-1)) = rf by omega]
      exact ⟨rfl, rfl, rfl, rfl⟩
    · rw [if_neg (by omega), if_neg h]
      exact ⟨rfl, rfl, rfl, rfl⟩
theorem Alike.cut {D R : DiskS} (h : Alike D R) (n : Int) : (D.cut n).2 = (R.cut n).2 ∧ Alike (D.cut n).1 (R.cut n).1 := by
  obtain ⟨db, dr, df⟩ := D
  obtain ⟨rb, rr, rf⟩ := R
  obtain ⟨h1, h2, h3⟩ := h
  simp only at h1 h2 h3
  subst h1 h2 h3
  unfold DiskS.cut
  simp only
  split <;> exact ⟨rfl, rfl, rfl, rfl⟩
theorem Alike.burn {D R : DiskS} (h : Alike D R) (n : Int) : Alike (D.burn n) ⟨R.b, R.room, n⟩ := ⟨h.1, h.2.1, rfl⟩
theorem Alike.ok {D R : DiskS} (h : Alike D R) (k : D.ok) : R16ok R := by
  obtain ⟨h1, h2, h3⟩ := h
  obtain ⟨k1, k2, k3, k4⟩ := k
  exact ⟨by rw [← h2]; omega, by rw [← h2]; omega, by rw [← h2, ← h1]; omega⟩

theorem i64_hi2 {n : Int} (h : (Lit.int .i64 n).wf = true) : n ≤ 9223372036854775807 := by
  simp [Lit.wf, IntKind.min, IntKind.max, IntKind.bits, IntKind.signed] at h
  omega
set_option maxHeartbeats 800000 in
set_option maxRecDepth 100000 in

structure Act19 where
  op : Int
  n : Int
  x : RecS
  b : List UInt8
def Kd.act19 : Kd Act19 := Kd.iso (Kd.pair (Kd.int .i64) (Kd.pair (Kd.int .i64) (Kd.pair Kd.recK Kd.u8.slice))) (fun a => (a.op, a.n, a.x, a.b))
def okAct19 (y : Act19) : Prop := (Lit.int .i64 y.op).wf = true ∧ (Lit.int .i64 y.n).wf = true ∧ okRec y.x ∧ ((∀ z ∈ y.b, True) ∧ y.b.length * 1 ≤ 140737488351232)
theorem Try.opensAct19 : Opens Try.prog 72 Kd.act19 okAct19 :=
  opens_iso (fun a : Act19 => (a.op, a.n, a.x, a.b)) (fun p => ⟨p.1, p.2.1, p.2.2.1, p.2.2.2⟩) (fun _ => rfl) (opens_struct (l := [(3, 0), (3, 1), (24, 2), (27, 9)]) (by kernel_rfl) (by simp) (by kernel_rfl)
    (opensF_cons (by kernel_rfl) (opens_int Try.underlying3) (by decide) (opensF_cons (by kernel_rfl) (opens_int Try.underlying3) (by decide) (opensF_cons (by kernel_rfl) Try.opensRec (by decide) (opensF_one (by kernel_rfl) Try.opensB8)))))
theorem Try.opensActs19 : Opens Try.prog 62 Kd.act19.slice (fun l => (∀ y ∈ l, okAct19 y) ∧ l.length * 112 ≤ 140737488351232) := opens_slice Try.underlying62 (by kernel_rfl) (by kernel_rfl) (by decide) (by decide) Try.opensAct19

/-- The cells of an act in its row. -/
theorem at_act19 {w : World} {S : Nat → Prop} {A : Option Addr} {xs : List Act19} (h : Kd.act19.Row w S A xs) (i : Nat) (hi : i < xs.length) :
    ∃ a y B n c D d, A = some a ∧ xs[i]? = some y ∧ w.cell? (a.add (i * 10)) = some (.int .i64 y.op) ∧ w.cell? ⟨(a.add (i * 10)).block, (a.add (i * 10)).off + 1, none⟩ = some (.int .i64 y.n) ∧
      w.cell? ⟨(a.add (i * 10)).block, (a.add (i * 10)).off + 2, none⟩ = some (.int .i64 y.x.kind) ∧ w.cell? ⟨(a.add (i * 10)).block, (a.add (i * 10)).off + 3, none⟩ = some (.int .i64 y.x.job) ∧ w.cell? ⟨(a.add (i * 10)).block, (a.add (i * 10)).off + 4, none⟩ = some (.int .i64 y.x.task) ∧
      w.cell? ⟨(a.add (i * 10)).block, (a.add (i * 10)).off + 5, none⟩ = some (.int .i64 y.x.worker) ∧ w.cell? ⟨(a.add (i * 10)).block, (a.add (i * 10)).off + 6, none⟩ = some (.int .i64 y.x.sched) ∧ w.cell? ⟨(a.add (i * 10)).block, (a.add (i * 10)).off + 7, none⟩ = some (.int .i64 y.x.epoch) ∧
      w.cell? ⟨(a.add (i * 10)).block, (a.add (i * 10)).off + 8, none⟩ = some (.slice B n c) ∧ w.cell? ⟨(a.add (i * 10)).block, (a.add (i * 10)).off + 9, none⟩ = some (.slice D y.b.length d) ∧ Kd.str.slice.K w S y.x.needs [.slice B n c] ∧ Kd.u8.slice.K w S y.b [.slice D y.b.length d] := by
  obtain ⟨a, cs, rfl, _, _, h1, h2⟩ := h i xs[i] (List.getElem?_eq_getElem hi)
  obtain ⟨c0, r0, rfl, k0, c1, r1, rfl, k1, c2, r2, rfl, k2, k3⟩ := h1
  cases k0
  cases k1
  obtain ⟨B, n, c, h3, h4⟩ := rec_open (cs := c2.toArray) (by simpa using k2)
  have h5 : c2 = [.int .i64 (xs[i]).x.kind, .int .i64 (xs[i]).x.job, .int .i64 (xs[i]).x.task, .int .i64 (xs[i]).x.worker, .int .i64 (xs[i]).x.sched, .int .i64 (xs[i]).x.epoch, .slice B n c] := by
    have := congrArg Array.toList h3
    simpa using this
  subst h5
  have k4 := k3
  obtain ⟨D, d, rfl, _, _, _⟩ := k4
  exact ⟨a, _, B, n, c, D, d, rfl, List.getElem?_eq_getElem hi, h2 0 _ rfl, by rw [← Kd.add_lit _ 1 (by decide), Kd.add_add]; exact h2 1 _ rfl, by rw [← Kd.add_lit _ 2 (by decide), Kd.add_add]; exact h2 2 _ rfl, by rw [← Kd.add_lit _ 3 (by decide), Kd.add_add]; exact h2 3 _ rfl,
    by rw [← Kd.add_lit _ 4 (by decide), Kd.add_add]; exact h2 4 _ rfl, by rw [← Kd.add_lit _ 5 (by decide), Kd.add_add]; exact h2 5 _ rfl, by rw [← Kd.add_lit _ 6 (by decide), Kd.add_add]; exact h2 6 _ rfl, by rw [← Kd.add_lit _ 7 (by decide), Kd.add_add]; exact h2 7 _ rfl,
    by rw [← Kd.add_lit _ 8 (by decide), Kd.add_add]; exact h2 8 _ rfl, by rw [← Kd.add_lit _ 9 (by decide), Kd.add_add]; exact h2 9 _ rfl, h4, k3⟩

def small19 (l : List Act19) (most : Int) : Bool := l.all (fun a => !longB a.x.needs 20 300 && decide (a.b.length ≤ 200)) && decide ((l.length : Int) ≤ most)
set_option maxHeartbeats 3200000 in
set_option maxRecDepth 100000 in
theorem small19_calls (l : List Act19) (most : Int) (v : Value) (w : World) (hb : Kd.act19.slice.K w Any l [v]) :
    Calls Try.prog 45 #[v, .int .i64 most] w fun en w' => en = .returned (.bool (small19 l most)) ∧ Below w.heap.size w w' := by
  obtain ⟨B, d, he, hd1, hd2, hr⟩ := hb
  cases he
  have HR := hid hr
  clear hr
  go_enter Try.func45, Try.ntmps45
  go_wp2_with fail
  go_loopw [5] (fun i wr => ∃ k : Nat, k ≤ l.length ∧ i = .int .i64 k ∧ Hid ((l.take k).all (fun a => !longB a.x.needs 20 300 && decide (a.b.length ≤ 200)) = true) ∧ Below w.heap.size w wr) (fun i _ => l.length - (intOf i).toNat)
  case atStart => exact ⟨0, by omega, rfl, hid (by simp), Below.refl _ _⟩
  case round =>
    obtain ⟨k, hk, rfl, HS, hbw⟩ := hrel
    by_cases hlt : k < l.length
    · obtain ⟨a, x, B1, n1, c1, D1, d1, rfl, hx, y0, y1, y2, y3, y4, y5, y6, y7, y8, y9, hK, hKb⟩ := at_act19 (HR.out.below hbw) k hlt
      have HX := hid hx
      have HK := hid (show Kd.str.slice.K wr Any x.x.needs [.slice B1 n1 c1] from hK)
      have hltI : (k : Int) < l.length := by omega
      clear hx hK hKb y0 y1
      cases hlg : longB x.x.needs 20 300
      · by_cases hbl : x.b.length ≤ 200
        · have HA := hid (show (!longB x.x.needs 20 300 && decide (x.b.length ≤ 200)) = true by rw [hlg, decide_eq_true hbl]; rfl)
          have hbI : ¬ (200 : Int) < x.b.length := by omega
          go_wp2_with fail
          refine (rlong17_calls x.x B1 n1 c1 _ HK.out).mono ?_
          rintro e w2 ⟨rfl, hb2⟩
          rw [hlg]
          have B2 := hid hb2
          have z9 := (hb2.cell (cell_lt y9)).trans y9
          clear hb2 y2 y3 y4 y5 y6 y7 y8 y9 hlg
          go_wp2
          go_roundw
          case rel => exact ⟨k + 1, by omega, by go_num, hid (by rw [take_snoc HX.out, List.all_append, HS.out]; simpa using HA.out), bThen hbw B2.out⟩
          case measure => simp [intOf]; omega
        · have hbI : (200 : Int) < x.b.length := by omega
          have HN := hid (show small19 l most = false by
            unfold small19
            rw [Bool.and_eq_false_iff]
            left
            rw [List.all_eq_false]
            exact ⟨x, List.mem_of_getElem? HX.out, by rw [decide_eq_false hbl]; simp⟩)
          go_wp2_with fail
          refine (rlong17_calls x.x B1 n1 c1 _ HK.out).mono ?_
          rintro e w2 ⟨rfl, hb2⟩
          rw [hlg]
          have B2 := hid hb2
          have z9 := (hb2.cell (cell_lt y9)).trans y9
          clear hb2 y2 y3 y4 y5 y6 y7 y8 y9 hlg
          go_wp2
          go_ret
          exact ⟨ret_bool HN.out.symm, bThen hbw B2.out⟩
      · have HN := hid (show small19 l most = false by
          unfold small19
          rw [Bool.and_eq_false_iff]
          left
          rw [List.all_eq_false]
          exact ⟨x, List.mem_of_getElem? HX.out, by rw [hlg]; simp⟩)
        go_wp2_with fail
        refine (rlong17_calls x.x B1 n1 c1 _ HK.out).mono ?_
        rintro e w2 ⟨rfl, hb2⟩
        rw [hlg]
        have B2 := hid hb2
        clear hb2 y2 y3 y4 y5 y6 y7 y8 y9 hlg
        go_wp2
        go_ret
        exact ⟨ret_bool HN.out.symm, bThen hbw B2.out⟩
    · obtain rfl : l.length = k := by omega
      have hgeI : ¬ (l.length : Int) < l.length := by omega
      have HN := hid (show small19 l most = decide ((l.length : Int) ≤ most) by
        have h1 := HS.out
        rw [List.take_length] at h1
        unfold small19; rw [h1]; rfl)
      go_wp2
      go_ret
      exact ⟨ret_bool HN.out.symm, hbw⟩

/-! ### an annal that is nil -/
set_option maxRecDepth 100000 in
theorem nilOpen_calls (w : World) : Calls Try.prog 36 #[.pointer none] w fun e w' => e = .returned (.pointer none) ∧ w = w' := by
  go_enter Try.func36, Try.ntmps36
  go_wp2
  go_ret
  exact ⟨rfl, rfl⟩
set_option maxRecDepth 100000 in
theorem nilAppend_calls (x : RecS) (A : Option Addr) (n c : Nat) (w : World) : Calls Try.prog 37 #[.pointer none, .agg #[.int .i64 x.kind, .int .i64 x.job, .int .i64 x.task, .int .i64 x.worker, .int .i64 x.sched, .int .i64 x.epoch, .slice A n c]] w fun e w' => e = .returned (.int .i64 1) ∧ Below w.heap.size w w' := by
  go_enter Try.func37, Try.ntmps37
  go_wp2
  go_ret
  exact ⟨rfl, bAlloc (Below.refl _ _) _⟩
set_option maxRecDepth 100000 in
theorem nilRecords_calls (w : World) : Calls Try.prog 39 #[.pointer none] w fun e w' => e = .returned (.slice none 0 0) ∧ w = w' := by
  go_enter Try.func39, Try.ntmps39
  go_wp2
  go_ret
  exact ⟨rfl, rfl⟩
set_option maxRecDepth 100000 in
theorem nilLen_calls (w : World) : Calls Try.prog 49 #[.pointer none] w fun e w' => e = .returned (.int .i64 0) ∧ w = w' := by
  go_enter Try.func49, Try.ntmps49
  go_wp2
  go_ret
  exact ⟨rfl, rfl⟩
set_option maxRecDepth 100000 in
theorem nilFree_calls (w : World) : Calls Try.prog 50 #[.pointer none] w fun e w' => e = .returned (.int .i64 0) ∧ w = w' := by
  go_enter Try.func50, Try.ntmps50
  go_wp2
  go_ret
  exact ⟨rfl, rfl⟩
set_option maxRecDepth 100000 in
theorem nilDown_calls (w : World) : Calls Try.prog 40 #[.pointer none] w fun e w' => e = .returned (.bool true) ∧ w = w' := by
  go_enter Try.func40, Try.ntmps40
  go_wp2
  go_ret
  exact ⟨rfl, rfl⟩
set_option maxHeartbeats 800000 in
set_option maxRecDepth 100000 in
theorem pairFree_calls {w : World} {F : Nat → Prop} {ga gd : Nat} {D : DiskS} {l : List RecS} {down : Bool} (hp : Pair w F ga gd D l down) : Calls Try.prog 50 #[.pointer (some ⟨ga, 0, none⟩)] w fun e w' => e = .returned (.int .i64 (D.room - D.b.length)) ∧ ∃ n, w' = w.drewN n := by
  obtain ⟨T, TD, h1, h2, h3, h4, h5⟩ := hp
  obtain ⟨hT, hg, A, c, hc, hl, c0, c1, c2, hf, _, _, _⟩ := h4.cells
  have HD := hid h5
  clear c1 c2 hf h4 h5
  go_enter Try.func50, Try.ntmps50
  go_wp2_with fail
  refine (diskFree_calls TD gd D _ HD.out).mono ?_
  rintro e w1 ⟨rfl, n, rfl⟩
  go_wp2
  go_ret
  exact ⟨rfl, n, rfl⟩
end Go.Proofs.Ytahhhnbpohcbfaa
