/- event.find; slices.Clone of strings; book.Clone. -/
import Derived.Test.YtgedkcglkhleoaaGreatDoorEntryK
import Derived.Test.YtgedkcglkhleoaaGreatDoorJobCW
import Derived.Test.YtgedkcglkhleoaaGreatDoorBookC
import Derived.Test.YtgedkcglkhleoaaGreatDoorBase
namespace Go.Proofs.YtgedkcglkhleoaaGreatDoor
open Go.RowKit

/-! ### a job of a list -/
def zeroJ : JobS := ⟨0, []⟩
def findJ (js : List JobS) (id : Int) : Option JobS := js.find? (fun J => J.id == id)
theorem findJ_at {js : List JobS} {id : Int} {k : Nat} {J : JobS} (hx : js[k]? = some J) (hp : (J.id == id) = true) (hn : ∀ (j : Nat) J', j < k → js[j]? = some J' → (J'.id == id) = false) : findJ js id = some J := by
  obtain ⟨hk, rfl⟩ := List.getElem?_eq_some_iff.1 hx
  unfold findJ
  rw [List.find?_eq_some_iff_getElem]
  exact ⟨hp, k, hk, rfl, fun j hj => by rw [hn j js[j] hj (List.getElem?_eq_getElem _)]; rfl⟩
theorem findJ_none {js : List JobS} {id : Int} (hn : ∀ (j : Nat) J', j < js.length → js[j]? = some J' → (J'.id == id) = false) : findJ js id = none := by
  unfold findJ
  rw [List.find?_eq_none]
  intro J hJ
  obtain ⟨j, hj⟩ := List.getElem?_of_mem hJ
  rw [hn j J (List.getElem?_eq_some_iff.1 hj).1 hj]
  exact Bool.false_ne_true
theorem Kd.Row.at_job {w : World} {S : Nat → Prop} {A : Option Addr} {xs : List JobS} (h : Kd.job.Row w S A xs) (i : Nat) (hi : i < xs.length) :
    ∃ a J JA jc, A = some a ∧ xs[i]? = some J ∧ Kd.str.slice.K w S J.needs [.slice JA J.needs.length jc] ∧
      w.cell? (a.add (i * 2)) = some (.int .i64 J.id) ∧ w.cell? ⟨(a.add (i * 2)).block, (a.add (i * 2)).off + 1, none⟩ = some (.slice JA J.needs.length jc) := by
  obtain ⟨a, cs, h1, _, _, h4, h5⟩ := h i xs[i] (List.getElem?_eq_getElem hi)
  obtain ⟨JA, jc, rfl, k1⟩ := job_cells h4
  have key : ∀ (j : Nat) (u : Value), 0 < j → ([.int .i64 xs[i].id, .slice JA xs[i].needs.length jc] : List Value)[j]? = some u → w.cell? ⟨(a.add (i * 2)).block, (a.add (i * 2)).off + j, none⟩ = some u := by
    intro j u hj hu
    have := h5 j u hu
    rwa [show i * Kd.job.sz + j = i * 2 + j from rfl, ← Kd.add_add, Kd.add_lit (a.add (i * 2)) j hj] at this
  exact ⟨a, xs[i], JA, jc, h1, List.getElem?_eq_getElem hi, k1, h5 0 _ rfl, key 1 _ (by decide) rfl⟩
theorem setJ2 {W : World} {rb : Nat} {t : TypeId} {z0 z1 : Value} (h : W.heap[rb]? = some (.cells #[z0, z1] t (0, 0))) (v0 v1 : Value) :
    ∃ W', W' = ((W.setCell ⟨rb, 0, none⟩ v0).setCell ⟨rb, 1, none⟩ v1) ∧ W'.heap[rb]? = some (.cells #[v0, v1] t (0, 0)) ∧
      W'.cell? ⟨rb, 0, none⟩ = some v0 ∧ W'.cell? ⟨rb, 1, none⟩ = some v1 ∧ Below rb W W' ∧ (∀ k, k ≠ rb → W'.heap[k]? = W.heap[k]?) ∧ W'.heap.size = W.heap.size := by
  have g0 := heap_set h 0 v0
  have g1 := heap_set g0 1 v1
  have e : (#[z0, z1].setIfInBounds 0 v0).setIfInBounds 1 v1 = #[v0, v1] := by simp
  rw [e] at g1
  have b0 := (Below.refl rb W).setCell (p := ⟨rb, 0, none⟩) (Nat.le_refl _) v0
  have b1 := b0.setCell (p := ⟨rb, 1, none⟩) (Nat.le_refl _) v1
  obtain ⟨q, _, _⟩ := cells_of_block g1
  refine ⟨_, rfl, g1, q 0 v0 rfl, q 1 v1 rfl, b1, fun k hk => ?_, by simp⟩
  rw [Below.heap_setCell _ _ _ _ (by simpa using hk), Below.heap_setCell _ _ _ _ (by simpa using hk)]
set_option maxHeartbeats 4000000 in
set_option maxRecDepth 100000 in
theorem efind_calls (js : List JobS) (id : Int) (v : Value) (w : World) (hb : Kd.job.slice.K w Any js [v]) :
    Calls Tryz.prog 36 #[v, .int .i64 id] w fun e w' => ∃ FA fa, e = .returned (.tuple #[.agg #[.int .i64 ((findJ js id).getD zeroJ).id, .slice FA ((findJ js id).getD zeroJ).needs.length fa], .bool (findJ js id).isSome]) ∧ Kd.str.slice.K w' Any ((findJ js id).getD zeroJ).needs [.slice FA ((findJ js id).getD zeroJ).needs.length fa] ∧ Below w.heap.size w w' := by
  obtain ⟨W0, hW0⟩ : ∃ W0, W0 = w.alloc (.cells #[.int .i64 0, .slice none 0 0] 54) := ⟨_, rfl⟩
  have b0 := hid (show Below w.heap.size w W0 by rw [hW0]; exact bAlloc (Below.refl _ _) _)
  have HZ0 := hid (show W0.heap[w.heap.size]? = some (.cells #[.int .i64 0, .slice none 0 0] 54 (0, 0)) by rw [hW0]; exact heap_at rfl)
  have HS0 := hid (show w.heap.size < W0.heap.size by rw [hW0]; simp)
  have HK := hid (Kd.job.slice.move (w1 := W0) (fun k hk _ => b0.out.block k hk) (Kd.job.slice.mono (S' := fun k => k < w.heap.size) (fun _ _ h => h) hb))
  obtain ⟨A, c, he, hc, hm, _⟩ := hb
  injection he with he _
  subst he
  have hEq := hW0.symm
  obtain ⟨q, hq⟩ : ∃ q, q = js.length := ⟨_, rfl⟩
  have HQ := hid hq
  rw [← hq] at hc hm HK ⊢
  clear hW0 hq
  go_enter Tryz.func36, Tryz.ntmps36
  go_wp2
  go_loopw [10] (fun i wr => ∃ k : Nat, k ≤ q ∧ i = .int .i64 k ∧ Hid (∀ (j : Nat) J', j < k → js[j]? = some J' → (J'.id == id) = false) ∧ Hid (Below W0.heap.size W0 wr)) (fun i _ => q - (intOf i).toNat)
  case atStart => exact ⟨0, by omega, rfl, hid (fun j E' h => by omega), hid (Below.refl _ _)⟩
  case round =>
    obtain ⟨k, hk, rfl, HN, HB⟩ := hrel
    have HKR := hid (Kd.job.slice.move (w1 := wr) (fun k _ hl => HB.out.block k hl) HK.out)
    by_cases hlt : k < q
    · obtain ⟨a, J, JA, jc, rfl, hx, k1, r0, r1⟩ := (K_row HKR.out).1.at_job k (by rw [← HQ.out]; exact hlt)
      have HX := hid hx
      have hltI : (k : Int) < (q : Int) := by omega
      have hk0 : (0 : Int) ≤ (k : Int) := by omega
      have HK1 := hid k1
      clear hx k1
      cases hpe : J.id == id
      case true =>
        have HF := hid (findJ_at HX.out hpe HN.out)
        obtain ⟨Wa, hWa⟩ : ∃ Wa, Wa = wr.alloc (.cells #[.int .i64 J.id, .slice JA J.needs.length jc] 54) := ⟨_, rfl⟩
        have HBa := hid (show Below wr.heap.size wr Wa by rw [hWa]; exact bAlloc (Below.refl _ _) _)
        have HZa := hid (show Wa.heap[w.heap.size]? = some (.cells #[.int .i64 0, .slice none 0 0] 54 (0, 0)) from (HBa.out.block _ (Nat.lt_of_lt_of_le HS0.out HB.out.size)).trans ((HB.out.block _ HS0.out).trans HZ0.out))
        obtain ⟨y1, _, _⟩ := cells_of_block (show Wa.heap[wr.heap.size]? = some (.cells #[.int .i64 J.id, .slice JA J.needs.length jc] 54 (0, 0)) by rw [hWa]; exact heap_at rfl)
        have y10 := y1 0 _ rfl
        have y11 := y1 1 _ rfl
        obtain ⟨W', hW', _, T0, T1, TB, TN, _⟩ := setJ2 HZa.out (.int .i64 J.id) (.slice JA J.needs.length jc)
        obtain ⟨p5, g5, l5⟩ := cells_of_block HZa.out
        have q0 := p5 0 _ rfl
        have q1 := p5 1 _ rfl
        have u0 := g5 0
        have u1 := g5 1
        have B4 := hid (show Below w.heap.size w W' from ((bThen (bThen b0.out (HB.out)) HBa.out)).trans TB)
        have M1 := hid (Kd.str.slice.move (w1 := W') (fun k (hk : k < w.heap.size) hl => (TN k (by omega)).trans (HBa.out.block k hl)) HK1.out)
        have hEqa := hWa.symm
        clear p5 g5 TB TN y1 hWa
        go_wp2
        rw [← hW']
        refine bodyPost_ret (by simp [results, Tryz.results36, go_sem, T0, T1]; try rfl) rfl ?_
        rw [HF.out]
        simp only [Option.getD_some, Option.isSome_some]
        exact ⟨JA, jc, rfl, Kd.any M1.out, B4.out⟩
      have HN2 := hid (show ∀ (i : Nat) E', i < k + 1 → js[i]? = some E' → (E'.id == id) = false from fun i E' hj hx => by
        rcases Nat.lt_or_ge i k with h | h
        · exact HN.out i E' h hx
        · rw [show i = k by omega, HX.out] at hx
          rw [← Option.some.inj hx]; exact hpe)
      have HB1 := hid (bAlloc HB.out (.cells #[.int .i64 J.id, .slice JA J.needs.length jc] 54))
      go_wp2
      go_roundw
      case rel => exact ⟨k + 1, by omega, by go_num, HN2, HB1⟩
      case measure => simp [intOf]; omega
    · obtain rfl : k = q := by omega
      have HFE := hid (findJ_none (id := id) (js := js) (fun i E' hj hx => HN.out i E' (by rw [HQ.out]; exact hj) hx))
      have HZa := hid ((HB.out.block _ HS0.out).trans HZ0.out)
      obtain ⟨W', hW', _, T0, T1, TB, TN, _⟩ := setJ2 HZa.out (.int .i64 0) (.slice none 0 0)
      obtain ⟨p5, g5, l5⟩ := cells_of_block HZa.out
      have q0 := p5 0 _ rfl
      have q1 := p5 1 _ rfl
      have u0 := g5 0
      have u1 := g5 1
      have B4 := hid (show Below w.heap.size w W' from (bThen b0.out HB.out).trans TB)
      clear p5 g5 TB TN
      go_wp2
      rw [← hW']
      refine bodyPost_ret (by simp [results, Tryz.results36, go_sem, T0, T1]; try rfl) rfl ?_
      rw [HFE.out]
      exact ⟨none, 0, rfl, ⟨none, 0, rfl, Nat.le_refl _, by decide, Kd.Row.nil⟩, B4.out⟩
end Go.Proofs.YtgedkcglkhleoaaGreatDoor
