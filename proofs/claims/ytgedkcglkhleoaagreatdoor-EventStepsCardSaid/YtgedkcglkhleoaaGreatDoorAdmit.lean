/- admit.Workers. -/
import Derived.Test.YtgedkcglkhleoaaGreatDoorNeedS
namespace Go.Proofs.YtgedkcglkhleoaaGreatDoor
open Go.RowKit

structure WorkerS where
  slots : Int
  limit : Int
  attrs : Nat
def Kd.worker : Kd WorkerS := Kd.flat 3 (fun x => [.int .i64 x.slots, .int .i64 x.limit, .int .u64 x.attrs]) (fun _ => rfl) (fun x u hu => by simp at hu; rcases hu with rfl | rfl | rfl <;> rfl)
theorem Kd.Row.at_worker {w : World} {S : Nat → Prop} {A : Option Addr} {xs : List WorkerS} (h : Kd.worker.Row w S A xs) (i : Nat) (hi : i < xs.length) :
    ∃ a x, A = some a ∧ xs[i]? = some x ∧ w.cell? (a.add (i * 3)) = some (.int .i64 x.slots) ∧ w.cell? ⟨(a.add (i * 3)).block, (a.add (i * 3)).off + 1, none⟩ = some (.int .i64 x.limit) ∧ w.cell? ⟨(a.add (i * 3)).block, (a.add (i * 3)).off + 2, none⟩ = some (.int .u64 x.attrs) := by
  obtain ⟨a, cs, h1, _, _, h4, h5⟩ := h i xs[i] (List.getElem?_eq_getElem hi)
  cases h4
  refine ⟨a, xs[i], h1, List.getElem?_eq_getElem hi, h5 0 _ rfl, ?_, ?_⟩
  · have := h5 1 _ rfl
    rwa [show i * Kd.worker.sz + 1 = i * 3 + 1 from rfl, ← Kd.add_add, Kd.add_lit (a.add (i * 3)) 1 (by decide)] at this
  · have := h5 2 _ rfl
    rwa [show i * Kd.worker.sz + 2 = i * 3 + 2 from rfl, ← Kd.add_add, Kd.add_lit (a.add (i * 3)) 2 (by decide)] at this
/-- Which of the first k workers a need admits. -/
def admitN (l : List NodeS) (ws : List WorkerS) : Nat → Nat
  | 0 => 0
  | k + 1 => match ws[k]? with
    | some x => if saysN l x.attrs then withS (admitN l ws k) k else admitN l ws k
    | none => admitN l ws k
def admitS (l : List NodeS) (ws : List WorkerS) : Nat := admitN l ws (min ws.length 64)
theorem admitN_lt (l : List NodeS) (ws : List WorkerS) : ∀ k, k ≤ 64 → admitN l ws k < 2 ^ 64
  | 0, _ => Nat.two_pow_pos 64
  | k + 1, h => by
    have ih := admitN_lt l ws k (by omega)
    unfold admitN
    split
    · split
      · exact or_bit_lt ih (by omega)
      · exact ih
    · exact ih
set_option maxHeartbeats 2000000 in
set_option maxRecDepth 100000 in
theorem admitWorkers_calls (l : List NodeS) (ws : List WorkerS) (v u : Value) (w : World) (hl : Kd.node.slice.K w Any l [v]) (hw : Kd.worker.slice.K w Any ws [u]) (hs : l.length ≤ 1000000) (ha : ∀ x ∈ ws, x.attrs < 2 ^ 64) :
    Calls Tryz.prog 53 #[v, u] w fun e w' => e = .returned (.int .u64 (admitS l ws : Nat)) ∧ Below w.heap.size w w' := by
  have HL := hid hl
  have HS := hid hs
  have HA := hid ha
  obtain ⟨B, d, he, _, _, _⟩ := hl
  cases he
  obtain ⟨A, c, he, hc, hn, hr⟩ := hw
  cases he
  have HR := hid hr
  obtain ⟨q, hq⟩ : ∃ q : Nat, q = min ws.length 64 := ⟨_, rfl⟩
  have hmin : min (ws.length : Int) 64 = (q : Int) := by omega
  have hq1 : q ≤ c := by omega
  have hq2 : q ≤ 64 := by omega
  have hq3 : q ≤ ws.length := by omega
  have HD := hid (show admitS l ws = admitN l ws q by unfold admitS; rw [hq])
  clear hq hr hs ha
  go_enter Tryz.func53, Tryz.ntmps53
  go_wp2
  go_loopw [5, 14] (fun o i wr => ∃ k : Nat, k ≤ q ∧ i = .int .i64 k ∧ o = .int .u64 (admitN l ws k : Nat) ∧ Below w.heap.size w wr) (fun _ i _ => q - (intOf i).toNat)
  case atStart => exact ⟨0, by omega, rfl, rfl, Below.refl _ _⟩
  case round =>
    obtain ⟨k, hk, rfl, rfl, hb⟩ := hrel
    by_cases hlt : k < q
    · obtain ⟨a, x, rfl, hx, r0, r1, r2⟩ := (HR.out.below hb).at_worker k (by omega)
      have HX := hid hx
      have hat := HA.out x (List.mem_of_getElem? hx)
      have hltI : (k : Int) < (q : Int) := by omega
      have HB := hid hb
      have hbs := hb.size
      obtain ⟨t, ht⟩ : ∃ t, t = admitN l ws k := ⟨_, rfl⟩
      have htl := admitN_lt l ws k (by omega)
      rw [← ht] at htl ⊢
      have HT := hid ht
      obtain ⟨V, hV⟩ : ∃ V, V = wr.alloc (.cells #[.int .i64 x.slots, .int .i64 x.limit, .int .u64 x.attrs] 57) := ⟨_, rfl⟩
      have HBV := hid (show Below w.heap.size w V by rw [hV]; exact bAlloc hb _)
      have HV := hid hV
      clear hx hb ht hV
      go_wp2_with fail
      rw [← HV.out]
      refine (needSays_calls l x.attrs _ V (Kd.below HL.out HBV.out) HS.out hat).mono ?_
      rintro e w2 ⟨rfl, hb2⟩
      have HB2 := hid (bThen HBV.out hb2)
      clear hb2
      cases hsy : saysN l x.attrs
      · have HN := hid (show admitN l ws (k + 1) = t by rw [admitN, HX.out, HT.out]; simp [hsy])
        go_wp2
        go_roundw
        case rel => exact ⟨k + 1, by omega, by go_num, by rw [HN.out], HB2.out⟩
        case measure => simp [intOf]; omega
      · have HN := hid (show admitN l ws (k + 1) = withS t k by rw [admitN, HX.out, HT.out]; simp [hsy])
        go_wp2_with fail
        refine (with_calls t k w2 htl (by omega)).mono ?_
        rintro e w3 ⟨rfl, rfl⟩
        go_wp2
        go_roundw
        case rel => exact ⟨k + 1, by omega, by go_num, by rw [HN.out], HB2.out⟩
        case measure => simp [intOf]; omega
    · obtain rfl : k = q := by omega
      go_wp2
      go_ret
      rw [HD.out]
      exact ⟨rfl, hb⟩
end Go.Proofs.YtgedkcglkhleoaaGreatDoor
