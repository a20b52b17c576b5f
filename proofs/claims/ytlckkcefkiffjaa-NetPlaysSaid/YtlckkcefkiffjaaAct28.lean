/- The acts of siskinlaw28, as they come in; things held against each other. -/
import Derived.Test.YtlckkcefkiffjaaProg
import Derived.Test.YtlckkcefkiffjaaOpenS
import Derived.Test.YtlckkcefkiffjaaKinds
import Derived.Test.YtlckkcefkiffjaaR28c
import Derived.KernelRfl
namespace Go.Proofs.Ytlckkcefkiffjaa
open Go.RowKit

structure A28 where
  op : Int
  k : Int
  at_ : Int
  bt : Int
  s : List ByteArray
def Kd.act28 : Kd A28 := Kd.iso (Kd.pair (Kd.int .i64) (Kd.pair (Kd.int .i64) (Kd.pair (Kd.int .i64) (Kd.pair (Kd.int .u32) Kd.str.slice)))) (fun x => (x.op, x.k, x.at_, x.bt, x.s))
def okA28 (y : A28) : Prop := (Lit.int .i64 y.op).wf = true ∧ (Lit.int .i64 y.k).wf = true ∧ (Lit.int .i64 y.at_).wf = true ∧ (Lit.int .u32 y.bt).wf = true ∧ ((∀ z ∈ y.s, z.size ≤ 140737488351232) ∧ y.s.length * 16 ≤ 140737488351232)
theorem Try.opensAct28 : Opens Try.prog 89 Kd.act28 okA28 :=
  opens_iso (fun x : A28 => (x.op, x.k, x.at_, x.bt, x.s)) (fun p => ⟨p.1, p.2.1, p.2.2.1, p.2.2.2.1, p.2.2.2.2⟩) (fun _ => rfl) (opens_struct (l := [(3, 0), (3, 1), (3, 2), (87, 3), (22, 4)]) (by kernel_rfl) (by simp) (by kernel_rfl)
    (opensF_cons (by kernel_rfl) (opens_int Try.underlying3) (by decide) (opensF_cons (by kernel_rfl) (opens_int Try.underlying3) (by decide) (opensF_cons (by kernel_rfl) (opens_int Try.underlying3) (by decide) (opensF_cons (by kernel_rfl) (opens_int Try.underlying87) (by decide) (opensF_one (by kernel_rfl) Try.opensStrs))))))
theorem Try.opensActs28 : Opens Try.prog 82 Kd.act28.slice (fun l => (∀ y ∈ l, okA28 y) ∧ l.length * 56 ≤ 140737488351232) := opens_slice Try.underlying82 (by kernel_rfl) (by kernel_rfl) (by decide) (by decide) Try.opensAct28
theorem at_act28 {w : World} {S : Nat → Prop} {A : Option Addr} {xs : List A28} (h : Kd.act28.Row w S A xs) (i : Nat) (hi : i < xs.length) :
    ∃ a x B c, A = some a ∧ xs[i]? = some x ∧ w.cell? (a.add (i * 5)) = some (.int .i64 x.op) ∧ w.cell? ⟨(a.add (i * 5)).block, (a.add (i * 5)).off + 1, none⟩ = some (.int .i64 x.k) ∧ w.cell? ⟨(a.add (i * 5)).block, (a.add (i * 5)).off + 2, none⟩ = some (.int .i64 x.at_) ∧
      w.cell? ⟨(a.add (i * 5)).block, (a.add (i * 5)).off + 3, none⟩ = some (.int .u32 x.bt) ∧ w.cell? ⟨(a.add (i * 5)).block, (a.add (i * 5)).off + 4, none⟩ = some (.slice B x.s.length c) ∧ Kd.str.slice.K w S x.s [.slice B x.s.length c] := by
  obtain ⟨a, cs, rfl, _, _, h1, h2⟩ := h i xs[i] (List.getElem?_eq_getElem hi)
  obtain ⟨c0, c1, rfl, k0, c2, c3, rfl, k1, c4, c5, rfl, k2, c6, c7, rfl, k3, B, c, rfl, k4, k5, k6⟩ := h1
  cases k0
  cases k1
  cases k2
  cases k3
  have key : ∀ (j : Nat) u, 0 < j → _ → w.cell? ⟨(a.add (i * 5)).block, (a.add (i * 5)).off + j, none⟩ = some u := fun j u hj hu => by rw [← Kd.add_lit _ j hj, Kd.add_add]; exact h2 j u hu
  exact ⟨a, _, B, c, rfl, List.getElem?_eq_getElem hi, h2 0 _ rfl, key 1 _ (by decide) rfl, key 2 _ (by decide) rfl, key 3 _ (by decide) rfl, key 4 _ (by decide) rfl, B, c, rfl, k4, k5, k6⟩

set_option maxHeartbeats 2000000 in
set_option maxRecDepth 100000 in
theorem same28_calls (l : List ThingS) (v1 v2 : Value) (w : World) (h1 : Kd.thing.slice.K w Any l [v1]) (h2 : Kd.thing.slice.K w Any l [v2]) :
    Calls Try.prog 59 #[v1, v2] w fun e w' => e = .returned (.bool true) ∧ ∃ n, w' = w.drewN n := by
  obtain ⟨A, c, he, hc, hm, hr⟩ := h1
  cases he
  obtain ⟨B, d, he, hd, _, hr2⟩ := h2
  cases he
  obtain ⟨q, hq⟩ : ∃ q, l.length = q := ⟨_, rfl⟩
  have HQ := hid hq
  have HR := hid hr
  have HR2 := hid hr2
  rw [hq] at hc hm hd ⊢
  have hqq : ((q : Int) == (q : Int)) = true := beq_self_eq_true _
  have hqn : ((q : Int) != (q : Int)) = false := bne_self_eq_false _
  clear hr hr2 hq
  go_enter Try.func59, Try.ntmps59
  go_wp2
  go_loopw [5] (fun i wr => ∃ k n : Nat, k ≤ q ∧ i = .int .i64 k ∧ wr = w.drewN n) (fun i _ => q - (intOf i).toNat)
  case atStart => exact ⟨0, 0, by omega, rfl, rfl⟩
  case round =>
    obtain ⟨k, n, hk, rfl, rfl⟩ := hrel
    by_cases hlt : k < q
    · obtain ⟨a, x, rfl, hx, r0, r1, r2, r3⟩ := at_thing2 HR.out k (by rw [HQ.out]; exact hlt)
      obtain ⟨b, x', rfl, hx', s0, s1, s2, s3⟩ := at_thing2 HR2.out k (by rw [HQ.out]; exact hlt)
      rw [hx] at hx'
      obtain rfl := Option.some.inj hx'
      have e1 : (x.s.toList != x.s.toList) = false := bne_self_eq_false _
      have e2 : (x.f != x.f) = false := bne_self_eq_false _
      have e3 : (x.t != x.t) = false := bne_self_eq_false _
      have e4 : (x.turned != x.turned) = false := bne_self_eq_false _
      have hltI : (k : Int) < (q : Int) := by omega
      have hk0 : (0 : Int) ≤ (k : Int) := by omega
      clear hx hx'
      go_wp2
      go_quiet (fail)
      go_wp2
      go_roundw
      case rel => exact ⟨k + 1, _, by omega, by go_num, rfl⟩
      case measure => simp [intOf]; omega
    · obtain rfl : k = q := by omega
      go_wp2
      go_ret
      exact ⟨rfl, n, rfl⟩
end Go.Proofs.Ytlckkcefkiffjaa
