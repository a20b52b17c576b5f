import Derived.Test.YtlckkcefkiffjaaProg
import Derived.Test.YtlckkcefkiffjaaBox
import Derived.Handy
import Derived.Deep.RegionLaw
import Derived.StillTailTactics
namespace Go.Proofs.Ytlckkcefkiffjaa
open Go.RowKit

/-! ### net -/
structure ThingS where
  f : Int
  t : Int
  s : ByteArray
  turned : Bool
def Kd.thing : Kd ThingS := Kd.flat 4 (fun x => [.int .i64 x.f, .int .i64 x.t, .string x.s, .bool x.turned]) (fun _ => rfl) (fun x u hu => by simp at hu; rcases hu with rfl | rfl | rfl | rfl <;> rfl)
theorem Try.infoThing : (Try.prog.info? 64).map (fun i => (i.zero, i.size, i.bytes)) = some (some (.agg #[.int .i64 0, .int .i64 0, .string ByteArray.empty, .bool false]), 4, 40) := by kernel_rfl
structure NetS where
  l : List ThingS
  most : Int
def NetS.ok (N : NetS) : Prop := (N.l.length : Int) ≤ N.most ∧ 1 ≤ N.most ∧ N.most ≤ 1024
def NetAt (w : World) (T : Nat → Prop) (g : Nat) (N : NetS) : Prop := N.ok ∧ BoxAt Kd.thing 64 121 w T g N.l [.int .i64 N.most]
section
variable {w w1 : World} {T T' : Nat → Prop} {g : Nat} {N : NetS}
theorem NetAt.mono (h : NetAt w T g N) (hT : ∀ k, k < w.heap.size → T k → T' k) : NetAt w T' g N := ⟨h.1, h.2.mono hT⟩
theorem NetAt.move (h : NetAt w T g N) (hm : ∀ k, k < w.heap.size → T k → w1.heap[k]? = w.heap[k]?) : NetAt w1 T g N := ⟨h.1, h.2.move hm⟩
theorem NetAt.below (h : NetAt w T g N) (hb : Below w.heap.size w w1) : NetAt w1 T g N := ⟨h.1, h.2.below hb⟩
theorem NetAt.cells (h : NetAt w T g N) : N.ok ∧ T g ∧ g < w.heap.size ∧ ∃ A c, N.l.length ≤ c ∧ w.cell? ⟨g, 0, none⟩ = some (.slice A N.l.length c) ∧ w.cell? ⟨g, 1, none⟩ = some (.int .i64 N.most) ∧
    Hid (∀ j, w.frozen? ⟨g, j, none⟩ = false) ∧ Hid (w.heap[g]? = some (.cells #[.slice A N.l.length c, .int .i64 N.most] 121 (0, 0))) ∧ Hid (Own Kd.thing 64 w 0 NoT (.slice A N.l.length c) N.l) ∧ Hid (∀ k, (Value.slice A N.l.length c).ownBlock = some k → T k ∧ k ≠ g) := by
  obtain ⟨hT, hg, A, c, hc, _, c0, cr, hf, hh, hO, hne⟩ := h.2.cells
  exact ⟨h.1, hT, hg, A, c, hc, c0, cr 0 _ rfl, hf, hh, hO, hne⟩
end

set_option maxHeartbeats 800000 in
set_option maxRecDepth 100000 in
theorem netNew_yes (n : Int) (w : World) (h0 : 1 ≤ n) (h1 : n ≤ 1024) : Calls Try.prog 41 #[.int .i64 n] w fun e w' => e = .returned (.pointer (some ⟨w.heap.size, 0, none⟩)) ∧ NetAt w' (fun k => w.heap.size ≤ k) w.heap.size ⟨[], n⟩ ∧ Below w.heap.size w w' := by
  go_enter Try.func41, Try.ntmps41
  go_wp2
  go_ret
  exact ⟨rfl, ⟨⟨by simp; omega, h0, h1⟩, BoxAt.new w _⟩, bAlloc (Below.refl _ _) _⟩
set_option maxHeartbeats 800000 in
set_option maxRecDepth 100000 in
theorem netNew_no (n : Int) (w : World) (h : n < 1 ∨ 1024 < n) : Calls Try.prog 41 #[.int .i64 n] w fun e w' => e = .returned (.pointer none) ∧ w = w' := by
  rcases h with h | h
  · go_enter Try.func41, Try.ntmps41
    go_wp2
    go_ret
    exact ⟨rfl, rfl⟩
  · have h1 : ¬ n < 1 := by omega
    go_enter Try.func41, Try.ntmps41
    go_wp2
    go_ret
    exact ⟨rfl, rfl⟩

set_option maxHeartbeats 800000 in
set_option maxRecDepth 100000 in
theorem netLen_calls (T : Nat → Prop) (g : Nat) (N : NetS) (w : World) (hd : NetAt w T g N) : Calls Try.prog 66 #[.pointer (some ⟨g, 0, none⟩)] w fun e w' => e = .returned (.int .i64 N.l.length) ∧ w = w' := by
  obtain ⟨⟨k1, k2, k3⟩, hT, hg, A, c, hc, c0, c1, _, _, _, _⟩ := hd.cells
  clear hd c1
  go_enter Try.func66, Try.ntmps66
  go_wp2
  go_ret
  exact ⟨rfl, rfl⟩

/-- A place's error. -/
def NetS.may (N : NetS) (k : Int) : Int := if k < 0 ∨ (N.l.length : Int) ≤ k then 6 else 0
set_option maxHeartbeats 800000 in
set_option maxRecDepth 100000 in
theorem netMay_calls (T : Nat → Prop) (g : Nat) (N : NetS) (k : Int) (w : World) (hd : NetAt w T g N) : Calls Try.prog 78 #[.pointer (some ⟨g, 0, none⟩), .int .i64 k] w fun e w' => e = .returned (.int .i64 (N.may k)) ∧ w = w' := by
  obtain ⟨⟨k1, k2, k3⟩, hT, hg, A, c, hc, c0, c1, _, _, _, _⟩ := hd.cells
  have HD := hid (show N.may k = if k < 0 ∨ (N.l.length : Int) ≤ k then 6 else 0 from rfl)
  clear hd c1
  by_cases h0 : k < 0
  · go_enter Try.func78, Try.ntmps78
    go_wp2
    go_ret
    exact ⟨ret_int (by rw [HD.out, if_pos (.inl h0)]), rfl⟩
  · by_cases h1 : (N.l.length : Int) ≤ k
    · go_enter Try.func78, Try.ntmps78
      go_wp2
      go_ret
      exact ⟨ret_int (by rw [HD.out, if_pos (.inr h1)]), rfl⟩
    · go_enter Try.func78, Try.ntmps78
      go_wp2
      go_ret
      exact ⟨ret_int (by rw [HD.out, if_neg (by omega)]), rfl⟩

/-- What is under way behind a Send, and how many were taken. -/
def NetS.send (N : NetS) (f t : Int) (l : List ByteArray) : NetS := ⟨N.l ++ (l.take (N.most - N.l.length).toNat).map (fun s => ⟨f, t, s, false⟩), N.most⟩
def NetS.sent (N : NetS) (l : List ByteArray) : Int := min l.length (N.most - N.l.length)
theorem NetS.send_ok {N : NetS} (h : N.ok) (f t : Int) (l : List ByteArray) : (N.send f t l).ok := by
  obtain ⟨h1, h2, h3⟩ := h
  exact ⟨by simp [NetS.send]; omega, h2, h3⟩
theorem NetS.send_len {N : NetS} (h : N.ok) (f t : Int) (l : List ByteArray) : ((N.send f t l).l.length : Int) = N.l.length + N.sent l := by
  obtain ⟨h1, h2, h3⟩ := h
  simp [NetS.send, NetS.sent]; omega
theorem NetS.send_more {N : NetS} (h : N.ok) (f t : Int) (l : List ByteArray) (x : ByteArray) (k : Nat) (hx : l[k]? = some x) (hlt : ((N.send f t (l.take k)).l.length : Int) < N.most) :
    (N.send f t (l.take k)).l ++ [⟨f, t, x, false⟩] = (N.send f t (l.take (k + 1))).l ∧ N.sent (l.take (k + 1)) = N.sent (l.take k) + 1 := by
  have hk := (List.getElem?_eq_some_iff.1 hx).1
  have h2 := NetS.send_len h f t (l.take k)
  obtain ⟨h1, _, _⟩ := h
  have e : (l.take k).length = k := by rw [List.length_take]; omega
  have e1 : (l.take (k + 1)).length = k + 1 := by rw [List.length_take]; omega
  simp only [NetS.sent, e, e1] at h2 ⊢
  refine ⟨?_, by omega⟩
  have h4 : (l.take k).length < (N.most - N.l.length).toNat := by rw [e]; omega
  simp only [NetS.send]
  rw [List.take_of_length_le (show (l.take k).length ≤ _ by omega), List.take_of_length_le (show (l.take (k + 1)).length ≤ _ by omega), take_snoc hx]
  simp
theorem NetS.send_full {N : NetS} (h : N.ok) (f t : Int) (l : List ByteArray) (k : Nat) (hk : k < l.length) (hge : ¬ ((N.send f t (l.take k)).l.length : Int) < N.most) :
    N.send f t (l.take k) = N.send f t (l.take (k + 1)) ∧ N.sent (l.take (k + 1)) = N.sent (l.take k) := by
  have h2 := NetS.send_len h f t (l.take k)
  obtain ⟨h1, _, _⟩ := h
  have e : (l.take k).length = k := by rw [List.length_take]; omega
  have e1 : (l.take (k + 1)).length = k + 1 := by rw [List.length_take]; omega
  simp only [NetS.sent, e, e1] at h2 ⊢
  refine ⟨?_, by omega⟩
  have h4 : (N.most - N.l.length).toNat ≤ k := by omega
  simp only [NetS.send, List.take_take]
  rw [Nat.min_eq_left h4, Nat.min_eq_left (show (N.most - N.l.length).toNat ≤ k + 1 by omega)]

set_option maxHeartbeats 1600000 in
set_option maxRecDepth 100000 in
theorem netSend_calls (T : Nat → Prop) (g : Nat) (N : NetS) (f t : Int) (l : List ByteArray) (v : Value) (w : World) (hd : NetAt w T g N) (hl : Kd.str.slice.K w (fun k => ¬ T k) l [v]) :
    Calls Try.prog 42 #[.pointer (some ⟨g, 0, none⟩), .int .i64 f, .int .i64 t, v] w fun e w' => e = .returned (.int .i64 (N.sent l)) ∧ NetAt w' (fun k => T k ∨ w.heap.size ≤ k) g (N.send f t l) ∧ Mod T w w' := by
  obtain ⟨B, d, he, hd1, hd2, hr⟩ := hl
  cases he
  have hok := hd.1
  have HOK := hid hok
  have HD := hid hd
  have HR := hid hr
  obtain ⟨q, hq⟩ : ∃ q, l.length = q := ⟨_, rfl⟩
  have HQ := hid hq
  rw [hq] at hd1 hd2 ⊢
  clear hd hr hok hq
  go_enter Try.func42, Try.ntmps42
  go_wp2
  go_loopw [9, 17] (fun s i wr => ∃ (k : Nat) (z : Int), k ≤ q ∧ 0 ≤ z ∧ z ≤ k ∧ i = .int .i64 k ∧ s = .int .i64 z ∧ Hid (z = N.sent (l.take k)) ∧ Hid (NetAt wr (fun k => T k ∨ w.heap.size ≤ k) g (N.send f t (l.take k))) ∧ Hid (Mod T w wr)) (fun _ i _ => q - (intOf i).toNat)
  case atStart => exact ⟨0, 0, by omega, by omega, by omega, rfl, rfl, by simp [NetS.sent, Hid]; have := HOK.out.1; omega, by simpa [NetS.send, Hid] using HD.out.mono (fun _ _ h => .inl h), hid (Mod.refl _ _)⟩
  case round =>
    obtain ⟨k, z, hk, hz0, hz1, rfl, rfl, HZ, HN, HM⟩ := hrel
    by_cases hlt : k < q
    · obtain ⟨a, x, rfl, hx, hc⟩ := Kd.Row.at_str (Kd.Row.move (fun b hb hl => HM.out.block b hl hb) HR.out) k (by rw [HQ.out]; exact hlt)
      have HX := hid hx
      obtain ⟨⟨k1, k2, k3⟩, hT, hg, A, c, hc2, c0, c1, hf, hh, hO, hne⟩ := HN.out.cells
      have hmost : (N.send f t (l.take k)).most = N.most := rfl
      rw [hmost] at c1 hh
      obtain ⟨N', hN'⟩ : ∃ N', N' = N.send f t (l.take k) := ⟨_, rfl⟩
      have HN' := hid hN'
      have hlen : ((N.send f t (l.take k)).l.length : Int) ≤ 1024 := by omega
      rw [← hN'] at hc2 c0 hh hO hne hlen
      have hff := hf.out 0
      clear hx hN' k1 k2 k3
      by_cases hfull : (N'.l.length : Int) < N.most
      · obtain ⟨e1, e2⟩ := NetS.send_more HOK.out f t l x k HX.out (by rw [← HN'.out]; exact hfull)
        rw [← HN'.out] at e1
        have E1 := hid e1
        have E2 := hid e2
        clear e1 e2
        go_wp2_with fail
        go_quiet (fail)
        go_wp2_with (at_builtin; go_must (refine append_arm Kd.thing (w0 := wr.drewN nq) 0 rfl _ _ 96 64 _ 40 rfl Try.underlying96 Try.infoThing rfl (by decide) (by decide) (.slice A N'.l.length c) N'.l ⟨f, t, x, false⟩ [.int .i64 f, .int .i64 t, .string x, .bool false] NoT NoT rfl rfl rfl (fun _ h => h.elim) (Own.below hO.out (below_drewN (Below.refl _ _) _)) (Below.refl _ _) (Nat.zero_le _) (by omega) ?_))
        intro v1 w1 hO1 _ hg1 hat
        rw [E1.out] at hO1
        obtain ⟨A1, m1, n1, rfl, hg2, dc, df, HH1, HM1, HB1⟩ := BoxAt.grow (T := fun k => T k ∨ w.heap.size ≤ k) (w := w) (W := wr.drewN nq) (B := w.heap.size) hT ((HM.out.mono (fun _ _ h => .inl h)).drewN nq) hg HM.out.size hh.out hne.out (fun _ h => .inr h) hO1 hg1 hat
        have d0 := dc 0 _ rfl
        have f0 := df 0
        clear hO1 hg1 hat dc df c0 c1 hff
        go_wp2
        go_roundw
        case rel => exact ⟨k + 1, z + 1, by omega, by omega, by omega, by go_num, rfl, by rw [E2.out]; exact congrArg (· + 1) HZ.out, ⟨NetS.send_ok HOK.out f t _, HB1.out⟩, (HM1.out.setCell (p := ⟨g, 0, none⟩) (fun _ => hT) _).mono (fun k hk h => h.elim id (fun h => absurd hk (by omega)))⟩
        case measure => simp [intOf]; omega
      · obtain ⟨e1, e2⟩ := NetS.send_full HOK.out f t l k (by rw [HQ.out]; exact hlt) (by rw [← HN'.out]; exact hfull)
        have E1 := hid e1
        have E2 := hid e2
        clear e1 e2
        go_wp2_with fail
        go_quiet (fail)
        go_wp2
        go_roundw
        case rel => exact ⟨k + 1, z, by omega, by omega, by omega, by go_num, rfl, by rw [E2.out]; exact HZ.out, by rw [← E1.out]; exact NetAt.below HN.out (below_drewN (Below.refl _ _) _), HM.out.drewN _⟩
        case measure => simp [intOf]; omega
    · obtain rfl : k = q := by omega
      have e : l.take k = l := by rw [← HQ.out]; exact List.take_length
      have HE := hid e
      clear e
      go_wp2
      go_ret
      rw [HE.out] at HZ HN
      exact ⟨ret_int HZ.out, HN.out, HM.out⟩
end Go.Proofs.Ytlckkcefkiffjaa
