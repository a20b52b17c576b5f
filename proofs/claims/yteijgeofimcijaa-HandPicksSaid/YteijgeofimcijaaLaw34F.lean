/- The law HandFits. -/
import Derived.Test.YteijgeofimcijaaLaw34W
import Derived.Test.YteijgeofimcijaaLong14
import Derived.Deep.QuietTactic
import Derived.BigQuiet
namespace Go.Proofs.Yteijgeofimcijaa
open Go.RowKit

structure WhoS where
  worker : Int
  had : List Bool
def Kd.who : Kd WhoS := Kd.iso (Kd.pair I64 Kd.bool.slice) (fun x => (x.worker, x.had))
theorem who_cells {w : World} {S : Nat → Prop} {x : WhoS} {cs : List Value} (h : Kd.who.K w S x cs) : ∃ A c, cs = [.int .i64 x.worker, .slice A x.had.length c] ∧ Kd.bool.slice.K w S x.had [.slice A x.had.length c] := by
  obtain ⟨c0, r0, rfl, h0, k0⟩ := h
  have k6 := k0
  obtain ⟨A, c, rfl, _⟩ := k6
  cases h0
  exact ⟨A, c, rfl, k0⟩
theorem Try.opensWho : Opens Try.prog 76 Kd.who (fun _ => True) :=
  opens_mapO (fun p : Int × List Bool => (⟨p.1, p.2⟩ : WhoS))
    (opens_struct (l := [(3, 0), (72, 1)]) (by kernel_rfl) (by simp) (by kernel_rfl)
      (opensF_cons (by kernel_rfl) (opens_int Try.underlying3) (by decide) (opensF_one (by kernel_rfl) Try.opensBools)))
    (fun w S x cs _ h => h) (fun _ _ => trivial)
theorem pick_cases {C : ConfS} {E : EntryS} {wk : Int} {had : List Bool} {t : Int} {f o : Bool} (h : pickS C E wk had = (t, f, o)) :
    (o = false ∧ t = -1 ∧ f = false) ∨ (o = true ∧ f = true ∧ (∃ j : Nat, t = j ∧ mayB C E wk j = true) ∧ pendL E wk had = []) ∨ (o = true ∧ f = false ∧ ∃ j : Nat, t = j ∧ j < tasksN E ∧ pendB E wk had j = true) := by
  unfold pickS at h
  cases hp : pendL E wk had with
  | cons x r =>
    rw [hp] at h
    injection h with h1 h2
    injection h2 with h2 h3
    obtain ⟨j, hj, hj2, hj3⟩ := (whereN_mem _ x _).1 (show x ∈ pendL E wk had by rw [hp]; exact List.mem_cons_self)
    exact .inr (.inr ⟨h3.symm, h2.symm, j, by rw [← h1, hj], hj2, hj3⟩)
  | nil =>
    rw [hp] at h
    cases hm : mayL C E wk with
    | cons x r =>
      simp only [hm] at h
      injection h with h1 h2
      injection h2 with h2 h3
      obtain ⟨j, hj, hj2, hj3⟩ := (whereN_mem _ x _).1 (show x ∈ mayL C E wk by rw [hm]; exact List.mem_cons_self)
      exact .inr (.inl ⟨h3.symm, h2.symm, ⟨j, by rw [← h1, hj], hj3⟩, rfl⟩)
    | nil =>
      simp only [hm] at h
      injection h with h1 h2
      injection h2 with h2 h3
      exact .inl ⟨h3.symm, h1.symm, h2.symm⟩
theorem pend_at {E : EntryS} {wk : Int} {had : List Bool} {j : Nat} (h : pendB E wk had j = true) (hj : j < tasksN E) : ∃ b, E.bound[j]? = some b ∧ b = wk + 1 ∧ E.done[j]? = some false ∧ notedB had j = false := by
  obtain ⟨_, t2, t3⟩ := tasks_lt hj
  unfold pendB at h
  rw [List.getElem?_eq_getElem t2, List.getElem?_eq_getElem t3] at h
  simp at h
  refine ⟨_, List.getElem?_eq_getElem t2, by omega, by rw [List.getElem?_eq_getElem t3, h.1.2], h.2⟩
theorem may_at {C : ConfS} {E : EntryS} {wk : Int} {j : Nat} (h : mayB C E wk j = true) : j < E.needs.length ∧ j < E.bound.length ∧ E.bound[j]? = some 0 ∧ ∃ s, E.needs[j]? = some s ∧ hasB (setS C.names C.workers s) wk = true := by
  unfold mayB at h
  rw [Bool.and_eq_true, decide_eq_true_iff] at h
  obtain ⟨k, hk, h1, h2, h3⟩ := open_at h.1
  obtain rfl : j = k := by omega
  refine ⟨h1, h2, h3, E.needs[j], List.getElem?_eq_getElem h1, ?_⟩
  have := h.2
  rw [Int.toNat_natCast, List.getElem?_eq_getElem h1] at this
  exact this
set_option maxHeartbeats 4000000 in
set_option maxRecDepth 100000 in
theorem handFitsLaw (C : ConfS) (CA CB : Option Addr) (ca cb : Nat) (E : EntryS) (EA EB ED : Option Addr) (ea eb ed : Nat) (wk : Int) (had : List Bool) (Ah : Option Addr) (ch : Nat) (w : World) (hC : CAt w C CA CB ca cb) (hE : EAt w E EA EB ED ea eb ed) (hh : Kd.bool.slice.K w Any had [.slice Ah had.length ch]) (hwl : C.workers.length * 24 ≤ 140737488351232) :
    Calls Try.prog 9 #[.agg #[.int .i64 C.scheds, .int .i64 C.lease, .int .i64 C.again, .int .i64 C.room, .int .i64 C.out, .slice CA C.names.length ca, .slice CB C.workers.length cb], .agg #[.int .i64 E.id, .int .i64 E.sched, .int .i64 E.epoch, .slice EA E.needs.length ea, .slice EB E.bound.length eb, .slice ED E.done.length ed], .agg #[.int .i64 wk, .slice Ah had.length ch]] w fun e w' => e = .returned (.bool true) ∧ Below w.heap.size w w' := by
  obtain ⟨V, hV⟩ : ∃ V, V = ((w.alloc (.cells #[.int .i64 C.scheds, .int .i64 C.lease, .int .i64 C.again, .int .i64 C.room, .int .i64 C.out, .slice CA C.names.length ca, .slice CB C.workers.length cb] 56)).alloc (.cells #[.int .i64 E.id, .int .i64 E.sched, .int .i64 E.epoch, .slice EA E.needs.length ea, .slice EB E.bound.length eb, .slice ED E.done.length ed] 74)).alloc (.cells #[.int .i64 wk, .slice Ah had.length ch] 76) := ⟨_, rfl⟩
  have hb0 : Below w.heap.size w V := by rw [hV]; exact bAlloc (bAlloc (bAlloc (Below.refl _ _) _) _) _
  have HBC := hid (boxC_of (b := w.heap.size) (by rw [hV, Below.heap_alloc _ _ _ (by simp; try omega), Below.heap_alloc _ _ _ (by simp)]; exact heap_at rfl) (hC.below hb0))
  have HBE := hid (boxE_of (b := w.heap.size + 1) (by rw [hV, Below.heap_alloc _ _ _ (by simp)]; exact heap_at (by simp)) (hE.below hb0))
  have hz2 : V.heap[w.heap.size + 1 + 1]? = some (.cells #[.int .i64 wk, .slice Ah had.length ch] 76 (0, 0)) := by rw [hV]; exact heap_at (by simp)
  obtain ⟨zz, _, _⟩ := cells_of_block hz2
  have z0 : V.cell? ⟨w.heap.size + 1 + 1, 0, none⟩ = some (.int .i64 wk) := zz 0 _ rfl
  have z1 : V.cell? ⟨w.heap.size + 1 + 1, 1, none⟩ = some (.slice Ah had.length ch) := zz 1 _ rfl
  have HHD := hid (Kd.below hh hb0)
  have HBV := hid hb0
  have HV := hid hV
  have HA := hid hC.attrs
  obtain ⟨n4, hn4⟩ : ∃ n4, n4 = had.length := ⟨_, rfl⟩
  have H4 := hid hn4
  rw [← hn4] at z1 HHD HV ⊢
  obtain ⟨⟨c0, c1, c2, c3, c4, c5, c6⟩, _, _⟩ := HBC.out
  clear hV hE hC hb0 hz2 zz hh hn4
  go_enter Try.func9, Try.ntmps9
  go_wp2_with fail
  rw [← HV.out]
  go_quiet (fail)
  go_wp2_with fail
  have HBQ := hid (fun n => below_drewN (Below.refl V.heap.size V) n)
  refine (rlong14_calls C CA CB ca cb _ (HBC.out.below (HBQ.out _)).2.1.names).mono ?_
  rintro e w1 ⟨rfl, hb1⟩
  have HB1 := hid (bThen (HBQ.out _) hb1)
  obtain ⟨⟨d0, d1, d2, d3, d4, d5⟩, dE, _⟩ := HBE.out.below HB1.out
  have HDE := hid dE
  clear hb1 c0 c1 c2 c3 c4 c5 c6 z0 z1 dE
  have HLG := hid (show longC C = (longB C.names 40 100 || decide (80 < C.workers.length)) from rfl)
  obtain ⟨lc, hlc⟩ : ∃ lc, lc = longC C := ⟨_, rfl⟩
  rw [← hlc] at HLG ⊢
  clear hlc
  cases lc
  case true =>
    go_wp2_with fail
    refine (works34_calls _).mono ?_
    rintro e w2 ⟨rfl, hb2⟩
    go_wp2
    go_ret
    exact ⟨rfl, bThen (bThen HBV.out HB1.out) hb2⟩
  have HWL := hid (show C.workers.length ≤ 1000000 by
    have := HLG.out.symm
    rw [Bool.or_eq_false_iff] at this
    have := of_decide_eq_false this.2
    omega)
  go_wp2_with fail
  refine (bound_calls E EA EB ED ea eb ed w1 HDE.out).mono ?_
  rintro e w2 ⟨rfl, hb2⟩
  have HB2 := hid (bThen HB1.out hb2)
  clear hb2 d0 d1 d2 d3 d4 d5
  cases hbb : boundB E
  case false =>
    go_wp2_with fail
    refine (works34_calls _).mono ?_
    rintro e w3 ⟨rfl, hb3⟩
    go_wp2
    go_ret
    exact ⟨rfl, bThen (bThen HBV.out HB2.out) hb3⟩
  obtain ⟨hbd, hl1, hl2, hl3, hsz⟩ := boundB_ok hbb
  have HBD := hid hbd
  have HS1 := hid (show ∀ s ∈ E.needs, s.size ≤ 140737488351232 from fun s hs => by have := hsz s hs; omega)
  have HS2 := hid (show ∀ s ∈ E.needs, s.size * 24 ≤ 140737488351232 from fun s hs => by have := hsz s hs; omega)
  clear hbd hsz hbb
  obtain ⟨⟨d0, d1, d2, d3, d4, d5⟩, dE, _⟩ := HBE.out.below HB2.out
  obtain ⟨⟨g0, g1, g2, g3, g4, g5, g6⟩, gC, _⟩ := HBC.out.below HB2.out
  have HDE2 := hid dE
  have HGC2 := hid gC
  obtain ⟨t, f, o, hp⟩ : ∃ t f o, pickS C E wk had = (t, f, o) := ⟨_, _, _, rfl⟩
  have HP := hid hp
  clear dE gC hp
  go_wp2_with fail
  refine (pick_calls C CA CB ca cb E EA EB ED ea eb ed wk had _ w2 HGC2.out HDE2.out (Kd.below HHD.out HB2.out) (by omega) (by omega) HBD.out HS1.out).mono ?_
  rintro e w3 ⟨rfl, hb3⟩
  rw [HP.out]
  dsimp only
  have HB3 := hid (bThen HB2.out hb3)
  clear hb3 d0 d1 d2 d3 d4 d5 g0 g1 g2 g3 g4 g5 g6
  rcases pick_cases HP.out with ⟨rfl, rfl, rfl⟩ | ⟨rfl, rfl, ⟨j, rfl, hmay⟩, hpn⟩ | ⟨rfl, rfl, j, rfl, hjt, hpd⟩
  · go_wp2_with fail
    refine (works34_calls _).mono ?_
    rintro e w4 ⟨rfl, hb4⟩
    go_wp2
    go_ret
    exact ⟨rfl, bThen (bThen HBV.out HB3.out) hb4⟩
  · obtain ⟨hj1, hj2, hbj, s, hs, hhb⟩ := may_at hmay
    obtain ⟨an, han⟩ : ∃ an, EA = some an := by
      obtain ⟨rb, _⟩ := K_row HBE.out.2.1.needs
      obtain ⟨an, _, h, _⟩ := rb.at_str j hj1
      exact ⟨an, h⟩
    obtain ⟨ab, hab⟩ : ∃ ab, EB = some ab := by
      obtain ⟨rb, _⟩ := K_row HBE.out.2.1.bound
      obtain ⟨ab, _, h, _⟩ := rb.at_int j hj2
      exact ⟨ab, h⟩
    subst han
    subst hab
    have HSS := hid hs
    have HBJ := hid hbj
    have HPN := hid hpn
    have HHB := hid hhb
    have HXZ := hid (HS2.out s (List.mem_of_getElem? hs))
    have HLT := hid (setS_lt C.names C.workers s)
    have HS := hid (fun (u : World) (hb : Below V.heap.size V u) => show ((u.cell? ⟨w.heap.size, 0, none⟩ = some (.int .i64 C.scheds) ∧ u.cell? ⟨w.heap.size, 1, none⟩ = some (.int .i64 C.lease) ∧ u.cell? ⟨w.heap.size, 2, none⟩ = some (.int .i64 C.again) ∧ u.cell? ⟨w.heap.size, 3, none⟩ = some (.int .i64 C.room) ∧ u.cell? ⟨w.heap.size, 4, none⟩ = some (.int .i64 C.out) ∧ u.cell? ⟨w.heap.size, 5, none⟩ = some (.slice CA C.names.length ca) ∧ u.cell? ⟨w.heap.size, 6, none⟩ = some (.slice CB C.workers.length cb)) ∧ (u.cell? ⟨w.heap.size + 1, 0, none⟩ = some (.int .i64 E.id) ∧ u.cell? ⟨w.heap.size + 1, 1, none⟩ = some (.int .i64 E.sched) ∧ u.cell? ⟨w.heap.size + 1, 2, none⟩ = some (.int .i64 E.epoch) ∧ u.cell? ⟨w.heap.size + 1, 3, none⟩ = some (.slice (some an) E.needs.length ea) ∧ u.cell? ⟨w.heap.size + 1, 4, none⟩ = some (.slice (some ab) E.bound.length eb) ∧ u.cell? ⟨w.heap.size + 1, 5, none⟩ = some (.slice ED E.done.length ed)) ∧ u.cell? (an.add j) = some (.string s) ∧ u.cell? (ab.add j) = some (.int .i64 0)) from by
      obtain ⟨d, dE, _⟩ := HBE.out.below hb
      obtain ⟨rb, _⟩ := K_row dE.needs
      obtain ⟨rb2, _⟩ := K_row dE.bound
      obtain ⟨a', x', ha', hx', r0'⟩ := rb.at_str j hj1
      obtain ⟨a2, x2, ha2, hx2, r2⟩ := rb2.at_int j hj2
      cases ha'; cases ha2
      rw [HSS.out] at hx'
      rw [HBJ.out] at hx2
      obtain rfl := Option.some.inj hx'
      obtain rfl := Option.some.inj hx2
      exact ⟨(HBC.out.below hb).1, d, r0', r2⟩)
    have HCA := hid (fun (u : World) (hb : Below V.heap.size V u) => show CAt u C CA CB ca cb from (HBC.out.below hb).2.1)
    have HEA := hid (fun (u : World) (hb : Below V.heap.size V u) => show EAt u E (some an) (some ab) ED ea eb ed from (HBE.out.below hb).2.1)
    have HHA := hid (fun (u : World) (hb : Below V.heap.size V u) => show Kd.bool.slice.K u Any had [.slice Ah n4 ch] from Kd.below HHD.out hb)
    obtain ⟨z, hz⟩ : ∃ z, z = setS C.names C.workers s := ⟨_, rfl⟩
    have HZ := hid hz
    rw [← hz] at HLT HHB
    obtain ⟨_, e3, e4, _, _⟩ : True ∧ (w3.cell? ⟨w.heap.size + 1, 3, none⟩ = some (.slice (some an) E.needs.length ea)) ∧ (w3.cell? ⟨w.heap.size + 1, 4, none⟩ = some (.slice (some ab) E.bound.length eb)) ∧ True ∧ True := by
      obtain ⟨⟨_, _, _, q3, q4, _⟩, _, _⟩ := HBE.out.below HB3.out
      exact ⟨trivial, q3, q4, trivial, trivial⟩
    have i1 : (j : Int) < (E.needs.length : Int) := by omega
    have i2 : (j : Int) < (E.bound.length : Int) := by omega
    have j1 : ¬ (E.needs.length : Int) ≤ (j : Int) := by omega
    have j2 : ¬ (E.bound.length : Int) ≤ (j : Int) := by omega
    have hj0 : (0 : Int) ≤ (j : Int) := by omega
    have hj0' : ¬ (j : Int) < 0 := by omega
    clear hmay hpn hbj hs hhb hz
    go_wp2_with fail
    have k0 := HS.out w3.drew HB3.out.drew
    have U0 := hid HB3.out.drew
    go_region_held3 (fun w' => (w'.cell? ⟨w.heap.size, 0, none⟩ = some (.int .i64 C.scheds) ∧ w'.cell? ⟨w.heap.size, 1, none⟩ = some (.int .i64 C.lease) ∧ w'.cell? ⟨w.heap.size, 2, none⟩ = some (.int .i64 C.again) ∧ w'.cell? ⟨w.heap.size, 3, none⟩ = some (.int .i64 C.room) ∧ w'.cell? ⟨w.heap.size, 4, none⟩ = some (.int .i64 C.out) ∧ w'.cell? ⟨w.heap.size, 5, none⟩ = some (.slice CA C.names.length ca) ∧ w'.cell? ⟨w.heap.size, 6, none⟩ = some (.slice CB C.workers.length cb)) ∧ (w'.cell? ⟨w.heap.size + 1, 0, none⟩ = some (.int .i64 E.id) ∧ w'.cell? ⟨w.heap.size + 1, 1, none⟩ = some (.int .i64 E.sched) ∧ w'.cell? ⟨w.heap.size + 1, 2, none⟩ = some (.int .i64 E.epoch) ∧ w'.cell? ⟨w.heap.size + 1, 3, none⟩ = some (.slice (some an) E.needs.length ea) ∧ w'.cell? ⟨w.heap.size + 1, 4, none⟩ = some (.slice (some ab) E.bound.length eb) ∧ w'.cell? ⟨w.heap.size + 1, 5, none⟩ = some (.slice ED E.done.length ed)) ∧ w'.cell? (an.add j) = some (.string s) ∧ w'.cell? (ab.add j) = some (.int .i64 0)) (first | exact k0 | exact k1 | exact k2 | exact k3 | exact k4 | fail) (first
      | ((with_reducible refine (rset15_calls C.names C.workers s C.scheds C.lease C.again C.room C.out _ _ w3.drew (HCA.out _ U0.out).names (HCA.out _ U0.out).workers (HCA.out _ U0.out).attrs HXZ.out HWL.out).mono ?_); rintro e w4 ⟨rfl, hb4⟩; rw [← HZ.out]; have U1 := hid (bThen U0.out hb4); have k1 := HS.out w4 U1.out; clear hb4)
      | ((with_reducible refine (rhas_calls z wk w4 HLT.out).mono ?_); rintro e w5 ⟨rfl, hw5⟩; subst hw5; rw [HHB.out]; have k2 := k1)
      | ((with_reducible refine (pending_calls E (some an) (some ab) ED ea eb ed wk had _ w4 (HEA.out _ U1.out) (HHA.out _ U1.out) (by omega) HBD.out).mono ?_); rintro e w6 ⟨v6, rfl, hO6, hb6⟩; rw [HPN.out] at hO6; obtain ⟨A6, m6, c6', rfl, hm6, _⟩ := hO6.shape'; have hm6' : m6 = 0 := hm6; subst hm6'; have U3 := hid (bThen U1.out hb6); have k3 := HS.out w6 U3.out; clear hO6 hb6 hm6)
      | ((with_reducible refine (works34_calls w6).mono ?_); rintro e w7 ⟨rfl, hb7⟩; have U4 := hid (bThen U3.out hb7); have k4 := HS.out w7 U4.out; clear hb7)
      | fail)
    go_wp2
    go_ret
    exact ⟨rfl, bThen HBV.out U4.out⟩
  · obtain ⟨hj1, hj2, hj3⟩ := tasks_lt hjt
    obtain ⟨b, hbj, hbw, hdn, hnb⟩ := pend_at hpd hjt
    obtain ⟨⟨_, _, _, e3, e4, e5⟩, eE, _⟩ := HBE.out.below HB3.out
    obtain ⟨rb, _⟩ := K_row eE.bound
    obtain ⟨rd, _⟩ := K_row eE.done
    obtain ⟨ab, x, rfl, hx, r0⟩ := rb.at_int j hj2
    obtain ⟨ad, y, rfl, hy, r1⟩ := rd.at_bool j hj3
    rw [hbj] at hx
    rw [hdn] at hy
    obtain rfl := Option.some.inj hx
    obtain rfl := Option.some.inj hy
    have hb64 := HBD.out b (List.mem_of_getElem? hbj)
    obtain ⟨rh, _⟩ := K_row (Kd.below HHD.out HB3.out)
    have HRH := hid rh
    have e1 : IntKind.i64.wrap (wk + 1) = wk + 1 := IntWalk.i64_in _ (by omega)
    have e2 : (b == wk + 1) = true := by rw [beq_iff_eq]; exact hbw
    have i1 : (j : Int) < (E.needs.length : Int) := by omega
    have i2 : (j : Int) < (E.bound.length : Int) := by omega
    have i3 : (j : Int) < (E.done.length : Int) := by omega
    have j1 : ¬ (E.needs.length : Int) ≤ (j : Int) := by omega
    have j2 : ¬ (E.bound.length : Int) ≤ (j : Int) := by omega
    have hj0 : (0 : Int) ≤ (j : Int) := by omega
    have hj0' : ¬ (j : Int) < 0 := by omega
    have HNB := hid hnb
    clear hpd hbj hbw hdn hnb hx hy rb rd rh eE
    by_cases hjn : j < n4
    · obtain ⟨ah, nb, rfl, hnb, rn⟩ := HRH.out.at_bool j (by rw [← H4.out]; exact hjn)
      have hnbf : nb = false := by have := HNB.out; unfold notedB at this; rw [hnb] at this; exact this
      subst hnbf
      have i4 : (j : Int) < (n4 : Int) := by omega
      clear hnb
      go_wp2_with fail
      refine (works34_calls _).mono ?_
      rintro e w4 ⟨rfl, hb4⟩
      go_wp2
      go_ret
      exact ⟨rfl, bThen (bThen HBV.out HB3.out) hb4⟩
    · have i4 : ¬ (j : Int) < (n4 : Int) := by omega
      go_wp2_with fail
      refine (works34_calls _).mono ?_
      rintro e w4 ⟨rfl, hb4⟩
      go_wp2
      go_ret
      exact ⟨rfl, bThen (bThen HBV.out HB3.out) hb4⟩
theorem handFits_walk (W : World) (C : ConfS) (cs : Array Value) (hC : Kd.conf.K W Any C cs.toList) (oC : okConf C) (E : EntryS) (es : Array Value) (hE : Kd.entry.K W Any E es.toList) (_oE : okEntry E) (x : WhoS) (xs : Array Value) (hx : Kd.who.K W Any x xs.toList) (_ox : True) :
    Calls Try.prog 9 #[.agg cs, .agg es, .agg xs] W fun e w' => e = .returned (.bool true) ∧ Below W.heap.size W w' := by
  obtain ⟨CA, ca, CB, cb, g0, g1, g2⟩ := conf_cells hC
  obtain ⟨EA, ea, EB, eb, ED, ed, h0, h1, h2, h3⟩ := entry_cells hE
  obtain ⟨Ah, ch, q0, q1⟩ := who_cells hx
  obtain rfl : cs = #[.int .i64 C.scheds, .int .i64 C.lease, .int .i64 C.again, .int .i64 C.room, .int .i64 C.out, .slice CA C.names.length ca, .slice CB C.workers.length cb] := by cases cs; simp_all
  obtain rfl : es = #[.int .i64 E.id, .int .i64 E.sched, .int .i64 E.epoch, .slice EA E.needs.length ea, .slice EB E.bound.length eb, .slice ED E.done.length ed] := by cases es; simp_all
  obtain rfl : xs = #[.int .i64 x.worker, .slice Ah x.had.length ch] := by cases xs; simp_all
  exact handFitsLaw C CA CB ca cb E EA EB ED ea eb ed x.worker x.had Ah ch W ⟨g1, g2, oC.2.1⟩ ⟨h1, h2, h3⟩ q1 oC.2.2
end Go.Proofs.Yteijgeofimcijaa
