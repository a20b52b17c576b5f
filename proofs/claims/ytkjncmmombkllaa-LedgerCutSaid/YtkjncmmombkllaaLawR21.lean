/- The law LedgerRoom. -/
import Derived.Test.YtkjncmmombkllaaLaw21
import Derived.Test.YtkjncmmombkllaaBase
namespace Go.Proofs.Ytkjncmmombkllaa
open Go.RowKit Go.Lib

/-- The ledger of LedgerRoom between two puts. B: what stood before; K: puts. -/
def RS21 (B gl ga gd : Nat) (room : Int) (K : Nat) (W : World) : Prop := ∃ (D : DiskS) (l : List RecS) (b : List EntryS) (F : Nat → Prop), LgAt W F gl ga gd D l false b room ∧ RoomOk D l b room ∧ D.fuse < 0 ∧ l.length ≤ K ∧ (∀ k, F k → B ≤ k)
set_option maxHeartbeats 4000000 in
set_option maxRecDepth 100000 in
theorem ledgerRoomLaw_calls (w : World) (room : Nat) (hr : room < 65536) (l : List RecS) (L : Option Addr) (e : Nat) (hl : Kd.recK.slice.K w Any l [.slice L l.length e]) :
    Calls Try.prog 3 #[.int .u16 room, .slice L l.length e] w fun e w' => e = .returned (.bool true) ∧ Below w.heap.size w w' := by
  have HL := hid hl
  have HR : Hid (Kd.recK.Row w (fun k => k < w.heap.size) L l) := by
    obtain ⟨A', n', he, _, _, h⟩ := Kd.mono _ (S' := fun k => k < w.heap.size) (fun k _ h => h) hl
    cases he
    exact h
  clear hl
  cases hlg : long18 l 60
  case true =>
    go_enter Try.func3, Try.ntmps3
    go_wp2_with fail
    refine (rfLong18_calls l 60 _ _ HL.out).mono ?_
    rintro e w1 ⟨rfl, hb1⟩
    rw [hlg]
    go_wp2_with fail
    refine (works21_calls _).mono ?_
    rintro e w2 ⟨rfl, hb2⟩
    go_wp2
    go_ret
    exact ⟨rfl, bThen hb1 hb2⟩
  have hll : l.length ≤ 60 := by
    have h := hlg
    unfold long18 at h
    rw [Bool.or_eq_false_iff, decide_eq_false_iff_not] at h
    omega
  go_enter Try.func3, Try.ntmps3
  go_wp2_with fail
  refine (rfLong18_calls l 60 _ _ HL.out).mono ?_
  rintro e1 w1 ⟨rfl, hb1⟩
  rw [hlg]
  have HB1 := hid hb1
  clear hlg hb1
  have hcv : IntKind.i64.wrap (room : Int) = (room : Int) := IntWalk.i64_in _ (by omega)
  go_wp2_with fail
  refine (diskNew_yes room _ (by omega) (by omega)).mono ?_
  rintro e2 w2 ⟨rfl, hd2, hb2⟩
  have HD2 := hid hd2
  have HB2 := hid (bThen HB1.out hb2)
  clear hd2 hb2
  go_wp2_with fail
  refine (lopen_fresh HD2.out room (by omega) (by omega)).mono ?_
  rintro e3 w3 ⟨gl, ga, rfl, hl3, hm3⟩
  have hs1 := HB1.out.size
  have HS3 := hid (show RS21 w.heap.size gl ga w1.heap.size room 0 w3 from ⟨_, _, _, _, hl3, room_start (by omega), (by show (-1 : Int) < 0; decide), Nat.le_refl _, fun k hk => by
    have := HB2.out.size
    rcases hk with hk | hk
    · omega
    · omega⟩)
  have HB3 := hid (show Below w.heap.size w w3 from HB2.out.trans (hm3.below (fun k _ hk => by omega) HB2.out.size))
  clear hl3 hm3 hs1
  go_wp2
  go_loopw [7] (fun i wr => ∃ k : Nat, k ≤ l.length ∧ i = .int .i64 k ∧ Hid (RS21 w.heap.size gl ga w1.heap.size room k wr) ∧ Hid (Below w.heap.size w wr)) (fun i _ => l.length - (intOf i).toNat)
  case atStart => exact ⟨0, by omega, rfl, HS3, HB3⟩
  case round =>
    obtain ⟨k, hk, rfl, HS, HB⟩ := hrel
    by_cases hlt : k < l.length
    · obtain ⟨a, x, B1, m1, d1, rfl, hx, y0, y1, y2, y3, y4, y5, y6, hKx⟩ := at_rec (HR.out.below HB.out) k hlt
      have hml := recK_needs hKx
      subst hml
      have HX := hid hx
      have hltI : (k : Int) < (l.length : Int) := by omega
      have hk0 : (0 : Int) ≤ (k : Int) := by omega
      have hw : IntKind.i64.wrap ((k : Int) + 1) = (k : Int) + 1 := IntWalk.i64_in _ (by omega)
      obtain ⟨D, l', b, F, hlg, hro, hfu, hlk, hF⟩ := HS.out
      have HST := hid (room_step hro hfu x)
      have HF := hid hF
      have HLK := hid hlk
      have HFU := hid hfu
      have HPT := hid (lput_calls hlg hro.book x B1 d1 (Kd.mono _ (fun j (hj : j < w.heap.size) _ h => by have := hF j h; omega) hKx) (by omega))
      obtain ⟨G, hG⟩ : ∃ G, G = putG D l' false b room x := ⟨_, rfl⟩
      rw [← hG] at HST HPT
      clear hx hKx hlg hro hfu hlk hF hG HS
      go_wp2_with fail
      refine HPT.out.mono ?_
      rintro e4 w4 ⟨rfl, hl4, hm4⟩
      have HB4 := hid (show Below w.heap.size w w4 from HB.out.trans (hm4.below (fun j _ hj => HF.out j hj) HB.out.size))
      have HSB := hid (show RS21 w.heap.size gl ga w1.heap.size room (k + 1) w4 from by
        obtain ⟨h1, h2, h3, h4, h5⟩ := HST.out
        rw [h2] at hl4
        exact ⟨_, _, _, _, hl4, h1, by rw [h3]; exact HFU.out, by have := HLK.out; omega, fun j hj => hj.elim (HF.out j) (fun h => Nat.le_trans HB.out.size h)⟩)
      have H7 := hid HST.out.2.2.2.1
      clear y0 y1 y2 y3 y4 y5 y6 hl4 hm4 HPT HST
      obtain ⟨a', x', B1', m1', d1', ha', hx', y0, y1, y2, y3, y4, y5, y6, hKx⟩ := at_rec (HR.out.below HB4.out) k hlt
      injection ha' with ha'
      subst ha'
      rw [HX.out] at hx'
      obtain rfl := Option.some.inj hx'
      clear hx' hKx y1 y2 y3 y4 y5 y6
      obtain ⟨ge, hge⟩ : ∃ ge, ge = G.e := ⟨_, rfl⟩
      rw [← hge] at H7 ⊢
      clear hge
      by_cases h7 : ge = 7
      · have hk1 : x.kind = 1 := H7.out h7
        rw [hk1] at y0
        subst h7
        go_wp2
        go_roundw
        case rel => exact ⟨k + 1, by omega, by go_num, HSB, HB4⟩
        case measure => simp [intOf]; omega
      · have hne : (ge == (7 : Int)) = false := by rw [beq_eq_false_iff_ne]; exact h7
        clear h7
        go_wp2
        go_roundw
        case rel => exact ⟨k + 1, by omega, by go_num, HSB, HB4⟩
        case measure => simp [intOf]; omega
    · obtain rfl : k = l.length := by omega
      obtain ⟨D, l', b, F, hlg, hro, hfu, hlk, hF⟩ := HS.out
      have HKP := hid (lkept_calls hlg hro.book)
      have hkp := hro.kept
      obtain ⟨kl, hkl⟩ : ∃ kl, kl = keptL b := ⟨_, rfl⟩
      rw [← hkl] at HKP hkp
      clear hlg hro hfu hlk hF hkl HS
      have hdk : decide (kl ≤ (room : Int)) = true := decide_eq_true hkp
      go_wp2_with fail
      refine HKP.out.mono ?_
      rintro e4 w4 ⟨rfl, hb4⟩
      have HB4 := hid (bThen HB.out hb4)
      clear hb4
      go_wp2_with fail
      refine (works21_calls _).mono ?_
      rintro e5 w5 ⟨rfl, hb5⟩
      have HB5 := hid (bThen HB4.out hb5)
      clear hb5
      go_wp2
      go_ret
      exact ⟨rfl, HB5.out⟩
theorem ledgerRoom_walk (W : World) (room : Int) (hct : (Lit.int .u16 room).wf = true) (l : List RecS) (v : Value) (hm : Kd.recK.slice.K W Any l [v]) (_ol : (∀ y ∈ l, okRec y) ∧ l.length * 72 ≤ 140737488351232) :
    Calls Try.prog 3 #[.int .u16 room, v] W fun e w' => e = .returned (.bool true) ∧ Below W.heap.size W w' := by
  obtain ⟨A, c, he, _⟩ := id hm
  injection he with he _
  subst he
  simp [Lit.wf, IntKind.min, IntKind.max, IntKind.bits, IntKind.signed] at hct
  obtain ⟨r, rfl⟩ : ∃ r : Nat, room = (r : Int) := ⟨room.toNat, by omega⟩
  exact ledgerRoomLaw_calls W r (by omega) l A c hm
end Go.Proofs.Ytkjncmmombkllaa
