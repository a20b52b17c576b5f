/- The law LedgerCut. -/
import Derived.Test.YtkjncmmombkllaaLawR21
import Derived.Test.YtkjncmmombkllaaRBook2
import Derived.Test.YtkjncmmombkllaaBase
namespace Go.Proofs.Ytkjncmmombkllaa
open Go.RowKit Go.Lib

/-! ### plain -/
theorem tornK_app : ∀ (l : List RecS) (x : RecS) (m : Nat), (∀ y ∈ l, recOk y = true) → (tornK (l ++ [x]) ((bytesS l).length + m)).1 = l.length + (if (putL (recL x)).length ≤ m then 1 else 0)
  | [], x, m, _ => by
    show (tornK [x] ((bytesS []).length + m)).1 = _
    rw [show (bytesS []).length + m = m by simp [bytesS]]
    unfold tornK
    split
    · simp [tornK]
    · simp
  | y :: r, x, m, h => by
    have hy := h y (by simp)
    have hb : bytesS (y :: r) = putL (recL y) ++ bytesS r := by unfold bytesS; rw [List.flatMap_cons, if_pos hy]
    rw [List.cons_append, hb, List.length_append]
    unfold tornK
    rw [if_pos (by omega)]
    have := tornK_app r x m (fun z hz => h z (by simp [hz]))
    rw [show (putL (recL y)).length + (bytesS r).length + m - (putL (recL y)).length = (bytesS r).length + m by omega, this]
    simp only [List.length_cons]
    omega
/-- What is found behind a cut. -/
theorem cut_found {l : List RecS} {x : RecS} (hl : ∀ y ∈ l, recOk y = true) (hx : recOk x = true) (m : Nat) (hm : m ≤ (putL (recL x)).length) :
    (recsS (bytesS l ++ (putL (recL x)).take m)).1 = if (putL (recL x)).length ≤ m then l ++ [x] else l := by
  have hb : bytesS l ++ (putL (recL x)).take m = (bytesS (l ++ [x])).take ((bytesS l).length + m) := by
    rw [bytesS_snoc, if_pos hx, List.take_append, List.take_of_length_le (l := bytesS l) (by omega), show (bytesS l).length + m - (bytesS l).length = m by omega]
  rw [hb, recsS_torn _ _ (fun y hy => by
    rcases List.mem_append.1 hy with hy | hy
    · exact hl y hy
    · rw [List.mem_singleton.1 hy]; exact hx)]
  dsimp only
  rw [tornK_app l x m hl]
  split
  · rw [List.take_of_length_le (by simp)]
  · rw [Nat.add_zero, List.take_append_of_le_length (Nat.le_refl _), List.take_length]
/-- A put while the fuse burns. -/
theorem cut_step {D : DiskS} {l : List RecS} {b : List EntryS} {room : Int} (h : RoomOk D l b room) (n : Nat) (x : RecS) :
    (putG (D.burn n) l false b room x).b = b ∧ (putG (D.burn n) l false b room x).e ≠ 0 ∧ ((putG (D.burn n) l false b room x).e == 14) = (putG (D.burn n) l false b room x).down ∧
      foldB (recsS (putG (D.burn n) l false b room x).D.b).1 [] 0 = (if (putG (D.burn n) l false b room x).e = 14 ∧ sizeR x ≤ n then nextB b x else b, (recsS (putG (D.burn n) l false b room x).D.b).1.length) ∧
      ((putG (D.burn n) l false b room x).e = 14 → whyB b x = 0) ∧ BOk (if (putG (D.burn n) l false b room x).e = 14 ∧ sizeR x ≤ n then nextB b x else b) := by
  have hD : RoomOk (D.burn n) l b room := ⟨h.droom, h.bytes, h.recs, h.fold, h.used, h.ents, h.len, h.kept⟩
  have hall : recsS (D.burn n).b = (l, (bytesS l).length) := by show recsS D.b = _; rw [h.bytes, recsS_all l h.recs]
  by_cases hy : whyB b x = 0
  case neg =>
    rw [putG_no hy]
    have h14 : whyB b x ≠ 14 := by
      cases hx : recOk x
      · rw [whyB_check hx]; decide
      · by_cases hk : x.kind = 1
        · rw [whyB_accept hx hk]
          repeat' split
          all_goals decide
        · cases hf : findE b x.job with
          | none => rw [whyB_none hx hk hf]; decide
          | some E =>
            rw [whyB_some hx hk hf]
            unfold whyE
            repeat' split
            all_goals decide
    refine ⟨rfl, hy, ?_, ?_, fun h => absurd h h14, ?_⟩
    · show (whyB b x == 14) = false
      rw [beq_eq_false_iff_ne]; exact h14
    · dsimp only
      rw [hall, if_neg (fun h => h14 h.1)]
      exact h.fold
    · dsimp only
      rw [if_neg (fun h => h14 h.1)]
      exact h.book
  by_cases hr : x.kind = 1 ∧ room < keptL b + mostR x.job 0 x.needs
  · have : putG (D.burn n) l false b room x = ⟨D.burn n, l, false, b, 7⟩ := by unfold putG; rw [if_neg Bool.false_ne_true, if_neg (fun h2 => h2 hy), if_pos hr]
    rw [this]
    refine ⟨rfl, by show (7 : Int) ≠ 0; decide, rfl, ?_, fun h => absurd h (by show (7 : Int) ≠ 14; decide), ?_⟩
    · dsimp only
      rw [hall, if_neg (fun h => absurd h.1 (by decide))]
      exact h.fold
    · dsimp only
      rw [if_neg (fun h => absurd h.1 (by decide))]
      exact h.book
  have hx := whyB_rec hy
  have hfit := room_fits hD hy hr
  have hmax : (D.burn n).fuse = (n : Int) := by show max (n : Int) (-1) = n; omega
  have ha : (D.burn n).append (putL (recL x)) = (⟨D.b ++ (putL (recL x)).take (min n (putL (recL x)).length), D.room, -1⟩, 14) := by
    unfold DiskS.append
    rw [if_neg hfit, hmax, if_pos (by omega)]
    rfl
  have hp : anApp (D.burn n) l false x = (⟨D.b ++ (putL (recL x)).take (min n (putL (recL x)).length), D.room, -1⟩, l, true, 14) := by
    unfold anApp
    rw [if_pos hx, if_neg Bool.false_ne_true, ha]
    rfl
  have hG : putG (D.burn n) l false b room x = ⟨⟨D.b ++ (putL (recL x)).take (min n (putL (recL x)).length), D.room, -1⟩, l, true, b, 14⟩ := by
    unfold putG
    rw [if_neg Bool.false_ne_true, if_neg (fun h2 => h2 hy), if_neg hr, hp]
    rfl
  rw [hG]
  have hs := sizeR_put hx
  refine ⟨rfl, by show (14 : Int) ≠ 0; decide, rfl, ?_, fun _ => hy, ?_⟩
  · dsimp only
    rw [h.bytes, cut_found h.recs hx _ (Nat.min_le_right _ _)]
    by_cases hn : sizeR x ≤ n
    · rw [if_pos (by omega), if_pos ⟨rfl, hn⟩, foldB_snoc l [] 0 x (by rw [h.fold]; simp), h.fold]
      dsimp only
      rw [if_neg (fun h2 => h2 hy)]
      simp
    · rw [if_neg (by omega), if_neg (fun h => hn h.2)]
      exact h.fold
  · dsimp only
    split
    · exact nextB_ok h.book
    · exact h.book
theorem lgFuse_calls {w : World} {F : Nat → Prop} {gl ga gd : Nat} {D : DiskS} {l : List RecS} {down : Bool} {b : List EntryS} {room : Int} (h : LgAt w F gl ga gd D l down b room) (n : Int) (hn : n ≤ 9223372036854775807) :
    Calls Try.prog 13 #[.pointer (some ⟨gd, 0, none⟩), .int .i64 n] w fun e w' => e = .returned (.tuple #[]) ∧ LgAt w' F gl ga gd (D.burn n) l down b room ∧ Mod F w w' := by
  obtain ⟨FP, SB, v, h1, h2, h3, h4, h5, h6, h7⟩ := h
  refine (pairFuse_calls h1 n hn).mono ?_
  rintro e w' ⟨k1, k2, k3⟩
  exact ⟨k1, ⟨FP, SB, v, k2, h2, h3, h4, (k3.block gl (Array.getElem?_eq_some_iff.1 h5).1 h4).trans h5, Kd.entry.slice.move (fun k hk hl => k3.block k hl (h7 k hk).2.1) h6, h7⟩, k3.mono (fun k _ h => h2 k h)⟩
set_option maxHeartbeats 4000000 in
set_option maxRecDepth 100000 in
theorem ledgerCutLaw_calls (w : World) (l : List RecS) (L : Option Addr) (e : Nat) (hl : Kd.recK.slice.K w Any l [.slice L l.length e]) (fz : Nat) (hfz : fz < 65536) :
    Calls Try.prog 4 #[.slice L l.length e, .int .u16 fz] w fun e w' => e = .returned (.bool true) ∧ Below w.heap.size w w' := by
  have HL := hid hl
  have HR : Hid (Kd.recK.Row w (fun k => k < w.heap.size) L l) := by
    obtain ⟨A', n', he, _, _, h⟩ := Kd.mono _ (S' := fun k => k < w.heap.size) (fun k _ h => h) hl
    cases he
    exact h
  clear hl
  cases hlg : long18 l 40
  case true =>
    go_enter Try.func4, Try.ntmps4
    go_wp2_with fail
    refine (rfLong18_calls l 40 _ _ HL.out).mono ?_
    rintro e w1 ⟨rfl, hb1⟩
    rw [hlg]
    go_wp2_with fail
    refine (works21_calls _).mono ?_
    rintro e w2 ⟨rfl, hb2⟩
    go_wp2
    go_ret
    exact ⟨rfl, bThen hb1 hb2⟩
  have hll : l.length ≤ 40 := by
    have h := hlg
    unfold long18 at h
    rw [Bool.or_eq_false_iff, decide_eq_false_iff_not] at h
    omega
  by_cases hl0 : l.length = 0
  · have hlI : ((l.length : Int) == 0) = true := by rw [hl0]; decide
    clear hl0
    go_enter Try.func4, Try.ntmps4
    go_wp2_with fail
    refine (rfLong18_calls l 40 _ _ HL.out).mono ?_
    rintro e w1 ⟨rfl, hb1⟩
    rw [hlg]
    go_wp2_with fail
    refine (works21_calls _).mono ?_
    rintro e w2 ⟨rfl, hb2⟩
    go_wp2
    go_ret
    exact ⟨rfl, bThen hb1 hb2⟩
  obtain ⟨last, hlast⟩ : ∃ last : Nat, l.length = last + 1 := ⟨l.length - 1, by omega⟩
  have HLA := hid hlast
  have hlI : (((last + 1 : Nat) : Int) == 0) = false := by rw [beq_eq_false_iff_ne]; omega
  rw [hlast] at HL ⊢
  clear hl0 hlast
  have hlast39 : last ≤ 39 := by have := HLA.out; omega
  have hwl : IntKind.i64.wrap (((last + 1 : Nat) : Int) - 1) = (last : Int) := by rw [show ((last + 1 : Nat) : Int) - 1 = (last : Int) by omega]; exact IntWalk.i64_in _ (by omega)
  go_enter Try.func4, Try.ntmps4
  go_wp2_with fail
  have hst := rfLong18_calls l 40 (.slice L (last + 1) e) w HL.out
  refine hst.mono ?_
  clear hst
  rintro e1 w1 ⟨rfl, hb1⟩
  rw [hlg]
  have HB1 := hid hb1
  clear hlg hb1
  go_wp2_with fail
  refine (diskNew_yes 65536 _ (by decide) (by decide)).mono ?_
  rintro e2 w2 ⟨rfl, hd2, hb2⟩
  have HD2 := hid hd2
  have HB2 := hid (bThen HB1.out hb2)
  clear hd2 hb2
  go_wp2_with fail
  refine (lopen_fresh HD2.out 65536 (by decide) (by decide)).mono ?_
  rintro e3 w3 ⟨gl, ga, rfl, hl3, hm3⟩
  have hs1 := HB1.out.size
  have HS3 := hid (show RS21 w.heap.size gl ga w1.heap.size 65536 0 w3 from ⟨_, _, _, _, hl3, room_start (by omega), (by show (-1 : Int) < 0; decide), Nat.le_refl _, fun k hk => by
    have := HB2.out.size
    rcases hk with hk | hk
    · omega
    · omega⟩)
  have HB3 := hid (show Below w.heap.size w w3 from HB2.out.trans (hm3.below (fun k _ hk => by omega) HB2.out.size))
  clear hl3 hm3 hs1
  go_wp2
  go_loopw [9] (fun i wr => ∃ k : Nat, k ≤ last ∧ i = .int .i64 k ∧ Hid (RS21 w.heap.size gl ga w1.heap.size 65536 k wr) ∧ Hid (Below w.heap.size w wr)) (fun i _ => last - (intOf i).toNat)
  case atStart => exact ⟨0, by omega, rfl, HS3, HB3⟩
  case round =>
    obtain ⟨k, hk, rfl, HS, HB⟩ := hrel
    have hkl : k < l.length := by have := HLA.out; omega
    obtain ⟨a, x, B1, m1, d1, rfl, hx, y0, y1, y2, y3, y4, y5, y6, hKx⟩ := at_rec (HR.out.below HB.out) k hkl
    have hml := recK_needs hKx
    subst hml
    obtain ⟨D, l', b, F, hlg, hro, hfu, hlk, hF⟩ := HS.out
    have HF := hid hF
    have HLK := hid hlk
    have HFU := hid hfu
    have hk0 : (0 : Int) ≤ (k : Int) := by omega
    have hkI : (k : Int) < ((last + 1 : Nat) : Int) := by omega
    have hw : IntKind.i64.wrap ((k : Int) + 1) = (k : Int) + 1 := IntWalk.i64_in _ (by omega)
    by_cases hlt : k < last
    · have hltI : (k : Int) < (last : Int) := by omega
      have HST := hid (room_step hro hfu x)
      have HPT := hid (lput_calls hlg hro.book x B1 d1 (Kd.mono _ (fun j (hj : j < w.heap.size) _ h => by have := hF j h; omega) hKx) (by omega))
      obtain ⟨G, hG⟩ : ∃ G, G = putG D l' false b 65536 x := ⟨_, rfl⟩
      rw [← hG] at HST HPT
      clear hx hKx hlg hro hfu hlk hF hG HS
      go_wp2_with fail
      refine HPT.out.mono ?_
      rintro e4 w4 ⟨rfl, hl4, hm4⟩
      have HB4 := hid (show Below w.heap.size w w4 from HB.out.trans (hm4.below (fun j _ hj => HF.out j hj) HB.out.size))
      have HSB := hid (show RS21 w.heap.size gl ga w1.heap.size 65536 (k + 1) w4 from by
        obtain ⟨h1, h2, h3, h4, h5⟩ := HST.out
        rw [h2] at hl4
        exact ⟨_, _, _, _, hl4, h1, by rw [h3]; exact HFU.out, by have := HLK.out; omega, fun j hj => hj.elim (HF.out j) (fun h => Nat.le_trans HB.out.size h)⟩)
      clear y0 y1 y2 y3 y4 y5 y6 hl4 hm4 HPT HST
      go_wp2
      go_roundw
      case rel => exact ⟨k + 1, by omega, by go_num, HSB, HB4⟩
      case measure => simp [intOf]; omega
    obtain rfl : k = last := by omega
    have HX := hid hx
    have HKX := hid hKx
    have HCS := hid (cut_step hro fz x)
    have HBK := hid hro.book
    have HLW := hid (hlg.mono (F' := fun j => w.heap.size ≤ j ∧ j < wr.heap.size) (fun j hj h => ⟨hF j h, hj⟩))
    have hlk2 : l'.length < 100000 := by omega
    clear hx hKx hlg hro hfu hlk hF HS HFU HF
    -- the cells of the last record, wherever what stood before is as it was
    have HRX := hid (show ∀ (u : World), Below w.heap.size w u → (u.cell? (a.add (k * 7)) = some (.int .i64 x.kind) ∧ u.cell? ⟨(a.add (k * 7)).block, (a.add (k * 7)).off + 1, none⟩ = some (.int .i64 x.job) ∧ u.cell? ⟨(a.add (k * 7)).block, (a.add (k * 7)).off + 2, none⟩ = some (.int .i64 x.task) ∧ u.cell? ⟨(a.add (k * 7)).block, (a.add (k * 7)).off + 3, none⟩ = some (.int .i64 x.worker) ∧ u.cell? ⟨(a.add (k * 7)).block, (a.add (k * 7)).off + 4, none⟩ = some (.int .i64 x.sched) ∧ u.cell? ⟨(a.add (k * 7)).block, (a.add (k * 7)).off + 5, none⟩ = some (.int .i64 x.epoch) ∧ u.cell? ⟨(a.add (k * 7)).block, (a.add (k * 7)).off + 6, none⟩ = some (.slice B1 x.needs.length d1)) ∧ Kd.str.slice.K u (fun j => j < w.heap.size) x.needs [.slice B1 x.needs.length d1] from fun u hu => by
      obtain ⟨a', x', B1', m1', d1', ha', hx', t0, t1, t2, t3, t4, t5, t6, tK⟩ := at_rec (HR.out.below hu) k hkl
      injection ha' with ha'
      subst ha'
      rw [HX.out] at hx'
      obtain rfl := Option.some.inj hx'
      obtain ⟨_, _, _, _, _, _, z6⟩ := And.intro y0 (And.intro y1 (And.intro y2 (And.intro y3 (And.intro y4 (And.intro y5 y6)))))
      have hblk : (a.add (k * 7)).block < w.heap.size := by
        obtain ⟨aa, cs, haa, hS, _⟩ := HR.out k x HX.out
        injection haa with haa
        subst haa
        rw [Kd.block_add]
        exact hS
      have h6 : wr.cell? ⟨(a.add (k * 7)).block, (a.add (k * 7)).off + 6, none⟩ = u.cell? ⟨(a.add (k * 7)).block, (a.add (k * 7)).off + 6, none⟩ := (World.cell?_of_block (a := ⟨(a.add (k * 7)).block, (a.add (k * 7)).off + 6, none⟩) (HB.out.block _ hblk)).trans (World.cell?_of_block (a := ⟨(a.add (k * 7)).block, (a.add (k * 7)).off + 6, none⟩) (hu.block _ hblk)).symm
      rw [t6, z6] at h6
      injection h6 with h6
      injection h6 with e1 e2 e3
      subst e1 e2 e3
      exact ⟨⟨t0, t1, t2, t3, t4, t5, t6⟩, tK⟩)
    clear y0 y1 y2 y3 y4 y5 y6
    go_wp2_with fail
    refine (lbook_calls HLW.out HBK.out).mono ?_
    rintro e4 w4 ⟨o, rfl, hO, hb4⟩
    have HO := hid (Kd.entry.slice.mono (S' := fun j => wr.heap.size ≤ j ∧ j < w4.heap.size) (fun j h hl => ⟨h.elim (fun h => h) (fun h => h), hl⟩) hO.K)
    obtain ⟨Ao, no, co, rfl, hno, _⟩ := hO.shape'
    have HB4 := hid (bThen HB.out hb4)
    have HR4 := hid hb4
    have HL4 := hid (HLW.out.below hb4)
    clear hO hb4
    obtain ⟨⟨y0, y1, y2, y3, y4, y5, y6⟩, hKX⟩ := HRX.out w4 HB4.out
    have HK4 := hid hKX
    have HNO := hid hno
    clear hKX hno
    go_wp2_with fail
    refine (rstep_calls (fun j => ¬ (w.heap.size ≤ j ∧ j < wr.heap.size)) b (.slice Ao no co) x B1 d1 w4 (Kd.mono _ (fun j hj _ h => by have := hj.1; have := h.2; omega) HO.out) (Kd.mono _ (fun j (hj : j < w.heap.size) _ h => by have := h.1; omega) HK4.out) HBK.out).mono ?_
    rintro e5 w5 ⟨o2, rfl, hO2, hb5⟩
    have HS4 := hid HR4.out.size
    have HO2 := hid (Kd.entry.slice.mono (S' := fun j => ¬ (w.heap.size ≤ j ∧ j < wr.heap.size) ∧ j < w5.heap.size) (fun j h hl => ⟨fun h2 => h.elim (fun h => h h2) (fun h => by have h3 : w4.heap.size ≤ j := h; have := h2.2; have := HS4.out; omega), hl⟩) hO2)
    obtain ⟨A2, c2, he, _⟩ := id hO2
    injection he with he _
    subst he
    obtain ⟨n2, hn2⟩ : ∃ n2, n2 = (nextB b x).length := ⟨_, rfl⟩
    have HN2 := hid hn2
    rw [← hn2] at HO2 ⊢
    obtain ⟨cy, hcy⟩ : ∃ cy, cy = whyB b x := ⟨_, rfl⟩
    have HCY := hid hcy
    rw [← hcy]
    have HB5 := hid (bThen HB4.out hb5)
    have HR5 := hid hb5
    have HL5 := hid (HL4.out.below hb5)
    have HO5 := hid (Kd.below HO.out hb5)
    clear hO2 hb5 y0 y1 y2 y3 y4 y5 y6 hn2 hcy
    have hcv : IntKind.i64.wrap (fz : Int) = (fz : Int) := IntWalk.i64_in _ (by omega)
    go_wp2_with fail
    refine (lgFuse_calls HL5.out fz (by omega)).mono ?_
    rintro e6 w6 ⟨rfl, hl6, hm6⟩
    have HL6 := hid hl6
    have HM6 := hid hm6
    have HB6 := hid (show Below w.heap.size w w6 from HB5.out.trans (hm6.below (fun j _ hj => hj.1) HB5.out.size))
    clear hl6 hm6
    obtain ⟨⟨y0, y1, y2, y3, y4, y5, y6⟩, hKX⟩ := HRX.out w6 HB6.out
    have HK6 := hid hKX
    clear hKX
    have HPT := hid (lput_calls HL6.out HBK.out x B1 d1 (Kd.mono _ (fun j (hj : j < w.heap.size) _ h => by have := h.1; omega) HK6.out) hlk2)
    obtain ⟨G, hG⟩ : ∃ G, G = putG (D.burn fz) l' false b 65536 x := ⟨_, rfl⟩
    rw [← hG] at HPT HCS
    clear hG
    go_wp2_with fail
    refine HPT.out.mono ?_
    rintro e7 w7 ⟨rfl, hl7, hm7⟩
    obtain ⟨C1, C2, C3, C4, C5, C6⟩ := HCS.out
    rw [C1, ← C3] at hl7
    have HL7 := hid hl7
    have HM7 := hid hm7
    have HC4 := hid C4
    have HC5 := hid C5
    have HC6 := hid C6
    obtain ⟨ge, hge⟩ : ∃ ge, ge = G.e := ⟨_, rfl⟩
    rw [← hge] at HC4 HC5 HC6 HL7 ⊢
    have hg0 : (ge == (0 : Int)) = false := by rw [beq_eq_false_iff_ne, hge]; exact C2
    have HB7 := hid (show Below w.heap.size w w7 from HB6.out.trans (hm7.below (fun j _ hj => hj.1) HB6.out.size))
    have s5 := HR5.out.size
    have s6 := HM6.out.size
    have s4 := HS4.out
    have HO7 := hid (show Kd.entry.slice.K w7 (fun j => wr.heap.size ≤ j ∧ j < w4.heap.size) b [.slice Ao no co] from Kd.entry.slice.move (fun j hj hl => (HM7.out.block j (by have := hj.2; omega) (fun h => by have := h.2; have := hj.1; omega)).trans (HM6.out.block j (by have := hj.2; omega) (fun h => by have := h.2; have := hj.1; omega))) HO5.out)
    have HO27 := hid (show Kd.entry.slice.K w7 (fun j => ¬ (w.heap.size ≤ j ∧ j < wr.heap.size) ∧ j < w5.heap.size) (nextB b x) [.slice A2 n2 c2] from Kd.entry.slice.move (fun j hj hl => (HM7.out.block j (by have := hj.2; omega) (fun h => hj.1 h)).trans (HM6.out.block j (by have := hj.2; omega) (fun h => hj.1 h))) HO2.out)
    clear hl7 hm7 C1 C2 C3 C4 C5 C6 hge y0 y1 y2 y3 y4 y5 y6 HPT HCS
    clear s4 s5 s6
    go_wp2_with fail
    refine (lbook_calls HL7.out HBK.out).mono ?_
    rintro e8 w8 ⟨o3, rfl, hO3, hb8⟩
    have HO3 := hid (Kd.any hO3.K)
    obtain ⟨A3, n3, c3, rfl, hn3, _⟩ := hO3.shape'
    have HR8 := hid hb8
    clear hO3 hn3 hb8
    go_wp2_with fail
    refine (same20_calls b _ _ w8 HO3.out (Kd.any (Kd.below HO7.out HR8.out))).mono ?_
    rintro e9 w9 ⟨rfl, hb9⟩
    have HR9 := hid (bThen HR8.out hb9)
    clear hb9
    go_wp2_with fail
    refine (ldown_calls (HL7.out.below HR9.out)).mono ?_
    rintro e10 w10 ⟨rfl, hb10⟩
    have HR10 := hid (bThen HR9.out hb10)
    have HL10 := hid (HL7.out.below HR10.out)
    have HB10 := hid (bThen HB7.out HR10.out)
    clear hb10
    obtain ⟨TD, hTD, hDK⟩ := HL10.out.disk
    have HTD := hid hTD
    obtain ⟨rs, hrs⟩ : ∃ rs, rs = (recsS G.D.b).1 := ⟨_, rfl⟩
    obtain ⟨qq, hqq⟩ : ∃ qq, qq = (recsS G.D.b).2 := ⟨_, rfl⟩
    have HOP := hid (lopen_calls hDK 65536 (by decide) (by decide) rs qq (by rw [hrs, hqq]))
    rw [← hrs] at HC4
    clear hTD hDK hrs hqq
    have hbb : ((ge == 14) != (ge == 14)) = false := by simp
    go_wp2_with fail
    refine HOP.out.mono ?_
    rintro e11 w11 hcase
    have hcase := hcase.resolve_left (fun h => by have h1 := h.1; rw [HC4.out] at h1; exact absurd h1 (Nat.lt_irrefl _))
    obtain ⟨_, gh, gb, rfl, hgh, hl11, hm11⟩ := hcase
    rw [HC4.out] at hl11
    obtain ⟨bn, hbn⟩ : ∃ bn, bn = (if ge = 14 ∧ sizeR x ≤ fz then nextB b x else b) := ⟨_, rfl⟩
    have HBN := hid hbn
    rw [← hbn] at hl11 HC6
    have HL11 := hid hl11
    have HTD6 := hid (show ∀ j, TD j → (w.heap.size ≤ j ∧ j < wr.heap.size) ∨ w6.heap.size ≤ j from fun j hj => HTD.out j hj)
    have s5 := HR5.out.size
    have s6 := HM6.out.size
    have s4 := HS4.out
    have s10 := HR10.out.size
    have s7 := HM7.out.size
    have HB11 := hid (show Below w.heap.size w w11 from HB10.out.trans (hm11.below (fun j _ hj => by rcases HTD6.out j hj with h | h; exact h.1; have := HB6.out.size; omega) HB10.out.size))
    have HO11 := hid (show Kd.entry.slice.K w11 (fun j => wr.heap.size ≤ j ∧ j < w4.heap.size) b [.slice Ao no co] from Kd.entry.slice.move (fun j hj hl => hm11.block j (by have := hj.2; omega) (fun h => by have := hj.1; have := hj.2; rcases HTD6.out j h with h | h <;> omega)) (Kd.below HO7.out HR10.out))
    have HO211 := hid (show Kd.entry.slice.K w11 (fun j => ¬ (w.heap.size ≤ j ∧ j < wr.heap.size) ∧ j < w5.heap.size) (nextB b x) [.slice A2 n2 c2] from Kd.entry.slice.move (fun j hj hl => hm11.block j (by have := hj.2; omega) (fun h => by have := hj.2; rcases HTD6.out j h with h | h; exact hj.1 h; omega)) (Kd.below HO27.out HR10.out))
    have HBN6 := hid HC6.out
    clear hl11 hm11 hbn s4 s5 s6 s7 s10 HOP HL6 HM6 HM7 HL7 HL10
    go_wp2_with fail
    refine (ldown_calls HL11.out).mono ?_
    rintro e12 w12 ⟨rfl, hb12⟩
    have HR12 := hid hb12
    clear hb12
    have HL12 := hid (HL11.out.below HR12.out)
    have HB12 := hid (bThen HB11.out HR12.out)
    obtain ⟨⟨y0, y1, y2, y3, y4, y5, y6⟩, hKX⟩ := HRX.out w12 HB12.out
    have HKX2 := hid (Kd.any hKX)
    clear hKX
    have HLAST := hid (fun (u : World) (o4 : Value) (b4 : List EntryS) (h : Kd.entry.slice.K u Any b4 [o4]) (p : Value) (hp : Kd.entry.slice.K u Any b4 [p]) => same20_calls b4 o4 p u h hp)
    by_cases h14 : ge = 14
    · have h14b : (ge == (14 : Int)) = true := by rw [h14]; decide
      have hcy0 : cy = 0 := by rw [HCY.out]; exact HC5.out h14
      subst hcy0
      have HBN2 := hid (show bn = if sizeR x ≤ fz then nextB b x else b by rw [HBN.out]; by_cases hs : sizeR x ≤ fz; rw [if_pos ⟨h14, hs⟩, if_pos hs]; rw [if_neg (fun h => hs h.2), if_neg hs])
      have HSZ := hid (recSize_calls x B1 x.needs.length d1 w12 HKX2.out)
      obtain ⟨sz, hsz⟩ : ∃ sz, sz = sizeR x := ⟨_, rfl⟩
      rw [← hsz] at HBN2 HSZ
      clear h14 hsz
      go_wp2_with fail
      refine HSZ.out.mono ?_
      rintro e13 w13 ⟨rfl, hb13⟩
      have HR13 := hid (bThen HR12.out hb13)
      have HL13 := hid (HL12.out.below hb13)
      have HB13 := hid (bThen HB12.out hb13)
      clear hb13 y0 y1 y2 y3 y4 y5 y6
      by_cases hs : sz ≤ (fz : Int)
      · have hsd : decide (sz ≤ (fz : Int)) = true := decide_eq_true hs
        have HBN3 := hid (HBN2.out.trans (if_pos hs))
        go_wp2_with fail
        refine (lbook_calls HL13.out HBN6.out).mono ?_
        rintro e14 w14 ⟨o4, rfl, hO4, hb14⟩
        have HO4 := hid (Kd.any hO4.K)
        obtain ⟨A4, n4, c4, rfl, hn4, _⟩ := hO4.shape'
        have HR14 := hid (bThen HR13.out hb14)
        have HB14 := hid (bThen HB13.out hb14)
        clear hO4 hn4 hb14
        go_wp2_with fail
        refine (same20_calls bn _ _ w14 HO4.out (by rw [HBN3.out]; exact Kd.any (Kd.below HO211.out HR14.out))).mono ?_
        rintro e15 w15 ⟨rfl, hb15⟩
        have HB15 := hid (bThen HB14.out hb15)
        clear hb15
        go_wp2_with fail
        refine (works21_calls _).mono ?_
        rintro e16 w16 ⟨rfl, hb16⟩
        have HB16 := hid (bThen HB15.out hb16)
        clear hb16
        go_wp2
        go_ret
        exact ⟨rfl, HB16.out⟩
      · have hsd : decide (sz ≤ (fz : Int)) = false := decide_eq_false hs
        have HBN3 := hid (HBN2.out.trans (if_neg hs))
        go_wp2_with fail
        refine (lbook_calls HL13.out HBN6.out).mono ?_
        rintro e14 w14 ⟨o4, rfl, hO4, hb14⟩
        have HO4 := hid (Kd.any hO4.K)
        obtain ⟨A4, n4, c4, rfl, hn4, _⟩ := hO4.shape'
        have HR14 := hid (bThen HR13.out hb14)
        have HB14 := hid (bThen HB13.out hb14)
        clear hO4 hn4 hb14
        go_wp2_with fail
        refine (same20_calls bn _ _ w14 HO4.out (by rw [HBN3.out]; exact Kd.any (Kd.below HO11.out HR14.out))).mono ?_
        rintro e15 w15 ⟨rfl, hb15⟩
        have HB15 := hid (bThen HB14.out hb15)
        clear hb15
        go_wp2_with fail
        refine (works21_calls _).mono ?_
        rintro e16 w16 ⟨rfl, hb16⟩
        have HB16 := hid (bThen HB15.out hb16)
        clear hb16
        go_wp2
        go_ret
        exact ⟨rfl, HB16.out⟩
    · have h14b : (ge == (14 : Int)) = false := by rw [beq_eq_false_iff_ne]; exact h14
      have HBN3 := hid (HBN.out.trans (if_neg (fun h => h14 h.1)))
      clear h14 y0 y1 y2 y3 y4 y5 y6
      go_wp2_with fail
      refine (lbook_calls HL12.out HBN6.out).mono ?_
      rintro e14 w14 ⟨o4, rfl, hO4, hb14⟩
      have HO4 := hid (Kd.any hO4.K)
      obtain ⟨A4, n4, c4, rfl, hn4, _⟩ := hO4.shape'
      have HR14 := hid (bThen HR12.out hb14)
      have HB14 := hid (bThen HB12.out hb14)
      clear hO4 hn4 hb14
      go_wp2_with fail
      refine (same20_calls bn _ _ w14 HO4.out (by rw [HBN3.out]; exact Kd.any (Kd.below HO11.out HR14.out))).mono ?_
      rintro e15 w15 ⟨rfl, hb15⟩
      have HB15 := hid (bThen HB14.out hb15)
      clear hb15
      go_wp2_with fail
      refine (works21_calls _).mono ?_
      rintro e16 w16 ⟨rfl, hb16⟩
      have HB16 := hid (bThen HB15.out hb16)
      clear hb16
      go_wp2
      go_ret
      exact ⟨rfl, HB16.out⟩
theorem ledgerCut_walk (W : World) (l : List RecS) (v : Value) (hm : Kd.recK.slice.K W Any l [v]) (_ol : (∀ y ∈ l, okRec y) ∧ l.length * 72 ≤ 140737488351232) (fz : Int) (hct : (Lit.int .u16 fz).wf = true) :
    Calls Try.prog 4 #[v, .int .u16 fz] W fun e w' => e = .returned (.bool true) ∧ Below W.heap.size W w' := by
  obtain ⟨A, c, he, _⟩ := id hm
  injection he with he _
  subst he
  simp [Lit.wf, IntKind.min, IntKind.max, IntKind.bits, IntKind.signed] at hct
  obtain ⟨r, rfl⟩ : ∃ r : Nat, fz = (r : Int) := ⟨fz.toNat, by omega⟩
  exact ledgerCutLaw_calls W l A c hm r (by omega)
end Go.Proofs.Ytkjncmmombkllaa
