import Derived.Test.YtlckkcefkiffjaaWorks16
import Derived.Test.YtlckkcefkiffjaaDiskO
import Derived.Test.YtlckkcefkiffjaaAct
namespace Go.Proofs.Ytlckkcefkiffjaa
open Go.RowKit

theorem cell_keep {w w1 : World} {a : Addr} {u : Value} (hb : Below w.heap.size w w1) (h : w.cell? a = some u) : w1.cell? a = some u :=
  (World.cell?_of_block (w := w) (hb.block _ (World.block_lt_of_cell? w a (by rw [h])))).trans h
theorem ba_extract (l : List UInt8) (i j : Nat) : (⟨l.toArray⟩ : ByteArray).extract i j = ⟨((l.drop i).take (j - i)).toArray⟩ := by
  apply ByteArray.ext
  simp [ByteArray.data_extract, List.extract_eq_take_drop]
theorem i64_hi {n : Int} (h : (Lit.int .i64 n).wf = true) : n ≤ 9223372036854775807 := by
  simp [Lit.wf, IntKind.min, IntKind.max, IntKind.bits, IntKind.signed] at h
  omega
theorem oB_fuse (D : Option DiskS) (n : Int) : oB (oFuse D n) = oB D := by cases D <;> rfl

set_option maxHeartbeats 1600000 in
set_option maxRecDepth 100000 in
theorem diskTorn_calls (room : Int) (l : List ActS) (v : Value) (w : World) (hl : Kd.act.slice.K w Any l [v]) (hok : ∀ y ∈ l, okAct y) :
    Calls Try.prog 5 #[.int .i64 room, v] w fun e w' => e = .returned (.bool true) ∧ Below w.heap.size w w' := by
  obtain ⟨A, c, he, hc, hm, hr⟩ := hl
  cases he
  obtain ⟨q, hq⟩ : ∃ q, l.length = q := ⟨_, rfl⟩
  have HQ := hid hq
  have HR := hid hr
  rw [hq] at hc hm ⊢
  clear hr hq
  by_cases hbig : q > 60
  · go_enter Try.func5, Try.ntmps5
    go_wp2_with fail
    refine (works16_calls _).mono ?_
    rintro e w1 ⟨rfl, hb1⟩
    go_wp2
    go_ret
    exact ⟨rfl, hb1⟩
  · go_enter Try.func5, Try.ntmps5
    go_wp2_with fail
    refine (oNew_calls room _).mono ?_
    rintro e w1 ⟨p, D0, rfl, hD0, hb1⟩
    have HD0 := hid hD0
    clear hD0
    go_wp2_with fail
    go_slots
    go_loopw [6] (fun i wr => ∃ (k : Nat) (D : Option DiskS), k ≤ q ∧ i = .int .i64 k ∧ Hid (DOpt wr (fun k => w.heap.size ≤ k) p D) ∧ Below w.heap.size w wr) (fun i _ => q - (intOf i).toNat)
    case atStart => exact ⟨0, D0, by omega, rfl, HD0, hb1⟩
    case round =>
      obtain ⟨k, D, hk, rfl, HD, hbl⟩ := hrel
      by_cases hlt : k < q
      · obtain ⟨a, x, B, cb, rfl, hx, c0, c1, c2, hcb, hmb, hrb⟩ := at_act HR.out k (by rw [HQ.out]; omega)
        have HX := hid (List.mem_of_getElem? hx)
        have hwn : (Lit.int .i64 x.n).wf = true := (hok x HX.out).2.1
        have hrb' := hrb.mono (S' := fun b => b < w.heap.size) (fun b _ h => h)
        have HRB := hid hrb'
        have C0 := hid c0
        have C1 := hid c1
        obtain ⟨nb, hnb⟩ : ∃ nb, x.b.length = nb := ⟨_, rfl⟩
        have HNB := hid hnb
        rw [hnb] at c2 hcb hmb
        have C2 := hid c2
        clear hx hrb hrb' c0 c1 c2 hnb
        have t2 := cell_keep hbl C2.out
        by_cases hlong : nb > 2000
        · go_wp2_with fail
          refine (works16_calls _).mono ?_
          rintro e w2 ⟨rfl, hb2⟩
          go_wp2
          go_ret
          exact ⟨rfl, below_then hbl hbl.size hb2⟩
        · go_wp2_with fail
          refine (oBytes_calls _ _ _ _ HD.out).mono ?_
          rintro e wa ⟨A1, ca, rfl, hK1, hba⟩
          have hconv := conv_u8 hK1
          have HDa := hid (HD.out.below hba)
          have bla := below_then hbl hbl.size hba
          obtain ⟨nx, hnx⟩ : ∃ nx, (oB D).length = nx := ⟨_, rfl⟩
          have HNX := hid hnx
          have hnx2 : nx ≤ 65536 := hnx ▸ oB_len HD.out
          rw [hnx] at hconv hK1 ⊢
          obtain ⟨sx, hsx⟩ : ∃ sx : ByteArray, sx = ⟨(oB D).toArray⟩ := ⟨_, rfl⟩
          have HSX := hid hsx
          rw [← hsx] at hconv
          have hsz : sx.size = nx := by rw [hsx, ← hnx]; rfl
          clear hnx hsx hK1 t2
          have t0 := cell_keep bla C0.out
          have t1 := cell_keep bla C1.out
          have t2 := cell_keep bla C2.out
          by_cases hop : x.op = 0
          · rw [hop] at t0
            go_wp2_with fail
            obtain ⟨wb, hwb⟩ : ∃ wb, wb = wa := ⟨_, rfl⟩
            obtain ⟨Db, hDb⟩ : ∃ Db, Db = D := ⟨_, rfl⟩
            have HDb : Hid (DOpt wb (fun k => w.heap.size ≤ k) p Db) := by rw [hwb, hDb]; exact HDa
            have HDbB : Hid (oB Db = oB D) := by rw [hDb]; rfl
            have bb : Below w.heap.size w wb := by rw [hwb]; exact bla
            rw [← hwb]
            clear hwb hDb t0 t1 t2 HDa
            have HRBb := Kd.Row.below HRB.out bb
            have HKB : Kd.u8.slice.K wb (fun k => ¬ (w.heap.size ≤ k)) x.b [.slice B nb cb] := ⟨B, cb, by rw [HNB.out], by rw [HNB.out]; exact hcb, by rw [HNB.out]; exact hmb, HRBb.mono (fun i hi _ => by omega)⟩
            refine (oAppend_calls _ _ _ x.b _ _ HDb.out HKB).mono ?_
            rintro e wc ⟨rfl, hDc, hmc⟩
            have bc := below_mod bb hmc (fun _ h => h) bb.size
            have HDc := hid (hDc.mono (T' := fun k => w.heap.size ≤ k) (fun k _ h => h.elim id (fun h => Nat.le_trans bb.size h)))
            obtain ⟨m, hm0, hm1, hm2⟩ := oApp_law Db x.b
            obtain ⟨z, hz⟩ : ∃ z, z = (oApp Db x.b).2 := ⟨_, rfl⟩
            rw [← hz] at hm2 ⊢
            rw [HNB.out] at hm0 hm2
            rw [HDbB.out] at hm1
            have HM1 := hid hm1
            clear hz hm1 hDc hmc HKB HRBb
            go_wp2_with fail
            refine (oBytes_calls _ _ _ _ HDc.out).mono ?_
            rintro e wd ⟨A2, cd, rfl, hK2, hbd⟩
            have hconv2 := conv_u8 hK2
            have HDd := hid (HDc.out.below hbd)
            have bd := below_then bc bc.size hbd
            have hny : (oB (oApp Db x.b).1).length = nx + m := by rw [HM1.out, List.length_append, List.length_take, HNX.out, HNB.out]; omega
            rw [hny] at hconv2 hK2 ⊢
            obtain ⟨sy, hsy⟩ : ∃ sy : ByteArray, sy = ⟨(oB (oApp Db x.b).1).toArray⟩ := ⟨_, rfl⟩
            have HSY := hid hsy
            rw [← hsy] at hconv2
            have hszy : sy.size = nx + m := by rw [hsy, ← hny]; rfl
            have f1 : ((sy.extract 0 nx).toList == sx.toList) = true := by
              rw [streq, decide_eq_true_iff, hsy, HM1.out, ba_extract, HSX.out, ← HNX.out]; simp
            obtain ⟨sb, hsb⟩ : ∃ sb : ByteArray, sb = ⟨(x.b.take m).toArray⟩ := ⟨_, rfl⟩
            have f2 : ((sy.extract nx (nx + m)).toList == sb.toList) = true := by
              rw [streq, decide_eq_true_iff, hsy, HM1.out, ba_extract, hsb, ← HNX.out]; simp [List.take_take]
            have hconv3 : ∀ n, (convert 42 9 (.slice B m cb)).run Try.prog (wd.drewN n) = .ok (.string sb) (wd.drewN n) := fun n => by
              rw [hsb]
              refine conv_u8 (S := fun b => b < w.heap.size) ⟨B, cb, by rw [List.length_take, HNB.out, Nat.min_eq_left hm0], ?_, ?_, Kd.Row.take (Kd.Row.below (HRB.out.below bd) (below_drewN (Below.refl _ _) n)) m⟩ <;> rw [List.length_take, HNB.out, Nat.min_eq_left hm0] <;> omega
            clear hny hsy hK2 hsb
            have t2 := cell_keep bd C2.out
            by_cases hz0 : z = 0
            · have hmn := hm2 hz0
              subst hmn
              rw [hz0]
              go_wp2_with fail
              go_quiet (fail)
              go_wp2
              go_roundw
              case rel => exact ⟨k + 1, _, by omega, by go_num, hid (HDd.out.below (below_drewN (Below.refl _ _) _)), below_drewN bd _⟩
              case measure => simp [intOf]; omega
            · have hz1 : (z == (0 : Int)) = false := by simp [hz0]
              go_wp2_with fail
              go_quiet (fail)
              go_wp2
              go_roundw
              case rel => exact ⟨k + 1, _, by omega, by go_num, hid (HDd.out.below (below_drewN (Below.refl _ _) _)), below_drewN bd _⟩
              case measure => simp [intOf]; omega
          · go_wp2_with fail
            refine (oFuse_calls _ _ _ x.n _ (i64_hi hwn) HDa.out).mono ?_
            rintro e wb ⟨rfl, hDb, hmb2⟩
            obtain ⟨Db, hDb0⟩ : ∃ Db, Db = oFuse D x.n := ⟨_, rfl⟩
            have HDb : Hid (DOpt wb (fun k => w.heap.size ≤ k) p Db) := by rw [hDb0]; exact hDb
            have HDbB : Hid (oB Db = oB D) := by rw [hDb0]; exact oB_fuse _ _
            have bb := below_mod bla hmb2 (fun _ h => h) bla.size
            have t3 := cell_keep bb C2.out
            clear hDb hDb0 hmb2 t0 t1 t2 HDa
            go_wp2_with fail
            clear t3
            have HRBb := Kd.Row.below HRB.out bb
            have HKB : Kd.u8.slice.K wb (fun k => ¬ (w.heap.size ≤ k)) x.b [.slice B nb cb] := ⟨B, cb, by rw [HNB.out], by rw [HNB.out]; exact hcb, by rw [HNB.out]; exact hmb, HRBb.mono (fun i hi _ => by omega)⟩
            refine (oAppend_calls _ _ _ x.b _ _ HDb.out HKB).mono ?_
            rintro e wc ⟨rfl, hDc, hmc⟩
            have bc := below_mod bb hmc (fun _ h => h) bb.size
            have HDc := hid (hDc.mono (T' := fun k => w.heap.size ≤ k) (fun k _ h => h.elim id (fun h => Nat.le_trans bb.size h)))
            obtain ⟨m, hm0, hm1, hm2⟩ := oApp_law Db x.b
            obtain ⟨z, hz⟩ : ∃ z, z = (oApp Db x.b).2 := ⟨_, rfl⟩
            rw [← hz] at hm2 ⊢
            rw [HNB.out] at hm0 hm2
            rw [HDbB.out] at hm1
            have HM1 := hid hm1
            clear hz hm1 hDc hmc HKB HRBb
            go_wp2_with fail
            refine (oBytes_calls _ _ _ _ HDc.out).mono ?_
            rintro e wd ⟨A2, cd, rfl, hK2, hbd⟩
            have hconv2 := conv_u8 hK2
            have HDd := hid (HDc.out.below hbd)
            have bd := below_then bc bc.size hbd
            have hny : (oB (oApp Db x.b).1).length = nx + m := by rw [HM1.out, List.length_append, List.length_take, HNX.out, HNB.out]; omega
            rw [hny] at hconv2 hK2 ⊢
            obtain ⟨sy, hsy⟩ : ∃ sy : ByteArray, sy = ⟨(oB (oApp Db x.b).1).toArray⟩ := ⟨_, rfl⟩
            have HSY := hid hsy
            rw [← hsy] at hconv2
            have hszy : sy.size = nx + m := by rw [hsy, ← hny]; rfl
            have f1 : ((sy.extract 0 nx).toList == sx.toList) = true := by
              rw [streq, decide_eq_true_iff, hsy, HM1.out, ba_extract, HSX.out, ← HNX.out]; simp
            obtain ⟨sb, hsb⟩ : ∃ sb : ByteArray, sb = ⟨(x.b.take m).toArray⟩ := ⟨_, rfl⟩
            have f2 : ((sy.extract nx (nx + m)).toList == sb.toList) = true := by
              rw [streq, decide_eq_true_iff, hsy, HM1.out, ba_extract, hsb, ← HNX.out]; simp [List.take_take]
            have hconv3 : ∀ n, (convert 42 9 (.slice B m cb)).run Try.prog (wd.drewN n) = .ok (.string sb) (wd.drewN n) := fun n => by
              rw [hsb]
              refine conv_u8 (S := fun b => b < w.heap.size) ⟨B, cb, by rw [List.length_take, HNB.out, Nat.min_eq_left hm0], ?_, ?_, Kd.Row.take (Kd.Row.below (HRB.out.below bd) (below_drewN (Below.refl _ _) n)) m⟩ <;> rw [List.length_take, HNB.out, Nat.min_eq_left hm0] <;> omega
            clear hny hsy hK2 hsb
            have t2 := cell_keep bd C2.out
            by_cases hz0 : z = 0
            · have hmn := hm2 hz0
              subst hmn
              rw [hz0]
              go_wp2_with fail
              go_quiet (fail)
              go_wp2
              go_roundw
              case rel => exact ⟨k + 1, _, by omega, by go_num, hid (HDd.out.below (below_drewN (Below.refl _ _) _)), below_drewN bd _⟩
              case measure => simp [intOf]; omega
            · have hz1 : (z == (0 : Int)) = false := by simp [hz0]
              go_wp2_with fail
              go_quiet (fail)
              go_wp2
              go_roundw
              case rel => exact ⟨k + 1, _, by omega, by go_num, hid (HDd.out.below (below_drewN (Below.refl _ _) _)), below_drewN bd _⟩
              case measure => simp [intOf]; omega
      · go_wp2_with fail
        refine (works16_calls _).mono ?_
        rintro e w2 ⟨rfl, hb2⟩
        go_wp2
        go_ret
        exact ⟨rfl, below_then hbl hbl.size hb2⟩

theorem diskTorn_walk (W : World) (room : Int) (_hw : (Lit.int .i64 room).wf = true) (l : List ActS) (v : Value) (hl : Kd.act.slice.K W Any l [v]) (ol : (∀ y ∈ l, okAct y) ∧ l.length * 40 ≤ 140737488351232) :
    Calls Try.prog 5 #[.int .i64 room, v] W fun e w' => e = .returned (.bool true) ∧ Below W.heap.size W w' := diskTorn_calls room l v W hl ol.1

end Go.Proofs.Ytlckkcefkiffjaa
