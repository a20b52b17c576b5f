import Derived.Test.YtlckkcefkiffjaaProg
import Derived.Test.YtlckkcefkiffjaaRunes
import Derived.Test.YtlckkcefkiffjaaBuf
import Derived.Handy
namespace Go.Proofs.Ytlckkcefkiffjaa
open Go.RowKit Go.Lib

/-! ### glyph -/
set_option maxHeartbeats 1000000 in
set_option maxRecDepth 100000 in
theorem letter_calls (c : Int) (w : World) : Calls Try.prog 23 #[.int .i32 c] w fun e w' => e = .returned (.bool (letterB c)) ∧ w = w' := by
  go_enter Try.func23, Try.ntmps23
  go_wp2
  all_goals (go_ret; exact ⟨ret_bool (by rw [Bool.eq_iff_iff]; simp [letterB]; try omega), rfl⟩)

set_option maxHeartbeats 1000000 in
set_option maxRecDepth 100000 in
theorem count_calls (s : ByteArray) (w : World) (hs : s.size ≤ 140737488351232) : Calls Try.prog 37 #[.string s] w fun e w' => e = .returned (.int .i64 (runes s).length) ∧ Below w.heap.size w w' := by
  go_enter Try.func37, Try.ntmps37
  go_wp2
  go_loopw [3] (fun n wr => ∃ (p : Nat) (l : List RuneS), wr.heap[w.heap.size]? = some (.stringIter s p) ∧ Mid s l p ∧ n = .int .i64 l.length ∧ Below w.heap.size w wr) (fun _ wr => s.size - wr.iterPos w.heap.size)
  case atStart => exact ⟨0, [], World.iter_heap w s 0, Mid.start s, rfl, bAlloc (Below.refl _ _) _⟩
  case round =>
    obtain ⟨p, l, hk, hm, rfl, hb⟩ := hrel
    have hip := iterPos_of hk
    by_cases hp : p < s.size
    · have hnx := fun ty => run_next_any_at (P := Try.prog) wr w.heap.size s p ty hk hp
      have hlen := hm.len_lt hp
      have HM := hid (hm.step hp)
      have hwd := dec_w s p
      have HK := hid (iterAt_heap wr w.heap.size s p (p + (Utf8.decode s p).2) hk)
      have HB := hid (below_iterAt hb (Nat.le_refl _) s (p + (Utf8.decode s p).2))
      clear hm
      generalize Utf8.decode s p = dd at *
      go_wp2
      go_roundw
      case rel => exact ⟨_, _, HK.out, HM.out, by simp, HB.out⟩
      case measure => rw [hip, iterPos_of HK.out]; omega
    · have hnx := fun ty => run_next_end_at (P := Try.prog) wr w.heap.size s p ty hk hp
      have HE := hid (hm.done hp)
      clear hm
      go_wp2
      go_ret
      exact ⟨ret_int (by rw [HE.out]), hb⟩

/-- What At tells. -/
def atS (s : ByteArray) (k : Int) : Int × Int := if 0 ≤ k then match (runes s)[k.toNat]? with | some r => (r.C, r.At) | none => (0, -1) else (0, -1)

set_option maxHeartbeats 1000000 in
set_option maxRecDepth 100000 in
theorem at_calls (s : ByteArray) (k : Int) (w : World) (hs : s.size ≤ 140737488351232) : Calls Try.prog 36 #[.string s, .int .i64 k] w fun e w' => e = .returned (.tuple #[.int .i32 (atS s k).1, .int .i64 (atS s k).2]) ∧ Below w.heap.size w w' := by
  go_enter Try.func36, Try.ntmps36
  go_wp2
  go_loopw [6] (fun n wr => ∃ (p : Nat) (l : List RuneS), wr.heap[w.heap.size]? = some (.stringIter s p) ∧ Mid s l p ∧ n = .int .i64 l.length ∧ (k < 0 ∨ (l.length : Int) ≤ k) ∧ Below w.heap.size w wr) (fun _ wr => s.size - wr.iterPos w.heap.size)
  case atStart => exact ⟨0, [], World.iter_heap w s 0, Mid.start s, rfl, by simp; omega, bAlloc (Below.refl _ _) _⟩
  case round =>
    obtain ⟨p, l, hk, hm, rfl, hkl, hb⟩ := hrel
    have hip := iterPos_of hk
    by_cases hp : p < s.size
    · have hnx := fun ty => run_next_any_at (P := Try.prog) wr w.heap.size s p ty hk hp
      have hlen := hm.len_lt hp
      have HM := hid (hm.step hp)
      have HN := hid (hm.next hp)
      have hwd := dec_w s p
      have HK := hid (iterAt_heap wr w.heap.size s p (p + (Utf8.decode s p).2) hk)
      have HB := hid (below_iterAt hb (Nat.le_refl _) s (p + (Utf8.decode s p).2))
      have HR := hid (show (runeAt s p).C = ((Utf8.decode s p).1 : Int) from rfl)
      clear hm
      generalize Utf8.decode s p = dd at *
      by_cases hkk : (l.length : Int) = k
      · have hv := hid (show atS s k = ((dd.1 : Int), (p : Int)) by
          unfold atS
          rw [if_pos (by omega), show k.toNat = l.length by omega, HN.out]
          simp only [HR.out]; rfl)
        have h1 : ((l.length : Int) == k) = true := by rw [beq_iff_eq]; exact hkk
        have HKK := hid hkk
        clear hkk
        go_wp2
        go_ret2
        rw [hv.out]
        exact ⟨rfl, HB.out⟩
      · have h1 : ((l.length : Int) == k) = false := by rw [beq_eq_false_iff_ne]; exact hkk
        go_wp2
        go_roundw
        case rel => exact ⟨_, _, HK.out, HM.out, by simp, by simp; omega, HB.out⟩
        case measure => rw [hip, iterPos_of HK.out]; omega
    · have hnx := fun ty => run_next_end_at (P := Try.prog) wr w.heap.size s p ty hk hp
      have HE := hid (hm.done hp)
      have hv := hid (show atS s k = (0, -1) by
        unfold atS
        split
        · rw [HE.out, List.getElem?_eq_none (by omega)]
        · rfl)
      clear hm
      go_wp2
      go_ret2
      rw [hv.out]
      exact ⟨rfl, hb⟩

set_option maxHeartbeats 1000000 in
set_option maxRecDepth 100000 in
theorem name_calls (s : ByteArray) (w : World) (hs : s.size ≤ 140737488351232) : Calls Try.prog 25 #[.string s] w fun e w' => e = .returned (.bool (nameB s)) ∧ Below w.heap.size w w' := by
  have HD := hid (show nameB s = ((runes s).all (fun r => letterB r.C) && headOk (runes s) && decide (1 ≤ (runes s).length) && decide ((runes s).length ≤ 16)) from rfl)
  go_enter Try.func25, Try.ntmps25
  go_wp2
  go_loopw [3] (fun n wr => ∃ (p : Nat) (l : List RuneS), wr.heap[w.heap.size]? = some (.stringIter s p) ∧ Mid s l p ∧ n = .int .i64 l.length ∧ l.all (fun r => letterB r.C) = true ∧ headOk l = true ∧ Below w.heap.size w wr) (fun _ wr => s.size - wr.iterPos w.heap.size)
  case atStart => exact ⟨0, [], World.iter_heap w s 0, Mid.start s, rfl, rfl, rfl, bAlloc (Below.refl _ _) _⟩
  case round =>
    obtain ⟨p, l, hk, hm, rfl, hal, hhd, hb⟩ := hrel
    have hip := iterPos_of hk
    by_cases hp : p < s.size
    · have hnx := fun ty => run_next_any_at (P := Try.prog) wr w.heap.size s p ty hk hp
      have hlen := hm.len_lt hp
      have HM := hid (hm.step hp)
      have HN := hid (hm.next hp)
      have hwd := dec_w s p
      have HK := hid (iterAt_heap wr w.heap.size s p (p + (Utf8.decode s p).2) hk)
      have HB := hid (below_iterAt hb (Nat.le_refl _) s (p + (Utf8.decode s p).2))
      have HR := hid (show (runeAt s p).C = ((Utf8.decode s p).1 : Int) from rfl)
      clear hm
      generalize Utf8.decode s p = dd at *
      have HAL := hid hal
      have HHD := hid hhd
      clear hal hhd
      have hmem := hid (List.mem_of_getElem? HN.out)
      have h48 : letterB (dd.1 : Int) = true → 48 ≤ dd.1 := fun h => by
        rcases Nat.lt_or_ge dd.1 48 with h1 | h1
        · simp [letterB] at h; omega
        · exact h1
      go_wp2_with fail
      refine (letter_calls _ _).mono ?_
      rintro e w2 ⟨rfl, rfl⟩
      cases hl : letterB (dd.1 : Int)
      · have hv := hid (show nameB s = false by rw [HD.out, show (runes s).all (fun r => letterB r.C) = false by rw [List.all_eq_false]; exact ⟨_, hmem.out, by simp only [HR.out, hl]; simp⟩]; simp)
        clear h48 hl
        go_wp2
        go_ret
        exact ⟨ret_bool (by rw [hv.out]), HB.out⟩
      · have h49 := h48 hl
        have HL := hid hl
        clear h48 hl
        by_cases h0 : l.length = 0
        · obtain rfl : l = [] := List.eq_nil_of_length_eq_zero h0
          by_cases h57 : dd.1 ≤ 57
          · have hv := hid (show nameB s = false by
              have hc : headOk (runes s) = false := by
                have := HN.out
                simp at this
                cases hr : runes s with
                | nil => rw [hr] at this; simp at this
                | cons y q => rw [hr] at this; simp at this; subst this; simp [headOk, HR.out]; omega
              rw [HD.out, hc]; simp)
            clear h0
            go_wp2
            go_ret
            exact ⟨ret_bool (by rw [hv.out]), HB.out⟩
          · clear h0
            go_wp2
            go_roundw
            case rel => exact ⟨_, _, HK.out, HM.out, by simp, by simp [HR.out, HL.out], by simp [headOk, HR.out]; omega, HB.out⟩
            case measure => rw [hip, iterPos_of HK.out]; omega
        · have h1 : ((l.length : Int) == 0) = false := by rw [beq_eq_false_iff_ne]; omega
          go_wp2
          go_roundw
          case rel => exact ⟨_, _, HK.out, HM.out, by simp, by rw [List.all_append, HAL.out]; simp [HR.out, HL.out], by cases l with | nil => simp at h0 | cons y q => exact HHD.out, HB.out⟩
          case measure => rw [hip, iterPos_of HK.out]; omega
    · have hnx := fun ty => run_next_end_at (P := Try.prog) wr w.heap.size s p ty hk hp
      have HE := hid (hm.done hp)
      have hlen := hm.len
      have HV := hid (show nameB s = (decide (1 ≤ l.length) && decide (l.length ≤ 16)) by rw [HD.out, HE.out, hal, hhd]; simp)
      clear hm hal hhd
      by_cases h1 : 1 ≤ l.length
      · by_cases h2 : l.length ≤ 16
        · go_wp2
          go_ret
          exact ⟨ret_bool (by rw [HV.out, Bool.eq_iff_iff]; simp; omega), hb⟩
        · go_wp2
          go_ret
          exact ⟨ret_bool (by rw [HV.out, Bool.eq_iff_iff]; simp; omega), hb⟩
      · go_wp2
        go_ret
        exact ⟨ret_bool (by rw [HV.out, Bool.eq_iff_iff]; simp; omega), hb⟩

/-- The bytes half folded. -/
def halfL (l : List UInt8) (k : Nat) : List UInt8 := foldL (l.take k) ++ l.drop k
theorem halfL_len (l : List UInt8) (k : Nat) : (halfL l k).length = l.length := by
  unfold halfL foldL
  rw [List.length_append, List.length_map, List.length_take, List.length_drop]; omega
theorem halfL_at {l : List UInt8} {k : Nat} {x : UInt8} (hx : l[k]? = some x) : (halfL l k)[k]? = some x := by
  have hk := (List.getElem?_eq_some_iff.1 hx).1
  unfold halfL
  rw [List.getElem?_append_right (by unfold foldL; rw [List.length_map, List.length_take]; omega), List.getElem?_drop]
  unfold foldL
  rw [List.length_map, List.length_take, Nat.min_eq_left (by omega), Nat.sub_self, Nat.add_zero]
  exact hx
theorem halfL_step {l : List UInt8} {k : Nat} {x : UInt8} (hx : l[k]? = some x) : halfL l (k + 1) = (halfL l k).set k (lowB x) := by
  have hk := (List.getElem?_eq_some_iff.1 hx).1
  have hl : (foldL (l.take k)).length = k := by unfold foldL; rw [List.length_map, List.length_take]; omega
  have hd : l.drop k = x :: l.drop (k + 1) := by rw [List.drop_eq_getElem_cons hk]; congr 1; rw [List.getElem?_eq_getElem hk] at hx; injection hx
  unfold halfL
  rw [List.set_append_right _ _ (by omega), hl, Nat.sub_self, hd, List.set_cons_zero]
  have : foldL (l.take (k + 1)) = foldL (l.take k) ++ [lowB x] := by unfold foldL; rw [take_snoc hx, List.map_append]; rfl
  rw [this]; simp
theorem halfL_same {l : List UInt8} {k : Nat} {x : UInt8} (hx : l[k]? = some x) (h : lowB x = x) : halfL l (k + 1) = halfL l k := by
  rw [halfL_step hx, h]
  have := halfL_at hx
  obtain ⟨hk, hy⟩ := List.getElem?_eq_some_iff.1 this
  rw [← hy]; exact List.set_getElem_self hk

set_option maxHeartbeats 1000000 in
set_option maxRecDepth 100000 in
theorem fold_calls (s : ByteArray) (w : World) (hs : s.size ≤ 140737488351232) : Calls Try.prog 27 #[.string s] w fun e w' => e = .returned (.string (foldS s)) ∧ Below w.heap.size w w' := by
  have hkb := fun W => Lib.run_convert_string_bytes (P := Try.prog) W 9 42 5 s Try.underlying9 Try.underlying42 Try.underlying5
  have hsz := data_len s
  go_enter Try.func27, Try.ntmps27
  go_wp2
  obtain ⟨cap, hcap⟩ : ∃ cap, cap = grownCap w s.size 0 5 := ⟨_, rfl⟩
  have hcap1 : s.size ≤ cap := by rw [hcap]; exact grownCap_ge _ _ _ _
  rw [← hcap]
  clear hcap hkb
  go_loopw [10] (fun i wr => ∃ k : Nat, k ≤ s.size ∧ i = .int .i64 k ∧ Buf wr w.heap.size 5 (halfL s.data.toList k) ∧ Below w.heap.size w wr) (fun i _ => s.size - (intOf i).toNat)
  case atStart => exact ⟨0, by omega, rfl, Buf.new w _ s, below_bytes (Below.refl _ _) (Nat.le_refl _) _ _⟩
  case round =>
    obtain ⟨k, hk, rfl, hB, hb⟩ := hrel
    have HL := hid (halfL_len s.data.toList k)
    by_cases hlt : k < s.size
    · have hx := data_at hlt
      have hc := hB.cell (halfL_at hx)
      have hf := hB.free (j := k) (by rw [HL.out]; omega)
      have hl := bN_lt s k
      have HX := hid hx
      have hbn : (s.get! k).toNat = bN s k := rfl
      rw [hbn] at hc
      clear hx
      by_cases h1 : 65 ≤ bN s k ∧ bN s k ≤ 90
      · have HY := hid (low_yes h1.1 h1.2)
        obtain ⟨h1, h2⟩ := h1
        have HS := hid (hB.store k (UInt8.ofNat (bN s k + 32)))
        clear hbn hB
        go_wp2
        go_roundw
        case rel =>
          refine ⟨k + 1, by omega, by go_num, ?_, hb.setCell (p := ⟨w.heap.size, k, none⟩) (Nat.le_refl _) _⟩
          have := HS.out
          rw [UInt8.toNat_ofNat_of_lt' (by simp [UInt8.size]; omega)] at this
          rw [halfL_step HX.out, HY.out]
          rw [show ((bN s k : Int) + 97 - 65) = ((bN s k + 32 : Nat) : Int) by omega]
          exact this
        case measure => simp [intOf]; omega
      · have HY := hid (show lowB (s.get! k) = s.get! k by rw [low_no h1, ofNat_bN])
        clear hbn
        by_cases h2 : 65 ≤ bN s k
        · have h3 : ¬ bN s k ≤ 90 := by omega
          clear h1
          go_wp2
          go_roundw
          case rel => exact ⟨k + 1, by omega, by go_num, by rw [halfL_same HX.out HY.out]; exact hB, hb⟩
          case measure => simp [intOf]; omega
        · clear h1
          go_wp2
          go_roundw
          case rel => exact ⟨k + 1, by omega, by go_num, by rw [halfL_same HX.out HY.out]; exact hB, hb⟩
          case measure => simp [intOf]; omega
    · obtain rfl : k = s.size := by omega
      have hst := fun cap => hB.str (P := Try.prog) Try.underlying42 Try.underlying5 Try.underlying9 cap
      rw [HL.out, data_len] at hst
      have HE := hid (show (⟨(halfL s.data.toList s.size).toArray⟩ : ByteArray) = foldS s by unfold halfL foldS; rw [List.take_of_length_le (by rw [data_len]; omega), List.drop_of_length_le (by rw [data_len]; omega)]; simp)
      rw [HE.out] at hst
      clear hsz hB
      go_wp2
      go_ret
      exact ⟨rfl, hb⟩

end Go.Proofs.Ytlckkcefkiffjaa
