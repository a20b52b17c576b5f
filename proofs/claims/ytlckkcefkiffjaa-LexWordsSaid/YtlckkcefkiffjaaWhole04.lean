/- glyph.Whole. -/
import Derived.Test.YtlckkcefkiffjaaGlyph
namespace Go.Proofs.Ytlckkcefkiffjaa
open Go.RowKit Go.Lib

theorem bN_cut (s : ByteArray) (p q k : Nat) (h : p + k < q) (hq : q ≤ s.size) : bN (s.extract p q) k = bN s (p + k) := by
  unfold bN
  have h1 : k < (s.extract p q).size := by simp; omega
  rw [get_in _ _ h1, get_in _ _ (show p + k < s.size by omega)]
  congr 1
  exact ByteArray.getElem_extract h1
def bBadR : ByteArray := ⟨#[239, 191, 189]⟩
theorem bN_ext {s t : ByteArray} (hs : s.size = t.size) (h : ∀ k, k < s.size → bN s k = bN t k) : s = t := by
  apply ByteArray.ext
  apply Array.ext hs
  intro k h1 h2
  have := h k h1
  unfold bN at this
  rw [get_in _ _ h1, get_in _ _ h2] at this
  exact UInt8.toNat_inj.1 this
/-- A rune that reads as U+FFFD is one just where its three bytes stand there. -/
theorem bad_whole (s : ByteArray) (p : Nat) (hc : (Utf8.decode s p).1 = 65533) : 0 < szR s p ↔ p + 3 ≤ s.size ∧ s.extract p (p + 3) = bBadR := by
  constructor
  · intro hz
    have key : good3 s p ∧ bN s p = 239 ∧ bN s (p + 1) = 191 ∧ bN s (p + 2) = 189 := by
      rcases dec_any s p with h | h | h | h | ⟨h1, h2, h3, h4⟩
      · rw [dec_low h] at hc; simp at hc; omega
      · rw [dec_2 h] at hc; simp at hc; unfold good2 at h; omega
      · rw [dec_3 h] at hc; simp at hc; refine ⟨h, ?_⟩; unfold good3 at h; omega
      · rw [dec_4 h] at hc; simp at hc; unfold good4 at h; omega
      · unfold szR at hz; rw [dec_bad h1 h2 h3 h4, if_pos rfl] at hz; omega
    obtain ⟨hg, k0, k1, k2⟩ := key
    have hp : p + 2 < s.size := by unfold good3 at hg; omega
    refine ⟨by omega, bN_ext (by rw [ByteArray.size_extract, Nat.min_eq_left (by omega)]; show p + 3 - p = 3; omega) ?_⟩
    intro k hk
    have hk3 : k < 3 := by simp at hk; omega
    rw [bN_cut s p (p + 3) k (by omega) (by omega)]
    have : k = 0 ∨ k = 1 ∨ k = 2 := by omega
    rcases this with rfl | rfl | rfl
    · rw [Nat.add_zero, k0]; rfl
    · rw [k1]; rfl
    · rw [k2]; rfl
  · rintro ⟨hp, he⟩
    have k0 : bN s p = 239 := by have := bN_cut s p (p + 3) 0 (by omega) hp; rw [he] at this; exact this.symm
    have k1 : bN s (p + 1) = 191 := by have := bN_cut s p (p + 3) 1 (by omega) hp; rw [he] at this; exact this.symm
    have k2 : bN s (p + 2) = 189 := by have := bN_cut s p (p + 3) 2 (by omega) hp; rw [he] at this; exact this.symm
    have hg : good3 s p := by unfold good3; omega
    unfold szR
    rw [dec_3 hg]
    rw [if_neg (by intro e; injection e with _ e; omega)]
    omega
theorem not_bad_whole (s : ByteArray) (p : Nat) (hc : (Utf8.decode s p).1 ≠ 65533) : 0 < szR s p := by
  unfold szR
  rw [if_neg (by intro e; rw [e] at hc; exact hc rfl)]
  exact (dec_w s p).1

set_option maxHeartbeats 1000000 in
set_option maxRecDepth 100000 in
theorem whole_calls (s : ByteArray) (w : World) (hs : s.size ≤ 140737488351232) : Calls Try.prog 38 #[.string s] w fun e w' => e = .returned (.bool (wholeB s)) ∧ Below w.heap.size w w' := by
  have HD := hid (show wholeB s = (runes s).all (·.Whole) from rfl)
  go_enter Try.func38, Try.ntmps38
  go_wp2
  go_loopw [2] (fun n wr => ∃ (p : Nat) (l : List RuneS), wr.heap[w.heap.size]? = some (.stringIter s p) ∧ Mid s l p ∧ n = .bool false ∧ l.all (·.Whole) = true ∧ Below w.heap.size w wr) (fun _ wr => s.size - wr.iterPos w.heap.size)
  case atStart => exact ⟨0, [], World.iter_heap w s 0, Mid.start s, rfl, rfl, bAlloc (Below.refl _ _) _⟩
  case round =>
    obtain ⟨p, l, hk, hm, rfl, hal, hb⟩ := hrel
    have hip := iterPos_of hk
    by_cases hp : p < s.size
    · have hnx := fun ty => run_next_any_at (P := Try.prog) wr w.heap.size s p ty hk hp
      have hlen := hm.len_lt hp
      have HM := hid (hm.step hp)
      have HN := hid (hm.next hp)
      have hwd := dec_w s p
      have HK := hid (iterAt_heap wr w.heap.size s p (p + (Utf8.decode s p).2) hk)
      have HB := hid (below_iterAt hb (Nat.le_refl _) s (p + (Utf8.decode s p).2))
      have HW := hid (bad_whole s p)
      have HNW := hid (not_bad_whole s p)
      have HRW := hid (show (runeAt s p).Whole = decide (0 < szR s p) from rfl)
      have hal' := hid hal
      clear hm hal
      have hmem := hid (List.mem_of_getElem? HN.out)
      have no : 0 < szR s p ∨ ¬ 0 < szR s p := by omega
      generalize Utf8.decode s p = dd at *
      have hsub : IntKind.i64.wrap ((s.size : Int) - p) = (s.size : Int) - p := IntWalk.i64_in _ (by omega)
      have hadd : IntKind.i64.wrap ((p : Int) + 3) = (p : Int) + 3 := IntWalk.i64_in _ (by omega)
      by_cases hc : dd.1 = 65533
      · have hcI : (((dd.1 : Nat) : Int) == 65533) = true := by rw [hc]; rfl
        by_cases h3 : p + 3 ≤ s.size
        · have h3I : ¬ ((s.size : Int) - p < 3) := by omega
          have h4 : (p : Int) + 3 ≤ s.size := by omega
          have h5 : ((p : Int) + 3).toNat = p + 3 := by omega
          have h6 : (0 : Int) ≤ (p : Int) + 3 := by omega
          have h7 : (p : Int) ≤ (p : Int) + 3 := by omega
          by_cases he : s.extract p (p + 3) = bBadR
          · have HG := hid ((HW.out hc).2 ⟨h3, he⟩)
            have he2 : s.extract p (p + 3) = ⟨#[239, 191, 189]⟩ := he
            clear he hc
            go_wp2
            go_roundw
            case rel => exact ⟨_, _, HK.out, HM.out, rfl, by rw [List.all_append, hal'.out]; simp [HRW.out, HG.out], HB.out⟩
            case measure => rw [hip, iterPos_of HK.out]; omega
          · have hv := hid (show wholeB s = false by rw [HD.out, List.all_eq_false]; exact ⟨_, hmem.out, by rw [HRW.out, decide_eq_true_iff]; exact fun h => he ((HW.out hc).1 h).2⟩)
            have he2 : ¬ (s.extract p (p + 3) = ⟨#[239, 191, 189]⟩) := he
            have he3 : ((s.extract p (p + 3)).toList == [239, 191, 189]) = false := by have h := streq (s.extract p (p + 3)) ⟨#[239, 191, 189]⟩; rw [decide_eq_false he2, show (⟨#[239, 191, 189]⟩ : ByteArray).toList = [239, 191, 189] from by decide +kernel] at h; exact h
            clear he hc
            go_wp2
            go_ret
            exact ⟨ret_bool (by rw [hv.out]), HB.out⟩
        · have h3I : (s.size : Int) - p < 3 := by omega
          have hv := hid (show wholeB s = false by rw [HD.out, List.all_eq_false]; exact ⟨_, hmem.out, by rw [HRW.out, decide_eq_true_iff]; exact fun h => h3 ((HW.out hc).1 h).1⟩)
          clear hc
          go_wp2
          go_ret
          exact ⟨ret_bool (by rw [hv.out]), HB.out⟩
      · have hcI : (((dd.1 : Nat) : Int) == 65533) = false := by rw [beq_eq_false_iff_ne]; omega
        have HG := hid (HNW.out hc)
        clear hc
        go_wp2
        go_roundw
        case rel => exact ⟨_, _, HK.out, HM.out, rfl, by rw [List.all_append, hal'.out]; simp [HRW.out, HG.out], HB.out⟩
        case measure => rw [hip, iterPos_of HK.out]; omega
    · have hnx := fun ty => run_next_end_at (P := Try.prog) wr w.heap.size s p ty hk hp
      have HE := hid (hm.done hp)
      have HV := hid (show wholeB s = true by rw [HD.out, HE.out, hal])
      clear hm hal
      go_wp2
      go_ret
      exact ⟨ret_bool (by rw [HV.out]), hb⟩
end Go.Proofs.Ytlckkcefkiffjaa
