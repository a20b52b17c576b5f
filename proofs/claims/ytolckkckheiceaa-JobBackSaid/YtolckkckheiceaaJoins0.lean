/- GlyphJoins in plain Lean: the runes of a text put together again, their places, folding. No Go program in sight. -/
import Derived.Test.YtolckkckheiceaaWhole0
import Derived.Laws.Cover4
namespace Go.Proofs.Ytolckkckheiceaa
open Go.RowKit Go.Lib

theorem bN_mk (l : List UInt8) (k : Nat) (h : k < l.length) : bN ⟨l.toArray⟩ k = l[k].toNat := by
  unfold bN
  rw [get_in _ _ (show k < (⟨l.toArray⟩ : ByteArray).size from h)]
  rfl
theorem ofNat8 {n : Nat} (h : n < 256) : (UInt8.ofNat n).toNat = n := by simp; omega

theorem enc1 {c : Nat} (h : c < 128) : Utf8.encode c = ⟨[UInt8.ofNat c].toArray⟩ := by
  have hv : Utf8.valid (c : Int) = true := by simp [Utf8.valid]; omega
  unfold Utf8.encode
  simp only [hv, if_true, Int.toNat_natCast]
  rw [if_pos h]
theorem enc2 {c : Nat} (h : 128 ≤ c) (h2 : c < 2048) : Utf8.encode c = ⟨[UInt8.ofNat (192 + c / 64), UInt8.ofNat (128 + c % 64)].toArray⟩ := by
  have hv : Utf8.valid (c : Int) = true := by simp [Utf8.valid]; omega
  unfold Utf8.encode
  simp only [hv, if_true, Int.toNat_natCast]
  rw [if_neg (by omega), if_pos h2]
theorem enc3 {c : Nat} (h : 2048 ≤ c) (h2 : c < 65536) (hn : ¬ (55296 ≤ c ∧ c < 57344)) : Utf8.encode c = ⟨[UInt8.ofNat (224 + c / 4096), UInt8.ofNat (128 + c / 64 % 64), UInt8.ofNat (128 + c % 64)].toArray⟩ := by
  have hv : Utf8.valid (c : Int) = true := by simp [Utf8.valid]; omega
  unfold Utf8.encode
  simp only [hv, if_true, Int.toNat_natCast]
  rw [if_neg (by omega), if_neg (by omega), if_pos h2]
theorem enc4 {c : Nat} (h : 65536 ≤ c) (h2 : c ≤ 1114111) : Utf8.encode c = ⟨[UInt8.ofNat (240 + c / 262144), UInt8.ofNat (128 + c / 4096 % 64), UInt8.ofNat (128 + c / 64 % 64), UInt8.ofNat (128 + c % 64)].toArray⟩ := by
  have hv : Utf8.valid (c : Int) = true := by simp [Utf8.valid]; omega
  unfold Utf8.encode
  simp only [hv, if_true, Int.toNat_natCast]
  rw [if_neg (by omega), if_neg (by omega), if_neg (by omega)]

/-- A rune that is one, encoded: its bytes. -/
theorem enc_dec (s : ByteArray) (p : Nat) (hp : p < s.size) (hz : 0 < szR s p) : Utf8.encode ((Utf8.decode s p).1 : Nat) = s.extract p (p + (Utf8.decode s p).2) := by
  have l0 := bN_lt s p
  have l1 := bN_lt s (p + 1)
  have l2 := bN_lt s (p + 2)
  have l3 := bN_lt s (p + 3)
  have he := dec_end s p hp
  rcases dec_any s p with h | h | h | h | ⟨h1, h2, h3, h4⟩
  · rw [dec_low h] at he ⊢
    simp only at he ⊢
    rw [enc1 h]
    refine bN_ext (by rw [ByteArray.size_extract, Nat.min_eq_left (by omega)]; show 1 = p + 1 - p; omega) fun k hk => ?_
    have : k = 0 := by have : k < 1 := hk; omega
    subst this
    rw [bN_cut s p (p + 1) 0 (by omega) (by omega), bN_mk _ _ (by simp)]
    simp only [List.getElem_cons_zero, Nat.add_zero]
    exact ofNat8 (by omega)
  · rw [dec_2 h] at he ⊢
    obtain ⟨h1, h2, h3, h4, h5⟩ := h
    simp only at he ⊢
    rw [enc2 (by omega) (by omega)]
    refine bN_ext (by rw [ByteArray.size_extract, Nat.min_eq_left (by omega)]; show 2 = p + 2 - p; omega) fun k hk => ?_
    have hk2 : k < 2 := hk
    rw [bN_cut s p (p + 2) k (by omega) (by omega), bN_mk _ _ hk]
    have : k = 0 ∨ k = 1 := by omega
    rcases this with rfl | rfl
    · simp only [List.getElem_cons_zero, Nat.add_zero]
      rw [ofNat8 (by omega)]; omega
    · simp only [List.getElem_cons_succ, List.getElem_cons_zero]
      rw [ofNat8 (by omega)]; omega
  · rw [dec_3 h] at he ⊢
    obtain ⟨h1, h2, h3, h4, h5, h6, h7, h8, h9⟩ := h
    simp only at he ⊢
    rw [enc3 (by omega) (by omega) (by omega)]
    refine bN_ext (by rw [ByteArray.size_extract, Nat.min_eq_left (by omega)]; show 3 = p + 3 - p; omega) fun k hk => ?_
    have hk2 : k < 3 := hk
    rw [bN_cut s p (p + 3) k (by omega) (by omega), bN_mk _ _ hk]
    have : k = 0 ∨ k = 1 ∨ k = 2 := by omega
    rcases this with rfl | rfl | rfl
    · simp only [List.getElem_cons_zero, Nat.add_zero]
      rw [ofNat8 (by omega)]; omega
    · simp only [List.getElem_cons_succ, List.getElem_cons_zero]
      rw [ofNat8 (by omega)]; omega
    · simp only [List.getElem_cons_succ, List.getElem_cons_zero]
      rw [ofNat8 (by omega)]; omega
  · rw [dec_4 h] at he ⊢
    obtain ⟨h1, h2, h3, h4, h5, h6, h7, h8, h9, h10, h11⟩ := h
    simp only at he ⊢
    rw [enc4 (by omega) (by omega)]
    refine bN_ext (by rw [ByteArray.size_extract, Nat.min_eq_left (by omega)]; show 4 = p + 4 - p; omega) fun k hk => ?_
    have hk2 : k < 4 := hk
    rw [bN_cut s p (p + 4) k (by omega) (by omega), bN_mk _ _ hk]
    have : k = 0 ∨ k = 1 ∨ k = 2 ∨ k = 3 := by omega
    rcases this with rfl | rfl | rfl | rfl
    · simp only [List.getElem_cons_zero, Nat.add_zero]
      rw [ofNat8 (by omega)]; omega
    · simp only [List.getElem_cons_succ, List.getElem_cons_zero]
      rw [ofNat8 (by omega)]; omega
    · simp only [List.getElem_cons_succ, List.getElem_cons_zero]
      rw [ofNat8 (by omega)]; omega
    · simp only [List.getElem_cons_succ, List.getElem_cons_zero]
      rw [ofNat8 (by omega)]; omega
  · unfold szR at hz; rw [dec_bad h1 h2 h3 h4, if_pos rfl] at hz; omega

/-! ### The runes put one behind the other -/
def catR (l : List RuneS) : ByteArray := l.foldl (fun t r => t ++ Utf8.encode r.C) ⟨#[]⟩
theorem catR_snoc (l : List RuneS) (x : RuneS) : catR (l ++ [x]) = catR l ++ Utf8.encode x.C := by
  unfold catR
  rw [List.foldl_append]; rfl
theorem cat_le (l : List RuneS) : ∀ t : ByteArray, (l.foldl (fun t r => t ++ Utf8.encode r.C) t).size ≤ t.size + 4 * l.length := by
  induction l with
  | nil => intro t; simp
  | cons x l ih =>
    intro t
    have h1 := ih (t ++ Utf8.encode x.C)
    have h2 := encode_size_le x.C
    rw [ByteArray.size_append] at h1
    simp only [List.foldl_cons, List.length_cons]
    omega
theorem catR_le (l : List RuneS) : (catR l).size ≤ 4 * l.length := by
  have := cat_le l ⟨#[]⟩
  have e : (⟨#[]⟩ : ByteArray).size = 0 := rfl
  unfold catR; omega
theorem cat_from (s : ByteArray) : ∀ (n p : Nat), s.size - p ≤ n → p ≤ s.size → (∀ r ∈ runesF s p, r.Whole = true) → ∀ t : ByteArray, (runesF s p).foldl (fun t r => t ++ Utf8.encode r.C) t = t ++ s.extract p s.size := by
  intro n
  induction n with
  | zero =>
    intro p h hp _ t
    rw [runesF_end (by omega), show p = s.size by omega]
    have : s.extract s.size s.size = ⟨#[]⟩ := by apply ByteArray.ext; simp
    rw [this]
    exact ByteArray.append_empty.symm
  | succ n ih =>
    intro p h hp hw t
    by_cases hlt : p < s.size
    · rw [runesF_cons hlt] at hw ⊢
      have hz : 0 < szR s p := by simpa [runeAt] using hw (runeAt s p) (by simp)
      have he := dec_end s p hlt
      have h1 := (dec_w s p).1
      rw [List.foldl_cons, ih _ (by omega) he (fun r hr => hw r (by simp [hr]))]
      rw [show (runeAt s p).C = (((Utf8.decode s p).1 : Nat) : Int) from rfl, enc_dec s p hlt hz, ByteArray.append_assoc]
      congr 1
      rw [ByteArray.extract_append_extract, Nat.min_eq_left (by omega), Nat.max_eq_right he]
    · have : p = s.size := by omega
      subst this
      rw [runesF_end hlt]
      have : s.extract s.size s.size = ⟨#[]⟩ := by apply ByteArray.ext; simp
      rw [this]
      exact ByteArray.append_empty.symm
theorem cat_whole (s : ByteArray) (h : wholeB s = true) : catR (runes s) = s := by
  have := cat_from s s.size 0 (by omega) (by omega) (fun r hr => List.all_eq_true.1 h r hr) ⟨#[]⟩
  unfold catR
  rw [show runes s = runesF s 0 from rfl, this]
  rw [show (⟨#[]⟩ : ByteArray) ++ s.extract 0 s.size = s.extract 0 s.size from ByteArray.empty_append]
  exact ByteArray.extract_zero_size

/-! ### Their places rise from 0 on -/
def okStep (last i : Int) : Bool := !(decide (i ≤ last) || (decide (last < 0) && i != 0))
def risL (st : Bool × Int) (l : List RuneS) : Bool × Int := l.foldl (fun st r => (st.1 && okStep st.2 r.At, r.At)) st
def ris (l : List RuneS) : Bool × Int := risL (true, -1) l
theorem ris_snoc (l : List RuneS) (x : RuneS) : ris (l ++ [x]) = ((ris l).1 && okStep (ris l).2 x.At, x.At) := by
  unfold ris risL
  rw [List.foldl_append]; rfl
theorem risL_false (l : List RuneS) : ∀ z, (risL (false, z) l).1 = false := by
  induction l with
  | nil => intro z; rfl
  | cons x l ih => intro z; exact ih _
theorem risL_append (st : Bool × Int) (a b : List RuneS) : risL st (a ++ b) = risL (risL st a) b := by unfold risL; rw [List.foldl_append]
theorem ris_pre {a l : List RuneS} (h : a <+: l) (hl : (ris l).1 = true) : (ris a).1 = true := by
  obtain ⟨b, rfl⟩ := h
  unfold ris at hl ⊢
  rw [risL_append] at hl
  cases hb : (risL (true, -1) a).1 with
  | true => rfl
  | false =>
    have : risL (true, -1) a = (false, (risL (true, -1) a).2) := by rw [← hb]
    rw [this, risL_false] at hl; cases hl
theorem ris_from (s : ByteArray) : ∀ (n p : Nat) (last : Int), s.size - p ≤ n → ((last < p ∧ 0 ≤ last) ∨ (last = -1 ∧ p = 0)) → (risL (true, last) (runesF s p)).1 = true := by
  intro n
  induction n with
  | zero => intro p last h _; rw [runesF_end (by omega)]; rfl
  | succ n ih =>
    intro p last h hl
    by_cases hlt : p < s.size
    · rw [runesF_cons hlt]
      have h1 := (dec_w s p).1
      have ho : okStep last (runeAt s p).At = true := by
        show okStep last (p : Int) = true
        unfold okStep
        rcases hl with ⟨h2, h3⟩ | ⟨h2, h3⟩
        · have e1 : decide ((p : Int) ≤ last) = false := by simp; omega
          have e2 : decide (last < 0) = false := by simp; omega
          rw [e1, e2]; rfl
        · subst h2 h3; decide
      have := ih (p + (Utf8.decode s p).2) p (by omega) (.inl ⟨by omega, by omega⟩)
      show (risL (true && okStep last (runeAt s p).At, (runeAt s p).At) _).1 = true
      rw [ho]; exact this
    · rw [runesF_end hlt]; rfl
theorem ris_runes (s : ByteArray) : (ris (runes s)).1 = true := ris_from s s.size 0 (-1) (by omega) (.inr ⟨rfl, rfl⟩)
theorem ris_last (l : List RuneS) (h : (ris l).1 = true) : l = [] ∧ (ris l).2 = -1 ∨ 0 ≤ (ris l).2 := by
  rcases List.eq_nil_or_concat l with rfl | ⟨l', x, rfl⟩
  · exact .inl ⟨rfl, rfl⟩
  · right
    rw [List.concat_eq_append, ris_snoc] at h ⊢
    simp only [Bool.and_eq_true] at h ⊢
    have := h.2
    unfold okStep at this
    simp at this
    omega

/-! ### Folding -/
theorem foldS_size (s : ByteArray) : (foldS s).size = s.size := by
  have : (foldS s).size = (foldL s.data.toList).length := by simp [foldS, ByteArray.size]
  rw [this]; unfold foldL; rw [List.length_map, data_len]
theorem low_low (c : UInt8) : lowB (lowB c) = lowB c := by
  have h : ∀ c : Fin 256, lowB (lowB (UInt8.ofNat c.val)) = lowB (UInt8.ofNat c.val) := by decide +kernel
  have := h ⟨c.toNat, c.toNat_lt⟩
  simpa using this
theorem foldS_twice (s : ByteArray) : foldS (foldS s) = foldS s := by
  unfold foldS foldL
  simp [low_low]
/-- A byte below 128 is a rune by itself. -/
theorem low_rune (s : ByteArray) (q : Nat) (hb : bN s q < 128) (hq : q < s.size) : ∀ (n p : Nat), s.size - p ≤ n → p ≤ q → ∃ r ∈ runesF s p, r.C = (bN s q : Int) := by
  intro n
  induction n with
  | zero => intro p h hp; omega
  | succ n ih =>
    intro p h hp
    have hlt : p < s.size := by omega
    rw [runesF_cons hlt]
    by_cases e : p = q
    · subst e
      refine ⟨runeAt s p, by simp, ?_⟩
      show ((Utf8.decode s p).1 : Int) = _
      rw [dec_low hb]
    · have h1 := (dec_w s p).1
      have hge : p + (Utf8.decode s p).2 ≤ q := by
        rcases dec_any s p with h | h | h | h | ⟨h1, h2, h3, h4⟩
        · rw [dec_low h]; simp only; omega
        · rw [dec_2 h]; simp only
          obtain ⟨k1, k2, k3, k4, k5⟩ := h
          rcases Nat.lt_or_ge q (p + 2) with hlt | hge
          · have : q = p + 1 := by omega
            subst this; omega
          · exact hge
        · rw [dec_3 h]; simp only
          obtain ⟨k1, k2, k3, k4, k5, k6, k7, k8, k9⟩ := h
          rcases Nat.lt_or_ge q (p + 3) with hlt | hge
          · have : q = p + 1 ∨ q = p + 2 := by omega
            rcases this with rfl | rfl <;> omega
          · exact hge
        · rw [dec_4 h]; simp only
          obtain ⟨k1, k2, k3, k4, k5, k6, k7, k8, k9, k10, k11⟩ := h
          rcases Nat.lt_or_ge q (p + 4) with hlt | hge
          · have : q = p + 1 ∨ q = p + 2 ∨ q = p + 3 := by omega
            rcases this with rfl | rfl | rfl <;> omega
          · exact hge
        · rw [dec_bad h1 h2 h3 h4]; simp only; omega
      obtain ⟨r, hr, hc⟩ := ih _ (by omega) hge
      exact ⟨r, by simp [hr], hc⟩
theorem name_fold (s : ByteArray) (h : nameB s = true) : foldS s = s := by
  have hl : ∀ r ∈ runes s, letterB r.C = true := by
    unfold nameB at h
    simp only [Bool.and_eq_true] at h
    exact fun r hr => List.all_eq_true.1 h.1.1.1 r hr
  refine bN_ext (foldS_size s) fun k hk => ?_
  rw [foldS_size] at hk
  have e : bN (foldS s) k = (lowB (s.get! k)).toNat := by
    unfold foldS
    rw [bN_mk _ _ (by unfold foldL; rw [List.length_map, data_len]; exact hk)]
    unfold foldL
    rw [List.getElem_map]
    have := data_at hk
    rw [List.getElem?_eq_getElem (by rw [data_len]; exact hk)] at this
    injection this with this
    rw [this]
  rw [e]
  by_cases hr : 65 ≤ bN s k ∧ bN s k ≤ 90
  · obtain ⟨r, hr1, hr2⟩ := low_rune s k (by omega) hk s.size 0 (by omega) (by omega)
    have := hl r hr1
    rw [hr2] at this
    unfold letterB at this
    simp at this
    omega
  · rw [low_no hr, ofNat_bN]; rfl
end Go.Proofs.Ytolckkckheiceaa
