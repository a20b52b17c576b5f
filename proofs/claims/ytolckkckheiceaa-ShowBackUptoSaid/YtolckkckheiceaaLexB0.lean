/- Words put one behind the other are those words again, in plain Lean. No Go program in sight. -/
import Derived.Test.YtolckkckheiceaaLex0
namespace Go.Proofs.Ytolckkckheiceaa
open Go.RowKit Go.Lib

/-! ### Encoded runes are read again -/
theorem bN_app (a b : ByteArray) (k : Nat) : bN (a ++ b) k = if k < a.size then bN a k else bN b (k - a.size) := by
  split
  · rename_i h
    unfold bN
    rw [get_in _ _ h, get_in _ _ (show k < (a ++ b).size by rw [ByteArray.size_append]; omega)]
    congr 1
    exact ByteArray.getElem_append_left h
  · rename_i h
    unfold bN
    by_cases h2 : k < (a ++ b).size
    · have h3 : k - a.size < b.size := by rw [ByteArray.size_append] at h2; omega
      rw [get_in _ _ h2, get_in _ _ h3]
      congr 1
      exact ByteArray.getElem_append_right (by omega)
    · rw [get_out _ _ h2, get_out _ _ (by rw [ByteArray.size_append] at h2; omega)]
/-- What words and blanks are made of. -/
def okC (c : Int) : Prop := 0 ≤ c ∧ Utf8.valid c = true
theorem okC_letter {c : Int} (h : letterB c = true) : okC c := by
  unfold letterB at h
  unfold okC Utf8.valid
  simp at h ⊢
  omega
theorem okC_sign {c : Int} (h : signB c = true) : okC c := by
  unfold signB at h
  unfold okC Utf8.valid
  simp at h ⊢
  omega
theorem okC_blank : okC 32 := ⟨by decide, by decide⟩
theorem dec_enc (t : ByteArray) (p : Nat) (c : Int) (hc : okC c) (hz : p + (Utf8.encode c).size ≤ t.size) (hb : ∀ k, k < (Utf8.encode c).size → bN t (p + k) = bN (Utf8.encode c) k) : Utf8.decode t p = (c.toNat, (Utf8.encode c).size) := by
  obtain ⟨h0, hv⟩ := hc
  obtain ⟨n, rfl⟩ := Int.eq_ofNat_of_zero_le h0
  have hv2 : n < 55296 ∨ (57344 ≤ n ∧ n ≤ 1114111) := by unfold Utf8.valid at hv; simp at hv; omega
  have l0 := bN_lt t p
  rw [Int.toNat_natCast]
  rcases Nat.lt_or_ge n 128 with q | q
  · rw [enc1 q] at hz hb ⊢
    have e0 := (hb 0 (show 0 < 1 by omega)).trans (bN_mk [_] 0 (by simp))
    simp only [List.getElem_cons_zero, Nat.add_zero] at e0
    rw [ofNat8 (by omega)] at e0
    rw [dec_low (by omega), e0]; rfl
  · rcases Nat.lt_or_ge n 2048 with q2 | q2
    · rw [enc2 q q2] at hz hb ⊢
      have hz2 : p + 2 ≤ t.size := hz
      have e0 := (hb 0 (show 0 < 2 by omega)).trans (bN_mk [_, _] 0 (by simp))
      have e1 := (hb 1 (show 1 < 2 by omega)).trans (bN_mk [_, _] 1 (by simp))
      simp only [List.getElem_cons_zero, List.getElem_cons_succ, Nat.add_zero] at e0 e1
      rw [ofNat8 (by omega)] at e0 e1
      rw [dec_2 (by unfold good2; omega), e0, e1]
      exact Prod.ext (by simp only; omega) rfl
    · rcases Nat.lt_or_ge n 65536 with q3 | q3
      · rw [enc3 q2 q3 (by omega)] at hz hb ⊢
        have hz2 : p + 3 ≤ t.size := hz
        have e0 := (hb 0 (show 0 < 3 by omega)).trans (bN_mk [_, _, _] 0 (by simp))
        have e1 := (hb 1 (show 1 < 3 by omega)).trans (bN_mk [_, _, _] 1 (by simp))
        have e2 := (hb 2 (show 2 < 3 by omega)).trans (bN_mk [_, _, _] 2 (by simp))
        simp only [List.getElem_cons_zero, List.getElem_cons_succ, Nat.add_zero] at e0 e1 e2
        rw [ofNat8 (by omega)] at e0 e1 e2
        rw [dec_3 (by unfold good3; omega), e0, e1, e2]
        exact Prod.ext (by simp only; omega) rfl
      · rw [enc4 q3 (by omega)] at hz hb ⊢
        have hz2 : p + 4 ≤ t.size := hz
        have e0 := (hb 0 (show 0 < 4 by omega)).trans (bN_mk [_, _, _, _] 0 (by simp))
        have e1 := (hb 1 (show 1 < 4 by omega)).trans (bN_mk [_, _, _, _] 1 (by simp))
        have e2 := (hb 2 (show 2 < 4 by omega)).trans (bN_mk [_, _, _, _] 2 (by simp))
        have e3 := (hb 3 (show 3 < 4 by omega)).trans (bN_mk [_, _, _, _] 3 (by simp))
        simp only [List.getElem_cons_zero, List.getElem_cons_succ, Nat.add_zero] at e0 e1 e2 e3
        rw [ofNat8 (by omega)] at e0 e1 e2 e3
        rw [dec_4 (by unfold good4; omega), e0, e1, e2, e3]
        exact Prod.ext (by simp only; omega) rfl

/-- The text of a row of runes. -/
def encs : List Int → ByteArray
  | [] => ⟨#[]⟩
  | c :: cs => Utf8.encode c ++ encs cs
theorem encs_app (a b : List Int) : encs (a ++ b) = encs a ++ encs b := by
  induction a with
  | nil => exact ByteArray.empty_append.symm
  | cons c a ih => show Utf8.encode c ++ encs (a ++ b) = Utf8.encode c ++ encs a ++ encs b; rw [ih, ByteArray.append_assoc]
theorem encs_one (c : Int) : encs [c] = Utf8.encode c := ByteArray.append_empty
theorem runesF_encs (t : ByteArray) : ∀ (cs : List Int) (p : Nat), (∀ c ∈ cs, okC c) → t.size = p + (encs cs).size → (∀ k, k < (encs cs).size → bN t (p + k) = bN (encs cs) k) → (runesF t p).map (·.C) = cs := by
  intro cs
  induction cs with
  | nil => intro p _ hz _; rw [runesF_end (by rw [show (encs []).size = 0 from rfl] at hz; omega)]; rfl
  | cons c cs ih =>
    intro p hc hz hb
    have h1 := encode_size_pos c
    have hzz : (encs (c :: cs)).size = (Utf8.encode c).size + (encs cs).size := ByteArray.size_append
    rw [hzz] at hz hb
    have hd := dec_enc t p c (hc c (by simp)) (by omega) (fun k hk => by
      rw [hb k (by omega)]
      show bN (Utf8.encode c ++ encs cs) k = _
      rw [bN_app, if_pos hk])
    rw [runesF_cons (by omega), List.map_cons, hd]
    have hC : (runeAt t p).C = c := by
      show ((Utf8.decode t p).1 : Int) = c
      rw [hd]
      have := (hc c (by simp)).1
      show ((c.toNat : Nat) : Int) = c; omega
    rw [hC, ih _ (fun x hx => hc x (by simp [hx])) (by rw [hz]; show _ = p + (Utf8.encode c).size + _; omega) (fun k hk => by
      have := hb ((Utf8.encode c).size + k) (by omega)
      rw [show p + ((Utf8.encode c).size + k) = p + (Utf8.encode c).size + k by omega] at this
      show bN t (p + (Utf8.encode c).size + k) = _
      rw [this]
      show bN (Utf8.encode c ++ encs cs) _ = _
      rw [bN_app, if_neg (by omega)]
      congr 1; omega)]
theorem runes_encs {cs : List Int} (h : ∀ c ∈ cs, okC c) : (runes (encs cs)).map (·.C) = cs := runesF_encs (encs cs) cs 0 h (by omega) (fun k _ => by rw [Nat.zero_add])
theorem runes_encs_len {cs : List Int} (h : ∀ c ∈ cs, okC c) : (runes (encs cs)).length = cs.length := by rw [← List.length_map (f := fun r : RuneS => r.C), runes_encs h]

/-! ### Words over rows of runes -/
def lexC : List Int → LexS → List WordS × Int × Int
  | [], st => (st.out, 0, 0)
  | c :: cs, st => match stepL st c with
    | some st' => lexC cs st'
    | none => ([], st.n, 3)
theorem lexC_cons (c : Int) (cs : List Int) (st : LexS) : lexC (c :: cs) st = match stepL st c with | some st' => lexC cs st' | none => ([], (st.n : Int), 3) := rfl
theorem lexGo_C (l : List RuneS) : ∀ st, lexGo l st = lexC (l.map (·.C)) st := by
  induction l with
  | nil => intro st; rfl
  | cons r l ih =>
    intro st
    simp only [List.map_cons, lexGo, lexC]
    cases stepL st r.C with
    | none => rfl
    | some st' => exact ih st'
theorem wordsS_encs {cs : List Int} (h : ∀ c ∈ cs, okC c) (hs : (encs cs).size ≤ 200) : wordsS (encs cs) = lexC cs ⟨[], false, 0⟩ := by
  unfold wordsS
  rw [if_neg (by omega), lexGo_C, runes_encs h]
/-- A word's runes: letters, one at least, or a sign. -/
def WOK (cs : List Int) : Prop := (cs ≠ [] ∧ ∀ c ∈ cs, letterB c = true) ∨ ∃ c, cs = [c] ∧ signB c = true
theorem WOK.ok {cs : List Int} (h : WOK cs) : ∀ c ∈ cs, okC c := by
  rcases h with ⟨_, h⟩ | ⟨c, rfl, h⟩
  · exact fun c hc => okC_letter (h c hc)
  · intro x hx; rw [List.mem_singleton.1 hx]; exact okC_sign h
def WordOK (x : WordS) : Prop := ∃ cs, x.text = encs cs ∧ WOK cs
theorem stepL_letter {st : LexS} {c : Int} (h : letterB c = true) : stepL st c = some ⟨if st.run then growL st.out (Utf8.encode c) else st.out ++ [⟨Utf8.encode c, st.n⟩], true, st.n + 1⟩ := by simp [stepL, h]
theorem stepL_sign {st : LexS} {c : Int} (h : signB c = true) : stepL st c = some ⟨st.out ++ [⟨Utf8.encode c, st.n⟩], false, st.n + 1⟩ := by
  have h1 : letterB c = false := by
    cases hl : letterB c with
    | false => rfl
    | true => rw [(letter_no hl).2] at h; cases h
  have h2 : ¬ c = 32 := by intro e; rw [e] at h; exact absurd h (by decide)
  simp [stepL, h, h1, h2]
theorem stepL_blank {st : LexS} : stepL st 32 = some ⟨st.out, false, st.n + 1⟩ := by
  have h1 : letterB 32 = false := by decide
  simp [stepL, h1]
/-- All words that come out are such. -/
theorem lexC_ok : ∀ (cs : List Int) (st : LexS), (∀ x ∈ st.out, WordOK x) → (st.run = true → ∃ o x ds, st.out = o ++ [x] ∧ x.text = encs ds ∧ ∀ c ∈ ds, letterB c = true) → ∀ x ∈ (lexC cs st).1, WordOK x := by
  intro cs
  induction cs with
  | nil => intro st h _; exact h
  | cons c cs ih =>
    intro st h hr
    rw [lexC_cons]
    by_cases hl : letterB c = true
    · rw [stepL_letter hl]
      cases hrun : st.run with
      | false =>
        refine ih _ ?_ ?_
        · intro x hx
          simp only [Bool.false_eq_true, if_false, List.mem_append, List.mem_singleton] at hx
          rcases hx with hx | rfl
          · exact h x hx
          · exact ⟨[c], (encs_one c).symm, .inl ⟨by simp, by simpa using hl⟩⟩
        · exact fun _ => ⟨st.out, _, [c], rfl, (encs_one c).symm, by simpa using hl⟩
      | true =>
        obtain ⟨o, x, ds, ho, hx, hds⟩ := hr hrun
        have hall : ∀ c' ∈ ds ++ [c], letterB c' = true := by
          intro c' hc'
          rcases List.mem_append.1 hc' with h' | h'
          · exact hds c' h'
          · rw [List.mem_singleton.1 h']; exact hl
        have hg : growL st.out (Utf8.encode c) = o ++ [⟨encs (ds ++ [c]), x.at_⟩] := by rw [ho, growL_snoc, hx, encs_app, encs_one]
        refine ih _ ?_ ?_
        · intro y hy
          simp only [if_true] at hy
          rw [hg] at hy
          rcases List.mem_append.1 hy with hy | hy
          · exact h y (by rw [ho]; simp [hy])
          · rw [List.mem_singleton.1 hy]
            exact ⟨_, rfl, .inl ⟨by simp, hall⟩⟩
        · exact fun _ => ⟨o, _, _, hg, rfl, hall⟩
    · have hl' : letterB c = false := by simpa using hl
      by_cases h32 : c = 32
      · subst h32
        rw [stepL_blank]
        exact ih _ h (fun h => by cases h)
      · cases hs : signB c with
        | true =>
          rw [stepL_sign hs]
          refine ih _ ?_ (fun h => by cases h)
          intro x hx
          rcases List.mem_append.1 hx with hx | hx
          · exact h x hx
          · rw [List.mem_singleton.1 hx]
            exact ⟨[c], (encs_one c).symm, .inr ⟨c, rfl, hs⟩⟩
        | false =>
          have : stepL st c = none := by simp [stepL, hl', h32, hs]
          rw [this]
          intro x hx; cases hx
theorem words_ok (s : ByteArray) : ∀ x ∈ (wordsS s).1, WordOK x := by
  unfold wordsS
  split
  · intro x hx; cases hx
  · rw [lexGo_C]; exact lexC_ok _ _ (fun x hx => by cases hx) (fun h => by cases h)
/-- The runes of a word are read as that word. -/
theorem lexC_more : ∀ (cs rest : List Int) (out : List WordS) (x : WordS) (n : Nat), (∀ c ∈ cs, letterB c = true) → lexC (cs ++ rest) ⟨out ++ [x], true, n⟩ = lexC rest ⟨out ++ [⟨x.text ++ encs cs, x.at_⟩], true, n + cs.length⟩ := by
  intro cs
  induction cs with
  | nil =>
    intro rest out x n _
    rw [show x.text ++ encs [] = x.text from ByteArray.append_empty]; rfl
  | cons c cs ih =>
    intro rest out x n h
    show lexC (c :: (cs ++ rest)) _ = _
    rw [lexC_cons]
    rw [stepL_letter (h c (by simp))]
    simp only [if_true]
    rw [growL_snoc, ih rest out _ (n + 1) (fun c hc => h c (by simp [hc]))]
    simp only [List.length_cons]
    rw [show encs (c :: cs) = Utf8.encode c ++ encs cs from rfl, ByteArray.append_assoc, show n + 1 + cs.length = n + (cs.length + 1) by omega]
theorem lexC_word (cs rest : List Int) (h : WOK cs) (out : List WordS) (n : Nat) : ∃ r, lexC (cs ++ rest) ⟨out, false, n⟩ = lexC rest ⟨out ++ [⟨encs cs, n⟩], r, n + cs.length⟩ := by
  rcases h with ⟨h0, h⟩ | ⟨c, rfl, h⟩
  · cases cs with
    | nil => exact absurd rfl h0
    | cons c cs =>
      refine ⟨true, ?_⟩
      show lexC (c :: (cs ++ rest)) _ = _
      rw [lexC_cons]
      rw [stepL_letter (h c (by simp))]
      simp only [Bool.false_eq_true, if_false]
      rw [lexC_more cs rest out _ (n + 1) (fun c hc => h c (by simp [hc]))]
      simp only [List.length_cons]
      rw [show encs (c :: cs) = Utf8.encode c ++ encs cs from rfl, show n + 1 + cs.length = n + (cs.length + 1) by omega]
  · refine ⟨false, ?_⟩
    show lexC (c :: rest) _ = _
    rw [lexC_cons]
    rw [stepL_sign h, encs_one]; rfl

/-! ### Words put one behind the other -/
/-- The words' runes, a blank between. -/
def joinC : List (List Int) → List Int
  | [] => []
  | [x] => x
  | x :: y :: r => x ++ 32 :: joinC (y :: r)
/-- The words with their places. -/
def placed : List (List Int) → Nat → List WordS
  | [], _ => []
  | x :: r, n => ⟨encs x, n⟩ :: placed r (n + x.length + 1)
theorem lexC_join : ∀ (l : List (List Int)) (out : List WordS) (n : Nat), (∀ x ∈ l, WOK x) → lexC (joinC l) ⟨out, false, n⟩ = (out ++ placed l n, 0, 0) := by
  intro l
  induction l with
  | nil => intro out n _; simp [joinC, placed, lexC]
  | cons x r ih =>
    intro out n h
    cases r with
    | nil =>
      obtain ⟨b, hb⟩ := lexC_word x [] (h x (by simp)) out n
      rw [List.append_nil] at hb
      show lexC x _ = _
      rw [hb]; rfl
    | cons y r =>
      obtain ⟨b, hb⟩ := lexC_word x (32 :: joinC (y :: r)) (h x (by simp)) out n
      show lexC (x ++ 32 :: joinC (y :: r)) _ = _
      rw [hb]
      rw [lexC_cons]
      rw [stepL_blank]
      simp only
      rw [ih _ _ (fun x hx => h x (by simp [hx]))]
      simp [placed]
theorem joinC_ok : ∀ (l : List (List Int)), (∀ x ∈ l, WOK x) → ∀ c ∈ joinC l, okC c := by
  intro l
  induction l with
  | nil => intro _ c hc; cases hc
  | cons x r ih =>
    intro h c hc
    cases r with
    | nil => exact (h x (by simp)).ok c hc
    | cons y r =>
      rcases List.mem_append.1 hc with hc | hc
      · exact (h x (by simp)).ok c hc
      · rcases List.mem_cons.1 hc with rfl | hc
        · exact okC_blank
        · exact ih (fun x hx => h x (by simp [hx])) c hc
/-- As bytes. -/
def joinB : List ByteArray → List UInt8
  | [] => []
  | x :: r => x.data.toList ++ r.flatMap (fun y => 32 :: y.data.toList)
theorem joinB_snoc (l : List ByteArray) (x : ByteArray) : joinB (l ++ [x]) = if l = [] then x.data.toList else joinB l ++ [32] ++ x.data.toList := by
  cases l with
  | nil => simp [joinB]
  | cons y l => simp [joinB, List.flatMap_append]
theorem toL_app (a b : ByteArray) : (a ++ b).data.toList = a.data.toList ++ b.data.toList := by rw [ByteArray.data_append, Array.toList_append]
theorem joinB_encs : ∀ l : List (List Int), joinB (l.map encs) = (encs (joinC l)).data.toList := by
  intro l
  induction l with
  | nil => rfl
  | cons x r ih =>
    cases r with
    | nil => simp [joinB, joinC]
    | cons y r =>
      show (encs x).data.toList ++ _ = (encs (x ++ 32 :: joinC (y :: r))).data.toList
      rw [encs_app, toL_app]
      congr 1
      show _ = (Utf8.encode 32 ++ encs (joinC (y :: r))).data.toList
      rw [toL_app, ← ih]
      have h32 : (Utf8.encode 32).data.toList = [32] := by decide +kernel
      rw [h32]
      simp [joinB]
/-- What came out of a text, picked in any order, is read again. -/
theorem words_again (l : List ByteArray) (hl : ∀ t ∈ l, ∃ cs, t = encs cs ∧ WOK cs) : ∃ cl : List (List Int), l = cl.map encs ∧ (∀ x ∈ cl, WOK x) := by
  induction l with
  | nil => exact ⟨[], rfl, fun x hx => by cases hx⟩
  | cons t l ih =>
    obtain ⟨cs, rfl, h⟩ := hl t (by simp)
    obtain ⟨cl, rfl, h2⟩ := ih (fun t ht => hl t (by simp [ht]))
    exact ⟨cs :: cl, rfl, fun x hx => by
      rcases List.mem_cons.1 hx with rfl | hx
      · exact h
      · exact h2 x hx⟩
/-- The places, by the runes of each text. -/
def placedT : List ByteArray → Nat → List WordS
  | [], _ => []
  | t :: r, n => ⟨t, n⟩ :: placedT r (n + (runes t).length + 1)
theorem placedT_encs : ∀ (l : List (List Int)) (n : Nat), (∀ x ∈ l, WOK x) → placedT (l.map encs) n = placed l n := by
  intro l
  induction l with
  | nil => intro n _; rfl
  | cons x r ih =>
    intro n h
    simp only [List.map_cons, placedT, placed]
    rw [runes_encs_len (h x (by simp)).ok, ih _ (fun y hy => h y (by simp [hy]))]
theorem joined_words (l : List ByteArray) (hl : ∀ t ∈ l, ∃ cs, t = encs cs ∧ WOK cs) : wordsS ⟨(joinB l).toArray⟩ = if 200 < (joinB l).length then ([], 0, 4) else (placedT l 0, 0, 0) := by
  obtain ⟨cl, rfl, hw⟩ := words_again l hl
  have e : (⟨(joinB (cl.map encs)).toArray⟩ : ByteArray) = encs (joinC cl) := by rw [joinB_encs]
  have ez : (joinB (cl.map encs)).length = (encs (joinC cl)).size := by rw [joinB_encs, data_len]
  rw [e, ez]
  split
  · rename_i h; unfold wordsS; rw [if_pos h]
  · rename_i h
    rw [wordsS_encs (joinC_ok cl hw) (by omega), lexC_join cl [] 0 hw, placedT_encs cl 0 hw]; rfl
/-- Where the next word would stand. -/
def nextAt : List ByteArray → Nat → Nat
  | [], n => n
  | t :: r, n => nextAt r (n + (runes t).length + 1)
theorem nextAt_snoc (l : List ByteArray) (t : ByteArray) : ∀ n, nextAt (l ++ [t]) n = nextAt l n + (runes t).length + 1 := by
  induction l with
  | nil => intro n; rfl
  | cons x l ih => intro n; exact ih _
theorem placedT_snoc (l : List ByteArray) (t : ByteArray) : ∀ n, placedT (l ++ [t]) n = placedT l n ++ [⟨t, nextAt l n⟩] := by
  induction l with
  | nil => intro n; rfl
  | cons x l ih => intro n; simp only [List.cons_append, placedT, nextAt]; rw [ih]
theorem placedT_text (l : List ByteArray) : ∀ n, (placedT l n).map (·.text) = l := by
  induction l with
  | nil => intro n; rfl
  | cons x l ih => intro n; show x :: _ = _; rw [ih]
/-! ### How long they are -/
theorem growL_size {out : List WordS} {b : Nat} {t : ByteArray} (h : ∀ x ∈ out, x.text.size ≤ b) : ∀ x ∈ growL out t, x.text.size ≤ b + t.size := by
  intro x hx
  unfold growL at hx
  split at hx
  · rename_i y hy
    rcases List.mem_or_eq_of_mem_set hx with hx | hx
    · have := h x hx; omega
    · rw [hx]
      have := h y (List.mem_of_getLast? hy)
      rw [ByteArray.size_append]; omega
  · have := h x hx; omega
theorem lexC_size : ∀ (cs : List Int) (st : LexS) (b : Nat), (∀ x ∈ st.out, x.text.size ≤ b) → ∀ x ∈ (lexC cs st).1, x.text.size ≤ b + 4 * cs.length := by
  intro cs
  induction cs with
  | nil => intro st b h x hx; have := h x hx; simp; omega
  | cons c cs ih =>
    intro st b h x hx
    have hen := encode_size_le c
    rw [lexC_cons] at hx
    cases hst : stepL st c with
    | none => rw [hst] at hx; cases hx
    | some st' =>
      rw [hst] at hx
      have hb : ∀ x ∈ st'.out, x.text.size ≤ b + 4 := by
        have app : ∀ x ∈ st.out ++ [(⟨Utf8.encode c, st.n⟩ : WordS)], x.text.size ≤ b + 4 := by
          intro x hx
          rcases List.mem_append.1 hx with hx | hx
          · have := h x hx; omega
          · rw [List.mem_singleton.1 hx]; show (Utf8.encode c).size ≤ _; omega
        unfold stepL at hst
        split at hst
        · injection hst with hst
          subst hst
          simp only
          split
          · intro x hx; have := growL_size h x hx; omega
          · exact app
        · split at hst
          · injection hst with hst
            subst hst
            intro x hx; have := h x hx; omega
          · split at hst
            · injection hst with hst
              subst hst
              exact app
            · cases hst
      have := ih st' (b + 4) hb x hx
      simp only [List.length_cons]; omega
theorem words_size (s : ByteArray) : ∀ x ∈ (wordsS s).1, x.text.size ≤ 800 := by
  unfold wordsS
  split
  · intro x hx; cases hx
  · intro x hx
    rw [lexGo_C] at hx
    have := lexC_size _ _ 0 (fun x hx => by cases hx) x hx
    rw [List.length_map] at this
    have := runes_len s
    omega
theorem joinB_size (l : List ByteArray) (h : ∀ t ∈ l, t.size ≤ 800) : (joinB l).length ≤ l.length * 801 := by
  have key : ∀ r : List ByteArray, (∀ t ∈ r, t.size ≤ 800) → (r.flatMap (fun y => 32 :: y.data.toList)).length ≤ r.length * 801 := by
    intro r
    induction r with
    | nil => intro _; simp
    | cons y r ih =>
      intro h
      have h1 := h y (by simp)
      have h2 := ih (fun t ht => h t (by simp [ht]))
      rw [List.flatMap_cons, List.length_append, List.length_cons, List.length_cons, data_len, Nat.add_mul]
      omega
  cases l with
  | nil => simp [joinB]
  | cons x r =>
    have h1 := h x (by simp)
    have h2 := key r (fun t ht => h t (by simp [ht]))
    simp only [joinB, List.length_append, List.length_cons, data_len, Nat.add_mul]
    omega
theorem nextAt_le (l : List ByteArray) (h : ∀ t ∈ l, t.size ≤ 800) : ∀ n, nextAt l n ≤ n + l.length * 801 := by
  induction l with
  | nil => intro n; simp [nextAt]
  | cons x l ih =>
    intro n
    have h1 := h x (by simp)
    have h2 := runes_len x
    have h3 := ih (fun t ht => h t (by simp [ht])) (n + (runes x).length + 1)
    simp only [nextAt, List.length_cons, Nat.add_mul]
    omega
end Go.Proofs.Ytolckkckheiceaa
