/- Needs are read again of their texts: plain. No Go program in sight. -/
import Derived.Test.YtolckkckheiceaaShow0
import Derived.Test.YtolckkckheiceaaLexB0
import Derived.Test.YtolckkckheiceaaRead0
import Derived.Test.YtolckkckheiceaaLaw05B
import Derived.Test.YtolckkckheiceaaRef11
namespace Go.Proofs.Ytolckkckheiceaa
open Go.RowKit Go.Lib

/-! ### a text's words -/
def brL (b : Bool) (l : List ByteArray) : List ByteArray := if b then sOpen :: l ++ [sShut] else l
def tokB (tab : List ByteArray) : TreeS → List ByteArray
  | .leaf x => if x.op = 1 then [sYes] else [tab[x.n.toNat]?.getD ⟨#[]⟩]
  | .turned t => sNot :: brL (decide (opT t = 4) || decide (opT t = 5)) (tokB tab t)
  | .pair true a b => tokB tab a ++ sOr :: brL (decide (opT b = 5)) (tokB tab b)
  | .pair false a b => brL (decide (opT a = 5)) (tokB tab a) ++ sAnd :: brL (decide (opT b = 4) || decide (opT b = 5)) (tokB tab b)
theorem brL_len (b : Bool) (l : List ByteArray) : l.length ≤ (brL b l).length := by unfold brL; split <;> simp <;> omega
theorem tokB_pos (tab : List ByteArray) (t : TreeS) : 1 ≤ (tokB tab t).length := by
  cases t with
  | leaf x => unfold tokB; split <;> simp
  | turned t => unfold tokB; simp
  | pair o a b => cases o <;> (unfold tokB; simp; omega)
/-- A name of a table that may be. -/
structure NameOk (tab : List ByteArray) (n : Int) : Prop where
  lo : 0 ≤ n
  hi : n < 16
  word : ∃ cs, tab[n.toNat]?.getD ⟨#[]⟩ = encs cs ∧ WOK cs
  place : placeI tab (tab[n.toNat]?.getD ⟨#[]⟩) = n
  sign : ∀ s ∈ [sNot, sOpen, sYes, sShut, sAnd, sOr], tab[n.toNat]?.getD ⟨#[]⟩ ≠ s
theorem catR_encs (l : List RuneS) : ∀ t : ByteArray, l.foldl (fun t r => t ++ Utf8.encode r.C) t = t ++ encs (l.map (·.C)) := by
  induction l with
  | nil => intro t; exact ByteArray.append_empty.symm
  | cons r l ih =>
    intro t
    show l.foldl _ (t ++ Utf8.encode r.C) = t ++ (Utf8.encode r.C ++ encs (l.map (·.C)))
    rw [ih, ByteArray.append_assoc]
theorem runesF_at (s : ByteArray) : ∀ (n p : Nat), s.size - p ≤ n → ∀ r ∈ runesF s p, ∃ q, r = runeAt s q
  | 0, p, h, r, hr => by rw [runesF_end (by omega)] at hr; cases hr
  | n + 1, p, h, r, hr => by
    by_cases hp : p < s.size
    · rw [runesF_cons hp] at hr
      have := dec_w s p
      rcases List.mem_cons.1 hr with rfl | hr
      · exact ⟨p, rfl⟩
      · exact runesF_at s n _ (by omega) r hr
    · rw [runesF_end hp] at hr; cases hr
theorem runes_at {s : ByteArray} {r : RuneS} (h : r ∈ runes s) : ∃ q, r = runeAt s q := runesF_at s s.size 0 (by omega) r h
theorem name_encs {y : ByteArray} (h : nameB y = true) : y = encs ((runes y).map (·.C)) ∧ WOK ((runes y).map (·.C)) := by
  unfold nameB at h
  rw [Bool.and_eq_true, Bool.and_eq_true, Bool.and_eq_true] at h
  obtain ⟨⟨⟨h1, _⟩, h2⟩, _⟩ := h
  have hl : ∀ r ∈ runes y, letterB r.C = true := List.all_eq_true.1 h1
  refine ⟨?_, .inl ⟨?_, fun c hc => ?_⟩⟩
  · have hw : wholeB y = true := by
      unfold wholeB
      rw [List.all_eq_true]
      intro r hr
      obtain ⟨p, hp⟩ := runes_at hr
      have hl1 := hl r hr
      rw [hp] at hl1 ⊢
      exact letterB_whole hl1
    have := cat_whole y hw
    unfold catR at this
    rw [catR_encs] at this
    exact this.symm.trans ByteArray.empty_append
  · intro e
    have : (runes y).length = 0 := by have := congrArg List.length e; simpa using this
    rw [this] at h2; exact absurd h2 (by decide)
  · obtain ⟨r, hr, rfl⟩ := List.mem_map.1 hc
    exact hl r hr
theorem names_ok {tab : List ByteArray} (h : tabE tab = 0) {n : Int} (h0 : 0 ≤ n) (h1 : n < (tab.length : Int)) : NameOk tab n := by
  obtain ⟨hl, hd⟩ := tab_ok h
  have ha : tab.all nameB = true := by
    unfold tabE at h
    split at h
    · cases h
    · split at h
      · cases h
      · rename_i h2; simpa using h2
  have hx : tab[n.toNat]? = some tab[n.toNat] := List.getElem?_eq_getElem (by omega)
  have hnm := List.all_eq_true.1 ha _ (List.mem_of_getElem? hx)
  refine ⟨h0, by omega, ?_, ?_, ?_⟩
  · rw [hx]
    exact ⟨_, name_encs hnm⟩
  · rw [hx]
    show placeI tab tab[n.toNat] = n
    unfold placeI
    rw [place_self hd hx]
    show ((n.toNat : Nat) : Int) = n
    omega
  · rw [hx]
    intro s hs e
    simp only [Option.getD_some] at e
    rw [e] at hnm
    have : ∀ s ∈ [sNot, sOpen, sYes, sShut, sAnd, sOr], nameB s = false := by decide +kernel
    rw [this s hs] at hnm
    cases hnm
def NamesT (tab : List ByteArray) (t : TreeS) : Prop := ∀ x ∈ t.nodes, x.op = 2 → NameOk tab x.n

/-! ### the text's runes -/
def brC (b : Bool) (cs : List Int) : List Int := if b then 40 :: cs ++ [41] else cs
def showC (tab : List ByteArray) : TreeS → List Int
  | .leaf x => if x.op = 1 then [42] else (runes (tab[x.n.toNat]?.getD ⟨#[]⟩)).map (·.C)
  | .turned t => 33 :: brC (decide (opT t = 4) || decide (opT t = 5)) (showC tab t)
  | .pair true a b => showC tab a ++ 32 :: 124 :: 32 :: brC (decide (opT b = 5)) (showC tab b)
  | .pair false a b => brC (decide (opT a = 5)) (showC tab a) ++ 32 :: 38 :: 32 :: brC (decide (opT b = 4) || decide (opT b = 5)) (showC tab b)
theorem e32 : Utf8.encode 32 = ⟨#[32]⟩ := enc1 (c := 32) (by decide)
theorem e33 : Utf8.encode 33 = ⟨#[33]⟩ := enc1 (c := 33) (by decide)
theorem e38 : Utf8.encode 38 = ⟨#[38]⟩ := enc1 (c := 38) (by decide)
theorem e40 : Utf8.encode 40 = ⟨#[40]⟩ := enc1 (c := 40) (by decide)
theorem e41 : Utf8.encode 41 = ⟨#[41]⟩ := enc1 (c := 41) (by decide)
theorem e42 : Utf8.encode 42 = ⟨#[42]⟩ := enc1 (c := 42) (by decide)
theorem e124 : Utf8.encode 124 = ⟨#[124]⟩ := enc1 (c := 124) (by decide)
theorem brC_encs (b : Bool) (cs : List Int) : encs (brC b cs) = brT b (encs cs) := by
  unfold brC brT
  split
  · show Utf8.encode 40 ++ encs (cs ++ [41]) = _
    rw [encs_app, encs_one, e40, e41, ByteArray.append_assoc]; try rfl
  · rfl
theorem brC_ok {b : Bool} {cs : List Int} (h : ∀ c ∈ cs, okC c) : ∀ c ∈ brC b cs, okC c := by
  unfold brC
  split
  · intro c hc
    simp only [List.cons_append, List.mem_cons, List.mem_append, List.not_mem_nil, or_false] at hc
    rcases hc with rfl | hc | rfl
    · exact okC_sign (by decide)
    · exact h c hc
    · exact okC_sign (by decide)
  · exact h
theorem leaf_two {x : NodeS} (h : (TreeS.leaf x).ok) (h1 : ¬ x.op = 1) : x.op = 2 := by
  obtain ⟨hm, hp⟩ := h
  rcases parts_val x.op with ⟨_, hq⟩ | ⟨_, hq⟩ | ⟨h3, h4, _⟩
  · rw [hp] at hq; cases hq
  · rw [hp] at hq; cases hq
  · unfold mayN at hm
    split at hm
    · assumption
    · simp at hm; omega
theorem showC_encs (tab : List ByteArray) (t : TreeS) : t.ok → NamesT tab t → encs (showC tab t) = showT tab t ∧ ∀ c ∈ showC tab t, okC c := by
  induction t with
  | leaf x =>
    intro hok hn
    unfold showC showT
    split
    · exact ⟨(encs_one 42).trans e42, fun c hc => by rw [List.mem_singleton.1 hc]; exact okC_sign (by decide)⟩
    · rename_i h1
      obtain ⟨cs, e, hw⟩ := (hn x (by simp [TreeS.nodes]) (leaf_two hok h1)).word
      rw [e, runes_encs hw.ok]
      exact ⟨rfl, hw.ok⟩
  | turned t ih =>
    intro hok hn
    obtain ⟨h1, h2⟩ := ih hok (fun x hx => hn x (by simp [TreeS.nodes, hx]))
    unfold showC showT
    refine ⟨?_, fun c hc => ?_⟩
    · show Utf8.encode 33 ++ encs _ = _
      rw [brC_encs, h1, e33]; try rfl
    · rcases List.mem_cons.1 hc with rfl | hc
      · exact okC_sign (by decide)
      · exact brC_ok h2 c hc
  | pair o a b iha ihb =>
    intro hok hn
    obtain ⟨h1, h2⟩ := iha hok.1 (fun x hx => hn x (by simp [TreeS.nodes, hx]))
    obtain ⟨h3, h4⟩ := ihb hok.2 (fun x hx => hn x (by simp [TreeS.nodes, hx]))
    have e3 : ∀ c : Int, ∀ l, encs (32 :: c :: 32 :: l) = ⟨#[32]⟩ ++ (Utf8.encode c ++ (⟨#[32]⟩ ++ encs l)) := fun c l => by
      show Utf8.encode 32 ++ (Utf8.encode c ++ (Utf8.encode 32 ++ encs l)) = _
      rw [e32]; try rfl
    cases o with
    | true =>
      unfold showC showT
      refine ⟨?_, fun c hc => ?_⟩
      · rw [encs_app, e3, brC_encs, h1, h3, e124, ByteArray.append_assoc]
        congr 1
      · simp only [List.mem_append, List.mem_cons] at hc
        rcases hc with hc | rfl | rfl | rfl | hc
        · exact h2 c hc
        · exact okC_blank
        · exact okC_sign (by decide)
        · exact okC_blank
        · exact brC_ok h4 c hc
    | false =>
      unfold showC showT
      refine ⟨?_, fun c hc => ?_⟩
      · rw [encs_app, e3, brC_encs, brC_encs, h1, h3, e38, ByteArray.append_assoc]
        congr 1
      · simp only [List.mem_append, List.mem_cons] at hc
        rcases hc with hc | rfl | rfl | rfl | hc
        · exact brC_ok h2 c hc
        · exact okC_blank
        · exact okC_sign (by decide)
        · exact okC_blank
        · exact brC_ok h4 c hc
/-! ### the words of a text -/
def Lexes (cs : List Int) (tx : List ByteArray) : Prop := ∀ (rest : List Int) (out : List WordS) (n : Nat), ∃ (ws : List WordS) (r : Bool) (m : Nat), lexC (cs ++ rest) ⟨out, false, n⟩ = lexC rest ⟨out ++ ws, r, m⟩ ∧ ws.map (·.text) = tx
theorem lexC_sgn {c : Int} (h : signB c = true) (rest : List Int) (out : List WordS) (r : Bool) (n : Nat) : lexC (c :: rest) ⟨out, r, n⟩ = lexC rest ⟨out ++ [⟨Utf8.encode c, n⟩], false, n + 1⟩ := by
  rw [lexC_cons, stepL_sign h]
theorem lexC_bl (rest : List Int) (out : List WordS) (r : Bool) (n : Nat) : lexC (32 :: rest) ⟨out, r, n⟩ = lexC rest ⟨out, false, n + 1⟩ := by
  rw [lexC_cons, stepL_blank]
theorem Lexes.word {cs : List Int} (h : WOK cs) : Lexes cs [encs cs] := fun rest out n => by
  obtain ⟨r, hr⟩ := lexC_word cs rest h out n
  exact ⟨[⟨encs cs, n⟩], r, _, hr, rfl⟩
theorem Lexes.sign {c : Int} (h : signB c = true) {cs : List Int} {tx : List ByteArray} (h2 : Lexes cs tx) : Lexes (c :: cs) (Utf8.encode c :: tx) := fun rest out n => by
  obtain ⟨ws, r, m, h3, h4⟩ := h2 rest (out ++ [⟨Utf8.encode c, n⟩]) (n + 1)
  refine ⟨⟨Utf8.encode c, n⟩ :: ws, r, m, ?_, by rw [List.map_cons, h4]⟩
  rw [List.cons_append, lexC_sgn h, h3, List.append_assoc]; rfl
theorem Lexes.two {c : Int} (h : signB c = true) {a b : List Int} {ta tb : List ByteArray} (ha : Lexes a ta) (hb : Lexes b tb) : Lexes (a ++ 32 :: c :: 32 :: b) (ta ++ Utf8.encode c :: tb) := fun rest out n => by
  obtain ⟨ws, r, m, h3, h4⟩ := ha ((32 :: c :: 32 :: b) ++ rest) out n
  obtain ⟨ws2, r2, m2, h5, h6⟩ := hb rest (out ++ ws ++ [⟨Utf8.encode c, ((m + 1 : Nat) : Int)⟩]) (m + 1 + 1 + 1)
  refine ⟨ws ++ ⟨Utf8.encode c, ((m + 1 : Nat) : Int)⟩ :: ws2, r2, m2, ?_, by rw [List.map_append, List.map_cons, h4, h6]⟩
  rw [List.append_assoc, h3]
  show lexC (32 :: c :: 32 :: (b ++ rest)) _ = _
  rw [lexC_bl, lexC_sgn h, lexC_bl]
  refine h5.trans ?_
  rw [show out ++ ws ++ [⟨Utf8.encode c, ((m + 1 : Nat) : Int)⟩] ++ ws2 = out ++ (ws ++ ⟨Utf8.encode c, ((m + 1 : Nat) : Int)⟩ :: ws2) by simp]
theorem Lexes.br {b : Bool} {cs : List Int} {tx : List ByteArray} (h : Lexes cs tx) : Lexes (brC b cs) (brL b tx) := by
  unfold brC brL
  split
  · intro rest out n
    obtain ⟨ws, r, m, h3, h4⟩ := h (41 :: rest) (out ++ [⟨Utf8.encode 40, n⟩]) (n + 1)
    refine ⟨⟨Utf8.encode 40, n⟩ :: ws ++ [⟨Utf8.encode 41, m⟩], false, m + 1, ?_, ?_⟩
    · show lexC (40 :: ((cs ++ [41]) ++ rest)) _ = _
      rw [lexC_sgn (by decide), List.append_assoc]
      refine h3.trans ?_
      rw [lexC_sgn (by decide)]
      simp
    · rw [List.map_append, List.map_cons, h4]
      show Utf8.encode 40 :: tx ++ [Utf8.encode 41] = _
      rw [e40, e41]; rfl
  · exact h
theorem lexes_tree (tab : List ByteArray) (t : TreeS) : t.ok → NamesT tab t → Lexes (showC tab t) (tokB tab t) := by
  induction t with
  | leaf x =>
    intro hok hn
    unfold showC tokB
    split
    · have := Lexes.word (cs := [42]) (.inr ⟨42, rfl, by decide⟩)
      rwa [encs_one, e42] at this
    · rename_i h1
      obtain ⟨cs, e, hw⟩ := (hn x (by simp [TreeS.nodes]) (leaf_two hok h1)).word
      rw [e, runes_encs hw.ok]
      exact Lexes.word hw
  | turned t ih =>
    intro hok hn
    have := Lexes.sign (c := 33) (by decide) (Lexes.br (b := decide (opT t = 4) || decide (opT t = 5)) (ih hok (fun x hx => hn x (by simp [TreeS.nodes, hx]))))
    rw [e33] at this
    exact this
  | pair o a b iha ihb =>
    intro hok hn
    have h1 := iha hok.1 (fun x hx => hn x (by simp [TreeS.nodes, hx]))
    have h2 := ihb hok.2 (fun x hx => hn x (by simp [TreeS.nodes, hx]))
    cases o with
    | true =>
      have := Lexes.two (c := 124) (by decide) h1 (Lexes.br (b := decide (opT b = 5)) h2)
      rw [e124] at this
      exact this
    | false =>
      have := Lexes.two (c := 38) (by decide) (Lexes.br (b := decide (opT a = 5)) h1) (Lexes.br (b := decide (opT b = 4) || decide (opT b = 5)) h2)
      rw [e38] at this
      exact this
/-! ### the words are read as the tree's nodes -/
def NoSign (s : ByteArray) (rest : List WordS) : Prop := ∀ x r, rest = x :: r → x.text ≠ s
theorem loopP_stop {p : List WordS → List NodeS → Res} {s : ByteArray} {op : Int} (m : Nat) {rest : List WordS} (out : List NodeS) (h : NoSign s rest) : loopP p s op m rest out = .ok rest out := by
  cases m with
  | zero => rfl
  | succ m =>
    cases rest with
    | nil => rfl
    | cons x r =>
      unfold loopP
      simp only
      rw [if_neg (h x r rfl)]
theorem loopP_step {p : List WordS → List NodeS → Res} {s : ByteArray} {op : Int} (m : Nat) (x : WordS) (r rest : List WordS) (out out' : List NodeS) (hx : x.text = s) (h : p r out = .ok rest out') : loopP p s op (m + 1) (x :: r) out = loopP p s op m rest (out' ++ [⟨op, 0⟩]) := by
  conv => lhs; unfold loopP
  simp only
  rw [if_pos hx, h]
theorem manyP_ok {p : List WordS → List NodeS → Res} {s : ByteArray} {op : Int} (n : Nat) {ws rest : List WordS} {out out' : List NodeS} (h : p ws out = .ok rest out') : manyP p s op n ws out = loopP p s op n rest out' := by
  unfold manyP
  rw [h]
theorem map_cons_inv {x : ByteArray} {l : List ByteArray} {ws : List WordS} (h : ws.map (·.text) = x :: l) : ∃ y r, ws = y :: r ∧ y.text = x ∧ r.map (·.text) = l := by
  cases ws with
  | nil => cases h
  | cons y r => injection h with h1 h2; exact ⟨y, r, rfl, h1, h2⟩
theorem map_app_inv {a b : List ByteArray} {ws : List WordS} (h : ws.map (·.text) = a ++ b) : ∃ u v, ws = u ++ v ∧ u.map (·.text) = a ∧ v.map (·.text) = b := List.map_eq_append_iff.1 h
/-- What a part reads of some words. -/
def Reads (p : List WordS → List NodeS → Res) (tx : List ByteArray) (l : List NodeS) (R : List WordS → Prop) : Prop := ∀ (ws rest : List WordS) (out : List NodeS), ws.map (·.text) = tx → R rest → p (ws ++ rest) out = .ok rest (out ++ l)
def Spins (p : List WordS → List NodeS → Res) (s : ByteArray) (op : Int) (K n : Nat) (tx : List ByteArray) (l : List NodeS) (R : List WordS → Prop) : Prop := ∀ (ws rest : List WordS) (out : List NodeS), ws.map (·.text) = tx → R rest → ∃ m, n + 1 ≤ m + K ∧ manyP p s op n (ws ++ rest) out = loopP p s op m rest (out ++ l)
def AllR (_ : List WordS) : Prop := True
theorem Spins.one {p : List WordS → List NodeS → Res} {s : ByteArray} {op : Int} {K n : Nat} {tx : List ByteArray} {l : List NodeS} {R : List WordS → Prop} (hK : 1 ≤ K) (h : Reads p tx l R) : Spins p s op K n tx l R := fun ws rest out hw hr => ⟨n, by omega, manyP_ok n (h ws rest out hw hr)⟩
theorem Spins.more {p : List WordS → List NodeS → Res} {s : ByteArray} {op : Int} {K K2 n : Nat} {tx tx2 : List ByteArray} {l l2 : List NodeS} {R R2 : List WordS → Prop} (h : Spins p s op K n tx l R) (h2 : Reads p tx2 l2 R2) (hn : K + K2 + 1 ≤ n) (hR : ∀ x r, x.text = s → R (x :: r)) : Spins p s op (K + (K2 + 1)) n (tx ++ s :: tx2) (l ++ l2 ++ [⟨op, 0⟩]) R2 := by
  intro ws rest out hw hr
  obtain ⟨u, v, rfl, hu, hv⟩ := map_app_inv hw
  obtain ⟨x, v, rfl, hx, hv⟩ := map_cons_inv hv
  obtain ⟨m, hm, e⟩ := h u (x :: v ++ rest) out hu (hR x _ hx)
  obtain ⟨m, rfl⟩ : ∃ m', m = m' + 1 := ⟨m - 1, by omega⟩
  refine ⟨m, by omega, ?_⟩
  rw [List.append_assoc, e, List.cons_append, loopP_step m x (v ++ rest) rest _ _ hx (h2 v rest _ hv hr)]
  simp
theorem Spins.reads {p : List WordS → List NodeS → Res} {s : ByteArray} {op : Int} {K n : Nat} {tx : List ByteArray} {l : List NodeS} {R : List WordS → Prop} (h : Spins p s op K n tx l R) (hR : ∀ r, R r → NoSign s r) : Reads (manyP p s op n) tx l R := fun ws rest out hw hr => by
  obtain ⟨m, _, e⟩ := h ws rest out hw hr
  rw [e, loopP_stop m _ (hR rest hr)]
theorem Reads.weak {p : List WordS → List NodeS → Res} {tx : List ByteArray} {l : List NodeS} {R R2 : List WordS → Prop} (h : Reads p tx l R) (hR : ∀ r, R2 r → R r) : Reads p tx l R2 := fun ws rest out hw hr => h ws rest out hw (hR rest hr)
def NoOps (r : List WordS) : Prop := NoSign sAnd r ∧ NoSign sOr r
theorem sign_ne : sNot ≠ sOpen ∧ sNot ≠ sYes ∧ sOpen ≠ sYes ∧ sYes ≠ sNot ∧ sYes ≠ sOpen ∧ sOpen ≠ sNot ∧ sShut ≠ sAnd ∧ sShut ≠ sOr ∧ sOr ≠ sAnd := by decide +kernel
theorem reads_br (tab : List ByteArray) (en : Int) (f : Nat) (tx : List ByteArray) (l : List NodeS) (h : Reads (anyP (oneP tab en f) f) tx l NoOps) : Reads (oneP tab en (f + 1)) (brL true tx) l AllR := by
  intro ws rest out hw _
  unfold brL at hw
  rw [if_pos rfl] at hw
  obtain ⟨x, r, rfl, hx, hr⟩ := map_cons_inv hw
  obtain ⟨u, v, rfl, hu, hv⟩ := map_app_inv hr
  obtain ⟨y, v, rfl, hy, hv⟩ := map_cons_inv hv
  obtain rfl : v = [] := by simpa using hv
  show oneP tab en (f + 1) (x :: ((u ++ [y]) ++ rest)) out = _
  unfold oneP
  simp only
  rw [if_neg (by rw [hx]; exact sign_ne.2.2.2.2.2.1), if_pos hx, List.append_assoc, h u ([y] ++ rest) out hu ⟨fun z r e => by injection e with e _; subst e; rw [hy]; exact sign_ne.2.2.2.2.2.2.1, fun z r e => by injection e with e _; subst e; rw [hy]; exact sign_ne.2.2.2.2.2.2.2.1⟩]
  show shutP en (.ok (y :: rest) _) = _
  unfold shutP
  simp only
  rw [if_pos hy]
theorem parse_tree (tab : List ByteArray) (en : Int) (t : TreeS) : t.ok → NamesT tab t →
    (∀ f, (tokB tab t).length ≤ f → opT t ≠ 4 → opT t ≠ 5 → Reads (oneP tab en f) (tokB tab t) t.nodes AllR) ∧
    (∀ f n, (tokB tab t).length ≤ f → (tokB tab t).length ≤ n → opT t ≠ 5 → Spins (oneP tab en f) sAnd 4 (tokB tab t).length n (tokB tab t) t.nodes AllR) ∧
    (∀ f n0 n, (tokB tab t).length ≤ f → (tokB tab t).length ≤ n0 → (tokB tab t).length ≤ n → Spins (allP (oneP tab en f) n0) sOr 5 (tokB tab t).length n (tokB tab t) t.nodes (NoSign sAnd)) := by
  have br : ∀ (t : TreeS) (c : Bool) (f : Nat), (c = false → opT t ≠ 4 ∧ opT t ≠ 5) → (brL c (tokB tab t)).length ≤ f →
      ((∀ f, (tokB tab t).length ≤ f → opT t ≠ 4 → opT t ≠ 5 → Reads (oneP tab en f) (tokB tab t) t.nodes AllR) ∧
      (∀ f n, (tokB tab t).length ≤ f → (tokB tab t).length ≤ n → opT t ≠ 5 → Spins (oneP tab en f) sAnd 4 (tokB tab t).length n (tokB tab t) t.nodes AllR) ∧
      (∀ f n0 n, (tokB tab t).length ≤ f → (tokB tab t).length ≤ n0 → (tokB tab t).length ≤ n → Spins (allP (oneP tab en f) n0) sOr 5 (tokB tab t).length n (tokB tab t) t.nodes (NoSign sAnd))) →
      Reads (oneP tab en f) (brL c (tokB tab t)) t.nodes AllR := by
    intro t c f hc hf h
    cases c with
    | false =>
      unfold brL at hf ⊢
      simp only [Bool.false_eq_true, if_false] at hf ⊢
      exact h.1 f hf (hc rfl).1 (hc rfl).2
    | true =>
      have hl : (brL true (tokB tab t)).length = (tokB tab t).length + 2 := by simp [brL]
      obtain ⟨f, rfl⟩ : ∃ f', f = f' + 1 := ⟨f - 1, by omega⟩
      refine reads_br tab en f _ _ ?_
      intro ws rest out hw hr
      exact Spins.reads (R := fun r => NoSign sAnd r ∧ NoSign sOr r) (fun ws rest out hw hr => h.2.2 f f f (by omega) (by omega) (by omega) ws rest out hw hr.1) (fun r h => h.2) ws rest out hw hr
  induction t with
  | leaf x =>
    intro hok hn
    have one : ∀ f, (tokB tab (.leaf x)).length ≤ f → Reads (oneP tab en f) (tokB tab (.leaf x)) (TreeS.leaf x).nodes AllR := by
      intro f hf ws rest out hw _
      obtain ⟨f, rfl⟩ : ∃ f', f = f' + 1 := ⟨f - 1, by have := tokB_pos tab (.leaf x); omega⟩
      unfold tokB at hw
      split at hw
      · rename_i h1
        obtain ⟨y, r, rfl, hy, hr⟩ := map_cons_inv hw
        obtain rfl : r = [] := by simpa using hr
        have hx0 : x = ⟨1, 0⟩ := by
          have hm := hok.1
          unfold mayN at hm
          rw [if_neg (by omega)] at hm
          simp at hm
          cases x; simp_all
        show oneP tab en (f + 1) (y :: rest) out = _
        unfold oneP
        simp only
        rw [if_neg (by rw [hy]; exact sign_ne.2.2.2.1), if_neg (by rw [hy]; exact sign_ne.2.2.2.2.1), if_pos hy, hx0]
        rfl
      · rename_i h1
        have h2 := leaf_two hok h1
        obtain ⟨y, r, rfl, hy, hr⟩ := map_cons_inv hw
        obtain rfl : r = [] := by simpa using hr
        have hN := hn x (by simp [TreeS.nodes]) h2
        have hs := hN.sign
        rw [← hy] at hs
        show oneP tab en (f + 1) (y :: rest) out = _
        unfold oneP
        simp only
        rw [if_neg (hs sNot (by simp)), if_neg (hs sOpen (by simp)), if_neg (hs sYes (by simp)), if_neg (by
          rintro (h | h | h)
          · exact hs sShut (by simp) h
          · exact hs sAnd (by simp) h
          · exact hs sOr (by simp) h)]
        unfold nameP
        have hp := hN.place
        rw [← hy] at hp
        rw [hp, if_neg (by have := hN.lo; have := hN.hi; omega)]
        rw [show (⟨2, x.n⟩ : NodeS) = x by cases x; simp_all]
        rfl
    have hop : opT (.leaf x) ≠ 4 ∧ opT (.leaf x) ≠ 5 := by
      show x.op ≠ 4 ∧ x.op ≠ 5
      by_cases h1 : x.op = 1
      · omega
      · have := leaf_two hok h1; omega
    refine ⟨fun f hf _ _ => one f hf, fun f n hf _ _ => Spins.one (tokB_pos tab _) (one f hf), fun f n0 n hf hn0 _ => Spins.one (tokB_pos tab _) ?_⟩
    exact Spins.reads (R := NoSign sAnd) (fun ws rest out hw _ => (Spins.one (Nat.le_refl 1) (one f hf)) ws rest out hw trivial) (fun _ h => h)
  | turned t ih =>
    intro hok hn
    have h := ih hok (fun x hx => hn x (by simp [TreeS.nodes, hx]))
    have one : ∀ f, (tokB tab (.turned t)).length ≤ f → Reads (oneP tab en f) (tokB tab (.turned t)) (TreeS.turned t).nodes AllR := by
      intro f hf ws rest out hw _
      obtain ⟨f, rfl⟩ : ∃ f', f = f' + 1 := ⟨f - 1, by have := tokB_pos tab (.turned t); omega⟩
      unfold tokB at hw hf
      obtain ⟨y, r, rfl, hy, hr⟩ := map_cons_inv hw
      show oneP tab en (f + 1) (y :: (r ++ rest)) out = _
      unfold oneP
      simp only
      rw [if_pos hy, br t (decide (opT t = 4) || decide (opT t = 5)) f (by intro e; simpa using e) (by simpa using hf) h r rest out hr trivial]
      show Res.ok rest (out ++ t.nodes ++ [⟨3, 0⟩]) = _
      rw [List.append_assoc]; rfl
    refine ⟨fun f hf _ _ => one f hf, fun f n hf _ _ => Spins.one (tokB_pos tab _) (one f hf), fun f n0 n hf hn0 _ => Spins.one (tokB_pos tab _) ?_⟩
    exact Spins.reads (R := NoSign sAnd) (fun ws rest out hw _ => (Spins.one (Nat.le_refl 1) (one f hf)) ws rest out hw trivial) (fun _ h => h)
  | pair o a b iha ihb =>
    intro hok hn
    have ha := iha hok.1 (fun x hx => hn x (by simp [TreeS.nodes, hx]))
    have hb := ihb hok.2 (fun x hx => hn x (by simp [TreeS.nodes, hx]))
    cases o with
    | false =>
      have hlen : (tokB tab (.pair false a b)).length = (brL (decide (opT a = 5)) (tokB tab a)).length + ((brL (decide (opT b = 4) || decide (opT b = 5)) (tokB tab b)).length + 1) := by
        conv => lhs; unfold tokB
        simp
      have spin : ∀ f n, (tokB tab (.pair false a b)).length ≤ f → (tokB tab (.pair false a b)).length ≤ n → Spins (oneP tab en f) sAnd 4 (tokB tab (.pair false a b)).length n (tokB tab (.pair false a b)) (TreeS.pair false a b).nodes AllR := by
        intro f n hf hn2
        have h2 := br b (decide (opT b = 4) || decide (opT b = 5)) f (by intro e; simpa using e) (by omega) hb
        have h1 : Spins (oneP tab en f) sAnd 4 (brL (decide (opT a = 5)) (tokB tab a)).length n (brL (decide (opT a = 5)) (tokB tab a)) a.nodes AllR := by
          by_cases h5 : opT a = 5
          · rw [decide_eq_true h5] at hlen ⊢
            exact Spins.one (by simp [brL]) (br a true f (by intro e; cases e) (by omega) ha)
          · rw [decide_eq_false h5] at hlen ⊢
            unfold brL at hlen ⊢
            simp only [Bool.false_eq_true, if_false] at hlen ⊢
            exact ha.2.1 f n (by omega) (by omega) h5
        have h3 := Spins.more (K2 := (brL (decide (opT b = 4) || decide (opT b = 5)) (tokB tab b)).length) h1 h2 (by omega) (fun _ _ _ => trivial)
        rw [hlen]
        exact h3
      refine ⟨fun f _ h4 => absurd rfl h4, fun f n hf hn2 _ => spin f n hf hn2, fun f n0 n hf hn0 _ => Spins.one (tokB_pos tab _) ?_⟩
      exact Spins.reads (R := NoSign sAnd) (fun ws rest out hw _ => spin f n0 hf hn0 ws rest out hw trivial) (fun _ h => h)
    | true =>
      have hlen : (tokB tab (.pair true a b)).length = (tokB tab a).length + ((brL (decide (opT b = 5)) (tokB tab b)).length + 1) := by
        conv => lhs; unfold tokB
        simp
      refine ⟨fun f _ _ h5 => absurd rfl h5, fun f n _ _ h5 => absurd rfl h5, fun f n0 n hf hn0 hn2 => ?_⟩
      have h2 : Reads (allP (oneP tab en f) n0) (brL (decide (opT b = 5)) (tokB tab b)) b.nodes (NoSign sAnd) := by
        by_cases h5 : opT b = 5
        · rw [decide_eq_true h5] at hlen ⊢
          have h1 := br b true f (by intro e; cases e) (by omega) hb
          exact Spins.reads (K := 1) (R := NoSign sAnd) (fun ws rest out hw _ => (Spins.one (Nat.le_refl 1) h1) ws rest out hw trivial) (fun _ h => h)
        · rw [decide_eq_false h5] at hlen ⊢
          unfold brL at hlen ⊢
          simp only [Bool.false_eq_true, if_false] at hlen ⊢
          exact Spins.reads (R := NoSign sAnd) (fun ws rest out hw _ => hb.2.1 f n0 (by omega) (by omega) h5 ws rest out hw trivial) (fun _ h => h)
      have h3 := Spins.more (K2 := (brL (decide (opT b = 5)) (tokB tab b)).length) (ha.2.2 f n0 n (by omega) (by omega) (by omega)) h2 (by omega) (fun x r hx y s e => by injection e with e _; subst e; rw [hx]; exact sign_ne.2.2.2.2.2.2.2.2)
      rw [hlen]
      exact h3
theorem names_tree {tab : List ByteArray} (h : tabE tab = 0) (t : TreeS) : t.ok → knownT tab t → NamesT tab t := by
  induction t with
  | leaf x =>
    intro hok hk y hy h2
    obtain rfl : y = x := by simpa [TreeS.nodes] using hy
    have h3 := hk y (by simp [TreeS.nodes]) h2
    have hm := hok.1
    unfold mayN at hm
    rw [if_pos h2] at hm
    simp at hm
    exact names_ok h hm.1 h3
  | turned t ih =>
    intro hok hk y hy h2
    simp only [TreeS.nodes, List.mem_append, List.mem_singleton] at hy
    rcases hy with hy | rfl
    · exact ih hok (fun x hx => hk x (by simp [TreeS.nodes, hx])) y hy h2
    · exact absurd h2 (by decide)
  | pair o a b iha ihb =>
    intro hok hk y hy h2
    simp only [TreeS.nodes, List.mem_append, List.mem_singleton] at hy
    rcases hy with (hy | hy) | rfl
    · exact iha hok.1 (fun x hx => hk x (by simp [TreeS.nodes, hx])) y hy h2
    · exact ihb hok.2 (fun x hx => hk x (by simp [TreeS.nodes, hx])) y hy h2
    · cases o <;> exact absurd h2 (by decide)
theorem parse_whole (tab : List ByteArray) (en : Int) (t : TreeS) (hok : t.ok) (hn : NamesT tab t) (ws : List WordS) (hw : ws.map (·.text) = tokB tab t) : anyP (oneP tab en ws.length) ws.length ws [] = .ok [] t.nodes := by
  have hl : ws.length = (tokB tab t).length := by rw [← hw, List.length_map]
  have h := (parse_tree tab en t hok hn).2.2 ws.length ws.length ws.length (by omega) (by omega) (by omega)
  have h2 := Spins.reads (R := fun r => NoSign sAnd r ∧ NoSign sOr r) (fun ws rest out hw hr => h ws rest out hw hr.1) (fun r h => h.2) ws [] [] hw ⟨fun x r e => (by cases e), fun x r e => (by cases e)⟩
  rw [List.append_nil, List.nil_append] at h2
  exact h2
theorem lex_whole (tab : List ByteArray) (t : TreeS) (hok : t.ok) (hn : NamesT tab t) : ∃ ws, lexC (showC tab t) ⟨[], false, 0⟩ = (ws, 0, 0) ∧ ws.map (·.text) = tokB tab t := by
  obtain ⟨ws, r, m, h1, h2⟩ := lexes_tree tab t hok hn [] [] 0
  rw [List.append_nil] at h1
  exact ⟨ws, h1, h2⟩
theorem show_pos (tab : List ByteArray) (t : TreeS) (hok : t.ok) (hn : NamesT tab t) : showT tab t ≠ ⟨#[]⟩ := by
  intro e
  obtain ⟨h1, h2⟩ := showC_encs tab t hok hn
  rw [e] at h1
  have h3 := runes_encs h2
  rw [h1] at h3
  have h4 : showC tab t = [] := by rw [← h3]; decide +kernel
  obtain ⟨ws, h5, h6⟩ := lex_whole tab t hok hn
  rw [h4] at h5
  injection h5 with h5 _
  rw [← h5] at h6
  have := tokB_pos tab t
  rw [← h6] at this
  exact absurd this (by decide)
theorem show_inj (tab : List ByteArray) (t u : TreeS) (ht : t.ok) (hu : u.ok) (hnt : NamesT tab t) (hnu : NamesT tab u) (h : showT tab t = showT tab u) : t.nodes = u.nodes := by
  obtain ⟨h1, h2⟩ := showC_encs tab t ht hnt
  obtain ⟨h3, h4⟩ := showC_encs tab u hu hnu
  have e : showC tab t = showC tab u := by
    rw [← runes_encs h2, ← runes_encs h4, h1, h3, h]
  obtain ⟨ws, h5, h6⟩ := lex_whole tab t ht hnt
  obtain ⟨ws2, h7, h8⟩ := lex_whole tab u hu hnu
  rw [e, h7] at h5
  injection h5 with h5 _
  subst h5
  have p1 := parse_whole tab 0 t ht hnt ws2 h6
  have p2 := parse_whole tab 0 u hu hnu ws2 h8
  rw [p1] at p2
  injection p2
theorem need_show (tab : List ByteArray) (t : TreeS) (hok : t.ok) (hn : NamesT tab t) (hc : checkN t.nodes = 0) (hs : (showT tab t).size ≤ 200) : needS tab (showT tab t) = (t.nodes, 0, 0) := by
  obtain ⟨h1, h2⟩ := showC_encs tab t hok hn
  obtain ⟨ws, h5, h6⟩ := lex_whole tab t hok hn
  have hw : wordsS (showT tab t) = (ws, 0, 0) := by rw [← h1, wordsS_encs h2 (by rw [h1]; exact hs)]; exact h5
  have hq : readR (anyP (oneP tab (runes (showT tab t)).length ws.length) ws.length ws []) = (0, 0, t.nodes) := by
    rw [parse_whole tab _ t hok hn ws h6]
    show ((0 : Int), checkN t.nodes, t.nodes) = _
    rw [hc]
  unfold needS
  rw [hw]
  simp [hq]
end Go.Proofs.Ytolckkckheiceaa
