/- Trees as lists of nodes, and where they begin: plain. -/
import Derived.Test.YtolckkckheiceaaNeed0
namespace Go.Proofs.Ytolckkckheiceaa
open Go.RowKit

namespace TreeS
def nodes : TreeS → List NodeS
  | leaf x => [x]
  | turned t => t.nodes ++ [⟨3, 0⟩]
  | pair o a b => a.nodes ++ b.nodes ++ [⟨if o then 5 else 4, 0⟩]
def ok : TreeS → Prop
  | leaf x => mayN x = true ∧ partsN x.op = 0
  | turned t => t.ok
  | pair _ a b => a.ok ∧ b.ok
theorem nodes_len (t : TreeS) : t.nodes.length = t.size := by
  induction t with
  | leaf x => rfl
  | turned t ih => simp [nodes, size, ih]
  | pair o a b ih1 ih2 => simp [nodes, size, ih1, ih2]; omega
end TreeS
theorem parts_val (op : Int) : (op = 3 ∧ partsN op = 1) ∨ ((op = 4 ∨ op = 5) ∧ partsN op = 2) ∨ (op ≠ 3 ∧ ¬(op = 4 ∨ op = 5) ∧ partsN op = 0) := by
  unfold partsN
  by_cases h3 : op = 3
  · exact .inl ⟨h3, by rw [if_pos h3]⟩
  · by_cases h4 : op = 4 ∨ op = 5
    · exact .inr (.inl ⟨h4, by rw [if_neg h3, if_pos h4]⟩)
    · exact .inr (.inr ⟨h3, h4, by rw [if_neg h3, if_neg h4]⟩)
theorem may_zero {x : NodeS} (h : mayN x = true) (h2 : 3 ≤ x.op) : x.n = 0 ∧ x.op ≤ 5 := by
  unfold mayN at h
  rw [if_neg (by omega)] at h
  simp at h
  omega
/-- A node and as many trees as it has parts make one tree. -/
theorem node_tree {x : NodeS} (hx : mayN x = true) (ts : List TreeS) (hl : ts.length = partsN x.op) (hok : ∀ t ∈ ts, t.ok) : ∃ t : TreeS, t.ok ∧ t.nodes = (ts.map TreeS.nodes).flatten ++ [x] ∧ ∀ (st : List TreeS), nodeT (st ++ ts) st.length x = t := by
  rcases parts_val x.op with ⟨h, hp⟩ | ⟨h, hp⟩ | ⟨h3, h4, hp⟩
  · rw [hp] at hl
    match ts, hl with
    | [a], _ =>
      obtain ⟨hn, _⟩ := may_zero hx (by omega)
      refine ⟨.turned a, hok a (by simp), ?_, fun st => ?_⟩
      · obtain ⟨op, n⟩ := x
        simp only at h hn
        subst h; subst hn
        simp [TreeS.nodes]
      · unfold nodeT
        rw [if_pos h, List.getElem?_append_right (Nat.le_refl _), Nat.sub_self]
        rfl
  · rw [hp] at hl
    match ts, hl with
    | [a, b], _ =>
      obtain ⟨hn, _⟩ := may_zero hx (by omega)
      refine ⟨.pair (decide (x.op = 5)) a b, ⟨hok a (by simp), hok b (by simp)⟩, ?_, fun st => ?_⟩
      · obtain ⟨op, n⟩ := x
        simp only at h hn
        subst hn
        rcases h with h | h <;> subst h <;> simp [TreeS.nodes]
      · unfold nodeT
        rw [if_neg (by omega), if_pos h, List.getElem?_append_right (Nat.le_refl _), Nat.sub_self, List.getElem?_append_right (by omega), show st.length + 1 - st.length = 1 by omega]
        rfl
  · rw [hp] at hl
    match ts, hl with
    | [], _ =>
      refine ⟨.leaf x, ⟨hx, hp⟩, by simp [TreeS.nodes], fun st => ?_⟩
      unfold nodeT
      rw [if_neg h3, if_neg h4]
/-- What the stack holds is what came. -/
theorem stackL_nodes : ∀ (l : List NodeS) (st st' : List TreeS), (∀ t ∈ st, t.ok) → stackL l st = some st' → (∀ t ∈ st', t.ok) ∧ (st'.map TreeS.nodes).flatten = (st.map TreeS.nodes).flatten ++ l
  | [], st, st', hok, h => by injection h with h; subst h; exact ⟨hok, by simp⟩
  | x :: l, st, st', hok, h => by
    unfold stackL at h
    split at h
    · rename_i s1 hs
      unfold stackM at hs
      split at hs
      · rename_i hc
        injection hs with hs
        have hsp : st = st.take (st.length - partsN x.op) ++ st.drop (st.length - partsN x.op) := (List.take_append_drop _ _).symm
        have hd : (st.drop (st.length - partsN x.op)).length = partsN x.op := by rw [List.length_drop]; omega
        obtain ⟨t, h1, h2, h3⟩ := node_tree hc.1 _ hd (fun t ht => hok t (List.mem_of_mem_drop ht))
        have h4 := h3 (st.take (st.length - partsN x.op))
        rw [← hsp, List.length_take, Nat.min_eq_left (Nat.sub_le _ _)] at h4
        rw [h4] at hs
        subst hs
        obtain ⟨h5, h6⟩ := stackL_nodes l _ st' (fun u hu => by
          rcases List.mem_append.1 hu with hu | hu
          · exact hok u (List.mem_of_mem_take hu)
          · rw [List.mem_singleton.1 hu]; exact h1) h
        refine ⟨h5, ?_⟩
        rw [h6]
        conv => rhs; rw [hsp]
        simp only [List.map_append, List.flatten_append, List.map_cons, List.map_nil, List.flatten_cons, List.flatten_nil, List.append_nil, h2, List.append_assoc, List.cons_append, List.nil_append]
      · cases hs
    · cases h
/-- A tree's nodes lay that tree. -/
theorem stackL_tree (t : TreeS) : t.ok → ∀ (r : List NodeS) (st : List TreeS), stackL (t.nodes ++ r) st = stackL r (st ++ [t]) := by
  induction t with
  | leaf x =>
    intro h r st
    show stackL (x :: r) st = _
    rw [stackL]
    have : stackM st x = some (st ++ [.leaf x]) := by
      unfold stackM
      rw [if_pos ⟨h.1, by rw [h.2]; omega⟩, h.2, Nat.sub_zero, List.take_length]
      obtain ⟨t, _, h2, h3⟩ := node_tree h.1 [] h.2.symm (by simp)
      have h4 := h3 st
      rw [List.append_nil] at h4
      rcases parts_val x.op with ⟨_, hp⟩ | ⟨_, hp⟩ | ⟨k3, k4, _⟩
      · rw [h.2] at hp; cases hp
      · rw [h.2] at hp; cases hp
      · unfold nodeT; rw [if_neg k3, if_neg k4]
    rw [this]
  | turned t ih =>
    intro h r st
    show stackL (t.nodes ++ [⟨3, 0⟩] ++ r) st = _
    rw [List.append_assoc, ih h, List.singleton_append, stackL]
    have : stackM (st ++ [t]) ⟨3, 0⟩ = some (st ++ [.turned t]) := by
      unfold stackM
      have hp : partsN 3 = 1 := rfl
      rw [if_pos ⟨by decide, by show partsN 3 ≤ _; rw [hp]; simp⟩]
      show some ((st ++ [t]).take ((st ++ [t]).length - partsN 3) ++ [nodeT (st ++ [t]) ((st ++ [t]).length - partsN 3) ⟨3, 0⟩]) = _
      rw [hp, List.length_append, List.length_singleton, Nat.add_sub_cancel, List.take_left]
      unfold nodeT
      rw [if_pos rfl, List.getElem?_append_right (Nat.le_refl _), Nat.sub_self]
      rfl
    rw [this]
  | pair o a b iha ihb =>
    intro h r st
    show stackL (a.nodes ++ b.nodes ++ [⟨if o then 5 else 4, 0⟩] ++ r) st = _
    rw [List.append_assoc, List.append_assoc, iha h.1, ihb h.2, List.singleton_append, stackL]
    have : stackM (st ++ [a] ++ [b]) ⟨if o then 5 else 4, 0⟩ = some (st ++ [.pair o a b]) := by
      unfold stackM
      have hp : partsN (if o then 5 else 4) = 2 := by cases o <;> rfl
      rw [if_pos ⟨by cases o <;> decide, by show partsN (if o then 5 else 4) ≤ _; rw [hp]; simp⟩]
      show some ((st ++ [a] ++ [b]).take ((st ++ [a] ++ [b]).length - partsN (if o then 5 else 4)) ++ [nodeT (st ++ [a] ++ [b]) ((st ++ [a] ++ [b]).length - partsN (if o then 5 else 4)) ⟨if o then 5 else 4, 0⟩]) = _
      rw [hp, show (st ++ [a] ++ [b]).length - 2 = st.length by simp, List.append_assoc, List.take_left]
      have g0 : (st ++ ([a] ++ [b]))[st.length]? = some a := by rw [List.getElem?_append_right (Nat.le_refl _), Nat.sub_self]; rfl
      have g1 : (st ++ ([a] ++ [b]))[st.length + 1]? = some b := by rw [List.getElem?_append_right (by omega), show st.length + 1 - st.length = 1 by omega]; rfl
      congr 2
      unfold nodeT
      rw [g0, g1]
      cases o <;> simp
    rw [this]

/-! ### where a tree begins -/
def beginG (l : List NodeS) : Nat → Nat → Int
  | _, 0 => -1
  | lack, n + 1 => if lack - 1 + partsN ((l[n]?.getD ⟨0, 0⟩).op) = 0 then (n : Int) else beginG l (lack - 1 + partsN ((l[n]?.getD ⟨0, 0⟩).op)) n
theorem begin_tree (t : TreeS) : t.ok → ∀ (l pre post : List NodeS) (lack : Nat), 1 ≤ lack → l = pre ++ t.nodes ++ post → beginG l lack (pre.length + t.size) = if lack = 1 then (pre.length : Int) else beginG l (lack - 1) pre.length := by
  induction t with
  | leaf x =>
    intro h l pre post lack h1 hl
    show beginG l lack (pre.length + 1) = _
    have hx : l[pre.length]? = some x := by rw [hl, List.append_assoc, List.getElem?_append_right (Nat.le_refl _), Nat.sub_self]; rfl
    rw [beginG, hx]
    show (if lack - 1 + partsN x.op = 0 then _ else beginG l (lack - 1 + partsN x.op) _) = _
    rw [h.2, Nat.add_zero]
    by_cases h2 : lack = 1
    · rw [if_pos (by omega), if_pos h2]
    · rw [if_neg (by omega), if_neg h2]
  | turned t ih =>
    intro h l pre post lack h1 hl
    have hs : (TreeS.turned t).size = t.size + 1 := rfl
    have hl2 : l = pre ++ t.nodes ++ ([⟨3, 0⟩] ++ post) := by rw [hl]; simp [TreeS.nodes]
    have hx : l[pre.length + t.size]? = some ⟨3, 0⟩ := by
      rw [hl2, List.getElem?_append_right (by rw [List.length_append, TreeS.nodes_len]; exact Nat.le_refl _), List.length_append, TreeS.nodes_len, Nat.sub_self]; rfl
    rw [hs, ← Nat.add_assoc, beginG, hx]
    show (if lack - 1 + partsN 3 = 0 then _ else beginG l (lack - 1 + partsN 3) _) = _
    rw [show partsN 3 = 1 from rfl, if_neg (by omega), Nat.sub_add_cancel h1]
    exact ih h l pre _ lack h1 hl2
  | pair o a b iha ihb =>
    intro h l pre post lack h1 hl
    have hs : (TreeS.pair o a b).size = a.size + b.size + 1 := rfl
    have hl1 : l = pre ++ a.nodes ++ (b.nodes ++ [⟨if o then 5 else 4, 0⟩] ++ post) := by rw [hl]; simp [TreeS.nodes]
    have hl2 : l = (pre ++ a.nodes) ++ b.nodes ++ ([⟨if o then 5 else 4, 0⟩] ++ post) := by rw [hl]; simp [TreeS.nodes]
    have hx : l[pre.length + (a.size + b.size)]? = some ⟨if o then 5 else 4, 0⟩ := by
      have e : ((pre ++ a.nodes) ++ b.nodes).length = pre.length + (a.size + b.size) := by simp [TreeS.nodes_len]
      rw [hl2, List.getElem?_append_right (by rw [e]; exact Nat.le_refl _), e, Nat.sub_self]; rfl
    rw [hs, ← Nat.add_assoc, beginG, hx]
    show (if lack - 1 + partsN (if o then 5 else 4) = 0 then _ else beginG l (lack - 1 + partsN (if o then 5 else 4)) _) = _
    rw [show partsN (if o then 5 else 4) = 2 by cases o <;> rfl, if_neg (by omega)]
    have h3 := ihb h.2 l (pre ++ a.nodes) _ (lack - 1 + 2) (by omega) hl2
    rw [List.length_append, TreeS.nodes_len, if_neg (by omega)] at h3
    rw [← Nat.add_assoc, h3, show lack - 1 + 2 - 1 = lack by omega]
    exact iha h.1 l pre _ lack h1 hl1
/-- Where a beginning is found, there lie as many trees as are lacking. -/
theorem begin_found (l : List NodeS) (hm : ∀ x ∈ l, mayN x = true) : ∀ (n lack b : Nat), 1 ≤ lack → n ≤ l.length → beginG l lack n = (b : Int) → ∃ ts : List TreeS, ts.length = lack ∧ (∀ t ∈ ts, t.ok) ∧ b ≤ n ∧ (l.take n).drop b = (ts.map TreeS.nodes).flatten
  | 0, lack, b, _, _, h => by unfold beginG at h; omega
  | n + 1, lack, b, h1, hn, h => by
    have hx : l[n]? = some l[n] := List.getElem?_eq_getElem (by omega)
    have hmx := hm _ (List.getElem_mem (by omega : n < l.length))
    rw [beginG, hx] at h
    simp only [Option.getD_some] at h
    have htk : l.take (n + 1) = l.take n ++ [l[n]] := by rw [List.take_add_one, hx]; rfl
    generalize l[n] = x at *
    by_cases h0 : lack - 1 + partsN x.op = 0
    · rw [if_pos h0] at h
      obtain rfl : n = b := by omega
      obtain ⟨t, k1, k2, _⟩ := node_tree hmx [] (by simp; omega) (by simp)
      refine ⟨[t], by simp; omega, by simpa using k1, by omega, ?_⟩
      rw [htk, List.drop_append_of_le_length (by rw [List.length_take]; omega), List.drop_eq_nil_of_le (by rw [List.length_take]; omega)]
      simp [k2]
    · rw [if_neg h0] at h
      obtain ⟨ts, k1, k2, k3, k4⟩ := begin_found l hm n _ b (by omega) (by omega) h
      obtain ⟨t, j1, j2, _⟩ := node_tree hmx (ts.drop (lack - 1)) (by rw [List.length_drop, k1]; omega) (fun t ht => k2 t (List.mem_of_mem_drop ht))
      refine ⟨ts.take (lack - 1) ++ [t], by rw [List.length_append, List.length_take, k1]; simp; omega, ?_, by omega, ?_⟩
      · intro u hu
        rcases List.mem_append.1 hu with hu | hu
        · exact k2 u (List.mem_of_mem_take hu)
        · rw [List.mem_singleton.1 hu]; exact j1
      · rw [htk, List.drop_append_of_le_length (by rw [List.length_take]; omega), k4]
        rw [List.map_append, List.flatten_append]
        simp only [List.map_cons, List.map_nil, List.flatten_cons, List.flatten_nil, List.append_nil, j2]
        rw [← List.append_assoc, ← List.flatten_append, ← List.map_append, List.take_append_drop]
theorem nodes_may (t : TreeS) : t.ok → ∀ x ∈ t.nodes, mayN x = true := by
  induction t with
  | leaf x => intro h y hy; rw [List.mem_singleton.1 hy]; exact h.1
  | turned t ih =>
    intro h y hy
    rcases List.mem_append.1 hy with hy | hy
    · exact ih h y hy
    · rw [List.mem_singleton.1 hy]; decide
  | pair o a b iha ihb =>
    intro h y hy
    rcases List.mem_append.1 hy with hy | hy
    · rcases List.mem_append.1 hy with hy | hy
      · exact iha h.1 y hy
      · exact ihb h.2 y hy
    · rw [List.mem_singleton.1 hy]; cases o <;> decide
theorem made_nodes {l : List NodeS} {t : TreeS} (h : madeN l = some t) : t.ok ∧ l = t.nodes := by
  unfold madeN at h
  split at h
  · rename_i s hs
    injection h with h
    subst h
    obtain ⟨h1, h2⟩ := stackL_nodes l [] _ (by simp) hs
    refine ⟨h1 _ (by simp), ?_⟩
    simpa using h2.symm
  · cases h
theorem made_of_nodes {t : TreeS} (h : t.ok) : madeN t.nodes = some t := by
  have := stackL_tree t h [] []
  rw [List.append_nil] at this
  unfold madeN
  rw [this]
  rfl
theorem begin_of_made {l : List NodeS} {t : TreeS} (h : madeN l = some t) : beginG l 1 l.length = 0 := by
  obtain ⟨h1, h2⟩ := made_nodes h
  have := begin_tree t h1 l [] [] 1 (Nat.le_refl _) (by simpa using h2)
  rw [if_pos rfl] at this
  rw [h2, TreeS.nodes_len] at *
  simpa using this
theorem made_of_begin {l : List NodeS} (hm : ∀ x ∈ l, mayN x = true) (h : beginG l 1 l.length = 0) : ∃ t, madeN l = some t := by
  obtain ⟨ts, h1, h2, _, h4⟩ := begin_found l hm l.length 1 0 (Nat.le_refl _) (Nat.le_refl _) h
  match ts, h1 with
  | [t], _ =>
    simp at h4
    exact ⟨t, by rw [h4]; exact made_of_nodes (h2 t (by simp))⟩
end Go.Proofs.Ytolckkckheiceaa
