import Derived.Test.YtkjncmmombkllaaGreatCuts
import Derived.Test.YtkjncmmombkllaaGreatPrp
import Derived.Test.YtkjncmmombkllaaGreatPrs
import Derived.Test.YtkjncmmombkllaaGreatBase
import Derived.Test.YtkjncmmombkllaaGreatLaw17P
import Derived.Test.YtkjncmmombkllaaGreatR17B
import Derived.Deep.RegionHeld3
/- The records that bytes begin with: plain. -/
namespace Go.Proofs.YtkjncmmombkllaaGreat
open Go.RowKit

/-! ### a frame, ahead and back -/
theorem cut_text {b : List UInt8} (h : (cutS b).2.2 = 0) : ((RdS.mk b 0).text 4096).2.e = 0 := by
  unfold cutS at h
  split at h
  · rename_i h1; exact h
  · rename_i h1; simpa using h1
theorem frame_key {b : List UInt8} (h : (cutS b).2.2 = 0) : b.take (cutS b).2.1 = putL (cutS b).1 ∧ (cutS b).1.length ≤ 4096 ∧ (putL (cutS b).1).length = (cutS b).2.1 ∧ 4 ≤ (cutS b).2.1 := by
  have h0 := cut_text h
  obtain ⟨_, h2, h3⟩ := text_back (by decide) h0
  obtain ⟨p, hp⟩ : ∃ p, p = (RdS.mk b 0).text 4096 := ⟨_, rfl⟩
  have hx : cutS b = if p.2.e ≠ 0 then ([], 0, p.2.e) else if b.length < (b.length - p.2.b.length) + 4 then ([], 0, 2) else if sealB (b.take ((b.length - p.2.b.length) + 4)) then (p.1, (b.length - p.2.b.length) + 4, 0) else ([], 0, 16) := by unfold cutS; rw [← hp]
  rw [← hp] at h0 h2 h3
  simp only at h2
  rw [if_neg (by simp [h0])] at hx
  have hk : b.length - p.2.b.length = (textL p.1).length := by rw [h2, List.length_append, Nat.add_sub_cancel]
  rw [hk] at hx
  by_cases h4 : b.length < (textL p.1).length + 4
  · rw [if_pos h4] at hx; rw [hx] at h; exact absurd h (by decide)
  · rw [if_neg h4] at hx
    cases ho : sealB (b.take ((textL p.1).length + 4))
    · rw [ho, if_neg (by simp)] at hx; rw [hx] at h; exact absurd h (by decide)
    · rw [ho, if_pos rfl] at hx
      rw [openB_seal (by omega), decide_eq_true_iff] at ho
      have ht : b.take (textL p.1).length = textL p.1 := by
        conv => lhs; rw [h2]
        exact List.take_left
      rw [ht] at ho
      have hl : p.1.length ≤ 4096 := by omega
      have hput : putL p.1 = sealL (textL p.1) := by unfold putL; rw [if_neg (by omega)]
      rw [hx]
      refine ⟨by rw [hput]; exact ho.symm, hl, ?_, by simp⟩
      rw [hput, ho, List.length_take]
      simp only
      omega
theorem cut_ahead {p : List UInt8} (hp : p.length ≤ 4096) (r : List UInt8) : cutS (putL p ++ r) = (p, (putL p).length, 0) := by
  have hput : putL p = sealL (textL p) := by unfold putL; rw [if_neg (by omega)]
  have hs : putL p ++ r = textL p ++ (four (crcOf (textL p)) ++ r) := by rw [hput]; unfold sealL; rw [List.append_assoc]
  have ht := text_ahead (s := p) (most := 4096) (by omega) (by decide) (four (crcOf (textL p)) ++ r)
  rw [← hs] at ht
  have hf : (four (crcOf (textL p))).length = 4 := rfl
  have hl : (putL p).length = (textL p).length + 4 := by rw [hput]; unfold sealL; rw [List.length_append, hf]
  unfold cutS
  rw [ht]
  simp only
  have hk : (putL p ++ r).length - (four (crcOf (textL p)) ++ r).length = (textL p).length := by rw [List.length_append, List.length_append, hl, hf]; omega
  rw [if_neg (by simp), hk, if_neg (by rw [List.length_append, hl]; omega), openB_seal (by rw [List.length_append, hl]; omega), if_pos, hl]
  rw [decide_eq_true_iff]
  have e1 : (putL p ++ r).take (textL p).length = textL p := by rw [hs]; exact List.take_left
  have e2 : (putL p ++ r).take ((textL p).length + 4) = putL p := by rw [← hl]; exact List.take_left
  rw [e1, e2, hput]
theorem nextN_app {t : List UInt8} {most : Int} (h : (nextN t most).1 = 0) (r : List UInt8) : nextN (t ++ r) most = nextN t most := by
  cases t with
  | nil => unfold nextN at h; simp at h
  | cons x t =>
    have hx := x.toNat_lt
    rw [List.cons_append]
    unfold nextN at h ⊢
    simp only at h ⊢
    split
    · rfl
    · split
      · rfl
      · rename_i h1 h2
        rw [if_neg h1, if_neg h2] at h
        by_cases h3 : t.length < x.toNat - 247
        · rw [if_pos h3] at h; simp at h
        · rw [if_neg h3, if_neg (by rw [List.length_append]; omega), List.take_append_of_le_length (by omega)]
theorem text_val {b : List UInt8} {most : Int} (h1 : (nextN b most).1 = 0) (h2 : ¬ b.length < (nextN b most).2.2 + (nextN b most).2.1) : (RdS.mk b 0).text most = ((b.drop (nextN b most).2.2).take (nextN b most).2.1, ⟨b.drop ((nextN b most).2.2 + (nextN b most).2.1), 0⟩) := by
  unfold RdS.text
  rw [if_neg (by simp), if_neg (by simp [h1]), if_neg h2]
theorem scText_ok {b : List UInt8} {most : Int} (h : ((RdS.mk b 0).text most).2.e = 0) : (nextN b most).1 = 0 ∧ ¬ b.length < (nextN b most).2.2 + (nextN b most).2.1 := by
  unfold RdS.text at h
  rw [if_neg (by simp)] at h
  split at h
  · rename_i h1; exact absurd h h1
  · rename_i h1
    split at h
    · exact absurd h (by simp)
    · rename_i h2; exact ⟨by simpa using h1, h2⟩
theorem text_app {t : List UInt8} {most : Int} (h : ((RdS.mk t 0).text most).2.e = 0) (r : List UInt8) : (RdS.mk (t ++ r) 0).text most = (((RdS.mk t 0).text most).1, ⟨((RdS.mk t 0).text most).2.b ++ r, 0⟩) := by
  obtain ⟨h1, h2⟩ := scText_ok h
  have ha := nextN_app h1 r
  rw [text_val h1 h2, text_val (b := t ++ r) (by rw [ha]; exact h1) (by rw [ha, List.length_append]; omega), ha]
  dsimp only
  rw [List.drop_append_of_le_length (by omega), List.drop_append_of_le_length (by omega), List.take_append_of_le_length (by rw [List.length_drop]; omega)]
theorem cut_app {t : List UInt8} (h : (cutS t).2.2 = 0) (r : List UInt8) : cutS (t ++ r) = cutS t := by
  obtain ⟨h1, h2, h3, h4⟩ := frame_key h
  have h5 := (cutS_ok h).2.1
  have e : t ++ r = putL (cutS t).1 ++ (t.drop (cutS t).2.1 ++ r) := by rw [← h1, ← List.append_assoc, List.take_append_drop]
  rw [e, cut_ahead h2, h3]
  generalize hq : cutS t = q at h
  obtain ⟨a, b, c⟩ := q
  simp only at h
  subst h
  rfl
theorem cut_short {p t r : List UInt8} (hp : p.length ≤ 4096) (h : t ++ r = putL p) (hr : r ≠ []) : (cutS t).2.2 ≠ 0 := by
  intro h0
  have h1 := cut_app h0 r
  have h2 := cut_ahead hp []
  rw [List.append_nil, ← h, h1] at h2
  have h3 := (cutS_ok h0).2.1
  rw [h2] at h3
  simp only [List.length_append] at h3
  cases r with
  | nil => exact hr rfl
  | cons a l => simp at h3; omega

/-! ### all frames -/
def allF : Nat → List UInt8 → List (List UInt8) × Nat
  | 0, _ => ([], 0)
  | f + 1, b => if (cutS b).2.2 = 0 then ((cutS b).1 :: (allF f (b.drop (cutS b).2.1)).1, (cutS b).2.1 + (allF f (b.drop (cutS b).2.1)).2) else ([], 0)
theorem cutS_nil : (cutS []).2.2 ≠ 0 := by decide +kernel
theorem allF_more : ∀ (f : Nat) (b : List UInt8), b.length ≤ f → allF f b = allF b.length b
  | 0, b, h => by rw [show b.length = 0 by omega]
  | f + 1, b, h => by
    cases hb : b with
    | nil => rw [allF, if_neg cutS_nil]; rfl
    | cons x r =>
      rw [← hb, show b.length = (b.length - 1) + 1 by rw [hb]; simp, allF, allF]
      by_cases hc : (cutS b).2.2 = 0
      · have h4 := cutS_ok hc
        have hd : (b.drop (cutS b).2.1).length ≤ f := by rw [List.length_drop]; omega
        have hd2 : (b.drop (cutS b).2.1).length ≤ b.length - 1 := by rw [List.length_drop]; omega
        rw [if_pos hc, if_pos hc, allF_more f _ hd]
        have : allF (b.length - 1) (b.drop (cutS b).2.1) = allF (b.drop (cutS b).2.1).length (b.drop (cutS b).2.1) := by
          have hlt : b.length - 1 < f + 1 := by omega
          exact allF_more' (b.length - 1) _ hd2
        rw [this]
      · rw [if_neg hc, if_neg hc]
where
  allF_more' : ∀ (f : Nat) (b : List UInt8), b.length ≤ f → allF f b = allF b.length b := fun f b h => by
    induction f using Nat.strongRecOn generalizing b with
    | ind f ih =>
      cases f with
      | zero => rw [show b.length = 0 by omega]
      | succ f =>
        cases hb : b with
        | nil => rw [allF, if_neg cutS_nil]; rfl
        | cons x r =>
          rw [← hb, show b.length = (b.length - 1) + 1 by rw [hb]; simp, allF, allF]
          by_cases hc : (cutS b).2.2 = 0
          · have h4 := cutS_ok hc
            have hd : (b.drop (cutS b).2.1).length ≤ f := by rw [List.length_drop]; omega
            have hd2 : (b.drop (cutS b).2.1).length ≤ b.length - 1 := by rw [List.length_drop]; omega
            rw [if_pos hc, if_pos hc, ih f (by omega) _ hd, ih (b.length - 1) (by omega) _ hd2]
          · rw [if_neg hc, if_neg hc]
def allScanS (b : List UInt8) : List (List UInt8) × Nat := allF b.length b
theorem allS_go {b : List UInt8} (h : (cutS b).2.2 = 0) : allScanS b = ((cutS b).1 :: (allScanS (b.drop (cutS b).2.1)).1, (cutS b).2.1 + (allScanS (b.drop (cutS b).2.1)).2) := by
  have h4 := cutS_ok h
  unfold allScanS
  rw [show b.length = (b.length - 1) + 1 by omega, allF, if_pos h, allF_more _ _ (by rw [List.length_drop]; omega)]
theorem allS_stop {b : List UInt8} (h : (cutS b).2.2 ≠ 0) : allScanS b = ([], 0) := by
  unfold allScanS
  cases hb : b.length with
  | zero => rfl
  | succ n => rw [allF, if_neg h]

/-! ### all records -/
def recsP : List (List UInt8) → List RecS × Int
  | [] => ([], 0)
  | s :: l => if parseE s = 0 then (parseR s :: (recsP l).1, sizeR (parseR s) + (recsP l).2) else ([], 0)
def recsF : Nat → List UInt8 → List RecS × Nat
  | 0, _ => ([], 0)
  | f + 1, b => if (cutS b).2.2 = 0 ∧ parseE (cutS b).1 = 0 then (parseR (cutS b).1 :: (recsF f (b.drop (cutS b).2.1)).1, (cutS b).2.1 + (recsF f (b.drop (cutS b).2.1)).2) else ([], 0)
theorem recsF_more (f : Nat) (b : List UInt8) (h : b.length ≤ f) : recsF f b = recsF b.length b := by
  induction f using Nat.strongRecOn generalizing b with
  | ind f ih =>
    cases f with
    | zero => rw [show b.length = 0 by omega]
    | succ f =>
      cases hb : b with
      | nil => rw [recsF, if_neg (fun h => cutS_nil h.1)]; rfl
      | cons x r =>
        rw [← hb, show b.length = (b.length - 1) + 1 by rw [hb]; simp, recsF, recsF]
        by_cases hc : (cutS b).2.2 = 0 ∧ parseE (cutS b).1 = 0
        · have h4 := cutS_ok hc.1
          have hd : (b.drop (cutS b).2.1).length ≤ f := by rw [List.length_drop]; omega
          have hd2 : (b.drop (cutS b).2.1).length ≤ b.length - 1 := by rw [List.length_drop]; omega
          rw [if_pos hc, if_pos hc, ih f (by omega) _ hd, ih (b.length - 1) (by omega) _ hd2]
        · rw [if_neg hc, if_neg hc]
def recsS (b : List UInt8) : List RecS × Nat := recsF b.length b
theorem recsS_go {b : List UInt8} (h : (cutS b).2.2 = 0) (hp : parseE (cutS b).1 = 0) : recsS b = (parseR (cutS b).1 :: (recsS (b.drop (cutS b).2.1)).1, (cutS b).2.1 + (recsS (b.drop (cutS b).2.1)).2) := by
  have h4 := cutS_ok h
  unfold recsS
  rw [show b.length = (b.length - 1) + 1 by omega, recsF, if_pos ⟨h, hp⟩, recsF_more _ _ (by rw [List.length_drop]; omega)]
theorem recsS_stop {b : List UInt8} (h : ¬ ((cutS b).2.2 = 0 ∧ parseE (cutS b).1 = 0)) : recsS b = ([], 0) := by
  unfold recsS
  cases hb : b.length with
  | zero => rfl
  | succ n => rw [recsF, if_neg h]
theorem size_key {p : List UInt8} (h : parseE p = 0) : sizeR (parseR p) = (putL p).length ∧ recOk (parseR p) = true ∧ recL (parseR p) = p := by
  obtain ⟨h1, h2⟩ := parse_back h
  have h3 : parseR p = parseX p := by unfold parseR; rw [if_pos h]
  rw [h3]
  exact ⟨by unfold sizeR; rw [if_pos h1, h2], h1, h2⟩
/-- Both ways find the same. -/
theorem recsP_all (b : List UInt8) : recsP (allScanS b).1 = ((recsS b).1, ((recsS b).2 : Int)) := by
  obtain ⟨n, hn⟩ : ∃ n, n = b.length := ⟨_, rfl⟩
  induction n using Nat.strongRecOn generalizing b with
  | ind n ih =>
    by_cases hc : (cutS b).2.2 = 0
    · have h4 := cutS_ok hc
      rw [allS_go hc]
      by_cases hp : parseE (cutS b).1 = 0
      · rw [recsS_go hc hp, recsP, if_pos hp, ih (b.drop (cutS b).2.1).length (by rw [List.length_drop]; omega) _ rfl, (size_key hp).1, (frame_key hc).2.2.1]
        simp
      · rw [recsS_stop (fun h => hp h.2), recsP, if_neg hp]; rfl
    · rw [allS_stop hc, recsS_stop (fun h => hc h.1)]; rfl
def bytesS (l : List RecS) : List UInt8 := l.flatMap (fun x => if recOk x then putL (recL x) else [])
/-- The records' bytes are those that are good. -/
theorem recsS_bytes (b : List UInt8) : bytesS (recsS b).1 = b.take (recsS b).2 ∧ (recsS b).2 ≤ b.length ∧ (∀ x ∈ (recsS b).1, recOk x = true) ∧ 4 * (recsS b).1.length ≤ (recsS b).2 := by
  obtain ⟨n, hn⟩ : ∃ n, n = b.length := ⟨_, rfl⟩
  induction n using Nat.strongRecOn generalizing b with
  | ind n ih =>
    by_cases h : (cutS b).2.2 = 0 ∧ parseE (cutS b).1 = 0
    · have h4 := cutS_ok h.1
      obtain ⟨k1, k2, k3⟩ := size_key h.2
      obtain ⟨f1, f2, f3, f4⟩ := frame_key h.1
      obtain ⟨i1, i2, i3, i4⟩ := ih (b.drop (cutS b).2.1).length (by rw [List.length_drop]; omega) _ rfl
      rw [recsS_go h.1 h.2]
      simp only
      rw [List.length_drop] at i2
      refine ⟨?_, by omega, fun x hx => ?_, by simp only [List.length_cons]; omega⟩
      · unfold bytesS at i1 ⊢
        rw [List.flatMap_cons, i1, if_pos k2, k3, ← f1, List.take_add]
      · rcases List.mem_cons.1 hx with rfl | hx
        · exact k2
        · exact i3 x hx
    · rw [recsS_stop h]
      exact ⟨by simp [bytesS], Nat.zero_le _, by simp, by simp⟩

/-! ### records' bytes, torn -/
theorem recsS_ahead {x : RecS} (hx : recOk x = true) (r : List UInt8) : recsS (putL (recL x) ++ r) = (x :: (recsS r).1, (putL (recL x)).length + (recsS r).2) := by
  have hl := recL_len (x := x)
  have hc := cut_ahead (p := recL x) (by omega) r
  obtain ⟨h1, h2⟩ := parse_of_bytes hx
  rw [recsS_go (by rw [hc]) (by rw [hc]; exact h2), hc]
  simp only
  rw [List.drop_left, h1]
theorem recsS_short {x : RecS} {t r : List UInt8} (h : t ++ r = putL (recL x)) (hr : r ≠ []) : recsS t = ([], 0) := by
  have hl := recL_len (x := x)
  exact recsS_stop (fun h2 => cut_short (by omega) h hr h2.1)
def tornK : List RecS → Nat → Nat × Nat
  | [], _ => (0, 0)
  | x :: l, n => if (putL (recL x)).length ≤ n then ((tornK l (n - (putL (recL x)).length)).1 + 1, (tornK l (n - (putL (recL x)).length)).2 + (putL (recL x)).length) else (0, 0)
theorem recsS_torn (l : List RecS) : ∀ n : Nat, (∀ x ∈ l, recOk x = true) → recsS ((bytesS l).take n) = (l.take (tornK l n).1, (tornK l n).2) := by
  induction l with
  | nil => intro n _; simp [bytesS, tornK]; rfl
  | cons x l ih =>
    intro n h
    have hx := h x (by simp)
    have hb : bytesS (x :: l) = putL (recL x) ++ bytesS l := by unfold bytesS; rw [List.flatMap_cons, if_pos hx]
    rw [hb, tornK]
    by_cases hn : (putL (recL x)).length ≤ n
    · rw [if_pos hn, List.take_append, List.take_of_length_le hn, recsS_ahead hx, ih _ (fun y hy => h y (by simp [hy]))]
      simp; omega
    · rw [if_neg hn, List.take_append_of_le_length (by omega), recsS_short (t := (putL (recL x)).take n) (r := (putL (recL x)).drop n) (List.take_append_drop _ _)]
      · simp
      · intro h2
        have := congrArg List.length h2
        rw [List.length_drop] at this
        simp at this
        omega
theorem recsS_all (l : List RecS) (h : ∀ x ∈ l, recOk x = true) : recsS (bytesS l) = (l, (bytesS l).length) := by
  induction l with
  | nil => rfl
  | cons x l ih =>
    have hx := h x (by simp)
    have hb : bytesS (x :: l) = putL (recL x) ++ bytesS l := by unfold bytesS; rw [List.flatMap_cons, if_pos hx]
    rw [hb, recsS_ahead hx, ih (fun y hy => h y (by simp [hy])), List.length_append]
end Go.Proofs.YtkjncmmombkllaaGreat
namespace Go.Proofs.YtkjncmmombkllaaGreat
open Go.RowKit

theorem Kd.Row.dropN {α : Type} {d : Kd α} {w : World} {S : Nat → Prop} {A : Option Addr} {xs : List α} (h : d.Row w S A xs) (m : Nat) (hm : m < xs.length) : d.Row w S (A.map (fun x => x.add (m * d.sz))) (xs.drop m) := by
  have := Kd.Row.drop h m (xs.length) (Nat.le_of_lt hm) (Nat.le_refl _)
  rwa [if_neg (by omega)] at this

set_option maxHeartbeats 3200000 in
set_option maxRecDepth 100000 in
theorem frAll_calls (b : List UInt8) (v : Value) (w : World) (hb : Kd.u8.slice.K w Any b [v]) (hl : b.length ≤ 1000000) :
    Calls Tryz.prog 65 #[v] w fun en w' => ∃ A n c, en = .returned (.tuple #[.slice A n c, .int .i64 (allScanS b).2]) ∧ Own Kd.str 9 w' w.heap.size NoT (.slice A n c) ((allScanS b).1.map mkB) ∧ Below w.heap.size w w' := by
  have HB := hid hb
  obtain ⟨B, d, he, hd1, hd2, hr⟩ := hb
  cases he
  have HR := hid hr
  clear hr
  go_enter Tryz.func65, Tryz.ntmps65
  go_wp2_with fail
  go_step3
  go_wp2_with fail
  go_step3
  go_wp2_with fail
  go_loopw [2, 3] (fun o g wr => ∃ (at_ : Nat) (ps : List (List UInt8)) (A : Option Addr) (n c : Nat), at_ ≤ b.length ∧ o = .slice A n c ∧ g = .int .i64 at_ ∧ ps.length ≤ at_ ∧ Hid (Own Kd.str 9 wr w.heap.size NoT (.slice A n c) (ps.map mkB)) ∧ Hid (allScanS b = (ps ++ (allScanS (b.drop at_)).1, at_ + (allScanS (b.drop at_)).2)) ∧ Below w.heap.size w wr) (fun _ g _ => b.length - (intOf g).toNat)
  case atStart => exact ⟨0, [], none, 0, 0, by omega, rfl, rfl, by simp, hid (Own.nil _ _ _ _ _), hid (by simp), Below.refl _ _⟩
  case round =>
    obtain ⟨k, ps, A, n, c, hk, rfl, rfl, hpl, HO, HA, hbw⟩ := hrel
    by_cases hlt : k < b.length
    · have hkd : ¬ d = k := by omega
      have hkd2 : k ≤ d := by omega
      have hdl : (b.drop k).length = b.length - k := List.length_drop
      have hrow := HR.out.dropN k hlt
      rw [show k * Kd.u8.sz = k from Nat.mul_one k] at hrow
      have HD := hid (show Kd.u8.slice.K w Any (b.drop k) [.slice (B.map (fun x => x.add k)) (b.length - k) (d - k)] from ⟨_, _, by rw [hdl], by omega, by omega, hrow⟩)
      have C1 := fun wr (h : Below w.heap.size w wr) => frCut_calls (b.drop k) _ wr (Kd.below HD.out h) (by omega)
      obtain ⟨q, hq⟩ : ∃ q, q = cutS (b.drop k) := ⟨_, rfl⟩
      have hcl := cutS_len (b.drop k)
      have hgo := fun h => allS_go (b := b.drop k) h
      have hst := fun h => allS_stop (b := b.drop k) h
      have hok := fun h => cutS_ok (b := b.drop k) h
      unfold cutV at C1
      rw [← hq] at C1 hcl hgo hst hok
      rw [hdl] at hcl hok
      obtain ⟨p, u, e⟩ := q
      dsimp only at C1 hcl hgo hst hok
      have C1 := hid C1
      have HGO := hid hgo
      have HST := hid hst
      have HOK := hid hok
      clear hq hgo hst hok hdl hrow
      have hltI : (k : Int) < b.length := by omega
      by_cases he : e = 0
      · have e1 : (e == (0 : Int)) = true := by rw [beq_iff_eq]; exact he
        have e2 : (e != (0 : Int)) = false := by rw [bne_eq_false_iff_eq]; exact he
        obtain ⟨o1, o2, o3⟩ := HOK.out he
        have HN := hid (show allScanS b = ((ps ++ [p]) ++ (allScanS (b.drop (k + u))).1, (k + u : Nat) + (allScanS (b.drop (k + u))).2) by
          rw [HA.out, HGO.out he, List.drop_drop]; simp; omega)
        have hw1 : IntKind.i64.wrap ((k : Int) + u) = (k : Int) + u := IntWalk.i64_in _ (by omega)
        clear he
        go_wp2_with fail
        refine (C1.out _ hbw).mono ?_
        rintro e' w2 ⟨rfl, hb2⟩
        have hO2 := HO.out.below hb2
        have hb3 := bThen hbw hb2
        have hs3 := hb3.size
        go_wp2_with (at_builtin; go_must (refine append_arm Kd.str w.heap.size rfl _ _ 44 9 _ 16 rfl Tryz.underlying44 Tryz.infoStrP rfl (by decide) (by decide) (.slice A n c) (ps.map mkB) (mkB p) [.string (mkB p)] NoT NoT rfl rfl rfl (fun _ h => h.elim) hO2 hb3 hs3 (by simp; omega) ?_))
        intro v4 w4 hO4 hb4 _ _
        obtain ⟨A4, n4, c4, rfl, hq1, hq2⟩ := hO4.shape'
        have HO4 := hid hO4
        have HB4 := hid hb4
        clear hq1 hq2 hO4 hb4 hO2
        go_wp2
        go_roundw
        case rel => exact ⟨k + u, ps ++ [p], A4, n4, c4, by omega, rfl, congrArg (Value.int .i64) (by omega), by simp; omega, hid (by simpa using HO4.out), HN, HB4.out⟩
        case measure => simp [intOf]; omega
      · have e1 : (e == (0 : Int)) = false := by rw [beq_eq_false_iff_ne]; exact he
        have e2 : (e != (0 : Int)) = true := by rw [bne_iff_ne]; exact he
        have HN := hid (show allScanS b = (ps, k) by rw [HA.out, HST.out he]; simp)
        clear he
        go_wp2_with fail
        refine (C1.out _ hbw).mono ?_
        rintro e' w2 ⟨rfl, hb2⟩
        have HB2 := hid hb2
        clear hb2
        go_wp2
        (try rw [Exit.noGoto_ret])
        go_ret2
        rw [HN.out]
        exact ⟨A, n, c, rfl, HO.out.below HB2.out, bThen hbw HB2.out⟩
    · obtain rfl : b.length = k := by omega
      have HN := hid (show allScanS b = (ps, b.length) by
        rw [HA.out, List.drop_length, allS_stop cutS_nil]; simp)
      have hgeI : ¬ (b.length : Int) < b.length := by omega
      go_wp2
      (try rw [Exit.noGoto_ret])
      go_ret2
      rw [HN.out]
      exact ⟨A, n, c, rfl, HO.out, hbw⟩
end Go.Proofs.YtkjncmmombkllaaGreat
namespace Go.Proofs.YtkjncmmombkllaaGreat
open Go.RowKit

theorem Tryz.infoRec : (Tryz.prog.info? 46).map (fun i => (i.zero, i.size, i.bytes)) = some (some (.agg zRec), 7, 72) := by kernel_rfl
/-- A record's cells, from its needs. -/
theorem rec_K {w : World} {S : Nat → Prop} {x : RecS} {A : Option Addr} {n c : Nat} (h : Kd.str.slice.K w S x.needs [.slice A n c]) : Kd.recK.K w S x [.int .i64 x.kind, .int .i64 x.job, .int .i64 x.task, .int .i64 x.worker, .int .i64 x.sched, .int .i64 x.epoch, .slice A n c] :=
  ⟨_, _, rfl, rfl, _, _, rfl, rfl, _, _, rfl, rfl, _, _, rfl, rfl, _, _, rfl, rfl, _, _, rfl, rfl, h⟩
theorem allS_each (b : List UInt8) : (∀ p ∈ (allScanS b).1, p.length ≤ 4096) ∧ (allScanS b).1.length ≤ b.length := by
  obtain ⟨n, hn⟩ : ∃ n, n = b.length := ⟨_, rfl⟩
  induction n using Nat.strongRecOn generalizing b with
  | ind n ih =>
    by_cases hc : (cutS b).2.2 = 0
    · have h4 := cutS_ok hc
      obtain ⟨h1, h2⟩ := ih (b.drop (cutS b).2.1).length (by rw [List.length_drop]; omega) _ rfl
      rw [List.length_drop] at h2
      rw [allS_go hc]
      refine ⟨fun p hp => ?_, by simp only [List.length_cons]; omega⟩
      rcases List.mem_cons.1 hp with rfl | hp
      · exact (frame_key hc).2.1
      · exact h1 p hp
    · rw [allS_stop hc]; simp

theorem Own.widen {α : Type} {d : Kd α} {e : TypeId} {w : World} {base : Nat} {T T' : Nat → Prop} {v : Value} {xs : List α} (h : Own d e w base T v xs) (hT : ∀ b, T b → T' b) : Own d e w base T' v xs := h.move (fun _ _ _ => rfl) (fun b hb _ => hT b hb)
set_option maxHeartbeats 6400000 in
set_option maxRecDepth 100000 in
theorem scRecords_calls (b : List UInt8) (v : Value) (w : World) (hb : Kd.u8.slice.K w Any b [v]) (hl : b.length ≤ 1000000) :
    Calls Tryz.prog 46 #[v] w fun en w' => ∃ A n c, en = .returned (.tuple #[.slice A n c, .int .i64 (recsS b).2]) ∧ Own Kd.recK 46 w' w.heap.size (fun k => w.heap.size ≤ k) (.slice A n c) (recsS b).1 ∧ Below w.heap.size w w' := by
  have HR := hid (recsP_all b)
  obtain ⟨hall, hall2⟩ := allS_each b
  have C0 := frAll_calls b v w hb hl
  obtain ⟨l, hll⟩ : ∃ l, l = (allScanS b).1 := ⟨_, rfl⟩
  rw [← hll] at hall hall2 C0 HR
  have C0 := hid C0
  have HALL := hid hall
  have hlm : l.length ≤ 1000000 := by omega
  clear hb hll hall hall2
  go_enter Tryz.func46, Tryz.ntmps46
  go_wp2_with fail
  go_step3
  go_wp2_with fail
  refine C0.out.mono ?_
  rintro e w1 ⟨A1, n1, c1, rfl, hO1, hb1⟩
  have HO1 := hid hO1
  have hn1 : n1 = l.length := by
    obtain ⟨_, _, h3, _⟩ := hO1.shape
    injection h3 with _ h3 _
    rw [h3]; simp
  subst hn1
  have hs1 := hb1.size
  clear hO1
  go_wp2_with fail
  go_step3
  go_wp2_with fail
  go_loopw [6, 7, 19] (fun o gv i wr => ∃ (k : Nat) (rs : List RecS) (g : Int) (A : Option Addr) (n c : Nat), k ≤ l.length ∧ o = .slice A n c ∧ gv = .int .i64 g ∧ i = .int .i64 k ∧ rs.length ≤ k ∧ 0 ≤ g ∧ g ≤ 5000 * k ∧
    Hid (Own Kd.recK 46 wr w1.heap.size (fun k => w1.heap.size ≤ k) (.slice A n c) rs) ∧ Hid (recsP l = (rs ++ (recsP (l.drop k)).1, g + (recsP (l.drop k)).2)) ∧ Below w.heap.size w wr ∧ Hid (Below w1.heap.size w1 wr)) (fun _ _ i _ => l.length - (intOf i).toNat)
  case atStart => exact ⟨0, [], 0, none, 0, 0, by omega, rfl, rfl, rfl, by simp, by omega, by omega, hid (Own.nil _ _ _ _ _), hid (by simp), hb1, hid (Below.refl _ _)⟩
  case round =>
    obtain ⟨k, rs, g, A, n, c, hk, rfl, rfl, rfl, hrl, hg0, hg1, HO, HP, hbw, HB1⟩ := hrel
    have hs2 := HB1.out.size
    by_cases hlt : k < l.length
    · obtain ⟨p, hp⟩ : ∃ p, l[k]? = some p := ⟨_, List.getElem?_eq_getElem hlt⟩
      have hpl : p.length ≤ 4096 := HALL.out p (List.mem_of_getElem? hp)
      have HPD := hid (show l.drop k = p :: l.drop (k + 1) by rw [List.drop_eq_getElem_cons hlt]; congr 1; rw [List.getElem?_eq_getElem hlt] at hp; injection hp)
      have hrow1 : Kd.str.Row wr (fun b => NoT b ∨ w.heap.size ≤ b) A1 (l.map mkB) := by
        obtain ⟨A', n', h1, _, _, h2⟩ := (HO1.out.below HB1.out).K
        rw [List.length_map] at h1
        cases h1
        exact h2
      obtain ⟨a, x, rfl, hx, hxc⟩ := hrow1.at_str k (by simpa using hlt)
      obtain rfl : x = mkB p := by rw [List.getElem?_map, hp] at hx; simpa using hx.symm
      have C1 := fun W v h => recParse_calls p v W h (by omega)
      obtain ⟨X, hX⟩ : ∃ X, X = parseR p := ⟨_, rfl⟩
      obtain ⟨E, hE⟩ : ∃ E, E = parseE p := ⟨_, rfl⟩
      have hP2 : recsP (l.drop k) = if E = 0 then (X :: (recsP (l.drop (k + 1))).1, sizeR X + (recsP (l.drop (k + 1))).2) else ([], 0) := by rw [HPD.out, recsP, ← hX, ← hE]
      rw [← hX, ← hE] at C1
      have C1 := hid C1
      have HP2 := hid hP2
      have hltI : (k : Int) < l.length := by omega
      have hbs := mkB_size p
      have hsb := sizeR_bound X
      have HPP := hid (show (mkB p).data.toList = p from mkB_data p)
      obtain ⟨sv, hsv⟩ : ∃ sv, sv = mkB p := ⟨_, rfl⟩
      rw [← hsv] at hbs hxc HPP
      have hkb := Lib.run_convert_string_bytes (P := Tryz.prog) wr 9 23 5 sv Tryz.underlying9 Tryz.underlying23 Tryz.underlying5
      have HKB := hid (show Kd.u8.slice.K (Lib.bytesWorld wr 5 sv) Any p [.slice (some ⟨wr.heap.size, 0, none⟩) sv.size (grownCap wr sv.size 0 5)] by
        have := Buf.K (Buf.new wr 5 sv) (by rw [HPP.out]; omega) (grownCap wr sv.size 0 5) (by rw [HPP.out, ← hbs]; exact grownCap_ge _ _ _ _)
        rw [HPP.out, ← hbs] at this
        exact Kd.any this)
      have hss : sv.size ≤ 4096 := by omega
      have HBS := hid (below_bytes (Below.refl wr.heap.size wr) (Nat.le_refl _) 5 sv)
      clear hbs hX hE hP2 hp hx hrow1 hsv
      by_cases he : E = 0
      · have e1 : (E == (0 : Int)) = true := by rw [beq_iff_eq]; exact he
        have e2 : (E != (0 : Int)) = false := by rw [bne_eq_false_iff_eq]; exact he
        have HN := hid (show recsP l = ((rs ++ [X]) ++ (recsP (l.drop (k + 1))).1, (g + sizeR X) + (recsP (l.drop (k + 1))).2) by
          rw [HP.out, HP2.out, if_pos he]; simp; omega)
        obtain ⟨z, hz⟩ : ∃ z, z = sizeR X := ⟨_, rfl⟩
        rw [← hz] at HN hsb
        have HZ := hid hz
        have hw1 : IntKind.i64.wrap (g + z) = g + z := IntWalk.i64_in _ (by omega)
        clear he hz
        go_wp2_with fail
        refine (C1.out _ _ HKB.out).mono ?_
        rintro e' w3 ⟨A2, n2, c2, rfl, hk2, hb3⟩
        have B3 := hid (bThen HBS.out hb3)
        have HK2 := hid (show Kd.str.slice.K w3 (fun b => wr.heap.size ≤ b) X.needs [.slice A2 n2 c2] from Kd.mono _ (fun k hk _ => Nat.le_trans HBS.out.size hk) hk2)
        have B3a := hid (bAlloc B3.out (.cells #[.int .i64 X.kind, .int .i64 X.job, .int .i64 X.task, .int .i64 X.worker, .int .i64 X.sched, .int .i64 X.epoch, .slice A2 n2 c2] 46))
        have HK3 := hid (show Kd.str.slice.K (w3.alloc (.cells #[.int .i64 X.kind, .int .i64 X.job, .int .i64 X.task, .int .i64 X.worker, .int .i64 X.sched, .int .i64 X.epoch, .slice A2 n2 c2] 46)) (fun b => wr.heap.size ≤ b) X.needs [.slice A2 n2 c2] from Kd.below HK2.out (bAlloc (Below.refl _ _) _))
        have HO3 := hid (HO.out.below B3a.out)
        have s3 := B3.out.size
        clear hk2 hb3 hkb hxc
        go_wp2_with (at_builtin; go_must (refine append_arm Kd.recK (w0 := w3.alloc (.cells #[.int .i64 X.kind, .int .i64 X.job, .int .i64 X.task, .int .i64 X.worker, .int .i64 X.sched, .int .i64 X.epoch, .slice A2 n2 c2] 46)) (W := w3.alloc (.cells #[.int .i64 X.kind, .int .i64 X.job, .int .i64 X.task, .int .i64 X.worker, .int .i64 X.sched, .int .i64 X.epoch, .slice A2 n2 c2] 46)) w1.heap.size rfl _ _ 67 46 (.agg zRec) 72 rfl Tryz.underlying67 Tryz.infoRec rfl (by decide) (by decide) (.slice A n c) rs X [.int .i64 X.kind, .int .i64 X.job, .int .i64 X.task, .int .i64 X.worker, .int .i64 X.sched, .int .i64 X.epoch, .slice A2 n2 c2] (fun k => w1.heap.size ≤ k) (fun b => wr.heap.size ≤ b) rfl (by simp [Act.eval]) (rec_K HK3.out) (fun b h1 h2 => ⟨by omega, fun h3 => by have := (HO.out.lt b h3.symm).2; omega⟩) HO3.out (Below.refl _ _) (by simp; omega) (by omega) ?_))
        intro v5 w5 hO5 hb5 hg5 _
        obtain ⟨A5, n5, c5, rfl, hq1, hq2⟩ := hO5.shape'
        have hnb : ∀ q, wr.heap.size ≤ q → some q ≠ (Value.slice A n c).ownBlock := fun q hq h3 => by have := (HO.out.lt q h3.symm).2; omega
        obtain ⟨x0, x1, x2, x3, x4, x5, x6⟩ := rec_cells (x := X) ((hg5.block w3.heap.size (by simp) (hnb _ s3)).trans (heap_alloc_new w3 (.cells #[.int .i64 X.kind, .int .i64 X.job, .int .i64 X.task, .int .i64 X.worker, .int .i64 X.sched, .int .i64 X.epoch, .slice A2 n2 c2] 46)))
        have HK5 := hid (Kd.str.slice.move (w1 := w5) (fun q h1 h2 => hg5.block q h2 (hnb q h1)) HK3.out)
        have HO5 := hid hO5
        have B5 := hid (show Below w1.heap.size w1 w5 from HB1.out.trans ((B3a.out.mono hs2).trans hb5))
        have s5 := hb5.size
        clear hq1 hq2 hO5 hb5 hg5 hnb
        go_wp2_with fail
        refine (recSize_calls X A2 n2 c2 _ (Kd.any HK5.out)).mono ?_
        rintro e' w6 ⟨rfl, hb6⟩
        rw [← HZ.out]
        have HB6 := hid hb6
        clear hb6 x0 x1 x2 x3 x4 x5 x6
        go_wp2
        go_roundw
        case rel =>
          have B6 := B5.out.trans (HB6.out.mono B5.out.size)
          exact ⟨k + 1, rs ++ [X], g + z, A5, n5, c5, by omega, rfl, rfl, by go_num, by simp; omega, by omega, by omega, hid (HO5.out.below HB6.out), HN, hb1.trans (B6.mono hs1), hid B6⟩
        case measure => simp [intOf]; omega
      · have e1 : (E == (0 : Int)) = false := by rw [beq_eq_false_iff_ne]; exact he
        have e2 : (E != (0 : Int)) = true := by rw [bne_iff_ne]; exact he
        have HN := hid (show recsP l = (rs, g) by rw [HP.out, HP2.out, if_neg he]; simp)
        clear he
        go_wp2_with fail
        refine (C1.out _ _ HKB.out).mono ?_
        rintro e' w3 ⟨A2, n2, c2, rfl, hk2, hb3⟩
        have B3 := hid (bThen HBS.out hb3)
        have B3a := hid (bAlloc B3.out (.cells #[.int .i64 X.kind, .int .i64 X.job, .int .i64 X.task, .int .i64 X.worker, .int .i64 X.sched, .int .i64 X.epoch, .slice A2 n2 c2] 46))
        clear hk2 hb3 hkb hxc
        go_wp2
        (try rw [Exit.noGoto_ret])
        go_ret2
        have h1 := HR.out
        rw [HN.out] at h1
        injection h1 with h1 h2
        rw [← h1, ← h2]
        exact ⟨A, n, c, rfl, ((HO.out.below B3a.out).lower hs1).widen (fun b hb => Nat.le_trans hs1 hb), bThen hbw B3a.out⟩
    · obtain rfl : l.length = k := by omega
      have hgeI : ¬ (l.length : Int) < l.length := by omega
      have HN := hid (show recsP l = (rs, g) by rw [HP.out, List.drop_length]; simp [recsP])
      go_wp2
      (try rw [Exit.noGoto_ret])
      go_ret2
      have h1 := HR.out
      rw [HN.out] at h1
      injection h1 with h1 h2
      rw [← h1, ← h2]
      exact ⟨A, n, c, rfl, (HO.out.lower hs1).widen (fun b hb => Nat.le_trans hs1 hb), hbw⟩
end Go.Proofs.YtkjncmmombkllaaGreat
namespace Go.Proofs.YtkjncmmombkllaaGreat
open Go.RowKit

set_option maxHeartbeats 6400000 in
set_option maxRecDepth 100000 in
theorem rfRecords_calls (b : List UInt8) (w : World) (hl : b.length ≤ 1000000) :
    Calls Tryz.prog 49 #[.string (mkB b)] w fun en w' => ∃ A n c, en = .returned (.tuple #[.slice A n c, .int .i64 (recsS b).2]) ∧ Own Kd.recK 46 w' w.heap.size (fun k => w.heap.size ≤ k) (.slice A n c) (recsS b).1 ∧ Below w.heap.size w w' := by
  have s1 := mkB_size b
  have HXD := hid (fun k => mkB_extract b k b.length)
  obtain ⟨sv, hsv⟩ : ∃ sv, sv = mkB b := ⟨_, rfl⟩
  rw [← hsv] at s1 HXD ⊢
  clear hsv
  go_enter Tryz.func49, Tryz.ntmps49
  go_wp2_with fail
  go_loopw [4, 5] (fun o g wr => ∃ (k : Nat) (rs : List RecS) (A : Option Addr) (n c : Nat), k ≤ b.length ∧ o = .slice A n c ∧ g = .int .i64 k ∧ rs.length ≤ k ∧ Hid (Own Kd.recK 46 wr w.heap.size (fun k => w.heap.size ≤ k) (.slice A n c) rs) ∧ Hid (recsS b = (rs ++ (recsS (b.drop k)).1, k + (recsS (b.drop k)).2)) ∧ Below w.heap.size w wr) (fun _ g _ => b.length - (intOf g).toNat)
  case atStart => exact ⟨0, [], none, 0, 0, by omega, rfl, rfl, by simp, hid (Own.nil _ _ _ _ _), hid (by simp), Below.refl _ _⟩
  case round =>
    obtain ⟨k, rs, A, n, c, hk, rfl, rfl, hrl, HO, HA, hbw⟩ := hrel
    have hs2 := hbw.size
    by_cases hlt : k < b.length
    · have hdl : (b.drop k).length = b.length - k := List.length_drop
      have hxd := HXD.out k
      rw [List.take_of_length_le (by rw [hdl]; exact Nat.le_refl _)] at hxd
      have C1 := fun wr => rfCut_calls (b.drop k) wr (by omega)
      obtain ⟨q, hq⟩ : ∃ q, q = cutS (b.drop k) := ⟨_, rfl⟩
      have hcl := cutS_len (b.drop k)
      have hgo := fun h h2 => recsS_go (b := b.drop k) h h2
      have hst := fun h => recsS_stop (b := b.drop k) h
      have hok := fun h => cutS_ok (b := b.drop k) h
      unfold cutV at C1
      rw [← hq] at C1 hcl hgo hst hok
      rw [hdl] at hcl hok
      obtain ⟨p, u, e⟩ := q
      dsimp only at C1 hcl hgo hst hok
      have C2 := fun W => rfParse_calls p W (by omega)
      obtain ⟨X, hX⟩ : ∃ X, X = parseR p := ⟨_, rfl⟩
      obtain ⟨E, hE⟩ : ∃ E, E = parseE p := ⟨_, rfl⟩
      rw [← hX, ← hE] at C2
      rw [← hX, ← hE] at hgo
      rw [← hE] at hst
      rw [← hxd] at C1
      have C1 := hid C1
      have C2 := hid C2
      have HGO := hid hgo
      have HST := hid hst
      have HOK := hid hok
      have hkI : (k : Int) ≤ b.length := by omega
      have hltI : (k : Int) < b.length := by omega
      clear hq hgo hst hok hdl hX hE hxd
      by_cases hee : e = 0 ∧ E = 0
      · obtain ⟨he, hE⟩ := hee
        obtain ⟨o1, o2, o3⟩ := HOK.out he
        have HN := hid (show recsS b = ((rs ++ [X]) ++ (recsS (b.drop (k + u))).1, (k + u : Nat) + (recsS (b.drop (k + u))).2) by
          rw [HA.out, HGO.out he hE, List.drop_drop]; simp; omega)
        have hw1 : IntKind.i64.wrap ((k : Int) + u) = (k : Int) + u := IntWalk.i64_in _ (by omega)
        subst he
        subst hE
        go_wp2_with fail
        refine (C1.out _).mono ?_
        rintro e' w2 ⟨rfl, hb2⟩
        have B2 := hid hb2
        clear hb2
        go_wp2_with fail
        refine (C2.out _).mono ?_
        rintro e' w3 ⟨A2, n2, c2, rfl, hk2, hb3⟩
        have B3 := hid (bThen B2.out hb3)
        have HK2 := hid (show Kd.str.slice.K w3 (fun b => wr.heap.size ≤ b) X.needs [.slice A2 n2 c2] from Kd.mono _ (fun k hk _ => Nat.le_trans B2.out.size hk) hk2)
        have B3a := hid (bAlloc B3.out (.cells #[.int .i64 X.kind, .int .i64 X.job, .int .i64 X.task, .int .i64 X.worker, .int .i64 X.sched, .int .i64 X.epoch, .slice A2 n2 c2] 46))
        have HK3 := hid (show Kd.str.slice.K (w3.alloc (.cells #[.int .i64 X.kind, .int .i64 X.job, .int .i64 X.task, .int .i64 X.worker, .int .i64 X.sched, .int .i64 X.epoch, .slice A2 n2 c2] 46)) (fun b => wr.heap.size ≤ b) X.needs [.slice A2 n2 c2] from Kd.below HK2.out (bAlloc (Below.refl _ _) _))
        have HO3 := hid (HO.out.below B3a.out)
        have s3 := B3.out.size
        clear hk2 hb3
        go_wp2_with (at_builtin; go_must (refine append_arm Kd.recK (w0 := w3.alloc (.cells #[.int .i64 X.kind, .int .i64 X.job, .int .i64 X.task, .int .i64 X.worker, .int .i64 X.sched, .int .i64 X.epoch, .slice A2 n2 c2] 46)) (W := w3.alloc (.cells #[.int .i64 X.kind, .int .i64 X.job, .int .i64 X.task, .int .i64 X.worker, .int .i64 X.sched, .int .i64 X.epoch, .slice A2 n2 c2] 46)) w.heap.size rfl _ _ 67 46 (.agg zRec) 72 rfl Tryz.underlying67 Tryz.infoRec rfl (by decide) (by decide) (.slice A n c) rs X [.int .i64 X.kind, .int .i64 X.job, .int .i64 X.task, .int .i64 X.worker, .int .i64 X.sched, .int .i64 X.epoch, .slice A2 n2 c2] (fun k => w.heap.size ≤ k) (fun b => wr.heap.size ≤ b) rfl (by simp [Act.eval]) (rec_K HK3.out) (fun b h1 h2 => ⟨by omega, fun h3 => by have := (HO.out.lt b h3.symm).2; omega⟩) HO3.out (Below.refl _ _) (by simp; omega) (by omega) ?_))
        intro v5 w5 hO5 hb5 hg5 _
        obtain ⟨A5, n5, c5, rfl, hq1, hq2⟩ := hO5.shape'
        have HO5 := hid hO5
        have B5 := hid (show Below w.heap.size w w5 from hbw.trans ((B3a.out.mono hs2).trans hb5))
        clear hq1 hq2 hO5 hb5 hg5
        go_wp2
        go_roundw
        case rel => exact ⟨k + u, rs ++ [X], A5, n5, c5, by omega, rfl, congrArg (Value.int .i64) (by omega), by simp; omega, HO5, HN, B5.out⟩
        case measure => simp [intOf]; omega
      · have HN := hid (show recsS b = (rs, k) by rw [HA.out, HST.out hee]; simp)
        have hx : (e == (0 : Int)) = true ∧ (e != (0 : Int)) = false ∧ (E != (0 : Int)) = true ∧ (E == (0 : Int)) = false ∨ (e == (0 : Int)) = false ∧ (e != (0 : Int)) = true := by
          by_cases he : e = 0
          · exact .inl ⟨by rw [beq_iff_eq]; exact he, by rw [bne_eq_false_iff_eq]; exact he, by rw [bne_iff_ne]; exact fun h => hee ⟨he, h⟩, by rw [beq_eq_false_iff_ne]; exact fun h => hee ⟨he, h⟩⟩
          · exact .inr ⟨by rw [beq_eq_false_iff_ne]; exact he, by rw [bne_iff_ne]; exact he⟩
        clear hee
        rcases hx with ⟨e1, e2, e3, e4⟩ | ⟨e1, e2⟩
        all_goals
          go_wp2_with fail
          refine (C1.out _).mono ?_
          rintro e' w2 ⟨rfl, hb2⟩
          have B2 := hid hb2
          clear hb2
          go_wp2_with fail
          refine (C2.out _).mono ?_
          rintro e' w3 ⟨A2, n2, c2, rfl, hk2, hb3⟩
          have B3a := hid (bAlloc (bThen B2.out hb3) (.cells #[.int .i64 X.kind, .int .i64 X.job, .int .i64 X.task, .int .i64 X.worker, .int .i64 X.sched, .int .i64 X.epoch, .slice A2 n2 c2] 46))
          clear hk2 hb3
          go_wp2
          go_ret2
          rw [HN.out]
          exact ⟨A, n, c, rfl, HO.out.below B3a.out, bThen hbw B3a.out⟩
    · obtain rfl : b.length = k := by omega
      have HN := hid (show recsS b = (rs, b.length) by
        rw [HA.out, List.drop_length, recsS_stop (fun h => cutS_nil h.1)]; simp)
      have hgeI : ¬ (b.length : Int) < b.length := by omega
      go_wp2
      go_ret2
      rw [HN.out]
      exact ⟨A, n, c, rfl, HO.out, hbw⟩
end Go.Proofs.YtkjncmmombkllaaGreat
namespace Go.Proofs.YtkjncmmombkllaaGreat
open Go.RowKit Go.Lib

/-- The cells of a record in its row. -/
theorem at_rec {w : World} {S : Nat → Prop} {A : Option Addr} {xs : List RecS} (h : Kd.recK.Row w S A xs) (i : Nat) (hi : i < xs.length) :
    ∃ a x B n c, A = some a ∧ xs[i]? = some x ∧ w.cell? (a.add (i * 7)) = some (.int .i64 x.kind) ∧ w.cell? ⟨(a.add (i * 7)).block, (a.add (i * 7)).off + 1, none⟩ = some (.int .i64 x.job) ∧ w.cell? ⟨(a.add (i * 7)).block, (a.add (i * 7)).off + 2, none⟩ = some (.int .i64 x.task) ∧
      w.cell? ⟨(a.add (i * 7)).block, (a.add (i * 7)).off + 3, none⟩ = some (.int .i64 x.worker) ∧ w.cell? ⟨(a.add (i * 7)).block, (a.add (i * 7)).off + 4, none⟩ = some (.int .i64 x.sched) ∧ w.cell? ⟨(a.add (i * 7)).block, (a.add (i * 7)).off + 5, none⟩ = some (.int .i64 x.epoch) ∧
      w.cell? ⟨(a.add (i * 7)).block, (a.add (i * 7)).off + 6, none⟩ = some (.slice B n c) ∧ Kd.str.slice.K w S x.needs [.slice B n c] := by
  obtain ⟨a, cs, rfl, _, _, h1, h2⟩ := h i xs[i] (List.getElem?_eq_getElem hi)
  obtain ⟨B, n, c, h3, h4⟩ := rec_open (cs := cs.toArray) (by simpa using h1)
  have h5 : cs = [.int .i64 (xs[i]).kind, .int .i64 (xs[i]).job, .int .i64 (xs[i]).task, .int .i64 (xs[i]).worker, .int .i64 (xs[i]).sched, .int .i64 (xs[i]).epoch, .slice B n c] := by
    have := congrArg Array.toList h3
    simpa using this
  subst h5
  exact ⟨a, _, B, n, c, rfl, List.getElem?_eq_getElem hi, h2 0 _ rfl, by rw [← Kd.add_lit _ 1 (by decide), Kd.add_add]; exact h2 1 _ rfl, by rw [← Kd.add_lit _ 2 (by decide), Kd.add_add]; exact h2 2 _ rfl, by rw [← Kd.add_lit _ 3 (by decide), Kd.add_add]; exact h2 3 _ rfl,
    by rw [← Kd.add_lit _ 4 (by decide), Kd.add_add]; exact h2 4 _ rfl, by rw [← Kd.add_lit _ 5 (by decide), Kd.add_add]; exact h2 5 _ rfl, by rw [← Kd.add_lit _ 6 (by decide), Kd.add_add]; exact h2 6 _ rfl, h4⟩
theorem cell_lt {w : World} {p : Addr} {v : Value} (h : w.cell? p = some v) : p.block < w.heap.size := by
  rcases Nat.lt_or_ge p.block w.heap.size with h1 | h1
  · exact h1
  · simp [World.cell?, Array.getElem?_eq_none h1] at h
theorem bytesS_len (l : List RecS) : (bytesS l).length ≤ 4012 * l.length := by
  induction l with
  | nil => simp [bytesS]
  | cons x l ih =>
    have h1 := recL_len (x := x)
    have h2 := putL_len (l := recL x) (by omega)
    have hb : bytesS (x :: l) = (if recOk x then putL (recL x) else []) ++ bytesS l := by unfold bytesS; rw [List.flatMap_cons]
    rw [hb, List.length_append, List.length_cons]
    split
    · omega
    · simp; omega
theorem bytesS_snoc (l : List RecS) (x : RecS) : bytesS (l ++ [x]) = bytesS l ++ (if recOk x then putL (recL x) else []) := by unfold bytesS; simp

set_option maxHeartbeats 6400000 in
set_option maxRecDepth 100000 in
theorem scBytes_calls (l : List RecS) (v : Value) (w : World) (hb : Kd.recK.slice.K w Any l [v]) (hl : l.length ≤ 100000) :
    Calls Tryz.prog 58 #[v] w fun en w' => ∃ A n c, en = .returned (.slice A n c) ∧ Own Kd.u8 5 w' w.heap.size NoT (.slice A n c) (bytesS l) ∧ Below w.heap.size w w' := by
  obtain ⟨B, d, he, hd1, hd2, hr⟩ := hb
  cases he
  have HR := hid hr
  clear hr
  go_enter Tryz.func58, Tryz.ntmps58
  go_wp2_with fail
  go_loopw [3, 8] (fun o i wr => ∃ (k : Nat) (A : Option Addr) (n c : Nat), k ≤ l.length ∧ o = .slice A n c ∧ i = .int .i64 k ∧ Hid (Own Kd.u8 5 wr w.heap.size NoT (.slice A n c) (bytesS (l.take k))) ∧ Below w.heap.size w wr) (fun _ i _ => l.length - (intOf i).toNat)
  case atStart => exact ⟨0, none, 0, 0, by omega, rfl, rfl, hid (Own.nil _ _ _ _ _), Below.refl _ _⟩
  case round =>
    obtain ⟨k, A, n, c, hk, rfl, rfl, HO, hbw⟩ := hrel
    have hs2 := hbw.size
    by_cases hlt : k < l.length
    · obtain ⟨a, x, B1, n1, c1, rfl, hx, y0, y1, y2, y3, y4, y5, y6, hK⟩ := at_rec (HR.out.below hbw) k hlt
      have HT := hid (show l.take (k + 1) = l.take k ++ [x] from take_snoc hx)
      have HK := hid (show Kd.str.slice.K wr Any x.needs [.slice B1 n1 c1] from hK)
      have hltI : (k : Int) < l.length := by omega
      have HBL := hid (show (bytesS (l.take k)).length ≤ 1000000000 by
        have := bytesS_len (l.take k)
        rw [List.length_take] at this
        omega)
      clear hx hK
      cases hok : recOk x
      · have HN := hid (show bytesS (l.take (k + 1)) = bytesS (l.take k) by rw [HT.out, bytesS_snoc, hok]; simp)
        go_wp2_with fail
        refine (recCheck_calls x B1 n1 c1 _ (Kd.below HK.out (bAlloc (Below.refl _ _) _))).mono ?_
        rintro e w2 ⟨rfl, hb2⟩
        rw [hok]
        have B2 := hid (bThen (bAlloc (Below.refl wr.heap.size wr) (.cells #[.int .i64 x.kind, .int .i64 x.job, .int .i64 x.task, .int .i64 x.worker, .int .i64 x.sched, .int .i64 x.epoch, .slice B1 n1 c1] 46)) hb2)
        clear hb2 y0 y1 y2 y3 y4 y5 y6
        go_wp2
        go_roundw
        case rel => exact ⟨k + 1, A, n, c, by omega, rfl, by go_num, hid (by rw [HN.out]; exact HO.out.below B2.out), bThen hbw B2.out⟩
        case measure => simp [intOf]; omega
      · have HN := hid (show bytesS (l.take (k + 1)) = bytesS (l.take k) ++ putL (recL x) by rw [HT.out, bytesS_snoc, hok]; simp)
        have HRL := hid (recL_len (x := x))
        go_wp2_with fail
        refine (recCheck_calls x B1 n1 c1 _ (Kd.below HK.out (bAlloc (Below.refl _ _) _))).mono ?_
        rintro e w2 ⟨rfl, hb2⟩
        rw [hok]
        have B2 := hid (bThen (bAlloc (Below.refl wr.heap.size wr) (.cells #[.int .i64 x.kind, .int .i64 x.job, .int .i64 x.task, .int .i64 x.worker, .int .i64 x.sched, .int .i64 x.epoch, .slice B1 n1 c1] 46)) hb2)
        obtain ⟨x0, x1, x2, x3, x4, x5, x6⟩ := rec_cells (x := x) ((hb2.block wr.heap.size (by simp)).trans (heap_alloc_new wr (.cells #[.int .i64 x.kind, .int .i64 x.job, .int .i64 x.task, .int .i64 x.worker, .int .i64 x.sched, .int .i64 x.epoch, .slice B1 n1 c1] 46)))
        clear hb2 y0 y1 y2 y3 y4 y5 y6
        go_wp2_with fail
        refine (recBytes_calls x B1 n1 c1 _ (Kd.below HK.out B2.out)).mono ?_
        rintro e w3 ⟨A3, m3, c3, rfl, hO3, hb3⟩
        have hcv := conv_u8 (Kd.any (Own.K hO3))
        have B3 := hid (bThen B2.out hb3)
        have HMK := hid (show (⟨(recL x).toArray⟩ : ByteArray).data.toList = recL x by simp)
        obtain ⟨s, hs⟩ : ∃ s : ByteArray, s = ⟨(recL x).toArray⟩ := ⟨_, rfl⟩
        rw [← hs] at hcv HMK
        clear hO3 hb3 x0 x1 x2 x3 x4 x5 x6 hs
        go_wp2_with fail
        refine (frPut_calls (bytesS (l.take k)) _ s _ (Kd.any (Own.K (HO.out.below B3.out))) HBL.out).mono ?_
        rintro e w4 ⟨A4, m4, c4, rfl, hO4, hb4⟩
        rw [HMK.out] at hO4
        have HO4 := hid hO4
        have B4 := hid (bThen B3.out hb4)
        have S3 := B3.out.size
        clear hO4 hb4 hcv
        go_wp2
        go_roundw
        case rel => exact ⟨k + 1, A4, m4, c4, by omega, rfl, by go_num, hid (by rw [HN.out]; exact HO4.out.lower (by omega)), bThen hbw B4.out⟩
        case measure => simp [intOf]; omega
    · obtain rfl : l.length = k := by omega
      have hgeI : ¬ (l.length : Int) < l.length := by omega
      have HN := hid (show bytesS (l.take l.length) = bytesS l by rw [List.take_length])
      go_wp2
      go_ret
      exact ⟨A, n, c, rfl, by rw [← HN.out]; exact HO.out, hbw⟩

end Go.Proofs.YtkjncmmombkllaaGreat
namespace Go.Proofs.YtkjncmmombkllaaGreat
open Go.RowKit Go.Lib

def rW2 : RecS := ⟨3, 5, 3, 0, 0, 0, []⟩
theorem bW_len : (bytesS [recW, rW2]).length = 16 := by decide +kernel
theorem bW_rec : recsS ((bytesS [recW, rW2]).take 12) = ([recW], 8) := by decide +kernel
def cW : List Value := [.int .i64 3, .int .i64 5, .int .i64 2, .int .i64 0, .int .i64 0, .int .i64 0, .slice none 0 0]
def cW2 : List Value := [.int .i64 3, .int .i64 5, .int .i64 3, .int .i64 0, .int .i64 0, .int .i64 0, .slice none 0 0]
theorem head_own {α : Type} {d : Kd α} {e : TypeId} {w : World} {base : Nat} {T : Nat → Prop} {A : Option Addr} {n c : Nat} {xs : List α} (h : Own d e w base T (.slice A n c) xs) (hn : 0 < xs.length) : ∃ b, A = some ⟨b, 0, none⟩ ∧ b < w.heap.size := by
  obtain ⟨_, cells, h1, _⟩ := h
  rcases h1.2 with ⟨h3, h4⟩ | ⟨g, cap, cur, h3, _, h5, _⟩
  · omega
  · injection h3 with h3
    exact ⟨g, h3, (Array.getElem?_eq_some_iff.1 h5).1⟩
theorem nilK (w : World) (S : Nat → Prop) : Kd.str.slice.K w S [] [.slice none 0 0] := ⟨none, 0, rfl, by simp, by simp, Kd.Row.nil⟩
theorem rowW (w : World) : Kd.recK.slice.K (w.alloc (.cells #[.int .i64 3, .int .i64 5, .int .i64 2, .int .i64 0, .int .i64 0, .int .i64 0, .slice none 0 0, .int .i64 3, .int .i64 5, .int .i64 3, .int .i64 0, .int .i64 0, .int .i64 0, .slice none 0 0] 46)) Any [recW, rW2] [.slice (some ⟨w.heap.size, 0, none⟩) 2 2] := by
  refine ⟨some ⟨w.heap.size, 0, none⟩, 2, rfl, by simp, by simp, fun i x hx => ?_⟩
  have hn := World.news_of_block (heap_alloc_new w (.cells #[.int .i64 3, .int .i64 5, .int .i64 2, .int .i64 0, .int .i64 0, .int .i64 0, .slice none 0 0, .int .i64 3, .int .i64 5, .int .i64 3, .int .i64 0, .int .i64 0, .int .i64 0, .slice none 0 0] 46))
  match i, hx with
  | 0, hx =>
    obtain rfl : recW = x := by simpa using hx
    refine ⟨⟨w.heap.size, 0, none⟩, cW, rfl, trivial, by simp, rec_K (x := recW) (nilK _ _), fun j u hu => ?_⟩
    have hj : j < 7 := (List.getElem?_eq_some_iff.1 hu).1
    refine hn (0 * 7 + j) u ?_
    match j, hj, hu with
    | 0, _, hu => exact hu
    | 1, _, hu => exact hu
    | 2, _, hu => exact hu
    | 3, _, hu => exact hu
    | 4, _, hu => exact hu
    | 5, _, hu => exact hu
    | 6, _, hu => exact hu
  | 1, hx =>
    obtain rfl : rW2 = x := by simpa using hx
    refine ⟨⟨w.heap.size, 0, none⟩, cW2, rfl, trivial, by simp, rec_K (x := rW2) (nilK _ _), fun j u hu => ?_⟩
    have hj : j < 7 := (List.getElem?_eq_some_iff.1 hu).1
    refine hn (1 * 7 + j) u ?_
    match j, hj, hu with
    | 0, _, hu => exact hu
    | 1, _, hu => exact hu
    | 2, _, hu => exact hu
    | 3, _, hu => exact hu
    | 4, _, hu => exact hu
    | 5, _, hu => exact hu
    | 6, _, hu => exact hu

def long18 (l : List RecS) (most : Int) : Bool := l.any (fun x => longB x.needs 20 300) || decide (most < l.length)
end Go.Proofs.YtkjncmmombkllaaGreat
