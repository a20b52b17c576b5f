import Derived.Test.YtkjncmmombkllaaGreatBase
import Derived.Test.YtkjncmmombkllaaGreatAt8N
import Derived.Test.YtkjncmmombkllaaGreatOctet
import Derived.Handy
import Derived.Test.YtkjncmmombkllaaGreatR01
import Derived.OwnWalk
/- Reading numbers and texts of bytes: plain. -/
namespace Go.Proofs.YtkjncmmombkllaaGreat
open Go.RowKit

def valN (l : List UInt8) : Nat := l.foldl (fun a x => a * 256 + x.toNat) 0
theorem valN_snoc (l : List UInt8) (x : UInt8) : valN (l ++ [x]) = valN l * 256 + x.toNat := by simp [valN]
theorem fold_val_lt (l : List UInt8) : ∀ a : Nat, l.foldl (fun a x => a * 256 + x.toNat) a < (a + 1) * 256 ^ l.length := by
  induction l with
  | nil => intro a; simp
  | cons x l ih =>
    intro a
    have h1 := ih (a * 256 + x.toNat)
    have h2 := x.toNat_lt
    rw [List.foldl_cons, List.length_cons, Nat.pow_succ]
    have h3 : (a * 256 + x.toNat + 1) * 256 ^ l.length ≤ ((a + 1) * 256) * 256 ^ l.length := Nat.mul_le_mul_right _ (by omega)
    have h4 : (a + 1) * (256 ^ l.length * 256) = ((a + 1) * 256) * 256 ^ l.length := by rw [Nat.mul_assoc, Nat.mul_comm 256]
    rw [h4]; omega
theorem valN_lt (l : List UInt8) : valN l < 256 ^ l.length := by
  have := fold_val_lt l 0
  rwa [Nat.zero_add, Nat.one_mul] at this

/-- The next number: what is wrong (0: nothing), the number, how many bytes it has. -/
def nextN (b : List UInt8) (most : Int) : Int × Nat × Nat :=
  match b with
  | [] => (2, 0, 0)
  | x :: r =>
    if x.toNat < 248 then (if max most 0 < x.toNat then (4, 0, 0) else (0, x.toNat, 1))
    else if x.toNat = 255 then (3, 0, 0)
    else if r.length < x.toNat - 247 then (2, 0, 0)
    else if valN (r.take (x.toNat - 247)) < 248 ∨ width (valN (r.take (x.toNat - 247))) ≠ x.toNat - 247 then (3, 0, 0)
    else if max most 0 < valN (r.take (x.toNat - 247)) then (4, 0, 0)
    else (0, valN (r.take (x.toNat - 247)), x.toNat - 247 + 1)
structure RdS where
  b : List UInt8
  e : Int
def RdS.fail (R : RdS) (e : Int) : RdS := if R.e = 0 then ⟨R.b, e⟩ else R
def RdS.num (R : RdS) (most : Int) : Int × RdS :=
  if R.e ≠ 0 then (0, R) else if (nextN R.b most).1 ≠ 0 then (0, ⟨R.b, (nextN R.b most).1⟩) else ((nextN R.b most).2.1, ⟨R.b.drop (nextN R.b most).2.2, 0⟩)
def RdS.text (R : RdS) (most : Int) : List UInt8 × RdS :=
  if R.e ≠ 0 then ([], R) else if (nextN R.b most).1 ≠ 0 then ([], ⟨R.b, (nextN R.b most).1⟩)
  else if R.b.length < (nextN R.b most).2.2 + (nextN R.b most).2.1 then ([], ⟨R.b, 2⟩)
  else ((R.b.drop (nextN R.b most).2.2).take (nextN R.b most).2.1, ⟨R.b.drop ((nextN R.b most).2.2 + (nextN R.b most).2.1), 0⟩)
def RdS.fin (R : RdS) : Int := if R.e ≠ 0 then R.e else if 0 < R.b.length then 3 else 0

theorem nextN_ok {b : List UInt8} {most : Int} (h : (nextN b most).1 = 0) : 1 ≤ (nextN b most).2.2 ∧ (nextN b most).2.2 ≤ b.length ∧ (nextN b most).2.1 ≤ max most 0 ∧ (nextN b most).2.1 ≤ 72057594037927935 ∧ (nextN b most).2.2 ≤ 8 := by
  unfold nextN at h ⊢
  cases b with
  | nil => simp at h
  | cons x r =>
    have hx := x.toNat_lt
    simp only at h ⊢
    split at h
    · rename_i h1
      split at h
      · simp at h
      · rename_i h2
        rw [if_pos h1, if_neg h2]
        simp; omega
    · rename_i h1
      split at h
      · simp at h
      · rename_i h2
        split at h
        · simp at h
        · rename_i h3
          split at h
          · simp at h
          · rename_i h4
            split at h
            · simp at h
            · rename_i h5
              rw [if_neg h1, if_neg h2, if_neg h3, if_neg h4, if_neg h5]
              have h6 := valN_lt (r.take (x.toNat - 247))
              have h7 : (r.take (x.toNat - 247)).length ≤ 7 := by rw [List.length_take]; omega
              have h8 : 256 ^ (r.take (x.toNat - 247)).length ≤ 256 ^ 7 := Nat.pow_le_pow_right (by decide) h7
              simp only [List.length_cons]
              refine ⟨by omega, by omega, by omega, by omega, by omega⟩

theorem or_add {n x : Nat} (hn : n < 281474976710656) (hx : x < 256) : bits .or .i64 ((n : Int) * 256) (x : Int) = ((n * 256 + x : Nat) : Int) := by
  have h := (bits_nat .i64 62 (by decide) (fun n h0 h1 => by rw [IntKind.wrap_i64]; omega) (n * 256) x (by omega) (by omega)).2
  rw [show ((n * 256 : Nat) : Int) = (n : Int) * 256 by simp] at h
  rw [h]
  congr 1
  rw [Nat.mul_comm]
  exact (Nat.two_pow_add_eq_or_of_lt (i := 8) (by omega) n).symm
end Go.Proofs.YtkjncmmombkllaaGreat
/- A number's bytes are read as the number, and nothing else is: plain. -/
namespace Go.Proofs.YtkjncmmombkllaaGreat
open Go.RowKit

theorem be_val (n : Nat) : ∀ w, valN (be n w) = n % 256 ^ w
  | 0 => by simp [be, valN, Nat.mod_one]
  | w + 1 => by
    have h : ∀ (l : List UInt8) (a : Nat), l.foldl (fun a x => a * 256 + x.toNat) a = a * 256 ^ l.length + valN l := by
      intro l
      induction l with
      | nil => intro a; simp [valN]
      | cons x l ih =>
        intro a
        have h1 := ih (a * 256 + x.toNat)
        have h2 := ih (0 * 256 + x.toNat)
        unfold valN
        simp only [List.foldl_cons, List.length_cons, Nat.pow_succ]
        rw [h1, h2, Nat.add_mul, Nat.mul_assoc, Nat.mul_comm 256]
        simp; omega
    show (UInt8.ofNat (n / 256 ^ w) :: be n w).foldl (fun a x => a * 256 + x.toNat) 0 = _
    have e : n % 256 ^ (w + 1) = n % 256 ^ w + 256 ^ w * (n / 256 ^ w % 256) := by rw [Nat.pow_succ, Nat.mod_mul]
    rw [List.foldl_cons, h, be_len, be_val n w, UInt8.toNat_ofNat', e]
    show (0 * 256 + n / 256 ^ w % 256) * 256 ^ w + n % 256 ^ w = _
    generalize n / 256 ^ w % 256 = q
    rw [Nat.zero_mul, Nat.zero_add, Nat.mul_comm, Nat.add_comm]
theorem be_of_val : ∀ (l : List UInt8), be (valN l) l.length = l := by
  intro l
  have key : ∀ (l : List UInt8) (a : Nat), be (a * 256 ^ l.length + valN l) l.length = l := by
    intro l
    induction l with
    | nil => intro a; rfl
    | cons x l ih =>
      intro a
      have hv : valN (x :: l) = x.toNat * 256 ^ l.length + valN l := by
        have h : ∀ (l : List UInt8) (a : Nat), l.foldl (fun a x => a * 256 + x.toNat) a = a * 256 ^ l.length + valN l := by
          intro l
          induction l with
          | nil => intro a; simp [valN]
          | cons x l ih =>
            intro a
            have h1 := ih (a * 256 + x.toNat)
            have h2 := ih (0 * 256 + x.toNat)
            unfold valN
            simp only [List.foldl_cons, List.length_cons, Nat.pow_succ]
            rw [h1, h2, Nat.add_mul, Nat.mul_assoc, Nat.mul_comm 256]
            simp; omega
        show (x :: l).foldl (fun a x => a * 256 + x.toNat) 0 = _
        rw [List.foldl_cons, h]; simp
      have hl := valN_lt l
      have hx := x.toNat_lt
      have e1 : a * 256 ^ (x :: l).length + valN (x :: l) = (a * 256 + x.toNat) * 256 ^ l.length + valN l := by
        rw [hv, List.length_cons, Nat.pow_succ, Nat.add_mul, Nat.mul_assoc, Nat.mul_comm 256]; omega
      rw [e1]
      show UInt8.ofNat (((a * 256 + x.toNat) * 256 ^ l.length + valN l) / 256 ^ l.length) :: be _ l.length = _
      have hp : 0 < 256 ^ l.length := Nat.pow_pos (by decide)
      rw [ih, show ((a * 256 + x.toNat) * 256 ^ l.length + valN l) / 256 ^ l.length = a * 256 + x.toNat by
        rw [Nat.mul_comm, Nat.mul_add_div hp, Nat.div_eq_of_lt hl, Nat.add_zero]]
      rw [List.cons.injEq]
      refine ⟨?_, rfl⟩
      apply UInt8.toNat.inj
      rw [UInt8.toNat_ofNat']
      omega
  have := key l 0
  rwa [Nat.zero_mul, Nat.zero_add] at this

/-- A number's bytes, and anything behind them. -/
theorem nextN_numL {n : Nat} (hn : n ≤ maxNum) (r : List UInt8) (most : Int) : nextN (numL n ++ r) most = if max most 0 < n then (4, 0, 0) else (0, n, (numL n).length) := by
  have hw := width_le hn
  have hW := width_is hn
  unfold numL
  by_cases h : n < 248
  · rw [if_pos h]
    have hx : (UInt8.ofNat n).toNat = n := by rw [UInt8.toNat_ofNat']; omega
    show nextN (UInt8.ofNat n :: r) most = _
    unfold nextN
    simp only [hx]
    rw [if_pos h]
    rfl
  · rw [if_neg h]
    have hw1 := hW.1
    have hx : (UInt8.ofNat (247 + width n)).toNat = 247 + width n := by rw [UInt8.toNat_ofNat']; omega
    show nextN (UInt8.ofNat (247 + width n) :: (be n (width n) ++ r)) most = _
    unfold nextN
    simp only [hx]
    rw [if_neg (by omega), if_neg (by omega), Nat.add_sub_cancel_left, if_neg (by rw [List.length_append, be_len]; omega)]
    have ht : (be n (width n) ++ r).take (width n) = be n (width n) := by rw [List.take_append_of_le_length (by rw [be_len]; exact Nat.le_refl _), List.take_of_length_le (by rw [be_len]; exact Nat.le_refl _)]
    have hv : valN (be n (width n)) = n := by
      rw [be_val, Nat.mod_eq_of_lt]
      exact Nat.lt_of_div_eq_zero (Nat.pow_pos (by decide)) hW.2.1
    rw [ht, hv, if_neg (by simp; omega)]
    simp [be_len]

/-- What is read as a number is its bytes. -/
theorem nextN_canon {b : List UInt8} {most : Int} (h : (nextN b most).1 = 0) : b.take (nextN b most).2.2 = numL (nextN b most).2.1 := by
  unfold nextN at h ⊢
  cases b with
  | nil => simp at h
  | cons x r =>
    have hx := x.toNat_lt
    simp only at h ⊢
    split at h
    · rename_i h1
      split at h
      · simp at h
      · rename_i h2
        rw [if_pos h1, if_neg h2]
        simp [numL, h1]
    · rename_i h1
      split at h
      · simp at h
      · rename_i h2
        split at h
        · simp at h
        · rename_i h3
          split at h
          · simp at h
          · rename_i h4
            split at h
            · simp at h
            · rename_i h5
              rw [if_neg h1, if_neg h2, if_neg h3, if_neg h4, if_neg h5]
              simp only
              have h6 : ¬ valN (r.take (x.toNat - 247)) < 248 := fun h => h4 (.inl h)
              have h7 : width (valN (r.take (x.toNat - 247))) = x.toNat - 247 := Classical.byContradiction fun h => h4 (.inr h)
              have hl : (r.take (x.toNat - 247)).length = x.toNat - 247 := by rw [List.length_take]; omega
              unfold numL
              rw [if_neg h6, h7, List.take_succ_cons, List.cons.injEq]
              refine ⟨?_, ?_⟩
              · apply UInt8.toNat.inj
                rw [UInt8.toNat_ofNat']
                omega
              · have := be_of_val (r.take (x.toNat - 247))
                rw [hl] at this
                exact this.symm
end Go.Proofs.YtkjncmmombkllaaGreat
namespace Go.Proofs.YtkjncmmombkllaaGreat
open Go.RowKit

/-- A reader in block g; its bytes lie elsewhere in T. -/
def RdAt (w : World) (T : Nat → Prop) (g : Nat) (R : RdS) : Prop :=
  T g ∧ ∃ A c, w.heap[g]? = some (.cells #[.slice A R.b.length c, .int .i64 R.e, .bool true] 152 (0, 0)) ∧ R.b.length ≤ c ∧ R.b.length ≤ 1000000 ∧ Kd.u8.Row w (fun k => T k ∧ k ≠ g) A R.b
section
variable {w w1 : World} {T T' : Nat → Prop} {g : Nat} {R : RdS}
theorem RdAt.mono (h : RdAt w T g R) (hT : ∀ k, k < w.heap.size → T k → T' k) : RdAt w T' g R := by
  obtain ⟨h1, A, c, h2, h3, h4, h5⟩ := h
  exact ⟨hT g (Array.getElem?_eq_some_iff.1 h2).1 h1, A, c, h2, h3, h4, Kd.Row.mono (fun b hb hl => ⟨hT b hl hb.1, hb.2⟩) h5⟩
theorem RdAt.move (h : RdAt w T g R) (hm : ∀ k, k < w.heap.size → T k → w1.heap[k]? = w.heap[k]?) : RdAt w1 T g R := by
  obtain ⟨h1, A, c, h2, h3, h4, h5⟩ := h
  exact ⟨h1, A, c, (hm g (Array.getElem?_eq_some_iff.1 h2).1 h1).trans h2, h3, h4, Kd.Row.move (fun b hb hl => hm b hl hb.1) h5⟩
theorem RdAt.below (h : RdAt w T g R) (hb : Below w.heap.size w w1) : RdAt w1 T g R := h.move (fun k hk _ => hb.block k hk)
theorem RdAt.cells (h : RdAt w T g R) : T g ∧ g < w.heap.size ∧ ∃ A c, R.b.length ≤ c ∧ R.b.length ≤ 1000000 ∧ w.cell? ⟨g, 0, none⟩ = some (.slice A R.b.length c) ∧ w.cell? ⟨g, 1, none⟩ = some (.int .i64 R.e) ∧
    w.frozen? ⟨g, 0, none⟩ = false ∧ w.frozen? ⟨g, 1, none⟩ = false ∧ Hid (w.heap[g]? = some (.cells #[.slice A R.b.length c, .int .i64 R.e, .bool true] 152 (0, 0))) ∧ Hid (Kd.u8.Row w (fun k => T k ∧ k ≠ g) A R.b) := by
  obtain ⟨h1, A, c, h2, h3, h4, h5⟩ := h
  obtain ⟨q1, q2, q3⟩ := cells_of_block h2
  exact ⟨h1, q3, A, c, h3, h4, q1 0 _ rfl, q1 1 _ rfl, q2 0, q2 1, h2, h5⟩
theorem RdAt.setE (h : RdAt w T g R) (e : Int) : RdAt (w.setCell ⟨g, 1, none⟩ (.int .i64 e)) T g ⟨R.b, e⟩ := by
  obtain ⟨h1, A, c, h2, h3, h4, h5⟩ := h
  exact ⟨h1, A, c, heap_set h2 1 _, h3, h4, Kd.Row.move (fun b hb _ => Below.heap_setCell w ⟨g, 1, none⟩ _ b hb.2) h5⟩
theorem RdAt.setB (h : RdAt w T g R) {b' : List UInt8} {A' : Option Addr} {n' c' : Nat} (hn : n' = b'.length) (hc : b'.length ≤ c') (hm : b'.length ≤ 1000000) (hr : Kd.u8.Row w (fun k => T k ∧ k ≠ g) A' b') : RdAt (w.setCell ⟨g, 0, none⟩ (.slice A' n' c')) T g ⟨b', R.e⟩ := by
  obtain ⟨h1, A, c, h2, h3, h4, h5⟩ := h
  subst hn
  exact ⟨h1, A', c', heap_set h2 0 _, hc, hm, Kd.Row.move (fun b hb _ => Below.heap_setCell w ⟨g, 0, none⟩ _ b hb.2) hr⟩
end
theorem Mod.one {w : World} {p : Addr} (u : Value) : Mod (fun k => k = p.block) w (w.setCell p u) := Mod.setCell (Mod.refl (fun k => k = p.block) w) (fun _ => rfl) u

set_option maxHeartbeats 800000 in
set_option maxRecDepth 100000 in
theorem rdFail_calls (T : Nat → Prop) (g : Nat) (R : RdS) (e : Int) (w : World) (hd : RdAt w T g R) : Calls Tryz.prog 104 #[.pointer (some ⟨g, 0, none⟩), .int .i64 e] w fun en w' => en = .returned (.tuple #[]) ∧ RdAt w' T g (R.fail e) ∧ Mod (fun k => k = g) w w' := by
  have HD := hid hd
  obtain ⟨hT, hg, A, c, hc, hm, c0, c1, f0, f1, hh, hr⟩ := hd.cells
  clear hd
  by_cases h0 : R.e = 0
  · have e0 : (R.e == (0 : Int)) = true := by rw [beq_iff_eq]; exact h0
    have HV := hid (show R.fail e = ⟨R.b, e⟩ by unfold RdS.fail; rw [if_pos h0])
    clear h0
    go_enter Tryz.func104, Tryz.ntmps104
    go_wp2
    go_end0
    exact ⟨rfl, by rw [HV.out]; exact HD.out.setE e, Mod.one (p := ⟨g, 1, none⟩) _⟩
  · have e0 : (R.e == (0 : Int)) = false := by rw [beq_eq_false_iff_ne]; exact h0
    have HV := hid (show R.fail e = R by unfold RdS.fail; rw [if_neg h0])
    clear h0
    go_enter Tryz.func104, Tryz.ntmps104
    go_wp2
    go_end0
    exact ⟨rfl, by rw [HV.out]; exact HD.out, Mod.refl _ _⟩

set_option maxHeartbeats 800000 in
set_option maxRecDepth 100000 in
theorem rdMost_ok (T : Nat → Prop) (g : Nat) (R : RdS) (n most : Int) (w : World) (_hd : RdAt w T g R) (h : n ≤ max most 0) : Calls Tryz.prog 109 #[.pointer (some ⟨g, 0, none⟩), .int .i64 n, .int .i64 most] w fun en w' => en = .returned (.int .i64 n) ∧ w = w' := by
  clear _hd
  have h1 : ¬ max most 0 < n := by omega
  go_enter Tryz.func109, Tryz.ntmps109
  go_wp2
  go_ret
  exact ⟨rfl, rfl⟩
set_option maxHeartbeats 800000 in
set_option maxRecDepth 100000 in
theorem rdMost_no (T : Nat → Prop) (g : Nat) (R : RdS) (n most : Int) (w : World) (hd : RdAt w T g R) (h : max most 0 < n) : Calls Tryz.prog 109 #[.pointer (some ⟨g, 0, none⟩), .int .i64 n, .int .i64 most] w fun en w' => en = .returned (.int .i64 0) ∧ RdAt w' T g (R.fail 4) ∧ Mod (fun k => k = g) w w' := by
  have HD := hid hd
  clear hd
  go_enter Tryz.func109, Tryz.ntmps109
  go_wp2_with fail
  refine (rdFail_calls T g R 4 _ HD.out).mono ?_
  rintro e w1 ⟨rfl, h1, h2⟩
  have H1 := hid h1
  have H2 := hid h2
  clear h1 h2
  go_wp2
  go_ret
  exact ⟨rfl, H1.out, H2.out⟩
end Go.Proofs.YtkjncmmombkllaaGreat
namespace Go.Proofs.YtkjncmmombkllaaGreat
open Go.RowKit

theorem RdS.fail_0 {R : RdS} (h : R.e = 0) (e : Int) : R.fail e = ⟨R.b, e⟩ := by unfold RdS.fail; rw [if_pos h]
theorem add_zero' (a : Addr) : a.add 0 = a := by unfold Addr.add; rw [if_pos rfl]
theorem max0 (m : Int) : max m 0 = max m 0 := rfl

set_option maxHeartbeats 1600000 in
set_option maxRecDepth 100000 in
theorem rdLook_nil (T : Nat → Prop) (g : Nat) (R : RdS) (most : Int) (w : World) (hd : RdAt w T g R) (h0 : R.e = 0) (hb : R.b = []) : Calls Tryz.prog 105 #[.pointer (some ⟨g, 0, none⟩), .int .i64 most] w fun en w' => en = .returned (.tuple #[.int .i64 0, .int .i64 0]) ∧ RdAt w' T g ⟨R.b, 2⟩ ∧ Mod (fun k => k = g) w w' := by
  have HD := hid hd
  obtain ⟨hT, hg, A, c, hc, hm, c0, c1, f0, f1, hh, hr⟩ := hd.cells
  rw [hb, List.length_nil] at c0
  have HV := hid (R.fail_0 h0 2)
  clear hd hh hr hb h0
  go_enter Tryz.func105, Tryz.ntmps105
  go_wp2_with fail
  refine (rdFail_calls T g R 2 _ HD.out).mono ?_
  rintro e w1 ⟨rfl, h1, h2⟩
  rw [HV.out] at h1
  have H1 := hid h1
  have H2 := hid h2
  clear h1 h2
  go_wp2
  go_ret2
  exact ⟨rfl, H1.out, H2.out⟩

set_option maxHeartbeats 1600000 in
set_option maxRecDepth 100000 in
theorem rdLook_low (T : Nat → Prop) (g : Nat) (R : RdS) (most : Int) (x : UInt8) (r : List UInt8) (w : World) (hd : RdAt w T g R) (hb : R.b = x :: r) (hx : x.toNat < 248) (hmx : (x.toNat : Int) ≤ max most 0) : Calls Tryz.prog 105 #[.pointer (some ⟨g, 0, none⟩), .int .i64 most] w fun en w' => en = .returned (.tuple #[.int .i64 x.toNat, .int .i64 1]) ∧ w = w' := by
  have HD := hid hd
  obtain ⟨hT, hg, A, c, hc, hm, c0, c1, f0, f1, hh, hr⟩ := hd.cells
  obtain ⟨a, y, rfl, hy, hya⟩ := hr.out.at_u8 0 (by rw [hb]; simp)
  obtain rfl : x = y := by rw [hb] at hy; simpa using hy
  rw [add_zero'] at hya
  have hl : 0 < R.b.length := by rw [hb]; simp
  have hl2 : (0 : Int) < R.b.length := by omega
  have hl3 : ((R.b.length : Int) == 0) = false := by rw [beq_eq_false_iff_ne]; omega
  have hl4 : (R.b.length == 0) = false := by rw [beq_eq_false_iff_ne]; omega
  have HM := hid hmx
  clear hd hh hy hb hmx hr
  go_enter Tryz.func105, Tryz.ntmps105
  go_wp2_with fail
  refine (rdMost_ok T g R _ most _ HD.out HM.out).mono ?_
  rintro e w1 ⟨rfl, rfl⟩
  go_wp2
  go_ret2
  exact ⟨rfl, rfl⟩

set_option maxHeartbeats 1600000 in
set_option maxRecDepth 100000 in
theorem rdLook_low_no (T : Nat → Prop) (g : Nat) (R : RdS) (most : Int) (x : UInt8) (r : List UInt8) (w : World) (hd : RdAt w T g R) (h0 : R.e = 0) (hb : R.b = x :: r) (hx : x.toNat < 248) (hmx : max most 0 < (x.toNat : Int)) : Calls Tryz.prog 105 #[.pointer (some ⟨g, 0, none⟩), .int .i64 most] w fun en w' => en = .returned (.tuple #[.int .i64 0, .int .i64 1]) ∧ RdAt w' T g ⟨R.b, 4⟩ ∧ Mod (fun k => k = g) w w' := by
  have HD := hid hd
  obtain ⟨hT, hg, A, c, hc, hm, c0, c1, f0, f1, hh, hr⟩ := hd.cells
  obtain ⟨a, y, rfl, hy, hya⟩ := hr.out.at_u8 0 (by rw [hb]; simp)
  obtain rfl : x = y := by rw [hb] at hy; simpa using hy
  rw [add_zero'] at hya
  have hl : 0 < R.b.length := by rw [hb]; simp
  have hl2 : (0 : Int) < R.b.length := by omega
  have hl3 : ((R.b.length : Int) == 0) = false := by rw [beq_eq_false_iff_ne]; omega
  have hl4 : (R.b.length == 0) = false := by rw [beq_eq_false_iff_ne]; omega
  have HM := hid hmx
  have HV := hid (R.fail_0 h0 4)
  clear hd hh hy hb hmx hr h0
  go_enter Tryz.func105, Tryz.ntmps105
  go_wp2_with fail
  refine (rdMost_no T g R _ most _ HD.out HM.out).mono ?_
  rintro e w1 ⟨rfl, h1, h2⟩
  rw [HV.out] at h1
  have H1 := hid h1
  have H2 := hid h2
  clear h1 h2
  go_wp2
  go_ret2
  exact ⟨rfl, H1.out, H2.out⟩

set_option maxHeartbeats 1600000 in
set_option maxRecDepth 100000 in
theorem rdLook_255 (T : Nat → Prop) (g : Nat) (R : RdS) (most : Int) (x : UInt8) (r : List UInt8) (w : World) (hd : RdAt w T g R) (h0 : R.e = 0) (hb : R.b = x :: r) (hx : x.toNat = 255) : Calls Tryz.prog 105 #[.pointer (some ⟨g, 0, none⟩), .int .i64 most] w fun en w' => en = .returned (.tuple #[.int .i64 0, .int .i64 0]) ∧ RdAt w' T g ⟨R.b, 3⟩ ∧ Mod (fun k => k = g) w w' := by
  have HD := hid hd
  obtain ⟨hT, hg, A, c, hc, hm, c0, c1, f0, f1, hh, hr⟩ := hd.cells
  obtain ⟨a, y, rfl, hy, hya⟩ := hr.out.at_u8 0 (by rw [hb]; simp)
  obtain rfl : x = y := by rw [hb] at hy; simpa using hy
  rw [add_zero', hx] at hya
  have hl : 0 < R.b.length := by rw [hb]; simp
  have hl2 : (0 : Int) < R.b.length := by omega
  have hl3 : ((R.b.length : Int) == 0) = false := by rw [beq_eq_false_iff_ne]; omega
  have hl4 : (R.b.length == 0) = false := by rw [beq_eq_false_iff_ne]; omega
  have HV := hid (R.fail_0 h0 3)
  clear hd hh hy hb hr h0 hx
  go_enter Tryz.func105, Tryz.ntmps105
  go_wp2_with fail
  refine (rdFail_calls T g R 3 _ HD.out).mono ?_
  rintro e w1 ⟨rfl, h1, h2⟩
  rw [HV.out] at h1
  have H1 := hid h1
  have H2 := hid h2
  clear h1 h2
  go_wp2
  go_ret2
  exact ⟨rfl, H1.out, H2.out⟩

set_option maxHeartbeats 1600000 in
set_option maxRecDepth 100000 in
theorem rdLook_short (T : Nat → Prop) (g : Nat) (R : RdS) (most : Int) (x : UInt8) (r : List UInt8) (w : World) (hd : RdAt w T g R) (h0 : R.e = 0) (hb : R.b = x :: r) (hx : 248 ≤ x.toNat) (hx2 : x.toNat < 255) (hs : r.length < x.toNat - 247) : Calls Tryz.prog 105 #[.pointer (some ⟨g, 0, none⟩), .int .i64 most] w fun en w' => en = .returned (.tuple #[.int .i64 0, .int .i64 0]) ∧ RdAt w' T g ⟨R.b, 2⟩ ∧ Mod (fun k => k = g) w w' := by
  have HD := hid hd
  obtain ⟨hT, hg, A, c, hc, hm, c0, c1, f0, f1, hh, hr⟩ := hd.cells
  obtain ⟨a, y, rfl, hy, hya⟩ := hr.out.at_u8 0 (by rw [hb]; simp)
  obtain rfl : x = y := by rw [hb] at hy; simpa using hy
  rw [add_zero'] at hya
  have hl : R.b.length = r.length + 1 := by rw [hb]; simp
  have hl2 : (0 : Int) < R.b.length := by omega
  have hl3 : ((R.b.length : Int) == 0) = false := by rw [beq_eq_false_iff_ne]; omega
  have hl4 : (R.b.length == 0) = false := by rw [beq_eq_false_iff_ne]; omega
  have hl5 : 0 < R.b.length := by omega
  have hl6 : (R.b.length : Int) < 1 + ((x.toNat : Int) - 248 + 1) := by omega
  have HV := hid (R.fail_0 h0 2)
  clear hd hh hy hb hr h0 hl
  go_enter Tryz.func105, Tryz.ntmps105
  go_wp2_with fail
  refine (rdFail_calls T g R 2 _ HD.out).mono ?_
  rintro e w1 ⟨rfl, h1, h2⟩
  rw [HV.out] at h1
  have H1 := hid h1
  have H2 := hid h2
  clear h1 h2
  go_wp2
  go_ret2
  exact ⟨rfl, H1.out, H2.out⟩

set_option maxHeartbeats 3200000 in
set_option maxRecDepth 100000 in
theorem rdLook_long (T : Nat → Prop) (g : Nat) (R : RdS) (most : Int) (x : UInt8) (r : List UInt8) (u N : Nat) (w : World) (hd : RdAt w T g R) (h0 : R.e = 0) (hb : R.b = x :: r) (hx : 248 ≤ x.toNat) (hx2 : x.toNat < 255) (hu : u = x.toNat - 247) (hs : u ≤ r.length) (hN : N = valN (r.take u)) :
    Calls Tryz.prog 105 #[.pointer (some ⟨g, 0, none⟩), .int .i64 most] w fun en w' =>
      if N < 248 ∨ width N ≠ u then en = .returned (.tuple #[.int .i64 0, .int .i64 0]) ∧ RdAt w' T g ⟨R.b, 3⟩ ∧ Mod (fun k => k = g) w w'
      else if max most 0 < (N : Int) then en = .returned (.tuple #[.int .i64 0, .int .i64 (1 + u)]) ∧ RdAt w' T g ⟨R.b, 4⟩ ∧ Mod (fun k => k = g) w w'
      else en = .returned (.tuple #[.int .i64 N, .int .i64 (1 + u)]) ∧ w = w' := by
  have HD := hid hd
  obtain ⟨hT, hg, A, c, hc, hm, c0, c1, f0, f1, hh, hr⟩ := hd.cells
  obtain ⟨a, y, rfl, hy, hya⟩ := hr.out.at_u8 0 (by rw [hb]; simp)
  obtain rfl : x = y := by rw [hb] at hy; simpa using hy
  rw [add_zero'] at hya
  have hl : R.b.length = r.length + 1 := by rw [hb]; simp
  have hl2 : (0 : Int) < R.b.length := by omega
  have hl3 : ((R.b.length : Int) == 0) = false := by rw [beq_eq_false_iff_ne]; omega
  have hl4 : (R.b.length == 0) = false := by rw [beq_eq_false_iff_ne]; omega
  have hl5 : 0 < R.b.length := by omega
  have hxu : (x.toNat : Int) = u + 247 := by omega
  have hu7 : u ≤ 7 := by omega
  have hu1 : 1 ≤ u := by omega
  have hNl : N ≤ 72057594037927935 := by
    have h1 := valN_lt (r.take u)
    have h2 : (r.take u).length ≤ 7 := by rw [List.length_take]; omega
    have h3 : 256 ^ (r.take u).length ≤ 256 ^ 7 := Nat.pow_le_pow_right (by decide) h2
    rw [hN]; omega
  have HRB : Hid (∀ k, k < u → ∃ y : UInt8, r[k]? = some y ∧ w.cell? (a.add (1 + k)) = some (.int .u8 y.toNat)) := fun k hk => by
    obtain ⟨a', y, ha, hy, hc⟩ := hr.out.at_u8 (1 + k) (by omega)
    cases ha
    refine ⟨y, by rw [hb, Nat.add_comm, List.getElem?_cons_succ] at hy; exact hy, ?_⟩
    exact hc
  have HV3 := hid (R.fail_0 h0 3)
  have HV4 := hid (R.fail_0 h0 4)
  have HNV := hid hN
  have hub : u < R.b.length := by omega
  have hus : (u : Int) + 247 - 248 + 1 = u := by omega
  rw [hxu] at hya
  clear hd hh hy hb hr h0 hl hN hu hxu hx hx2 hs
  have POST : ∀ (en : Ending) (w' : World), ((N < 248 ∨ width N ≠ u) → en = .returned (.tuple #[.int .i64 0, .int .i64 0]) ∧ RdAt w' T g ⟨R.b, 3⟩ ∧ Mod (fun k => k = g) w w') →
      (¬ (N < 248 ∨ width N ≠ u) → max most 0 < (N : Int) → en = .returned (.tuple #[.int .i64 0, .int .i64 (1 + u)]) ∧ RdAt w' T g ⟨R.b, 4⟩ ∧ Mod (fun k => k = g) w w') →
      (¬ (N < 248 ∨ width N ≠ u) → ¬ max most 0 < (N : Int) → en = .returned (.tuple #[.int .i64 N, .int .i64 (1 + u)]) ∧ w = w') →
      (if N < 248 ∨ width N ≠ u then en = .returned (.tuple #[.int .i64 0, .int .i64 0]) ∧ RdAt w' T g ⟨R.b, 3⟩ ∧ Mod (fun k => k = g) w w'
      else if max most 0 < (N : Int) then en = .returned (.tuple #[.int .i64 0, .int .i64 (1 + u)]) ∧ RdAt w' T g ⟨R.b, 4⟩ ∧ Mod (fun k => k = g) w w'
      else en = .returned (.tuple #[.int .i64 N, .int .i64 (1 + u)]) ∧ w = w') := by
    intro en w' h1 h2 h3
    split
    · rename_i h; exact h1 h
    · rename_i h
      split
      · rename_i h4; exact h2 h h4
      · rename_i h4; exact h3 h h4
  refine Calls.mono (R := fun en w' => ((N < 248 ∨ width N ≠ u) → en = .returned (.tuple #[.int .i64 0, .int .i64 0]) ∧ RdAt w' T g ⟨R.b, 3⟩ ∧ Mod (fun k => k = g) w w') ∧
      (¬ (N < 248 ∨ width N ≠ u) → max most 0 < (N : Int) → en = .returned (.tuple #[.int .i64 0, .int .i64 (1 + u)]) ∧ RdAt w' T g ⟨R.b, 4⟩ ∧ Mod (fun k => k = g) w w') ∧
      (¬ (N < 248 ∨ width N ≠ u) → ¬ max most 0 < (N : Int) → en = .returned (.tuple #[.int .i64 N, .int .i64 (1 + u)]) ∧ w = w')) ?_ (fun en w' h => POST en w' h.1 h.2.1 h.2.2)
  clear POST
  go_enter Tryz.func105, Tryz.ntmps105
  go_wp2_with fail
  go_loopw [8, 51] (fun nv iv wr => ∃ k : Nat, k ≤ u ∧ nv = .int .i64 ((valN (r.take k) : Nat) : Int) ∧ iv = .int .i64 k ∧ w = wr) (fun _ iv _ => u - (intOf iv).toNat)
  case atStart => exact ⟨0, by omega, rfl, rfl, rfl⟩
  case round =>
    obtain ⟨k, hk, rfl, rfl, rfl⟩ := hrel
    by_cases hlt : k < u
    · obtain ⟨y, hy1, hy2⟩ := HRB.out k hlt
      have HV := hid (show valN (r.take (k + 1)) = valN (r.take k) * 256 + y.toNat by rw [take_snoc hy1, valN_snoc])
      have hVl : valN (r.take k) < 281474976710656 := by
        have h1 := valN_lt (r.take k)
        have h2 : (r.take k).length ≤ 6 := by rw [List.length_take]; omega
        have h3 : 256 ^ (r.take k).length ≤ 256 ^ 6 := Nat.pow_le_pow_right (by decide) h2
        omega
      obtain ⟨M, hM⟩ : ∃ M, M = valN (r.take k) := ⟨_, rfl⟩
      rw [← hM] at HV hVl ⊢
      have hy := y.toNat_lt
      have hor := or_add hVl (show y.toNat < 256 by omega)
      have hw1 : IntKind.i64.wrap ((M : Int) * 256) = (M : Int) * 256 := IntWalk.i64_in _ (by omega)
      have hw2 : IntKind.i64.wrap (1 + (k : Int)) = 1 + k := IntWalk.i64_in _ (by omega)
      have hw3 : (0 : Int) ≤ 1 + (k : Int) := by omega
      have hw4 : (1 + (k : Int)).toNat = 1 + k := by omega
      have hw5 : 1 + (k : Int) < (R.b.length : Int) := by omega
      clear hM hy1
      go_wp2
      go_roundw
      case rel => exact ⟨k + 1, by omega, congrArg (Value.int .i64) (by rw [HV.out]; omega), by go_num, trivial⟩
      case measure => simp [intOf]; omega
    · obtain rfl : u = k := by omega
      rw [← HNV.out]
      by_cases hs1 : N < 248
      · have hsI : (N : Int) < 248 := by omega
        go_wp2_with fail
        refine (rdFail_calls T g R 3 _ HD.out).mono ?_
        rintro e w1 ⟨rfl, h1, h2⟩
        rw [HV3.out] at h1
        have H1 := hid h1
        have H2 := hid h2
        clear h1 h2
        go_wp2
        go_ret2
        first | exact ⟨rfl, H1.out, H2.out⟩ | exact ⟨fun _ => ⟨rfl, H1.out, H2.out⟩, fun h => absurd (.inl hs1) h, fun h => absurd (.inl hs1) h⟩
      · have hsI : ¬ (N : Int) < 248 := by omega
        by_cases hw : width N = u
        · go_wp2_with fail
          refine (width_calls N _ (by unfold maxNum; omega)).mono ?_
          rintro e w1 ⟨rfl, rfl⟩
          rw [hw]
          go_wp2_with fail
          by_cases hm1 : max most 0 < (N : Int)
          · refine (rdMost_no T g R _ most _ HD.out hm1).mono ?_
            rintro e w1 ⟨rfl, h1, h2⟩
            rw [HV4.out] at h1
            have H1 := hid h1
            have H2 := hid h2
            clear h1 h2
            go_wp2
            go_ret2
            first | exact ⟨⟨rfl, H1.out, H2.out⟩, fun h => absurd hm1 (by omega)⟩ | exact ⟨rfl, H1.out, H2.out⟩ | exact ⟨fun h => h.elim (fun h => absurd h hs1) (fun h => absurd hw h), fun _ _ => ⟨rfl, H1.out, H2.out⟩, fun _ h => absurd hm1 h⟩
          · refine (rdMost_ok T g R _ most _ HD.out (by omega)).mono ?_
            rintro e w1 ⟨rfl, rfl⟩
            go_wp2
            go_ret2
            first | exact ⟨rfl, rfl⟩ | exact rfl | exact ⟨fun h => absurd h (by omega), rfl⟩ | exact ⟨fun h => absurd h (by omega), rfl, rfl⟩ | exact ⟨fun h => h.elim (fun h => absurd h hs1) (fun h => absurd hw h), fun _ h => absurd h hm1, fun _ _ => ⟨rfl, rfl⟩⟩
        · have hw1 : ((width N : Int) == (u : Int)) = false := by rw [beq_eq_false_iff_ne]; omega
          have hw2 : ((width N : Int) != (u : Int)) = true := by rw [bne_iff_ne]; omega
          go_wp2_with fail
          refine (width_calls N _ (by unfold maxNum; omega)).mono ?_
          rintro e w1 ⟨rfl, rfl⟩
          go_wp2_with fail
          refine (rdFail_calls T g R 3 _ HD.out).mono ?_
          rintro e w1 ⟨rfl, h1, h2⟩
          rw [HV3.out] at h1
          have H1 := hid h1
          have H2 := hid h2
          clear h1 h2
          go_wp2
          go_ret2
          first | exact ⟨rfl, H1.out, H2.out⟩ | exact ⟨fun _ => ⟨rfl, H1.out, H2.out⟩, fun h => absurd (.inr hw) h, fun h => absurd (.inr hw) h⟩
end Go.Proofs.YtkjncmmombkllaaGreat
namespace Go.Proofs.YtkjncmmombkllaaGreat
open Go.RowKit

set_option maxRecDepth 100000 in
/-- What look does, by nextN: a number and how many bytes it has, or the error is laid. -/
theorem rdLook_calls (T : Nat → Prop) (g : Nat) (R : RdS) (most : Int) (w : World) (hd : RdAt w T g R) (h0 : R.e = 0) :
    Calls Tryz.prog 105 #[.pointer (some ⟨g, 0, none⟩), .int .i64 most] w fun en w' => ∃ n k : Int, en = .returned (.tuple #[.int .i64 n, .int .i64 k]) ∧ RdAt w' T g ⟨R.b, (nextN R.b most).1⟩ ∧ Mod (fun k => k = g) w w' ∧
      ((nextN R.b most).1 = 0 → w = w' ∧ n = (nextN R.b most).2.1 ∧ k = (nextN R.b most).2.2) := by
  obtain ⟨b, hb⟩ : ∃ b, R.b = b := ⟨_, rfl⟩
  have hR : (⟨R.b, 0⟩ : RdS) = R := by cases R; simp only at h0; rw [h0]
  cases b with
  | nil =>
    have hv : nextN R.b most = (2, 0, 0) := by rw [hb]; rfl
    rw [hv]
    exact (rdLook_nil T g R most w hd h0 hb).mono (fun en w' ⟨h1, h2, h3⟩ => ⟨0, 0, h1, h2, h3, fun h => absurd h (by decide)⟩)
  | cons x r =>
    have hx := x.toNat_lt
    by_cases h1 : x.toNat < 248
    · by_cases h2 : max most 0 < (x.toNat : Int)
      · have hv : nextN R.b most = (4, 0, 0) := by rw [hb]; unfold nextN; simp only; rw [if_pos h1, if_pos h2]
        rw [hv]
        exact (rdLook_low_no T g R most x r w hd h0 hb h1 h2).mono (fun en w' ⟨h1, h2, h3⟩ => ⟨0, 1, h1, h2, h3, fun h => absurd h (by decide)⟩)
      · have hv : nextN R.b most = (0, x.toNat, 1) := by rw [hb]; unfold nextN; simp only; rw [if_pos h1, if_neg h2]
        rw [hv]
        exact (rdLook_low T g R most x r w hd hb h1 (by omega)).mono (fun en w' ⟨h1, h2⟩ => ⟨x.toNat, 1, h1, by subst h2; simpa only [hR] using hd, h2 ▸ Mod.refl _ _, fun _ => ⟨h2, rfl, rfl⟩⟩)
    · by_cases h2 : x.toNat = 255
      · have hv : nextN R.b most = (3, 0, 0) := by rw [hb]; unfold nextN; simp only; rw [if_neg h1, if_pos h2]
        rw [hv]
        exact (rdLook_255 T g R most x r w hd h0 hb h2).mono (fun en w' ⟨h1, h2, h3⟩ => ⟨0, 0, h1, h2, h3, fun h => absurd h (by decide)⟩)
      · by_cases h3 : r.length < x.toNat - 247
        · have hv : nextN R.b most = (2, 0, 0) := by rw [hb]; unfold nextN; simp only; rw [if_neg h1, if_neg h2, if_pos h3]
          rw [hv]
          exact (rdLook_short T g R most x r w hd h0 hb (by omega) (by omega) h3).mono (fun en w' ⟨h1, h2, h3⟩ => ⟨0, 0, h1, h2, h3, fun h => absurd h (by decide)⟩)
        · refine (rdLook_long T g R most x r _ _ w hd h0 hb (by omega) (by omega) rfl (by omega) rfl).mono (fun en w' h => ?_)
          split at h
          · rename_i h4
            have hv : nextN R.b most = (3, 0, 0) := by rw [hb]; unfold nextN; simp only; rw [if_neg h1, if_neg h2, if_neg h3, if_pos h4]
            rw [hv]
            exact ⟨0, 0, h.1, h.2.1, h.2.2, fun h => absurd h (by decide)⟩
          · rename_i h4
            split at h
            · rename_i h5
              have hv : nextN R.b most = (4, 0, 0) := by rw [hb]; unfold nextN; simp only; rw [if_neg h1, if_neg h2, if_neg h3, if_neg h4, if_pos h5]
              rw [hv]
              exact ⟨0, _, h.1, h.2.1, h.2.2, fun h => absurd h (by decide)⟩
            · rename_i h5
              have hv : nextN R.b most = (0, valN (r.take (x.toNat - 247)), x.toNat - 247 + 1) := by rw [hb]; unfold nextN; simp only; rw [if_neg h1, if_neg h2, if_neg h3, if_neg h4, if_neg h5]
              rw [hv]
              obtain ⟨h6, rfl⟩ := h
              exact ⟨_, _, h6, by simpa only [hR] using hd, Mod.refl _ _, fun _ => ⟨rfl, rfl, by show (1 + ((x.toNat - 247 : Nat) : Int)) = ((x.toNat - 247 + 1 : Nat) : Int); omega⟩⟩
end Go.Proofs.YtkjncmmombkllaaGreat
namespace Go.Proofs.YtkjncmmombkllaaGreat
open Go.RowKit

set_option maxHeartbeats 1600000 in
set_option maxRecDepth 100000 in
theorem rdNum_calls (T : Nat → Prop) (g : Nat) (R : RdS) (most : Int) (w : World) (hd : RdAt w T g R) : Calls Tryz.prog 87 #[.pointer (some ⟨g, 0, none⟩), .int .i64 most] w fun en w' => en = .returned (.int .i64 (R.num most).1) ∧ RdAt w' T g (R.num most).2 ∧ Mod (fun k => k = g) w w' := by
  have HD := hid hd
  obtain ⟨hT, hg, A, c, hc, hm, c0, c1, f0, f1, hh, hr⟩ := hd.cells
  clear hd
  by_cases h0 : R.e = 0
  · have e0 : (R.e == (0 : Int)) = true := by rw [beq_iff_eq]; exact h0
    have e1 : (R.e != (0 : Int)) = false := by rw [bne_eq_false_iff_eq]; exact h0
    have H0 := hid h0
    clear h0
    by_cases hz : (nextN R.b most).1 = 0
    · have HV := hid (show R.num most = (((nextN R.b most).2.1 : Int), ⟨R.b.drop (nextN R.b most).2.2, 0⟩) by unfold RdS.num; rw [if_neg (by simp [H0.out]), if_neg (by simp [hz])])
      obtain ⟨n1, n2, n3, n4, n5⟩ := nextN_ok hz
      have HZ := hid hz
      clear hz
      go_enter Tryz.func87, Tryz.ntmps87
      go_wp2_with fail
      refine (rdLook_calls T g R most _ HD.out H0.out).mono ?_
      rintro e w1 ⟨n, k, rfl, hA, hM, hS⟩
      obtain ⟨rfl, rfl, rfl⟩ := hS HZ.out
      clear hA hM hS
      obtain ⟨K, hK⟩ : ∃ K, K = (nextN R.b most).2.2 := ⟨_, rfl⟩
      obtain ⟨N, hN⟩ : ∃ N, N = (nextN R.b most).2.1 := ⟨_, rfl⟩
      rw [← hK] at n1 n2 n5 HV ⊢
      rw [← hN] at n3 n4 HV ⊢
      clear hK hN
      have hk1 : (K : Int) ≤ R.b.length := by omega
      have hR2 := Kd.Row.drop hr.out K c n2 hc
      have hl : (R.b.drop K).length = R.b.length - K := by simp
      by_cases hcK : c = K
      · rw [if_pos hcK] at hR2
        have HX := hid (HD.out.setB (b' := R.b.drop K) (A' := A) (n' := R.b.length - K) (c' := 0) hl.symm (by omega) (by omega) hR2)
        rw [H0.out] at HX
        clear hR2 hl
        go_wp2
        go_ret
        rw [HV.out]
        exact ⟨rfl, HX.out, Mod.one (p := ⟨g, 0, none⟩) _⟩
      · rw [if_neg hcK] at hR2
        have HX := hid (HD.out.setB (b' := R.b.drop K) (A' := A.map (·.add K)) (n' := R.b.length - K) (c' := c - K) hl.symm (by omega) (by omega) (by rw [show K * Kd.u8.sz = K from Nat.mul_one K] at hR2; exact hR2))
        rw [H0.out] at HX
        clear hR2 hl
        go_wp2
        go_ret
        rw [HV.out]
        exact ⟨rfl, HX.out, Mod.one (p := ⟨g, 0, none⟩) _⟩
    · have HV := hid (show R.num most = (0, ⟨R.b, (nextN R.b most).1⟩) by unfold RdS.num; rw [if_neg (by simp [H0.out]), if_pos hz])
      obtain ⟨E, hE⟩ : ∃ E, E = (nextN R.b most).1 := ⟨_, rfl⟩
      have hz1 : (E == (0 : Int)) = false := by rw [beq_eq_false_iff_ne, hE]; exact hz
      have hz2 : (E != (0 : Int)) = true := by rw [bne_iff_ne, hE]; exact hz
      have HE := hid hE
      rw [← hE] at HV
      clear hE hz
      go_enter Tryz.func87, Tryz.ntmps87
      go_wp2_with fail
      refine (rdLook_calls T g R most _ HD.out H0.out).mono ?_
      rintro e w1 ⟨n, k, rfl, hA, hM, hS⟩
      rw [← HE.out] at hA
      obtain ⟨_, _, A', c', _, _, _, d1, _, _, _, _⟩ := hA.cells
      have HA := hid hA
      have HM := hid hM
      clear hA hM hS c0 c1 f0 f1
      go_wp2
      go_ret
      rw [HV.out]
      exact ⟨rfl, HA.out, HM.out⟩
  · have e0 : (R.e == (0 : Int)) = false := by rw [beq_eq_false_iff_ne]; exact h0
    have e1 : (R.e != (0 : Int)) = true := by rw [bne_iff_ne]; exact h0
    have HV := hid (show R.num most = (0, R) by unfold RdS.num; rw [if_pos h0])
    clear h0
    go_enter Tryz.func87, Tryz.ntmps87
    go_wp2
    go_ret
    rw [HV.out]
    exact ⟨rfl, HD.out, Mod.refl _ _⟩
end Go.Proofs.YtkjncmmombkllaaGreat
namespace Go.Proofs.YtkjncmmombkllaaGreat
open Go.RowKit

set_option maxHeartbeats 800000 in
set_option maxRecDepth 100000 in
theorem rdErr_calls (T : Nat → Prop) (g : Nat) (R : RdS) (w : World) (hd : RdAt w T g R) : Calls Tryz.prog 102 #[.pointer (some ⟨g, 0, none⟩)] w fun en w' => en = .returned (.int .i64 R.e) ∧ w = w' := by
  obtain ⟨hT, hg, A, c, hc, hm, c0, c1, f0, f1, hh, hr⟩ := hd.cells
  clear hd
  go_enter Tryz.func102, Tryz.ntmps102
  go_wp2
  go_ret
  exact ⟨rfl, rfl⟩

set_option maxHeartbeats 800000 in
set_option maxRecDepth 100000 in
theorem rdEnd_calls (T : Nat → Prop) (g : Nat) (R : RdS) (w : World) (hd : RdAt w T g R) : Calls Tryz.prog 89 #[.pointer (some ⟨g, 0, none⟩)] w fun en w' => en = .returned (.int .i64 R.fin) ∧ w = w' := by
  have HD := hid hd
  obtain ⟨hT, hg, A, c, hc, hm, c0, c1, f0, f1, hh, hr⟩ := hd.cells
  clear hd
  by_cases h0 : R.e = 0
  · have e0 : (R.e == (0 : Int)) = true := by rw [beq_iff_eq]; exact h0
    have e1 : (R.e != (0 : Int)) = false := by rw [bne_eq_false_iff_eq]; exact h0
    by_cases hl : 0 < R.b.length
    · have hl2 : (0 : Int) < R.b.length := by omega
      have HV := hid (show R.fin = 3 by unfold RdS.fin; rw [if_neg (by simp [h0]), if_pos hl])
      clear h0
      go_enter Tryz.func89, Tryz.ntmps89
      go_wp2_with fail
      refine (rdErr_calls T g R _ HD.out).mono ?_
      rintro e w1 ⟨rfl, rfl⟩
      go_wp2
      go_ret
      exact ⟨ret_int (by rw [HV.out]), rfl⟩
    · have hl2 : ¬ (0 : Int) < R.b.length := by omega
      have HV := hid (show R.fin = 0 by unfold RdS.fin; rw [if_neg (by simp [h0]), if_neg hl])
      clear h0
      go_enter Tryz.func89, Tryz.ntmps89
      go_wp2_with fail
      refine (rdErr_calls T g R _ HD.out).mono ?_
      rintro e w1 ⟨rfl, rfl⟩
      go_wp2
      go_ret
      exact ⟨ret_int (by rw [HV.out]), rfl⟩
  · have e0 : (R.e == (0 : Int)) = false := by rw [beq_eq_false_iff_ne]; exact h0
    have e1 : (R.e != (0 : Int)) = true := by rw [bne_iff_ne]; exact h0
    have HV := hid (show R.fin = R.e by unfold RdS.fin; rw [if_pos h0])
    clear h0
    go_enter Tryz.func89, Tryz.ntmps89
    go_wp2_with fail
    refine (rdErr_calls T g R _ HD.out).mono ?_
    rintro e w1 ⟨rfl, rfl⟩
    go_wp2
    go_ret
    exact ⟨ret_int (by rw [HV.out]), rfl⟩
end Go.Proofs.YtkjncmmombkllaaGreat
namespace Go.Proofs.YtkjncmmombkllaaGreat
open Go.RowKit

end Go.Proofs.YtkjncmmombkllaaGreat
namespace Go.Proofs.YtkjncmmombkllaaGreat
open Go.RowKit

set_option maxHeartbeats 3200000 in
set_option maxRecDepth 100000 in
theorem rdText_calls (T : Nat → Prop) (g : Nat) (R : RdS) (most : Int) (w : World) (hd : RdAt w T g R) : Calls Tryz.prog 88 #[.pointer (some ⟨g, 0, none⟩), .int .i64 most] w fun en w' => en = .returned (.string (mkB (R.text most).1)) ∧ RdAt w' T g (R.text most).2 ∧ Mod (fun k => k = g) w w' := by
  have HD := hid hd
  obtain ⟨hT, hg, A, c, hc, hm, c0, c1, f0, f1, hh, hr⟩ := hd.cells
  clear hd
  by_cases h0 : R.e = 0
  · have e0 : (R.e == (0 : Int)) = true := by rw [beq_iff_eq]; exact h0
    have e1 : (R.e != (0 : Int)) = false := by rw [bne_eq_false_iff_eq]; exact h0
    have H0 := hid h0
    clear h0
    by_cases hz : (nextN R.b most).1 = 0
    · obtain ⟨n1, n2, n3, n4, n5⟩ := nextN_ok hz
      have HZ := hid hz
      obtain ⟨K, hK⟩ : ∃ K, K = (nextN R.b most).2.2 := ⟨_, rfl⟩
      obtain ⟨N, hN⟩ : ∃ N, N = (nextN R.b most).2.1 := ⟨_, rfl⟩
      have HK := hid hK
      have HN := hid hN
      rw [← hK] at n1 n2 n5
      rw [← hN] at n3 n4
      by_cases hs : R.b.length < K + N
      · have HV := hid (show R.text most = ([], ⟨R.b, 2⟩) by unfold RdS.text; rw [if_neg (by simp [H0.out]), if_neg (by simp [hz]), if_pos (by rw [← hK, ← hN]; exact hs)])
        have hs1 : (R.b.length : Int) - K < N := by omega
        have HF := hid (R.fail_0 H0.out 2)
        have hw : IntKind.i64.wrap ((R.b.length : Int) - K) = R.b.length - K := IntWalk.i64_in _ (by omega)
        clear hz hK hN
        go_enter Tryz.func88, Tryz.ntmps88
        go_wp2_with fail
        refine (rdLook_calls T g R most _ HD.out H0.out).mono ?_
        rintro e w1 ⟨n, k, rfl, hA, hM, hS⟩
        obtain ⟨rfl, rfl, rfl⟩ := hS HZ.out
        rw [← HK.out, ← HN.out]
        clear hA hM hS
        go_wp2_with fail
        refine (rdFail_calls T g R 2 _ HD.out).mono ?_
        rintro e w2 ⟨rfl, h1, h2⟩
        rw [HF.out] at h1
        obtain ⟨_, _, A', c', _, _, _, d1, _, _, _, _⟩ := h1.cells
        have H1 := hid h1
        have H2 := hid h2
        clear h1 h2 c0 c1 f0 f1
        go_wp2
        go_ret
        rw [HV.out]
        exact ⟨rfl, H1.out, H2.out⟩
      · have HV := hid (show R.text most = ((R.b.drop K).take N, ⟨R.b.drop (K + N), 0⟩) by unfold RdS.text; rw [if_neg (by simp [H0.out]), if_neg (by simp [hz]), if_neg (by rw [← hK, ← hN]; exact hs), hK, hN])
        have hs1 : ¬ (R.b.length : Int) - K < N := by omega
        have hw : IntKind.i64.wrap ((R.b.length : Int) - K) = R.b.length - K := IntWalk.i64_in _ (by omega)
        have hw2 : IntKind.i64.wrap ((K : Int) + N) = K + N := IntWalk.i64_in _ (by omega)
        have hw3 : (0 : Int) ≤ (K : Int) + N := by omega
        have hw4 : ((K : Int) + N).toNat = K + N := by omega
        have hw5 : (K : Int) + N ≤ R.b.length := by omega
        have hw6 : (K : Int) ≤ (K : Int) + N := by omega
        clear hz hK hN
        have hR1 := Kd.Row.take (Kd.Row.drop hr.out K c n2 hc) N
        have hR2 := Kd.Row.drop hr.out (K + N) c (by omega) hc
        rw [show K * Kd.u8.sz = K from Nat.mul_one K] at hR1
        rw [show (K + N) * Kd.u8.sz = K + N from Nat.mul_one _] at hR2
        have hl1 : ((R.b.drop K).take N).length = N := by rw [List.length_take, List.length_drop]; omega
        have hl2 : (R.b.drop (K + N)).length = R.b.length - (K + N) := by simp
        by_cases hcK : c = K
        · obtain rfl : N = 0 := by omega
          rw [if_pos hcK] at hR1
          rw [if_pos (by omega)] at hR2
          have HX := hid (HD.out.setB (b' := R.b.drop (K + 0)) (A' := A) (n' := R.b.length - K) (c' := 0) (by rw [hl2, Nat.add_zero]) (by omega) (by omega) hR2)
          rw [H0.out] at HX
          have hcv : (convert 23 9 (.slice A 0 0)).run Tryz.prog w = .ok (.string (mkB ((R.b.drop K).take 0))) w := conv_u8 (S := fun k => T k ∧ k ≠ g) ⟨A, 0, by rw [hl1], by omega, by omega, hR1⟩
          clear hR1 hR2 hl1 hl2
          go_enter Tryz.func88, Tryz.ntmps88
          go_wp2_with fail
          refine (rdLook_calls T g R most _ HD.out H0.out).mono ?_
          rintro e w1 ⟨n, k, rfl, hA, hM, hS⟩
          obtain ⟨rfl, rfl, rfl⟩ := hS HZ.out
          rw [← HK.out, ← HN.out]
          clear hA hM hS
          go_wp2
          go_ret
          rw [HV.out]
          exact ⟨rfl, HX.out, Mod.one (p := ⟨g, 0, none⟩) _⟩
        · rw [if_neg hcK] at hR1
          have hcv : (convert 23 9 (.slice (A.map (fun x => x.add K)) N (c - K))).run Tryz.prog w = .ok (.string (mkB ((R.b.drop K).take N))) w := conv_u8 (S := fun k => T k ∧ k ≠ g) ⟨A.map (fun x => x.add K), c - K, by rw [hl1], by omega, by omega, hR1⟩
          by_cases hcN : c = K + N
          · rw [if_pos hcN] at hR2
            rw [show c - K = N by omega] at hcv
            have HX := hid (HD.out.setB (b' := R.b.drop (K + N)) (A' := A) (n' := R.b.length - (K + N)) (c' := 0) hl2.symm (by omega) (by omega) hR2)
            rw [H0.out] at HX
            clear hR1 hR2 hl1 hl2
            go_enter Tryz.func88, Tryz.ntmps88
            go_wp2_with fail
            refine (rdLook_calls T g R most _ HD.out H0.out).mono ?_
            rintro e w1 ⟨n, k, rfl, hA, hM, hS⟩
            obtain ⟨rfl, rfl, rfl⟩ := hS HZ.out
            rw [← HK.out, ← HN.out]
            clear hA hM hS
            go_wp2
            go_ret
            rw [HV.out]
            exact ⟨rfl, HX.out, Mod.one (p := ⟨g, 0, none⟩) _⟩
          · rw [if_neg hcN] at hR2
            have HX := hid (HD.out.setB (b' := R.b.drop (K + N)) (A' := A.map (fun x => x.add (K + N))) (n' := R.b.length - (K + N)) (c' := c - (K + N)) hl2.symm (by omega) (by omega) hR2)
            rw [H0.out] at HX
            clear hR1 hR2 hl1 hl2
            go_enter Tryz.func88, Tryz.ntmps88
            go_wp2_with fail
            refine (rdLook_calls T g R most _ HD.out H0.out).mono ?_
            rintro e w1 ⟨n, k, rfl, hA, hM, hS⟩
            obtain ⟨rfl, rfl, rfl⟩ := hS HZ.out
            rw [← HK.out, ← HN.out]
            clear hA hM hS
            go_wp2
            go_ret
            rw [HV.out]
            exact ⟨rfl, HX.out, Mod.one (p := ⟨g, 0, none⟩) _⟩
    · have HV := hid (show R.text most = ([], ⟨R.b, (nextN R.b most).1⟩) by unfold RdS.text; rw [if_neg (by simp [H0.out]), if_pos hz])
      obtain ⟨E, hE⟩ : ∃ E, E = (nextN R.b most).1 := ⟨_, rfl⟩
      have hz1 : (E == (0 : Int)) = false := by rw [beq_eq_false_iff_ne, hE]; exact hz
      have hz2 : (E != (0 : Int)) = true := by rw [bne_iff_ne, hE]; exact hz
      have HE := hid hE
      rw [← hE] at HV
      clear hE hz
      go_enter Tryz.func88, Tryz.ntmps88
      go_wp2_with fail
      refine (rdLook_calls T g R most _ HD.out H0.out).mono ?_
      rintro e w1 ⟨n, k, rfl, hA, hM, hS⟩
      rw [← HE.out] at hA
      obtain ⟨_, _, A', c', _, _, _, d1, _, _, _, _⟩ := hA.cells
      have HA := hid hA
      have HM := hid hM
      clear hA hM hS c0 c1 f0 f1
      go_wp2
      go_ret
      rw [HV.out]
      exact ⟨rfl, HA.out, HM.out⟩
  · have e0 : (R.e == (0 : Int)) = false := by rw [beq_eq_false_iff_ne]; exact h0
    have e1 : (R.e != (0 : Int)) = true := by rw [bne_iff_ne]; exact h0
    have HV := hid (show R.text most = ([], R) by unfold RdS.text; rw [if_pos h0])
    clear h0
    go_enter Tryz.func88, Tryz.ntmps88
    go_wp2
    go_ret
    rw [HV.out]
    exact ⟨rfl, HD.out, Mod.refl _ _⟩
end Go.Proofs.YtkjncmmombkllaaGreat
namespace Go.Proofs.YtkjncmmombkllaaGreat
open Go.RowKit

set_option maxHeartbeats 1600000 in
set_option maxRecDepth 100000 in
theorem rdNew_calls (b : List UInt8) (v : Value) (w : World) (hb : Kd.u8.slice.K w Any b [v]) (hl : b.length ≤ 1000000) :
    Calls Tryz.prog 85 #[v] w fun e w' => ∃ g, e = .returned (.pointer (some ⟨g, 0, none⟩)) ∧ RdAt w' (fun k => w.heap.size ≤ k) g ⟨b, 0⟩ ∧ Below w.heap.size w w' := by
  obtain ⟨B, d, he, hd1, hd2, hr⟩ := hb
  cases he
  have HR := hid hr
  obtain ⟨q, hq⟩ : ∃ q, b.length = q := ⟨_, rfl⟩
  have HQ := hid hq
  rw [hq] at hd1 hd2 hl ⊢
  clear hr hq
  go_enter Tryz.func85, Tryz.ntmps85
  go_wp2_with (at_builtin; go_must (refine appends_arm Kd.u8 (w0 := w) w.heap.size rfl _ _ 23 5 _ 1 rfl Tryz.underlying23 Tryz.infoU8 rfl (by decide) (by decide) (.slice none 0 0) [] b B q d NoT Any NoT rfl rfl HQ.out HR.out (fun _ _ h => h) (fun _ h => h.elim) (nil_own w) (Below.refl _ _) (Nat.le_refl _) (by simp; omega) ?_))
  intro v2 w2 hO2 hb2 _ _
  obtain ⟨A2, n2, c2, rfl, hn2, hc2⟩ := hO2.shape'
  have HO2 := hid hO2
  have HN2 := hid hn2
  have hs2 := hb2.size
  clear hO2 hn2
  go_wp2
  go_ret
  refine ⟨_, rfl, ?_, bAlloc hb2 _⟩
  have hO2 : Own Kd.u8 5 w2 w.heap.size NoT (.slice A2 n2 c2) b := by simpa using HO2.out
  have hn : n2 = b.length := by simpa using HN2.out
  subst hn
  have hrow : Kd.u8.Row w2 (fun k => NoT k ∨ w.heap.size ≤ k) A2 b := by
    obtain ⟨A', n', h1, _, _, h2⟩ := hO2.K
    cases h1
    exact h2
  refine ⟨hs2, A2, c2, heap_alloc_new w2 _, hc2, by rw [HQ.out]; exact hl, ?_⟩
  exact Kd.Row.move (fun b hb hl => Below.heap_alloc w2 _ b hl) (Kd.Row.mono (fun b hb hl => ⟨hb.elim (fun h => h.elim) id, by omega⟩) hrow)
end Go.Proofs.YtkjncmmombkllaaGreat
/- A reader's numbers and texts: plain. -/
namespace Go.Proofs.YtkjncmmombkllaaGreat
open Go.RowKit

theorem RdS.num_0 (R : RdS) (most : Int) : 0 ≤ (R.num most).1 ∧ (R.num most).1 ≤ max most 0 := by
  unfold RdS.num
  split
  · simp; omega
  · split
    · simp; omega
    · rename_i h
      have := nextN_ok (by simpa using h : (nextN R.b most).1 = 0)
      simp only
      omega
theorem RdS.num_len (R : RdS) (most : Int) : (R.num most).2.b.length ≤ R.b.length := by
  unfold RdS.num
  split
  · simp
  · split
    · simp
    · simp
theorem RdS.fail_len (R : RdS) (e : Int) : (R.fail e).b.length = R.b.length := by
  unfold RdS.fail
  split <;> rfl
theorem RdS.text_len (R : RdS) (most : Int) : (R.text most).2.b.length ≤ R.b.length ∧ (R.text most).1.length ≤ R.b.length := by
  unfold RdS.text
  split
  · simp
  · split
    · simp
    · split
      · simp
      · simp; omega
/-- k texts. -/
def RdS.texts (R : RdS) : Nat → List ByteArray × RdS
  | 0 => ([], R)
  | k + 1 => ((R.texts k).1 ++ [mkB ((R.texts k).2.text 200).1], ((R.texts k).2.text 200).2)
theorem RdS.texts_len (R : RdS) (k : Nat) : (R.texts k).2.b.length ≤ R.b.length ∧ (R.texts k).1.length = k := by
  induction k with
  | zero => simp [RdS.texts]
  | succ k ih =>
    have := ((R.texts k).2.text_len 200).1
    simp only [RdS.texts]
    exact ⟨by omega, by simp; exact ih.2⟩

end Go.Proofs.YtkjncmmombkllaaGreat
namespace Go.Proofs.YtkjncmmombkllaaGreat
open Go.RowKit

/-! ### the document's reader: a string and a number in block g -/
def RfAt (w : World) (g : Nat) (R : RdS) : Prop := w.heap[g]? = some (.cells #[.string (mkB R.b), .int .i64 R.e] 141 (0, 0))
theorem RfAt.below {w w1 : World} {g : Nat} {R : RdS} (h : RfAt w g R) (hb : Below w.heap.size w w1) : RfAt w1 g R := (hb.block g (Array.getElem?_eq_some_iff.1 h).1).trans h
theorem RfAt.mod {w w1 : World} {g : Nat} {R : RdS} {F : Nat → Prop} (h : RfAt w g R) (hb : Mod F w w1) (hg : ¬ F g) : RfAt w1 g R := (hb.block g (Array.getElem?_eq_some_iff.1 h).1 hg).trans h
theorem RfAt.cells {w : World} {g : Nat} {R : RdS} (h : RfAt w g R) : w.cell? ⟨g, 0, none⟩ = some (.string (mkB R.b)) ∧ w.cell? ⟨g, 1, none⟩ = some (.int .i64 R.e) ∧ w.frozen? ⟨g, 0, none⟩ = false ∧ w.frozen? ⟨g, 1, none⟩ = false ∧ g < w.heap.size := by
  have h1 := cells_of_block h
  exact ⟨h1.1 0 _ rfl, h1.1 1 _ rfl, h1.2.1 0, h1.2.1 1, h1.2.2⟩
theorem RfAt.setE {w : World} {g : Nat} {R : RdS} (h : RfAt w g R) (e : Int) : RfAt (w.setCell ⟨g, 1, none⟩ (.int .i64 e)) g ⟨R.b, e⟩ := heap_set h 1 _
theorem RfAt.setB {w : World} {g : Nat} {R : RdS} (h : RfAt w g R) (b : List UInt8) : RfAt (w.setCell ⟨g, 0, none⟩ (.string (mkB b))) g ⟨b, R.e⟩ := heap_set h 0 _
theorem mod_one {w : World} {p : Addr} (u : Value) : Mod (fun k => k = p.block) w (w.setCell p u) := Mod.setCell (Mod.refl (fun k => k = p.block) w) (fun _ => rfl) u

set_option maxHeartbeats 800000 in
set_option maxRecDepth 100000 in
theorem rfFail_calls (g : Nat) (R : RdS) (e : Int) (w : World) (hd : RfAt w g R) : Calls Tryz.prog 92 #[.pointer (some ⟨g, 0, none⟩), .int .i64 e] w fun en w' => en = .returned (.tuple #[]) ∧ RfAt w' g (R.fail e) ∧ Mod (fun k => k = g) w w' := by
  have HD := hid hd
  obtain ⟨c0, c1, f0, f1, hg⟩ := hd.cells
  clear hd
  by_cases h0 : R.e = 0
  · have e0 : (R.e == (0 : Int)) = true := by rw [beq_iff_eq]; exact h0
    have HV := hid (show R.fail e = ⟨R.b, e⟩ by unfold RdS.fail; rw [if_pos h0])
    clear h0
    go_enter Tryz.func92, Tryz.ntmps92
    go_wp2
    go_end0
    exact ⟨rfl, by rw [HV.out]; exact HD.out.setE e, mod_one (p := ⟨g, 1, none⟩) _⟩
  · have e0 : (R.e == (0 : Int)) = false := by rw [beq_eq_false_iff_ne]; exact h0
    have HV := hid (show R.fail e = R by unfold RdS.fail; rw [if_neg h0])
    clear h0
    go_enter Tryz.func92, Tryz.ntmps92
    go_wp2
    go_end0
    exact ⟨rfl, by rw [HV.out]; exact HD.out, Mod.refl _ _⟩

set_option maxHeartbeats 800000 in
set_option maxRecDepth 100000 in
theorem rfEnd_calls (g : Nat) (R : RdS) (w : World) (hd : RfAt w g R) (hl : R.b.length ≤ 1000000) : Calls Tryz.prog 94 #[.pointer (some ⟨g, 0, none⟩)] w fun en w' => en = .returned (.int .i64 R.fin) ∧ w = w' := by
  obtain ⟨c0, c1, f0, f1, hg⟩ := hd.cells
  have s2 := mkB_size R.b
  clear hd
  by_cases h0 : R.e = 0
  · have e0 : (R.e == (0 : Int)) = true := by rw [beq_iff_eq]; exact h0
    have e1 : (R.e != (0 : Int)) = false := by rw [bne_eq_false_iff_eq]; exact h0
    by_cases hl : 0 < R.b.length
    · have hl2 : (0 : Int) < R.b.length := by omega
      have HV := hid (show R.fin = 3 by unfold RdS.fin; rw [if_neg (by simp [h0]), if_pos hl])
      clear h0
      go_enter Tryz.func94, Tryz.ntmps94
      go_wp2
      go_ret
      exact ⟨ret_int (by rw [HV.out]), rfl⟩
    · have hl2 : ¬ (0 : Int) < R.b.length := by omega
      have HV := hid (show R.fin = R.e by unfold RdS.fin; rw [if_neg (by simp [h0]), if_neg hl, h0])
      clear h0
      go_enter Tryz.func94, Tryz.ntmps94
      go_wp2
      go_ret
      exact ⟨ret_int (by rw [HV.out]), rfl⟩
  · have e0 : (R.e == (0 : Int)) = false := by rw [beq_eq_false_iff_ne]; exact h0
    have e1 : (R.e != (0 : Int)) = true := by rw [bne_iff_ne]; exact h0
    have HV := hid (show R.fin = R.e by unfold RdS.fin; rw [if_pos h0])
    clear h0
    go_enter Tryz.func94, Tryz.ntmps94
    go_wp2
    go_ret
    exact ⟨ret_int (by rw [HV.out]), rfl⟩
end Go.Proofs.YtkjncmmombkllaaGreat
namespace Go.Proofs.YtkjncmmombkllaaGreat
open Go.RowKit Go.Lib

/-- What Next answers. -/
def nextV (b : List UInt8) (most : Int) : Value := .tuple #[.int .i64 (nextN b most).2.1, .int .i64 (nextN b most).2.2, .int .i64 (nextN b most).1]

set_option maxHeartbeats 1600000 in
set_option maxRecDepth 100000 in
theorem rfNext_nil (most : Int) (w : World) : Calls Tryz.prog 106 #[.string (mkB []), .int .i64 most] w fun en w' => en = .returned (.tuple #[.int .i64 0, .int .i64 0, .int .i64 2]) ∧ Below w.heap.size w w' := by
  have s1 : (mkB []).size = 0 := rfl
  go_enter Tryz.func106, Tryz.ntmps106
  go_wp2
  go_ret3
  exact ⟨rfl, Below.refl _ _⟩

set_option maxHeartbeats 1600000 in
set_option maxRecDepth 100000 in
theorem rfNext_low (x : UInt8) (r : List UInt8) (most : Int) (w : World) (hl : r.length ≤ 1000000) (hx : x.toNat < 248 ∨ x.toNat = 255) : Calls Tryz.prog 106 #[.string (mkB (x :: r)), .int .i64 most] w fun en w' => en = .returned (nextV (x :: r) most) ∧ Below w.heap.size w w' := by
  have s1 : (mkB (x :: r)).size = r.length + 1 := by rw [mkB_size, List.length_cons]
  have b0 : bN (mkB (x :: r)) 0 = x.toNat := by
    have := data_at (s := mkB (x :: r)) (k := 0) (by rw [s1]; omega)
    rw [mkB_data] at this
    simp at this
    unfold bN
    rw [← this]
  have hbn := bN_at (mkB (x :: r))
  obtain ⟨s, hs⟩ : ∃ s, s = mkB (x :: r) := ⟨_, rfl⟩
  rw [← hs] at s1 b0 hbn ⊢
  have h00 : 0 < s.size := by omega
  have h01 : (0 : Int) < s.size := by omega
  have h02 : ((s.size : Int) == 0) = false := by rw [beq_eq_false_iff_ne]; omega
  have h03 : (s.size == 0) = false := by rw [beq_eq_false_iff_ne]; omega
  have hxl := x.toNat_lt
  have hsm : s.size ≤ 1000001 := by omega
  clear hs s1
  rcases hx with hx | hx
  · have hxi : ((x.toNat : Int) == 255) = false := by rw [beq_eq_false_iff_ne]; omega
    have hxj : (x.toNat == 255) = false := by rw [beq_eq_false_iff_ne]; omega
    have hxk : ¬ (248 : Int) ≤ x.toNat := by omega
    by_cases hm : max most 0 < (x.toNat : Int)
    · have HV := hid (show nextV (x :: r) most = .tuple #[.int .i64 0, .int .i64 0, .int .i64 4] by unfold nextV nextN; simp only; rw [if_pos hx, if_pos hm]; rfl)
      have h1 : most < (x.toNat : Int) := by omega
      have h2 : (0 : Int) < (x.toNat : Int) := by omega
      have h3 : 0 < x.toNat := by omega
      go_enter Tryz.func106, Tryz.ntmps106
      go_wp2
      go_ret3
      exact ⟨congrArg Ending.returned HV.out.symm, Below.refl _ _⟩
    · have HV := hid (show nextV (x :: r) most = .tuple #[.int .i64 x.toNat, .int .i64 1, .int .i64 0] by unfold nextV nextN; simp only; rw [if_pos hx, if_neg hm]; rfl)
      by_cases h1 : most < (x.toNat : Int)
      · have h3 : x.toNat = 0 := by omega
        have h2 : ¬ (0 : Int) < (x.toNat : Int) := by omega
        have h4 : ¬ 0 < x.toNat := by omega
        clear h3
        go_enter Tryz.func106, Tryz.ntmps106
        go_wp2
        go_ret3
        exact ⟨congrArg Ending.returned HV.out.symm, Below.refl _ _⟩
      · go_enter Tryz.func106, Tryz.ntmps106
        go_wp2
        go_ret3
        exact ⟨congrArg Ending.returned HV.out.symm, Below.refl _ _⟩
  · have HV := hid (show nextV (x :: r) most = .tuple #[.int .i64 0, .int .i64 0, .int .i64 3] by unfold nextV nextN; simp only; rw [if_neg (by omega), if_pos hx]; rfl)
    have hxi : ((x.toNat : Int) == 255) = true := by rw [beq_iff_eq]; omega
    have hxj : (x.toNat == 255) = true := by rw [beq_iff_eq]; omega
    go_enter Tryz.func106, Tryz.ntmps106
    go_wp2
    go_ret3
    exact ⟨congrArg Ending.returned HV.out.symm, Below.refl _ _⟩

set_option maxHeartbeats 3200000 in
set_option maxRecDepth 100000 in
theorem rfNext_long (x : UInt8) (r : List UInt8) (most : Int) (w : World) (hl : r.length ≤ 1000000) (hx : 248 ≤ x.toNat) (hx2 : x.toNat < 255) : Calls Tryz.prog 106 #[.string (mkB (x :: r)), .int .i64 most] w fun en w' => en = .returned (nextV (x :: r) most) ∧ Below w.heap.size w w' := by
  have s1 : (mkB (x :: r)).size = r.length + 1 := by rw [mkB_size, List.length_cons]
  have b0 : bN (mkB (x :: r)) 0 = x.toNat := by
    have := data_at (s := mkB (x :: r)) (k := 0) (by rw [s1]; omega)
    rw [mkB_data] at this
    simp at this
    unfold bN
    rw [← this]
  have HB : Hid (∀ k y, r[k]? = some y → bN (mkB (x :: r)) (k + 1) = y.toNat) := fun k y hy => by
    have hk := (List.getElem?_eq_some_iff.1 hy).1
    have := data_at (s := mkB (x :: r)) (k := k + 1) (by rw [s1]; omega)
    rw [mkB_data, List.getElem?_cons_succ, hy] at this
    unfold bN
    injection this with this
    rw [← this]
  have hbn := bN_at (mkB (x :: r))
  obtain ⟨s, hs⟩ : ∃ s, s = mkB (x :: r) := ⟨_, rfl⟩
  rw [← hs] at s1 b0 hbn HB ⊢
  obtain ⟨u, hu⟩ : ∃ u, u = x.toNat - 247 := ⟨_, rfl⟩
  have hxu : x.toNat = u + 247 := by omega
  rw [hxu] at b0
  have hu7 : u ≤ 7 := by omega
  have hu1 : 1 ≤ u := by omega
  have h00 : 0 < s.size := by omega
  have h01 : (0 : Int) < s.size := by omega
  have h02 : ((s.size : Int) == 0) = false := by rw [beq_eq_false_iff_ne]; omega
  have h03 : (s.size == 0) = false := by rw [beq_eq_false_iff_ne]; omega
  have h04 : ((u : Int) + 247 == 255) = false := by rw [beq_eq_false_iff_ne]; omega
  have h05 : (u + 247 == 255) = false := by rw [beq_eq_false_iff_ne]; omega
  have h06 : (248 : Int) ≤ (u : Int) + 247 := by omega
  have h07 : (u : Int) + 247 - 247 = u := by omega
  clear hs
  by_cases hsh : r.length < u
  · have HV := hid (show nextV (x :: r) most = .tuple #[.int .i64 0, .int .i64 0, .int .i64 2] by unfold nextV nextN; simp only; rw [if_neg (by omega), if_neg (by omega), ← hu, if_pos hsh]; rfl)
    have h1 : (s.size : Int) < 1 + u := by omega
    clear hu hxu
    go_enter Tryz.func106, Tryz.ntmps106
    go_wp2
    go_ret3
    exact ⟨congrArg Ending.returned HV.out.symm, Below.refl _ _⟩
  · obtain ⟨N, hN⟩ : ∃ N, N = valN (r.take u) := ⟨_, rfl⟩
    have hNl : N ≤ 72057594037927935 := by
      have h1 := valN_lt (r.take u)
      have h2 : (r.take u).length ≤ 7 := by rw [List.length_take]; omega
      have h3 : 256 ^ (r.take u).length ≤ 256 ^ 7 := Nat.pow_le_pow_right (by decide) h2
      rw [hN]; omega
    have HV := hid (show nextV (x :: r) most = (if N < 248 ∨ width N ≠ u then .tuple #[.int .i64 0, .int .i64 0, .int .i64 3] else if max most 0 < (N : Int) then .tuple #[.int .i64 0, .int .i64 0, .int .i64 4] else .tuple #[.int .i64 N, .int .i64 (1 + u), .int .i64 0]) by
      have hv : nextN (x :: r) most = if N < 248 ∨ width N ≠ u then (3, 0, 0) else if max most 0 < (N : Int) then (4, 0, 0) else (0, N, u + 1) := by
        unfold nextN; simp only; rw [if_neg (by omega), if_neg (by omega), ← hu, if_neg hsh, ← hN]
      unfold nextV
      rw [hv]
      split
      · rfl
      · split
        · rfl
        · show Value.tuple #[.int .i64 N, .int .i64 ((u + 1 : Nat) : Int), .int .i64 0] = _
          rw [show ((u + 1 : Nat) : Int) = 1 + (u : Int) by omega])
    have HN := hid hN
    have h1 : ¬ (s.size : Int) < 1 + u := by omega
    have HSZ := hid s1
    have HSH := hid hsh
    have hus : (u : Int) < s.size := by omega
    clear hu hxu hN s1 hsh
    go_enter Tryz.func106, Tryz.ntmps106
    go_wp2_with fail
    go_loopw [8, 9] (fun nv iv wr => ∃ j : Nat, j ≤ u ∧ nv = .int .i64 ((valN (r.take j) : Nat) : Int) ∧ iv = .int .i64 ((j : Int) + 1) ∧ w = wr) (fun _ iv _ => (u + 1) - (intOf iv).toNat)
    case atStart => exact ⟨0, by omega, rfl, rfl, rfl⟩
    case round =>
      obtain ⟨j, hj, rfl, rfl, rfl⟩ := hrel
      by_cases hlt : j < u
      · obtain ⟨y, hy⟩ : ∃ y, r[j]? = some y := ⟨_, List.getElem?_eq_getElem (by have := HSH.out; omega)⟩
        have hyb := HB.out j y hy
        have HV2 := hid (show valN (r.take (j + 1)) = valN (r.take j) * 256 + y.toNat by rw [take_snoc hy, valN_snoc])
        have hVl : valN (r.take j) < 281474976710656 := by
          have h1 := valN_lt (r.take j)
          have h2 : (r.take j).length ≤ 6 := by rw [List.length_take]; omega
          have h3 : 256 ^ (r.take j).length ≤ 256 ^ 6 := Nat.pow_le_pow_right (by decide) h2
          omega
        obtain ⟨M, hM⟩ : ∃ M, M = valN (r.take j) := ⟨_, rfl⟩
        rw [← hM] at HV2 hVl ⊢
        have hyl := y.toNat_lt
        have hw1 : IntKind.i64.wrap ((M : Int) * 256) = (M : Int) * 256 := IntWalk.i64_in _ (by omega)
        have hw2 : IntKind.i64.wrap ((M : Int) * 256 + y.toNat) = (M : Int) * 256 + y.toNat := IntWalk.i64_in _ (by omega)
        have hw3 : (0 : Int) ≤ (j : Int) + 1 := by omega
        have hw4 : ((j : Int) + 1).toNat = j + 1 := by omega
        have hw5 : (j : Int) + 1 < (s.size : Int) := by omega
        have hw6 : (j : Int) + 1 ≤ u := by omega
        have hw7 : IntKind.i64.wrap ((j : Int) + 1 + 1) = (j : Int) + 1 + 1 := IntWalk.i64_in _ (by omega)
        have hw8 : j + 1 < s.size := by omega
        clear hM hy
        go_wp2
        go_roundw
        case rel => exact ⟨j + 1, by omega, congrArg (Value.int .i64) (by rw [HV2.out]; omega), congrArg (Value.int .i64) (by omega), trivial⟩
        case measure => simp [intOf]; omega
      · obtain rfl : u = j := by omega
        have hge : ¬ (u : Int) + 1 ≤ u := by omega
        rw [← HN.out]
        by_cases hs1 : N < 248
        · have hsI : (N : Int) < 248 := by omega
          go_wp2
          go_ret3
          exact ⟨congrArg Ending.returned (HV.out.trans (if_pos (.inl hs1))).symm, Below.refl _ _⟩
        · have hsI : ¬ (N : Int) < 248 := by omega
          obtain ⟨z, hz⟩ : ∃ z, z = mkB (be N (width N)) := ⟨_, rfl⟩
          have hzs : z.size = width N := by rw [hz, mkB_size, be_len]
          have HZ := hid hz
          clear hz
          by_cases hw : width N = u
          · rw [hw] at hzs
            go_wp2_with fail
            refine (rbytes_calls N _ (by unfold maxNum; omega)).mono ?_
            rintro e w1 ⟨rfl, hb1⟩
            rw [← HZ.out]
            by_cases hm : max most 0 < (N : Int)
            · have hm1 : most < (N : Int) := by omega
              have hm2 : (0 : Int) < N := by omega
              have hm3 : 0 < N := by omega
              go_wp2
              go_ret3
              exact ⟨congrArg Ending.returned (HV.out.trans ((if_neg (by omega)).trans (if_pos hm))).symm, hb1⟩
            · have hm1 : ¬ most < (N : Int) := by omega
              go_wp2
              go_ret3
              exact ⟨congrArg Ending.returned (HV.out.trans ((if_neg (by omega)).trans (if_neg (show ¬ max most 0 < (N : Int) by omega)))).symm, hb1⟩
          · have hw1 : ((width N : Int) == (u : Int)) = false := by rw [beq_eq_false_iff_ne]; omega
            have hw2 : ((width N : Int) != (u : Int)) = true := by rw [bne_iff_ne]; omega
            go_wp2_with fail
            refine (rbytes_calls N _ (by unfold maxNum; omega)).mono ?_
            rintro e w1 ⟨rfl, hb1⟩
            rw [← HZ.out]
            go_wp2
            go_ret3
            exact ⟨congrArg Ending.returned (HV.out.trans (if_pos (.inr hw))).symm, hb1⟩

theorem rfNext_calls (b : List UInt8) (most : Int) (w : World) (hl : b.length ≤ 1000000) : Calls Tryz.prog 106 #[.string (mkB b), .int .i64 most] w fun en w' => en = .returned (nextV b most) ∧ Below w.heap.size w w' := by
  cases b with
  | nil => exact rfNext_nil most w
  | cons x r =>
    have hx := x.toNat_lt
    rw [List.length_cons] at hl
    by_cases h1 : x.toNat < 248 ∨ x.toNat = 255
    · exact rfNext_low x r most w (by omega) h1
    · exact rfNext_long x r most w (by omega) (by omega) (by omega)
end Go.Proofs.YtkjncmmombkllaaGreat
namespace Go.Proofs.YtkjncmmombkllaaGreat
open Go.RowKit

theorem mod_below {F : Nat → Prop} {w w1 w2 : World} (h : Below w.heap.size w w1) (k : Mod F w1 w2) : Mod F w w2 := (Mod.of_below h).trans k (fun _ _ h => h)

set_option maxHeartbeats 1600000 in
set_option maxRecDepth 100000 in
theorem rfNum_calls (g : Nat) (R : RdS) (most : Int) (w : World) (hd : RfAt w g R) (hl : R.b.length ≤ 1000000) : Calls Tryz.prog 91 #[.pointer (some ⟨g, 0, none⟩), .int .i64 most] w fun en w' => en = .returned (.int .i64 (R.num most).1) ∧ RfAt w' g (R.num most).2 ∧ Mod (fun k => k = g) w w' := by
  have HD := hid hd
  obtain ⟨c0, c1, f0, f1, hg⟩ := hd.cells
  clear hd
  have s2 := mkB_size R.b
  by_cases h0 : R.e = 0
  · have e0 : (R.e == (0 : Int)) = true := by rw [beq_iff_eq]; exact h0
    have e1 : (R.e != (0 : Int)) = false := by rw [bne_eq_false_iff_eq]; exact h0
    have H0 := hid h0
    clear h0
    by_cases hz : (nextN R.b most).1 = 0
    · obtain ⟨n1, n2, n3, n4, n5⟩ := nextN_ok hz
      have HN := hid (show nextV R.b most = .tuple #[.int .i64 (nextN R.b most).2.1, .int .i64 (nextN R.b most).2.2, .int .i64 0] by unfold nextV; rw [hz])
      have HV := hid (show R.num most = (((nextN R.b most).2.1 : Int), ⟨R.b.drop (nextN R.b most).2.2, 0⟩) by unfold RdS.num; rw [if_neg (by simp [H0.out]), if_neg (by simp [hz])])
      obtain ⟨K, hK⟩ : ∃ K, K = (nextN R.b most).2.2 := ⟨_, rfl⟩
      obtain ⟨N, hN⟩ : ∃ N, N = (nextN R.b most).2.1 := ⟨_, rfl⟩
      rw [← hK] at n1 n2 n5 HV HN
      rw [← hN] at n3 n4 HV HN
      clear hK hN hz
      have hk1 : (K : Int) ≤ R.b.length := by omega
      have hk2 : K ≤ (mkB R.b).size := by omega
      go_enter Tryz.func91, Tryz.ntmps91
      go_wp2_with fail
      refine (rfNext_calls R.b most _ hl).mono ?_
      rintro e w1 ⟨rfl, hb⟩
      rw [HN.out]
      obtain ⟨d0, d1, i0, i1, hg1⟩ := (HD.out.below hb).cells
      have HB := hid hb
      clear hb c0 c1 f0 f1
      go_wp2
      go_ret
      rw [HV.out, mkB_extract]
      have hx := ((HD.out.below HB.out).setE 0).setB ((R.b.drop K).take (R.b.length - K))
      rw [List.take_of_length_le (by simp)] at hx ⊢
      exact ⟨rfl, hx, mod_below HB.out ((mod_one (p := ⟨g, 1, none⟩) _).setCell (p := ⟨g, 0, none⟩) (fun _ => rfl) _)⟩
    · have HV := hid (show R.num most = (0, ⟨R.b, (nextN R.b most).1⟩) by unfold RdS.num; rw [if_neg (by simp [H0.out]), if_pos hz])
      obtain ⟨E, hE⟩ : ∃ E, E = (nextN R.b most).1 := ⟨_, rfl⟩
      have hz1 : (E == (0 : Int)) = false := by rw [beq_eq_false_iff_ne, hE]; exact hz
      have hz2 : (E != (0 : Int)) = true := by rw [bne_iff_ne, hE]; exact hz
      have HN := hid (show nextV R.b most = .tuple #[.int .i64 (nextN R.b most).2.1, .int .i64 (nextN R.b most).2.2, .int .i64 E] by unfold nextV; rw [hE])
      rw [← hE] at HV
      clear hE hz
      go_enter Tryz.func91, Tryz.ntmps91
      go_wp2_with fail
      refine (rfNext_calls R.b most _ hl).mono ?_
      rintro e w1 ⟨rfl, hb⟩
      rw [HN.out]
      obtain ⟨d0, d1, i0, i1, hg1⟩ := (HD.out.below hb).cells
      have HB := hid hb
      clear hb c0 c1 f0 f1
      go_wp2
      go_ret
      rw [HV.out]
      exact ⟨rfl, (HD.out.below HB.out).setE E, mod_below HB.out (mod_one (p := ⟨g, 1, none⟩) _)⟩
  · have e0 : (R.e == (0 : Int)) = false := by rw [beq_eq_false_iff_ne]; exact h0
    have e1 : (R.e != (0 : Int)) = true := by rw [bne_iff_ne]; exact h0
    have HV := hid (show R.num most = (0, R) by unfold RdS.num; rw [if_pos h0])
    clear h0
    go_enter Tryz.func91, Tryz.ntmps91
    go_wp2
    go_ret
    rw [HV.out]
    exact ⟨rfl, HD.out, Mod.refl _ _⟩

set_option maxHeartbeats 3200000 in
set_option maxRecDepth 100000 in
theorem rfText_calls (g : Nat) (R : RdS) (most : Int) (w : World) (hd : RfAt w g R) (hl : R.b.length ≤ 1000000) : Calls Tryz.prog 90 #[.pointer (some ⟨g, 0, none⟩), .int .i64 most] w fun en w' => en = .returned (.string (mkB (R.text most).1)) ∧ RfAt w' g (R.text most).2 ∧ Mod (fun k => k = g) w w' := by
  have HD := hid hd
  obtain ⟨c0, c1, f0, f1, hg⟩ := hd.cells
  clear hd
  have s2 := mkB_size R.b
  by_cases h0 : R.e = 0
  · have e0 : (R.e == (0 : Int)) = true := by rw [beq_iff_eq]; exact h0
    have e1 : (R.e != (0 : Int)) = false := by rw [bne_eq_false_iff_eq]; exact h0
    have H0 := hid h0
    clear h0
    by_cases hz : (nextN R.b most).1 = 0
    · obtain ⟨n1, n2, n3, n4, n5⟩ := nextN_ok hz
      have HN := hid (show nextV R.b most = .tuple #[.int .i64 (nextN R.b most).2.1, .int .i64 (nextN R.b most).2.2, .int .i64 0] by unfold nextV; rw [hz])
      by_cases hs : R.b.length < (nextN R.b most).2.2 + (nextN R.b most).2.1
      · have HV := hid (show R.text most = ([], ⟨R.b, 2⟩) by unfold RdS.text; rw [if_neg (by simp [H0.out]), if_neg (by simp [hz]), if_pos hs])
        obtain ⟨K, hK⟩ : ∃ K, K = (nextN R.b most).2.2 := ⟨_, rfl⟩
        obtain ⟨N, hN⟩ : ∃ N, N = (nextN R.b most).2.1 := ⟨_, rfl⟩
        rw [← hK] at n1 n2 n5 hs HN
        rw [← hN] at n3 n4 hs HN
        clear hK hN hz
        have hs1 : (R.b.length : Int) - K < N := by omega
        have hw : IntKind.i64.wrap ((R.b.length : Int) - K) = R.b.length - K := IntWalk.i64_in _ (by omega)
        go_enter Tryz.func90, Tryz.ntmps90
        go_wp2_with fail
        refine (rfNext_calls R.b most _ hl).mono ?_
        rintro e w1 ⟨rfl, hb⟩
        rw [HN.out]
        obtain ⟨d0, d1, i0, i1, hg1⟩ := (HD.out.below hb).cells
        have HB := hid hb
        clear hb c0 c1 f0 f1
        go_wp2
        go_ret
        rw [HV.out]
        exact ⟨rfl, ((HD.out.below HB.out).setE 0).setE 2, mod_below HB.out ((mod_one (p := ⟨g, 1, none⟩) _).setCell (p := ⟨g, 1, none⟩) (fun _ => rfl) _)⟩
      · have HV := hid (show R.text most = ((R.b.drop (nextN R.b most).2.2).take (nextN R.b most).2.1, ⟨R.b.drop ((nextN R.b most).2.2 + (nextN R.b most).2.1), 0⟩) by unfold RdS.text; rw [if_neg (by simp [H0.out]), if_neg (by simp [hz]), if_neg hs])
        obtain ⟨K, hK⟩ : ∃ K, K = (nextN R.b most).2.2 := ⟨_, rfl⟩
        obtain ⟨N, hN⟩ : ∃ N, N = (nextN R.b most).2.1 := ⟨_, rfl⟩
        rw [← hK] at n1 n2 n5 hs HN HV
        rw [← hN] at n3 n4 hs HN HV
        clear hK hN hz
        have hs1 : ¬ (R.b.length : Int) - K < N := by omega
        have hw : IntKind.i64.wrap ((R.b.length : Int) - K) = R.b.length - K := IntWalk.i64_in _ (by omega)
        have hw2 : IntKind.i64.wrap ((K : Int) + N) = K + N := IntWalk.i64_in _ (by omega)
        have hw3 : (0 : Int) ≤ (K : Int) + N := by omega
        have hw4 : ((K : Int) + N).toNat = K + N := by omega
        have hw5 : (K : Int) + N ≤ R.b.length := by omega
        have hw6 : (K : Int) ≤ (K : Int) + N := by omega
        have hw7 : K + N ≤ R.b.length := by omega
        go_enter Tryz.func90, Tryz.ntmps90
        go_wp2_with fail
        refine (rfNext_calls R.b most _ hl).mono ?_
        rintro e w1 ⟨rfl, hb⟩
        rw [HN.out]
        obtain ⟨d0, d1, i0, i1, hg1⟩ := (HD.out.below hb).cells
        have HB := hid hb
        clear hb c0 c1 f0 f1
        go_wp2
        go_ret
        rw [HV.out, mkB_extract, mkB_extract, Nat.add_sub_cancel_left]
        have hx := ((HD.out.below HB.out).setE 0).setB ((R.b.drop (K + N)).take (R.b.length - (K + N)))
        rw [List.take_of_length_le (l := R.b.drop (K + N)) (by simp)] at hx ⊢
        exact ⟨rfl, hx, mod_below HB.out ((mod_one (p := ⟨g, 1, none⟩) _).setCell (p := ⟨g, 0, none⟩) (fun _ => rfl) _)⟩
    · have HV := hid (show R.text most = ([], ⟨R.b, (nextN R.b most).1⟩) by unfold RdS.text; rw [if_neg (by simp [H0.out]), if_pos hz])
      obtain ⟨E, hE⟩ : ∃ E, E = (nextN R.b most).1 := ⟨_, rfl⟩
      have hz1 : (E == (0 : Int)) = false := by rw [beq_eq_false_iff_ne, hE]; exact hz
      have hz2 : (E != (0 : Int)) = true := by rw [bne_iff_ne, hE]; exact hz
      have HN := hid (show nextV R.b most = .tuple #[.int .i64 (nextN R.b most).2.1, .int .i64 (nextN R.b most).2.2, .int .i64 E] by unfold nextV; rw [hE])
      rw [← hE] at HV
      clear hE hz
      go_enter Tryz.func90, Tryz.ntmps90
      go_wp2_with fail
      refine (rfNext_calls R.b most _ hl).mono ?_
      rintro e w1 ⟨rfl, hb⟩
      rw [HN.out]
      obtain ⟨d0, d1, i0, i1, hg1⟩ := (HD.out.below hb).cells
      have HB := hid hb
      clear hb c0 c1 f0 f1
      go_wp2
      go_ret
      rw [HV.out]
      exact ⟨rfl, (HD.out.below HB.out).setE E, mod_below HB.out (mod_one (p := ⟨g, 1, none⟩) _)⟩
  · have e0 : (R.e == (0 : Int)) = false := by rw [beq_eq_false_iff_ne]; exact h0
    have e1 : (R.e != (0 : Int)) = true := by rw [bne_iff_ne]; exact h0
    have HV := hid (show R.text most = ([], R) by unfold RdS.text; rw [if_pos h0])
    clear h0
    go_enter Tryz.func90, Tryz.ntmps90
    go_wp2
    go_ret
    rw [HV.out]
    exact ⟨rfl, HD.out, Mod.refl _ _⟩

end Go.Proofs.YtkjncmmombkllaaGreat
/- While a struct is read: the result's cells, the reader, the struct's cells. -/
namespace Go.Proofs.YtkjncmmombkllaaGreat
open Go.RowKit

/-- rb the result's cells (z), g the reader (its bytes in between, below B), gx the struct's cells. -/
def RI (z : Array Value) (t : TypeId) (rb B g gx : Nat) (w W : World) (R : RdS) (cs : Array Value) : Prop :=
  W.heap[rb]? = some (.cells z t (0, 0)) ∧ RdAt W (fun k => rb < k ∧ k < B) g R ∧ W.heap[gx]? = some (.cells cs t (0, 0)) ∧ Below rb w W ∧ B ≤ gx
section
variable {z : Array Value} {t : TypeId} {rb B g gx : Nat} {w W W' : World} {R R' : RdS} {cs : Array Value}
theorem RI.call (h : RI z t rb B g gx w W R cs) (hA : RdAt W' (fun k => rb < k ∧ k < B) g R') (hM : Mod (fun k => k = g) W W') : RI z t rb B g gx w W' R' cs := by
  obtain ⟨h1, h2, h3, h4, h5⟩ := h
  have hg := h2.1
  have l1 := (Array.getElem?_eq_some_iff.1 h1).1
  have l3 := (Array.getElem?_eq_some_iff.1 h3).1
  exact ⟨(hM.block rb l1 (by omega)).trans h1, hA, (hM.block gx l3 (by omega)).trans h3, h4.trans (hM.below (fun k _ hk => by subst hk; omega) (by omega)), h5⟩
theorem RI.set (h : RI z t rb B g gx w W R cs) (i : Nat) (u : Value) : RI z t rb B g gx w (W.setCell ⟨gx, i, none⟩ u) R (cs.setIfInBounds i u) := by
  obtain ⟨h1, h2, h3, h4, h5⟩ := h
  have hg := h2.1
  exact ⟨(Below.heap_setCell W ⟨gx, i, none⟩ u rb (show rb ≠ gx by omega)).trans h1, h2.move (fun k hk hT => Below.heap_setCell W ⟨gx, i, none⟩ u k (show k ≠ gx by omega)), heap_set h3 i u, h4.setCell (show rb ≤ gx by omega) u, h5⟩
theorem RI.above (h : RI z t rb B g gx w W R cs) (hb : Below (gx + 1) W W') : RI z t rb B g gx w W' R cs := by
  obtain ⟨h1, h2, h3, h4, h5⟩ := h
  have hg := h2.1
  exact ⟨(hb.block rb (by omega)).trans h1, h2.move (fun k hk hT => hb.block k (by omega)), (hb.block gx (by omega)).trans h3, h4.trans (hb.mono (by omega)), h5⟩
theorem RI.rd (h : RI z t rb B g gx w W R cs) : RdAt W (fun k => rb < k ∧ k < B) g R := h.2.1
theorem RI.cell (h : RI z t rb B g gx w W R cs) (i : Nat) (u : Value) (hu : cs[i]? = some u) : W.cell? ⟨gx, i, none⟩ = some u := (cells_of_block h.2.2.1).1 i u hu
theorem RI.froz (h : RI z t rb B g gx w W R cs) (i : Nat) : W.frozen? ⟨gx, i, none⟩ = false := (cells_of_block h.2.2.1).2.1 i
theorem RI.lt (h : RI z t rb B g gx w W R cs) : gx < W.heap.size := (cells_of_block h.2.2.1).2.2
theorem RI.rcell (h : RI z t rb B g gx w W R cs) (i : Nat) (u : Value) (hu : z[i]? = some u) : W.cell? ⟨rb, i, none⟩ = some u := (cells_of_block h.1).1 i u hu
theorem RI.rfroz (h : RI z t rb B g gx w W R cs) (i : Nat) : W.frozen? ⟨rb, i, none⟩ = false := (cells_of_block h.1).2.1 i
theorem RI.rlt (h : RI z t rb B g gx w W R cs) : rb < W.heap.size := (cells_of_block h.1).2.2
theorem RI.ne (h : RI z t rb B g gx w W R cs) : rb ≠ gx := by
  have := h.2.1.1; have := h.2.2.2.2; omega
theorem RI.bel (h : RI z t rb B g gx w W R cs) : Below rb w W := h.2.2.2.1
end
/-- The document's: rb the result's cells, g the reader, gx the struct's cells. -/
def FI (z : Array Value) (t : TypeId) (rb g gx : Nat) (w W : World) (R : RdS) (cs : Array Value) : Prop :=
  W.heap[rb]? = some (.cells z t (0, 0)) ∧ RfAt W g R ∧ W.heap[gx]? = some (.cells cs t (0, 0)) ∧ Below rb w W ∧ rb < g ∧ g < gx
section
variable {z : Array Value} {t : TypeId} {rb g gx : Nat} {w W W' : World} {R R' : RdS} {cs : Array Value}
theorem FI.call (h : FI z t rb g gx w W R cs) (hA : RfAt W' g R') (hM : Mod (fun k => k = g) W W') : FI z t rb g gx w W' R' cs := by
  obtain ⟨h1, h2, h3, h4, h5, h6⟩ := h
  have l1 := (Array.getElem?_eq_some_iff.1 h1).1
  have l3 := (Array.getElem?_eq_some_iff.1 h3).1
  exact ⟨(hM.block rb l1 (by omega)).trans h1, hA, (hM.block gx l3 (by omega)).trans h3, h4.trans (hM.below (fun k _ hk => by subst hk; omega) (by omega)), h5, h6⟩
theorem FI.set (h : FI z t rb g gx w W R cs) (i : Nat) (u : Value) : FI z t rb g gx w (W.setCell ⟨gx, i, none⟩ u) R (cs.setIfInBounds i u) := by
  obtain ⟨h1, h2, h3, h4, h5, h6⟩ := h
  exact ⟨(Below.heap_setCell W ⟨gx, i, none⟩ u rb (show rb ≠ gx by omega)).trans h1, (Below.heap_setCell W ⟨gx, i, none⟩ u g (show g ≠ gx by omega)).trans h2, heap_set h3 i u, h4.setCell (show rb ≤ gx by omega) u, h5, h6⟩
theorem FI.above (h : FI z t rb g gx w W R cs) (hb : Below (gx + 1) W W') : FI z t rb g gx w W' R cs := by
  obtain ⟨h1, h2, h3, h4, h5, h6⟩ := h
  exact ⟨(hb.block rb (by omega)).trans h1, (hb.block g (by omega)).trans h2, (hb.block gx (by omega)).trans h3, h4.trans (hb.mono (by omega)), h5, h6⟩
theorem FI.rd (h : FI z t rb g gx w W R cs) : RfAt W g R := h.2.1
theorem FI.cell (h : FI z t rb g gx w W R cs) (i : Nat) (u : Value) (hu : cs[i]? = some u) : W.cell? ⟨gx, i, none⟩ = some u := (cells_of_block h.2.2.1).1 i u hu
theorem FI.froz (h : FI z t rb g gx w W R cs) (i : Nat) : W.frozen? ⟨gx, i, none⟩ = false := (cells_of_block h.2.2.1).2.1 i
theorem FI.lt (h : FI z t rb g gx w W R cs) : gx < W.heap.size := (cells_of_block h.2.2.1).2.2
theorem FI.rcell (h : FI z t rb g gx w W R cs) (i : Nat) (u : Value) (hu : z[i]? = some u) : W.cell? ⟨rb, i, none⟩ = some u := (cells_of_block h.1).1 i u hu
theorem FI.rfroz (h : FI z t rb g gx w W R cs) (i : Nat) : W.frozen? ⟨rb, i, none⟩ = false := (cells_of_block h.1).2.1 i
theorem FI.rlt (h : FI z t rb g gx w W R cs) : rb < W.heap.size := (cells_of_block h.1).2.2
theorem FI.ne (h : FI z t rb g gx w W R cs) : rb ≠ gx := by
  have := h.2.2.2.2; omega
theorem FI.bel (h : FI z t rb g gx w W R cs) : Below rb w W := h.2.2.2.1
end
theorem set2 {W : World} {rb : Nat} {t : TypeId} {z0 z1 : Value} (h : W.heap[rb]? = some (.cells #[z0, z1] t (0, 0))) (v0 v1 : Value) :
    ∃ W', W' = ((W.setCell ⟨rb, 0, none⟩ v0).setCell ⟨rb, 1, none⟩ v1) ∧ W'.cell? ⟨rb, 0, none⟩ = some v0 ∧ W'.cell? ⟨rb, 1, none⟩ = some v1 ∧ Below rb W W' ∧ ∀ k, k ≠ rb → W'.heap[k]? = W.heap[k]? := by
  have g0 := heap_set h 0 v0
  have g1 := heap_set g0 1 v1
  have e : (#[z0, z1].setIfInBounds 0 v0).setIfInBounds 1 v1 = #[v0, v1] := by simp
  rw [e] at g1
  have b0 := (Below.refl rb W).setCell (p := ⟨rb, 0, none⟩) (Nat.le_refl _) v0
  have b1 := b0.setCell (p := ⟨rb, 1, none⟩) (Nat.le_refl _) v1
  have n1 : ∀ k, k ≠ rb → ((W.setCell ⟨rb, 0, none⟩ v0).setCell ⟨rb, 1, none⟩ v1).heap[k]? = W.heap[k]? := fun k hk => by
    rw [Below.heap_setCell _ ⟨rb, 1, none⟩ _ k hk, Below.heap_setCell _ ⟨rb, 0, none⟩ _ k hk]
  obtain ⟨q, _, _⟩ := cells_of_block g1
  exact ⟨_, rfl, q 0 v0 rfl, q 1 v1 rfl, b1, n1⟩
end Go.Proofs.YtkjncmmombkllaaGreat
