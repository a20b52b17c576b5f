import Derived.Test.YtlckkcefkiffjaaProg
import Derived.Test.YtlckkcefkiffjaaLib
import Derived.Handy
namespace Go.Proofs.Ytlckkcefkiffjaa
open Go.RowKit

/-! ### names.first -/
def firstAt (p : Nat → Bool) (n : Int) (r : Int) : Prop := (0 ≤ r ∧ r < n ∧ p r.toNat = true ∧ ∀ j < r.toNat, p j = false) ∨ (r = -1 ∧ ∀ j : Nat, (j : Int) < n → p j = false)

set_option maxHeartbeats 400000 in
set_option maxRecDepth 100000 in
theorem first_calls (f : Nat) (cap : Array Value) (p : Nat → Bool) (n : Int) (w : World) (hn : n ≤ 140737488355328)
   (hE : ∀ args w, (callFunc f args).run Try.prog w = .ok (.enter f args) w)
   (hp : ∀ (i : Nat) (W : World), Below w.heap.size w W → (i : Int) < n → Calls Try.prog f (#[.int .i64 i] ++ cap) W fun e w' => e = .returned (.bool (p i)) ∧ Below W.heap.size W w') :
    Calls Try.prog 79 #[.int .i64 n, .func (.func f) #[] cap] w fun e w' => ∃ r, firstAt p n r ∧ e = .returned (.int .i64 r) ∧ Below w.heap.size w w' := by
  have hp' := hid hp
  clear hp
  go_enter Try.func79, Try.ntmps79
  go_wp2
  go_loopw [5] (fun i wr => ∃ k : Nat, (k : Int) ≤ max n 0 ∧ (∀ j < k, p j = false) ∧ i = .int .i64 k ∧ Below w.heap.size w wr) (fun i _ => (n - intOf i).toNat)
  case atStart => exact ⟨0, by omega, by simp, rfl, Below.refl _ _⟩
  case round =>
    obtain ⟨k, hk, hj, rfl, hb⟩ := hrel
    have HJ := hid hj
    clear hj
    by_cases hlt : (k : Int) < n
    · have h1' := hid (hp'.out k wr hb hlt)
      clear hp'
      go_wp2_with fail
      refine h1'.out.mono ?_
      rintro e w' ⟨rfl, hb1⟩
      clear h1'
      cases hpk : p k
      · go_wp2
        go_roundw
        case rel => exact ⟨k + 1, by omega, fun j hj => by rcases Nat.lt_succ_iff_lt_or_eq.1 hj with h | rfl; exact HJ.out j h; exact hpk, by go_num, bThen hb hb1⟩
        case measure => simp [intOf]; omega
      · go_wp2
        go_ret
        exact ⟨k, .inl ⟨by omega, by omega, hpk, HJ.out⟩, rfl, bThen hb hb1⟩
    · go_wp2
      go_ret
      exact ⟨-1, .inr ⟨rfl, fun j hj => HJ.out j (by omega)⟩, rfl, hb⟩

/-! ### names.Place -/
def placeN (l : List ByteArray) (s : ByteArray) : Option Nat := l.findIdx? fun x => decide (x = s)
def placeI (l : List ByteArray) (s : ByteArray) : Int := match placeN l s with | some k => (k : Int) | none => -1

theorem placeI_first (l : List ByteArray) (s : ByteArray) (r : Int) (h : firstAt (fun i => decide (l[i]?.getD ByteArray.empty = s)) l.length r) : r = placeI l s := by
  unfold placeI
  rcases h with ⟨h0, h1, h2, h3⟩ | ⟨rfl, h⟩
  · have : placeN l s = some r.toNat := by
      unfold placeN
      rw [List.findIdx?_eq_some_iff_getElem]
      refine ⟨by omega, ?_, fun j hj => ?_⟩
      · have hk : r.toNat < l.length := by omega
        simpa [List.getElem?_eq_getElem hk] using h2
      · have hk : j < l.length := by omega
        have := h3 j hj
        simpa [List.getElem?_eq_getElem hk] using this
    rw [this]; simp; omega
  · have : placeN l s = none := by
      unfold placeN
      rw [List.findIdx?_eq_none_iff]
      intro x hx
      obtain ⟨i, hi, rfl⟩ := List.getElem_of_mem hx
      have := h i (by omega)
      simpa [List.getElem?_eq_getElem hi] using this
    rw [this]

set_option maxHeartbeats 400000 in
set_option maxRecDepth 100000 in
theorem placeC_calls (i b1 b2 : Nat) (l : List ByteArray) (s : ByteArray) (A : Option Addr) (c : Nat) (w : World) (hi : i < l.length)
    (h1 : w.cell? ⟨b1, 0, none⟩ = some (.slice A l.length c)) (h2 : w.cell? ⟨b2, 0, none⟩ = some (.string s)) (hl : Kd.str.Row w Any A l) :
    Calls Try.prog 81 #[.int .i64 i, .pointer (some ⟨b1, 0, none⟩), .pointer (some ⟨b2, 0, none⟩)] w fun e w' => e = .returned (.bool (decide (l[i]?.getD ByteArray.empty = s))) ∧ Below w.heap.size w w' := by
  obtain ⟨a, x, rfl, hx, hc⟩ := hl.at_str i hi
  have HX := hid hx
  clear hx
  go_enter Try.func81, Try.ntmps81
  go_wp2
  go_quiet (fail)
  go_wp2
  go_ret
  exact ⟨by simp [HX.out, streq], below_drewN (Below.refl _ _) _⟩

theorem callFunc_placeC : ∀ args w, (callFunc 81 args).run Try.prog w = .ok (.enter 81 args) w := by
  intro args w
  kernel_rfl

set_option maxHeartbeats 400000 in
set_option maxRecDepth 100000 in
theorem place_calls (l : List ByteArray) (s : ByteArray) (v : Value) (w : World) (hl : Kd.str.slice.K w Any l [v]) :
    Calls Try.prog 46 #[v, .string s] w fun e w' => e = .returned (.int .i64 (placeI l s)) ∧ Below w.heap.size w w' := by
  obtain ⟨A, c, he, hc, hn, hr⟩ := hl
  cases he
  have hmf := makeFunc_run Try.prog
  go_enter Try.func46, Try.ntmps46
  go_wp2_with fail
  refine (first_calls _ _ (fun i => decide (l[i]?.getD ByteArray.empty = s)) _ _ (by omega) callFunc_placeC (fun i W hb hi => ?_)).mono ?_
  · refine placeC_calls i _ _ l s A c W (by omega) ?_ ?_ ((hr.below (((Below.refl _ w).alloc (Nat.le_refl _) _).alloc (by simp) _)).below hb)
    · rw [hb.cell (by simp; omega)]; simp [go_sem]
    · rw [hb.cell (by simp)]; simp [go_sem]
  · rintro e w' ⟨r, hf, rfl, hb⟩
    obtain rfl := placeI_first l s r hf
    clear hf
    go_wp2
    go_ret
    exact ⟨rfl, bThen (((Below.refl _ w).alloc (Nat.le_refl _) _).alloc (by simp) _) hb⟩

/-! ### names.Set -/
/-- the set of the names from some place on, as the table tells; the first place of a name that it lacks -/
def setN (l : List ByteArray) : List ByteArray → Nat → Nat → (Nat × Int × Int)
  | [], _, s => (s, -1, 0)
  | x :: xs, i, s => match placeN (l.take 64) x with | some k => setN l xs (i + 1) (s ||| 1 <<< k) | none => (0, i, 5)

theorem placeN_lt {l : List ByteArray} {s : ByteArray} {k : Nat} (h : placeN l s = some k) : k < l.length := by
  unfold placeN at h
  rw [List.findIdx?_eq_some_iff_getElem] at h
  exact h.1

set_option maxHeartbeats 400000 in
set_option maxRecDepth 100000 in
theorem set_calls (l m : List ByteArray) (v u : Value) (w : World) (hl : Kd.str.slice.K w Any l [v]) (hm : Kd.str.slice.K w Any m [u]) :
    Calls Try.prog 17 #[v, u] w fun e w' => e = .returned (.tuple #[.int .u64 (setN l m 0 0).1, .int .i64 (setN l m 0 0).2.1, .int .i64 (setN l m 0 0).2.2]) ∧ Below w.heap.size w w' := by
  obtain ⟨A, c, he, hc, hn, hr⟩ := hl
  cases he
  obtain ⟨B, d, he, hd, hk, hs⟩ := hm
  cases he
  obtain ⟨q, hq⟩ : ∃ q : Nat, q = min l.length 64 := ⟨_, rfl⟩
  have hmin : min (l.length : Int) 64 = (q : Int) := by omega
  have hq1 : q ≤ c := by omega
  have ht : (l.take 64).length = q := by rw [List.length_take]; omega
  have HQ : Hid (Kd.str.slice.K w Any (l.take 64) [.slice A q c]) := ⟨A, c, by rw [ht], by omega, by omega, hr.take 64⟩
  clear hq ht
  go_enter Try.func17, Try.ntmps17
  go_wp2
  go_loopw [7, 13] (fun s i wr => ∃ k t : Nat, k ≤ m.length ∧ i = .int .i64 k ∧ s = .int .u64 t ∧ t < 2 ^ 64 ∧ setN l m 0 0 = setN l (m.drop k) k t ∧ Below w.heap.size w wr) (fun _ i _ => m.length - (intOf i).toNat)
  case atStart => exact ⟨0, 0, by omega, rfl, rfl, by decide, rfl, Below.refl _ _⟩
  case round =>
    obtain ⟨k, t, hkm, rfl, rfl, ht, hset, hb⟩ := hrel
    have HS := hid hset
    clear hset
    by_cases hlt : k < m.length
    · obtain ⟨a, x, rfl, hx, hcx⟩ := (hs.below hb).at_str k hlt
      have HX := hid hx
      clear hx
      go_wp2_with fail
      refine (place_calls (l.take 64) x _ wr (Kd.below HQ.out hb)).mono ?_
      rintro e w1 ⟨rfl, hb1⟩
      have hdrop : m.drop k = x :: m.drop (k + 1) := by
        rw [List.drop_eq_getElem_cons hlt]
        have := HX.out
        rw [List.getElem?_eq_getElem hlt] at this
        injection this with this
        rw [this]
      have HS' : Hid (setN l m 0 0 = setN l (x :: m.drop (k + 1)) k t) := by rw [← hdrop]; exact HS.out
      clear hdrop HS HX hcx
      rcases hp : placeN (l.take 64) x with _ | j
      · have e1 : placeI (l.take 64) x = -1 := by unfold placeI; rw [hp]
        have HP := hid hp
        clear hp
        rw [e1]
        clear e1
        go_wp2
        go_ret3
        have : setN l m 0 0 = (0, (k : Int), 5) := by rw [HS'.out]; simp [setN, HP.out]
        rw [this]
        exact ⟨rfl, bThen hb hb1⟩
      · have e1 : placeI (l.take 64) x = j := by unfold placeI; rw [hp]
        have hj : j < 64 := by have := placeN_lt hp; rw [List.length_take] at this; omega
        have HP := hid hp
        clear hp
        rw [e1]
        clear e1
        go_wp2
        go_roundw
        case rel =>
          refine ⟨k + 1, t ||| 1 <<< j, by omega, by go_num, by rw [or_bit ht hj], or_bit_lt ht hj, ?_, bThen hb hb1⟩
          rw [HS'.out]; simp [setN, HP.out]
        case measure => simp [intOf]; omega
    · go_wp2
      go_ret3
      have : setN l m 0 0 = ((t : Nat), (-1 : Int), (0 : Int)) := by rw [HS.out, List.drop_of_length_le (by omega)]; simp [setN]
      rw [this]
      exact ⟨rfl, hb⟩

/-! ### names.Tell -/
def tellFrom (set : Nat) : List ByteArray → Nat → List ByteArray
  | [], _ => []
  | x :: xs, i => if set.testBit i then x :: tellFrom set xs (i + 1) else tellFrom set xs (i + 1)
theorem tellFrom_snoc (set : Nat) (l : List ByteArray) (x : ByteArray) (i : Nat) : tellFrom set (l ++ [x]) i = tellFrom set l i ++ (if set.testBit (i + l.length) then [x] else []) := by
  induction l generalizing i with
  | nil => simp [tellFrom]
  | cons y l ih =>
    simp only [List.cons_append, tellFrom, ih, List.length_cons]
    rw [show i + 1 + l.length = i + (l.length + 1) by omega]
    split <;> simp
theorem tellFrom_len (set : Nat) (l : List ByteArray) (i : Nat) : (tellFrom set l i).length ≤ l.length := by
  induction l generalizing i with
  | nil => simp [tellFrom]
  | cons y l ih =>
    have := ih (i + 1)
    simp only [tellFrom]
    split <;> simp <;> omega
theorem tellFrom_take (set : Nat) (hs : set < 2 ^ 64) (l : List ByteArray) (i n : Nat) (h : 64 ≤ i + n) : tellFrom set (l.take n) i = tellFrom set l i := by
  induction l generalizing i n with
  | nil => simp
  | cons y l ih =>
    cases n with
    | zero =>
      have hz : ∀ (l : List ByteArray) i, 64 ≤ i → tellFrom set l i = [] := by
        intro l
        induction l with
        | nil => intro i _; rfl
        | cons y l ih2 =>
          intro i hi
          have : set.testBit i = false := Nat.testBit_lt_two_pow (Nat.lt_of_lt_of_le hs (Nat.pow_le_pow_right (by decide) hi))
          simp [tellFrom, this, ih2 (i + 1) (by omega)]
      rw [List.take_zero, hz _ _ (by omega), hz _ _ (by omega)]
    | succ n => simp only [List.take_succ_cons, tellFrom, ih (i + 1) n (by omega)]

theorem Try.infoStr : (Try.prog.info? 9).map (fun i => (i.zero, i.size, i.bytes)) = some (some (.string ⟨#[]⟩), 1, 16) := by kernel_rfl

set_option maxHeartbeats 400000 in
set_option maxRecDepth 100000 in
theorem tell_calls (l : List ByteArray) (t : Nat) (v : Value) (w : World) (ht : t < 2 ^ 64) (hl : Kd.str.slice.K w Any l [v]) :
    Calls Try.prog 20 #[v, .int .u64 t] w fun e w' => ∃ u, e = .returned u ∧ Own Kd.str 9 w' w.heap.size (fun _ => False) u (tellFrom t l 0) ∧ Below w.heap.size w w' := by
  obtain ⟨A, c, he, hc, hn, hr⟩ := hl
  cases he
  obtain ⟨q, hq⟩ : ∃ q : Nat, q = min l.length 64 := ⟨_, rfl⟩
  have hmin : min (l.length : Int) 64 = (q : Int) := by omega
  have hq1 : q ≤ c := by omega
  have hq2 : q ≤ 64 := by omega
  have HT := hid (show (l.take 64).length = q by rw [List.length_take]; omega)
  clear hq
  go_enter Try.func20, Try.ntmps20
  go_wp2
  go_loopw [5, 14] (fun v i wr => ∃ k : Nat, k ≤ q ∧ i = .int .i64 k ∧ Own Kd.str 9 wr w.heap.size (fun _ => False) v (tellFrom t ((l.take 64).take k) 0) ∧ Below w.heap.size w wr) (fun _ i _ => q - (intOf i).toNat)
  case atStart => exact ⟨0, by omega, rfl, Own.nil _ _ _ _ _, Below.refl _ _⟩
  case round =>
    obtain ⟨k, hkm, rfl, hO, hb⟩ := hrel
    by_cases hlt : k < q
    · obtain ⟨a, x, rfl, hx, hcx⟩ := ((hr.take 64).below hb).at_str k (by rw [HT.out]; exact hlt)
      have hlen := tellFrom_len t ((l.take 64).take k) 0
      rw [List.length_take] at hlen
      have HX := hid hx
      clear hx
      cases hbit : t.testBit k
      · have h1 := bit_test (j := k) ht
        rw [hbit] at h1
        go_wp2
        go_roundw
        case rel => exact ⟨k + 1, by omega, by go_num, by rw [take_snoc HX.out, tellFrom_snoc, Nat.zero_add, List.length_take, Nat.min_eq_left (by rw [HT.out]; omega), hbit]; simpa using hO, hb⟩
        case measure => simp [intOf]; omega
      · have h1 := bit_test (j := k) ht
        rw [hbit] at h1
        go_wp2_with (at_builtin; go_must (refine append_arm Kd.str w.heap.size rfl _ _ 22 9 _ 16 rfl Try.underlying22 Try.infoStr rfl (by decide) (by decide) u5 _ x [.string x] (fun _ => False) (fun _ => False) rfl rfl rfl (fun _ h => h.elim) hO hb hb.size (by omega) ?_))
        intro v1 w1 hO1 hb1 _ _
        go_wp2
        go_roundw
        case rel => exact ⟨k + 1, by omega, by go_num, by rw [take_snoc HX.out, tellFrom_snoc, Nat.zero_add, List.length_take, Nat.min_eq_left (by rw [HT.out]; omega), hbit]; simpa using hO1, hb1⟩
        case measure => simp [intOf]; omega
    · go_wp2
      go_ret
      exact ⟨_, rfl, by rw [List.take_of_length_le (by rw [HT.out]; omega), tellFrom_take t ht l 0 64 (by omega)] at hO; exact hO, hb⟩

end Go.Proofs.Ytlckkcefkiffjaa
