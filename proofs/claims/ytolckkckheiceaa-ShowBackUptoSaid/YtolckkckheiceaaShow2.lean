/- show.shower.part, text. -/
import Derived.Test.YtolckkckheiceaaShow1
namespace Go.Proofs.Ytolckkckheiceaa
open Go.RowKit

def TextOk (tab : List ByteArray) (t : TreeS) : Prop := ∀ (w : World) (tv v : Value), Kd.str.slice.K w Any tab [tv] → Kd.node.slice.K w Any t.nodes [v] →
  Calls Try.prog 73 #[.agg #[tv], v] w fun e w' => e = .returned (.string (showT tab t)) ∧ Below w.heap.size w w'
def inK (ks : List Int) (o : Int) : Bool := ks.any (fun k => decide (o = k))
theorem inK_at {ks : List Int} {o x : Int} {k : Nat} (hx : ks[k]? = some x) (h : o = x) : inK ks o = true := List.any_eq_true.2 ⟨x, List.mem_of_getElem? hx, by simp [h]⟩
theorem inK_none {ks : List Int} {o : Int} (h : ∀ (j : Nat) x, ks[j]? = some x → o ≠ x) : inK ks o = false := by
  unfold inK
  rw [List.any_eq_false]
  intro x hx
  obtain ⟨j, hj⟩ := List.getElem?_of_mem hx
  simpa using h j x hj

set_option maxHeartbeats 2000000 in
set_option maxRecDepth 100000 in
theorem part_calls (tab : List ByteArray) (t : TreeS) (hT : TextOk tab t) (hz : (showT tab t).size ≤ 1000000000) (hs : t.size ≤ 1000000) (ks : List Int) (w : World) (tv v kv : Value) (ht : Kd.str.slice.K w Any tab [tv]) (hl : Kd.node.slice.K w Any t.nodes [v]) (hk : (Kd.int .i64).slice.K w Any ks [kv]) :
    Calls Try.prog 127 #[.agg #[tv], v, kv] w fun e w' => e = .returned (.string (brT (inK ks (opT t)) (showT tab t))) ∧ Below w.heap.size w w' := by
  have HT := hid ht
  have HL := hid hl
  have HTO := hid hT
  obtain ⟨B, d, he, hc, hn, hr⟩ := hk
  cases he
  obtain ⟨q, hq⟩ : ∃ q, ks.length = q := ⟨_, rfl⟩
  have HQ := hid hq
  have HR := hid hr
  rw [hq] at hc hn ⊢
  obtain ⟨s, hss⟩ : ∃ s, s = showT tab t := ⟨_, rfl⟩
  rw [← hss] at hz ⊢
  have HS := hid hss
  have h40 : (⟨#[40]⟩ : ByteArray).size = 1 := rfl
  have h41 : (⟨#[41]⟩ : ByteArray).size = 1 := rfl
  obtain ⟨V, hV⟩ : ∃ V, V = w.alloc (.cells #[tv] 126) := ⟨_, rfl⟩
  have HBV := hid (show Below w.heap.size w V by rw [hV]; exact bAlloc (Below.refl _ _) _)
  obtain ⟨A, ca, he, _, _, _⟩ := ht
  injection he with he _
  subst he
  obtain ⟨A2, cl, he, _, _, _⟩ := hl
  injection he with he _
  subst he
  have HV := hid hV
  clear hT hr hq hss hV
  go_enter Try.func127, Try.ntmps127
  go_wp2_with fail
  rw [← HV.out]
  refine (HTO.out V _ _ (Kd.below HT.out HBV.out) (Kd.below HL.out HBV.out)).mono ?_
  rintro e w1 ⟨rfl, hb1⟩
  rw [← HS.out]
  have HB1 := hid (bThen HBV.out hb1)
  have HL1 := hid (Kd.below HL.out HB1.out)
  have HR1 := hid (HR.out.below HB1.out)
  clear hb1
  go_wp2
  go_loopw [15] (fun i wr => wr = w1 ∧ ∃ k : Nat, k ≤ q ∧ i = .int .i64 k ∧ Hid (∀ (j : Nat) x, j < k → ks[j]? = some x → opT t ≠ x)) (fun i _ => q - (intOf i).toNat)
  case atStart => exact ⟨rfl, 0, by omega, rfl, fun j x h => by omega⟩
  case round =>
    obtain ⟨rfl, k, hk, rfl, HN⟩ := hrel
    by_cases hlt : k < q
    · obtain ⟨a, x, rfl, hx, r0⟩ := HR1.out.at_int k (by rw [HQ.out]; exact hlt)
      have HX := hid hx
      have hltI : (k : Int) < (q : Int) := by omega
      have hk0 : (0 : Int) ≤ (k : Int) := by omega
      clear hx
      go_wp2_with fail
      refine (showOp_calls t _ _ HL1.out hs).mono ?_
      rintro e w2 ⟨rfl, rfl⟩
      obtain ⟨o, ho⟩ : ∃ o, o = opT t := ⟨_, rfl⟩
      rw [← ho]
      by_cases hox : o = x
      · have hb : (o == x) = true := by rw [beq_iff_eq]; exact hox
        have HF := hid (show brT (inK ks (opT t)) s = ⟨#[40]⟩ ++ s ++ ⟨#[41]⟩ by rw [inK_at HX.out (by rw [← ho]; exact hox)]; rfl)
        clear ho hox
        go_wp2
        go_ret
        rw [HF.out]
        exact ⟨rfl, HB1.out⟩
      · have hb : (o == x) = false := by rw [beq_eq_false_iff_ne]; exact hox
        have HN2 := hid (show ∀ (j : Nat) y, j < k + 1 → ks[j]? = some y → opT t ≠ y from fun j y hj hy => by
          rcases Nat.lt_or_ge j k with h | h
          · exact HN.out j y h hy
          · rw [show j = k by omega, HX.out] at hy
            rw [← ho, ← Option.some.inj hy]; exact hox)
        clear ho hox
        go_wp2
        go_roundw
        case rel => exact ⟨trivial, k + 1, by omega, by go_num, HN2⟩
        case measure => simp [intOf]; omega
    · obtain rfl : k = q := by omega
      have HF := hid (show brT (inK ks (opT t)) s = s by rw [inK_none (fun j x hx => HN.out j x (by have := (List.getElem?_eq_some_iff.1 hx).1; rw [HQ.out] at this; exact this) hx)]; rfl)
      go_wp2
      go_ret
      rw [HF.out]
      exact ⟨rfl, HB1.out⟩

def twoS (tab : List ByteArray) (sign : ByteArray) (x y : TreeS) (k1 k2 : List Int) : ByteArray := brT (inK k1 (opT x)) (showT tab x) ++ ⟨#[32]⟩ ++ sign ++ ⟨#[32]⟩ ++ brT (inK k2 (opT y)) (showT tab y)
set_option maxHeartbeats 4000000 in
set_option maxRecDepth 100000 in
theorem two_calls (tab : List ByteArray) (x y : TreeS) (hX : TextOk tab x) (hY : TextOk tab y) (hzx : (showT tab x).size ≤ 1000000000) (hsx : x.size ≤ 1000000) (hzy : (showT tab y).size ≤ 1000000000) (hsy : y.size ≤ 1000000) (sign : ByteArray) (hsg : sign.size ≤ 10) (k1 k2 : List Int) (w : World) (tv u1 u2 v0 v1 : Value) (b3 b4 g : Nat)
    (ht : Kd.str.slice.K w Any tab [tv]) (h1 : (Kd.int .i64).slice.K w Any k1 [u1]) (h2 : (Kd.int .i64).slice.K w Any k2 [u2]) (h3 : w.cell? ⟨b3, 0, none⟩ = some tv) (h4 : w.cell? ⟨b4, 0, none⟩ = some (.slice (some ⟨g, 0, none⟩) 2 2)) (hp : PartsAt w g v0 x v1 y) (l3 : b3 < w.heap.size) (l4 : b4 < w.heap.size) (lg : g < w.heap.size) :
    Calls Try.prog 126 #[.string sign, u1, u2, .pointer (some ⟨b3, 0, none⟩), .pointer (some ⟨b4, 0, none⟩)] w fun e w' => e = .returned (.string (twoS tab sign x y k1 k2)) ∧ Below w.heap.size w w' := by
  obtain ⟨p0, p1, pk0, pk1⟩ := hp
  have HC := hid (fun (u : World) (hb : Below w.heap.size w u) => show (u.cell? ⟨b3, 0, none⟩ = some tv ∧ u.cell? ⟨b4, 0, none⟩ = some (.slice (some ⟨g, 0, none⟩) 2 2) ∧ u.cell? ⟨g, 0, none⟩ = some v0 ∧ u.cell? ⟨g, 1, none⟩ = some v1) from
    ⟨((bcell hb).1 _ _ l3).trans h3, ((bcell hb).1 _ _ l4).trans h4, ((bcell hb).1 _ _ lg).trans p0, ((bcell hb).1 _ _ lg).trans p1⟩)
  have HP1 := hid (fun (u : World) (hb : Below w.heap.size w u) => part_calls tab x hX hzx hsx k1 u tv v0 u1 (Kd.below ht hb) (Kd.below pk0 hb) (Kd.below h1 hb))
  have HP2 := hid (fun (u : World) (hb : Below w.heap.size w u) => part_calls tab y hY hzy hsy k2 u tv v1 u2 (Kd.below ht hb) (Kd.below pk1 hb) (Kd.below h2 hb))
  have HD := hid (show twoS tab sign x y k1 k2 = brT (inK k1 (opT x)) (showT tab x) ++ ⟨#[32]⟩ ++ sign ++ ⟨#[32]⟩ ++ brT (inK k2 (opT y)) (showT tab y) from rfl)
  have z1 := brT_size (inK k1 (opT x)) (showT tab x)
  have z2 := brT_size (inK k2 (opT y)) (showT tab y)
  obtain ⟨s1, hs1⟩ : ∃ s1, s1 = brT (inK k1 (opT x)) (showT tab x) := ⟨_, rfl⟩
  obtain ⟨s2, hs2⟩ : ∃ s2, s2 = brT (inK k2 (opT y)) (showT tab y) := ⟨_, rfl⟩
  rw [← hs1] at z1 HP1 HD
  rw [← hs2] at z2 HP2 HD
  have z1' : s1.size ≤ 1000000002 := by omega
  have z2' : s2.size ≤ 1000000002 := by omega
  have h32 : (⟨#[32]⟩ : ByteArray).size = 1 := rfl
  have y1 : ¬ 9223372036854775807 < s1.size + 1 := by omega
  have y2 : ¬ 9223372036854775807 < s1.size + 1 + sign.size := by omega
  have y4 : ¬ 9223372036854775807 < s1.size + 1 + sign.size + 1 := by omega
  have y5 : ¬ 9223372036854775807 < s1.size + 1 + sign.size + 1 + s2.size := by omega
  obtain ⟨A, ca, he, _, _, _⟩ := ht
  injection he with he _
  subst he
  obtain ⟨B1, d1, he, _, _, _⟩ := h1
  injection he with he _
  subst he
  obtain ⟨B2, d2, he, _, _, _⟩ := h2
  injection he with he _
  subst he
  obtain ⟨B3, d3, he, _, _, _⟩ := pk0
  injection he with he _
  subst he
  obtain ⟨B4, d4, he, _, _, _⟩ := pk1
  injection he with he _
  subst he
  have c0 := HC.out w.drew (Below.refl _ _).drew
  clear h3 h4 p0 p1 l3 l4 lg z1 z2 hs1 hs2
  go_enter Try.func126, Try.ntmps126
  go_wp2_with fail
  go_region_held3 (fun w' => w'.cell? ⟨b3, 0, none⟩ = some (.slice A tab.length ca) ∧ w'.cell? ⟨b4, 0, none⟩ = some (.slice (some ⟨g, 0, none⟩) 2 2) ∧ w'.cell? ⟨g, 0, none⟩ = some (.slice B3 x.nodes.length d3) ∧ w'.cell? ⟨g, 1, none⟩ = some (.slice B4 y.nodes.length d4)) (first | exact c0 | exact c1 | exact c2 | fail) (first
    | ((with_reducible refine (HP1.out w.drew (Below.refl _ _).drew).mono ?_); rintro e w1 ⟨rfl, hb1⟩; have U1 := hid (show Below w.heap.size w w1 from (Below.refl _ _).drew.trans hb1); have c1 := HC.out _ U1.out; clear hb1)
    | ((with_reducible refine (HP2.out w1 U1.out).mono ?_); rintro e w2 ⟨rfl, hb2⟩; have U2 := hid (show Below w.heap.size w w2 from bThen U1.out hb2); have c2 := HC.out _ U2.out; clear hb2)
    | fail)
  go_wp2
  go_ret
  exact ⟨ret_str HD.out.symm, U2.out⟩
end Go.Proofs.Ytolckkckheiceaa
