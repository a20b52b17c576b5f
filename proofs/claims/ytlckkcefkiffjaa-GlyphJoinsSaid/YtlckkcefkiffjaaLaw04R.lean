/- The law GlyphRunes: a range over glyph.Each. -/
import Derived.Test.YtlckkcefkiffjaaEach
import Derived.Test.YtlckkcefkiffjaaWhole04
import Derived.Test.YtlckkcefkiffjaaRef04
import Derived.Test.YtlckkcefkiffjaaWorks04
import Derived.Test.YtlckkcefkiffjaaReg3
import Derived.Test.YtlckkcefkiffjaaKeep
import Derived.Shelf.Abstract
import Derived.Test.YtlckkcefkiffjaaMod
import Derived.Test.YtlckkcefkiffjaaBox
namespace Go.Proofs.Ytlckkcefkiffjaa
open Go.RowKit Go.Lib Go.Shelf
attribute [local go_sem] Oper.semAt_some

theorem run_equalIn_func_nil {P : Program} {w : World} (d : Nat) {t : TypeId} {ps rs : Array TypeId} {vd : Bool} (h : P.underlying t = some (.func ps rs vd)) (f : Fn) (a c : Array Value) : (Op.equalIn (d + 1) t (.func f a c) .nilFunc).run P w = .ok false w := by
  simp [Op.equalIn, run_underlying h]
theorem run_equal_func_nil {P : Program} {w : World} {t : TypeId} {ps rs : Array TypeId} {vd : Bool} (h : P.underlying t = some (.func ps rs vd)) (f : Fn) (a c : Array Value) : (Op.equal t (.func f a c) .nilFunc).run P w = .ok false w := run_equalIn_func_nil 9999 h f a c
theorem run_eql_func_nil {P : Program} {w : World} {t : TypeId} {ps rs : Array TypeId} {vd : Bool} (h : P.underlying t = some (.func ps rs vd)) (f : Fn) (a c : Array Value) : (binOp .eql t (.func f a c) .nilFunc).run P w = .ok (.bool false) w := by
  simp only [binOp]
  simp [run_equal_func_nil h]
set_option maxRecDepth 100000 in
theorem seq2_func : ∃ ps rs vd, Try.prog.underlying 52 = some (.func ps rs vd) := ⟨_, _, _, rfl⟩

theorem pre_snoc {β : Type} {pre L : List β} {a : β} (h : pre <+: L) : (pre ++ [a] <+: L) ↔ L[pre.length]? = some a := by
  obtain ⟨t, rfl⟩ := h
  rw [List.prefix_append_right_inj, List.getElem?_append_right (Nat.le_refl _), Nat.sub_self]
  cases t with
  | nil => simp
  | cons b t => simp [List.cons_prefix_cons, eq_comm]
theorem runes_c (s : ByteArray) : ∀ r ∈ runes s, 0 ≤ r.C ∧ r.C ≤ 1114111 := by
  have key : ∀ (n p : Nat), s.size - p ≤ n → ∀ r ∈ runesF s p, 0 ≤ r.C ∧ r.C ≤ 1114111 := by
    intro n
    induction n with
    | zero => intro p h r hr; rw [runesF_end (by omega)] at hr; simp at hr
    | succ n ih =>
      intro p h r hr
      by_cases hp : p < s.size
      · rw [runesF_cons hp] at hr
        have := (dec_w s p).1
        rcases List.mem_cons.1 hr with rfl | hr
        · have := dec_c s p
          show 0 ≤ ((Utf8.decode s p).1 : Int) ∧ ((Utf8.decode s p).1 : Int) ≤ 1114111
          omega
        · exact ih _ (by omega) r hr
      · rw [runesF_end hp] at hr; simp at hr
  exact key s.size 0 (by omega)
theorem atS_out {s : ByteArray} {k : Int} (h : k < 0 ∨ (runes s).length ≤ k) : atS s k = (0, -1) := by
  unfold atS
  split
  · rw [List.getElem?_eq_none (by omega)]
  · rfl
theorem atS_in {s : ByteArray} {k : Int} {y : RuneS} (h : 0 ≤ k) (hy : (runes s)[k.toNat]? = some y) : atS s k = (y.C, y.At) := by
  unfold atS
  rw [if_pos h, hy]
/-- What the law compares of a rune. -/
def eqR (x : RuneS) : Int × Int := (x.At, wrap64 x.C)

set_option maxRecDepth 100000 in
set_option maxHeartbeats 4000000 in
theorem glyphRunesLaw (s : ByteArray) (k : Int) (w : World) :
    Calls Try.prog 6 #[.string s, .int .i64 k] w fun e w' => e = .returned (.bool true) ∧ Below w.heap.size w w' := by
  refine (callsIn_wide (n := 5)).1 ?_
  refine callsIn_of_wp_marks Try.func6 rfl trivial ?_ rfl
  refine wpIn_wide.2 ?_
  simp only [Try.ntmps6, List.size_toArray, List.length_cons, List.length_nil, Nat.reduceAdd, Nat.reduceSub, Array.replicate_succ, Array.replicate_zero, List.push_toArray, List.append_toArray, List.nil_append, List.cons_append]
  by_cases hs : 1000 < s.size
  case pos =>
    go_wp2_with fail
    have HC := hid (show (w.alloc (.cells #[.bool false] 4)).heap[w.heap.size]? = some (.cells #[.bool false] 4 (0, 0)) from heap_at rfl)
    refine (works04_calls _).mono ?_
    rintro e w1 ⟨rfl, hb1⟩
    obtain ⟨z0, z1⟩ := cells_of_block ((hb1.block _ (by simp)).trans HC.out)
    have z0' := z0 0 _ rfl
    have z1' := z1.1 0
    clear z0 z1
    go_wp2
    have hc5 : (w1.setCell ⟨w.heap.size, 0, none⟩ (.bool true)).cell? ⟨w.heap.size, 0, none⟩ = some (.bool true) := World.cell?_setCell_same' w1 ⟨w.heap.size, 0, none⟩ (.bool true) (by rw [z0']; rfl)
    refine ⟨.bool true, ?_, rfl, (bThen (bAlloc (Below.refl _ _) _) hb1).setCell (p := ⟨w.heap.size, 0, none⟩) (Nat.le_refl _) _⟩
    simp [results, Try.f6, go_sem, hc5]
  have hsz : s.size ≤ 1000 := by omega
  obtain ⟨ps, rs, vd, hu⟩ := seq2_func
  have hfn := fun (W : World) => run_eql_func_nil (w := W) hu (.func 77)
  go_wp2_with fail
  have HC := hid (show (w.alloc (.cells #[.bool false] 4)).heap[w.heap.size]? = some (.cells #[.bool false] 4 (0, 0)) from heap_at rfl)
  have hB0 : Below w.heap.size w (w.alloc (.cells #[.bool false] 4)) := bAlloc (Below.refl _ _) _
  refine (runes_calls s _ (by omega)).mono ?_
  rintro e w1 ⟨v, rfl, hO, hb1⟩
  obtain ⟨A, c, rfl, hn, hr⟩ := runes_own_at hO
  clear hO
  have HC1 := hid ((hb1.block _ (by simp)).trans HC.out)
  have HR1 := hid (show Kd.rune.Row w1 (fun b => b < w1.heap.size) A (runes s) from hr.mono (fun b _ h => h))
  have hB1 := bThen hB0 hb1
  have h01 := hb1.size
  rw [World.size_alloc] at h01
  clear hr hb1
  go_wp2_with fail
  refine (each_calls s _).mono ?_
  rintro e w2 ⟨rfl, rfl⟩
  obtain ⟨V, hV⟩ : ∃ V, V = (w1.alloc (.cells #[.slice A (runes s).length c] 49)).alloc (.cells #[.string s] 9) := ⟨_, rfl⟩
  rw [← hV]
  have HV := hid hV
  clear hV
  go_wp2_with fail
  refine (works04_calls _).mono ?_
  rintro e w3 ⟨rfl, hb3⟩
  have hB3 : Below w.heap.size w w3 := bThen (by rw [HV.out]; exact bAlloc (bAlloc hB1 _) _) hb3
  have hsV : V.heap.size = w1.heap.size + 2 := by rw [HV.out]; simp
  have h13 := hb3.size
  have HC3 := hid ((hb3.block w.heap.size (by omega)).trans (show V.heap[w.heap.size]? = some (.cells #[.bool false] 4 (0, 0)) by
    rw [HV.out]; exact ((Below.heap_alloc _ _ _ (by simp; omega)).trans (Below.heap_alloc _ _ _ (by omega))).trans HC1.out))
  have HW3 := hid ((hb3.block w1.heap.size (by omega)).trans (show V.heap[w1.heap.size]? = some (.cells #[.slice A (runes s).length c] 49 (0, 0)) by
    rw [HV.out]; exact (Below.heap_alloc _ _ _ (by simp)).trans (heap_at rfl)))
  have HS3 := hid ((hb3.block (w1.heap.size + 1) (by omega)).trans (show V.heap[w1.heap.size + 1]? = some (.cells #[.string s] 9 (0, 0)) by
    rw [HV.out]; exact heap_at (by simp)))
  have HR3 := hid (show Kd.rune.Row w3 (fun b => b < w1.heap.size) A (runes s) from
    (HR1.out.move (fun b hb hl => show V.heap[b]? = w1.heap[b]? by rw [HV.out]; exact (Below.heap_alloc _ _ _ (by simp; omega)).trans (Below.heap_alloc _ _ _ hl))).move (fun b hb hl => hb3.block b hl))
  clear HV hb3 hB0 hB1
  go_wp2_with fail
  obtain ⟨W0, hW0⟩ : ∃ W0, W0 = w3.alloc (.cells #[.int .i64 0] 3) := ⟨_, rfl⟩
  rw [← hW0]
  have hsz0 : W0.heap.size = w3.heap.size + 1 := by rw [hW0]; simp
  have HB0 := hid (show Below w3.heap.size w3 W0 by rw [hW0]; exact bAlloc (Below.refl _ _) _)
  have HN0 := hid (show W0.heap[w3.heap.size]? = some (.cells #[.int .i64 0] 3 (0, 0)) by rw [hW0]; exact heap_at rfl)
  clear hW0
  refine (wpIn_wide (n := 5)).1 ?_
  refine wpIn_rangeFunc_ownF rfl (by omega) (gf := 77) (lb := #[.pointer (some ⟨w1.heap.size + 1, 0, none⟩)]) rfl trivial (enters_of Try.func77 (by kernel_rfl) rfl)
    (each_stops (5 - 1) (by omega) (w1.heap.size + 1) s W0 (by omega) ((cells_of_block ((HB0.out.block _ (by omega)).trans HS3.out)).1 0 _ rfl)) walksK_t walksK_b (Below.refl _ _) (fun _ => rfl)
    (fun pre W => (W.heap[w3.heap.size]? = some (.cells #[.int .i64 pre.length] 3 (0, 0)) ∧ Mod (fun b => b = w3.heap.size) W0 W) ∧ pre.map eqR <+: (runes s).map eqR)
    (fun _ pre _ => ¬ pre.map eqR <+: (runes s).map eqR)
    (fun pre W W' row hs hg hr => ⟨⟨(hg.block _ (by have := hs.1.2.size; omega) (fun e => by have := (hr _ e.symm).1; omega)).trans hs.1.1, hs.1.2.grown hg (fun k e _ => by have := (hr k e).1; omega)⟩, hs.2⟩)
    (fun _ _ _ _ _ hs _ _ => hs)
    ⟨⟨HN0.out, Mod.refl _ _⟩, by simp⟩
    (fun x => { tmps := #[.string s, .int .i64 k, undef, undef, .pointer (some ⟨w.heap.size, 0, none⟩), .pointer (some ⟨w1.heap.size, 0, none⟩), .func (.func 77) #[] #[.pointer (some ⟨w1.heap.size + 1, 0, none⟩)], .pointer (some ⟨w3.heap.size, 0, none⟩), .int .i64 x.At, .int .i32 x.C, undef, undef, .string s, .int .i64 s.size, .bool (decide ((1000 : Int) < s.size)), undef, .string s, .slice A (runes s).length c, .string s, .func (.func 77) #[] #[.pointer (some ⟨w1.heap.size + 1, 0, none⟩)], .func (.func 77) #[] #[.pointer (some ⟨w1.heap.size + 1, 0, none⟩)], .bool false, .bool false, .bool true, .bool false, .bool false, .func (.func 77) #[] #[.pointer (some ⟨w1.heap.size + 1, 0, none⟩)], .int .i64 x.At, .int .i32 x.C, undef, undef, undef, undef, undef, undef, undef, undef, undef, undef, undef, undef, undef, undef, undef, undef, undef, undef, undef, undef, undef, undef, undef, undef, undef, undef, undef, undef, undef, undef, undef, undef, undef, undef, undef, undef, undef, undef, undef, undef, undef, undef, undef, undef, undef, undef, undef, undef, undef, undef, undef, undef, undef, undef, undef, undef, undef, undef, undef, undef, undef, undef, undef, undef, undef, undef, undef, undef, undef, undef, undef, undef, undef, undef, undef, undef, undef, undef, undef, undef, undef, undef, undef, undef, undef, undef, undef, undef, undef, undef, undef, undef, undef, undef, undef, undef, undef, undef, undef, undef], defers := [] }) ?assign ?body ?done ?stop
  case assign =>
    intro l x W K hK
    gi_wp2
    exact hK
  case body =>
    rintro l pre x W ⟨⟨hc, hm⟩, hp⟩ hlen
    have HM := hid hm
    have s0 := hm.size
    have n0 := (cells_of_block hc).1 0 _ rfl
    have n1 := (cells_of_block hc).2.1 0
    have b0 := (cells_of_block ((hm.block w1.heap.size (by omega) (by omega)).trans ((HB0.out.block _ (by omega)).trans HW3.out))).1 0 _ rfl
    obtain ⟨c0, c1, _⟩ := cells_of_block ((hm.block w.heap.size (by omega) (by omega)).trans ((HB0.out.block _ (by omega)).trans HC3.out))
    have c2 := c0 0 _ rfl
    have c3 := c1 0
    obtain ⟨a, y, rfl, hy, r0, r1, r2⟩ := ((HR3.out.move (fun b hb hl => HB0.out.block b hl)).move (fun b hb hl => hm.block b hl (by omega))).at_rune pre.length hlen
    have HYC := runes_c s y (List.mem_of_getElem? hy)
    have hyw : wrap64 y.C = y.C := IntWalk.wrap64_in _ (by omega)
    have HP2 := hid (show (pre ++ [x]).map eqR <+: (runes s).map eqR ↔ eqR y = eqR x by
      rw [List.map_append, List.map_singleton, pre_snoc hp, List.length_map, List.getElem?_map, hy]; simp)
    have HC := hid hc
    have HLN := hid hlen
    clear hc hm hp hy c0 c1 r2 hlen
    have hltI : (pre.length : Int) < (runes s).length := by have := HLN.out; omega
    have hlt := HLN.out
    have hgeI : ¬ ((runes s).length : Int) ≤ pre.length := by omega
    generalize hL : (runes s).length = L at *
    by_cases h1 : y.At = x.At
    · have h1b : (y.At != x.At) = false := by rw [h1]; exact bne_self_eq_false _
      by_cases h2 : y.C = wrap64 x.C
      · have h2b : (y.C != wrap64 x.C) = false := by rw [← h2]; exact bne_self_eq_false _
        have HG := hid (HP2.out.2 (by unfold eqR; rw [h1, hyw, h2]))
        clear h1 h2 hyw
        gi_wp2
        exact ⟨KeepsOthers.setCell _ _ _, KeepsWalks.setCell _ _ _, ⟨by have := heap_set HC.out 0 (.int .i64 (pre ++ [x]).length); simpa using this, HM.out.setCell (p := ⟨w3.heap.size, 0, none⟩) (fun _ => rfl) _⟩, HG.out⟩
      · have h2b : (y.C != wrap64 x.C) = true := by rw [bne_iff_ne]; exact h2
        have HG := hid (show ¬ (pre ++ [x]).map eqR <+: (runes s).map eqR from fun h => h2 (by have := HP2.out.1 h; unfold eqR at this; injection this with _ this; rw [hyw] at this; exact this))
        clear h1 h2 hyw
        gi_wp2
        exact ⟨KeepsOthers.setCell _ _ _, HG.out⟩
    · have h1b : (y.At != x.At) = true := by rw [bne_iff_ne]; exact h1
      have HG := hid (show ¬ (pre ++ [x]).map eqR <+: (runes s).map eqR from fun h => h1 (by have := HP2.out.1 h; unfold eqR at this; injection this))
      clear h1 hyw
      gi_wp2
      exact ⟨KeepsOthers.setCell _ _ _, HG.out⟩
  case done =>
    rintro D xs W hD rfl ⟨⟨hc, hm⟩, _⟩ hK
    have hsW := hm.size
    have HBW := hid (below_mod (bThen hB3 (HB0.out.mono (Nat.le_refl _))) hm (fun i e => by omega) (by omega))
    have HK := hid hK
    have HCB := hid (show ∀ u, Below W.heap.size W u → u.cell? ⟨w3.heap.size, 0, none⟩ = some (.int .i64 (runes s).length) ∧ u.cell? ⟨w1.heap.size, 0, none⟩ = some (.slice A (runes s).length c) from
      fun u h => ⟨cell_keep h ((cells_of_block hc).1 0 _ rfl), cell_keep h ((cells_of_block ((hm.block w1.heap.size (by omega) (by omega)).trans ((HB0.out.block _ (by omega)).trans HW3.out))).1 0 _ rfl)⟩)
    have HCR := hid (show ∀ u, Below W.heap.size W u → u.heap[w.heap.size]? = some (.cells #[.bool false] 4 (0, 0)) from
      fun u h => (h.block _ (by omega)).trans ((hm.block w.heap.size (by omega) (by omega)).trans ((HB0.out.block _ (by omega)).trans HC3.out)))
    have HRW := hid ((HR3.out.move (fun b hb hl => HB0.out.block b hl)).move (fun b hb hl => hm.block b hl (by omega)))
    clear hc hm hK HC HC1 HR1 HW3 HS3 HR3 HB0 HN0
    go_wp2_with fail
    refine (at_calls s k _ (by omega)).mono ?_
    rintro e u0 ⟨rfl, hb0⟩
    have U0 := hid hb0
    clear hb0
    obtain ⟨y0, y1⟩ := HCB.out _ U0.out
    by_cases hk : k < 0 ∨ ((runes s).length : Int) ≤ k
    · rw [atS_out hk]
      by_cases hk0 : k < 0
      · clear hk
        go_wp2_with fail
        refine wp_region_KN (S := fun w' => w'.cell? ⟨w3.heap.size, 0, none⟩ = some (.int .i64 (runes s).length) ∧ w'.cell? ⟨w1.heap.size, 0, none⟩ = some (.slice A (runes s).length c)) 25 (by kernel_rfl) ⟨y0, y1⟩ (fun hHeld => ?_)
        refine anyK_take 0 (v := ?_) rfl rfl (by kernel_rfl) (by kernel_rfl) (by kernel_rfl) (by kernel_rfl) (fun _ _ _ h => nomatch h.1) (by rfl) hHeld ?_ ?_
        rotate_left
        · (intro w hSw; (try dsimp only at hSw); go_split_ands; go_simp; try with_reducible rfl)
        (try simp only [Act.put, List.setIfInBounds_toArray, List.set_cons_zero, List.set_cons_succ])
        refine anyK_take 1 (v := ?_) rfl rfl (by kernel_rfl) (by kernel_rfl) (by kernel_rfl) (by kernel_rfl) (fun _ _ _ h => nomatch h.1) (by rfl) hHeld ?_ ?_
        rotate_left
        · (intro w hSw; (try dsimp only at hSw); go_split_ands; go_simp; try with_reducible rfl)
        (try simp only [Act.put, List.setIfInBounds_toArray, List.set_cons_zero, List.set_cons_succ])
        refine anyK_take 2 (v := ?_) rfl rfl (by kernel_rfl) (by kernel_rfl) (by kernel_rfl) (by kernel_rfl) (fun _ _ _ h => nomatch h.1) (by rfl) hHeld ?_ ?_
        rotate_left
        · (intro w hSw; (try dsimp only at hSw); go_split_ands; go_simp; try with_reducible rfl)
        (try simp only [Act.put, List.setIfInBounds_toArray, List.set_cons_zero, List.set_cons_succ])
        refine anyK_take 3 (v := ?_) rfl rfl (by kernel_rfl) (by kernel_rfl) (by kernel_rfl) (by kernel_rfl) (fun _ _ _ h => nomatch h.1) (by rfl) hHeld ?_ ?_
        rotate_left
        · (intro w hSw; (try dsimp only at hSw); go_split_ands; go_simp; try with_reducible rfl)
        (try simp only [Act.put, List.setIfInBounds_toArray, List.set_cons_zero, List.set_cons_succ])
        refine anyK_take 4 (v := ?_) rfl rfl (by kernel_rfl) (by kernel_rfl) (by kernel_rfl) (by kernel_rfl) (fun _ _ _ h => nomatch h.1) (by rfl) hHeld ?_ ?_
        rotate_left
        · (intro w hSw; (try dsimp only at hSw); go_split_ands; go_simp; try with_reducible rfl)
        (try simp only [Act.put, List.setIfInBounds_toArray, List.set_cons_zero, List.set_cons_succ])
        refine anyK_take 5 (v := ?_) rfl rfl (by kernel_rfl) (by kernel_rfl) (by kernel_rfl) (by kernel_rfl) (fun _ _ _ h => nomatch h.1) (by rfl) hHeld ?_ ?_
        rotate_left
        · (intro w hSw; (try dsimp only at hSw); go_split_ands; go_simp; try with_reducible rfl)
        (try simp only [Act.put, List.setIfInBounds_toArray, List.set_cons_zero, List.set_cons_succ])
        refine anyK_take 6 (v := ?_) rfl rfl (by kernel_rfl) (by kernel_rfl) (by kernel_rfl) (by kernel_rfl) (fun _ _ _ h => nomatch h.1) (by rfl) hHeld ?_ ?_
        rotate_left
        · (intro w hSw; (try dsimp only at hSw); go_split_ands; go_simp; try with_reducible rfl)
        (try simp only [Act.put, List.setIfInBounds_toArray, List.set_cons_zero, List.set_cons_succ])
        refine anyK_take 7 (v := ?_) rfl rfl (by kernel_rfl) (by kernel_rfl) (by kernel_rfl) (by kernel_rfl) (fun _ _ _ h => nomatch h.1) (by rfl) hHeld ?_ ?_
        rotate_left
        · (intro w hSw; (try dsimp only at hSw); go_split_ands; go_simp; try with_reducible rfl)
        (try simp only [Act.put, List.setIfInBounds_toArray, List.set_cons_zero, List.set_cons_succ])
        refine anyK_take 8 (v := ?_) rfl rfl (by kernel_rfl) (by kernel_rfl) (by kernel_rfl) (by kernel_rfl) (fun _ _ _ h => nomatch h.1) (by rfl) hHeld ?_ ?_
        rotate_left
        · (intro w hSw; (try dsimp only at hSw); go_split_ands; go_simp; try with_reducible rfl)
        (try simp only [Act.put, List.setIfInBounds_toArray, List.set_cons_zero, List.set_cons_succ])
        refine anyK_take 9 (v := ?_) rfl rfl (by kernel_rfl) (by kernel_rfl) (by kernel_rfl) (by kernel_rfl) (fun _ _ _ h => nomatch h.1) (by rfl) hHeld ?_ ?_
        rotate_left
        · (intro w hSw; (try dsimp only at hSw); go_split_ands; go_simp; try with_reducible rfl)
        (try simp only [Act.put, List.setIfInBounds_toArray, List.set_cons_zero, List.set_cons_succ])
        refine anyK_take 10 (v := ?_) rfl rfl (by kernel_rfl) (by kernel_rfl) (by kernel_rfl) (by kernel_rfl) (fun _ _ _ h => nomatch h.1) (by rfl) hHeld ?_ ?_
        rotate_left
        · (intro w hSw; (try dsimp only at hSw); go_split_ands; go_simp; try with_reducible rfl)
        (try simp only [Act.put, List.setIfInBounds_toArray, List.set_cons_zero, List.set_cons_succ])
        refine anyK_take 11 (v := ?_) rfl rfl (by kernel_rfl) (by kernel_rfl) (by kernel_rfl) (by kernel_rfl) (fun _ _ _ h => nomatch h.1) (by rfl) hHeld ?_ ?_
        rotate_left
        · (intro w hSw; (try dsimp only at hSw); go_split_ands; go_simp; try with_reducible rfl)
        (try simp only [Act.put, List.setIfInBounds_toArray, List.set_cons_zero, List.set_cons_succ])
        refine anyK_take 12 (v := ?_) rfl rfl (by kernel_rfl) (by kernel_rfl) (by kernel_rfl) (by kernel_rfl) (fun _ _ _ h => nomatch h.1) (by rfl) hHeld ?_ ?_
        rotate_left
        · (intro w hSw; (try dsimp only at hSw); go_split_ands; go_simp; try with_reducible rfl)
        (try simp only [Act.put, List.setIfInBounds_toArray, List.set_cons_zero, List.set_cons_succ])
        refine anyK_take 13 (v := ?_) rfl rfl (by kernel_rfl) (by kernel_rfl) (by kernel_rfl) (by kernel_rfl) (fun _ _ _ h => nomatch h.1) (by rfl) hHeld ?_ ?_
        rotate_left
        · (intro w hSw; (try dsimp only at hSw); go_split_ands; go_simp; try with_reducible rfl)
        (try simp only [Act.put, List.setIfInBounds_toArray, List.set_cons_zero, List.set_cons_succ])
        refine anyK_take 15 (v := ?_) rfl rfl (by kernel_rfl) (by kernel_rfl) (by kernel_rfl) (by kernel_rfl) (fun _ _ _ h => nomatch h.1) (by rfl) hHeld ?_ ?_
        rotate_left
        · (intro w hSw; (try dsimp only at hSw); go_split_ands; go_simp; try with_reducible rfl)
        (try simp only [Act.put, List.setIfInBounds_toArray, List.set_cons_zero, List.set_cons_succ])
        refine anyK_one 14 rfl (by kernel_rfl) (fun K hK => ?_)
        go_simp
        refine (count_calls s _ (by omega)).mono ?_
        rintro e_ u1 ⟨rfl, hb1⟩
        have U1 := hid (show Below W.heap.size W u1 from bThen U0.out (bThen (Below.refl u0.heap.size u0).drew hb1))
        have V1 := hid (show Below u0.heap.size u0 u1 from bThen (Below.refl u0.heap.size u0).drew hb1)
        clear hb1
        go_simp
        refine hK.out _ _ (fun _ => (HCB.out _ U1.out)) (fun _ => ?_)
        clear hK K
        (try simp only [Act.put, List.setIfInBounds_toArray, List.set_cons_zero, List.set_cons_succ])
        refine anyK_take 16 (v := ?_) rfl rfl (by kernel_rfl) (by kernel_rfl) (by kernel_rfl) (by kernel_rfl) (fun _ _ _ h => nomatch h.1) (by rfl) (HCB.out _ U1.out) ?_ ?_
        rotate_left
        · (intro w hSw; (try dsimp only at hSw); go_split_ands; go_simp; try with_reducible rfl)
        (try simp only [Act.put, List.setIfInBounds_toArray, List.set_cons_zero, List.set_cons_succ])
        refine anyK_take 17 (v := ?_) rfl rfl (by kernel_rfl) (by kernel_rfl) (by kernel_rfl) (by kernel_rfl) (fun _ _ _ h => nomatch h.1) (by rfl) (HCB.out _ U1.out) ?_ ?_
        rotate_left
        · (intro w hSw; (try dsimp only at hSw); go_split_ands; go_simp; try with_reducible rfl)
        (try simp only [Act.put, List.setIfInBounds_toArray, List.set_cons_zero, List.set_cons_succ])
        refine anyK_take 18 (v := ?_) rfl rfl (by kernel_rfl) (by kernel_rfl) (by kernel_rfl) (by kernel_rfl) (fun _ _ _ h => nomatch h.1) (by rfl) (HCB.out _ U1.out) ?_ ?_
        rotate_left
        · (intro w hSw; (try dsimp only at hSw); go_split_ands; go_simp; try with_reducible rfl)
        (try simp only [Act.put, List.setIfInBounds_toArray, List.set_cons_zero, List.set_cons_succ])
        refine anyK_take 19 (v := ?_) rfl rfl (by kernel_rfl) (by kernel_rfl) (by kernel_rfl) (by kernel_rfl) (fun _ _ _ h => nomatch h.1) (by rfl) (HCB.out _ U1.out) ?_ ?_
        rotate_left
        · (intro w hSw; (try dsimp only at hSw); go_split_ands; go_simp; try with_reducible rfl)
        (try simp only [Act.put, List.setIfInBounds_toArray, List.set_cons_zero, List.set_cons_succ])
        refine anyK_take 21 (v := ?_) rfl rfl (by kernel_rfl) (by kernel_rfl) (by kernel_rfl) (by kernel_rfl) (fun _ _ _ h => nomatch h.1) (by rfl) (HCB.out _ U1.out) ?_ ?_
        rotate_left
        · (intro w hSw; (try dsimp only at hSw); go_split_ands; go_simp; try with_reducible rfl)
        (try simp only [Act.put, List.setIfInBounds_toArray, List.set_cons_zero, List.set_cons_succ])
        refine anyK_one 20 rfl (by kernel_rfl) (fun K hK => ?_)
        go_simp
        refine (whole_calls s _ (by omega)).mono ?_
        rintro e_ u2 ⟨rfl, hb2⟩
        have U2 := hid (show Below W.heap.size W u2 from bThen U1.out hb2)
        have V2 := hid (show Below u0.heap.size u0 u2 from bThen V1.out hb2)
        clear hb2
        go_simp
        refine hK.out _ _ (fun _ => (HCB.out _ U2.out)) (fun _ => ?_)
        clear hK K
        (try simp only [Act.put, List.setIfInBounds_toArray, List.set_cons_zero, List.set_cons_succ])
        refine anyK_one 22 rfl (by kernel_rfl) (fun K hK => ?_)
        go_simp
        refine (rwhole_calls s _ (by omega)).mono ?_
        rintro e_ u3 ⟨rfl, hb3⟩
        have U3 := hid (show Below W.heap.size W u3 from bThen U2.out hb3)
        have V3 := hid (show Below u0.heap.size u0 u3 from bThen V2.out hb3)
        clear hb3
        go_simp
        refine hK.out _ _ (fun _ => (HCB.out _ U3.out)) (fun _ => ?_)
        clear hK K
        (try simp only [Act.put, List.setIfInBounds_toArray, List.set_cons_zero, List.set_cons_succ])
        refine anyK_take 23 (v := ?_) rfl rfl (by kernel_rfl) (by kernel_rfl) (by kernel_rfl) (by kernel_rfl) (fun _ _ _ h => nomatch h.1) (by rfl) (HCB.out _ U3.out) ?_ ?_
        rotate_left
        · (intro w hSw; (try dsimp only at hSw); go_split_ands; go_simp; try with_reducible rfl)
        (try simp only [Act.put, List.setIfInBounds_toArray, List.set_cons_zero, List.set_cons_succ])
        refine anyK_take 24 (v := ?_) rfl rfl (by kernel_rfl) (by kernel_rfl) (by kernel_rfl) (by kernel_rfl) (fun _ _ _ h => nomatch h.1) (by rfl) (HCB.out _ U3.out) ?_ ?_
        rotate_left
        · (intro w hSw; (try dsimp only at hSw); go_split_ands; go_simp; try with_reducible rfl)
        (try simp only [Act.put, List.setIfInBounds_toArray, List.set_cons_zero, List.set_cons_succ])
        obtain ⟨z0, z1, _⟩ := cells_of_block (HCR.out _ U3.out)
        have z2 := z0 0 _ rfl
        have z3 := z1 0
        clear z0 z1
        refine anyK_one 25 rfl (by kernel_rfl) (fun K hK => ?_)
        go_simp
        refine hK.out _ _ (fun h => absurd rfl h) (fun _ => ?_)
        clear hK K
        (try simp only [Act.put, List.setIfInBounds_toArray, List.set_cons_zero, List.set_cons_succ])
        refine wpAnyK_done (by kernel_rfl) ⟨rfl, ?_⟩ _
        go_wp2
        have hK' := (KeepsOthers.setCell u3 ⟨w.heap.size, 0, none⟩ (.bool true)).same D _ ((U3.out.block D (Array.getElem?_eq_some_iff.1 HK.out).1).trans HK.out) rfl
        refine ⟨by simp, .inl ⟨_, _, rfl, run_takeDeferred hK', ?_⟩⟩
        have hc5 := cell_kept (World.cell?_setCell_same' u3 ⟨w.heap.size, 0, none⟩ (.bool true) (by rw [z2]; rfl)) (grownBy_putObj' _ D (.deferred none)) (fun r e => by cases e; exact ⟨_, hK', rfl⟩)
        refine ⟨.bool true, ?_, rfl, ((bThen HBW.out U3.out).setCell (p := ⟨w.heap.size, 0, none⟩) (Nat.le_refl _) _).trans (belowK_b (w := w) (Nat.le_refl _) _ D _ _ (by omega) hK' rfl rfl)⟩
        simp [results, Try.f6, go_sem, hc5]
      · have hk1 : ((runes s).length : Int) ≤ k := by omega
        clear hk
        go_wp2_with fail
        refine wp_region_KN (S := fun w' => w'.cell? ⟨w3.heap.size, 0, none⟩ = some (.int .i64 (runes s).length) ∧ w'.cell? ⟨w1.heap.size, 0, none⟩ = some (.slice A (runes s).length c)) 25 (by kernel_rfl) ⟨y0, y1⟩ (fun hHeld => ?_)
        refine anyK_take 0 (v := ?_) rfl rfl (by kernel_rfl) (by kernel_rfl) (by kernel_rfl) (by kernel_rfl) (fun _ _ _ h => nomatch h.1) (by rfl) hHeld ?_ ?_
        rotate_left
        · (intro w hSw; (try dsimp only at hSw); go_split_ands; go_simp; try with_reducible rfl)
        (try simp only [Act.put, List.setIfInBounds_toArray, List.set_cons_zero, List.set_cons_succ])
        refine anyK_take 1 (v := ?_) rfl rfl (by kernel_rfl) (by kernel_rfl) (by kernel_rfl) (by kernel_rfl) (fun _ _ _ h => nomatch h.1) (by rfl) hHeld ?_ ?_
        rotate_left
        · (intro w hSw; (try dsimp only at hSw); go_split_ands; go_simp; try with_reducible rfl)
        (try simp only [Act.put, List.setIfInBounds_toArray, List.set_cons_zero, List.set_cons_succ])
        refine anyK_take 2 (v := ?_) rfl rfl (by kernel_rfl) (by kernel_rfl) (by kernel_rfl) (by kernel_rfl) (fun _ _ _ h => nomatch h.1) (by rfl) hHeld ?_ ?_
        rotate_left
        · (intro w hSw; (try dsimp only at hSw); go_split_ands; go_simp; try with_reducible rfl)
        (try simp only [Act.put, List.setIfInBounds_toArray, List.set_cons_zero, List.set_cons_succ])
        refine anyK_take 3 (v := ?_) rfl rfl (by kernel_rfl) (by kernel_rfl) (by kernel_rfl) (by kernel_rfl) (fun _ _ _ h => nomatch h.1) (by rfl) hHeld ?_ ?_
        rotate_left
        · (intro w hSw; (try dsimp only at hSw); go_split_ands; go_simp; try with_reducible rfl)
        (try simp only [Act.put, List.setIfInBounds_toArray, List.set_cons_zero, List.set_cons_succ])
        refine anyK_take 4 (v := ?_) rfl rfl (by kernel_rfl) (by kernel_rfl) (by kernel_rfl) (by kernel_rfl) (fun _ _ _ h => nomatch h.1) (by rfl) hHeld ?_ ?_
        rotate_left
        · (intro w hSw; (try dsimp only at hSw); go_split_ands; go_simp; try with_reducible rfl)
        (try simp only [Act.put, List.setIfInBounds_toArray, List.set_cons_zero, List.set_cons_succ])
        refine anyK_take 5 (v := ?_) rfl rfl (by kernel_rfl) (by kernel_rfl) (by kernel_rfl) (by kernel_rfl) (fun _ _ _ h => nomatch h.1) (by rfl) hHeld ?_ ?_
        rotate_left
        · (intro w hSw; (try dsimp only at hSw); go_split_ands; go_simp; try with_reducible rfl)
        (try simp only [Act.put, List.setIfInBounds_toArray, List.set_cons_zero, List.set_cons_succ])
        refine anyK_take 6 (v := ?_) rfl rfl (by kernel_rfl) (by kernel_rfl) (by kernel_rfl) (by kernel_rfl) (fun _ _ _ h => nomatch h.1) (by rfl) hHeld ?_ ?_
        rotate_left
        · (intro w hSw; (try dsimp only at hSw); go_split_ands; go_simp; try with_reducible rfl)
        (try simp only [Act.put, List.setIfInBounds_toArray, List.set_cons_zero, List.set_cons_succ])
        refine anyK_take 7 (v := ?_) rfl rfl (by kernel_rfl) (by kernel_rfl) (by kernel_rfl) (by kernel_rfl) (fun _ _ _ h => nomatch h.1) (by rfl) hHeld ?_ ?_
        rotate_left
        · (intro w hSw; (try dsimp only at hSw); go_split_ands; go_simp; try with_reducible rfl)
        (try simp only [Act.put, List.setIfInBounds_toArray, List.set_cons_zero, List.set_cons_succ])
        refine anyK_take 8 (v := ?_) rfl rfl (by kernel_rfl) (by kernel_rfl) (by kernel_rfl) (by kernel_rfl) (fun _ _ _ h => nomatch h.1) (by rfl) hHeld ?_ ?_
        rotate_left
        · (intro w hSw; (try dsimp only at hSw); go_split_ands; go_simp; try with_reducible rfl)
        (try simp only [Act.put, List.setIfInBounds_toArray, List.set_cons_zero, List.set_cons_succ])
        refine anyK_take 9 (v := ?_) rfl rfl (by kernel_rfl) (by kernel_rfl) (by kernel_rfl) (by kernel_rfl) (fun _ _ _ h => nomatch h.1) (by rfl) hHeld ?_ ?_
        rotate_left
        · (intro w hSw; (try dsimp only at hSw); go_split_ands; go_simp; try with_reducible rfl)
        (try simp only [Act.put, List.setIfInBounds_toArray, List.set_cons_zero, List.set_cons_succ])
        refine anyK_take 10 (v := ?_) rfl rfl (by kernel_rfl) (by kernel_rfl) (by kernel_rfl) (by kernel_rfl) (fun _ _ _ h => nomatch h.1) (by rfl) hHeld ?_ ?_
        rotate_left
        · (intro w hSw; (try dsimp only at hSw); go_split_ands; go_simp; try with_reducible rfl)
        (try simp only [Act.put, List.setIfInBounds_toArray, List.set_cons_zero, List.set_cons_succ])
        refine anyK_take 11 (v := ?_) rfl rfl (by kernel_rfl) (by kernel_rfl) (by kernel_rfl) (by kernel_rfl) (fun _ _ _ h => nomatch h.1) (by rfl) hHeld ?_ ?_
        rotate_left
        · (intro w hSw; (try dsimp only at hSw); go_split_ands; go_simp; try with_reducible rfl)
        (try simp only [Act.put, List.setIfInBounds_toArray, List.set_cons_zero, List.set_cons_succ])
        refine anyK_take 12 (v := ?_) rfl rfl (by kernel_rfl) (by kernel_rfl) (by kernel_rfl) (by kernel_rfl) (fun _ _ _ h => nomatch h.1) (by rfl) hHeld ?_ ?_
        rotate_left
        · (intro w hSw; (try dsimp only at hSw); go_split_ands; go_simp; try with_reducible rfl)
        (try simp only [Act.put, List.setIfInBounds_toArray, List.set_cons_zero, List.set_cons_succ])
        refine anyK_take 13 (v := ?_) rfl rfl (by kernel_rfl) (by kernel_rfl) (by kernel_rfl) (by kernel_rfl) (fun _ _ _ h => nomatch h.1) (by rfl) hHeld ?_ ?_
        rotate_left
        · (intro w hSw; (try dsimp only at hSw); go_split_ands; go_simp; try with_reducible rfl)
        (try simp only [Act.put, List.setIfInBounds_toArray, List.set_cons_zero, List.set_cons_succ])
        refine anyK_take 15 (v := ?_) rfl rfl (by kernel_rfl) (by kernel_rfl) (by kernel_rfl) (by kernel_rfl) (fun _ _ _ h => nomatch h.1) (by rfl) hHeld ?_ ?_
        rotate_left
        · (intro w hSw; (try dsimp only at hSw); go_split_ands; go_simp; try with_reducible rfl)
        (try simp only [Act.put, List.setIfInBounds_toArray, List.set_cons_zero, List.set_cons_succ])
        refine anyK_one 14 rfl (by kernel_rfl) (fun K hK => ?_)
        go_simp
        refine (count_calls s _ (by omega)).mono ?_
        rintro e_ u1 ⟨rfl, hb1⟩
        have U1 := hid (show Below W.heap.size W u1 from bThen U0.out (bThen (Below.refl u0.heap.size u0).drew hb1))
        have V1 := hid (show Below u0.heap.size u0 u1 from bThen (Below.refl u0.heap.size u0).drew hb1)
        clear hb1
        go_simp
        refine hK.out _ _ (fun _ => (HCB.out _ U1.out)) (fun _ => ?_)
        clear hK K
        (try simp only [Act.put, List.setIfInBounds_toArray, List.set_cons_zero, List.set_cons_succ])
        refine anyK_take 16 (v := ?_) rfl rfl (by kernel_rfl) (by kernel_rfl) (by kernel_rfl) (by kernel_rfl) (fun _ _ _ h => nomatch h.1) (by rfl) (HCB.out _ U1.out) ?_ ?_
        rotate_left
        · (intro w hSw; (try dsimp only at hSw); go_split_ands; go_simp; try with_reducible rfl)
        (try simp only [Act.put, List.setIfInBounds_toArray, List.set_cons_zero, List.set_cons_succ])
        refine anyK_take 17 (v := ?_) rfl rfl (by kernel_rfl) (by kernel_rfl) (by kernel_rfl) (by kernel_rfl) (fun _ _ _ h => nomatch h.1) (by rfl) (HCB.out _ U1.out) ?_ ?_
        rotate_left
        · (intro w hSw; (try dsimp only at hSw); go_split_ands; go_simp; try with_reducible rfl)
        (try simp only [Act.put, List.setIfInBounds_toArray, List.set_cons_zero, List.set_cons_succ])
        refine anyK_take 18 (v := ?_) rfl rfl (by kernel_rfl) (by kernel_rfl) (by kernel_rfl) (by kernel_rfl) (fun _ _ _ h => nomatch h.1) (by rfl) (HCB.out _ U1.out) ?_ ?_
        rotate_left
        · (intro w hSw; (try dsimp only at hSw); go_split_ands; go_simp; try with_reducible rfl)
        (try simp only [Act.put, List.setIfInBounds_toArray, List.set_cons_zero, List.set_cons_succ])
        refine anyK_take 19 (v := ?_) rfl rfl (by kernel_rfl) (by kernel_rfl) (by kernel_rfl) (by kernel_rfl) (fun _ _ _ h => nomatch h.1) (by rfl) (HCB.out _ U1.out) ?_ ?_
        rotate_left
        · (intro w hSw; (try dsimp only at hSw); go_split_ands; go_simp; try with_reducible rfl)
        (try simp only [Act.put, List.setIfInBounds_toArray, List.set_cons_zero, List.set_cons_succ])
        refine anyK_take 21 (v := ?_) rfl rfl (by kernel_rfl) (by kernel_rfl) (by kernel_rfl) (by kernel_rfl) (fun _ _ _ h => nomatch h.1) (by rfl) (HCB.out _ U1.out) ?_ ?_
        rotate_left
        · (intro w hSw; (try dsimp only at hSw); go_split_ands; go_simp; try with_reducible rfl)
        (try simp only [Act.put, List.setIfInBounds_toArray, List.set_cons_zero, List.set_cons_succ])
        refine anyK_one 20 rfl (by kernel_rfl) (fun K hK => ?_)
        go_simp
        refine (whole_calls s _ (by omega)).mono ?_
        rintro e_ u2 ⟨rfl, hb2⟩
        have U2 := hid (show Below W.heap.size W u2 from bThen U1.out hb2)
        have V2 := hid (show Below u0.heap.size u0 u2 from bThen V1.out hb2)
        clear hb2
        go_simp
        refine hK.out _ _ (fun _ => (HCB.out _ U2.out)) (fun _ => ?_)
        clear hK K
        (try simp only [Act.put, List.setIfInBounds_toArray, List.set_cons_zero, List.set_cons_succ])
        refine anyK_one 22 rfl (by kernel_rfl) (fun K hK => ?_)
        go_simp
        refine (rwhole_calls s _ (by omega)).mono ?_
        rintro e_ u3 ⟨rfl, hb3⟩
        have U3 := hid (show Below W.heap.size W u3 from bThen U2.out hb3)
        have V3 := hid (show Below u0.heap.size u0 u3 from bThen V2.out hb3)
        clear hb3
        go_simp
        refine hK.out _ _ (fun _ => (HCB.out _ U3.out)) (fun _ => ?_)
        clear hK K
        (try simp only [Act.put, List.setIfInBounds_toArray, List.set_cons_zero, List.set_cons_succ])
        refine anyK_take 23 (v := ?_) rfl rfl (by kernel_rfl) (by kernel_rfl) (by kernel_rfl) (by kernel_rfl) (fun _ _ _ h => nomatch h.1) (by rfl) (HCB.out _ U3.out) ?_ ?_
        rotate_left
        · (intro w hSw; (try dsimp only at hSw); go_split_ands; go_simp; try with_reducible rfl)
        (try simp only [Act.put, List.setIfInBounds_toArray, List.set_cons_zero, List.set_cons_succ])
        refine anyK_take 24 (v := ?_) rfl rfl (by kernel_rfl) (by kernel_rfl) (by kernel_rfl) (by kernel_rfl) (fun _ _ _ h => nomatch h.1) (by rfl) (HCB.out _ U3.out) ?_ ?_
        rotate_left
        · (intro w hSw; (try dsimp only at hSw); go_split_ands; go_simp; try with_reducible rfl)
        (try simp only [Act.put, List.setIfInBounds_toArray, List.set_cons_zero, List.set_cons_succ])
        obtain ⟨z0, z1, _⟩ := cells_of_block (HCR.out _ U3.out)
        have z2 := z0 0 _ rfl
        have z3 := z1 0
        clear z0 z1
        refine anyK_one 25 rfl (by kernel_rfl) (fun K hK => ?_)
        go_simp
        refine hK.out _ _ (fun h => absurd rfl h) (fun _ => ?_)
        clear hK K
        (try simp only [Act.put, List.setIfInBounds_toArray, List.set_cons_zero, List.set_cons_succ])
        refine wpAnyK_done (by kernel_rfl) ⟨rfl, ?_⟩ _
        go_wp2
        have hK' := (KeepsOthers.setCell u3 ⟨w.heap.size, 0, none⟩ (.bool true)).same D _ ((U3.out.block D (Array.getElem?_eq_some_iff.1 HK.out).1).trans HK.out) rfl
        refine ⟨by simp, .inl ⟨_, _, rfl, run_takeDeferred hK', ?_⟩⟩
        have hc5 := cell_kept (World.cell?_setCell_same' u3 ⟨w.heap.size, 0, none⟩ (.bool true) (by rw [z2]; rfl)) (grownBy_putObj' _ D (.deferred none)) (fun r e => by cases e; exact ⟨_, hK', rfl⟩)
        refine ⟨.bool true, ?_, rfl, ((bThen HBW.out U3.out).setCell (p := ⟨w.heap.size, 0, none⟩) (Nat.le_refl _) _).trans (belowK_b (w := w) (Nat.le_refl _) _ D _ _ (by omega) hK' rfl rfl)⟩
        simp [results, Try.f6, go_sem, hc5]
    · have hk0 : ¬ k < 0 := by omega
      have hk1 : k < ((runes s).length : Int) := by omega
      have hk2 : ¬ ((runes s).length : Int) ≤ k := by omega
      have hk3 : 0 ≤ k := by omega
      have hk4 : k.toNat < (runes s).length := by omega
      clear hk
      obtain ⟨a, y, rfl, hy, r0, r1, r2⟩ := (HRW.out.below U0.out).at_rune k.toNat hk4
      have HYC := runes_c s y (List.mem_of_getElem? hy)
      have hyw2 : IntKind.i64.wrap y.C = y.C := IntWalk.i64_in _ (by omega)
      have hbc : (y.C == y.C) = true := beq_self_eq_true _
      have hba : (y.At == y.At) = true := beq_self_eq_true _
      rw [atS_in hk3 hy]
      have HRC := hid (show ∀ u, Below u0.heap.size u0 u → u.cell? (a.add (k.toNat * 3)) = some (.int .i64 y.At) ∧ u.cell? ⟨(a.add (k.toNat * 3)).block, (a.add (k.toNat * 3)).off + 1, none⟩ = some (.int .i64 y.C) from fun u h => ⟨cell_keep h r0, cell_keep h r1⟩)
      clear hy r2
      go_wp2_with fail
      refine wp_region_KN (S := fun w' => w'.cell? ⟨w3.heap.size, 0, none⟩ = some (.int .i64 (runes s).length) ∧ w'.cell? ⟨w1.heap.size, 0, none⟩ = some (.slice (some a) (runes s).length c) ∧ w'.cell? (a.add (k.toNat * 3)) = some (.int .i64 y.At) ∧ w'.cell? ⟨(a.add (k.toNat * 3)).block, (a.add (k.toNat * 3)).off + 1, none⟩ = some (.int .i64 y.C)) 36 (by kernel_rfl) ⟨y0, y1, r0, r1⟩ (fun hHeld => ?_)
      refine anyK_take 0 (v := ?_) rfl rfl (by kernel_rfl) (by kernel_rfl) (by kernel_rfl) (by kernel_rfl) (fun _ _ _ h => nomatch h.1) (by rfl) hHeld ?_ ?_
      rotate_left
      · (intro w hSw; (try dsimp only at hSw); go_split_ands; go_simp; try with_reducible rfl)
      (try simp only [Act.put, List.setIfInBounds_toArray, List.set_cons_zero, List.set_cons_succ])
      refine anyK_take 1 (v := ?_) rfl rfl (by kernel_rfl) (by kernel_rfl) (by kernel_rfl) (by kernel_rfl) (fun _ _ _ h => nomatch h.1) (by rfl) hHeld ?_ ?_
      rotate_left
      · (intro w hSw; (try dsimp only at hSw); go_split_ands; go_simp; try with_reducible rfl)
      (try simp only [Act.put, List.setIfInBounds_toArray, List.set_cons_zero, List.set_cons_succ])
      refine anyK_take 2 (v := ?_) rfl rfl (by kernel_rfl) (by kernel_rfl) (by kernel_rfl) (by kernel_rfl) (fun _ _ _ h => nomatch h.1) (by rfl) hHeld ?_ ?_
      rotate_left
      · (intro w hSw; (try dsimp only at hSw); go_split_ands; go_simp; try with_reducible rfl)
      (try simp only [Act.put, List.setIfInBounds_toArray, List.set_cons_zero, List.set_cons_succ])
      refine anyK_take 3 (v := ?_) rfl rfl (by kernel_rfl) (by kernel_rfl) (by kernel_rfl) (by kernel_rfl) (fun _ _ _ h => nomatch h.1) (by rfl) hHeld ?_ ?_
      rotate_left
      · (intro w hSw; (try dsimp only at hSw); go_split_ands; go_simp; try with_reducible rfl)
      (try simp only [Act.put, List.setIfInBounds_toArray, List.set_cons_zero, List.set_cons_succ])
      refine anyK_take 4 (v := ?_) rfl rfl (by kernel_rfl) (by kernel_rfl) (by kernel_rfl) (by kernel_rfl) (fun _ _ _ h => nomatch h.1) (by rfl) hHeld ?_ ?_
      rotate_left
      · (intro w hSw; (try dsimp only at hSw); go_split_ands; go_simp; try with_reducible rfl)
      (try simp only [Act.put, List.setIfInBounds_toArray, List.set_cons_zero, List.set_cons_succ])
      refine anyK_take 5 (v := ?_) rfl rfl (by kernel_rfl) (by kernel_rfl) (by kernel_rfl) (by kernel_rfl) (fun _ _ _ h => nomatch h.1) (by rfl) hHeld ?_ ?_
      rotate_left
      · (intro w hSw; (try dsimp only at hSw); go_split_ands; go_simp; try with_reducible rfl)
      (try simp only [Act.put, List.setIfInBounds_toArray, List.set_cons_zero, List.set_cons_succ])
      refine anyK_take 6 (v := ?_) rfl rfl (by kernel_rfl) (by kernel_rfl) (by kernel_rfl) (by kernel_rfl) (fun _ _ _ h => nomatch h.1) (by rfl) hHeld ?_ ?_
      rotate_left
      · (intro w hSw; (try dsimp only at hSw); go_split_ands; go_simp; try with_reducible rfl)
      (try simp only [Act.put, List.setIfInBounds_toArray, List.set_cons_zero, List.set_cons_succ])
      refine anyK_take 7 (v := ?_) rfl rfl (by kernel_rfl) (by kernel_rfl) (by kernel_rfl) (by kernel_rfl) (fun _ _ _ h => nomatch h.1) (by rfl) hHeld ?_ ?_
      rotate_left
      · (intro w hSw; (try dsimp only at hSw); go_split_ands; go_simp; try with_reducible rfl)
      (try simp only [Act.put, List.setIfInBounds_toArray, List.set_cons_zero, List.set_cons_succ])
      refine anyK_take 8 (v := ?_) rfl rfl (by kernel_rfl) (by kernel_rfl) (by kernel_rfl) (by kernel_rfl) (fun _ _ _ h => nomatch h.1) (by rfl) hHeld ?_ ?_
      rotate_left
      · (intro w hSw; (try dsimp only at hSw); go_split_ands; go_simp; try with_reducible rfl)
      (try simp only [Act.put, List.setIfInBounds_toArray, List.set_cons_zero, List.set_cons_succ])
      refine anyK_take 9 (v := ?_) rfl rfl (by kernel_rfl) (by kernel_rfl) (by kernel_rfl) (by kernel_rfl) (fun _ _ _ h => nomatch h.1) (by rfl) hHeld ?_ ?_
      rotate_left
      · (intro w hSw; (try dsimp only at hSw); go_split_ands; go_simp; try with_reducible rfl)
      (try simp only [Act.put, List.setIfInBounds_toArray, List.set_cons_zero, List.set_cons_succ])
      refine anyK_take 10 (v := ?_) rfl rfl (by kernel_rfl) (by kernel_rfl) (by kernel_rfl) (by kernel_rfl) (fun _ _ _ h => nomatch h.1) (by rfl) hHeld ?_ ?_
      rotate_left
      · (intro w hSw; (try dsimp only at hSw); go_split_ands; go_simp; try with_reducible rfl)
      (try simp only [Act.put, List.setIfInBounds_toArray, List.set_cons_zero, List.set_cons_succ])
      refine anyK_take 11 (v := ?_) rfl rfl (by kernel_rfl) (by kernel_rfl) (by kernel_rfl) (by kernel_rfl) (fun _ _ _ h => nomatch h.1) (by rfl) hHeld ?_ ?_
      rotate_left
      · (intro w hSw; (try dsimp only at hSw); go_split_ands; go_simp; try with_reducible rfl)
      (try simp only [Act.put, List.setIfInBounds_toArray, List.set_cons_zero, List.set_cons_succ])
      refine anyK_take 12 (v := ?_) rfl rfl (by kernel_rfl) (by kernel_rfl) (by kernel_rfl) (by kernel_rfl) (fun _ _ _ h => nomatch h.1) (by rfl) hHeld ?_ ?_
      rotate_left
      · (intro w hSw; (try dsimp only at hSw); go_split_ands; go_simp; try with_reducible rfl)
      (try simp only [Act.put, List.setIfInBounds_toArray, List.set_cons_zero, List.set_cons_succ])
      refine anyK_take 13 (v := ?_) rfl rfl (by kernel_rfl) (by kernel_rfl) (by kernel_rfl) (by kernel_rfl) (fun _ _ _ h => nomatch h.1) (by rfl) hHeld ?_ ?_
      rotate_left
      · (intro w hSw; (try dsimp only at hSw); go_split_ands; go_simp; try with_reducible rfl)
      (try simp only [Act.put, List.setIfInBounds_toArray, List.set_cons_zero, List.set_cons_succ])
      refine anyK_take 14 (v := ?_) rfl rfl (by kernel_rfl) (by kernel_rfl) (by kernel_rfl) (by kernel_rfl) (fun _ _ _ h => nomatch h.1) (by rfl) hHeld ?_ ?_
      rotate_left
      · (intro w hSw; (try dsimp only at hSw); go_split_ands; go_simp; try with_reducible rfl)
      (try simp only [Act.put, List.setIfInBounds_toArray, List.set_cons_zero, List.set_cons_succ])
      refine anyK_take 15 (v := ?_) rfl rfl (by kernel_rfl) (by kernel_rfl) (by kernel_rfl) (by kernel_rfl) (fun _ _ _ h => nomatch h.1) (by rfl) hHeld ?_ ?_
      rotate_left
      · (intro w hSw; (try dsimp only at hSw); go_split_ands; go_simp; try with_reducible rfl)
      (try simp only [Act.put, List.setIfInBounds_toArray, List.set_cons_zero, List.set_cons_succ])
      refine anyK_take 16 (v := ?_) rfl rfl (by kernel_rfl) (by kernel_rfl) (by kernel_rfl) (by kernel_rfl) (fun _ _ _ h => nomatch h.1) (by rfl) hHeld ?_ ?_
      rotate_left
      · (intro w hSw; (try dsimp only at hSw); go_split_ands; go_simp; try with_reducible rfl)
      (try simp only [Act.put, List.setIfInBounds_toArray, List.set_cons_zero, List.set_cons_succ])
      refine anyK_take 17 (v := ?_) rfl rfl (by kernel_rfl) (by kernel_rfl) (by kernel_rfl) (by kernel_rfl) (fun _ _ _ h => nomatch h.1) (by rfl) hHeld ?_ ?_
      rotate_left
      · (intro w hSw; (try dsimp only at hSw); go_split_ands; go_simp; try with_reducible rfl)
      (try simp only [Act.put, List.setIfInBounds_toArray, List.set_cons_zero, List.set_cons_succ])
      refine anyK_take 18 (v := ?_) rfl rfl (by kernel_rfl) (by kernel_rfl) (by kernel_rfl) (by kernel_rfl) (fun _ _ _ h => nomatch h.1) (by rfl) hHeld ?_ ?_
      rotate_left
      · (intro w hSw; (try dsimp only at hSw); go_split_ands; go_simp; try with_reducible rfl)
      (try simp only [Act.put, List.setIfInBounds_toArray, List.set_cons_zero, List.set_cons_succ])
      refine anyK_take 19 (v := ?_) rfl rfl (by kernel_rfl) (by kernel_rfl) (by kernel_rfl) (by kernel_rfl) (fun _ _ _ h => nomatch h.1) (by rfl) hHeld ?_ ?_
      rotate_left
      · (intro w hSw; (try dsimp only at hSw); go_split_ands; go_simp; try with_reducible rfl)
      (try simp only [Act.put, List.setIfInBounds_toArray, List.set_cons_zero, List.set_cons_succ])
      refine anyK_take 20 (v := ?_) rfl rfl (by kernel_rfl) (by kernel_rfl) (by kernel_rfl) (by kernel_rfl) (fun _ _ _ h => nomatch h.1) (by rfl) hHeld ?_ ?_
      rotate_left
      · (intro w hSw; (try dsimp only at hSw); go_split_ands; go_simp; try with_reducible rfl)
      (try simp only [Act.put, List.setIfInBounds_toArray, List.set_cons_zero, List.set_cons_succ])
      refine anyK_take 21 (v := ?_) rfl rfl (by kernel_rfl) (by kernel_rfl) (by kernel_rfl) (by kernel_rfl) (fun _ _ _ h => nomatch h.1) (by rfl) hHeld ?_ ?_
      rotate_left
      · (intro w hSw; (try dsimp only at hSw); go_split_ands; go_simp; try with_reducible rfl)
      (try simp only [Act.put, List.setIfInBounds_toArray, List.set_cons_zero, List.set_cons_succ])
      refine anyK_take 22 (v := ?_) rfl rfl (by kernel_rfl) (by kernel_rfl) (by kernel_rfl) (by kernel_rfl) (fun _ _ _ h => nomatch h.1) (by rfl) hHeld ?_ ?_
      rotate_left
      · (intro w hSw; (try dsimp only at hSw); go_split_ands; go_simp; try with_reducible rfl)
      (try simp only [Act.put, List.setIfInBounds_toArray, List.set_cons_zero, List.set_cons_succ])
      refine anyK_take 23 (v := ?_) rfl rfl (by kernel_rfl) (by kernel_rfl) (by kernel_rfl) (by kernel_rfl) (fun _ _ _ h => nomatch h.1) (by rfl) hHeld ?_ ?_
      rotate_left
      · (intro w hSw; (try dsimp only at hSw); go_split_ands; go_simp; try with_reducible rfl)
      (try simp only [Act.put, List.setIfInBounds_toArray, List.set_cons_zero, List.set_cons_succ])
      refine anyK_take 24 (v := ?_) rfl rfl (by kernel_rfl) (by kernel_rfl) (by kernel_rfl) (by kernel_rfl) (fun _ _ _ h => nomatch h.1) (by rfl) hHeld ?_ ?_
      rotate_left
      · (intro w hSw; (try dsimp only at hSw); go_split_ands; go_simp; try with_reducible rfl)
      (try simp only [Act.put, List.setIfInBounds_toArray, List.set_cons_zero, List.set_cons_succ])
      refine anyK_take 26 (v := ?_) rfl rfl (by kernel_rfl) (by kernel_rfl) (by kernel_rfl) (by kernel_rfl) (fun _ _ _ h => nomatch h.1) (by rfl) hHeld ?_ ?_
      rotate_left
      · (intro w hSw; (try dsimp only at hSw); go_split_ands; go_simp; try with_reducible rfl)
      (try simp only [Act.put, List.setIfInBounds_toArray, List.set_cons_zero, List.set_cons_succ])
      refine anyK_one 25 rfl (by kernel_rfl) (fun K hK => ?_)
      go_simp
      refine (count_calls s _ (by omega)).mono ?_
      rintro e_ u1 ⟨rfl, hb1⟩
      have U1 := hid (show Below W.heap.size W u1 from bThen U0.out (bThen (Below.refl u0.heap.size u0).drew hb1))
      have V1 := hid (show Below u0.heap.size u0 u1 from bThen (Below.refl u0.heap.size u0).drew hb1)
      clear hb1
      go_simp
      refine hK.out _ _ (fun _ => ⟨(HCB.out _ U1.out).1, (HCB.out _ U1.out).2, (HRC.out _ V1.out).1, (HRC.out _ V1.out).2⟩) (fun _ => ?_)
      clear hK K
      (try simp only [Act.put, List.setIfInBounds_toArray, List.set_cons_zero, List.set_cons_succ])
      refine anyK_take 27 (v := ?_) rfl rfl (by kernel_rfl) (by kernel_rfl) (by kernel_rfl) (by kernel_rfl) (fun _ _ _ h => nomatch h.1) (by rfl) ⟨(HCB.out _ U1.out).1, (HCB.out _ U1.out).2, (HRC.out _ V1.out).1, (HRC.out _ V1.out).2⟩ ?_ ?_
      rotate_left
      · (intro w hSw; (try dsimp only at hSw); go_split_ands; go_simp; try with_reducible rfl)
      (try simp only [Act.put, List.setIfInBounds_toArray, List.set_cons_zero, List.set_cons_succ])
      refine anyK_take 28 (v := ?_) rfl rfl (by kernel_rfl) (by kernel_rfl) (by kernel_rfl) (by kernel_rfl) (fun _ _ _ h => nomatch h.1) (by rfl) ⟨(HCB.out _ U1.out).1, (HCB.out _ U1.out).2, (HRC.out _ V1.out).1, (HRC.out _ V1.out).2⟩ ?_ ?_
      rotate_left
      · (intro w hSw; (try dsimp only at hSw); go_split_ands; go_simp; try with_reducible rfl)
      (try simp only [Act.put, List.setIfInBounds_toArray, List.set_cons_zero, List.set_cons_succ])
      refine anyK_take 29 (v := ?_) rfl rfl (by kernel_rfl) (by kernel_rfl) (by kernel_rfl) (by kernel_rfl) (fun _ _ _ h => nomatch h.1) (by rfl) ⟨(HCB.out _ U1.out).1, (HCB.out _ U1.out).2, (HRC.out _ V1.out).1, (HRC.out _ V1.out).2⟩ ?_ ?_
      rotate_left
      · (intro w hSw; (try dsimp only at hSw); go_split_ands; go_simp; try with_reducible rfl)
      (try simp only [Act.put, List.setIfInBounds_toArray, List.set_cons_zero, List.set_cons_succ])
      refine anyK_take 30 (v := ?_) rfl rfl (by kernel_rfl) (by kernel_rfl) (by kernel_rfl) (by kernel_rfl) (fun _ _ _ h => nomatch h.1) (by rfl) ⟨(HCB.out _ U1.out).1, (HCB.out _ U1.out).2, (HRC.out _ V1.out).1, (HRC.out _ V1.out).2⟩ ?_ ?_
      rotate_left
      · (intro w hSw; (try dsimp only at hSw); go_split_ands; go_simp; try with_reducible rfl)
      (try simp only [Act.put, List.setIfInBounds_toArray, List.set_cons_zero, List.set_cons_succ])
      refine anyK_take 32 (v := ?_) rfl rfl (by kernel_rfl) (by kernel_rfl) (by kernel_rfl) (by kernel_rfl) (fun _ _ _ h => nomatch h.1) (by rfl) ⟨(HCB.out _ U1.out).1, (HCB.out _ U1.out).2, (HRC.out _ V1.out).1, (HRC.out _ V1.out).2⟩ ?_ ?_
      rotate_left
      · (intro w hSw; (try dsimp only at hSw); go_split_ands; go_simp; try with_reducible rfl)
      (try simp only [Act.put, List.setIfInBounds_toArray, List.set_cons_zero, List.set_cons_succ])
      refine anyK_one 31 rfl (by kernel_rfl) (fun K hK => ?_)
      go_simp
      refine (whole_calls s _ (by omega)).mono ?_
      rintro e_ u2 ⟨rfl, hb2⟩
      have U2 := hid (show Below W.heap.size W u2 from bThen U1.out hb2)
      have V2 := hid (show Below u0.heap.size u0 u2 from bThen V1.out hb2)
      clear hb2
      go_simp
      refine hK.out _ _ (fun _ => ⟨(HCB.out _ U2.out).1, (HCB.out _ U2.out).2, (HRC.out _ V2.out).1, (HRC.out _ V2.out).2⟩) (fun _ => ?_)
      clear hK K
      (try simp only [Act.put, List.setIfInBounds_toArray, List.set_cons_zero, List.set_cons_succ])
      refine anyK_one 33 rfl (by kernel_rfl) (fun K hK => ?_)
      go_simp
      refine (rwhole_calls s _ (by omega)).mono ?_
      rintro e_ u3 ⟨rfl, hb3⟩
      have U3 := hid (show Below W.heap.size W u3 from bThen U2.out hb3)
      have V3 := hid (show Below u0.heap.size u0 u3 from bThen V2.out hb3)
      clear hb3
      go_simp
      refine hK.out _ _ (fun _ => ⟨(HCB.out _ U3.out).1, (HCB.out _ U3.out).2, (HRC.out _ V3.out).1, (HRC.out _ V3.out).2⟩) (fun _ => ?_)
      clear hK K
      (try simp only [Act.put, List.setIfInBounds_toArray, List.set_cons_zero, List.set_cons_succ])
      refine anyK_take 34 (v := ?_) rfl rfl (by kernel_rfl) (by kernel_rfl) (by kernel_rfl) (by kernel_rfl) (fun _ _ _ h => nomatch h.1) (by rfl) ⟨(HCB.out _ U3.out).1, (HCB.out _ U3.out).2, (HRC.out _ V3.out).1, (HRC.out _ V3.out).2⟩ ?_ ?_
      rotate_left
      · (intro w hSw; (try dsimp only at hSw); go_split_ands; go_simp; try with_reducible rfl)
      (try simp only [Act.put, List.setIfInBounds_toArray, List.set_cons_zero, List.set_cons_succ])
      refine anyK_take 35 (v := ?_) rfl rfl (by kernel_rfl) (by kernel_rfl) (by kernel_rfl) (by kernel_rfl) (fun _ _ _ h => nomatch h.1) (by rfl) ⟨(HCB.out _ U3.out).1, (HCB.out _ U3.out).2, (HRC.out _ V3.out).1, (HRC.out _ V3.out).2⟩ ?_ ?_
      rotate_left
      · (intro w hSw; (try dsimp only at hSw); go_split_ands; go_simp; try with_reducible rfl)
      (try simp only [Act.put, List.setIfInBounds_toArray, List.set_cons_zero, List.set_cons_succ])
      obtain ⟨z0, z1, _⟩ := cells_of_block (HCR.out _ U3.out)
      have z2 := z0 0 _ rfl
      have z3 := z1 0
      clear z0 z1
      refine anyK_one 36 rfl (by kernel_rfl) (fun K hK => ?_)
      go_simp
      refine hK.out _ _ (fun h => absurd rfl h) (fun _ => ?_)
      clear hK K
      (try simp only [Act.put, List.setIfInBounds_toArray, List.set_cons_zero, List.set_cons_succ])
      refine wpAnyK_done (by kernel_rfl) ⟨rfl, ?_⟩ _
      go_wp2
      have hK' := (KeepsOthers.setCell u3 ⟨w.heap.size, 0, none⟩ (.bool true)).same D _ ((U3.out.block D (Array.getElem?_eq_some_iff.1 HK.out).1).trans HK.out) rfl
      refine ⟨by simp, .inl ⟨_, _, rfl, run_takeDeferred hK', ?_⟩⟩
      have hc5 := cell_kept (World.cell?_setCell_same' u3 ⟨w.heap.size, 0, none⟩ (.bool true) (by rw [z2]; rfl)) (grownBy_putObj' _ D (.deferred none)) (fun r e => by cases e; exact ⟨_, hK', rfl⟩)
      refine ⟨.bool true, ?_, rfl, ((bThen HBW.out U3.out).setCell (p := ⟨w.heap.size, 0, none⟩) (Nat.le_refl _) _).trans (belowK_b (w := w) (Nat.le_refl _) _ D _ _ (by omega) hK' rfl rfl)⟩
      simp [results, Try.f6, go_sem, hc5]
  case stop =>
    rintro D c pre W _ hp hx _
    exact (hx (hp.map _)).elim
theorem glyphRunes_walk (W : World) (s : ByteArray) (_h : s.size ≤ 140737488351232) (k : Int) (_hk : (Lit.int .i64 k).wf = true) :
    Calls Try.prog 6 #[.string s, .int .i64 k] W fun e w' => e = .returned (.bool true) ∧ Below W.heap.size W w' := glyphRunesLaw s k W
end Go.Proofs.Ytlckkcefkiffjaa
