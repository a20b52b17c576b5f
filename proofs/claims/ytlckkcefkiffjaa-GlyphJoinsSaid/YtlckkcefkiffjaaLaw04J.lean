/- The law GlyphJoins: a range over glyph.Each. -/
import Derived.Test.YtlckkcefkiffjaaEach
import Derived.Test.YtlckkcefkiffjaaJoins0
import Derived.Test.YtlckkcefkiffjaaWorks04
import Derived.Test.YtlckkcefkiffjaaReg3
import Derived.Test.YtlckkcefkiffjaaKeep
import Derived.Shelf.Abstract
import Derived.Test.YtlckkcefkiffjaaMod
import Derived.Test.YtlckkcefkiffjaaBox
import Derived.Test.YtlckkcefkiffjaaLaw04R
namespace Go.Proofs.Ytlckkcefkiffjaa
open Go.RowKit Go.Lib Go.Shelf
attribute [local go_sem] Oper.semAt_some

set_option maxRecDepth 100000 in
set_option maxHeartbeats 4000000 in
theorem glyphJoinsLaw (s : ByteArray) (w : World) :
    Calls Try.prog 9 #[.string s] w fun e w' => e = .returned (.bool true) ∧ Below w.heap.size w w' := by
  refine (callsIn_wide (n := 5)).1 ?_
  refine callsIn_of_wp_marks Try.func9 rfl trivial ?_ rfl
  refine wpIn_wide.2 ?_
  simp only [Try.ntmps9, List.size_toArray, List.length_cons, List.length_nil, Nat.reduceAdd, Nat.reduceSub, Array.replicate_succ, Array.replicate_zero, List.push_toArray, List.append_toArray, List.nil_append, List.cons_append]
  by_cases hs : 1000 < s.size
  case pos =>
    go_wp2_with fail
    have HC := hid (show (w.alloc (.cells #[.bool false] 4)).heap[w.heap.size]? = some (.cells #[.bool false] 4 (0, 0)) from heap_at rfl)
    refine (works04_calls _).mono ?_
    rintro e w1 ⟨rfl, hb1⟩
    obtain ⟨z0, z1⟩ := cells_of_block ((hb1.block _ (by simp)).trans HC.out)
    have z0' := z0 0 _ rfl
    have z1' := z1.1 0
    clear z0 z1
    go_wp2
    have hc5 : (w1.setCell ⟨w.heap.size, 0, none⟩ (.bool true)).cell? ⟨w.heap.size, 0, none⟩ = some (.bool true) := World.cell?_setCell_same' w1 ⟨w.heap.size, 0, none⟩ (.bool true) (by rw [z0']; rfl)
    refine ⟨.bool true, ?_, rfl, (bThen (bAlloc (Below.refl _ _) _) hb1).setCell (p := ⟨w.heap.size, 0, none⟩) (Nat.le_refl _) _⟩
    simp [results, Try.f9, go_sem, hc5]
  have hsz : s.size ≤ 1000 := by omega
  have HSZ := hid hsz
  obtain ⟨ps, rs, vd, hu⟩ := seq2_func
  have hfn := fun (W : World) => run_eql_func_nil (w := W) hu (.func 77)
  go_wp2_with fail
  refine (each_calls s _).mono ?_
  rintro e w2 ⟨rfl, rfl⟩
  go_wp2_with fail
  obtain ⟨W0, hW0⟩ : ∃ W0, W0 = (((w.alloc (.cells #[.bool false] 4)).alloc (.cells #[.string s] 9)).alloc (.cells #[.string ⟨#[]⟩] 9)).alloc (.cells #[.int .i64 (-1)] 3) := ⟨_, rfl⟩
  rw [← hW0]
  have hsz0 : W0.heap.size = w.heap.size + 4 := by rw [hW0]; simp
  have HB0 := hid (show Below w.heap.size w W0 by rw [hW0]; exact bAlloc (bAlloc (bAlloc (bAlloc (Below.refl _ _) _) _) _) _)
  have HR0 := hid (show W0.heap[w.heap.size]? = some (.cells #[.bool false] 4 (0, 0)) by rw [hW0]; exact heap_old (by simp; try omega) (heap_old (by simp; try omega) (heap_old (by simp) (heap_at rfl))))
  have HS0 := hid (show W0.heap[w.heap.size + 1]? = some (.cells #[.string s] 9 (0, 0)) by rw [hW0]; exact heap_old (by simp; try omega) (heap_old (by simp) (heap_at (by simp))))
  have HT0 := hid (show W0.heap[w.heap.size + 2]? = some (.cells #[.string ⟨#[]⟩] 9 (0, 0)) by rw [hW0]; exact heap_old (by simp) (heap_at (by simp)))
  have HL0 := hid (show W0.heap[w.heap.size + 3]? = some (.cells #[.int .i64 (-1)] 3 (0, 0)) by rw [hW0]; exact heap_at (by simp))
  clear hW0
  refine (wpIn_wide (n := 5)).1 ?_
  refine wpIn_rangeFunc_ownF rfl (by omega) (gf := 77) (lb := #[.pointer (some ⟨w.heap.size + 1, 0, none⟩)]) rfl trivial (enters_of Try.func77 (by kernel_rfl) rfl)
    (each_stops (5 - 1) (by omega) (w.heap.size + 1) s W0 (by omega) ((cells_of_block HS0.out).1 0 _ rfl)) walksK_t walksK_b (Below.refl _ _) (fun _ => rfl)
    (fun pre W => (W.heap[w.heap.size + 2]? = some (.cells #[.string (catR pre)] 9 (0, 0)) ∧ W.heap[w.heap.size + 3]? = some (.cells #[.int .i64 (ris pre).2] 3 (0, 0)) ∧ Mod (fun b => b = w.heap.size + 2 ∨ b = w.heap.size + 3) W0 W) ∧ (ris pre).1 = true)
    (fun _ pre _ => (ris pre).1 = false)
    (fun pre W W' row hs hg hr => ⟨⟨(hg.block _ (by have := hs.1.2.2.size; omega) (fun e => by have := (hr _ e.symm).1; omega)).trans hs.1.1, (hg.block _ (by have := hs.1.2.2.size; omega) (fun e => by have := (hr _ e.symm).1; omega)).trans hs.1.2.1, hs.1.2.2.grown hg (fun k e _ => by have := (hr k e).1; omega)⟩, hs.2⟩)
    (fun _ _ _ _ _ hs _ _ => hs)
    ⟨⟨HT0.out, HL0.out, Mod.refl _ _⟩, rfl⟩
    (fun x => { tmps := #[.string s, undef, .pointer (some ⟨w.heap.size, 0, none⟩), .func (.func 77) #[] #[.pointer (some ⟨w.heap.size + 1, 0, none⟩)], .pointer (some ⟨w.heap.size + 2, 0, none⟩), .pointer (some ⟨w.heap.size + 3, 0, none⟩), .int .i64 x.At, .int .i32 x.C, undef, .string s, .int .i64 s.size, .bool (decide ((1000 : Int) < s.size)), undef, .string s, .func (.func 77) #[] #[.pointer (some ⟨w.heap.size + 1, 0, none⟩)], .func (.func 77) #[] #[.pointer (some ⟨w.heap.size + 1, 0, none⟩)], .bool false, .func (.func 77) #[] #[.pointer (some ⟨w.heap.size + 1, 0, none⟩)], .int .i64 x.At, .int .i32 x.C, undef, undef, undef, undef, undef, undef, undef, undef, undef, undef, undef, undef, undef, undef, undef, undef, undef, undef, undef, undef, undef, undef, undef, undef, undef, undef, undef, undef, undef, undef, undef, undef, undef, undef, undef, undef, undef, undef, undef, undef, undef, undef, undef, undef, undef, undef, undef, undef, undef], defers := [] }) ?assign ?body ?done ?stop
  case assign =>
    intro l x W K hK
    gi_wp2
    exact hK
  case body =>
    rintro l pre x W ⟨⟨ht, hl, hm⟩, hr⟩ hlen
    have HM := hid hm
    have s0 := hm.size
    have t0 := (cells_of_block ht).1 0 _ rfl
    have t1 := (cells_of_block ht).2.1 0
    have l0 := (cells_of_block hl).1 0 _ rfl
    have l1 := (cells_of_block hl).2.1 0
    obtain ⟨c0, c1, _⟩ := cells_of_block ((hm.block w.heap.size (by omega) (by omega)).trans HR0.out)
    have c2 := c0 0 _ rfl
    have c3 := c1 0
    have hcl := catR_le pre
    have hll : pre.length < 1000 := by have := runes_len s; have := HSZ.out; omega
    have hen := encode_size_le x.C
    have HT := hid ht
    have HL := hid hl
    have HSN := hid (ris_snoc pre x)
    have HCS := hid (catR_snoc pre x)
    have HRL := hid hr
    obtain ⟨L, hL⟩ : ∃ L, L = (ris pre).2 := ⟨_, rfl⟩
    rw [← hL] at l0
    have HLE := hid hL
    clear ht hl hm hr c0 c1 hL
    have bad : okStep L x.At = false → (ris (pre ++ [x])).1 = false := fun h => by rw [HSN.out, ← HLE.out, h]; simp
    have good : okStep L x.At = true → (ris (pre ++ [x])).1 = true := fun h => by rw [HSN.out, ← HLE.out, h, HRL.out]; rfl
    have BAD := hid bad
    have GOOD := hid good
    clear bad good
    have fin : Hid (∀ v, v = Value.int .i64 x.At → okStep L x.At = true → KeepsOthers W ((W.setCell ⟨w.heap.size + 3, 0, none⟩ v).setCell ⟨w.heap.size + 2, 0, none⟩ (.string (catR pre ++ Utf8.encode x.C))) ∧ KeepsWalks W ((W.setCell ⟨w.heap.size + 3, 0, none⟩ v).setCell ⟨w.heap.size + 2, 0, none⟩ (.string (catR pre ++ Utf8.encode x.C))) ∧
        ((((W.setCell ⟨w.heap.size + 3, 0, none⟩ v).setCell ⟨w.heap.size + 2, 0, none⟩ (.string (catR pre ++ Utf8.encode x.C))).heap[w.heap.size + 2]? = some (.cells #[.string (catR (pre ++ [x]))] 9 (0, 0)) ∧ ((W.setCell ⟨w.heap.size + 3, 0, none⟩ v).setCell ⟨w.heap.size + 2, 0, none⟩ (.string (catR pre ++ Utf8.encode x.C))).heap[w.heap.size + 3]? = some (.cells #[.int .i64 (ris (pre ++ [x])).2] 3 (0, 0)) ∧
          Mod (fun b => b = w.heap.size + 2 ∨ b = w.heap.size + 3) W0 ((W.setCell ⟨w.heap.size + 3, 0, none⟩ v).setCell ⟨w.heap.size + 2, 0, none⟩ (.string (catR pre ++ Utf8.encode x.C)))) ∧ (ris (pre ++ [x])).1 = true)) := by
      intro v hv hok
      subst hv
      have e2 : (ris (pre ++ [x])).2 = x.At := by rw [HSN.out]
      refine ⟨(KeepsOthers.setCell _ _ _).trans (KeepsOthers.setCell _ _ _), walksK_t (KeepsWalks.setCell _ _ _) (KeepsWalks.setCell _ _ _), ⟨?_, ?_, (HM.out.setCell (p := ⟨w.heap.size + 3, 0, none⟩) (fun _ => .inr rfl) _).setCell (p := ⟨w.heap.size + 2, 0, none⟩) (fun _ => .inl rfl) _⟩, GOOD.out hok⟩
      · have h1 : (W.setCell ⟨w.heap.size + 3, 0, none⟩ (.int .i64 x.At)).heap[w.heap.size + 2]? = some (.cells #[.string (catR pre)] 9 (0, 0)) := (Below.heap_setCell _ _ _ _ (by simp)).trans HT.out
        have := heap_set h1 0 (.string (catR pre ++ Utf8.encode x.C))
        rw [HCS.out]; simpa using this
      · rw [e2]
        have := heap_set HL.out 0 (.int .i64 x.At)
        exact (Below.heap_setCell _ _ _ _ (by simp)).trans (by simpa using this)
    clear hlen
    by_cases h1 : x.At ≤ L
    · have HG := hid (BAD.out (by unfold okStep; simp [h1]))
      gi_wp2
      exact ⟨KeepsOthers.setCell _ _ _, HG.out⟩
    · by_cases h2 : L < 0
      · by_cases h3 : x.At = 0
        · have hok : okStep L x.At = true := by unfold okStep; simp [h3]; omega
          have h3b : (x.At != 0) = false := by rw [h3]; rfl
          have HOK := hid hok
          clear hok h3
          gi_wp2
          exact fin.out _ rfl HOK.out
        · have h3b : (x.At != 0) = true := by rw [bne_iff_ne]; exact h3
          have HG := hid (BAD.out (by unfold okStep; simp [h2, h3]))
          clear h3
          gi_wp2
          exact ⟨KeepsOthers.setCell _ _ _, HG.out⟩
      · have hok : okStep L x.At = true := by unfold okStep; simp [h1, h2]
        have HOK := hid hok
        clear hok
        gi_wp2
        exact fin.out _ rfl HOK.out
  case done =>
    rintro D xs W hD rfl ⟨⟨ht, hl, hm⟩, _⟩ hK
    have hsW := hm.size
    have HBW := hid (below_mod HB0.out hm (fun i e => by omega) (by omega))
    have HK := hid hK
    have HCT := hid (show ∀ u, Below W.heap.size W u → u.cell? ⟨w.heap.size + 2, 0, none⟩ = some (.string (catR (runes s))) from
      fun u h => cell_keep h ((cells_of_block ht).1 0 _ rfl))
    have HCR := hid (show ∀ u, Below W.heap.size W u → u.heap[w.heap.size]? = some (.cells #[.bool false] 4 (0, 0)) from
      fun u h => (h.block _ (by omega)).trans ((hm.block w.heap.size (by omega) (by omega)).trans HR0.out))
    clear ht hl hm hK HR0 HS0 HT0 HL0
    have hf2 : ((foldS (foldS s)).toList == (foldS s).toList) = true := by rw [foldS_twice]; exact beq_self_eq_true _
    have hf2' : ((foldS (foldS s)).toList != (foldS s).toList) = false := by rw [foldS_twice]; exact bne_self_eq_false _
    have hfz := foldS_size s
    have hfn1 : nameB s = true → foldS s = s := name_fold s
    have hct : wholeB s = true → catR (runes s) = s := cat_whole s
    have HFZ := hid hfz
    have HFN := hid hfn1
    have HCW := hid hct
    clear hfz hfn1 hct
    have rest : ∀ v0 : Bool, v0 = true → True := fun _ _ => trivial
    clear rest
    go_wp2_with fail
    refine (fold_calls s _ (by omega)).mono ?_
    rintro e u0 ⟨rfl, hb0⟩
    have U0 := hid hb0
    clear hb0
    obtain ⟨f, hf⟩ : ∃ f, f = foldS s := ⟨_, rfl⟩
    have HF := hid hf
    rw [← hf] at hf2 hf2' ⊢
    have hfs : f.size = s.size := by rw [hf]; exact HFZ.out
    clear hf
    have hfz2 : f.size ≤ 140737488351232 := by omega
    have hfzI : ((f.size : Int) != (s.size : Int)) = false := by rw [hfs]; exact bne_self_eq_false _
    go_wp2_with fail
    refine (fold_calls f _ hfz2).mono ?_
    rintro e u1 ⟨rfl, hb1⟩
    have U1 := hid (show Below W.heap.size W u1 from bThen U0.out hb1)
    clear hb1
    clear hfz2
    go_wp2_with fail
    refine (name_calls s _ (by omega)).mono ?_
    rintro e u2 ⟨rfl, hb2⟩
    have U2 := hid (show Below W.heap.size W u2 from bThen U1.out hb2)
    clear hb2
    have hfs2 : nameB s = true → (f.toList != s.toList) = false ∧ (f.toList == s.toList) = true := fun h => by rw [HF.out, HFN.out h]; exact ⟨bne_self_eq_false _, beq_self_eq_true _⟩
    have HFS := hid hfs2
    clear hfs2
    cases hn : nameB s
    case false =>
      go_wp2_with fail
      refine (whole_calls s _ (by omega)).mono ?_
      rintro e u3 ⟨rfl, hb3⟩
      have U3 := hid (show Below W.heap.size W u3 from bThen U2.out hb3)
      have hct := HCT.out u3 U3.out
      clear hb3
      cases hw : wholeB s
      case false =>
        go_wp2_with fail
        refine (works04_calls _).mono ?_
        rintro e u4 ⟨rfl, hb4⟩
        have U4 := hid (show Below W.heap.size W u4 from bThen U3.out hb4)
        clear hb4
        obtain ⟨z0, z1, _⟩ := cells_of_block (HCR.out _ U4.out)
        have z2 := z0 0 _ rfl
        have z3 := z1 0
        clear z0 z1
        go_wp2
        have hK' := (KeepsOthers.setCell u4 ⟨w.heap.size, 0, none⟩ (.bool true)).same D _ ((U4.out.block D (Array.getElem?_eq_some_iff.1 HK.out).1).trans HK.out) rfl
        refine ⟨by simp, .inl ⟨_, _, rfl, run_takeDeferred hK', ?_⟩⟩
        have hc5 := cell_kept (World.cell?_setCell_same' u4 ⟨w.heap.size, 0, none⟩ (.bool true) (by rw [z2]; rfl)) (grownBy_putObj' _ D (.deferred none)) (fun r e => by cases e; exact ⟨_, hK', rfl⟩)
        refine ⟨.bool true, ?_, rfl, ((bThen HBW.out U4.out).setCell (p := ⟨w.heap.size, 0, none⟩) (Nat.le_refl _) _).trans (belowK_b (w := w) (Nat.le_refl _) _ D _ _ (by omega) hK' rfl rfl)⟩
        simp [results, Try.f9, go_sem, hc5]
      case true =>
        have hcs : ((catR (runes s)).toList == s.toList) = true := by rw [HCW.out hw]; exact beq_self_eq_true _
        go_wp2_with fail
        refine (works04_calls _).mono ?_
        rintro e u4 ⟨rfl, hb4⟩
        have U4 := hid (show Below W.heap.size W u4 from bThen U3.out hb4)
        clear hb4
        obtain ⟨z0, z1, _⟩ := cells_of_block (HCR.out _ U4.out)
        have z2 := z0 0 _ rfl
        have z3 := z1 0
        clear z0 z1
        go_wp2
        have hK' := (KeepsOthers.setCell u4 ⟨w.heap.size, 0, none⟩ (.bool true)).same D _ ((U4.out.block D (Array.getElem?_eq_some_iff.1 HK.out).1).trans HK.out) rfl
        refine ⟨by simp, .inl ⟨_, _, rfl, run_takeDeferred hK', ?_⟩⟩
        have hc5 := cell_kept (World.cell?_setCell_same' u4 ⟨w.heap.size, 0, none⟩ (.bool true) (by rw [z2]; rfl)) (grownBy_putObj' _ D (.deferred none)) (fun r e => by cases e; exact ⟨_, hK', rfl⟩)
        refine ⟨.bool true, ?_, rfl, ((bThen HBW.out U4.out).setCell (p := ⟨w.heap.size, 0, none⟩) (Nat.le_refl _) _).trans (belowK_b (w := w) (Nat.le_refl _) _ D _ _ (by omega) hK' rfl rfl)⟩
        simp [results, Try.f9, go_sem, hc5]
    case true =>
      obtain ⟨hfs2, hfs3⟩ := HFS.out hn
      go_wp2_with fail
      refine (whole_calls s _ (by omega)).mono ?_
      rintro e u3 ⟨rfl, hb3⟩
      have U3 := hid (show Below W.heap.size W u3 from bThen U2.out hb3)
      have hct := HCT.out u3 U3.out
      clear hb3
      cases hw : wholeB s
      case false =>
        go_wp2_with fail
        refine (works04_calls _).mono ?_
        rintro e u4 ⟨rfl, hb4⟩
        have U4 := hid (show Below W.heap.size W u4 from bThen U3.out hb4)
        clear hb4
        obtain ⟨z0, z1, _⟩ := cells_of_block (HCR.out _ U4.out)
        have z2 := z0 0 _ rfl
        have z3 := z1 0
        clear z0 z1
        go_wp2
        have hK' := (KeepsOthers.setCell u4 ⟨w.heap.size, 0, none⟩ (.bool true)).same D _ ((U4.out.block D (Array.getElem?_eq_some_iff.1 HK.out).1).trans HK.out) rfl
        refine ⟨by simp, .inl ⟨_, _, rfl, run_takeDeferred hK', ?_⟩⟩
        have hc5 := cell_kept (World.cell?_setCell_same' u4 ⟨w.heap.size, 0, none⟩ (.bool true) (by rw [z2]; rfl)) (grownBy_putObj' _ D (.deferred none)) (fun r e => by cases e; exact ⟨_, hK', rfl⟩)
        refine ⟨.bool true, ?_, rfl, ((bThen HBW.out U4.out).setCell (p := ⟨w.heap.size, 0, none⟩) (Nat.le_refl _) _).trans (belowK_b (w := w) (Nat.le_refl _) _ D _ _ (by omega) hK' rfl rfl)⟩
        simp [results, Try.f9, go_sem, hc5]
      case true =>
        have hcs : ((catR (runes s)).toList == s.toList) = true := by rw [HCW.out hw]; exact beq_self_eq_true _
        go_wp2_with fail
        refine (works04_calls _).mono ?_
        rintro e u4 ⟨rfl, hb4⟩
        have U4 := hid (show Below W.heap.size W u4 from bThen U3.out hb4)
        clear hb4
        obtain ⟨z0, z1, _⟩ := cells_of_block (HCR.out _ U4.out)
        have z2 := z0 0 _ rfl
        have z3 := z1 0
        clear z0 z1
        go_wp2
        have hK' := (KeepsOthers.setCell u4 ⟨w.heap.size, 0, none⟩ (.bool true)).same D _ ((U4.out.block D (Array.getElem?_eq_some_iff.1 HK.out).1).trans HK.out) rfl
        refine ⟨by simp, .inl ⟨_, _, rfl, run_takeDeferred hK', ?_⟩⟩
        have hc5 := cell_kept (World.cell?_setCell_same' u4 ⟨w.heap.size, 0, none⟩ (.bool true) (by rw [z2]; rfl)) (grownBy_putObj' _ D (.deferred none)) (fun r e => by cases e; exact ⟨_, hK', rfl⟩)
        refine ⟨.bool true, ?_, rfl, ((bThen HBW.out U4.out).setCell (p := ⟨w.heap.size, 0, none⟩) (Nat.le_refl _) _).trans (belowK_b (w := w) (Nat.le_refl _) _ D _ _ (by omega) hK' rfl rfl)⟩
        simp [results, Try.f9, go_sem, hc5]
  case stop =>
    rintro D c pre W _ hp hx _
    have := ris_pre hp (ris_runes s)
    rw [hx] at this
    cases this
theorem glyphJoins_walk (W : World) (s : ByteArray) (_h : s.size ≤ 140737488351232) :
    Calls Try.prog 9 #[.string s] W fun e w' => e = .returned (.bool true) ∧ Below W.heap.size W w' := glyphJoinsLaw s W
end Go.Proofs.Ytlckkcefkiffjaa
