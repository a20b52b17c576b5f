/- strings.ContainsRune of the signs. -/
import Derived.Test.YtgedkcglkhleoaaGreatDoorProg
import Derived.Test.YtgedkcglkhleoaaGreatDoorBase
import Derived.Lib.Bytealg
import Derived.Handy
import Derived.BigGuard
import Derived.WalkMore
namespace Go.Proofs.YtgedkcglkhleoaaGreatDoor
open Go.RowKit Go.Lib

def bSigns : ByteArray := ⟨#[40, 41, 33, 38, 124, 42]⟩
/-- A call that leaves the world alone, in a second quiet region. -/
theorem quiet2 {P : Program} {f : FuncId} {args : Array Value} {v : Value} {w : World} {a n : Nat} (h : ∀ W, Calls P f args W fun e w' => e = .returned v ∧ W = w') :
    Calls P f args (w.drewN (a + n)) fun e w' => e = .returned v ∧ ∃ m, w' = w.drewN (a + m) := (h _).mono fun _ _ ⟨h1, h2⟩ => ⟨h1, n, h2.symm⟩
theorem bSigns_low : ∀ p, p < bSigns.size → bN bSigns p < 128 := by
  have h : ∀ p : Fin 6, bN bSigns p.val < 128 := by decide +kernel
  exact fun p hp => h ⟨p, hp⟩
theorem idx_sign (c : Int) (h0 : 0 ≤ c) (h1 : c < 128) : decide (0 ≤ Lib.indexByte bSigns.data.toList c.toNat.toUInt8) = signB c := by
  have h : ∀ n : Fin 128, decide (0 ≤ Lib.indexByte bSigns.data.toList n.val.toUInt8) = signB (n.val : Int) := by decide +kernel
  have := h ⟨c.toNat, by omega⟩
  simp only at this
  rw [this]; congr 1; omega
theorem enc_small (c : Int) (h0 : 128 ≤ c) (h1 : c ≤ 160) : Utf8.encode c = ⟨#[194, UInt8.ofNat c.toNat]⟩ := by
  have h := enc2 (c := c.toNat) (by omega) (by omega)
  rw [show ((c.toNat : Nat) : Int) = c by omega] at h
  rw [h]
  have e1 : 192 + c.toNat / 64 = 194 := by omega
  have e2 : 128 + c.toNat % 64 = c.toNat := by omega
  rw [e1, e2]; rfl
theorem idx_none (c : Int) (h0 : 128 ≤ c) (h1 : c ≤ 160) : Lib.indexByte (bSigns.extract 2 6).data.toList c.toNat.toUInt8 = -1 := by
  have h : ∀ n : Fin 256, 128 ≤ n.val → Lib.indexByte (bSigns.extract 2 6).data.toList n.val.toUInt8 = -1 := by decide +kernel
  exact h ⟨c.toNat, by omega⟩ (by show 128 ≤ c.toNat; omega)

set_option maxRecDepth 100000 in
theorem indexByte_calls (s : ByteArray) (c : Int) (w : World) : Calls Tryz.prog 109 #[.string s, .int .u8 c] w fun e w' => e = .returned (.int .i64 (Lib.indexByte s.data.toList c.toNat.toUInt8)) ∧ w = w' := by
  have inner : ∀ w, Calls Tryz.prog 119 #[.string s, .int .u8 c] w fun e w' => e = .returned (.int .i64 (Lib.indexByte s.data.toList c.toNat.toUInt8)) ∧ w = w' := by
    intro w
    go_enter Tryz.func119, Tryz.ntmps119
    go_wp2
    rw [run_callFunc_extern Tryz.func121 (by kernel_rfl) (by kernel_rfl) (by kernel_rfl) (e := Extern.BytealgIndexByte.indexByte) (by kernel_rfl), Lib.run_indexByteString]
    simp only [Result.andThen]
    rw [Oper.upon_value]
    go_wp2
    go_ret
    exact ⟨rfl, rfl⟩
  go_enter Tryz.func109, Tryz.ntmps109
  go_wp2_with fail
  refine (inner _).mono ?_
  rintro e w1 ⟨rfl, rfl⟩
  go_wp2
  go_ret
  exact ⟨rfl, rfl⟩
set_option maxHeartbeats 1000000 in
set_option maxRecDepth 100000 in
theorem indexRune_low (c : Int) (h0 : 0 ≤ c) (h1 : c < 128) (w : World) : Calls Tryz.prog 98 #[.string bSigns, .int .i32 c] w fun e w' => ∃ k, e = .returned (.int .i64 k) ∧ decide (0 ≤ k) = signB c ∧ Below w.heap.size w w' := by
  have H := hid (idx_sign c h0 h1)
  have hu : IntKind.u8.wrap c = c := by rw [IntKind.wrap_u8]; omega
  go_enter Tryz.func98, Tryz.ntmps98
  go_wp2_with fail
  refine (indexByte_calls bSigns c _).mono ?_
  rintro e w1 ⟨rfl, rfl⟩
  go_wp2
  go_ret
  exact ⟨_, rfl, H.out, Below.refl _ _⟩
set_option maxHeartbeats 1000000 in
set_option maxRecDepth 100000 in
theorem indexRune_bad (w : World) : Calls Tryz.prog 98 #[.string bSigns, .int .i32 65533] w fun e w' => e = .returned (.int .i64 (-1)) ∧ Below w.heap.size w w' := by
  go_enter Tryz.func98, Tryz.ntmps98
  go_wp2
  go_loopw [] (fun wr => ∃ (p : Nat), wr.heap[w.heap.size]? = some (.stringIter bSigns p) ∧ p ≤ 6 ∧ Below w.heap.size w wr) (fun wr => 6 - wr.iterPos w.heap.size)
  case atStart => exact ⟨0, World.iter_heap w bSigns 0, by omega, bAlloc (Below.refl _ _) _⟩
  case round =>
    obtain ⟨p, hk, hp6, hb⟩ := hrel
    have hip := iterPos_of hk
    have hsz : bSigns.size = 6 := rfl
    by_cases hp : p < 6
    · have hnx := fun ty => run_next_any_at (P := Tryz.prog) wr w.heap.size bSigns p ty hk (by rw [hsz]; exact hp)
      have hlo := bSigns_low p (by rw [hsz]; exact hp)
      rw [dec_low hlo] at hnx
      have HK := hid (iterAt_heap wr w.heap.size bSigns p (p + 1) hk)
      have HB := hid (below_iterAt hb (Nat.le_refl _) bSigns (p + 1))
      have hne : ((bN bSigns p : Int) == 65533) = false := by rw [beq_eq_false_iff_ne]; omega
      go_wp2
      go_roundw
      case rel => exact ⟨_, HK.out, by omega, HB.out⟩
      case measure => rw [hip, iterPos_of HK.out]; omega
    · have hnx := fun ty => run_next_end_at (P := Tryz.prog) wr w.heap.size bSigns p ty hk (by rw [hsz]; omega)
      go_wp2
      go_ret
      exact ⟨rfl, hb⟩
set_option maxHeartbeats 1000000 in
set_option maxRecDepth 100000 in
theorem validRune_calls (c : Int) (h0 : 128 ≤ c) (h1 : c ≤ 160) (w : World) : Calls Tryz.prog 110 #[.int .i32 c] w fun e w' => e = .returned (.bool true) ∧ w = w' := by
  have h2 : c < 55296 := by omega
  have h3 : (0 : Int) ≤ c := by omega
  go_enter Tryz.func110, Tryz.ntmps110
  go_wp2
  go_ret
  exact ⟨rfl, rfl⟩
set_option maxHeartbeats 1000000 in
set_option maxRecDepth 100000 in
theorem indexRune_mid (c : Int) (h0 : 128 ≤ c) (h1 : c ≤ 160) (w : World) : Calls Tryz.prog 98 #[.string bSigns, .int .i32 c] w fun e w' => e = .returned (.int .i64 (-1)) ∧ Below w.heap.size w w' := by
  have h2 : ¬ c < 128 := by omega
  have h3 : (c == 65533) = false := by rw [beq_eq_false_iff_ne]; omega
  have he := enc_small c h0 h1
  obtain ⟨r, hr⟩ : ∃ r, Utf8.encode c = r := ⟨_, rfl⟩
  have hrs : r.size = 2 := by rw [← hr, he]; rfl
  have hr1 : (bN r 1 : Int) = c := by
    rw [← hr, he]
    have : bN ⟨#[194, UInt8.ofNat c.toNat]⟩ 1 = c.toNat := by
      have := bN_mk [194, UInt8.ofNat c.toNat] 1 (by simp)
      exact this.trans (ofNat8 (by omega))
    rw [this]; omega
  have hb := bN_at r
  have hb1 := bN_at bSigns
  have hs1 : (bN bSigns 1 : Int) = 41 := by decide +kernel
  have hs6 : bSigns.size = 6 := rfl
  have h41 : ((41 : Int) != c) = true := by rw [bne_iff_ne]; omega
  have HI : ∀ W, Calls Tryz.prog 109 #[.string (bSigns.extract 2 6), .int .u8 c] W fun e w' => e = .returned (.int .i64 (-1)) ∧ W = w' := fun W => (indexByte_calls _ _ _).mono fun e w' h => ⟨by rw [h.1, idx_none c h0 h1], h.2⟩
  clear he
  go_enter Tryz.func98, Tryz.ntmps98
  go_wp2_with fail
  refine (validRune_calls c h0 h1 _).mono ?_
  rintro e w1 ⟨rfl, rfl⟩
  go_wp2
  go_step3
  go_wp2
  refine wp_loop_rounds 1 ?_
  rw [rounds_succ]
  go_wp2
  go_step3
  go_wp2
  go_quiet (fail)
  go_wp2
  go_quiet ((go_at_call 109; exact quiet2 HI))
  clear HI
  go_wp2
  rw [Exit.noGoto_ret]
  dsimp only [Exit.inBlock, Exit.then]
  rw [Exit.noGoto_ret]
  go_ret
  exact ⟨rfl, below_drewN (Below.refl _ _) _⟩

theorem contains_calls (c : Int) (h : (0 ≤ c ∧ c ≤ 160) ∨ c = 65533) (w : World) : Calls Tryz.prog 87 #[.string bSigns, .int .i32 c] w fun e w' => e = .returned (.bool (signB c)) ∧ Below w.heap.size w w' := by
  have key : Calls Tryz.prog 98 #[.string bSigns, .int .i32 c] w fun e w' => ∃ k, e = .returned (.int .i64 k) ∧ decide (0 ≤ k) = signB c ∧ Below w.heap.size w w' := by
    rcases h with ⟨h0, h1⟩ | h
    · rcases Int.lt_or_le c 128 with h2 | h2
      · exact indexRune_low c h0 h2 w
      · exact (indexRune_mid c h2 h1 w).mono fun e w' h => ⟨-1, h.1, by unfold signB; simp; omega, h.2⟩
    · subst h
      exact (indexRune_bad w).mono fun e w' h => ⟨-1, h.1, by decide, h.2⟩
  go_enter Tryz.func87, Tryz.ntmps87
  go_wp2_with fail
  refine key.mono ?_
  rintro e w1 ⟨k, rfl, hk, hb⟩
  have HK := hid hk
  clear hk
  go_wp2
  go_ret
  exact ⟨ret_bool HK.out, hb⟩
end Go.Proofs.YtgedkcglkhleoaaGreatDoor
