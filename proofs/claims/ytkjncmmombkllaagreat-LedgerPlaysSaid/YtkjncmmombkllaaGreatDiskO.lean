/- A disk that may be nil: what its methods do. -/
import Derived.Test.YtkjncmmombkllaaGreatDisk2
import Derived.Test.YtkjncmmombkllaaGreatBase
namespace Go.Proofs.YtkjncmmombkllaaGreat
open Go.RowKit

def DOpt (w : World) (T : Nat → Prop) (p : Option Addr) : Option DiskS → Prop
  | none => p = none
  | some D => ∃ g, p = some ⟨g, 0, none⟩ ∧ DiskAt w T g D
def oB (D : Option DiskS) : List UInt8 := D.elim [] (·.b)
def oFuse (D : Option DiskS) (n : Int) : Option DiskS := D.map (·.burn n)
def oApp (D : Option DiskS) (x : List UInt8) : Option DiskS × Int := D.elim (none, 1) (fun D => (some (D.append x).1, (D.append x).2))
theorem oApp_law (D : Option DiskS) (x : List UInt8) : ∃ q, q ≤ x.length ∧ oB (oApp D x).1 = oB D ++ x.take q ∧ ((oApp D x).2 = 0 → q = x.length) := by
  cases D with
  | none => exact ⟨0, Nat.zero_le _, by simp [oApp, oB], by simp [oApp]⟩
  | some D =>
    simp only [oApp, Option.elim, oB, DiskS.append]
    split
    · exact ⟨0, Nat.zero_le _, by simp, by simp⟩
    · split
      · exact ⟨min D.fuse.toNat x.length, Nat.min_le_right _ _, rfl, by simp⟩
      · exact ⟨x.length, Nat.le_refl _, by simp, fun _ => rfl⟩
theorem DOpt.mono {w : World} {T T' : Nat → Prop} {p : Option Addr} {D : Option DiskS} (h : DOpt w T p D) (hT : ∀ k, k < w.heap.size → T k → T' k) : DOpt w T' p D := by
  cases D with
  | none => exact h
  | some D => obtain ⟨g, h1, h2⟩ := h; exact ⟨g, h1, h2.mono hT⟩
theorem DOpt.below {w w1 : World} {T : Nat → Prop} {p : Option Addr} {D : Option DiskS} (h : DOpt w T p D) (hb : Below w.heap.size w w1) : DOpt w1 T p D := by
  cases D with
  | none => exact h
  | some D => obtain ⟨g, h1, h2⟩ := h; exact ⟨g, h1, h2.below hb⟩
theorem oB_len {w : World} {T : Nat → Prop} {p : Option Addr} {D : Option DiskS} (h : DOpt w T p D) : (oB D).length ≤ 65536 := by
  cases D with
  | none => simp [oB]
  | some D => obtain ⟨g, h1, ⟨h2, h3, _⟩, _⟩ := h; simp only [oB, Option.elim]; omega

set_option maxHeartbeats 800000 in
set_option maxRecDepth 100000 in
theorem oBytes_calls (T : Nat → Prop) (p : Option Addr) (D : Option DiskS) (w : World) (hd : DOpt w T p D) : Calls Tryz.prog 12 #[.pointer p] w fun e w' =>
    ∃ A c, e = .returned (.slice A (oB D).length c) ∧ Kd.u8.slice.K w' (fun k => w.heap.size ≤ k) (oB D) [.slice A (oB D).length c] ∧ Below w.heap.size w w' := by
  cases D with
  | none =>
    subst hd
    go_enter Tryz.func12, Tryz.ntmps12
    go_wp2
    go_ret
    exact ⟨none, 0, rfl, ⟨none, 0, rfl, by simp [oB], by simp [oB], Kd.Row.nil⟩, Below.refl _ _⟩
  | some D =>
    obtain ⟨g, rfl, hd⟩ := hd
    refine (diskBytes_calls T g D w hd).mono ?_
    rintro e w1 ⟨A, c, rfl, _, hO, hb⟩
    exact ⟨_, c, rfl, Kd.mono _ (fun k h _ => by simpa using h) hO.K, hb⟩

set_option maxHeartbeats 800000 in
set_option maxRecDepth 100000 in
theorem oFuse_calls (T : Nat → Prop) (p : Option Addr) (D : Option DiskS) (n : Int) (w : World) (hn : n ≤ 9223372036854775807) (hd : DOpt w T p D) : Calls Tryz.prog 15 #[.pointer p, .int .i64 n] w fun e w' => e = .returned (.tuple #[]) ∧ DOpt w' T p (oFuse D n) ∧ Mod T w w' := by
  cases D with
  | none =>
    subst hd
    go_enter Tryz.func15, Tryz.ntmps15
    go_wp2
    go_end0
    exact ⟨rfl, rfl, Mod.refl _ _⟩
  | some D =>
    obtain ⟨g, rfl, hd⟩ := hd
    exact (diskFuse_calls T g D n w hn hd).mono (fun e w' ⟨h1, h2, h3⟩ => ⟨h1, ⟨g, rfl, h2⟩, h3⟩)

set_option maxHeartbeats 800000 in
set_option maxRecDepth 100000 in
theorem oAppend_calls (T : Nat → Prop) (p : Option Addr) (D : Option DiskS) (x : List UInt8) (v : Value) (w : World) (hd : DOpt w T p D) (hx : Kd.u8.slice.K w (fun k => ¬ T k) x [v]) :
    Calls Tryz.prog 8 #[.pointer p, v] w fun e w' => e = .returned (.int .i64 (oApp D x).2) ∧ DOpt w' (fun k => T k ∨ w.heap.size ≤ k) p (oApp D x).1 ∧ Mod T w w' := by
  cases D with
  | none =>
    subst hd
    go_enter Tryz.func8, Tryz.ntmps8
    go_wp2
    go_ret
    exact ⟨rfl, rfl, Mod.refl _ _⟩
  | some D =>
    obtain ⟨g, rfl, hd⟩ := hd
    exact (diskAppend_calls T g D x v w hd hx).mono (fun e w' ⟨h1, h2, h3⟩ => ⟨h1, ⟨g, rfl, h2⟩, h3⟩)

theorem oNew_calls (room : Int) (w : World) : Calls Tryz.prog 4 #[.int .i64 room] w fun e w' => ∃ p D, e = .returned (.pointer p) ∧ DOpt w' (fun k => w.heap.size ≤ k) p D ∧ Below w.heap.size w w' := by
  by_cases h : room < 0 ∨ 65536 < room
  · exact (diskNew_no room w h).mono (fun e w' ⟨h1, h2⟩ => ⟨none, none, h1, rfl, h2 ▸ Below.refl _ _⟩)
  · exact (diskNew_yes room w (by omega) (by omega)).mono (fun e w' ⟨h1, h2, h3⟩ => ⟨_, some _, h1, ⟨_, rfl, h2⟩, h3⟩)

end Go.Proofs.YtkjncmmombkllaaGreat
