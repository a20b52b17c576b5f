import Derived.Test.YtolckkckheiceaaProg
import Derived.Test.YtolckkckheiceaaLib
import Derived.Handy
namespace Go.Proofs.Ytolckkckheiceaa
open Go.RowKit

/-! ### names.first -/
def firstAt (p : Nat → Bool) (n : Int) (r : Int) : Prop := (0 ≤ r ∧ r < n ∧ p r.toNat = true ∧ ∀ j < r.toNat, p j = false) ∨ (r = -1 ∧ ∀ j : Nat, (j : Int) < n → p j = false)

set_option maxHeartbeats 400000 in
set_option maxRecDepth 100000 in
theorem first_calls (f : Nat) (cap : Array Value) (p : Nat → Bool) (n : Int) (w : World) (hn : n ≤ 140737488355328)
   (hE : ∀ args w, (callFunc f args).run Try.prog w = .ok (.enter f args) w)
   (hp : ∀ (i : Nat) (W : World), Below w.heap.size w W → (i : Int) < n → Calls Try.prog f (#[.int .i64 i] ++ cap) W fun e w' => e = .returned (.bool (p i)) ∧ Below W.heap.size W w') :
    Calls Try.prog 207 #[.int .i64 n, .func (.func f) #[] cap] w fun e w' => ∃ r, firstAt p n r ∧ e = .returned (.int .i64 r) ∧ Below w.heap.size w w' := by
  have hp' := hid hp
  clear hp
  go_enter Try.func207, Try.ntmps207
  go_wp2
  go_loopw [5] (fun i wr => ∃ k : Nat, (k : Int) ≤ max n 0 ∧ (∀ j < k, p j = false) ∧ i = .int .i64 k ∧ Below w.heap.size w wr) (fun i _ => (n - intOf i).toNat)
  case atStart => exact ⟨0, by omega, by simp, rfl, Below.refl _ _⟩
  case round =>
    obtain ⟨k, hk, hj, rfl, hb⟩ := hrel
    have HJ := hid hj
    clear hj
    by_cases hlt : (k : Int) < n
    · have h1' := hid (hp'.out k wr hb hlt)
      clear hp'
      go_wp2_with fail
      refine h1'.out.mono ?_
      rintro e w' ⟨rfl, hb1⟩
      clear h1'
      cases hpk : p k
      · go_wp2
        go_roundw
        case rel => exact ⟨k + 1, by omega, fun j hj => by rcases Nat.lt_succ_iff_lt_or_eq.1 hj with h | rfl; exact HJ.out j h; exact hpk, by go_num, bThen hb hb1⟩
        case measure => simp [intOf]; omega
      · go_wp2
        go_ret
        exact ⟨k, .inl ⟨by omega, by omega, hpk, HJ.out⟩, rfl, bThen hb hb1⟩
    · go_wp2
      go_ret
      exact ⟨-1, .inr ⟨rfl, fun j hj => HJ.out j (by omega)⟩, rfl, hb⟩

end Go.Proofs.Ytolckkckheiceaa
