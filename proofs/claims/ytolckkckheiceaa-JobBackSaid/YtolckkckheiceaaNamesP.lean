import Derived.Test.YtolckkckheiceaaProg
import Derived.Test.YtolckkckheiceaaNamesF
import Derived.Handy
namespace Go.Proofs.Ytolckkckheiceaa
open Go.RowKit

/-! ### names.Place -/
def placeN (l : List ByteArray) (s : ByteArray) : Option Nat := l.findIdx? fun x => decide (x = s)
def placeI (l : List ByteArray) (s : ByteArray) : Int := match placeN l s with | some k => (k : Int) | none => -1

theorem placeI_first (l : List ByteArray) (s : ByteArray) (r : Int) (h : firstAt (fun i => decide (l[i]?.getD ByteArray.empty = s)) l.length r) : r = placeI l s := by
  unfold placeI
  rcases h with ⟨h0, h1, h2, h3⟩ | ⟨rfl, h⟩
  · have : placeN l s = some r.toNat := by
      unfold placeN
      rw [List.findIdx?_eq_some_iff_getElem]
      refine ⟨by omega, ?_, fun j hj => ?_⟩
      · have hk : r.toNat < l.length := by omega
        simpa [List.getElem?_eq_getElem hk] using h2
      · have hk : j < l.length := by omega
        have := h3 j hj
        simpa [List.getElem?_eq_getElem hk] using this
    rw [this]; simp; omega
  · have : placeN l s = none := by
      unfold placeN
      rw [List.findIdx?_eq_none_iff]
      intro x hx
      obtain ⟨i, hi, rfl⟩ := List.getElem_of_mem hx
      have := h i (by omega)
      simpa [List.getElem?_eq_getElem hi] using this
    rw [this]

set_option maxHeartbeats 400000 in
set_option maxRecDepth 100000 in
theorem placeC_calls (i b1 b2 : Nat) (l : List ByteArray) (s : ByteArray) (A : Option Addr) (c : Nat) (w : World) (hi : i < l.length)
    (h1 : w.cell? ⟨b1, 0, none⟩ = some (.slice A l.length c)) (h2 : w.cell? ⟨b2, 0, none⟩ = some (.string s)) (hl : Kd.str.Row w Any A l) :
    Calls Try.prog 208 #[.int .i64 i, .pointer (some ⟨b1, 0, none⟩), .pointer (some ⟨b2, 0, none⟩)] w fun e w' => e = .returned (.bool (decide (l[i]?.getD ByteArray.empty = s))) ∧ Below w.heap.size w w' := by
  obtain ⟨a, x, rfl, hx, hc⟩ := hl.at_str i hi
  have HX := hid hx
  clear hx
  go_enter Try.func208, Try.ntmps208
  go_wp2
  go_quiet (fail)
  go_wp2
  go_ret
  exact ⟨by simp [HX.out, streq], below_drewN (Below.refl _ _) _⟩

theorem callFunc_placeC : ∀ args w, (callFunc 208 args).run Try.prog w = .ok (.enter 208 args) w := by
  intro args w
  kernel_rfl

set_option maxHeartbeats 400000 in
set_option maxRecDepth 100000 in
theorem place_calls (l : List ByteArray) (s : ByteArray) (v : Value) (w : World) (hl : Kd.str.slice.K w Any l [v]) :
    Calls Try.prog 203 #[v, .string s] w fun e w' => e = .returned (.int .i64 (placeI l s)) ∧ Below w.heap.size w w' := by
  obtain ⟨A, c, he, hc, hn, hr⟩ := hl
  cases he
  have hmf := makeFunc_run Try.prog
  go_enter Try.func203, Try.ntmps203
  go_wp2_with fail
  refine (first_calls _ _ (fun i => decide (l[i]?.getD ByteArray.empty = s)) _ _ (by omega) callFunc_placeC (fun i W hb hi => ?_)).mono ?_
  · refine placeC_calls i _ _ l s A c W (by omega) ?_ ?_ ((hr.below (((Below.refl _ w).alloc (Nat.le_refl _) _).alloc (by simp) _)).below hb)
    · rw [hb.cell (by simp; omega)]; simp [go_sem]
    · rw [hb.cell (by simp)]; simp [go_sem]
  · rintro e w' ⟨r, hf, rfl, hb⟩
    obtain rfl := placeI_first l s r hf
    clear hf
    go_wp2
    go_ret
    exact ⟨rfl, bThen (((Below.refl _ w).alloc (Nat.le_refl _) _).alloc (by simp) _) hb⟩

end Go.Proofs.Ytolckkckheiceaa
