import Derived.Test.YtahhhnbpohcbfaaRd2
namespace Go.Proofs.Ytahhhnbpohcbfaa
open Go.RowKit

set_option maxRecDepth 100000 in
/-- What look does, by nextN: a number and how many bytes it has, or the error is laid. -/
theorem rdLook_calls (T : Nat → Prop) (g : Nat) (R : RdS) (most : Int) (w : World) (hd : RdAt w T g R) (h0 : R.e = 0) :
    Calls Try.prog 88 #[.pointer (some ⟨g, 0, none⟩), .int .i64 most] w fun en w' => ∃ n k : Int, en = .returned (.tuple #[.int .i64 n, .int .i64 k]) ∧ RdAt w' T g ⟨R.b, (nextN R.b most).1⟩ ∧ Mod (fun k => k = g) w w' ∧
      ((nextN R.b most).1 = 0 → w = w' ∧ n = (nextN R.b most).2.1 ∧ k = (nextN R.b most).2.2) := by
  obtain ⟨b, hb⟩ : ∃ b, R.b = b := ⟨_, rfl⟩
  have hR : (⟨R.b, 0⟩ : RdS) = R := by cases R; simp only at h0; rw [h0]
  cases b with
  | nil =>
    have hv : nextN R.b most = (2, 0, 0) := by rw [hb]; rfl
    rw [hv]
    exact (rdLook_nil T g R most w hd h0 hb).mono (fun en w' ⟨h1, h2, h3⟩ => ⟨0, 0, h1, h2, h3, fun h => absurd h (by decide)⟩)
  | cons x r =>
    have hx := x.toNat_lt
    by_cases h1 : x.toNat < 248
    · by_cases h2 : max most 0 < (x.toNat : Int)
      · have hv : nextN R.b most = (4, 0, 0) := by rw [hb]; unfold nextN; simp only; rw [if_pos h1, if_pos h2]
        rw [hv]
        exact (rdLook_low_no T g R most x r w hd h0 hb h1 h2).mono (fun en w' ⟨h1, h2, h3⟩ => ⟨0, 1, h1, h2, h3, fun h => absurd h (by decide)⟩)
      · have hv : nextN R.b most = (0, x.toNat, 1) := by rw [hb]; unfold nextN; simp only; rw [if_pos h1, if_neg h2]
        rw [hv]
        exact (rdLook_low T g R most x r w hd hb h1 (by omega)).mono (fun en w' ⟨h1, h2⟩ => ⟨x.toNat, 1, h1, by subst h2; simpa only [hR] using hd, h2 ▸ Mod.refl _ _, fun _ => ⟨h2, rfl, rfl⟩⟩)
    · by_cases h2 : x.toNat = 255
      · have hv : nextN R.b most = (3, 0, 0) := by rw [hb]; unfold nextN; simp only; rw [if_neg h1, if_pos h2]
        rw [hv]
        exact (rdLook_255 T g R most x r w hd h0 hb h2).mono (fun en w' ⟨h1, h2, h3⟩ => ⟨0, 0, h1, h2, h3, fun h => absurd h (by decide)⟩)
      · by_cases h3 : r.length < x.toNat - 247
        · have hv : nextN R.b most = (2, 0, 0) := by rw [hb]; unfold nextN; simp only; rw [if_neg h1, if_neg h2, if_pos h3]
          rw [hv]
          exact (rdLook_short T g R most x r w hd h0 hb (by omega) (by omega) h3).mono (fun en w' ⟨h1, h2, h3⟩ => ⟨0, 0, h1, h2, h3, fun h => absurd h (by decide)⟩)
        · refine (rdLook_long T g R most x r _ _ w hd h0 hb (by omega) (by omega) rfl (by omega) rfl).mono (fun en w' h => ?_)
          split at h
          · rename_i h4
            have hv : nextN R.b most = (3, 0, 0) := by rw [hb]; unfold nextN; simp only; rw [if_neg h1, if_neg h2, if_neg h3, if_pos h4]
            rw [hv]
            exact ⟨0, 0, h.1, h.2.1, h.2.2, fun h => absurd h (by decide)⟩
          · rename_i h4
            split at h
            · rename_i h5
              have hv : nextN R.b most = (4, 0, 0) := by rw [hb]; unfold nextN; simp only; rw [if_neg h1, if_neg h2, if_neg h3, if_neg h4, if_pos h5]
              rw [hv]
              exact ⟨0, _, h.1, h.2.1, h.2.2, fun h => absurd h (by decide)⟩
            · rename_i h5
              have hv : nextN R.b most = (0, valN (r.take (x.toNat - 247)), x.toNat - 247 + 1) := by rw [hb]; unfold nextN; simp only; rw [if_neg h1, if_neg h2, if_neg h3, if_neg h4, if_neg h5]
              rw [hv]
              obtain ⟨h6, rfl⟩ := h
              exact ⟨_, _, h6, by simpa only [hR] using hd, Mod.refl _ _, fun _ => ⟨rfl, rfl, by show (1 + ((x.toNat - 247 : Nat) : Int)) = ((x.toNat - 247 + 1 : Nat) : Int); omega⟩⟩
end Go.Proofs.Ytahhhnbpohcbfaa
