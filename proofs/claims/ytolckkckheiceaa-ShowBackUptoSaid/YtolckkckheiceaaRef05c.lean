import Derived.Test.YtolckkckheiceaaNames2
import Derived.Test.YtolckkckheiceaaRef04
import Derived.Test.YtolckkckheiceaaRef04N
namespace Go.Proofs.Ytolckkckheiceaa
open Go.RowKit

theorem range_snoc (p : Nat → Bool) (n : Nat) : (List.range (n + 1)).any p = ((List.range n).any p || p n) := by
  rw [List.range_succ, List.any_append]; simp

set_option maxHeartbeats 800000 in
set_option maxRecDepth 100000 in
theorem r05check_calls (l : List ByteArray) (v : Value) (w : World) (hl : Kd.str.slice.K w Any l [v]) (hs : ∀ y ∈ l, y.size * 24 ≤ 140737488351232) :
    Calls Try.prog 30 #[v] w fun e w' => e = .returned (.int .i64 (tabE l)) ∧ Below w.heap.size w w' := by
  obtain ⟨A, c, he, hc, hn, hr⟩ := hl
  cases he
  have HR := hid hr
  have HS := hid hs
  have HD := hid (show tabE l = if (16 : Int) < l.length then 1 else if l.all nameB = false then 5 else if descB l = true then 1 else 0 from rfl)
  obtain ⟨q, hq⟩ : ∃ q, l.length = q := ⟨_, rfl⟩
  have HQ := hid hq
  rw [hq] at hc hn HD ⊢
  clear hr hs hq
  by_cases h16 : (16 : Int) < q
  · have HV := hid (show tabE l = 1 by rw [HD.out, if_pos h16])
    go_enter Try.func30, Try.ntmps30
    go_wp2
    go_ret
    exact ⟨ret_int (by rw [HV.out]), Below.refl _ _⟩
  · go_enter Try.func30, Try.ntmps30
    go_wp2_with fail
    go_loopw [3] (fun i wr => ∃ k : Nat, k ≤ q ∧ i = .int .i64 k ∧ Hid ((l.take k).all nameB = true) ∧ Below w.heap.size w wr) (fun i _ => q - (intOf i).toNat)
    case atStart => exact ⟨0, by omega, rfl, hid rfl, Below.refl _ _⟩
    case round =>
      obtain ⟨k, hk, rfl, HA, hb⟩ := hrel
      by_cases hlt : k < q
      · obtain ⟨a, x, rfl, hx, hcx⟩ := Kd.Row.at_str (HR.out.below hb) k (by rw [HQ.out]; exact hlt)
        have HX := hid hx
        have hsz := HS.out x (List.mem_of_getElem? hx)
        clear hx
        go_wp2_with fail
        refine (rname_calls x _ hsz).mono ?_
        rintro e w1 ⟨rfl, hb1⟩
        have b1 := bThen hb hb1
        clear hcx
        cases hnm : nameB x
        · have HV := hid (show tabE l = 5 by
            rw [HD.out, if_neg (by omega), if_pos]
            rw [List.all_eq_false]
            exact ⟨x, List.mem_of_getElem? HX.out, by simp [hnm]⟩)
          clear hnm
          go_wp2
          go_ret
          exact ⟨ret_int (by rw [HV.out]), b1⟩
        · have HN := hid hnm
          clear hnm
          go_wp2
          go_roundw
          case rel => exact ⟨k + 1, by omega, by go_num, hid (by rw [take_snoc HX.out, List.all_append, HA.out]; simp [HN.out]), b1⟩
          case measure => simp [intOf]; omega
      · obtain rfl : k = q := by omega
        have hall : l.all nameB = true := by have := HA.out; rwa [← HQ.out, List.take_length] at this
        have HALL := hid hall
        clear hall
        go_wp2_with fail
        go_loopw [4] (fun i ws => ∃ j : Nat, 1 ≤ j ∧ i = .int .i64 j ∧ (j : Int) ≤ max (k : Int) 1 ∧ Hid ((List.range (j - 1)).any (notUp l) = false) ∧ Below w.heap.size w ws) (fun i _ => k - (intOf i).toNat)
        case atStart => exact ⟨1, by omega, rfl, by omega, hid rfl, hb⟩
        case round =>
          obtain ⟨j, hj1, rfl, hj2, HJ, hb2⟩ := hrel
          by_cases hlt2 : j < k
          · obtain ⟨a, x, rfl, hx, hcx⟩ := Kd.Row.at_str (HR.out.below hb2) j (by rw [HQ.out]; exact hlt2)
            obtain ⟨a', y, ha, hy, hcy⟩ := Kd.Row.at_str (HR.out.below hb2) (j - 1) (by rw [HQ.out]; omega)
            cases ha
            have HV := hid (show notUp l (j - 1) = (Op.bytesLess x.toList y.toList || x.toList == y.toList) by
              rw [← less_total]; simp [notUp, hy, show j - 1 + 1 = j by omega, hx])
            have HN := hid (range_snoc (notUp l) (j - 1))
            have hlo : (0 : Int) ≤ (j : Int) - 1 := by omega
            have hlo2 : (1 : Int) ≤ (j : Int) := by omega
            have hhi : (j : Int) - 1 < (k : Int) := by omega
            have h2 : IntKind.i64.wrap ((j : Int) - 1) = j - 1 := IntWalk.i64_in _ (by omega)
            have h5 : ((j : Int) - 1).toNat = j - 1 := by omega
            clear hx hy
            cases hu : (Op.bytesLess x.toList y.toList || x.toList == y.toList)
            · have HU := hid hu
              go_wp2_with fail
              go_quiet (fail)
              clear h2 h5
              go_wp2
              go_roundw
              case rel => exact ⟨j + 1, by omega, by go_num, by omega, hid (by rw [show j + 1 - 1 = j - 1 + 1 by omega, HN.out, HJ.out, HV.out, HU.out]; rfl), below_drewN hb2 _⟩
              case measure => simp [intOf]; omega
            · have HV2 := hid (show tabE l = 1 by
                rw [HD.out, if_neg (by omega), if_neg (by rw [HALL.out]; simp), if_pos]
                unfold descB
                rw [HQ.out, List.any_eq_true]
                exact ⟨j - 1, by rw [List.mem_range]; omega, by rw [HV.out, hu]⟩)
              go_wp2_with fail
              go_quiet (fail)
              clear h2 h5
              go_wp2
              go_ret
              exact ⟨ret_int (by rw [HV2.out]), below_drewN hb2 _⟩
          · have HV := hid (show tabE l = 0 by
              rw [HD.out, if_neg (by omega), if_neg (by rw [HALL.out]; simp), if_neg]
              unfold descB
              rw [HQ.out]
              rcases Nat.eq_zero_or_pos k with h0 | h0
              · subst h0; simp
              · rw [show k - 1 = j - 1 by omega, HJ.out]; simp)
            go_wp2
            go_ret
            exact ⟨ret_int (by rw [HV.out]), hb2⟩
end Go.Proofs.Ytolckkckheiceaa
