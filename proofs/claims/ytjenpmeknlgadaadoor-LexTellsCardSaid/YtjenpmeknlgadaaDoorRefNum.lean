/- Number of the reference. No condition but that the length fits. -/
import Derived.Test.YtjenpmeknlgadaaDoorRefWord
namespace Go.Proofs.YtjenpmeknlgadaaDoor
open Go.RowKit
set_option linter.unusedSimpArgs false
set_option linter.unusedVariables false

set_option maxRecDepth 100000
set_option maxHeartbeats 2000000
theorem refNumber14 (s : ByteArray) (w : World) (hs : s.size ≤ 9223372036854775807) : Calls Tryd.prog 14 #[.string s] w fun e w' => e = .returned (.tuple #[.int .i64 (numD s.data.toList).1, .bool (numD s.data.toList).2]) ∧ w = w' := by
  have hlen := data_len s
  have HLN := Lib.hid hlen
  clear hlen
  go_enter Tryd.func14, Tryd.ntmps14
  go_wp2
  go_loop [4, 5] (fun n i => ∃ k : Nat, k ≤ s.size ∧ i = .int .i64 k ∧ n = .int .i64 (numVal (s.data.toList.take k)) ∧ 0 ≤ numVal (s.data.toList.take k) ∧ numVal (s.data.toList.take k) ≤ 10995116277769 ∧ ∀ c ∈ s.data.toList.take k, digitI (c.toNat : Int) = true) (fun _ i => s.size - (intOf i).toNat)
  case atStart => exact ⟨0, by omega, rfl, rfl, by simp [numVal], by simp [numVal], by simp⟩
  case round =>
    obtain ⟨k, hk, rfl, rfl, hv0, hv1, hin⟩ := hrel
    have HI := Lib.hid hin
    clear hin
    by_cases hlt : k < s.size
    · have hc := Lib.hid (ba_get hlt)
      cases hd : digitI (s[k].toNat : Int) with
      | false =>
        have HD := Lib.hid hd
        have HR := Lib.hid (numD_no (num_bad (l := s.data.toList) (List.mem_of_getElem? hc.out) hd))
        clear hd
        go_wp2_with (first | (go_at_call 27; refine (digit27_eq _ _ _ HD.out).mono ?_; rintro e w' ⟨rfl, rfl⟩))
        go_ret2
        exact ⟨by rw [HR.out]; rfl, rfl⟩
      | true =>
        have HD := Lib.hid hd
        by_cases hv : numVal (s.data.toList.take k) ≤ 1099511627776
        · have b1 : decide (1099511627776 < numVal (s.data.toList.take k)) = false := by simp; omega
          have HV := Lib.hid (numVal_take s.data.toList k _ hc.out)
          obtain ⟨q1, q2⟩ := digit_bd hd
          clear hd
          go_wp2_with (first | (go_at_call 27; refine (digit27_eq _ _ _ HD.out).mono ?_; rintro e w' ⟨rfl, rfl⟩))
          go_round
          case rel =>
            refine ⟨k + 1, by omega, by go_num, by rw [HV.out]; congr 1; omega, by rw [HV.out]; omega, by rw [HV.out]; omega, fun c hc' => ?_⟩
            rw [List.take_add_one, hc.out, List.mem_append] at hc'
            rcases hc' with h | h
            · exact HI.out c h
            · simp at h
              rw [h]
              exact HD.out
          case measure => simp [intOf]; omega
        · have b1 : decide (1099511627776 < numVal (s.data.toList.take k)) = true := by simp; omega
          have HR := Lib.hid (numD_no (num_great (l := s.data.toList) (k := k) (by rw [HLN.out]; omega) HI.out (by omega)))
          clear hd
          go_wp2_with (first | (go_at_call 27; refine (digit27_eq _ _ _ HD.out).mono ?_; rintro e w' ⟨rfl, rfl⟩))
          go_ret2
          exact ⟨by rw [HR.out]; rfl, rfl⟩
    · obtain rfl : k = s.size := by omega
      have htk : s.data.toList.take s.size = s.data.toList := List.take_of_length_le (by rw [HLN.out]; exact Nat.le_refl _)
      rw [htk] at hv0 hv1
      have HA := Lib.hid (htk ▸ HI.out)
      rw [htk]
      clear htk
      by_cases h0 : 0 < s.size
      · have hne := list_ne h0
        have hh := head_of h0
        have b0 : decide ((s.size : Int) < 1) = false := by simp; omega
        by_cases h1 : 1 < s.size ∧ headI s.data.toList = 48
        · obtain ⟨h1, h48⟩ := h1
          have HR := Lib.hid (numD_no (num_zero (l := s.data.toList) ⟨by rw [HLN.out]; exact h1, h48⟩))
          have b1 : decide ((1 : Int) < (s.size : Int)) = true := by simp; omega
          have b2 : ((s[0].toNat : Int) == 48) = true := by rw [← hh]; simpa using h48
          clear hne hh h48
          go_wp2
          go_ret2
          exact ⟨by rw [HR.out]; rfl, rfl⟩
        · have hok := num_ok (l := s.data.toList) hne HA.out (by rw [HLN.out]; exact h1)
          by_cases hv : numVal s.data.toList ≤ 1099511627776
          · have HR := Lib.hid (numD_yes (l := s.data.toList) (by rw [hok]; simpa using hv))
            have b3 : decide (1099511627776 < numVal s.data.toList) = false := by simp; omega
            by_cases h2 : 1 < s.size
            · have b1 : decide ((1 : Int) < (s.size : Int)) = true := by simp; omega
              have b2 : ((s[0].toNat : Int) == 48) = false := by rw [← hh]; simpa using fun hc => h1 ⟨h2, hc⟩
              clear hne hh h1 hok
              go_wp2
              go_ret2
              exact ⟨by rw [HR.out]; rfl, rfl⟩
            · have b1 : decide ((1 : Int) < (s.size : Int)) = false := by simp; omega
              clear hne hh h1 hok
              go_wp2
              go_ret2
              exact ⟨by rw [HR.out]; rfl, rfl⟩
          · have HR := Lib.hid (numD_no (l := s.data.toList) (by rw [hok]; simpa using hv))
            have b3 : decide (1099511627776 < numVal s.data.toList) = true := by simp; omega
            by_cases h2 : 1 < s.size
            · have b1 : decide ((1 : Int) < (s.size : Int)) = true := by simp; omega
              have b2 : ((s[0].toNat : Int) == 48) = false := by rw [← hh]; simpa using fun hc => h1 ⟨h2, hc⟩
              clear hne hh h1 hok
              go_wp2
              go_ret2
              exact ⟨by rw [HR.out]; rfl, rfl⟩
            · have b1 : decide ((1 : Int) < (s.size : Int)) = false := by simp; omega
              clear hne hh h1 hok
              go_wp2
              go_ret2
              exact ⟨by rw [HR.out]; rfl, rfl⟩
      · obtain rfl := ba_nil (s := s) (by omega)
        have HR := Lib.hid (show numD ([] : List UInt8) = (0, false) from rfl)
        go_wp2
        go_ret2
        exact ⟨by rw [HR.out]; rfl, rfl⟩
end Go.Proofs.YtjenpmeknlgadaaDoor
