/- Valid of the reference of chapter 38. No condition. -/
import Derived.Test.YtbafcfbchbjgfaaClo
namespace Go.Proofs.Ytbafcfbchbjgfaa
open Go.RowKit
set_option linter.unusedSimpArgs false
set_option linter.unusedVariables false
set_option maxRecDepth 100000
set_option maxHeartbeats 2000000
theorem refValid27 {S : Nat → Prop} (V : Int) (po : Option Addr) (n c : Nat) (ps : List Pr) (w : World) (h : Prs S w po n c ps) :
    Calls Try.prog 27 #[.agg #[.int .i64 V, .slice po n c]] w fun e w' => e = .returned (.bool (validB V ps)) ∧ Exts w w' := by
  have hl := h.len
  have hm := h.nle
  unfold maxLen at hm
  have H := Lib.hid h
  have HL := Lib.hid hl
  by_cases h1 : 1 ≤ V
  · have b1 : decide (V < 1) = false := by simp; omega
    by_cases h2 : V ≤ 12
    · have b2 : decide (12 < V) = false := by simp; omega
      by_cases h3 : n ≤ 144
      · have b3 : decide ((144 : Int) < (n : Int)) = false := by simp; omega
        clear h hl
        go_enter Try.func27, Try.ntmps27
        go_wp2
        go_loopw [3] (fun i wr => ∃ (k : Nat), k ≤ n ∧ i = .int .i64 k ∧ Exts (w.alloc (.cells #[.int .i64 V, .slice po n c] 24)) wr ∧ ∀ p ∈ ps.take k, prIn V p = true) (fun i _ => n - (intOf i).toNat)
        case atStart => exact ⟨0, by omega, rfl, Exts.refl _, by simp⟩
        case round =>
          obtain ⟨k, hk, rfl, ⟨x, rfl⟩, hin⟩ := hrel
          have HI := Lib.hid hin
          clear hin
          by_cases hlt : k < n
          · obtain ⟨b, off, ⟨p1, p2⟩, rfl, hb, hp, e0, e1⟩ := H.out.get hlt
            simp only at e0 e1
            have HP := Lib.hid hp
            clear hp
            by_cases q1 : p1 < 0
            · have c1 : decide (p1 < 0) = true := by simpa using q1
              have HR := Lib.hid (valid_no (V := V) (List.mem_of_getElem? HP.out) (by simp [prIn]; omega))
              go_wp2
              go_ret
              exact ⟨by rw [HR.out]; rfl, (by repeat (first | exact Exts.refl _ | apply Exts.andR | apply Exts.alloc | apply Exts.wext | apply Exts.drew | apply Exts.drewN))⟩
            · have c1 : decide (p1 < 0) = false := by simpa using q1
              by_cases q2 : V ≤ p1
              · have c2 : decide (V ≤ p1) = true := by simpa using q2
                have HR := Lib.hid (valid_no (V := V) (List.mem_of_getElem? HP.out) (by simp [prIn]; omega))
                go_wp2
                go_ret
                exact ⟨by rw [HR.out]; rfl, (by repeat (first | exact Exts.refl _ | apply Exts.andR | apply Exts.alloc | apply Exts.wext | apply Exts.drew | apply Exts.drewN))⟩
              · have c2 : decide (V ≤ p1) = false := by simpa using q2
                by_cases q3 : p2 < 0
                · have c3 : decide (p2 < 0) = true := by simpa using q3
                  have HR := Lib.hid (valid_no (V := V) (List.mem_of_getElem? HP.out) (by simp [prIn]; omega))
                  go_wp2
                  go_ret
                  exact ⟨by rw [HR.out]; rfl, (by repeat (first | exact Exts.refl _ | apply Exts.andR | apply Exts.alloc | apply Exts.wext | apply Exts.drew | apply Exts.drewN))⟩
                · have c3 : decide (p2 < 0) = false := by simpa using q3
                  by_cases q4 : V ≤ p2
                  · have c4 : decide (V ≤ p2) = true := by simpa using q4
                    have HR := Lib.hid (valid_no (V := V) (List.mem_of_getElem? HP.out) (by simp [prIn]; omega))
                    go_wp2
                    go_ret
                    exact ⟨by rw [HR.out]; rfl, (by repeat (first | exact Exts.refl _ | apply Exts.andR | apply Exts.alloc | apply Exts.wext | apply Exts.drew | apply Exts.drewN))⟩
                  · have c4 : decide (V ≤ p2) = false := by simpa using q4
                    have HQ := Lib.hid (show prIn V (p1, p2) = true by simp [prIn]; omega)
                    go_wp2
                    refine ⟨⟨k + 1, by omega, by go_num, (by repeat (first | exact Exts.refl _ | apply Exts.andR | apply Exts.alloc | apply Exts.wext | apply Exts.drew | apply Exts.drewN)), fun q hq => ?_⟩, ?_⟩
                    · rw [List.take_add_one, HP.out, List.mem_append] at hq
                      rcases hq with hq | hq
                      · exact HI.out q hq
                      · simp at hq
                        rw [hq]
                        exact HQ.out
                    · simp [intOf]; omega
          · obtain rfl : k = n := by omega
            have htk : ps.take k = ps := List.take_of_length_le (by rw [HL.out]; exact Nat.le_refl _)
            have HR := Lib.hid (show validB V ps = true by
              have := HI.out
              rw [htk] at this
              have hlen := HL.out
              simp only [validB, Bool.and_eq_true, decide_eq_true_eq, List.all_eq_true]
              exact ⟨⟨h1, h2⟩, by omega, this⟩)
            clear htk
            go_wp2
            go_ret
            exact ⟨by rw [HR.out]; rfl, (by repeat (first | exact Exts.refl _ | apply Exts.andR | apply Exts.alloc | apply Exts.wext | apply Exts.drew | apply Exts.drewN))⟩
      · have b3 : decide ((144 : Int) < (n : Int)) = true := by simp; omega
        have HR := Lib.hid (valid_bad (V := V) (ps := ps) (by omega))
        clear h hl
        go_enter Try.func27, Try.ntmps27
        go_wp2
        go_ret
        exact ⟨by rw [HR.out]; rfl, (by repeat (first | exact Exts.refl _ | apply Exts.andR | apply Exts.alloc | apply Exts.wext | apply Exts.drew | apply Exts.drewN))⟩
    · have b2 : decide (12 < V) = true := by simp; omega
      have HR := Lib.hid (valid_bad (V := V) (ps := ps) (by omega))
      clear h hl
      go_enter Try.func27, Try.ntmps27
      go_wp2
      go_ret
      exact ⟨by rw [HR.out]; rfl, (by repeat (first | exact Exts.refl _ | apply Exts.andR | apply Exts.alloc | apply Exts.wext | apply Exts.drew | apply Exts.drewN))⟩
  · have b1 : decide (V < 1) = true := by simp; omega
    have HR := Lib.hid (valid_bad (V := V) (ps := ps) (by omega))
    clear h hl
    go_enter Try.func27, Try.ntmps27
    go_wp2
    go_ret
    exact ⟨by rw [HR.out]; rfl, (by repeat (first | exact Exts.refl _ | apply Exts.andR | apply Exts.alloc | apply Exts.wext | apply Exts.drew | apply Exts.drewN))⟩
end Go.Proofs.Ytbafcfbchbjgfaa
