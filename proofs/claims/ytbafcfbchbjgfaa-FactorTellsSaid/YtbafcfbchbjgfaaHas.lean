/- has of the reference of chapter 38. No condition. -/
import Derived.Test.YtbafcfbchbjgfaaWayPlain
namespace Go.Proofs.Ytbafcfbchbjgfaa
open Go.RowKit
set_option linter.unusedSimpArgs false
set_option linter.unusedVariables false
set_option maxRecDepth 100000
set_option maxHeartbeats 2000000
theorem has43 {S : Nat → Prop} (V : Int) (po : Option Addr) (n c : Nat) (ps : List Pr) (a b : Int) (w : World) (h : Prs S w po n c ps) :
    Calls Try.prog 43 #[.agg #[.int .i64 V, .slice po n c], .int .i64 a, .int .i64 b] w fun e w' => e = .returned (.bool (hasP ps a b)) ∧ Exts w w' := by
  have hl := h.len
  have hm := h.nle
  unfold maxLen at hm
  have H := Lib.hid h
  have HL := Lib.hid hl
  clear h hl
  go_enter Try.func43, Try.ntmps43
  go_wp2
  go_loopw [7] (fun i wr => ∃ (k : Nat), k ≤ n ∧ i = .int .i64 k ∧ Exts (w.alloc (.cells #[.int .i64 V, .slice po n c] 24)) wr ∧ hasP (ps.take k) a b = false) (fun i _ => n - (intOf i).toNat)
  case atStart => exact ⟨0, by omega, rfl, Exts.refl _, by simp [hasP]⟩
  case round =>
    obtain ⟨k, hk, rfl, ⟨x, rfl⟩, hin⟩ := hrel
    have HI := Lib.hid hin
    clear hin
    by_cases hlt : k < n
    · obtain ⟨pb, off, ⟨p1, p2⟩, rfl, hb, hp, e0, e1⟩ := H.out.get hlt
      simp only at e0 e1
      have HP := Lib.hid hp
      clear hp
      by_cases q1 : p1 = a
      · have c1 : (p1 == a) = true := by simpa using q1
        by_cases q2 : p2 = b
        · have c2 : (p2 == b) = true := by simpa using q2
          have HR := Lib.hid (show hasP ps a b = true by
            simp only [hasP, List.any_eq_true]
            exact ⟨_, List.mem_of_getElem? HP.out, by simp [q1, q2]⟩)
          clear q1 q2
          go_wp2
          (try (go_region; go_wp2))
          go_ret
          exact ⟨by rw [HR.out]; rfl, (by repeat (first | exact Exts.refl _ | apply Exts.andR | apply Exts.alloc | apply Exts.wext | apply Exts.drew | apply Exts.drewN))⟩
        · have c2 : (p2 == b) = false := by simpa using q2
          have HQ := Lib.hid (show ((p1 == a) && (p2 == b)) = false by simp; omega)
          clear q1 q2
          go_wp2
          (try (go_region; go_wp2))
          refine ⟨⟨k + 1, by omega, by go_num, (by repeat (first | exact Exts.refl _ | apply Exts.andR | apply Exts.alloc | apply Exts.wext | apply Exts.drew | apply Exts.drewN)), ?_⟩, ?_⟩
          · have := HI.out
            unfold hasP at this ⊢
            rw [List.take_add_one, HP.out, List.any_append, this]
            simpa using HQ.out
          · simp [intOf]; omega
      · have c1 : (p1 == a) = false := by simpa using q1
        have HQ := Lib.hid (show ((p1 == a) && (p2 == b)) = false by simp; omega)
        clear q1
        go_wp2
        (try (go_region; go_wp2))
        refine ⟨⟨k + 1, by omega, by go_num, (by repeat (first | exact Exts.refl _ | apply Exts.andR | apply Exts.alloc | apply Exts.wext | apply Exts.drew | apply Exts.drewN)), ?_⟩, ?_⟩
        · have := HI.out
          unfold hasP at this ⊢
          rw [List.take_add_one, HP.out, List.any_append, this]
          simpa using HQ.out
        · simp [intOf]; omega
    · obtain rfl : k = n := by omega
      have htk : ps.take k = ps := List.take_of_length_le (by rw [HL.out]; exact Nat.le_refl _)
      have HR := Lib.hid (show hasP ps a b = false by
        have := HI.out
        rw [htk] at this
        exact this)
      clear htk
      go_wp2
      go_ret
      exact ⟨by rw [HR.out]; rfl, (by repeat (first | exact Exts.refl _ | apply Exts.andR | apply Exts.alloc | apply Exts.wext | apply Exts.drew | apply Exts.drewN))⟩
theorem hasP_rel (ps : List Pr) (u v : Nat) : hasP ps (u : Int) (v : Int) = pairRel ps u v := rfl
theorem has43_D {S : Nat → Prop} (V : Int) (po : Option Addr) (n c : Nat) (ps : List Pr) (u v : Nat) (r : Bool) (w : World) (h : Prs S w po n c ps) (hr : pairRel ps u v = r) :
    Calls Try.prog 43 #[.agg #[.int .i64 V, .slice po n c], .int .i64 u, .int .i64 v] w fun e w' => e = .returned (.bool r) ∧ Exts w w' := by
  subst hr
  exact has43 V po n c ps u v w h
end Go.Proofs.Ytbafcfbchbjgfaa
