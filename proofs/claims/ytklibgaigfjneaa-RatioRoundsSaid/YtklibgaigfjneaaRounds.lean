/- RatioRounds returns true for every ratio, and leaves its argument alone: the walk. No conditions. -/
import Derived.Test.YtklibgaigfjneaaSmall
import Derived.Test.YtklibgaigfjneaaPlain3
import Derived.Test.YtklibgaigfjneaaFrame
namespace Go.Proofs.Ytklibgaigfjneaa
open Go.RowKit
set_option linter.unusedSimpArgs false
set_option linter.unusedVariables false

set_option maxRecDepth 100000
set_option maxHeartbeats 4000000 in
theorem rounds_walk (n d : Int) (ia : I64 n) (ib : I64 d) (w : World) :
    Calls Try.prog 6 #[.agg #[.int .i64 n, .int .i64 d]] w fun e w' => e = .returned (.bool true) ∧ Exts w w' := by
  obtain ⟨ia1, ia2⟩ := ia
  obtain ⟨ib1, ib2⟩ := ib
  cases h : rOk n d
  · have e1 : rFloor n d = 0 := by simp [rFloor, h]
    have e2 : rCeil n d = 0 := by simp [rCeil, h]
    go_enter Try.func6, Try.ntmps6
    go_wp2_with (first | (go_at_call 8; refine (small_any _).mono ?_; rintro e w' ⟨rfl, x, rfl⟩) | (go_at_call 11; refine (refRight_any _ _ _ ⟨by omega, by omega⟩ ⟨by omega, by omega⟩).mono ?_; rintro e w' ⟨rfl, x, rfl⟩) | (go_at_call 17; refine (floor_any _ _ _ ⟨by omega, by omega⟩ ⟨by omega, by omega⟩).mono ?_; rintro e w' ⟨rfl, x, rfl⟩) | (go_at_call 18; refine (ceil_any _ _ _ ⟨by omega, by omega⟩ ⟨by omega, by omega⟩).mono ?_; rintro e w' ⟨rfl, x, rfl⟩))
    go_ret
    exact ⟨rfl, (by repeat (first | exact Exts.refl _ | apply Exts.alloc | apply Exts.wext | apply Exts.drew | apply Exts.drewN))⟩
  · obtain ⟨f1, f2, f3, f4⟩ := rounds_law n d h
    have L := rFloor_lim n d
    have h' := h
    rw [rOk_iff] at h'
    obtain ⟨b1, b2, b3, b4, _⟩ := h'
    obtain ⟨x, hx⟩ : ∃ x, rFloor n d = x := ⟨_, rfl⟩
    rw [hx] at f1 f2 f3 f4 L
    obtain ⟨L1, L2⟩ := L
    have M := mul_lim L1 L2 (show 0 ≤ d by omega) b2
    rw [Int.add_mul] at f2
    have M2 : (x + 1) * d = x * d + 1 * d := Int.add_mul _ _ _
    obtain ⟨y, hy⟩ : ∃ y, x * d = y := ⟨_, rfl⟩
    rw [hy] at M f1 f2 M2
    obtain ⟨M1, M3⟩ := M
    rw [Int.one_mul] at f2 M2
    obtain ⟨z, hz⟩ : ∃ z, (x + 1) * d = z := ⟨_, rfl⟩
    have hz2 : z = y + d := by rw [← hz, M2]
    have hz3 : n < z := by omega
    have hz4 : z ≤ 2305843009213693952 := by omega
    have hz5 : -2305843009213693952 ≤ z := by omega
    clear hz2 M2 f2
    by_cases hd : d = 1
    · obtain ⟨g1, g2⟩ := f3 hd
      clear f3 f4
      subst hd
      subst g1
      go_enter Try.func6, Try.ntmps6
      go_wp2_with (first | (go_at_call 8; refine (small_any _).mono ?_; rintro e w' ⟨rfl, x, rfl⟩) | (go_at_call 11; refine (refRight_any _ _ _ ⟨by omega, by omega⟩ ⟨by omega, by omega⟩).mono ?_; rintro e w' ⟨rfl, x, rfl⟩) | (go_at_call 17; refine (floor_any _ _ _ ⟨by omega, by omega⟩ ⟨by omega, by omega⟩).mono ?_; rintro e w' ⟨rfl, x, rfl⟩) | (go_at_call 18; refine (ceil_any _ _ _ ⟨by omega, by omega⟩ ⟨by omega, by omega⟩).mono ?_; rintro e w' ⟨rfl, x, rfl⟩))
      go_ret
      exact ⟨rfl, (by repeat (first | exact Exts.refl _ | apply Exts.alloc | apply Exts.wext | apply Exts.drew | apply Exts.drewN))⟩
    · have g1 := f4 hd
      clear f3 f4
      have g2 : (d == 1) = false := by simpa using hd
      go_enter Try.func6, Try.ntmps6
      go_wp2_with (first | (go_at_call 8; refine (small_any _).mono ?_; rintro e w' ⟨rfl, x, rfl⟩) | (go_at_call 11; refine (refRight_any _ _ _ ⟨by omega, by omega⟩ ⟨by omega, by omega⟩).mono ?_; rintro e w' ⟨rfl, x, rfl⟩) | (go_at_call 17; refine (floor_any _ _ _ ⟨by omega, by omega⟩ ⟨by omega, by omega⟩).mono ?_; rintro e w' ⟨rfl, x, rfl⟩) | (go_at_call 18; refine (ceil_any _ _ _ ⟨by omega, by omega⟩ ⟨by omega, by omega⟩).mono ?_; rintro e w' ⟨rfl, x, rfl⟩))
      go_ret
      exact ⟨rfl, (by repeat (first | exact Exts.refl _ | apply Exts.alloc | apply Exts.wext | apply Exts.drew | apply Exts.drewN))⟩
end Go.Proofs.Ytklibgaigfjneaa
