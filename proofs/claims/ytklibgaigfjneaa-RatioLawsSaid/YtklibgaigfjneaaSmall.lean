/- The examples of the law's file are as documented: small returns true. No conditions. -/
import Derived.Test.YtklibgaigfjneaaWalk3
import Derived.Test.YtklibgaigfjneaaWalk4
import Derived.Test.YtklibgaigfjneaaWalk5
namespace Go.Proofs.Ytklibgaigfjneaa
open Go.RowKit
set_option linter.unusedSimpArgs false
set_option linter.unusedVariables false

theorem I64.lit {n : Int} (h : -9223372036854775808 ≤ n ∧ n ≤ 9223372036854775807) : I64 n := h

attribute [local go_sem] rRes
set_option maxHeartbeats 2000000 in
set_option maxRecDepth 100000 in
theorem small_any (w : World) : Calls Try.prog 8 #[] w fun e w' => e = .returned (.bool true) ∧ Exts w w' := by
  have e1 : rMake 6 (-4) = ((-3, 2), 0) := by decide +kernel
  have e2 : rMake 1 0 = ((0, 0), 1) := by decide +kernel
  have e3 : rMake 1073741825 1 = ((0, 0), 3) := by decide +kernel
  have e4 : rAdd 1 2 1 3 = ((5, 6), 0) := by decide +kernel
  have e5 : rMul 2 3 3 4 = ((1, 2), 0) := by decide +kernel
  have e6 : rFloor (-3) 2 = -2 := by decide +kernel
  have e7 : rCeil (-3) 2 = -1 := by decide +kernel
  have e8 : rCmp 1 2 2 3 = -1 := by decide +kernel
  have e9 : rMax 1 2 2 3 = (2, 3) := by decide +kernel
  have e10 : rMin 1 2 2 3 = (1, 2) := by decide +kernel
  have e11 : rOk 1 2 = true := by decide +kernel
  have e12 : rOk 2 4 = false := by decide +kernel
  go_enter Try.func8, Try.ntmps8
  go_wp2_with (first | (go_at_call 9; refine (make_any _ _ _ (by omega) (by omega) (by omega) (by omega)).mono ?_; rintro e w' ⟨rfl, x, rfl⟩) | (go_at_call 15; refine (add_any _ _ _ _ _ ⟨by omega, by omega⟩ ⟨by omega, by omega⟩ ⟨by omega, by omega⟩ ⟨by omega, by omega⟩).mono ?_; rintro e w' ⟨rfl, x, rfl⟩) | (go_at_call 16; refine (mul_any _ _ _ _ _ ⟨by omega, by omega⟩ ⟨by omega, by omega⟩ ⟨by omega, by omega⟩ ⟨by omega, by omega⟩).mono ?_; rintro e w' ⟨rfl, x, rfl⟩))
  first | refine wp_region_ext_lit2 (by kernel_rfl) (by kernel_rfl) ?_ | refine wp_region_ext_lit (by kernel_rfl) (by kernel_rfl) ?_
  repeat (go_big_quiet_step (((first | (go_at_call 17; exact Calls.ext_of (floor_any _ _ _ ⟨by omega, by omega⟩ ⟨by omega, by omega⟩)) | (go_at_call 18; exact Calls.ext_of (ceil_any _ _ _ ⟨by omega, by omega⟩ ⟨by omega, by omega⟩)) | (go_at_call 12; exact Calls.ext_of (compare_any _ _ _ _ _ ⟨by omega, by omega⟩ ⟨by omega, by omega⟩ ⟨by omega, by omega⟩ ⟨by omega, by omega⟩)) | (go_at_call 13; exact Calls.ext_of (min_any _ _ _ _ _ ⟨by omega, by omega⟩ ⟨by omega, by omega⟩ ⟨by omega, by omega⟩ ⟨by omega, by omega⟩)) | (go_at_call 14; exact Calls.ext_of (max_any _ _ _ _ _ ⟨by omega, by omega⟩ ⟨by omega, by omega⟩ ⟨by omega, by omega⟩ ⟨by omega, by omega⟩)) | (go_at_call 10; exact Calls.ext_of (right_any _ _ _ (by omega) (by omega) (by omega) (by omega)))))))
  refine wpQuiet_nil ?_
  intro _ hwq'
  obtain ⟨xq, hwq''⟩ := hwq'
  subst hwq''
  go_wp2
  go_ret
  exact ⟨rfl, (by repeat (first | exact Exts.refl _ | apply Exts.alloc | apply Exts.wext | apply Exts.drew | apply Exts.drewN))⟩
end Go.Proofs.Ytklibgaigfjneaa
