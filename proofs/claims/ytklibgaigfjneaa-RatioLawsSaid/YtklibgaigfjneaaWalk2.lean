/- Compare of package ratio, with its closure entered in place. Conditions: fields of arguments within 64 bits. -/
import Derived.Test.YtklibgaigfjneaaWalk1
import Derived.Test.YtklibgaigfjneaaFrame
namespace Go.Proofs.Ytklibgaigfjneaa
open Go.RowKit
set_option linter.unusedSimpArgs false
set_option linter.unusedVariables false

theorem mul_lim {a d : Int} (h1 : -1073741824 ≤ a) (h2 : a ≤ 1073741824) (h3 : 0 ≤ d) (h4 : d ≤ 1073741824) : -1152921504606846976 ≤ a * d ∧ a * d ≤ 1152921504606846976 := by
  have e1 : a * d ≤ 1073741824 * d := Int.mul_le_mul_of_nonneg_right h2 h3
  have e2 : -1073741824 * d ≤ a * d := Int.mul_le_mul_of_nonneg_right h1 h3
  omega

/-- The sign of a difference of cross products, as Compare says it. -/
def rCmp0 (x y : Int) : Int := if x < y then -1 else if y < x then 1 else 0
def rCmp (a b c d : Int) : Int := if rOk a b && rOk c d then rCmp0 (a * d) (c * b) else 0
def rAdd (a b c d : Int) : (Int × Int) × Int := if rOk a b && rOk c d then rMake (a * d + c * b) (b * d) else ((0, 0), 1)
def rMul (a b c d : Int) : (Int × Int) × Int := if rOk a b && rOk c d then rMake (a * c) (b * d) else ((0, 0), 1)
def rMin (a b c d : Int) : Int × Int := if rOk a b && rOk c d then (if c * b < a * d then (c, d) else (a, b)) else (0, 0)
def rMax (a b c d : Int) : Int × Int := if rOk a b && rOk c d then (if a * d < c * b then (c, d) else (a, b)) else (0, 0)

set_option maxHeartbeats 1000000 in
theorem compare_any (a b c d : Int) (w : World) (ia : I64 a) (ib : I64 b) (ic : I64 c) (id : I64 d) :
    Calls Try.prog 12 #[.agg #[.int .i64 a, .int .i64 b], .agg #[.int .i64 c, .int .i64 d]] w fun e w' => e = .returned (.int .i64 (rCmp a b c d)) ∧ Exts w w' := by
  obtain ⟨ia1, ia2⟩ := ia
  obtain ⟨ib1, ib2⟩ := ib
  obtain ⟨ic1, ic2⟩ := ic
  obtain ⟨id1, id2⟩ := id
  cases ha : rOk a b
  · have hr : rCmp a b c d = 0 := by simp [rCmp, ha]
    have Hr := Lib.hid hr
    clear hr
    go_enter Try.func12, Try.ntmps12
    go_wp2_with (first | (go_at_call 10; refine (right_any _ _ _ (by omega) (by omega) (by omega) (by omega)).mono ?_; rintro e w' ⟨rfl, x, rfl⟩) | go_in)
    go_ret
    exact ⟨by rw [Hr.out]; rfl, (by repeat (first | exact Exts.refl _ | apply Exts.alloc | apply Exts.wext | apply Exts.drew | apply Exts.drewN))⟩
  · cases hc : rOk c d
    · have hr : rCmp a b c d = 0 := by simp [rCmp, hc]
      have Hr := Lib.hid hr
      clear hr
      go_enter Try.func12, Try.ntmps12
      go_wp2_with (first | (go_at_call 10; refine (right_any _ _ _ (by omega) (by omega) (by omega) (by omega)).mono ?_; rintro e w' ⟨rfl, x, rfl⟩) | go_in)
      go_ret
      exact ⟨by rw [Hr.out]; rfl, (by repeat (first | exact Exts.refl _ | apply Exts.alloc | apply Exts.wext | apply Exts.drew | apply Exts.drewN))⟩
    · have ha' := ha
      have hc' := hc
      rw [rOk_iff] at ha' hc'
      obtain ⟨a1, a2, a3, a4, _⟩ := ha'
      obtain ⟨c1, c2, c3, c4, _⟩ := hc'
      have X := mul_lim a3 a4 (by omega) c2
      have Y := mul_lim c3 c4 (by omega) a2
      obtain ⟨x, hx⟩ : ∃ x, a * d = x := ⟨_, rfl⟩
      obtain ⟨y, hy⟩ : ∃ y, c * b = y := ⟨_, rfl⟩
      rw [hx] at X
      rw [hy] at Y
      obtain ⟨X1, X2⟩ := X
      obtain ⟨Y1, Y2⟩ := Y
      have hr0 : rCmp a b c d = rCmp0 x y := by simp [rCmp, ha, hc, hx, hy]
      by_cases t1 : x < y
      · have hr : rCmp a b c d = -1 := by simp [hr0, rCmp0, t1]
        clear hr0
        have Hr := Lib.hid hr
        clear hr
        go_enter Try.func12, Try.ntmps12
        go_wp2_with (first | (go_at_call 10; refine (right_any _ _ _ (by omega) (by omega) (by omega) (by omega)).mono ?_; rintro e w' ⟨rfl, x, rfl⟩) | go_in)
        go_end0
        go_wp2
        go_ret
        exact ⟨by rw [Hr.out]; rfl, (by repeat (first | exact Exts.refl _ | apply Exts.alloc | apply Exts.wext | apply Exts.drew | apply Exts.drewN))⟩
      · by_cases t2 : y < x
        · have hr : rCmp a b c d = 1 := by simp [hr0, rCmp0, t1, t2]
          clear hr0
          have b1 : decide (x < y) = false := by simpa using t1
          have Hr := Lib.hid hr
          clear hr
          go_enter Try.func12, Try.ntmps12
          go_wp2_with (first | (go_at_call 10; refine (right_any _ _ _ (by omega) (by omega) (by omega) (by omega)).mono ?_; rintro e w' ⟨rfl, x, rfl⟩) | go_in)
          go_end0
          go_wp2
          go_ret
          exact ⟨by rw [Hr.out]; rfl, (by repeat (first | exact Exts.refl _ | apply Exts.alloc | apply Exts.wext | apply Exts.drew | apply Exts.drewN))⟩
        · have hr : rCmp a b c d = 0 := by simp [hr0, rCmp0, t1, t2]
          clear hr0
          have b1 : decide (x < y) = false := by simpa using t1
          have b2 : decide (y < x) = false := by simpa using t2
          have Hr := Lib.hid hr
          clear hr
          go_enter Try.func12, Try.ntmps12
          go_wp2_with (first | (go_at_call 10; refine (right_any _ _ _ (by omega) (by omega) (by omega) (by omega)).mono ?_; rintro e w' ⟨rfl, x, rfl⟩) | go_in)
          go_end0
          go_wp2
          go_ret
          exact ⟨by rw [Hr.out]; rfl, (by repeat (first | exact Exts.refl _ | apply Exts.alloc | apply Exts.wext | apply Exts.drew | apply Exts.drewN))⟩
end Go.Proofs.Ytklibgaigfjneaa
