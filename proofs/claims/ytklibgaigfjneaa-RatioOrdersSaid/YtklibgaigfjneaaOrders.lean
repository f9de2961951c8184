/- RatioOrders returns true for every three ratios, and leaves its arguments alone: the walk. No conditions. -/
import Derived.Test.YtklibgaigfjneaaSmall
import Derived.Test.YtklibgaigfjneaaPlain2
import Derived.Test.YtklibgaigfjneaaFrame
import Derived.Deep.Cut
namespace Go.Proofs.Ytklibgaigfjneaa
open Go.RowKit
set_option linter.unusedSimpArgs false
set_option linter.unusedVariables false

attribute [local go_sem] rRes
set_option maxRecDepth 100000
set_option maxHeartbeats 4000000 in
theorem orders_no (a b c d e f : Int) (ia : I64 a) (ib : I64 b) (ic : I64 c) (id : I64 d) (ie : I64 e) (if_ : I64 f) (w : World) (hno : ¬ (rOk a b = true ∧ rOk c d = true ∧ rOk e f = true)) :
    Calls Try.prog 4 #[.agg #[.int .i64 a, .int .i64 b], .agg #[.int .i64 c, .int .i64 d], .agg #[.int .i64 e, .int .i64 f]] w fun e w' => e = .returned (.bool true) ∧ Exts w w' := by
  obtain ⟨ia1, ia2⟩ := ia
  obtain ⟨ib1, ib2⟩ := ib
  obtain ⟨ic1, ic2⟩ := ic
  obtain ⟨id1, id2⟩ := id
  obtain ⟨ie1, ie2⟩ := ie
  obtain ⟨if1, if2⟩ := if_
  cases h1 : rOk a b
  · clear hno
    go_enter Try.func4, Try.ntmps4
    go_wp2_with (first | (go_at_call 8; refine (small_any _).mono ?_; rintro e w' ⟨rfl, x, rfl⟩) | (go_at_call 11; refine (refRight_any _ _ _ ⟨by omega, by omega⟩ ⟨by omega, by omega⟩).mono ?_; rintro e w' ⟨rfl, x, rfl⟩) | (go_at_call 12; refine (compare_any _ _ _ _ _ ⟨by omega, by omega⟩ ⟨by omega, by omega⟩ ⟨by omega, by omega⟩ ⟨by omega, by omega⟩).mono ?_; rintro e w' ⟨rfl, x, rfl⟩) | (go_at_call 13; refine (min_any _ _ _ _ _ ⟨by omega, by omega⟩ ⟨by omega, by omega⟩ ⟨by omega, by omega⟩ ⟨by omega, by omega⟩).mono ?_; rintro e w' ⟨rfl, x, rfl⟩) | (go_at_call 14; refine (max_any _ _ _ _ _ ⟨by omega, by omega⟩ ⟨by omega, by omega⟩ ⟨by omega, by omega⟩ ⟨by omega, by omega⟩).mono ?_; rintro e w' ⟨rfl, x, rfl⟩) | (go_at_call 15; refine (add_any _ _ _ _ _ ⟨by omega, by omega⟩ ⟨by omega, by omega⟩ ⟨by omega, by omega⟩ ⟨by omega, by omega⟩).mono ?_; rintro e w' ⟨rfl, x, rfl⟩))
    go_ret
    exact ⟨rfl, (by repeat (first | exact Exts.refl _ | apply Exts.alloc | apply Exts.wext | apply Exts.drew | apply Exts.drewN))⟩
  cases h2 : rOk c d
  · clear hno
    go_enter Try.func4, Try.ntmps4
    go_wp2_with (first | (go_at_call 8; refine (small_any _).mono ?_; rintro e w' ⟨rfl, x, rfl⟩) | (go_at_call 11; refine (refRight_any _ _ _ ⟨by omega, by omega⟩ ⟨by omega, by omega⟩).mono ?_; rintro e w' ⟨rfl, x, rfl⟩) | (go_at_call 12; refine (compare_any _ _ _ _ _ ⟨by omega, by omega⟩ ⟨by omega, by omega⟩ ⟨by omega, by omega⟩ ⟨by omega, by omega⟩).mono ?_; rintro e w' ⟨rfl, x, rfl⟩) | (go_at_call 13; refine (min_any _ _ _ _ _ ⟨by omega, by omega⟩ ⟨by omega, by omega⟩ ⟨by omega, by omega⟩ ⟨by omega, by omega⟩).mono ?_; rintro e w' ⟨rfl, x, rfl⟩) | (go_at_call 14; refine (max_any _ _ _ _ _ ⟨by omega, by omega⟩ ⟨by omega, by omega⟩ ⟨by omega, by omega⟩ ⟨by omega, by omega⟩).mono ?_; rintro e w' ⟨rfl, x, rfl⟩) | (go_at_call 15; refine (add_any _ _ _ _ _ ⟨by omega, by omega⟩ ⟨by omega, by omega⟩ ⟨by omega, by omega⟩ ⟨by omega, by omega⟩).mono ?_; rintro e w' ⟨rfl, x, rfl⟩))
    go_ret
    exact ⟨rfl, (by repeat (first | exact Exts.refl _ | apply Exts.alloc | apply Exts.wext | apply Exts.drew | apply Exts.drewN))⟩
  cases h3 : rOk e f
  · clear hno
    go_enter Try.func4, Try.ntmps4
    go_wp2_with (first | (go_at_call 8; refine (small_any _).mono ?_; rintro e w' ⟨rfl, x, rfl⟩) | (go_at_call 11; refine (refRight_any _ _ _ ⟨by omega, by omega⟩ ⟨by omega, by omega⟩).mono ?_; rintro e w' ⟨rfl, x, rfl⟩) | (go_at_call 12; refine (compare_any _ _ _ _ _ ⟨by omega, by omega⟩ ⟨by omega, by omega⟩ ⟨by omega, by omega⟩ ⟨by omega, by omega⟩).mono ?_; rintro e w' ⟨rfl, x, rfl⟩) | (go_at_call 13; refine (min_any _ _ _ _ _ ⟨by omega, by omega⟩ ⟨by omega, by omega⟩ ⟨by omega, by omega⟩ ⟨by omega, by omega⟩).mono ?_; rintro e w' ⟨rfl, x, rfl⟩) | (go_at_call 14; refine (max_any _ _ _ _ _ ⟨by omega, by omega⟩ ⟨by omega, by omega⟩ ⟨by omega, by omega⟩ ⟨by omega, by omega⟩).mono ?_; rintro e w' ⟨rfl, x, rfl⟩) | (go_at_call 15; refine (add_any _ _ _ _ _ ⟨by omega, by omega⟩ ⟨by omega, by omega⟩ ⟨by omega, by omega⟩ ⟨by omega, by omega⟩).mono ?_; rintro e w' ⟨rfl, x, rfl⟩))
    go_ret
    exact ⟨rfl, (by repeat (first | exact Exts.refl _ | apply Exts.alloc | apply Exts.wext | apply Exts.drew | apply Exts.drewN))⟩
  exact absurd ⟨h1, h2, h3⟩ hno

set_option maxHeartbeats 4000000 in
theorem orders_less (a b c d e f : Int) (ia : I64 a) (ib : I64 b) (ic : I64 c) (id : I64 d) (ie : I64 e) (if_ : I64 f) (w : World) (h1 : rOk a b = true) (h2 : rOk c d = true) (h3 : rOk e f = true)
    (x1 : rCmp a b c d = -1) (x2 : rCmp c d a b = 1) (x3 : ¬ (a = c ∧ b = d)) (x4 : rMin a b c d = (a, b)) (x5 : rMax a b c d = (c, d)) :
    Calls Try.prog 4 #[.agg #[.int .i64 a, .int .i64 b], .agg #[.int .i64 c, .int .i64 d], .agg #[.int .i64 e, .int .i64 f]] w fun e w' => e = .returned (.bool true) ∧ Exts w w' := by
  obtain ⟨ia1, ia2⟩ := ia
  obtain ⟨ib1, ib2⟩ := ib
  obtain ⟨ic1, ic2⟩ := ic
  obtain ⟨id1, id2⟩ := id
  obtain ⟨ie1, ie2⟩ := ie
  obtain ⟨if1, if2⟩ := if_
  obtain ⟨⟨⟨s1, s2⟩, k1⟩, m1⟩ : ∃ r, rAdd a b e f = r := ⟨_, rfl⟩
  obtain ⟨⟨⟨t1, t2⟩, k2⟩, m2⟩ : ∃ r, rAdd c d e f = r := ⟨_, rfl⟩
  have L1 := rAdd_lim a b e f
  have L2 := rAdd_lim c d e f
  rw [m1] at L1
  rw [m2] at L2
  dsimp only at L1 L2
  obtain ⟨L11, L12, L13, L14⟩ := L1
  obtain ⟨L21, L22, L23, L24⟩ := L2
  have hsum : k1 = 0 → k2 = 0 → rCmp s1 s2 t1 t2 = rCmp a b c d := fun e1 e2 => orders_add a b c d e f s1 s2 t1 t2 h1 h2 h3 (by rw [m1, e1]) (by rw [m2, e2])
  rw [x1] at hsum
  obtain ⟨y, hy⟩ : ∃ y, rCmp c d e f = y := ⟨_, rfl⟩
  have htr := orders_trans a b c d e f h1 h2 h3 (by omega)
  rw [hy] at htr
  obtain ⟨z, hz⟩ : ∃ z, rCmp a b e f = z := ⟨_, rfl⟩
  rw [hz] at htr
  by_cases hac : a = c
  · subst hac
    have e1 : (b == d) = false := by simpa using x3
    have e2 : (d == b) = false := by simpa using fun h : d = b => x3 ⟨rfl, h.symm⟩
    clear x3
    by_cases g1 : y ≤ 0
    · have g2 := htr g1
      clear htr
      go_enter Try.func4, Try.ntmps4
      go_upto_region 15 with (first | (go_at_call 8; refine (small_any _).mono ?_; rintro e w' ⟨rfl, x, rfl⟩) | (go_at_call 11; refine (refRight_any _ _ _ ⟨by omega, by omega⟩ ⟨by omega, by omega⟩).mono ?_; rintro e w' ⟨rfl, x, rfl⟩) | (go_at_call 12; refine (compare_any _ _ _ _ _ ⟨by omega, by omega⟩ ⟨by omega, by omega⟩ ⟨by omega, by omega⟩ ⟨by omega, by omega⟩).mono ?_; rintro e w' ⟨rfl, x, rfl⟩) | (go_at_call 13; refine (min_any _ _ _ _ _ ⟨by omega, by omega⟩ ⟨by omega, by omega⟩ ⟨by omega, by omega⟩ ⟨by omega, by omega⟩).mono ?_; rintro e w' ⟨rfl, x, rfl⟩) | (go_at_call 14; refine (max_any _ _ _ _ _ ⟨by omega, by omega⟩ ⟨by omega, by omega⟩ ⟨by omega, by omega⟩ ⟨by omega, by omega⟩).mono ?_; rintro e w' ⟨rfl, x, rfl⟩) | (go_at_call 15; refine (add_any _ _ _ _ _ ⟨by omega, by omega⟩ ⟨by omega, by omega⟩ ⟨by omega, by omega⟩ ⟨by omega, by omega⟩).mono ?_; rintro e w' ⟨rfl, x, rfl⟩))
      by_cases z1 : k1 = 0
      · have y1 : (k1 != 0) = false := by simpa using z1
        by_cases z2 : k2 = 0
        · have y2 : (k2 != 0) = false := by simpa using z2
          have Hs := hsum z1 z2
          go_wp2_with (first | (go_at_call 8; refine (small_any _).mono ?_; rintro e w' ⟨rfl, x, rfl⟩) | (go_at_call 11; refine (refRight_any _ _ _ ⟨by omega, by omega⟩ ⟨by omega, by omega⟩).mono ?_; rintro e w' ⟨rfl, x, rfl⟩) | (go_at_call 12; refine (compare_any _ _ _ _ _ ⟨by omega, by omega⟩ ⟨by omega, by omega⟩ ⟨by omega, by omega⟩ ⟨by omega, by omega⟩).mono ?_; rintro e w' ⟨rfl, x, rfl⟩) | (go_at_call 13; refine (min_any _ _ _ _ _ ⟨by omega, by omega⟩ ⟨by omega, by omega⟩ ⟨by omega, by omega⟩ ⟨by omega, by omega⟩).mono ?_; rintro e w' ⟨rfl, x, rfl⟩) | (go_at_call 14; refine (max_any _ _ _ _ _ ⟨by omega, by omega⟩ ⟨by omega, by omega⟩ ⟨by omega, by omega⟩ ⟨by omega, by omega⟩).mono ?_; rintro e w' ⟨rfl, x, rfl⟩) | (go_at_call 15; refine (add_any _ _ _ _ _ ⟨by omega, by omega⟩ ⟨by omega, by omega⟩ ⟨by omega, by omega⟩ ⟨by omega, by omega⟩).mono ?_; rintro e w' ⟨rfl, x, rfl⟩))
          go_ret
          exact ⟨rfl, (by repeat (first | exact Exts.refl _ | apply Exts.alloc | apply Exts.wext | apply Exts.drew | apply Exts.drewN))⟩
        · have y2 : (k2 != 0) = true := by simpa using z2
          go_wp2_with (first | (go_at_call 8; refine (small_any _).mono ?_; rintro e w' ⟨rfl, x, rfl⟩) | (go_at_call 11; refine (refRight_any _ _ _ ⟨by omega, by omega⟩ ⟨by omega, by omega⟩).mono ?_; rintro e w' ⟨rfl, x, rfl⟩) | (go_at_call 12; refine (compare_any _ _ _ _ _ ⟨by omega, by omega⟩ ⟨by omega, by omega⟩ ⟨by omega, by omega⟩ ⟨by omega, by omega⟩).mono ?_; rintro e w' ⟨rfl, x, rfl⟩) | (go_at_call 13; refine (min_any _ _ _ _ _ ⟨by omega, by omega⟩ ⟨by omega, by omega⟩ ⟨by omega, by omega⟩ ⟨by omega, by omega⟩).mono ?_; rintro e w' ⟨rfl, x, rfl⟩) | (go_at_call 14; refine (max_any _ _ _ _ _ ⟨by omega, by omega⟩ ⟨by omega, by omega⟩ ⟨by omega, by omega⟩ ⟨by omega, by omega⟩).mono ?_; rintro e w' ⟨rfl, x, rfl⟩) | (go_at_call 15; refine (add_any _ _ _ _ _ ⟨by omega, by omega⟩ ⟨by omega, by omega⟩ ⟨by omega, by omega⟩ ⟨by omega, by omega⟩).mono ?_; rintro e w' ⟨rfl, x, rfl⟩))
          go_ret
          exact ⟨rfl, (by repeat (first | exact Exts.refl _ | apply Exts.alloc | apply Exts.wext | apply Exts.drew | apply Exts.drewN))⟩
      · have y1 : (k1 != 0) = true := by simpa using z1
        go_wp2_with (first | (go_at_call 8; refine (small_any _).mono ?_; rintro e w' ⟨rfl, x, rfl⟩) | (go_at_call 11; refine (refRight_any _ _ _ ⟨by omega, by omega⟩ ⟨by omega, by omega⟩).mono ?_; rintro e w' ⟨rfl, x, rfl⟩) | (go_at_call 12; refine (compare_any _ _ _ _ _ ⟨by omega, by omega⟩ ⟨by omega, by omega⟩ ⟨by omega, by omega⟩ ⟨by omega, by omega⟩).mono ?_; rintro e w' ⟨rfl, x, rfl⟩) | (go_at_call 13; refine (min_any _ _ _ _ _ ⟨by omega, by omega⟩ ⟨by omega, by omega⟩ ⟨by omega, by omega⟩ ⟨by omega, by omega⟩).mono ?_; rintro e w' ⟨rfl, x, rfl⟩) | (go_at_call 14; refine (max_any _ _ _ _ _ ⟨by omega, by omega⟩ ⟨by omega, by omega⟩ ⟨by omega, by omega⟩ ⟨by omega, by omega⟩).mono ?_; rintro e w' ⟨rfl, x, rfl⟩) | (go_at_call 15; refine (add_any _ _ _ _ _ ⟨by omega, by omega⟩ ⟨by omega, by omega⟩ ⟨by omega, by omega⟩ ⟨by omega, by omega⟩).mono ?_; rintro e w' ⟨rfl, x, rfl⟩))
        go_ret
        exact ⟨rfl, (by repeat (first | exact Exts.refl _ | apply Exts.alloc | apply Exts.wext | apply Exts.drew | apply Exts.drewN))⟩
    · have g3 : decide (y ≤ 0) = false := by simpa using g1
      clear htr
      go_enter Try.func4, Try.ntmps4
      go_upto_region 15 with (first | (go_at_call 8; refine (small_any _).mono ?_; rintro e w' ⟨rfl, x, rfl⟩) | (go_at_call 11; refine (refRight_any _ _ _ ⟨by omega, by omega⟩ ⟨by omega, by omega⟩).mono ?_; rintro e w' ⟨rfl, x, rfl⟩) | (go_at_call 12; refine (compare_any _ _ _ _ _ ⟨by omega, by omega⟩ ⟨by omega, by omega⟩ ⟨by omega, by omega⟩ ⟨by omega, by omega⟩).mono ?_; rintro e w' ⟨rfl, x, rfl⟩) | (go_at_call 13; refine (min_any _ _ _ _ _ ⟨by omega, by omega⟩ ⟨by omega, by omega⟩ ⟨by omega, by omega⟩ ⟨by omega, by omega⟩).mono ?_; rintro e w' ⟨rfl, x, rfl⟩) | (go_at_call 14; refine (max_any _ _ _ _ _ ⟨by omega, by omega⟩ ⟨by omega, by omega⟩ ⟨by omega, by omega⟩ ⟨by omega, by omega⟩).mono ?_; rintro e w' ⟨rfl, x, rfl⟩) | (go_at_call 15; refine (add_any _ _ _ _ _ ⟨by omega, by omega⟩ ⟨by omega, by omega⟩ ⟨by omega, by omega⟩ ⟨by omega, by omega⟩).mono ?_; rintro e w' ⟨rfl, x, rfl⟩))
      by_cases z1 : k1 = 0
      · have y1 : (k1 != 0) = false := by simpa using z1
        by_cases z2 : k2 = 0
        · have y2 : (k2 != 0) = false := by simpa using z2
          have Hs := hsum z1 z2
          go_wp2_with (first | (go_at_call 8; refine (small_any _).mono ?_; rintro e w' ⟨rfl, x, rfl⟩) | (go_at_call 11; refine (refRight_any _ _ _ ⟨by omega, by omega⟩ ⟨by omega, by omega⟩).mono ?_; rintro e w' ⟨rfl, x, rfl⟩) | (go_at_call 12; refine (compare_any _ _ _ _ _ ⟨by omega, by omega⟩ ⟨by omega, by omega⟩ ⟨by omega, by omega⟩ ⟨by omega, by omega⟩).mono ?_; rintro e w' ⟨rfl, x, rfl⟩) | (go_at_call 13; refine (min_any _ _ _ _ _ ⟨by omega, by omega⟩ ⟨by omega, by omega⟩ ⟨by omega, by omega⟩ ⟨by omega, by omega⟩).mono ?_; rintro e w' ⟨rfl, x, rfl⟩) | (go_at_call 14; refine (max_any _ _ _ _ _ ⟨by omega, by omega⟩ ⟨by omega, by omega⟩ ⟨by omega, by omega⟩ ⟨by omega, by omega⟩).mono ?_; rintro e w' ⟨rfl, x, rfl⟩) | (go_at_call 15; refine (add_any _ _ _ _ _ ⟨by omega, by omega⟩ ⟨by omega, by omega⟩ ⟨by omega, by omega⟩ ⟨by omega, by omega⟩).mono ?_; rintro e w' ⟨rfl, x, rfl⟩))
          go_ret
          exact ⟨rfl, (by repeat (first | exact Exts.refl _ | apply Exts.alloc | apply Exts.wext | apply Exts.drew | apply Exts.drewN))⟩
        · have y2 : (k2 != 0) = true := by simpa using z2
          go_wp2_with (first | (go_at_call 8; refine (small_any _).mono ?_; rintro e w' ⟨rfl, x, rfl⟩) | (go_at_call 11; refine (refRight_any _ _ _ ⟨by omega, by omega⟩ ⟨by omega, by omega⟩).mono ?_; rintro e w' ⟨rfl, x, rfl⟩) | (go_at_call 12; refine (compare_any _ _ _ _ _ ⟨by omega, by omega⟩ ⟨by omega, by omega⟩ ⟨by omega, by omega⟩ ⟨by omega, by omega⟩).mono ?_; rintro e w' ⟨rfl, x, rfl⟩) | (go_at_call 13; refine (min_any _ _ _ _ _ ⟨by omega, by omega⟩ ⟨by omega, by omega⟩ ⟨by omega, by omega⟩ ⟨by omega, by omega⟩).mono ?_; rintro e w' ⟨rfl, x, rfl⟩) | (go_at_call 14; refine (max_any _ _ _ _ _ ⟨by omega, by omega⟩ ⟨by omega, by omega⟩ ⟨by omega, by omega⟩ ⟨by omega, by omega⟩).mono ?_; rintro e w' ⟨rfl, x, rfl⟩) | (go_at_call 15; refine (add_any _ _ _ _ _ ⟨by omega, by omega⟩ ⟨by omega, by omega⟩ ⟨by omega, by omega⟩ ⟨by omega, by omega⟩).mono ?_; rintro e w' ⟨rfl, x, rfl⟩))
          go_ret
          exact ⟨rfl, (by repeat (first | exact Exts.refl _ | apply Exts.alloc | apply Exts.wext | apply Exts.drew | apply Exts.drewN))⟩
      · have y1 : (k1 != 0) = true := by simpa using z1
        go_wp2_with (first | (go_at_call 8; refine (small_any _).mono ?_; rintro e w' ⟨rfl, x, rfl⟩) | (go_at_call 11; refine (refRight_any _ _ _ ⟨by omega, by omega⟩ ⟨by omega, by omega⟩).mono ?_; rintro e w' ⟨rfl, x, rfl⟩) | (go_at_call 12; refine (compare_any _ _ _ _ _ ⟨by omega, by omega⟩ ⟨by omega, by omega⟩ ⟨by omega, by omega⟩ ⟨by omega, by omega⟩).mono ?_; rintro e w' ⟨rfl, x, rfl⟩) | (go_at_call 13; refine (min_any _ _ _ _ _ ⟨by omega, by omega⟩ ⟨by omega, by omega⟩ ⟨by omega, by omega⟩ ⟨by omega, by omega⟩).mono ?_; rintro e w' ⟨rfl, x, rfl⟩) | (go_at_call 14; refine (max_any _ _ _ _ _ ⟨by omega, by omega⟩ ⟨by omega, by omega⟩ ⟨by omega, by omega⟩ ⟨by omega, by omega⟩).mono ?_; rintro e w' ⟨rfl, x, rfl⟩) | (go_at_call 15; refine (add_any _ _ _ _ _ ⟨by omega, by omega⟩ ⟨by omega, by omega⟩ ⟨by omega, by omega⟩ ⟨by omega, by omega⟩).mono ?_; rintro e w' ⟨rfl, x, rfl⟩))
        go_ret
        exact ⟨rfl, (by repeat (first | exact Exts.refl _ | apply Exts.alloc | apply Exts.wext | apply Exts.drew | apply Exts.drewN))⟩
  · have e1 : (a == c) = false := by simpa using hac
    have e2 : (c == a) = false := by simpa using fun h : c = a => hac h.symm
    clear x3
    by_cases g1 : y ≤ 0
    · have g2 := htr g1
      clear htr
      go_enter Try.func4, Try.ntmps4
      go_upto_region 15 with (first | (go_at_call 8; refine (small_any _).mono ?_; rintro e w' ⟨rfl, x, rfl⟩) | (go_at_call 11; refine (refRight_any _ _ _ ⟨by omega, by omega⟩ ⟨by omega, by omega⟩).mono ?_; rintro e w' ⟨rfl, x, rfl⟩) | (go_at_call 12; refine (compare_any _ _ _ _ _ ⟨by omega, by omega⟩ ⟨by omega, by omega⟩ ⟨by omega, by omega⟩ ⟨by omega, by omega⟩).mono ?_; rintro e w' ⟨rfl, x, rfl⟩) | (go_at_call 13; refine (min_any _ _ _ _ _ ⟨by omega, by omega⟩ ⟨by omega, by omega⟩ ⟨by omega, by omega⟩ ⟨by omega, by omega⟩).mono ?_; rintro e w' ⟨rfl, x, rfl⟩) | (go_at_call 14; refine (max_any _ _ _ _ _ ⟨by omega, by omega⟩ ⟨by omega, by omega⟩ ⟨by omega, by omega⟩ ⟨by omega, by omega⟩).mono ?_; rintro e w' ⟨rfl, x, rfl⟩) | (go_at_call 15; refine (add_any _ _ _ _ _ ⟨by omega, by omega⟩ ⟨by omega, by omega⟩ ⟨by omega, by omega⟩ ⟨by omega, by omega⟩).mono ?_; rintro e w' ⟨rfl, x, rfl⟩))
      by_cases z1 : k1 = 0
      · have y1 : (k1 != 0) = false := by simpa using z1
        by_cases z2 : k2 = 0
        · have y2 : (k2 != 0) = false := by simpa using z2
          have Hs := hsum z1 z2
          go_wp2_with (first | (go_at_call 8; refine (small_any _).mono ?_; rintro e w' ⟨rfl, x, rfl⟩) | (go_at_call 11; refine (refRight_any _ _ _ ⟨by omega, by omega⟩ ⟨by omega, by omega⟩).mono ?_; rintro e w' ⟨rfl, x, rfl⟩) | (go_at_call 12; refine (compare_any _ _ _ _ _ ⟨by omega, by omega⟩ ⟨by omega, by omega⟩ ⟨by omega, by omega⟩ ⟨by omega, by omega⟩).mono ?_; rintro e w' ⟨rfl, x, rfl⟩) | (go_at_call 13; refine (min_any _ _ _ _ _ ⟨by omega, by omega⟩ ⟨by omega, by omega⟩ ⟨by omega, by omega⟩ ⟨by omega, by omega⟩).mono ?_; rintro e w' ⟨rfl, x, rfl⟩) | (go_at_call 14; refine (max_any _ _ _ _ _ ⟨by omega, by omega⟩ ⟨by omega, by omega⟩ ⟨by omega, by omega⟩ ⟨by omega, by omega⟩).mono ?_; rintro e w' ⟨rfl, x, rfl⟩) | (go_at_call 15; refine (add_any _ _ _ _ _ ⟨by omega, by omega⟩ ⟨by omega, by omega⟩ ⟨by omega, by omega⟩ ⟨by omega, by omega⟩).mono ?_; rintro e w' ⟨rfl, x, rfl⟩))
          go_ret
          exact ⟨rfl, (by repeat (first | exact Exts.refl _ | apply Exts.alloc | apply Exts.wext | apply Exts.drew | apply Exts.drewN))⟩
        · have y2 : (k2 != 0) = true := by simpa using z2
          go_wp2_with (first | (go_at_call 8; refine (small_any _).mono ?_; rintro e w' ⟨rfl, x, rfl⟩) | (go_at_call 11; refine (refRight_any _ _ _ ⟨by omega, by omega⟩ ⟨by omega, by omega⟩).mono ?_; rintro e w' ⟨rfl, x, rfl⟩) | (go_at_call 12; refine (compare_any _ _ _ _ _ ⟨by omega, by omega⟩ ⟨by omega, by omega⟩ ⟨by omega, by omega⟩ ⟨by omega, by omega⟩).mono ?_; rintro e w' ⟨rfl, x, rfl⟩) | (go_at_call 13; refine (min_any _ _ _ _ _ ⟨by omega, by omega⟩ ⟨by omega, by omega⟩ ⟨by omega, by omega⟩ ⟨by omega, by omega⟩).mono ?_; rintro e w' ⟨rfl, x, rfl⟩) | (go_at_call 14; refine (max_any _ _ _ _ _ ⟨by omega, by omega⟩ ⟨by omega, by omega⟩ ⟨by omega, by omega⟩ ⟨by omega, by omega⟩).mono ?_; rintro e w' ⟨rfl, x, rfl⟩) | (go_at_call 15; refine (add_any _ _ _ _ _ ⟨by omega, by omega⟩ ⟨by omega, by omega⟩ ⟨by omega, by omega⟩ ⟨by omega, by omega⟩).mono ?_; rintro e w' ⟨rfl, x, rfl⟩))
          go_ret
          exact ⟨rfl, (by repeat (first | exact Exts.refl _ | apply Exts.alloc | apply Exts.wext | apply Exts.drew | apply Exts.drewN))⟩
      · have y1 : (k1 != 0) = true := by simpa using z1
        go_wp2_with (first | (go_at_call 8; refine (small_any _).mono ?_; rintro e w' ⟨rfl, x, rfl⟩) | (go_at_call 11; refine (refRight_any _ _ _ ⟨by omega, by omega⟩ ⟨by omega, by omega⟩).mono ?_; rintro e w' ⟨rfl, x, rfl⟩) | (go_at_call 12; refine (compare_any _ _ _ _ _ ⟨by omega, by omega⟩ ⟨by omega, by omega⟩ ⟨by omega, by omega⟩ ⟨by omega, by omega⟩).mono ?_; rintro e w' ⟨rfl, x, rfl⟩) | (go_at_call 13; refine (min_any _ _ _ _ _ ⟨by omega, by omega⟩ ⟨by omega, by omega⟩ ⟨by omega, by omega⟩ ⟨by omega, by omega⟩).mono ?_; rintro e w' ⟨rfl, x, rfl⟩) | (go_at_call 14; refine (max_any _ _ _ _ _ ⟨by omega, by omega⟩ ⟨by omega, by omega⟩ ⟨by omega, by omega⟩ ⟨by omega, by omega⟩).mono ?_; rintro e w' ⟨rfl, x, rfl⟩) | (go_at_call 15; refine (add_any _ _ _ _ _ ⟨by omega, by omega⟩ ⟨by omega, by omega⟩ ⟨by omega, by omega⟩ ⟨by omega, by omega⟩).mono ?_; rintro e w' ⟨rfl, x, rfl⟩))
        go_ret
        exact ⟨rfl, (by repeat (first | exact Exts.refl _ | apply Exts.alloc | apply Exts.wext | apply Exts.drew | apply Exts.drewN))⟩
    · have g3 : decide (y ≤ 0) = false := by simpa using g1
      clear htr
      go_enter Try.func4, Try.ntmps4
      go_upto_region 15 with (first | (go_at_call 8; refine (small_any _).mono ?_; rintro e w' ⟨rfl, x, rfl⟩) | (go_at_call 11; refine (refRight_any _ _ _ ⟨by omega, by omega⟩ ⟨by omega, by omega⟩).mono ?_; rintro e w' ⟨rfl, x, rfl⟩) | (go_at_call 12; refine (compare_any _ _ _ _ _ ⟨by omega, by omega⟩ ⟨by omega, by omega⟩ ⟨by omega, by omega⟩ ⟨by omega, by omega⟩).mono ?_; rintro e w' ⟨rfl, x, rfl⟩) | (go_at_call 13; refine (min_any _ _ _ _ _ ⟨by omega, by omega⟩ ⟨by omega, by omega⟩ ⟨by omega, by omega⟩ ⟨by omega, by omega⟩).mono ?_; rintro e w' ⟨rfl, x, rfl⟩) | (go_at_call 14; refine (max_any _ _ _ _ _ ⟨by omega, by omega⟩ ⟨by omega, by omega⟩ ⟨by omega, by omega⟩ ⟨by omega, by omega⟩).mono ?_; rintro e w' ⟨rfl, x, rfl⟩) | (go_at_call 15; refine (add_any _ _ _ _ _ ⟨by omega, by omega⟩ ⟨by omega, by omega⟩ ⟨by omega, by omega⟩ ⟨by omega, by omega⟩).mono ?_; rintro e w' ⟨rfl, x, rfl⟩))
      by_cases z1 : k1 = 0
      · have y1 : (k1 != 0) = false := by simpa using z1
        by_cases z2 : k2 = 0
        · have y2 : (k2 != 0) = false := by simpa using z2
          have Hs := hsum z1 z2
          go_wp2_with (first | (go_at_call 8; refine (small_any _).mono ?_; rintro e w' ⟨rfl, x, rfl⟩) | (go_at_call 11; refine (refRight_any _ _ _ ⟨by omega, by omega⟩ ⟨by omega, by omega⟩).mono ?_; rintro e w' ⟨rfl, x, rfl⟩) | (go_at_call 12; refine (compare_any _ _ _ _ _ ⟨by omega, by omega⟩ ⟨by omega, by omega⟩ ⟨by omega, by omega⟩ ⟨by omega, by omega⟩).mono ?_; rintro e w' ⟨rfl, x, rfl⟩) | (go_at_call 13; refine (min_any _ _ _ _ _ ⟨by omega, by omega⟩ ⟨by omega, by omega⟩ ⟨by omega, by omega⟩ ⟨by omega, by omega⟩).mono ?_; rintro e w' ⟨rfl, x, rfl⟩) | (go_at_call 14; refine (max_any _ _ _ _ _ ⟨by omega, by omega⟩ ⟨by omega, by omega⟩ ⟨by omega, by omega⟩ ⟨by omega, by omega⟩).mono ?_; rintro e w' ⟨rfl, x, rfl⟩) | (go_at_call 15; refine (add_any _ _ _ _ _ ⟨by omega, by omega⟩ ⟨by omega, by omega⟩ ⟨by omega, by omega⟩ ⟨by omega, by omega⟩).mono ?_; rintro e w' ⟨rfl, x, rfl⟩))
          go_ret
          exact ⟨rfl, (by repeat (first | exact Exts.refl _ | apply Exts.alloc | apply Exts.wext | apply Exts.drew | apply Exts.drewN))⟩
        · have y2 : (k2 != 0) = true := by simpa using z2
          go_wp2_with (first | (go_at_call 8; refine (small_any _).mono ?_; rintro e w' ⟨rfl, x, rfl⟩) | (go_at_call 11; refine (refRight_any _ _ _ ⟨by omega, by omega⟩ ⟨by omega, by omega⟩).mono ?_; rintro e w' ⟨rfl, x, rfl⟩) | (go_at_call 12; refine (compare_any _ _ _ _ _ ⟨by omega, by omega⟩ ⟨by omega, by omega⟩ ⟨by omega, by omega⟩ ⟨by omega, by omega⟩).mono ?_; rintro e w' ⟨rfl, x, rfl⟩) | (go_at_call 13; refine (min_any _ _ _ _ _ ⟨by omega, by omega⟩ ⟨by omega, by omega⟩ ⟨by omega, by omega⟩ ⟨by omega, by omega⟩).mono ?_; rintro e w' ⟨rfl, x, rfl⟩) | (go_at_call 14; refine (max_any _ _ _ _ _ ⟨by omega, by omega⟩ ⟨by omega, by omega⟩ ⟨by omega, by omega⟩ ⟨by omega, by omega⟩).mono ?_; rintro e w' ⟨rfl, x, rfl⟩) | (go_at_call 15; refine (add_any _ _ _ _ _ ⟨by omega, by omega⟩ ⟨by omega, by omega⟩ ⟨by omega, by omega⟩ ⟨by omega, by omega⟩).mono ?_; rintro e w' ⟨rfl, x, rfl⟩))
          go_ret
          exact ⟨rfl, (by repeat (first | exact Exts.refl _ | apply Exts.alloc | apply Exts.wext | apply Exts.drew | apply Exts.drewN))⟩
      · have y1 : (k1 != 0) = true := by simpa using z1
        go_wp2_with (first | (go_at_call 8; refine (small_any _).mono ?_; rintro e w' ⟨rfl, x, rfl⟩) | (go_at_call 11; refine (refRight_any _ _ _ ⟨by omega, by omega⟩ ⟨by omega, by omega⟩).mono ?_; rintro e w' ⟨rfl, x, rfl⟩) | (go_at_call 12; refine (compare_any _ _ _ _ _ ⟨by omega, by omega⟩ ⟨by omega, by omega⟩ ⟨by omega, by omega⟩ ⟨by omega, by omega⟩).mono ?_; rintro e w' ⟨rfl, x, rfl⟩) | (go_at_call 13; refine (min_any _ _ _ _ _ ⟨by omega, by omega⟩ ⟨by omega, by omega⟩ ⟨by omega, by omega⟩ ⟨by omega, by omega⟩).mono ?_; rintro e w' ⟨rfl, x, rfl⟩) | (go_at_call 14; refine (max_any _ _ _ _ _ ⟨by omega, by omega⟩ ⟨by omega, by omega⟩ ⟨by omega, by omega⟩ ⟨by omega, by omega⟩).mono ?_; rintro e w' ⟨rfl, x, rfl⟩) | (go_at_call 15; refine (add_any _ _ _ _ _ ⟨by omega, by omega⟩ ⟨by omega, by omega⟩ ⟨by omega, by omega⟩ ⟨by omega, by omega⟩).mono ?_; rintro e w' ⟨rfl, x, rfl⟩))
        go_ret
        exact ⟨rfl, (by repeat (first | exact Exts.refl _ | apply Exts.alloc | apply Exts.wext | apply Exts.drew | apply Exts.drewN))⟩

set_option maxHeartbeats 4000000 in
theorem orders_more (a b c d e f : Int) (ia : I64 a) (ib : I64 b) (ic : I64 c) (id : I64 d) (ie : I64 e) (if_ : I64 f) (w : World) (h1 : rOk a b = true) (h2 : rOk c d = true) (h3 : rOk e f = true)
    (x1 : rCmp a b c d = 1) (x2 : rCmp c d a b = -1) (x3 : ¬ (a = c ∧ b = d)) (x4 : rMin a b c d = (c, d)) (x5 : rMax a b c d = (a, b)) :
    Calls Try.prog 4 #[.agg #[.int .i64 a, .int .i64 b], .agg #[.int .i64 c, .int .i64 d], .agg #[.int .i64 e, .int .i64 f]] w fun e w' => e = .returned (.bool true) ∧ Exts w w' := by
  obtain ⟨ia1, ia2⟩ := ia
  obtain ⟨ib1, ib2⟩ := ib
  obtain ⟨ic1, ic2⟩ := ic
  obtain ⟨id1, id2⟩ := id
  obtain ⟨ie1, ie2⟩ := ie
  obtain ⟨if1, if2⟩ := if_
  obtain ⟨⟨⟨s1, s2⟩, k1⟩, m1⟩ : ∃ r, rAdd a b e f = r := ⟨_, rfl⟩
  obtain ⟨⟨⟨t1, t2⟩, k2⟩, m2⟩ : ∃ r, rAdd c d e f = r := ⟨_, rfl⟩
  have L1 := rAdd_lim a b e f
  have L2 := rAdd_lim c d e f
  rw [m1] at L1
  rw [m2] at L2
  dsimp only at L1 L2
  obtain ⟨L11, L12, L13, L14⟩ := L1
  obtain ⟨L21, L22, L23, L24⟩ := L2
  have hsum : k1 = 0 → k2 = 0 → rCmp s1 s2 t1 t2 = rCmp a b c d := fun e1 e2 => orders_add a b c d e f s1 s2 t1 t2 h1 h2 h3 (by rw [m1, e1]) (by rw [m2, e2])
  rw [x1] at hsum
  by_cases hac : a = c
  · subst hac
    have e1 : (b == d) = false := by simpa using x3
    have e2 : (d == b) = false := by simpa using fun h : d = b => x3 ⟨rfl, h.symm⟩
    clear x3
    go_enter Try.func4, Try.ntmps4
    go_upto_region 15 with (first | (go_at_call 8; refine (small_any _).mono ?_; rintro e w' ⟨rfl, x, rfl⟩) | (go_at_call 11; refine (refRight_any _ _ _ ⟨by omega, by omega⟩ ⟨by omega, by omega⟩).mono ?_; rintro e w' ⟨rfl, x, rfl⟩) | (go_at_call 12; refine (compare_any _ _ _ _ _ ⟨by omega, by omega⟩ ⟨by omega, by omega⟩ ⟨by omega, by omega⟩ ⟨by omega, by omega⟩).mono ?_; rintro e w' ⟨rfl, x, rfl⟩) | (go_at_call 13; refine (min_any _ _ _ _ _ ⟨by omega, by omega⟩ ⟨by omega, by omega⟩ ⟨by omega, by omega⟩ ⟨by omega, by omega⟩).mono ?_; rintro e w' ⟨rfl, x, rfl⟩) | (go_at_call 14; refine (max_any _ _ _ _ _ ⟨by omega, by omega⟩ ⟨by omega, by omega⟩ ⟨by omega, by omega⟩ ⟨by omega, by omega⟩).mono ?_; rintro e w' ⟨rfl, x, rfl⟩) | (go_at_call 15; refine (add_any _ _ _ _ _ ⟨by omega, by omega⟩ ⟨by omega, by omega⟩ ⟨by omega, by omega⟩ ⟨by omega, by omega⟩).mono ?_; rintro e w' ⟨rfl, x, rfl⟩))
    by_cases z1 : k1 = 0
    · have y1 : (k1 != 0) = false := by simpa using z1
      by_cases z2 : k2 = 0
      · have y2 : (k2 != 0) = false := by simpa using z2
        have Hs := hsum z1 z2
        go_wp2_with (first | (go_at_call 8; refine (small_any _).mono ?_; rintro e w' ⟨rfl, x, rfl⟩) | (go_at_call 11; refine (refRight_any _ _ _ ⟨by omega, by omega⟩ ⟨by omega, by omega⟩).mono ?_; rintro e w' ⟨rfl, x, rfl⟩) | (go_at_call 12; refine (compare_any _ _ _ _ _ ⟨by omega, by omega⟩ ⟨by omega, by omega⟩ ⟨by omega, by omega⟩ ⟨by omega, by omega⟩).mono ?_; rintro e w' ⟨rfl, x, rfl⟩) | (go_at_call 13; refine (min_any _ _ _ _ _ ⟨by omega, by omega⟩ ⟨by omega, by omega⟩ ⟨by omega, by omega⟩ ⟨by omega, by omega⟩).mono ?_; rintro e w' ⟨rfl, x, rfl⟩) | (go_at_call 14; refine (max_any _ _ _ _ _ ⟨by omega, by omega⟩ ⟨by omega, by omega⟩ ⟨by omega, by omega⟩ ⟨by omega, by omega⟩).mono ?_; rintro e w' ⟨rfl, x, rfl⟩) | (go_at_call 15; refine (add_any _ _ _ _ _ ⟨by omega, by omega⟩ ⟨by omega, by omega⟩ ⟨by omega, by omega⟩ ⟨by omega, by omega⟩).mono ?_; rintro e w' ⟨rfl, x, rfl⟩))
        go_ret
        exact ⟨rfl, (by repeat (first | exact Exts.refl _ | apply Exts.alloc | apply Exts.wext | apply Exts.drew | apply Exts.drewN))⟩
      · have y2 : (k2 != 0) = true := by simpa using z2
        go_wp2_with (first | (go_at_call 8; refine (small_any _).mono ?_; rintro e w' ⟨rfl, x, rfl⟩) | (go_at_call 11; refine (refRight_any _ _ _ ⟨by omega, by omega⟩ ⟨by omega, by omega⟩).mono ?_; rintro e w' ⟨rfl, x, rfl⟩) | (go_at_call 12; refine (compare_any _ _ _ _ _ ⟨by omega, by omega⟩ ⟨by omega, by omega⟩ ⟨by omega, by omega⟩ ⟨by omega, by omega⟩).mono ?_; rintro e w' ⟨rfl, x, rfl⟩) | (go_at_call 13; refine (min_any _ _ _ _ _ ⟨by omega, by omega⟩ ⟨by omega, by omega⟩ ⟨by omega, by omega⟩ ⟨by omega, by omega⟩).mono ?_; rintro e w' ⟨rfl, x, rfl⟩) | (go_at_call 14; refine (max_any _ _ _ _ _ ⟨by omega, by omega⟩ ⟨by omega, by omega⟩ ⟨by omega, by omega⟩ ⟨by omega, by omega⟩).mono ?_; rintro e w' ⟨rfl, x, rfl⟩) | (go_at_call 15; refine (add_any _ _ _ _ _ ⟨by omega, by omega⟩ ⟨by omega, by omega⟩ ⟨by omega, by omega⟩ ⟨by omega, by omega⟩).mono ?_; rintro e w' ⟨rfl, x, rfl⟩))
        go_ret
        exact ⟨rfl, (by repeat (first | exact Exts.refl _ | apply Exts.alloc | apply Exts.wext | apply Exts.drew | apply Exts.drewN))⟩
    · have y1 : (k1 != 0) = true := by simpa using z1
      go_wp2_with (first | (go_at_call 8; refine (small_any _).mono ?_; rintro e w' ⟨rfl, x, rfl⟩) | (go_at_call 11; refine (refRight_any _ _ _ ⟨by omega, by omega⟩ ⟨by omega, by omega⟩).mono ?_; rintro e w' ⟨rfl, x, rfl⟩) | (go_at_call 12; refine (compare_any _ _ _ _ _ ⟨by omega, by omega⟩ ⟨by omega, by omega⟩ ⟨by omega, by omega⟩ ⟨by omega, by omega⟩).mono ?_; rintro e w' ⟨rfl, x, rfl⟩) | (go_at_call 13; refine (min_any _ _ _ _ _ ⟨by omega, by omega⟩ ⟨by omega, by omega⟩ ⟨by omega, by omega⟩ ⟨by omega, by omega⟩).mono ?_; rintro e w' ⟨rfl, x, rfl⟩) | (go_at_call 14; refine (max_any _ _ _ _ _ ⟨by omega, by omega⟩ ⟨by omega, by omega⟩ ⟨by omega, by omega⟩ ⟨by omega, by omega⟩).mono ?_; rintro e w' ⟨rfl, x, rfl⟩) | (go_at_call 15; refine (add_any _ _ _ _ _ ⟨by omega, by omega⟩ ⟨by omega, by omega⟩ ⟨by omega, by omega⟩ ⟨by omega, by omega⟩).mono ?_; rintro e w' ⟨rfl, x, rfl⟩))
      go_ret
      exact ⟨rfl, (by repeat (first | exact Exts.refl _ | apply Exts.alloc | apply Exts.wext | apply Exts.drew | apply Exts.drewN))⟩
  · have e1 : (a == c) = false := by simpa using hac
    have e2 : (c == a) = false := by simpa using fun h : c = a => hac h.symm
    clear x3
    go_enter Try.func4, Try.ntmps4
    go_upto_region 15 with (first | (go_at_call 8; refine (small_any _).mono ?_; rintro e w' ⟨rfl, x, rfl⟩) | (go_at_call 11; refine (refRight_any _ _ _ ⟨by omega, by omega⟩ ⟨by omega, by omega⟩).mono ?_; rintro e w' ⟨rfl, x, rfl⟩) | (go_at_call 12; refine (compare_any _ _ _ _ _ ⟨by omega, by omega⟩ ⟨by omega, by omega⟩ ⟨by omega, by omega⟩ ⟨by omega, by omega⟩).mono ?_; rintro e w' ⟨rfl, x, rfl⟩) | (go_at_call 13; refine (min_any _ _ _ _ _ ⟨by omega, by omega⟩ ⟨by omega, by omega⟩ ⟨by omega, by omega⟩ ⟨by omega, by omega⟩).mono ?_; rintro e w' ⟨rfl, x, rfl⟩) | (go_at_call 14; refine (max_any _ _ _ _ _ ⟨by omega, by omega⟩ ⟨by omega, by omega⟩ ⟨by omega, by omega⟩ ⟨by omega, by omega⟩).mono ?_; rintro e w' ⟨rfl, x, rfl⟩) | (go_at_call 15; refine (add_any _ _ _ _ _ ⟨by omega, by omega⟩ ⟨by omega, by omega⟩ ⟨by omega, by omega⟩ ⟨by omega, by omega⟩).mono ?_; rintro e w' ⟨rfl, x, rfl⟩))
    by_cases z1 : k1 = 0
    · have y1 : (k1 != 0) = false := by simpa using z1
      by_cases z2 : k2 = 0
      · have y2 : (k2 != 0) = false := by simpa using z2
        have Hs := hsum z1 z2
        go_wp2_with (first | (go_at_call 8; refine (small_any _).mono ?_; rintro e w' ⟨rfl, x, rfl⟩) | (go_at_call 11; refine (refRight_any _ _ _ ⟨by omega, by omega⟩ ⟨by omega, by omega⟩).mono ?_; rintro e w' ⟨rfl, x, rfl⟩) | (go_at_call 12; refine (compare_any _ _ _ _ _ ⟨by omega, by omega⟩ ⟨by omega, by omega⟩ ⟨by omega, by omega⟩ ⟨by omega, by omega⟩).mono ?_; rintro e w' ⟨rfl, x, rfl⟩) | (go_at_call 13; refine (min_any _ _ _ _ _ ⟨by omega, by omega⟩ ⟨by omega, by omega⟩ ⟨by omega, by omega⟩ ⟨by omega, by omega⟩).mono ?_; rintro e w' ⟨rfl, x, rfl⟩) | (go_at_call 14; refine (max_any _ _ _ _ _ ⟨by omega, by omega⟩ ⟨by omega, by omega⟩ ⟨by omega, by omega⟩ ⟨by omega, by omega⟩).mono ?_; rintro e w' ⟨rfl, x, rfl⟩) | (go_at_call 15; refine (add_any _ _ _ _ _ ⟨by omega, by omega⟩ ⟨by omega, by omega⟩ ⟨by omega, by omega⟩ ⟨by omega, by omega⟩).mono ?_; rintro e w' ⟨rfl, x, rfl⟩))
        go_ret
        exact ⟨rfl, (by repeat (first | exact Exts.refl _ | apply Exts.alloc | apply Exts.wext | apply Exts.drew | apply Exts.drewN))⟩
      · have y2 : (k2 != 0) = true := by simpa using z2
        go_wp2_with (first | (go_at_call 8; refine (small_any _).mono ?_; rintro e w' ⟨rfl, x, rfl⟩) | (go_at_call 11; refine (refRight_any _ _ _ ⟨by omega, by omega⟩ ⟨by omega, by omega⟩).mono ?_; rintro e w' ⟨rfl, x, rfl⟩) | (go_at_call 12; refine (compare_any _ _ _ _ _ ⟨by omega, by omega⟩ ⟨by omega, by omega⟩ ⟨by omega, by omega⟩ ⟨by omega, by omega⟩).mono ?_; rintro e w' ⟨rfl, x, rfl⟩) | (go_at_call 13; refine (min_any _ _ _ _ _ ⟨by omega, by omega⟩ ⟨by omega, by omega⟩ ⟨by omega, by omega⟩ ⟨by omega, by omega⟩).mono ?_; rintro e w' ⟨rfl, x, rfl⟩) | (go_at_call 14; refine (max_any _ _ _ _ _ ⟨by omega, by omega⟩ ⟨by omega, by omega⟩ ⟨by omega, by omega⟩ ⟨by omega, by omega⟩).mono ?_; rintro e w' ⟨rfl, x, rfl⟩) | (go_at_call 15; refine (add_any _ _ _ _ _ ⟨by omega, by omega⟩ ⟨by omega, by omega⟩ ⟨by omega, by omega⟩ ⟨by omega, by omega⟩).mono ?_; rintro e w' ⟨rfl, x, rfl⟩))
        go_ret
        exact ⟨rfl, (by repeat (first | exact Exts.refl _ | apply Exts.alloc | apply Exts.wext | apply Exts.drew | apply Exts.drewN))⟩
    · have y1 : (k1 != 0) = true := by simpa using z1
      go_wp2_with (first | (go_at_call 8; refine (small_any _).mono ?_; rintro e w' ⟨rfl, x, rfl⟩) | (go_at_call 11; refine (refRight_any _ _ _ ⟨by omega, by omega⟩ ⟨by omega, by omega⟩).mono ?_; rintro e w' ⟨rfl, x, rfl⟩) | (go_at_call 12; refine (compare_any _ _ _ _ _ ⟨by omega, by omega⟩ ⟨by omega, by omega⟩ ⟨by omega, by omega⟩ ⟨by omega, by omega⟩).mono ?_; rintro e w' ⟨rfl, x, rfl⟩) | (go_at_call 13; refine (min_any _ _ _ _ _ ⟨by omega, by omega⟩ ⟨by omega, by omega⟩ ⟨by omega, by omega⟩ ⟨by omega, by omega⟩).mono ?_; rintro e w' ⟨rfl, x, rfl⟩) | (go_at_call 14; refine (max_any _ _ _ _ _ ⟨by omega, by omega⟩ ⟨by omega, by omega⟩ ⟨by omega, by omega⟩ ⟨by omega, by omega⟩).mono ?_; rintro e w' ⟨rfl, x, rfl⟩) | (go_at_call 15; refine (add_any _ _ _ _ _ ⟨by omega, by omega⟩ ⟨by omega, by omega⟩ ⟨by omega, by omega⟩ ⟨by omega, by omega⟩).mono ?_; rintro e w' ⟨rfl, x, rfl⟩))
      go_ret
      exact ⟨rfl, (by repeat (first | exact Exts.refl _ | apply Exts.alloc | apply Exts.wext | apply Exts.drew | apply Exts.drewN))⟩

set_option maxHeartbeats 4000000 in
theorem orders_same (a b e f : Int) (ia : I64 a) (ib : I64 b) (ie : I64 e) (if_ : I64 f) (w : World) (h1 : rOk a b = true) (h3 : rOk e f = true) :
    Calls Try.prog 4 #[.agg #[.int .i64 a, .int .i64 b], .agg #[.int .i64 a, .int .i64 b], .agg #[.int .i64 e, .int .i64 f]] w fun e w' => e = .returned (.bool true) ∧ Exts w w' := by
  obtain ⟨ia1, ia2⟩ := ia
  obtain ⟨ib1, ib2⟩ := ib
  obtain ⟨ie1, ie2⟩ := ie
  obtain ⟨if1, if2⟩ := if_
  obtain ⟨x1, x4, x5⟩ := orders_self a b h1
  obtain ⟨⟨⟨s1, s2⟩, k1⟩, m1⟩ : ∃ r, rAdd a b e f = r := ⟨_, rfl⟩
  have L1 := rAdd_lim a b e f
  rw [m1] at L1
  dsimp only at L1
  obtain ⟨L11, L12, L13, L14⟩ := L1
  have hsum : k1 = 0 → rCmp s1 s2 s1 s2 = 0 := fun e1 => (orders_add a b a b e f s1 s2 s1 s2 h1 h1 h3 (by rw [m1, e1]) (by rw [m1, e1])).trans x1
  obtain ⟨z, hz⟩ : ∃ z, rCmp a b e f = z := ⟨_, rfl⟩
  by_cases g1 : z ≤ 0
  · go_enter Try.func4, Try.ntmps4
    go_upto_region 15 with (first | (go_at_call 8; refine (small_any _).mono ?_; rintro e w' ⟨rfl, x, rfl⟩) | (go_at_call 11; refine (refRight_any _ _ _ ⟨by omega, by omega⟩ ⟨by omega, by omega⟩).mono ?_; rintro e w' ⟨rfl, x, rfl⟩) | (go_at_call 12; refine (compare_any _ _ _ _ _ ⟨by omega, by omega⟩ ⟨by omega, by omega⟩ ⟨by omega, by omega⟩ ⟨by omega, by omega⟩).mono ?_; rintro e w' ⟨rfl, x, rfl⟩) | (go_at_call 13; refine (min_any _ _ _ _ _ ⟨by omega, by omega⟩ ⟨by omega, by omega⟩ ⟨by omega, by omega⟩ ⟨by omega, by omega⟩).mono ?_; rintro e w' ⟨rfl, x, rfl⟩) | (go_at_call 14; refine (max_any _ _ _ _ _ ⟨by omega, by omega⟩ ⟨by omega, by omega⟩ ⟨by omega, by omega⟩ ⟨by omega, by omega⟩).mono ?_; rintro e w' ⟨rfl, x, rfl⟩) | (go_at_call 15; refine (add_any _ _ _ _ _ ⟨by omega, by omega⟩ ⟨by omega, by omega⟩ ⟨by omega, by omega⟩ ⟨by omega, by omega⟩).mono ?_; rintro e w' ⟨rfl, x, rfl⟩))
    by_cases z1 : k1 = 0
    · have y1 : (k1 != 0) = false := by simpa using z1
      have Hs := hsum z1
      go_wp2_with (first | (go_at_call 8; refine (small_any _).mono ?_; rintro e w' ⟨rfl, x, rfl⟩) | (go_at_call 11; refine (refRight_any _ _ _ ⟨by omega, by omega⟩ ⟨by omega, by omega⟩).mono ?_; rintro e w' ⟨rfl, x, rfl⟩) | (go_at_call 12; refine (compare_any _ _ _ _ _ ⟨by omega, by omega⟩ ⟨by omega, by omega⟩ ⟨by omega, by omega⟩ ⟨by omega, by omega⟩).mono ?_; rintro e w' ⟨rfl, x, rfl⟩) | (go_at_call 13; refine (min_any _ _ _ _ _ ⟨by omega, by omega⟩ ⟨by omega, by omega⟩ ⟨by omega, by omega⟩ ⟨by omega, by omega⟩).mono ?_; rintro e w' ⟨rfl, x, rfl⟩) | (go_at_call 14; refine (max_any _ _ _ _ _ ⟨by omega, by omega⟩ ⟨by omega, by omega⟩ ⟨by omega, by omega⟩ ⟨by omega, by omega⟩).mono ?_; rintro e w' ⟨rfl, x, rfl⟩) | (go_at_call 15; refine (add_any _ _ _ _ _ ⟨by omega, by omega⟩ ⟨by omega, by omega⟩ ⟨by omega, by omega⟩ ⟨by omega, by omega⟩).mono ?_; rintro e w' ⟨rfl, x, rfl⟩))
      go_ret
      exact ⟨rfl, (by repeat (first | exact Exts.refl _ | apply Exts.alloc | apply Exts.wext | apply Exts.drew | apply Exts.drewN))⟩
    · have y1 : (k1 != 0) = true := by simpa using z1
      go_wp2_with (first | (go_at_call 8; refine (small_any _).mono ?_; rintro e w' ⟨rfl, x, rfl⟩) | (go_at_call 11; refine (refRight_any _ _ _ ⟨by omega, by omega⟩ ⟨by omega, by omega⟩).mono ?_; rintro e w' ⟨rfl, x, rfl⟩) | (go_at_call 12; refine (compare_any _ _ _ _ _ ⟨by omega, by omega⟩ ⟨by omega, by omega⟩ ⟨by omega, by omega⟩ ⟨by omega, by omega⟩).mono ?_; rintro e w' ⟨rfl, x, rfl⟩) | (go_at_call 13; refine (min_any _ _ _ _ _ ⟨by omega, by omega⟩ ⟨by omega, by omega⟩ ⟨by omega, by omega⟩ ⟨by omega, by omega⟩).mono ?_; rintro e w' ⟨rfl, x, rfl⟩) | (go_at_call 14; refine (max_any _ _ _ _ _ ⟨by omega, by omega⟩ ⟨by omega, by omega⟩ ⟨by omega, by omega⟩ ⟨by omega, by omega⟩).mono ?_; rintro e w' ⟨rfl, x, rfl⟩) | (go_at_call 15; refine (add_any _ _ _ _ _ ⟨by omega, by omega⟩ ⟨by omega, by omega⟩ ⟨by omega, by omega⟩ ⟨by omega, by omega⟩).mono ?_; rintro e w' ⟨rfl, x, rfl⟩))
      go_ret
      exact ⟨rfl, (by repeat (first | exact Exts.refl _ | apply Exts.alloc | apply Exts.wext | apply Exts.drew | apply Exts.drewN))⟩
  · have g3 : decide (z ≤ 0) = false := by simpa using g1
    go_enter Try.func4, Try.ntmps4
    go_upto_region 15 with (first | (go_at_call 8; refine (small_any _).mono ?_; rintro e w' ⟨rfl, x, rfl⟩) | (go_at_call 11; refine (refRight_any _ _ _ ⟨by omega, by omega⟩ ⟨by omega, by omega⟩).mono ?_; rintro e w' ⟨rfl, x, rfl⟩) | (go_at_call 12; refine (compare_any _ _ _ _ _ ⟨by omega, by omega⟩ ⟨by omega, by omega⟩ ⟨by omega, by omega⟩ ⟨by omega, by omega⟩).mono ?_; rintro e w' ⟨rfl, x, rfl⟩) | (go_at_call 13; refine (min_any _ _ _ _ _ ⟨by omega, by omega⟩ ⟨by omega, by omega⟩ ⟨by omega, by omega⟩ ⟨by omega, by omega⟩).mono ?_; rintro e w' ⟨rfl, x, rfl⟩) | (go_at_call 14; refine (max_any _ _ _ _ _ ⟨by omega, by omega⟩ ⟨by omega, by omega⟩ ⟨by omega, by omega⟩ ⟨by omega, by omega⟩).mono ?_; rintro e w' ⟨rfl, x, rfl⟩) | (go_at_call 15; refine (add_any _ _ _ _ _ ⟨by omega, by omega⟩ ⟨by omega, by omega⟩ ⟨by omega, by omega⟩ ⟨by omega, by omega⟩).mono ?_; rintro e w' ⟨rfl, x, rfl⟩))
    by_cases z1 : k1 = 0
    · have y1 : (k1 != 0) = false := by simpa using z1
      have Hs := hsum z1
      go_wp2_with (first | (go_at_call 8; refine (small_any _).mono ?_; rintro e w' ⟨rfl, x, rfl⟩) | (go_at_call 11; refine (refRight_any _ _ _ ⟨by omega, by omega⟩ ⟨by omega, by omega⟩).mono ?_; rintro e w' ⟨rfl, x, rfl⟩) | (go_at_call 12; refine (compare_any _ _ _ _ _ ⟨by omega, by omega⟩ ⟨by omega, by omega⟩ ⟨by omega, by omega⟩ ⟨by omega, by omega⟩).mono ?_; rintro e w' ⟨rfl, x, rfl⟩) | (go_at_call 13; refine (min_any _ _ _ _ _ ⟨by omega, by omega⟩ ⟨by omega, by omega⟩ ⟨by omega, by omega⟩ ⟨by omega, by omega⟩).mono ?_; rintro e w' ⟨rfl, x, rfl⟩) | (go_at_call 14; refine (max_any _ _ _ _ _ ⟨by omega, by omega⟩ ⟨by omega, by omega⟩ ⟨by omega, by omega⟩ ⟨by omega, by omega⟩).mono ?_; rintro e w' ⟨rfl, x, rfl⟩) | (go_at_call 15; refine (add_any _ _ _ _ _ ⟨by omega, by omega⟩ ⟨by omega, by omega⟩ ⟨by omega, by omega⟩ ⟨by omega, by omega⟩).mono ?_; rintro e w' ⟨rfl, x, rfl⟩))
      go_ret
      exact ⟨rfl, (by repeat (first | exact Exts.refl _ | apply Exts.alloc | apply Exts.wext | apply Exts.drew | apply Exts.drewN))⟩
    · have y1 : (k1 != 0) = true := by simpa using z1
      go_wp2_with (first | (go_at_call 8; refine (small_any _).mono ?_; rintro e w' ⟨rfl, x, rfl⟩) | (go_at_call 11; refine (refRight_any _ _ _ ⟨by omega, by omega⟩ ⟨by omega, by omega⟩).mono ?_; rintro e w' ⟨rfl, x, rfl⟩) | (go_at_call 12; refine (compare_any _ _ _ _ _ ⟨by omega, by omega⟩ ⟨by omega, by omega⟩ ⟨by omega, by omega⟩ ⟨by omega, by omega⟩).mono ?_; rintro e w' ⟨rfl, x, rfl⟩) | (go_at_call 13; refine (min_any _ _ _ _ _ ⟨by omega, by omega⟩ ⟨by omega, by omega⟩ ⟨by omega, by omega⟩ ⟨by omega, by omega⟩).mono ?_; rintro e w' ⟨rfl, x, rfl⟩) | (go_at_call 14; refine (max_any _ _ _ _ _ ⟨by omega, by omega⟩ ⟨by omega, by omega⟩ ⟨by omega, by omega⟩ ⟨by omega, by omega⟩).mono ?_; rintro e w' ⟨rfl, x, rfl⟩) | (go_at_call 15; refine (add_any _ _ _ _ _ ⟨by omega, by omega⟩ ⟨by omega, by omega⟩ ⟨by omega, by omega⟩ ⟨by omega, by omega⟩).mono ?_; rintro e w' ⟨rfl, x, rfl⟩))
      go_ret
      exact ⟨rfl, (by repeat (first | exact Exts.refl _ | apply Exts.alloc | apply Exts.wext | apply Exts.drew | apply Exts.drewN))⟩

theorem orders_walk (a b c d e f : Int) (ia : I64 a) (ib : I64 b) (ic : I64 c) (id : I64 d) (ie : I64 e) (if_ : I64 f) (w : World) :
    Calls Try.prog 4 #[.agg #[.int .i64 a, .int .i64 b], .agg #[.int .i64 c, .int .i64 d], .agg #[.int .i64 e, .int .i64 f]] w fun e w' => e = .returned (.bool true) ∧ Exts w w' := by
  by_cases h : rOk a b = true ∧ rOk c d = true ∧ rOk e f = true
  · obtain ⟨h1, h2, h3⟩ := h
    rcases orders_two a b c d h1 h2 with ⟨_, rfl, rfl⟩ | ⟨x1, x2, x3, x4, x5⟩ | ⟨x1, x2, x3, x4, x5⟩
    · exact orders_same _ _ e f ia ib ie if_ w h1 h3
    · exact orders_less a b c d e f ia ib ic id ie if_ w h1 h2 h3 x1 x2 x3 x4 x5
    · exact orders_more a b c d e f ia ib ic id ie if_ w h1 h2 h3 x1 x2 x3 x4 x5
  · exact orders_no a b c d e f ia ib ic id ie if_ w h
end Go.Proofs.Ytklibgaigfjneaa
