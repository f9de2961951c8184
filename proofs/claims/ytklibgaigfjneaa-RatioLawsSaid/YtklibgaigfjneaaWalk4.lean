/- Min and Max of package ratio, with their closures entered in place. Conditions: fields of arguments within 64 bits. -/
import Derived.Test.YtklibgaigfjneaaWalk2
namespace Go.Proofs.Ytklibgaigfjneaa
open Go.RowKit
set_option linter.unusedSimpArgs false
set_option linter.unusedVariables false


set_option maxHeartbeats 1000000 in
theorem min_any (a b c d : Int) (w : World) (ia : I64 a) (ib : I64 b) (ic : I64 c) (id : I64 d) :
    Calls Try.prog 13 #[.agg #[.int .i64 a, .int .i64 b], .agg #[.int .i64 c, .int .i64 d]] w fun e w' => e = .returned (.agg #[.int .i64 (rMin a b c d).1, .int .i64 (rMin a b c d).2]) ∧ Exts w w' := by
  obtain ⟨ia1, ia2⟩ := ia
  obtain ⟨ib1, ib2⟩ := ib
  obtain ⟨ic1, ic2⟩ := ic
  obtain ⟨id1, id2⟩ := id
  cases ha : rOk a b
  · have hr : rMin a b c d = (0, 0) := by simp [rMin, ha]
    have Hr := Lib.hid hr
    clear hr
    go_enter Try.func13, Try.ntmps13
    go_wp2_with (first | (go_at_call 10; refine (right_any _ _ _ (by omega) (by omega) (by omega) (by omega)).mono ?_; rintro e w' ⟨rfl, x, rfl⟩) | go_in)
    exact bodyPost_ret (v := .agg #[.int .i64 (rMin a b c d).1, .int .i64 (rMin a b c d).2]) (by rw [Hr.out]; simp [results, go_sem]) rfl ⟨rfl, (by repeat (first | exact Exts.refl _ | apply Exts.alloc | apply Exts.wext | apply Exts.drew | apply Exts.drewN))⟩
  · cases hc : rOk c d
    · have hr : rMin a b c d = (0, 0) := by simp [rMin, hc]
      have Hr := Lib.hid hr
      clear hr
      go_enter Try.func13, Try.ntmps13
      go_wp2_with (first | (go_at_call 10; refine (right_any _ _ _ (by omega) (by omega) (by omega) (by omega)).mono ?_; rintro e w' ⟨rfl, x, rfl⟩) | go_in)
      exact bodyPost_ret (v := .agg #[.int .i64 (rMin a b c d).1, .int .i64 (rMin a b c d).2]) (by rw [Hr.out]; simp [results, go_sem]) rfl ⟨rfl, (by repeat (first | exact Exts.refl _ | apply Exts.alloc | apply Exts.wext | apply Exts.drew | apply Exts.drewN))⟩
    · have ha' := ha
      have hc' := hc
      rw [rOk_iff] at ha' hc'
      obtain ⟨a1, a2, a3, a4, _⟩ := ha'
      obtain ⟨c1, c2, c3, c4, _⟩ := hc'
      have X := mul_lim a3 a4 (by omega) c2
      have Y := mul_lim c3 c4 (by omega) a2
      obtain ⟨x, hx⟩ : ∃ x, a * d = x := ⟨_, rfl⟩
      obtain ⟨y, hy⟩ : ∃ y, c * b = y := ⟨_, rfl⟩
      rw [hx] at X
      rw [hy] at Y
      obtain ⟨X1, X2⟩ := X
      obtain ⟨Y1, Y2⟩ := Y
      have hr0 : rMin a b c d = if y < x then (c, d) else (a, b) := by simp [rMin, ha, hc, hx, hy]
      by_cases t1 : y < x
      · have hr : rMin a b c d = (c, d) := by simp [hr0, t1]
        have Hr := Lib.hid hr
        clear hr hr0
        go_enter Try.func13, Try.ntmps13
        go_wp2_with (first | (go_at_call 10; refine (right_any _ _ _ (by omega) (by omega) (by omega) (by omega)).mono ?_; rintro e w' ⟨rfl, x, rfl⟩) | go_in)
        go_end0
        go_wp2
        exact bodyPost_ret (v := .agg #[.int .i64 (rMin a b c d).1, .int .i64 (rMin a b c d).2]) (by rw [Hr.out]; simp [results, go_sem]) rfl ⟨rfl, (by repeat (first | exact Exts.refl _ | apply Exts.alloc | apply Exts.wext | apply Exts.drew | apply Exts.drewN))⟩
      · have hr : rMin a b c d = (a, b) := by simp [hr0, t1]
        have b1 : decide (y < x) = false := by simpa using t1
        have Hr := Lib.hid hr
        clear hr hr0
        go_enter Try.func13, Try.ntmps13
        go_wp2_with (first | (go_at_call 10; refine (right_any _ _ _ (by omega) (by omega) (by omega) (by omega)).mono ?_; rintro e w' ⟨rfl, x, rfl⟩) | go_in)
        go_end0
        go_wp2
        exact bodyPost_ret (v := .agg #[.int .i64 (rMin a b c d).1, .int .i64 (rMin a b c d).2]) (by rw [Hr.out]; simp [results, go_sem]) rfl ⟨rfl, (by repeat (first | exact Exts.refl _ | apply Exts.alloc | apply Exts.wext | apply Exts.drew | apply Exts.drewN))⟩

theorem min_eq (a b c d p q : Int) (w : World) (h : rMin a b c d = (p, q)) (ia : I64 a) (ib : I64 b) (ic : I64 c) (id : I64 d) :
    Calls Try.prog 13 #[.agg #[.int .i64 a, .int .i64 b], .agg #[.int .i64 c, .int .i64 d]] w fun e w' => e = .returned (.agg #[.int .i64 p, .int .i64 q]) ∧ Exts w w' := by
  have hm := min_any a b c d w ia ib ic id
  rw [h] at hm
  exact hm

set_option maxHeartbeats 1000000 in
theorem max_any (a b c d : Int) (w : World) (ia : I64 a) (ib : I64 b) (ic : I64 c) (id : I64 d) :
    Calls Try.prog 14 #[.agg #[.int .i64 a, .int .i64 b], .agg #[.int .i64 c, .int .i64 d]] w fun e w' => e = .returned (.agg #[.int .i64 (rMax a b c d).1, .int .i64 (rMax a b c d).2]) ∧ Exts w w' := by
  obtain ⟨ia1, ia2⟩ := ia
  obtain ⟨ib1, ib2⟩ := ib
  obtain ⟨ic1, ic2⟩ := ic
  obtain ⟨id1, id2⟩ := id
  cases ha : rOk a b
  · have hr : rMax a b c d = (0, 0) := by simp [rMax, ha]
    have Hr := Lib.hid hr
    clear hr
    go_enter Try.func14, Try.ntmps14
    go_wp2_with (first | (go_at_call 10; refine (right_any _ _ _ (by omega) (by omega) (by omega) (by omega)).mono ?_; rintro e w' ⟨rfl, x, rfl⟩) | go_in)
    exact bodyPost_ret (v := .agg #[.int .i64 (rMax a b c d).1, .int .i64 (rMax a b c d).2]) (by rw [Hr.out]; simp [results, go_sem]) rfl ⟨rfl, (by repeat (first | exact Exts.refl _ | apply Exts.alloc | apply Exts.wext | apply Exts.drew | apply Exts.drewN))⟩
  · cases hc : rOk c d
    · have hr : rMax a b c d = (0, 0) := by simp [rMax, hc]
      have Hr := Lib.hid hr
      clear hr
      go_enter Try.func14, Try.ntmps14
      go_wp2_with (first | (go_at_call 10; refine (right_any _ _ _ (by omega) (by omega) (by omega) (by omega)).mono ?_; rintro e w' ⟨rfl, x, rfl⟩) | go_in)
      exact bodyPost_ret (v := .agg #[.int .i64 (rMax a b c d).1, .int .i64 (rMax a b c d).2]) (by rw [Hr.out]; simp [results, go_sem]) rfl ⟨rfl, (by repeat (first | exact Exts.refl _ | apply Exts.alloc | apply Exts.wext | apply Exts.drew | apply Exts.drewN))⟩
    · have ha' := ha
      have hc' := hc
      rw [rOk_iff] at ha' hc'
      obtain ⟨a1, a2, a3, a4, _⟩ := ha'
      obtain ⟨c1, c2, c3, c4, _⟩ := hc'
      have X := mul_lim a3 a4 (by omega) c2
      have Y := mul_lim c3 c4 (by omega) a2
      obtain ⟨x, hx⟩ : ∃ x, a * d = x := ⟨_, rfl⟩
      obtain ⟨y, hy⟩ : ∃ y, c * b = y := ⟨_, rfl⟩
      rw [hx] at X
      rw [hy] at Y
      obtain ⟨X1, X2⟩ := X
      obtain ⟨Y1, Y2⟩ := Y
      have hr0 : rMax a b c d = if x < y then (c, d) else (a, b) := by simp [rMax, ha, hc, hx, hy]
      by_cases t1 : x < y
      · have hr : rMax a b c d = (c, d) := by simp [hr0, t1]
        have Hr := Lib.hid hr
        clear hr hr0
        go_enter Try.func14, Try.ntmps14
        go_wp2_with (first | (go_at_call 10; refine (right_any _ _ _ (by omega) (by omega) (by omega) (by omega)).mono ?_; rintro e w' ⟨rfl, x, rfl⟩) | go_in)
        go_end0
        go_wp2
        exact bodyPost_ret (v := .agg #[.int .i64 (rMax a b c d).1, .int .i64 (rMax a b c d).2]) (by rw [Hr.out]; simp [results, go_sem]) rfl ⟨rfl, (by repeat (first | exact Exts.refl _ | apply Exts.alloc | apply Exts.wext | apply Exts.drew | apply Exts.drewN))⟩
      · have hr : rMax a b c d = (a, b) := by simp [hr0, t1]
        have b1 : decide (x < y) = false := by simpa using t1
        have Hr := Lib.hid hr
        clear hr hr0
        go_enter Try.func14, Try.ntmps14
        go_wp2_with (first | (go_at_call 10; refine (right_any _ _ _ (by omega) (by omega) (by omega) (by omega)).mono ?_; rintro e w' ⟨rfl, x, rfl⟩) | go_in)
        go_end0
        go_wp2
        exact bodyPost_ret (v := .agg #[.int .i64 (rMax a b c d).1, .int .i64 (rMax a b c d).2]) (by rw [Hr.out]; simp [results, go_sem]) rfl ⟨rfl, (by repeat (first | exact Exts.refl _ | apply Exts.alloc | apply Exts.wext | apply Exts.drew | apply Exts.drewN))⟩

theorem max_eq (a b c d p q : Int) (w : World) (h : rMax a b c d = (p, q)) (ia : I64 a) (ib : I64 b) (ic : I64 c) (id : I64 d) :
    Calls Try.prog 14 #[.agg #[.int .i64 a, .int .i64 b], .agg #[.int .i64 c, .int .i64 d]] w fun e w' => e = .returned (.agg #[.int .i64 p, .int .i64 q]) ∧ Exts w w' := by
  have hm := max_any a b c d w ia ib ic id
  rw [h] at hm
  exact hm
end Go.Proofs.Ytklibgaigfjneaa
