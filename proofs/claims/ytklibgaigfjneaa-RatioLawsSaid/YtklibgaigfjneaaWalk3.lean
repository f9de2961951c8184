/- Add and Mul of package ratio, with their closures entered in place. Conditions: fields of arguments within 64 bits. -/
import Derived.Test.YtklibgaigfjneaaWalk2
namespace Go.Proofs.Ytklibgaigfjneaa
open Go.RowKit
set_option linter.unusedSimpArgs false
set_option linter.unusedVariables false

theorem mul_lim' {a d : Int} (h1 : -1073741824 ≤ a) (h2 : a ≤ 1073741824) (h3 : -1073741824 ≤ d) (h4 : d ≤ 1073741824) : -1152921504606846976 ≤ a * d ∧ a * d ≤ 1152921504606846976 := by
  rcases Int.le_total 0 d with h | h
  · exact mul_lim h1 h2 h h4
  · have := mul_lim (show -1073741824 ≤ -a by omega) (by omega) (show 0 ≤ -d by omega) (by omega)
    rwa [Int.neg_mul_neg] at this


set_option maxHeartbeats 1000000 in
theorem add_any (a b c d : Int) (w : World) (ia : I64 a) (ib : I64 b) (ic : I64 c) (id : I64 d) :
    Calls Try.prog 15 #[.agg #[.int .i64 a, .int .i64 b], .agg #[.int .i64 c, .int .i64 d]] w fun e w' => e = .returned (rRes (rAdd a b c d)) ∧ Exts w w' := by
  obtain ⟨ia1, ia2⟩ := ia
  obtain ⟨ib1, ib2⟩ := ib
  obtain ⟨ic1, ic2⟩ := ic
  obtain ⟨id1, id2⟩ := id
  cases ha : rOk a b
  · have hr : rAdd a b c d = ((0, 0), 1) := by simp [rAdd, ha]
    have Hr := Lib.hid hr
    clear hr
    go_enter Try.func15, Try.ntmps15
    go_wp2_with (first | (go_at_call 10; refine (right_any _ _ _ (by omega) (by omega) (by omega) (by omega)).mono ?_; rintro e w' ⟨rfl, x, rfl⟩) | go_in)
    exact bodyPost_ret (v := rRes (rAdd a b c d)) (by rw [Hr.out]; simp [results, go_sem, rRes]) rfl ⟨rfl, (by repeat (first | exact Exts.refl _ | apply Exts.alloc | apply Exts.wext | apply Exts.drew | apply Exts.drewN))⟩
  · cases hc : rOk c d
    · have hr : rAdd a b c d = ((0, 0), 1) := by simp [rAdd, hc]
      have Hr := Lib.hid hr
      clear hr
      go_enter Try.func15, Try.ntmps15
      go_wp2_with (first | (go_at_call 10; refine (right_any _ _ _ (by omega) (by omega) (by omega) (by omega)).mono ?_; rintro e w' ⟨rfl, x, rfl⟩) | go_in)
      exact bodyPost_ret (v := rRes (rAdd a b c d)) (by rw [Hr.out]; simp [results, go_sem, rRes]) rfl ⟨rfl, (by repeat (first | exact Exts.refl _ | apply Exts.alloc | apply Exts.wext | apply Exts.drew | apply Exts.drewN))⟩
    · have ha' := ha
      have hc' := hc
      rw [rOk_iff] at ha' hc'
      obtain ⟨a1, a2, a3, a4, _⟩ := ha'
      obtain ⟨c1, c2, c3, c4, _⟩ := hc'
      have X := mul_lim a3 a4 (by omega) c2
      have Y := mul_lim c3 c4 (by omega) a2
      obtain ⟨x, hx⟩ : ∃ x, a * d = x := ⟨_, rfl⟩
      obtain ⟨y, hy⟩ : ∃ y, c * b = y := ⟨_, rfl⟩
      rw [hx] at X
      rw [hy] at Y
      obtain ⟨X1, X2⟩ := X
      obtain ⟨Y1, Y2⟩ := Y
      have Z := mul_lim (show -1073741824 ≤ b by omega) a2 (by omega) c2
      obtain ⟨z, hz⟩ : ∃ z, b * d = z := ⟨_, rfl⟩
      rw [hz] at Z
      obtain ⟨Z1, Z2⟩ := Z
      skip
      obtain ⟨⟨⟨p, q⟩, k⟩, hm⟩ : ∃ r, rMake (x + y) z = r := ⟨_, rfl⟩
      have hr : rAdd a b c d = ((p, q), k) := by simp [rAdd, ha, hc, hx, hy, hz, hm]
      have Hm := Lib.hid hm
      have Hr := Lib.hid hr
      clear hm hr
      go_enter Try.func15, Try.ntmps15
      go_wp2_with (first | (go_at_call 10; refine (right_any _ _ _ (by omega) (by omega) (by omega) (by omega)).mono ?_; rintro e w' ⟨rfl, x, rfl⟩) | (go_at_call 9; refine (make_eq _ _ p q k _ Hm.out (by omega) (by omega) (by omega) (by omega)).mono ?_; rintro e w' ⟨rfl, x, rfl⟩) | go_in)
      go_end0
      go_wp2
      go_region
      all_goals go_wp2
      all_goals exact bodyPost_ret (v := rRes (rAdd a b c d)) (by rw [Hr.out]; simp [results, go_sem, rRes]) rfl ⟨rfl, (by repeat (first | exact Exts.refl _ | apply Exts.alloc | apply Exts.wext | apply Exts.drew | apply Exts.drewN))⟩

theorem add_eq (a b c d p q k : Int) (w : World) (h : rAdd a b c d = ((p, q), k)) (ia : I64 a) (ib : I64 b) (ic : I64 c) (id : I64 d) :
    Calls Try.prog 15 #[.agg #[.int .i64 a, .int .i64 b], .agg #[.int .i64 c, .int .i64 d]] w fun e w' => e = .returned (.tuple #[.agg #[.int .i64 p, .int .i64 q], .int .i64 k]) ∧ Exts w w' := by
  have hm := add_any a b c d w ia ib ic id
  rw [h] at hm
  exact hm

set_option maxHeartbeats 1000000 in
theorem mul_any (a b c d : Int) (w : World) (ia : I64 a) (ib : I64 b) (ic : I64 c) (id : I64 d) :
    Calls Try.prog 16 #[.agg #[.int .i64 a, .int .i64 b], .agg #[.int .i64 c, .int .i64 d]] w fun e w' => e = .returned (rRes (rMul a b c d)) ∧ Exts w w' := by
  obtain ⟨ia1, ia2⟩ := ia
  obtain ⟨ib1, ib2⟩ := ib
  obtain ⟨ic1, ic2⟩ := ic
  obtain ⟨id1, id2⟩ := id
  cases ha : rOk a b
  · have hr : rMul a b c d = ((0, 0), 1) := by simp [rMul, ha]
    have Hr := Lib.hid hr
    clear hr
    go_enter Try.func16, Try.ntmps16
    go_wp2_with (first | (go_at_call 10; refine (right_any _ _ _ (by omega) (by omega) (by omega) (by omega)).mono ?_; rintro e w' ⟨rfl, x, rfl⟩) | go_in)
    exact bodyPost_ret (v := rRes (rMul a b c d)) (by rw [Hr.out]; simp [results, go_sem, rRes]) rfl ⟨rfl, (by repeat (first | exact Exts.refl _ | apply Exts.alloc | apply Exts.wext | apply Exts.drew | apply Exts.drewN))⟩
  · cases hc : rOk c d
    · have hr : rMul a b c d = ((0, 0), 1) := by simp [rMul, hc]
      have Hr := Lib.hid hr
      clear hr
      go_enter Try.func16, Try.ntmps16
      go_wp2_with (first | (go_at_call 10; refine (right_any _ _ _ (by omega) (by omega) (by omega) (by omega)).mono ?_; rintro e w' ⟨rfl, x, rfl⟩) | go_in)
      exact bodyPost_ret (v := rRes (rMul a b c d)) (by rw [Hr.out]; simp [results, go_sem, rRes]) rfl ⟨rfl, (by repeat (first | exact Exts.refl _ | apply Exts.alloc | apply Exts.wext | apply Exts.drew | apply Exts.drewN))⟩
    · have ha' := ha
      have hc' := hc
      rw [rOk_iff] at ha' hc'
      obtain ⟨a1, a2, a3, a4, _⟩ := ha'
      obtain ⟨c1, c2, c3, c4, _⟩ := hc'
      have X := mul_lim a3 a4 (by omega) c2
      have Y := mul_lim c3 c4 (by omega) a2
      obtain ⟨x, hx⟩ : ∃ x, a * d = x := ⟨_, rfl⟩
      obtain ⟨y, hy⟩ : ∃ y, c * b = y := ⟨_, rfl⟩
      rw [hx] at X
      rw [hy] at Y
      obtain ⟨X1, X2⟩ := X
      obtain ⟨Y1, Y2⟩ := Y
      have Z := mul_lim (show -1073741824 ≤ b by omega) a2 (by omega) c2
      obtain ⟨z, hz⟩ : ∃ z, b * d = z := ⟨_, rfl⟩
      rw [hz] at Z
      obtain ⟨Z1, Z2⟩ := Z
      have V := mul_lim' a3 a4 c3 c4
      obtain ⟨v, hv⟩ : ∃ v, a * c = v := ⟨_, rfl⟩
      rw [hv] at V
      obtain ⟨V1, V2⟩ := V
      obtain ⟨⟨⟨p, q⟩, k⟩, hm⟩ : ∃ r, rMake v z = r := ⟨_, rfl⟩
      have hr : rMul a b c d = ((p, q), k) := by simp [rMul, ha, hc, hx, hy, hz, hv, hm]
      have Hm := Lib.hid hm
      have Hr := Lib.hid hr
      clear hm hr
      go_enter Try.func16, Try.ntmps16
      go_wp2_with (first | (go_at_call 10; refine (right_any _ _ _ (by omega) (by omega) (by omega) (by omega)).mono ?_; rintro e w' ⟨rfl, x, rfl⟩) | (go_at_call 9; refine (make_eq _ _ p q k _ Hm.out (by omega) (by omega) (by omega) (by omega)).mono ?_; rintro e w' ⟨rfl, x, rfl⟩) | go_in)
      go_end0
      go_wp2
      go_region
      all_goals go_wp2
      all_goals exact bodyPost_ret (v := rRes (rMul a b c d)) (by rw [Hr.out]; simp [results, go_sem, rRes]) rfl ⟨rfl, (by repeat (first | exact Exts.refl _ | apply Exts.alloc | apply Exts.wext | apply Exts.drew | apply Exts.drewN))⟩

theorem mul_eq (a b c d p q k : Int) (w : World) (h : rMul a b c d = ((p, q), k)) (ia : I64 a) (ib : I64 b) (ic : I64 c) (id : I64 d) :
    Calls Try.prog 16 #[.agg #[.int .i64 a, .int .i64 b], .agg #[.int .i64 c, .int .i64 d]] w fun e w' => e = .returned (.tuple #[.agg #[.int .i64 p, .int .i64 q], .int .i64 k]) ∧ Exts w w' := by
  have hm := mul_any a b c d w ia ib ic id
  rw [h] at hm
  exact hm
end Go.Proofs.Ytklibgaigfjneaa
