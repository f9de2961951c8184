/- RatioMakes returns true for every input, and leaves its arguments alone. No conditions. -/
import Derived.Test.YtklibgaigfjneaaSmall
import Derived.Test.YtklibgaigfjneaaPlain
import Derived.Test.YtklibgaigfjneaaFrame
namespace Go.Proofs.Ytklibgaigfjneaa
open Go.RowKit
set_option linter.unusedSimpArgs false
set_option linter.unusedVariables false

attribute [local go_sem] rRes
set_option maxHeartbeats 1000000 in
set_option maxRecDepth 100000 in
theorem makes_walk (n d k : Int) (in_ : I64 n) (id : I64 d) (ik : I64 k) (w : World) :
    Calls Try.prog 3 #[.int .i64 n, .int .i64 d, .int .i64 k] w fun e w' => e = .returned (.bool true) ∧ Exts w w' := by
  obtain ⟨in1, in2⟩ := in_
  obtain ⟨id1, id2⟩ := id
  obtain ⟨ik1, ik2⟩ := ik
  by_cases c1 : n < -1073741824
  · go_enter Try.func3, Try.ntmps3
    go_wp2_with (first | (go_at_call 8; refine (small_any _).mono ?_; rintro e w' ⟨rfl, x, rfl⟩) | (go_at_call 9; refine (make_any _ _ _ (by omega) (by omega) (by omega) (by omega)).mono ?_; rintro e w' ⟨rfl, x, rfl⟩) | (go_at_call 10; refine (right_any _ _ _ (by omega) (by omega) (by omega) (by omega)).mono ?_; rintro e w' ⟨rfl, x, rfl⟩))
    go_ret
    exact ⟨rfl, (by repeat (first | exact Exts.refl _ | apply Exts.alloc | apply Exts.wext | apply Exts.drew | apply Exts.drewN))⟩
  have b1 : decide (n < -1073741824) = false := by simpa using c1
  by_cases c2 : 1073741824 < n
  · go_enter Try.func3, Try.ntmps3
    go_wp2_with (first | (go_at_call 8; refine (small_any _).mono ?_; rintro e w' ⟨rfl, x, rfl⟩) | (go_at_call 9; refine (make_any _ _ _ (by omega) (by omega) (by omega) (by omega)).mono ?_; rintro e w' ⟨rfl, x, rfl⟩) | (go_at_call 10; refine (right_any _ _ _ (by omega) (by omega) (by omega) (by omega)).mono ?_; rintro e w' ⟨rfl, x, rfl⟩))
    go_ret
    exact ⟨rfl, (by repeat (first | exact Exts.refl _ | apply Exts.alloc | apply Exts.wext | apply Exts.drew | apply Exts.drewN))⟩
  have b2 : decide (1073741824 < n) = false := by simpa using c2
  by_cases c3 : d < -1073741824
  · go_enter Try.func3, Try.ntmps3
    go_wp2_with (first | (go_at_call 8; refine (small_any _).mono ?_; rintro e w' ⟨rfl, x, rfl⟩) | (go_at_call 9; refine (make_any _ _ _ (by omega) (by omega) (by omega) (by omega)).mono ?_; rintro e w' ⟨rfl, x, rfl⟩) | (go_at_call 10; refine (right_any _ _ _ (by omega) (by omega) (by omega) (by omega)).mono ?_; rintro e w' ⟨rfl, x, rfl⟩))
    go_ret
    exact ⟨rfl, (by repeat (first | exact Exts.refl _ | apply Exts.alloc | apply Exts.wext | apply Exts.drew | apply Exts.drewN))⟩
  have b3 : decide (d < -1073741824) = false := by simpa using c3
  by_cases c4 : 1073741824 < d
  · go_enter Try.func3, Try.ntmps3
    go_wp2_with (first | (go_at_call 8; refine (small_any _).mono ?_; rintro e w' ⟨rfl, x, rfl⟩) | (go_at_call 9; refine (make_any _ _ _ (by omega) (by omega) (by omega) (by omega)).mono ?_; rintro e w' ⟨rfl, x, rfl⟩) | (go_at_call 10; refine (right_any _ _ _ (by omega) (by omega) (by omega) (by omega)).mono ?_; rintro e w' ⟨rfl, x, rfl⟩))
    go_ret
    exact ⟨rfl, (by repeat (first | exact Exts.refl _ | apply Exts.alloc | apply Exts.wext | apply Exts.drew | apply Exts.drewN))⟩
  have b4 : decide (1073741824 < d) = false := by simpa using c4
  by_cases c5 : d = 0
  · subst c5
    have m0 : rMake n 0 = ((0, 0), 1) := by simp [rMake]
    go_enter Try.func3, Try.ntmps3
    go_wp2_with (first | (go_at_call 8; refine (small_any _).mono ?_; rintro e w' ⟨rfl, x, rfl⟩) | (go_at_call 9; refine (make_any _ _ _ (by omega) (by omega) (by omega) (by omega)).mono ?_; rintro e w' ⟨rfl, x, rfl⟩) | (go_at_call 10; refine (right_any _ _ _ (by omega) (by omega) (by omega) (by omega)).mono ?_; rintro e w' ⟨rfl, x, rfl⟩))
    go_ret
    exact ⟨rfl, (by repeat (first | exact Exts.refl _ | apply Exts.alloc | apply Exts.wext | apply Exts.drew | apply Exts.drewN))⟩
  have b5 : (d == 0) = false := by simpa using c5
  obtain ⟨p, q, m1, m2, m3⟩ := makes_one n d (by omega) (by omega) (by omega) (by omega) c5
  have m2' := m2
  rw [rOk_iff] at m2'
  obtain ⟨q1, q2, p1, p2, _⟩ := m2'
  have hk2 := fun h : k ≠ 0 => (makes_two n d k h c5).trans m1
  have L1 := mul_lim' p1 p2 (show -1073741824 ≤ d by omega) (by omega)
  obtain ⟨z, hz⟩ : ∃ z, p * d = z := ⟨_, rfl⟩
  have hz2 : n * q = z := by rw [← m3, hz]
  clear m3
  rw [hz] at L1
  obtain ⟨L1, L2⟩ := L1
  by_cases c6 : k = 0
  · subst c6
    clear hk2
    go_enter Try.func3, Try.ntmps3
    go_wp2_with (first | (go_at_call 8; refine (small_any _).mono ?_; rintro e w' ⟨rfl, x, rfl⟩) | (go_at_call 9; refine (make_any _ _ _ (by omega) (by omega) (by omega) (by omega)).mono ?_; rintro e w' ⟨rfl, x, rfl⟩) | (go_at_call 10; refine (right_any _ _ _ (by omega) (by omega) (by omega) (by omega)).mono ?_; rintro e w' ⟨rfl, x, rfl⟩))
    go_ret
    exact ⟨rfl, (by repeat (first | exact Exts.refl _ | apply Exts.alloc | apply Exts.wext | apply Exts.drew | apply Exts.drewN))⟩
  have b6 : (k == 0) = false := by simpa using c6
  by_cases c7 : k < -1073741824
  · clear hk2
    go_enter Try.func3, Try.ntmps3
    go_wp2_with (first | (go_at_call 8; refine (small_any _).mono ?_; rintro e w' ⟨rfl, x, rfl⟩) | (go_at_call 9; refine (make_any _ _ _ (by omega) (by omega) (by omega) (by omega)).mono ?_; rintro e w' ⟨rfl, x, rfl⟩) | (go_at_call 10; refine (right_any _ _ _ (by omega) (by omega) (by omega) (by omega)).mono ?_; rintro e w' ⟨rfl, x, rfl⟩))
    go_ret
    exact ⟨rfl, (by repeat (first | exact Exts.refl _ | apply Exts.alloc | apply Exts.wext | apply Exts.drew | apply Exts.drewN))⟩
  have b7 : decide (k < -1073741824) = false := by simpa using c7
  by_cases c8 : 1073741824 < k
  · clear hk2
    go_enter Try.func3, Try.ntmps3
    go_wp2_with (first | (go_at_call 8; refine (small_any _).mono ?_; rintro e w' ⟨rfl, x, rfl⟩) | (go_at_call 9; refine (make_any _ _ _ (by omega) (by omega) (by omega) (by omega)).mono ?_; rintro e w' ⟨rfl, x, rfl⟩) | (go_at_call 10; refine (right_any _ _ _ (by omega) (by omega) (by omega) (by omega)).mono ?_; rintro e w' ⟨rfl, x, rfl⟩))
    go_ret
    exact ⟨rfl, (by repeat (first | exact Exts.refl _ | apply Exts.alloc | apply Exts.wext | apply Exts.drew | apply Exts.drewN))⟩
  have b8 : decide (1073741824 < k) = false := by simpa using c8
  have m4 := hk2 c6
  clear hk2
  have L3 := mul_lim' (show -1073741824 ≤ n by omega) (by omega) (show -1073741824 ≤ k by omega) (by omega)
  have L4 := mul_lim' (show -1073741824 ≤ d by omega) (by omega) (show -1073741824 ≤ k by omega) (by omega)
  obtain ⟨x, hx⟩ : ∃ x, n * k = x := ⟨_, rfl⟩
  obtain ⟨y, hy⟩ : ∃ y, d * k = y := ⟨_, rfl⟩
  rw [hx] at L3
  rw [hy] at L4
  rw [hx, hy] at m4
  obtain ⟨L3, L5⟩ := L3
  obtain ⟨L4, L6⟩ := L4
  go_enter Try.func3, Try.ntmps3
  go_wp2_with (first | (go_at_call 8; refine (small_any _).mono ?_; rintro e w' ⟨rfl, x, rfl⟩) | (go_at_call 9; refine (make_any _ _ _ (by omega) (by omega) (by omega) (by omega)).mono ?_; rintro e w' ⟨rfl, x, rfl⟩) | (go_at_call 10; refine (right_any _ _ _ (by omega) (by omega) (by omega) (by omega)).mono ?_; rintro e w' ⟨rfl, x, rfl⟩))
  go_ret
  exact ⟨rfl, (by repeat (first | exact Exts.refl _ | apply Exts.alloc | apply Exts.wext | apply Exts.drew | apply Exts.drewN))⟩

open Go.ChangeShapes Go.WideShapes Go.ChangeAt in
set_option maxRecDepth 100000 in
theorem makes_lifted (os : Os) (started : os.Started) (H : Type) (enc : TypeId × Value → H) :
    ReturnsInHanded {} Try.checked os 3 .any (Rows.ratioMakesSpec.pre6 enc Try.prog Try.f3 Rows.ratioMakesRow.domain false) (Rows.ratioMakesSpec.post enc Try.prog Try.f3 false true false false) := by
  refine returnsInHanded_of_change (C := Try.checked) own started (by kernel_rfl) Try.func3
    (ChangeSpec.witness6 (enc := enc) (C := Try.checked) false ⟨#[], #[.int .i64 0, .int .i64 0, .int .i64 0], []⟩ 8 (by kernel_rfl) (by kernel_rfl) (by kernel_rfl) (by kernel_rfl)) ?_
  intro W base args ds gs before hval0 hW hcnd _
  have hval : ∀ (j : Nat) t v, Try.f3.params[j]? = some t → args[j]? = some v → Value.okWide Try.prog W .any base t v := hval0
  have hW' := hW
  obtain ⟨p, q, hA0, hV, rfl, hfz, hnd⟩ := hW
  have hA : DataW.TrodAll enc Try.prog W 0 (fun _ => true) true Try.f3.params.toList args.toList ds p := hA0
  rw [Try.params3] at hA hval
  obtain ⟨v0, vs0, d0, ds0, p0, q0, hargs, rfl, rfl, h0, r0⟩ := trodAll_cons hA
  obtain ⟨v1, vs1, d1, ds1, p1, q1, rfl, rfl, rfl, h1, r1⟩ := trodAll_cons r0
  obtain ⟨v2, vs2, d2, ds2, p2, q2, rfl, rfl, rfl, h2, r2⟩ := trodAll_cons r1
  obtain ⟨rfl, rfl, rfl⟩ := trodAll_nil r2
  obtain rfl : args = #[v0, v1, v2] := by cases args; simp_all
  obtain ⟨rfl, rfl⟩ := trodVars_none hV
  obtain ⟨a0, rfl, rfl, rfl, w0⟩ := open_int Try.underlying3 (hval 0 3 v0 rfl rfl) h0
  obtain ⟨a1, rfl, rfl, rfl, w1⟩ := open_int Try.underlying3 (hval 1 3 v1 rfl rfl) h1
  obtain ⟨a2, rfl, rfl, rfl, w2⟩ := open_int Try.underlying3 (hval 2 3 v2 rfl rfl) h2
  clear hA0 hval0
  refine (makes_walk a0 a1 a2 (I64.of_wf w0) (I64.of_wf w1) (I64.of_wf w2) W).mono fun e W' ⟨he, hx⟩ => ?_
  subst he
  exact ⟨_, rfl, law_post (T := 4) laidOut Try.underlying4 rfl rfl (by rw [Try.params3]; intro t ht; simp at ht; subst ht; exact ⟨by kernel_rfl, of_decide_eq_true (by kernel_rfl)⟩) hW' rfl hx⟩

theorem makes_over : Rows.ratioMakesRow.holds Try.pinned (OpenSpec.ofChange Rows.ratioMakesSpec) :=
  OpenClaim.holds_of_wide 3 Try.f3 rfl rfl rfl rfl rfl rfl rfl ⟨rfl, rfl, rfl, rfl, rfl⟩ rfl rfl rfl rfl rfl (by kernel_rfl) Try.func3 (by kernel_rfl)
    (of_decide_eq_true (by kernel_rfl)) (by unfold Func.isWrapper; first | (rw [if_pos (by decide +kernel)]; kernel_rfl) | (rw [if_neg (by decide +kernel)]; exact ⟨rfl, rfl⟩))
    (fun os started H enc _ => makes_lifted os started H enc)

theorem ratioMakes_holds : Rows.RatioMakesSaid := makes_over
#print axioms ratioMakes_holds
end Go.Proofs.Ytklibgaigfjneaa
