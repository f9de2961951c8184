/- RatioLaws returns true for every input, and leaves its arguments alone. No conditions. -/
import Derived.Test.YtklibgaigfjneaaLawsAll
import Derived.Test.YtklibgaigfjneaaFrame
import Derived.Lib.SmallJoins
namespace Go.Proofs.Ytklibgaigfjneaa
open Go.RowKit
set_option linter.unusedSimpArgs false
set_option linter.unusedVariables false

open Go.ChangeShapes Go.WideShapes Go.ChangeAt Go.Joins in
set_option maxRecDepth 100000 in
theorem ratioLaws_lifted (os : Os) (started : os.Started) (H : Type) (enc : TypeId × Value → H) :
    ReturnsInHanded {} Try.checked os 5 .any (Rows.ratioLawsSpec.pre6 enc Try.prog Try.f5 Rows.ratioLawsRow.domain false) (Rows.ratioLawsSpec.post enc Try.prog Try.f5 false true false false) := by
  refine returnsInHanded_of_change (C := Try.checked) own started (by kernel_rfl) Try.func5
    (ChangeSpec.witness6 (enc := enc) (C := Try.checked) false ⟨#[], #[.agg #[.int .i64 0, .int .i64 0], .agg #[.int .i64 0, .int .i64 0], .agg #[.int .i64 0, .int .i64 0]], []⟩ 8 (by kernel_rfl) (by kernel_rfl) (by kernel_rfl) (by kernel_rfl)) ?_
  intro W base args ds gs before hval0 hW hcnd _
  have hval : ∀ (j : Nat) t v, Try.f5.params[j]? = some t → args[j]? = some v → Value.okWide Try.prog W .any base t v := hval0
  have hW' := hW
  obtain ⟨p, q, hA0, hV, rfl, hfz, hnd⟩ := hW
  have hA : DataW.TrodAll enc Try.prog W 0 (fun _ => true) true Try.f5.params.toList args.toList ds p := hA0
  rw [Try.params5] at hA hval
  obtain ⟨v0, vs0, d0, ds0, p0, q0, hargs, rfl, rfl, h0, r0⟩ := trodAll_cons hA
  obtain ⟨v1, vs1, d1, ds1, p1, q1, rfl, rfl, rfl, h1, r1⟩ := trodAll_cons r0
  obtain ⟨v2, vs2, d2, ds2, p2, q2, rfl, rfl, rfl, h2, r2⟩ := trodAll_cons r1
  obtain ⟨rfl, rfl, rfl⟩ := trodAll_nil r2
  obtain rfl : args = #[v0, v1, v2] := by cases args; simp_all
  obtain ⟨rfl, rfl⟩ := trodVars_none hV
  obtain ⟨e00, e01, y00, y01, m0, rfl, rfl, rfl, hy00, hy01⟩ := open_agg2 Try.underlying24 (by kernel_rfl) (by kernel_rfl) (hval 0 24 v0 rfl rfl) h0
  obtain ⟨a00, eq00, _, w00⟩ := DataW.trod_int Try.underlying3 hy00
  simp at eq00
  subst eq00
  obtain ⟨a01, eq01, _, w01⟩ := DataW.trod_int Try.underlying3 hy01
  simp at eq01
  subst eq01
  obtain ⟨e10, e11, y10, y11, m1, rfl, rfl, rfl, hy10, hy11⟩ := open_agg2 Try.underlying24 (by kernel_rfl) (by kernel_rfl) (hval 1 24 v1 rfl rfl) h1
  obtain ⟨a10, eq10, _, w10⟩ := DataW.trod_int Try.underlying3 hy10
  simp at eq10
  subst eq10
  obtain ⟨a11, eq11, _, w11⟩ := DataW.trod_int Try.underlying3 hy11
  simp at eq11
  subst eq11
  obtain ⟨e20, e21, y20, y21, m2, rfl, rfl, rfl, hy20, hy21⟩ := open_agg2 Try.underlying24 (by kernel_rfl) (by kernel_rfl) (hval 2 24 v2 rfl rfl) h2
  obtain ⟨a20, eq20, _, w20⟩ := DataW.trod_int Try.underlying3 hy20
  simp at eq20
  subst eq20
  obtain ⟨a21, eq21, _, w21⟩ := DataW.trod_int Try.underlying3 hy21
  simp at eq21
  subst eq21
  clear hA0 hval0
  refine (laws_walk a00 a01 a10 a11 a20 a21 (I64.of_wf w00) (I64.of_wf w01) (I64.of_wf w10) (I64.of_wf w11) (I64.of_wf w20) (I64.of_wf w21) W).mono fun e W' ⟨he, hx⟩ => ?_
  subst he
  exact ⟨_, rfl, law_post (T := 4) laidOut Try.underlying4 rfl rfl (by rw [Try.params5]; intro t ht; simp at ht; subst ht; exact ⟨by kernel_rfl, of_decide_eq_true (by kernel_rfl)⟩) hW' rfl hx⟩

theorem ratioLaws_over : Rows.ratioLawsRow.holds Try.pinned (OpenSpec.ofChange Rows.ratioLawsSpec) :=
  OpenClaim.holds_of_wide 5 Try.f5 rfl rfl rfl rfl rfl rfl rfl ⟨rfl, rfl, rfl, rfl, rfl⟩ rfl rfl rfl rfl rfl (by kernel_rfl) Try.func5 (by kernel_rfl)
    (of_decide_eq_true (by kernel_rfl)) (by unfold Func.isWrapper; first | (rw [if_pos (by decide +kernel)]; kernel_rfl) | (rw [if_neg (by decide +kernel)]; exact ⟨rfl, rfl⟩))
    (fun os started H enc _ => ratioLaws_lifted os started H enc)

theorem ratioLaws_holds : Rows.RatioLawsSaid := ratioLaws_over
#print axioms ratioLaws_holds
end Go.Proofs.Ytklibgaigfjneaa
