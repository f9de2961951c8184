/- PrecedentAdds returns true for every input, and leaves its arguments alone. No conditions. -/
import Derived.Test.YtodgohilfbggjaaAddsLaw
import Derived.Test.YtodgohilfbggjaaM20
import Derived.Test.YtodgohilfbggjaaM6
namespace Go.Proofs.Ytodgohilfbggjaa
open Go.RowKit
set_option linter.unusedSimpArgs false
set_option linter.unusedVariables false

open Go.ChangeShapes Go.WideShapes Go.ChangeAt Go.Joins in
set_option maxRecDepth 100000 in
theorem precedentAdds_lifted (os : Os) (started : os.Started) (H : Type) (enc : TypeId × Value → H) :
    ReturnsInHanded {} Try.checked os 5 .any (Rows.precedentAddsSpec.pre6 enc Try.prog Try.f5 Rows.precedentAddsRow.domain false) (Rows.precedentAddsSpec.post enc Try.prog Try.f5 false true false false) := by
  refine returnsInHanded_of_change (C := Try.checked) own started (by kernel_rfl) Try.func5
    (ChangeSpec.witness6 (enc := enc) (C := Try.checked) false ⟨#[], #[.slice none 0 0, .slice none 0 0], []⟩ 8 (by kernel_rfl) (by kernel_rfl) (by kernel_rfl) (by kernel_rfl)) ?_
  intro W base args ds gs before hval0 hW hcnd _
  have hval : ∀ (j : Nat) t v, Try.f5.params[j]? = some t → args[j]? = some v → Value.okWide Try.prog W .any base t v := hval0
  have hW' := hW
  obtain ⟨p, q, hA0, hV, rfl, hfz, hnd⟩ := hW
  have hA : DataW.TrodAll enc Try.prog W 0 (fun _ => true) true Try.f5.params.toList args.toList ds p := hA0
  rw [Try.params5] at hA hval
  obtain ⟨v0, vs0, d0, ds0, p0, q0, hargs, rfl, rfl, h0, r0⟩ := trodAll_cons hA
  obtain ⟨v1, vs1, d1, ds1, p1, q1, rfl, rfl, rfl, h1, r1⟩ := trodAll_cons r0
  obtain ⟨rfl, rfl, rfl⟩ := trodAll_nil r1
  obtain rfl : args = #[v0, v1] := by cases args; simp_all
  obtain ⟨rfl, rfl⟩ := trodVars_none hV
  obtain ⟨ao0, na0, ca0, D0, rfl, hD0⟩ := open_dims (hval 0 22 v0 rfl rfl) h0
  obtain ⟨ao1, na1, ca1, B1, rfl, hB1⟩ := open_cases (hval 1 23 v1 rfl rfl) h1
  clear hA0 hval0
  refine (adds5 ao0 ao1 na0 ca0 na1 ca1 D0 B1 W hD0 hB1).mono fun e W' ⟨he, hx⟩ => ?_
  subst he
  exact ⟨_, rfl, law_post (T := 4) laidOut Try.underlying4 rfl rfl (by rw [Try.params5]; intro t ht; simp at ht; rcases ht with rfl | rfl <;> exact ⟨by kernel_rfl, of_decide_eq_true (by kernel_rfl)⟩) hW' rfl hx⟩

theorem precedentAdds_over : Rows.precedentAddsRow.holds Try.pinned (OpenSpec.ofChange Rows.precedentAddsSpec) :=
  OpenClaim.holds_of_wide 5 Try.f5 rfl rfl rfl rfl rfl rfl rfl ⟨rfl, rfl, rfl, rfl, rfl⟩ rfl rfl rfl rfl rfl (by kernel_rfl) Try.func5 (by kernel_rfl)
    (of_decide_eq_true (by kernel_rfl)) (by unfold Func.isWrapper; first | (rw [if_pos (by decide +kernel)]; kernel_rfl) | (rw [if_neg (by decide +kernel)]; exact ⟨rfl, rfl⟩))
    (fun os started H enc _ => precedentAdds_lifted os started H enc)

theorem precedentAdds_holds : Rows.PrecedentAddsSaid := precedentAdds_over
#print axioms precedentAdds_holds
end Go.Proofs.Ytodgohilfbggjaa
