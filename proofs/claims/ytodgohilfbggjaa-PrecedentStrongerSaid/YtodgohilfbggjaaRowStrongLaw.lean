/- PrecedentStronger returns true for every input, and leaves its arguments alone. No conditions. -/
import Derived.Test.YtodgohilfbggjaaStrongLaw
import Derived.Test.YtodgohilfbggjaaM20
import Derived.Test.YtodgohilfbggjaaM6
namespace Go.Proofs.Ytodgohilfbggjaa
open Go.RowKit
set_option linter.unusedSimpArgs false
set_option linter.unusedVariables false

open Go.ChangeShapes Go.WideShapes Go.ChangeAt Go.Joins in
set_option maxRecDepth 100000 in
theorem precedentStronger_lifted (os : Os) (started : os.Started) (H : Type) (enc : TypeId × Value → H) :
    ReturnsInHanded {} Try.checked os 8 .any (Rows.precedentStrongerSpec.pre6 enc Try.prog Try.f8 Rows.precedentStrongerRow.domain false) (Rows.precedentStrongerSpec.post enc Try.prog Try.f8 false true false false) := by
  refine returnsInHanded_of_change (C := Try.checked) own started (by kernel_rfl) Try.func8
    (ChangeSpec.witness6 (enc := enc) (C := Try.checked) false ⟨#[], #[.slice none 0 0, .slice none 0 0, .slice none 0 0, .slice none 0 0], []⟩ 8 (by kernel_rfl) (by kernel_rfl) (by kernel_rfl) (by kernel_rfl)) ?_
  intro W base args ds gs before hval0 hW hcnd _
  have hval : ∀ (j : Nat) t v, Try.f8.params[j]? = some t → args[j]? = some v → Value.okWide Try.prog W .any base t v := hval0
  have hW' := hW
  obtain ⟨p, q, hA0, hV, rfl, hfz, hnd⟩ := hW
  have hA : DataW.TrodAll enc Try.prog W 0 (fun _ => true) true Try.f8.params.toList args.toList ds p := hA0
  rw [Try.params8] at hA hval
  obtain ⟨v0, vs0, d0, ds0, p0, q0, hargs, rfl, rfl, h0, r0⟩ := trodAll_cons hA
  obtain ⟨v1, vs1, d1, ds1, p1, q1, rfl, rfl, rfl, h1, r1⟩ := trodAll_cons r0
  obtain ⟨v2, vs2, d2, ds2, p2, q2, rfl, rfl, rfl, h2, r2⟩ := trodAll_cons r1
  obtain ⟨v3, vs3, d3, ds3, p3, q3, rfl, rfl, rfl, h3, r3⟩ := trodAll_cons r2
  obtain ⟨rfl, rfl, rfl⟩ := trodAll_nil r3
  obtain rfl : args = #[v0, v1, v2, v3] := by cases args; simp_all
  obtain ⟨rfl, rfl⟩ := trodVars_none hV
  obtain ⟨ao0, na0, ca0, D0, rfl, hD0⟩ := open_dims (hval 0 22 v0 rfl rfl) h0
  obtain ⟨ao1, na1, ca1, B1, rfl, hB1⟩ := open_cases (hval 1 23 v1 rfl rfl) h1
  obtain ⟨ao2, na2, ca2, l2, rfl, hI2⟩ := open_il (hval 2 24 v2 rfl rfl) h2
  obtain ⟨ao3, na3, ca3, l3, rfl, hI3⟩ := open_il (hval 3 24 v3 rfl rfl) h3
  clear hA0 hval0
  refine (stronger8 ao0 ao1 ao2 ao3 na0 ca0 na1 ca1 na2 ca2 na3 ca3 D0 B1 l2 l3 W hD0 hB1 hI2 hI3).mono fun e W' ⟨he, hx⟩ => ?_
  subst he
  exact ⟨_, rfl, law_post (T := 4) laidOut Try.underlying4 rfl rfl (by rw [Try.params8]; intro t ht; simp at ht; rcases ht with rfl | rfl | rfl <;> exact ⟨by kernel_rfl, of_decide_eq_true (by kernel_rfl)⟩) hW' rfl hx⟩

theorem precedentStronger_over : Rows.precedentStrongerRow.holds Try.pinned (OpenSpec.ofChange Rows.precedentStrongerSpec) :=
  OpenClaim.holds_of_wide 8 Try.f8 rfl rfl rfl rfl rfl rfl rfl ⟨rfl, rfl, rfl, rfl, rfl⟩ rfl rfl rfl rfl rfl (by kernel_rfl) Try.func8 (by kernel_rfl)
    (of_decide_eq_true (by kernel_rfl)) (by unfold Func.isWrapper; first | (rw [if_pos (by decide +kernel)]; kernel_rfl) | (rw [if_neg (by decide +kernel)]; exact ⟨rfl, rfl⟩))
    (fun os started H enc _ => precedentStronger_lifted os started H enc)

theorem precedentStronger_holds : Rows.PrecedentStrongerSaid := precedentStronger_over
#print axioms precedentStronger_holds
end Go.Proofs.Ytodgohilfbggjaa
