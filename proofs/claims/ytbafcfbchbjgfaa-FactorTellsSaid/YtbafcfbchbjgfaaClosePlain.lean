/- The closure of a relation, and of a dimension. Plain. -/
import Derived.Test.YtbafcfbchbjgfaaDim
namespace Go.Proofs.Ytbafcfbchbjgfaa
open Go.RowKit
set_option linter.unusedSimpArgs false
set_option linter.unusedVariables false

open Classical in
/-- What is reached by one or more pairs. -/
noncomputable def clR (f : Rel) : Rel := fun a b => decide (Reach f a b)
theorem clR_iff {f : Rel} {a b : Nat} : clR f a b = true ↔ Reach f a b := by simp [clR]
theorem clR_mat {f g : Rel} (h : Between f g) (hc : Closed g) : matC g = matC (clR f) := matC_inj fun a b ha hb => by
  rw [Bool.eq_iff_iff, between_closed h hc ha hb, clR_iff]
theorem clR_at {f g : Rel} (h : Between f g) (hc : Closed g) {a b : Nat} (ha : a < 12) (hb : b < 12) : clR f a b = g a b := by
  rw [Bool.eq_iff_iff, between_closed h hc ha hb, clR_iff]
def cycB (g : Rel) : Bool := (List.range 12).any fun a => g a a
/-- A relation, and the first so many values related to themselves. -/
def diagR (g : Rel) (k : Nat) : Rel := fun a b => g a b || (a == b && decide (a < k))
theorem diagR_zero (g : Rel) : diagR g 0 = g := by
  funext a b
  simp [diagR]
theorem diagR_next (g : Rel) (k : Nat) : upd (diagR g k) k k true = diagR g (k + 1) := by
  funext a b
  unfold upd diagR
  by_cases h : a = k ∧ b = k
  · rw [if_pos h]
    obtain ⟨rfl, rfl⟩ := h
    simp
  · rw [if_neg h]
    by_cases hab : a = b
    · subst hab
      have : a ≠ k := fun hc => h ⟨hc, hc⟩
      have : decide (a < k) = decide (a < k + 1) := by
        rw [decide_eq_decide]
        omega
      rw [this]
    · rw [show (a == b) = false by simpa using hab, Bool.false_and, Bool.false_and]
/-- A dimension: its closure, if it is valid and has no circle. -/
noncomputable def closedD (V : Int) (ps : List Pr) : Rel × Bool := if validB V ps = true ∧ cycB (clR (pairRel ps)) = false then (diagR (clR (pairRel ps)) V.toNat, true) else (noRel, false)
theorem closed_yes {V : Int} {ps : List Pr} (h1 : validB V ps = true) (h2 : cycB (clR (pairRel ps)) = false) : closedD V ps = (diagR (clR (pairRel ps)) V.toNat, true) := if_pos ⟨h1, h2⟩
theorem closed_no {V : Int} {ps : List Pr} (h : validB V ps = false ∨ cycB (clR (pairRel ps)) = true) : closedD V ps = (noRel, false) := if_neg (by
  rintro ⟨h1, h2⟩
  rcases h with h | h
  · rw [h1] at h; cases h
  · rw [h2] at h; cases h)
end Go.Proofs.Ytbafcfbchbjgfaa
