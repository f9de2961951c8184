/- What is reached by exactly so many pairs, as FactorCircles computes it. Plain. -/
import Derived.Test.YtbafcfbchbjgfaaCirclesPlain
namespace Go.Proofs.Ytbafcfbchbjgfaa
open Go.RowKit
set_option linter.unusedSimpArgs false
set_option linter.unusedVariables false

theorem wk_last {f : Rel} {lo : Nat} : ∀ {n a b : Nat}, Wk f lo (n + 1) a b ↔ ∃ u, Wk f lo n a u ∧ f u b = true ∧ lo ≤ b ∧ b < 12
  | 0, a, b => by
    constructor
    · rintro ⟨c, h1, h2, h3, h4⟩
      have : c = b := h4
      subst this
      exact ⟨a, rfl, h3, h1, h2⟩
    · rintro ⟨u, h1, h2, h3, h4⟩
      have : a = u := h1
      subst this
      exact ⟨b, h3, h4, h2, rfl⟩
  | n + 1, a, b => by
    constructor
    · rintro ⟨c, h1, h2, h3, h4⟩
      obtain ⟨u, g1, g2⟩ := wk_last.1 h4
      exact ⟨u, ⟨c, h1, h2, h3, g1⟩, g2⟩
    · rintro ⟨u, ⟨c, h1, h2, h3, h4⟩, g⟩
      exact ⟨c, h1, h2, h3, wk_last.2 ⟨u, h4, g⟩⟩
open Classical in
/-- Reached from s by exactly n pairs. -/
noncomputable def nowN (f : Rel) (s n x : Nat) : Bool := decide (Wk f 0 n s x)
theorem nowN_iff {f : Rel} {s n x : Nat} : nowN f s n x = true ↔ Wk f 0 n s x := by simp [nowN]
theorem nowN_zero (f : Rel) (s x : Nat) : nowN f s 0 x = decide (x = s) := by
  rw [Bool.eq_iff_iff, nowN_iff, decide_eq_true_eq]
  exact ⟨fun h => (show s = x from h).symm, fun h => h.symm⟩
/-- After k pairs of the list. -/
noncomputable def nextK (ps : List Pr) (now : Nat → Bool) (k : Nat) (y : Nat) : Bool := (ps.take k).any fun p => p.2 == (y : Int) && now p.1.toNat
theorem nextK_next (ps : List Pr) (now : Nat → Bool) (k u v : Nat) (h : ps[k]? = some ((u : Int), (v : Int))) (y : Nat) : nextK ps now (k + 1) y = (if y = v then nextK ps now k y || now u else nextK ps now k y) := by
  unfold nextK
  rw [List.take_add_one, h, List.any_append]
  by_cases hy : y = v
  · rw [if_pos hy]
    simp [hy]
  · rw [if_neg hy]
    have : ((v : Int) == (y : Int)) = false := by simp; omega
    simp [this]
theorem next_all (ps : List Pr) (s n y : Nat) (hin : ∀ p ∈ ps, 0 ≤ p.1 ∧ 0 ≤ p.2 ∧ p.2 < 12) : nextK ps (nowN (pairRel ps) s n) ps.length y = nowN (pairRel ps) s (n + 1) y := by
  rw [Bool.eq_iff_iff, nowN_iff, wk_last]
  unfold nextK
  rw [List.take_of_length_le (Nat.le_refl _)]
  simp only [List.any_eq_true, Bool.and_eq_true, beq_iff_eq, nowN_iff]
  constructor
  · rintro ⟨p, hp, h1, h2⟩
    have := hin p hp
    refine ⟨p.1.toNat, h2, ?_, Nat.zero_le _, by omega⟩
    simp only [pairRel, List.any_eq_true, Bool.and_eq_true, beq_iff_eq]
    exact ⟨p, hp, by omega, h1⟩
  · rintro ⟨u, h1, h2, _, h3⟩
    simp only [pairRel, List.any_eq_true, Bool.and_eq_true, beq_iff_eq] at h2
    obtain ⟨p, hp, e1, e2⟩ := h2
    exact ⟨p, hp, e2, by rw [e1]; simpa using h1⟩
end Go.Proofs.Ytbafcfbchbjgfaa
