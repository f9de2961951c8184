/- The plain laws of order: Compare, Min, Max and sums as the core library's rational numbers have them. No program in sight. -/
import Derived.Test.YtklibgaigfjneaaPlain
namespace Go.Proofs.Ytklibgaigfjneaa

theorem rCmp_rat (r s : Rat) (h1 : rOk r.num r.den = true) (h2 : rOk s.num s.den = true) : rCmp r.num r.den s.num s.den = if r < s then -1 else if s < r then 1 else 0 := by
  rw [rCmp, h1, h2]
  simp only [Bool.and_self, if_true, rCmp0, Rat.lt_iff]

theorem rMin_rat (r s : Rat) (h1 : rOk r.num r.den = true) (h2 : rOk s.num s.den = true) : rMin r.num r.den s.num s.den = if s < r then (s.num, (s.den : Int)) else (r.num, (r.den : Int)) := by
  rw [rMin, h1, h2]
  simp only [Bool.and_self, if_true, Rat.lt_iff]

theorem rMax_rat (r s : Rat) (h1 : rOk r.num r.den = true) (h2 : rOk s.num s.den = true) : rMax r.num r.den s.num s.den = if r < s then (s.num, (s.den : Int)) else (r.num, (r.den : Int)) := by
  rw [rMax, h1, h2]
  simp only [Bool.and_self, if_true, Rat.lt_iff]

theorem rat_lt_asymm {r s : Rat} (h : r < s) : ¬ s < r := fun h2 => Rat.lt_irrefl (show r < r from by
  rw [Rat.lt_iff_le_and_ne] at *
  exact absurd (Rat.le_antisymm h.1 h2.1) h.2)

theorem rat_eq_of_not_lt {r s : Rat} (h1 : ¬ r < s) (h2 : ¬ s < r) : r = s := Rat.le_antisymm (Rat.not_lt.1 h2) (Rat.not_lt.1 h1)

/-- What RatioOrders asks of two ratios. -/
theorem orders_two (a b c d : Int) (h1 : rOk a b = true) (h2 : rOk c d = true) :
    (rCmp a b c d = 0 ∧ c = a ∧ d = b) ∨
    (rCmp a b c d = -1 ∧ rCmp c d a b = 1 ∧ ¬ (a = c ∧ b = d) ∧ rMin a b c d = (a, b) ∧ rMax a b c d = (c, d)) ∨
    (rCmp a b c d = 1 ∧ rCmp c d a b = -1 ∧ ¬ (a = c ∧ b = d) ∧ rMin a b c d = (c, d) ∧ rMax a b c d = (a, b)) := by
  obtain ⟨r, rfl, rfl, _, _⟩ := rOk_rat h1
  obtain ⟨s, rfl, rfl, _, _⟩ := rOk_rat h2
  rw [rCmp_rat r s h1 h2, rCmp_rat s r h2 h1, rMin_rat r s h1 h2, rMax_rat r s h1 h2]
  by_cases l1 : r < s
  · have l2 := rat_lt_asymm l1
    refine .inr (.inl ⟨by rw [if_pos l1], by rw [if_neg l2, if_pos l1], ?_, by rw [if_neg l2], by rw [if_pos l1]⟩)
    rintro ⟨e1, e2⟩
    exact Rat.ne_of_lt l1 (rat_eq e1 e2)
  · by_cases l2 : s < r
    · refine .inr (.inr ⟨by rw [if_neg l1, if_pos l2], by rw [if_pos l2], ?_, by rw [if_pos l2], by rw [if_neg l1]⟩)
      rintro ⟨e1, e2⟩
      exact Rat.ne_of_lt l2 (rat_eq e1.symm e2.symm)
    · have e := rat_eq_of_not_lt l1 l2
      subst e
      exact .inl ⟨by rw [if_neg l1, if_neg l1], rfl, rfl⟩

theorem orders_self (a b : Int) (h1 : rOk a b = true) : rCmp a b a b = 0 ∧ rMin a b a b = (a, b) ∧ rMax a b a b = (a, b) := by
  obtain ⟨r, rfl, rfl, _, _⟩ := rOk_rat h1
  rw [rCmp_rat r r h1 h1, rMin_rat r r h1 h1, rMax_rat r r h1 h1, if_neg Rat.lt_irrefl, if_neg Rat.lt_irrefl, if_neg Rat.lt_irrefl]
  exact ⟨rfl, rfl, rfl⟩

theorem rCmp_le {r s : Rat} (h1 : rOk r.num r.den = true) (h2 : rOk s.num s.den = true) : rCmp r.num r.den s.num s.den ≤ 0 ↔ r ≤ s := by
  rw [rCmp_rat r s h1 h2]
  by_cases l1 : r < s
  · rw [if_pos l1]; exact ⟨fun _ => Rat.le_of_lt l1, fun _ => by omega⟩
  · rw [if_neg l1]
    by_cases l2 : s < r
    · rw [if_pos l2]; exact ⟨fun h => by omega, fun h => absurd h (by rw [Rat.not_le]; exact l2)⟩
    · rw [if_neg l2]; exact ⟨fun _ => Rat.not_lt.1 l2, fun _ => by omega⟩

theorem orders_trans (a b c d e f : Int) (h1 : rOk a b = true) (h2 : rOk c d = true) (h3 : rOk e f = true) (l1 : rCmp a b c d ≤ 0) (l2 : rCmp c d e f ≤ 0) : rCmp a b e f ≤ 0 := by
  obtain ⟨r, rfl, rfl, _, _⟩ := rOk_rat h1
  obtain ⟨s, rfl, rfl, _, _⟩ := rOk_rat h2
  obtain ⟨t, rfl, rfl, _, _⟩ := rOk_rat h3
  rw [rCmp_le h1 h2] at l1
  rw [rCmp_le h2 h3] at l2
  rw [rCmp_le h1 h3]
  exact Rat.le_trans l1 l2

theorem orders_add (a b c d e f p q p' q' : Int) (h1 : rOk a b = true) (h2 : rOk c d = true) (h3 : rOk e f = true) (m1 : rAdd a b e f = ((p, q), 0)) (m2 : rAdd c d e f = ((p', q'), 0)) : rCmp p q p' q' = rCmp a b c d := by
  obtain ⟨r, rfl, rfl, _, _⟩ := rOk_rat h1
  obtain ⟨s, rfl, rfl, _, _⟩ := rOk_rat h2
  obtain ⟨t, rfl, rfl, _, _⟩ := rOk_rat h3
  rw [rAdd_rat r t h1 h3] at m1
  rw [rAdd_rat s t h2 h3] at m2
  obtain ⟨rfl, rfl, k1⟩ := ofRat_inj m1
  obtain ⟨rfl, rfl, k2⟩ := ofRat_inj m2
  rw [rCmp_rat _ _ k1 k2, rCmp_rat _ _ h1 h2]
  simp only [Rat.add_lt_add_right]

theorem rAdd_lim (a b c d : Int) : -1073741824 ≤ (rAdd a b c d).1.1 ∧ (rAdd a b c d).1.1 ≤ 1073741824 ∧ 0 ≤ (rAdd a b c d).1.2 ∧ (rAdd a b c d).1.2 ≤ 1073741824 := by
  unfold rAdd
  split
  · exact rMake_bounds _ _
  · simp
theorem rMul_lim (a b c d : Int) : -1073741824 ≤ (rMul a b c d).1.1 ∧ (rMul a b c d).1.1 ≤ 1073741824 ∧ 0 ≤ (rMul a b c d).1.2 ∧ (rMul a b c d).1.2 ≤ 1073741824 := by
  unfold rMul
  split
  · exact rMake_bounds _ _
  · simp
end Go.Proofs.Ytklibgaigfjneaa
