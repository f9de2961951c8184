/- Relations of 12 values: two steps added until nothing changes; walks. Plain. -/
import Derived.Test.YtbafcfbchbjgfaaMat
namespace Go.Proofs.Ytbafcfbchbjgfaa
open Go.RowKit
set_option linter.unusedSimpArgs false
set_option linter.unusedVariables false

def stepR (h : Rel) : Rel := fun a c => h a c || (List.range 12).any fun b => h a b && h b c
def curR (h : Rel) (a b c : Nat) : Rel := fun x z => h x z || (List.range (if x < a then 12 else if x = a then (if z < c then b + 1 else b) else 0)).any fun y => h x y && h y z
theorem curR_zero (h : Rel) : curR h 0 0 0 = h := by
  funext x z
  simp only [curR]
  by_cases hx : x = 0
  · subst hx; simp
  · rw [if_neg (by omega), if_neg hx]; simp
theorem curR_next (h : Rel) (a b c : Nat) (v : Bool) (hv : v = (curR h a b c a c || (h a b && h b c))) : upd (curR h a b c) a c v = curR h a b (c + 1) := by
  subst hv
  funext x z
  unfold upd
  by_cases hx : x = a ∧ z = c
  · rw [if_pos hx]
    obtain ⟨rfl, rfl⟩ := hx
    simp only [curR, Nat.lt_irrefl, if_false, if_true, Nat.lt_succ_self]
    rw [List.range_succ, List.any_append, Bool.or_assoc]
    simp
  · rw [if_neg hx]
    simp only [curR]
    by_cases h1 : x = a
    · have hz : z ≠ c := fun hz => hx ⟨h1, hz⟩
      subst h1
      by_cases h2 : z < c
      · rw [if_pos h2, if_pos (by omega : z < c + 1)]
      · rw [if_neg h2, if_neg (by omega : ¬ z < c + 1)]
    · simp only [h1, if_false]
theorem curR_row (h : Rel) (a b : Nat) : matC (curR h a b 12) = matC (curR h a (b + 1) 0) := matC_inj fun x z hx hz => by
  simp only [curR, if_pos hz, Nat.not_lt_zero, if_false]
theorem curR_col (h : Rel) (a : Nat) : curR h a 12 0 = curR h (a + 1) 0 0 := by
  funext x z
  simp only [curR, Nat.not_lt_zero, if_false]
  by_cases h1 : x < a
  · rw [if_pos h1, if_pos (by omega)]
  · rw [if_neg h1]
    by_cases h2 : x = a
    · rw [if_pos h2, if_pos (by omega)]
    · rw [if_neg h2, if_neg (by omega)]
      by_cases h3 : x = a + 1
      · rw [if_pos h3]
      · rw [if_neg h3]
theorem curR_all (h : Rel) : matC (curR h 12 0 0) = matC (stepR h) := matC_inj fun x z hx hz => by
  simp only [curR, stepR, if_pos hx]

/-- Walks of exactly n pairs. -/
def Wk (f : Rel) (lo : Nat) : Nat → Nat → Nat → Prop
  | 0, a, b => a = b
  | n + 1, a, b => ∃ c, lo ≤ c ∧ c < 12 ∧ f a c = true ∧ Wk f lo n c b
theorem Wk.app {f : Rel} {lo : Nat} : ∀ {n m a b c : Nat}, Wk f lo n a b → Wk f lo m b c → Wk f lo (n + m) a c
  | 0, m, a, b, c, h, h2 => by
    have : a = b := h
    subst this
    rw [Nat.zero_add]
    exact h2
  | n + 1, m, a, b, c, ⟨d, h1, h2, h3, h4⟩, h5 => by
    rw [Nat.add_right_comm]
    exact ⟨d, h1, h2, h3, h4.app h5⟩
def Reach (f : Rel) (a b : Nat) : Prop := ∃ n, Wk f 0 (n + 1) a b
theorem Reach.one {f : Rel} {a b : Nat} (hb : b < 12) (h : f a b = true) : Reach f a b := ⟨0, b, Nat.zero_le _, hb, h, rfl⟩
theorem Reach.trans {f : Rel} {a b c : Nat} (h1 : Reach f a b) (h2 : Reach f b c) : Reach f a c := by
  obtain ⟨n, h1⟩ := h1
  obtain ⟨m, h2⟩ := h2
  exact ⟨n + 1 + m, by have := h1.app h2; rw [show n + 1 + m + 1 = n + 1 + (m + 1) by omega]; exact this⟩
/-- What a round keeps. -/
structure Between (f g : Rel) : Prop where
  lo : ∀ a b, a < 12 → b < 12 → f a b = true → g a b = true
  hi : ∀ a b, a < 12 → b < 12 → g a b = true → Reach f a b
theorem Between.refl (f : Rel) : Between f f := ⟨fun _ _ _ _ h => h, fun _ _ _ hb h => .one hb h⟩
theorem Between.step {f g : Rel} (h : Between f g) : Between f (stepR g) := by
  refine ⟨fun a b ha hb hf => ?_, fun a b ha hb hg => ?_⟩
  · simp [stepR, h.lo a b ha hb hf]
  · simp only [stepR, Bool.or_eq_true, List.any_eq_true, List.mem_range, Bool.and_eq_true] at hg
    rcases hg with hg | ⟨c, hc, h1, h2⟩
    · exact h.hi a b ha hb hg
    · exact (h.hi a c ha hc h1).trans (h.hi c b hc hb h2)
def Closed (g : Rel) : Prop := ∀ a b c, a < 12 → b < 12 → c < 12 → g a b = true → g b c = true → g a c = true
theorem closed_of_step {g h : Rel} (h1 : g = stepR h) (h2 : relEq h g = true) : Closed g := by
  subst h1
  have h2 := relEq_iff.1 h2
  intro a b c ha hb hc h3 h4
  rw [← h2 a b ha hb] at h3
  rw [← h2 b c hb hc] at h4
  simp only [stepR, Bool.or_eq_true, List.any_eq_true, List.mem_range, Bool.and_eq_true]
  exact .inr ⟨b, hb, h3, h4⟩
theorem closed_of_none {g : Rel} (h2 : relEq noRel g = true) : Closed g := by
  have h2 := relEq_iff.1 h2
  intro a b c ha hb hc h3 h4
  rw [← h2 a b ha hb] at h3
  cases h3
theorem wk_in {f g : Rel} (h : Between f g) (hc : Closed g) : ∀ (n a b : Nat), a < 12 → b < 12 → Wk f 0 (n + 1) a b → g a b = true
  | 0, a, b, ha, hb, ⟨c, _, hc, h1, h2⟩ => by
    have : c = b := h2
    subst this
    exact h.lo a c ha hc h1
  | n + 1, a, b, ha, hb, ⟨c, _, hc', h1, h2⟩ => hc a c b ha hc' hb (h.lo a c ha hc' h1) (wk_in h hc n c b hc' hb h2)
/-- The closure: exactly what is reached. -/
theorem between_closed {f g : Rel} (h : Between f g) (hc : Closed g) {a b : Nat} (ha : a < 12) (hb : b < 12) : g a b = true ↔ Reach f a b :=
  ⟨h.hi a b ha hb, fun ⟨n, hn⟩ => wk_in h hc n a b ha hb hn⟩
/-! How many pairs lack. -/
def zerosR (g : Rel) : Nat := ((List.range 144).filter fun i => !g (i / 12) (i % 12)).length
theorem filter_le {α : Type} {p q : α → Bool} : ∀ (l : List α), (∀ x ∈ l, p x = true → q x = true) → (l.filter p).length ≤ (l.filter q).length
  | [], _ => Nat.le_refl _
  | x :: l, h => by
    have ih := filter_le l fun y hy => h y (by simp [hy])
    rw [List.filter_cons, List.filter_cons]
    by_cases hp : p x = true
    · rw [if_pos hp, if_pos (h x (by simp) hp), List.length_cons, List.length_cons]
      omega
    · rw [if_neg hp]
      split
      · rw [List.length_cons]; omega
      · exact ih
theorem filter_lt {α : Type} {p q : α → Bool} : ∀ (l : List α), (∀ x ∈ l, p x = true → q x = true) → (∃ x ∈ l, p x = false ∧ q x = true) → (l.filter p).length < (l.filter q).length
  | [], _, ⟨x, hx, _⟩ => by simp at hx
  | x :: l, h, ⟨y, hy, h1, h2⟩ => by
    have ih := filter_le l fun y hy => h y (by simp [hy])
    rw [List.filter_cons, List.filter_cons]
    by_cases hxy : y = x
    · subst hxy
      rw [if_neg (by rw [h1]; simp), if_pos h2, List.length_cons]
      omega
    · have ih2 := filter_lt l (fun y hy => h y (by simp [hy])) ⟨y, by simpa [hxy] using hy, h1, h2⟩
      by_cases hp : p x = true
      · rw [if_pos hp, if_pos (h x (by simp) hp), List.length_cons, List.length_cons]
        omega
      · rw [if_neg hp]
        split
        · rw [List.length_cons]; omega
        · exact ih2
def leftR (g h : Rel) : Nat := 2 * zerosR g + if relEq h g = true then 0 else 1
theorem left_step {g h : Rel} (hne : relEq h g = false) : leftR (stepR g) g < leftR g h := by
  unfold leftR
  rw [hne]
  have hle : ∀ i ∈ List.range 144, (!stepR g (i / 12) (i % 12)) = true → (!g (i / 12) (i % 12)) = true := by
    intro i _ hi
    simp only [stepR, Bool.not_eq_true', Bool.or_eq_false_iff] at hi ⊢
    exact hi.1
  by_cases he : relEq g (stepR g) = true
  · rw [if_pos he]
    have := filter_le _ hle
    unfold zerosR
    simp only [Bool.false_eq_true, if_false]
    omega
  · rw [if_neg he]
    have : ∃ i ∈ List.range 144, (!stepR g (i / 12) (i % 12)) = false ∧ (!g (i / 12) (i % 12)) = true := by
      refine Classical.byContradiction fun hc => he (relEq_iff.2 fun a b ha hb => ?_)
      refine Classical.byContradiction fun hab => hc ⟨a * 12 + b, List.mem_range.2 (by omega), ?_⟩
      rw [show (a * 12 + b) / 12 = a by omega, show (a * 12 + b) % 12 = b by omega]
      cases hg : g a b with
      | true => exact absurd (by simp [stepR, hg]) hab
      | false =>
        rw [hg] at hab
        cases hs : stepR g a b with
        | true => exact ⟨rfl, rfl⟩
        | false => exact absurd hs.symm hab
    have := filter_lt _ hle this
    unfold zerosR
    simp only [Bool.false_eq_true, if_false]
    omega
end Go.Proofs.Ytbafcfbchbjgfaa
