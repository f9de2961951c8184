/- Prefix sums and their greatest, in plain Lean. -/
import Derived.Test.YtnpjagodbnpahaaPeak
namespace Go.Proofs.Ytnpjagodbnpahaa
open Go.RowKit
set_option linter.unusedSimpArgs false
set_option linter.unusedVariables false

def Bd (l : List Int) : Prop := l.length ≤ 100 ∧ ∀ n ∈ l, -1099511627776 ≤ n ∧ n ≤ 1099511627776
def rsum (l : List Int) (k : Nat) : Int := (l.take k).sum
theorem rsum_succ (l : List Int) (k : Nat) (n : Int) (h : l[k]? = some n) : rsum l (k + 1) = rsum l k + n := by
  unfold rsum
  rw [List.take_add_one, h]
  simp
theorem psum_bd {l : List Int} (h : Bd l) : ∀ k, k ≤ l.length → psum l k = rsum l k ∧ -(1099511627776 * (k : Int)) ≤ rsum l k ∧ rsum l k ≤ 1099511627776 * (k : Int) := by
  intro k
  induction k with
  | zero => intro _; simp [psum_zero, rsum]
  | succ k ih =>
    intro hk
    obtain ⟨e, h1, h2⟩ := ih (by omega)
    have hn : l[k]? = some l[k] := List.getElem?_eq_getElem (by omega)
    obtain ⟨b1, b2⟩ := h.2 l[k] (List.getElem_mem _)
    have hl := h.1
    rw [psum_succ l k _ hn, rsum_succ l k _ hn, e]
    refine ⟨IntWalk.wrap64_in _ ⟨by omega, by omega⟩, by omega, by omega⟩
theorem pmax_ge (l : List Int) : ∀ k i, i ≤ k → psum l i ≤ pmax l k := by
  intro k
  induction k with
  | zero => intro i hi; obtain rfl : i = 0 := by omega
            simp [psum_zero, pmax]
  | succ k ih =>
    intro i hi
    unfold pmax
    by_cases hik : i ≤ k
    · have := ih i hik
      split <;> omega
    · obtain rfl : i = k + 1 := by omega
      split <;> omega
theorem pmax_is (l : List Int) : ∀ k, ∃ i, i ≤ k ∧ pmax l k = psum l i := by
  intro k
  induction k with
  | zero => exact ⟨0, by omega, rfl⟩
  | succ k ih =>
    obtain ⟨i, hi, e⟩ := ih
    unfold pmax
    split
    · exact ⟨k + 1, by omega, rfl⟩
    · exact ⟨i, by omega, e⟩
theorem pmax_nonneg (l : List Int) (k : Nat) : 0 ≤ pmax l k := by
  have := pmax_ge l k 0 (by omega)
  rwa [psum_zero] at this
theorem pmax_le_bd {l : List Int} (h : Bd l) : pmax l l.length ≤ 109951162777600 := by
  obtain ⟨i, hi, e⟩ := pmax_is l l.length
  obtain ⟨e2, _, h2⟩ := psum_bd h i hi
  have := h.1
  omega
theorem step_sub (l : List Int) (k : Nat) (n : Int) (h : l[k]? = some n) (hn : -9223372036854775808 ≤ n ∧ n ≤ 9223372036854775807) : wrap64 (psum l (k + 1) - psum l k) = n := by
  rw [psum_succ l k n h]
  unfold wrap64
  omega

def fnd (l : List Int) (k : Nat) : Bool := (List.range k).any fun i => psum l i == pmax l l.length
theorem fnd_succ (l : List Int) (k : Nat) : fnd l (k + 1) = (fnd l k || psum l k == pmax l l.length) := by
  unfold fnd
  rw [List.range_succ, List.any_append]
  simp
theorem fnd_all (l : List Int) : fnd l (l.length + 1) = true := by
  obtain ⟨i, hi, e⟩ := pmax_is l l.length
  unfold fnd
  rw [List.any_eq_true]
  exact ⟨i, by simp; omega, by rw [e]; simp⟩

theorem Bd.left {l m : List Int} (h : Bd (l ++ m)) : Bd l := by
  refine ⟨?_, fun n hn => h.2 n (by simp [hn])⟩
  have := h.1
  rw [List.length_append] at this
  omega
theorem Bd.right {l m : List Int} (h : Bd (l ++ m)) : Bd m := by
  refine ⟨?_, fun n hn => h.2 n (by simp [hn])⟩
  have := h.1
  rw [List.length_append] at this
  omega
theorem rsum_left (l m : List Int) (k : Nat) (h : k ≤ l.length) : rsum (l ++ m) k = rsum l k := by
  unfold rsum
  rw [List.take_append_of_le_length h]
theorem rsum_right (l m : List Int) (k : Nat) : rsum (l ++ m) (l.length + k) = rsum l l.length + rsum m k := by
  unfold rsum
  rw [List.take_append, List.take_of_length_le (by omega), List.take_length, List.sum_append]
  congr 2
  congr 1
  omega
theorem peak_left {l m : List Int} (h : Bd (l ++ m)) : pmax l l.length ≤ pmax (l ++ m) (l ++ m).length := by
  obtain ⟨i, hi, e⟩ := pmax_is l l.length
  have h1 := psum_bd h.left i hi
  have hlen : (l ++ m).length = l.length + m.length := List.length_append
  have h2 := psum_bd h i (by omega)
  have h3 := pmax_ge (l ++ m) (l ++ m).length i (by omega)
  rw [e, h1.1, ← rsum_left l m i hi, ← h2.1]
  exact h3
theorem peak_both {l m : List Int} (h : Bd (l ++ m)) : pmax (l ++ m) (l ++ m).length ≤ pmax l l.length + pmax m m.length := by
  obtain ⟨i, hi, e⟩ := pmax_is (l ++ m) (l ++ m).length
  have hlen : (l ++ m).length = l.length + m.length := List.length_append
  have h2 := psum_bd h i hi
  have hm := pmax_nonneg m m.length
  by_cases hil : i ≤ l.length
  · have h1 := psum_bd h.left i hil
    have h3 := pmax_ge l l.length i hil
    rw [e, h2.1, rsum_left l m i hil, ← h1.1]
    omega
  · obtain ⟨j, rfl⟩ : ∃ j, i = l.length + j := ⟨i - l.length, by omega⟩
    have h1 := psum_bd h.left l.length (Nat.le_refl _)
    have h3 := pmax_ge l l.length l.length (Nat.le_refl _)
    have h4 := psum_bd h.right j (by omega)
    have h5 := pmax_ge m m.length j (by omega)
    rw [e, h2.1, rsum_right]
    omega
end Go.Proofs.Ytnpjagodbnpahaa
