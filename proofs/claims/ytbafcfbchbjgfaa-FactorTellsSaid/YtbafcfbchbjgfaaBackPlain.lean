/- The least way back, value by value and length by length. Plain. -/
import Derived.Test.YtbafcfbchbjgfaaStepsPlain
import Derived.Test.YtbafcfbchbjgfaaLawPlain
import Derived.Test.YtbafcfbchbjgfaaPair
import Derived.Deep.OwnRows
namespace Go.Proofs.Ytbafcfbchbjgfaa
open Go.RowKit
set_option linter.unusedSimpArgs false
set_option linter.unusedVariables false

/-- What has been looked at: all lengths up to m for values below k, the lengths below n for k. -/
def Looked (m k n s j : Nat) : Prop := 1 ≤ j ∧ (s < k ∧ j ≤ m ∨ s = k ∧ j < n)
structure BackTo (f : Rel) (m k n bk : Nat) : Prop where
  le : bk ≤ m
  none : bk = 0 → ∀ s j, Looked m k n s j → ¬ Wk f 0 j s s
  some : bk ≠ 0 → (∃ s, s < m ∧ Wk f 0 bk s s) ∧ ∀ s j, Looked m k n s j → Wk f 0 j s s → bk ≤ j
theorem back_start (f : Rel) (m : Nat) : BackTo f m 0 1 0 :=
  ⟨Nat.zero_le _, fun _ s j h => by obtain ⟨h1, h2⟩ := h; omega, fun h => absurd rfl h⟩
theorem back_next {f : Rel} {m k bk : Nat} (h : BackTo f m k (m + 1) bk) : BackTo f m (k + 1) 1 bk := by
  have key : ∀ s j, Looked m (k + 1) 1 s j → Looked m k (m + 1) s j := fun s j ⟨h1, h2⟩ => ⟨h1, by omega⟩
  exact ⟨h.le, fun h0 s j hl => h.none h0 s j (key s j hl), fun h0 => ⟨(h.some h0).1, fun s j hl => (h.some h0).2 s j (key s j hl)⟩⟩
theorem back_end {f : Rel} {m bk : Nat} (h : BackTo f m m 1 bk) : BackIs f m bk := by
  have key : ∀ s j, s < m → 1 ≤ j → j ≤ m → Looked m m 1 s j := fun s j h1 h2 h3 => ⟨h2, .inl ⟨h1, h3⟩⟩
  exact ⟨fun h0 s j h1 h2 h3 => h.none h0 s j (key s j h1 h2 h3), fun h0 => ⟨(h.some h0).1, fun s j h1 h2 h3 => (h.some h0).2 s j (key s j h1 h2 h3)⟩⟩
theorem looked_next {m k n s j : Nat} (h : Looked m k (n + 1) s j) : Looked m k n s j ∨ (s = k ∧ j = n) := by
  obtain ⟨h1, h2⟩ := h
  by_cases hj : s = k ∧ j = n
  · exact .inr hj
  · exact .inl ⟨h1, by omega⟩
theorem back_set {f : Rel} {m k n bk : Nat} (h : BackTo f m k n bk) (hk : k < m) (hn : n ≤ m) (h1 : 1 ≤ n) (hw : nowN f k n k = true) (hb : bk = 0 ∨ n < bk) : BackTo f m k (n + 1) n := by
  refine ⟨hn, fun h0 => by omega, fun _ => ⟨⟨k, hk, nowN_iff.1 hw⟩, fun s j hl hj => ?_⟩⟩
  rcases looked_next hl with hl | ⟨_, rfl⟩
  · by_cases h0 : bk = 0
    · exact absurd hj (h.none h0 s j hl)
    · have := (h.some h0).2 s j hl hj
      omega
  · exact Nat.le_refl _
theorem back_keep {f : Rel} {m k n bk : Nat} (h : BackTo f m k n bk) (hw : nowN f k n k = false ∨ (bk ≠ 0 ∧ bk ≤ n)) : BackTo f m k (n + 1) bk := by
  refine ⟨h.le, fun h0 s j hl hj => ?_, fun h0 => ⟨(h.some h0).1, fun s j hl hj => ?_⟩⟩
  · rcases looked_next hl with hl | ⟨rfl, rfl⟩
    · exact h.none h0 s j hl hj
    · rcases hw with hw | ⟨hw, _⟩
      · rw [nowN_iff.2 hj] at hw; cases hw
      · exact hw h0
  · rcases looked_next hl with hl | ⟨rfl, rfl⟩
    · exact (h.some h0).2 s j hl hj
    · rcases hw with hw | ⟨_, hw⟩
      · rw [nowN_iff.2 hj] at hw; cases hw
      · exact hw
theorem info4b : (Try.prog.info? 4).map (fun i => (i.zero, i.size, i.bytes)) = some (some (.bool false), 1, 1) := by kernel_rfl
def updB (g : Nat → Bool) (i : Nat) (v : Bool) : Nat → Bool := fun y => if y = i then v else g y
/-- A row of so many bools. -/
def boolC (g : Nat → Bool) (m : Nat) : Array Value := ((List.range m).map fun i => .bool (g i)).toArray
@[simp, go_sem] theorem boolC_size (g : Nat → Bool) (m : Nat) : (boolC g m).size = m := by simp [boolC]
@[go_sem] theorem boolC_get (g : Nat → Bool) (m i : Nat) (h : i < m) : (boolC g m)[i]? = some (.bool (g i)) := by simp [boolC, h]
@[simp, go_sem] theorem boolC_elem (g : Nat → Bool) (m i : Nat) (h : i < (boolC g m).size) : (boolC g m)[i] = .bool (g i) := by simp [boolC]
@[go_sem] theorem boolC_set (g : Nat → Bool) (m i : Nat) (v : Bool) : (boolC g m).setIfInBounds i (.bool v) = boolC (updB g i v) m := by
  apply Array.ext_getElem?
  intro y
  rw [Array.getElem?_setIfInBounds]
  by_cases hi : i = y
  · subst hi
    rw [if_pos rfl]
    by_cases h : i < m
    · rw [if_pos (by simpa using h), boolC_get _ _ _ h]
      simp [updB]
    · rw [if_neg (by simpa using h), Array.getElem?_eq_none (by simpa using Nat.le_of_not_lt h)]
  · rw [if_neg hi]
    by_cases h : y < m
    · rw [boolC_get _ _ _ h, boolC_get _ _ _ h]
      unfold updB
      rw [if_neg (fun hc => hi hc.symm)]
    · rw [Array.getElem?_eq_none (by simpa using Nat.le_of_not_lt h), Array.getElem?_eq_none (by simpa using Nat.le_of_not_lt h)]
theorem boolC_ext {g g' : Nat → Bool} {m : Nat} (h : ∀ i, i < m → g i = g' i) : boolC g m = boolC g' m := by
  unfold boolC
  congr 1
  apply List.map_congr_left
  intro i hi
  rw [h i (List.mem_range.1 hi)]
@[go_sem] theorem made_bools (m : Nat) : madeCells #[.bool false] m = boolC (fun _ => false) m := by
  apply Array.ext_getElem?
  intro y
  by_cases h : y < m
  · rw [boolC_get _ _ _ h]
    simp [madeCells, h, Nat.mod_one]
  · rw [Array.getElem?_eq_none (by rw [size_madeCells]; omega), Array.getElem?_eq_none (by rw [boolC_size]; omega)]
theorem now_start (f : Rel) (s m : Nat) : boolC (updB (fun _ => false) s true) m = boolC (nowN f s 0) m := boolC_ext fun i _ => by
  rw [nowN_zero]
  by_cases h : i = s <;> simp [updB, h]
theorem next_start (ps : List Pr) (now : Nat → Bool) (m : Nat) : boolC (fun _ => false) m = boolC (nextK ps now 0) m := boolC_ext fun i _ => by simp [nextK]
theorem next_step (ps : List Pr) (now : Nat → Bool) (m k u v : Nat) (h : ps[k]? = some ((u : Int), (v : Int))) : boolC (updB (nextK ps now k) v (nextK ps now k v || now u)) m = boolC (nextK ps now (k + 1)) m := boolC_ext fun i _ => by
  unfold updB
  rw [nextK_next ps now k u v h]
  by_cases hi : i = v
  · rw [hi]
  · rw [if_neg hi, if_neg hi]
theorem next_end (ps : List Pr) (s n m : Nat) (hin : ∀ p ∈ ps, 0 ≤ p.1 ∧ 0 ≤ p.2 ∧ p.2 < 12) : boolC (nextK ps (nowN (pairRel ps) s n) ps.length) m = boolC (nowN (pairRel ps) s (n + 1)) m := boolC_ext fun i _ => next_all ps s n i hin
end Go.Proofs.Ytbafcfbchbjgfaa
