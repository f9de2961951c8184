/- Lemmas that the laws of this seat share, 4 texts in one: StepsPlain, BackPlain, WayPlain, RefCircPlain. No condition of their own. -/
import Derived.Test.YtgmjcgjbbogefaaGreatM9
import Derived.Test.YtgmjcgjbbogefaaGreatM7
import Derived.Test.YtgmjcgjbbogefaaGreatM8
import Derived.Deep.OwnRows
/- What is reached by exactly so many pairs, as FactorCircles computes it. Plain. -/
namespace Go.Proofs.YtgmjcgjbbogefaaGreat
open Go.RowKit
set_option linter.unusedSimpArgs false
set_option linter.unusedVariables false

theorem wk_last {f : Rel} {lo : Nat} : ∀ {n a b : Nat}, Wk f lo (n + 1) a b ↔ ∃ u, Wk f lo n a u ∧ f u b = true ∧ lo ≤ b ∧ b < 12
  | 0, a, b => by
    constructor
    · rintro ⟨c, h1, h2, h3, h4⟩
      have : c = b := h4
      subst this
      exact ⟨a, rfl, h3, h1, h2⟩
    · rintro ⟨u, h1, h2, h3, h4⟩
      have : a = u := h1
      subst this
      exact ⟨b, h3, h4, h2, rfl⟩
  | n + 1, a, b => by
    constructor
    · rintro ⟨c, h1, h2, h3, h4⟩
      obtain ⟨u, g1, g2⟩ := wk_last.1 h4
      exact ⟨u, ⟨c, h1, h2, h3, g1⟩, g2⟩
    · rintro ⟨u, ⟨c, h1, h2, h3, h4⟩, g⟩
      exact ⟨c, h1, h2, h3, wk_last.2 ⟨u, h4, g⟩⟩
end Go.Proofs.YtgmjcgjbbogefaaGreat


/- The least way back, value by value and length by length. Plain. -/
namespace Go.Proofs.YtgmjcgjbbogefaaGreat
open Go.RowKit
set_option linter.unusedSimpArgs false
set_option linter.unusedVariables false

def updB (g : Nat → Bool) (i : Nat) (v : Bool) : Nat → Bool := fun y => if y = i then v else g y
/-- A row of so many bools. -/
def boolC (g : Nat → Bool) (m : Nat) : Array Value := ((List.range m).map fun i => .bool (g i)).toArray
@[simp, go_sem] theorem boolC_size (g : Nat → Bool) (m : Nat) : (boolC g m).size = m := by simp [boolC]
@[go_sem] theorem boolC_get (g : Nat → Bool) (m i : Nat) (h : i < m) : (boolC g m)[i]? = some (.bool (g i)) := by simp [boolC, h]
@[simp, go_sem] theorem boolC_elem (g : Nat → Bool) (m i : Nat) (h : i < (boolC g m).size) : (boolC g m)[i] = .bool (g i) := by simp [boolC]
@[go_sem] theorem boolC_set (g : Nat → Bool) (m i : Nat) (v : Bool) : (boolC g m).setIfInBounds i (.bool v) = boolC (updB g i v) m := by
  apply Array.ext_getElem?
  intro y
  rw [Array.getElem?_setIfInBounds]
  by_cases hi : i = y
  · subst hi
    rw [if_pos rfl]
    by_cases h : i < m
    · rw [if_pos (by simpa using h), boolC_get _ _ _ h]
      simp [updB]
    · rw [if_neg (by simpa using h), Array.getElem?_eq_none (by simpa using Nat.le_of_not_lt h)]
  · rw [if_neg hi]
    by_cases h : y < m
    · rw [boolC_get _ _ _ h, boolC_get _ _ _ h]
      unfold updB
      rw [if_neg (fun hc => hi hc.symm)]
    · rw [Array.getElem?_eq_none (by simpa using Nat.le_of_not_lt h), Array.getElem?_eq_none (by simpa using Nat.le_of_not_lt h)]
@[go_sem] theorem made_bools (m : Nat) : madeCells #[.bool false] m = boolC (fun _ => false) m := by
  apply Array.ext_getElem?
  intro y
  by_cases h : y < m
  · rw [boolC_get _ _ _ h]
    simp [madeCells, h, Nat.mod_one]
  · rw [Array.getElem?_eq_none (by rw [size_madeCells]; omega), Array.getElem?_eq_none (by rw [boolC_size]; omega)]
end Go.Proofs.YtgmjcgjbbogefaaGreat


/- The fewest pairs that lead from one value to another, as the reference searches it breadth first. Plain. -/
namespace Go.Proofs.YtgmjcgjbbogefaaGreat
open Go.RowKit
set_option linter.unusedSimpArgs false
set_option linter.unusedVariables false

/-- The fewest pairs, at least one, at most m; 0 if there is no such way. -/
def WayIs (f : Rel) (m lo a b n : Nat) : Prop := (n = 0 ∧ ∀ j, 1 ≤ j → j ≤ m → ¬ Wk f lo j a b) ∨ (1 ≤ n ∧ n ≤ m ∧ Wk f lo n a b ∧ ∀ j, 1 ≤ j → j < n → ¬ Wk f lo j a b)
theorem WayIs.unique {f : Rel} {m lo a b n n' : Nat} (h : WayIs f m lo a b n) (h' : WayIs f m lo a b n') : n = n' := by
  rcases h with ⟨rfl, h1⟩ | ⟨h1, h2, h3, h4⟩ <;> rcases h' with ⟨rfl, g1⟩ | ⟨g1, g2, g3, g4⟩
  · rfl
  · exact absurd g3 (h1 _ g1 g2)
  · exact absurd h3 (g1 _ h1 h2)
  · by_cases hlt : n < n'
    · exact absurd h3 (g4 n h1 hlt)
    · by_cases hlt2 : n' < n
      · exact absurd g3 (h4 n' g1 hlt2)
      · omega
theorem wayIs_ex (f : Rel) (m lo a b : Nat) : ∃ n, WayIs f m lo a b n := by
  by_cases h : ∃ j, 1 ≤ j ∧ j ≤ m ∧ Wk f lo j a b
  · obtain ⟨j, h1, h2, h3⟩ := h
    have key : ∀ k j, j ≤ k → 1 ≤ j → j ≤ m → Wk f lo j a b → ∃ n, WayIs f m lo a b n := by
      intro k
      induction k with
      | zero => intro j h1 h2; omega
      | succ k ih =>
        intro j h1 h2 h3 h4
        by_cases hl : ∃ i, 1 ≤ i ∧ i < j ∧ Wk f lo i a b
        · obtain ⟨i, g1, g2, g3⟩ := hl
          exact ih i (by omega) g1 (by omega) g3
        · exact ⟨j, .inr ⟨h2, h3, h4, fun i g1 g2 g3 => hl ⟨i, g1, g2, g3⟩⟩⟩
    exact key j j (Nat.le_refl _) h1 h2 h3
  · exact ⟨0, .inl ⟨rfl, fun j h1 h2 h3 => h ⟨j, h1, h2, h3⟩⟩⟩
noncomputable def wayN (f : Rel) (m lo a b : Nat) : Nat := Classical.choose (wayIs_ex f m lo a b)
theorem wayN_is (f : Rel) (m lo a b : Nat) : WayIs f m lo a b (wayN f m lo a b) := Classical.choose_spec (wayIs_ex f m lo a b)
theorem wayN_eq {f : Rel} {m lo a b n : Nat} (h : WayIs f m lo a b n) : wayN f m lo a b = n := (wayN_is f m lo a b).unique h
theorem wayN_le (f : Rel) (m lo a b : Nat) : wayN f m lo a b ≤ m := by
  rcases wayN_is f m lo a b with ⟨h, _⟩ | ⟨_, h, _⟩ <;> omega
theorem wayN_wk {f : Rel} {m lo a b : Nat} (h : 0 < wayN f m lo a b) : Wk f lo (wayN f m lo a b) a b := by
  rcases wayN_is f m lo a b with ⟨h1, _⟩ | ⟨_, _, h1, _⟩
  · omega
  · exact h1
theorem wayN_low {f : Rel} {m lo a b j : Nat} (h1 : 1 ≤ j) (h2 : j ≤ m) (h : Wk f lo j a b) : 0 < wayN f m lo a b ∧ wayN f m lo a b ≤ j := by
  rcases wayN_is f m lo a b with ⟨_, g⟩ | ⟨g1, g2, _, g4⟩
  · exact absurd h (g j h1 h2)
  · refine ⟨g1, ?_⟩
    refine Classical.byContradiction fun hc => g4 j h1 (by omega) h

/-- What the walk has ahead of round n: the values of the level, and all that were seen. -/
structure Lvl (f : Rel) (m lo a b n : Nat) (S : Nat → Bool) (L : List Nat) : Prop where
  pos : 1 ≤ n
  ins : ∀ v, v ∈ L ↔ (n = 1 ∧ v = a) ∨ (2 ≤ n ∧ Wk f lo (n - 1) a v ∧ ∀ i, 1 ≤ i → i < n - 1 → ¬ Wk f lo i a v)
  seen : ∀ v, v < m → (S v = true ↔ ∃ j, 1 ≤ j ∧ j < n ∧ Wk f lo j a v)
  nob : ∀ j, 1 ≤ j → j < n → ¬ Wk f lo j a b
  lt : ∀ v ∈ L, v < m
  nd : L.Nodup
theorem Lvl.start (f : Rel) {m a : Nat} (lo b : Nat) (ha : a < m) : Lvl f m lo a b 1 (fun _ => false) [a] where
  pos := Nat.le_refl _
  ins := fun v => by
    simp only [List.mem_singleton]
    constructor
    · intro h; exact .inl ⟨by trivial, h⟩
    · rintro (⟨_, h⟩ | ⟨h, _⟩)
      · exact h
      · omega
  seen := fun v _ => by
    constructor
    · intro h; cases h
    · rintro ⟨j, h1, h2, _⟩; omega
  nob := fun j h1 h2 => by omega
  lt := fun v h => by rw [List.mem_singleton] at h; omega
  nd := by simp
/-- What round n has found so far: of the first i values of the level all, of the next one those below v. -/
def New (f : Rel) (lo : Nat) (L : List Nat) (i v x : Nat) : Prop := lo ≤ x ∧ ((∃ i' u, i' < i ∧ L[i']? = some u ∧ f u x = true) ∨ (∃ u, L[i]? = some u ∧ f u x = true ∧ x < v))
structure Mid (f : Rel) (m lo b : Nat) (S0 : Nat → Bool) (L : List Nat) (i v : Nat) (S : Nat → Bool) (N : List Nat) : Prop where
  seen : ∀ x, x < m → (S x = true ↔ S0 x = true ∨ New f lo L i v x)
  ins : ∀ x, x ∈ N ↔ x < m ∧ S0 x = false ∧ New f lo L i v x
  nd : N.Nodup
  nob : ¬ New f lo L i v b
theorem Mid.start (f : Rel) (m lo b : Nat) (S0 : Nat → Bool) (L : List Nat) : Mid f m lo b S0 L 0 lo S0 [] where
  seen := fun x _ => by
    constructor
    · intro h; exact .inl h
    · rintro (h | ⟨h0, ⟨i', u, h, _⟩ | ⟨u, _, _, h⟩⟩)
      · exact h
      · omega
      · omega
  ins := fun x => by
    constructor
    · intro h; cases h
    · rintro ⟨_, _, h0, ⟨i', u, h, _⟩ | ⟨u, _, _, h⟩⟩
      · omega
      · omega
  nd := by simp
  nob := by
    rintro ⟨h0, ⟨i', u, h, _⟩ | ⟨u, _, _, h⟩⟩ <;> omega
theorem New.step {f : Rel} {lo : Nat} {L : List Nat} {i v x u : Nat} (hu : L[i]? = some u) : New f lo L i (v + 1) x ↔ New f lo L i v x ∨ (x = v ∧ lo ≤ v ∧ f u v = true) := by
  constructor
  · rintro ⟨h0, h | ⟨u', h1, h2, h3⟩⟩
    · exact .inl ⟨h0, .inl h⟩
    · by_cases hx : x = v
      · rw [hu] at h1
        cases h1
        subst hx
        exact .inr ⟨rfl, h0, h2⟩
      · exact .inl ⟨h0, .inr ⟨u', h1, h2, by omega⟩⟩
  · rintro (⟨h0, h | ⟨u', h1, h2, h3⟩⟩ | ⟨rfl, h0, h2⟩)
    · exact ⟨h0, .inl h⟩
    · exact ⟨h0, .inr ⟨u', h1, h2, by omega⟩⟩
    · exact ⟨h0, .inr ⟨u, hu, h2, by omega⟩⟩
theorem Mid.no {f : Rel} {m lo b : Nat} {S0 : Nat → Bool} {L : List Nat} {i v u : Nat} {S : Nat → Bool} {N : List Nat} (h : Mid f m lo b S0 L i v S N) (hu : L[i]? = some u) (hf : f u v = false) : Mid f m lo b S0 L i (v + 1) S N := by
  have key : ∀ x, New f lo L i (v + 1) x ↔ New f lo L i v x := fun x => by
    rw [New.step hu]
    constructor
    · rintro (h | ⟨_, _, h⟩)
      · exact h
      · rw [hf] at h; cases h
    · exact .inl
  exact ⟨fun x hx => by rw [key]; exact h.seen x hx, fun x => by rw [key]; exact h.ins x, h.nd, by rw [key]; exact h.nob⟩
theorem Mid.add {f : Rel} {m lo b : Nat} {S0 : Nat → Bool} {L : List Nat} {i v u : Nat} {S : Nat → Bool} {N : List Nat} (h : Mid f m lo b S0 L i v S N) (hu : L[i]? = some u) (hf : f u v = true) (hl : lo ≤ v) (hv : v < m) (hb : v ≠ b) (hs : S v = false) : Mid f m lo b S0 L i (v + 1) (updB S v true) (N ++ [v]) := by
  have hs2 : ¬ (S0 v = true ∨ New f lo L i v v) := fun hc => by
    rw [(h.seen v hv).2 hc] at hs; cases hs
  refine ⟨fun x hx => ?_, fun x => ?_, ?_, ?_⟩
  · rw [New.step hu]
    by_cases hxv : x = v
    · subst hxv
      exact ⟨fun _ => .inr (.inr ⟨rfl, hl, hf⟩), fun _ => by simp [updB]⟩
    · rw [show updB S v true x = S x by simp [updB, hxv], h.seen x hx]
      constructor
      · rintro (h | h)
        · exact .inl h
        · exact .inr (.inl h)
      · rintro (h | h | ⟨rfl, _⟩)
        · exact .inl h
        · exact .inr h
        · exact absurd rfl hxv
  · rw [New.step hu, List.mem_append, h.ins x, List.mem_singleton]
    constructor
    · rintro (⟨h1, h2, h3⟩ | rfl)
      · exact ⟨h1, h2, .inl h3⟩
      · refine ⟨hv, ?_, .inr ⟨rfl, hl, hf⟩⟩
        cases h0 : S0 x
        · rfl
        · exact absurd (.inl h0) hs2
    · rintro ⟨h1, h2, h3 | ⟨rfl, _⟩⟩
      · exact .inl ⟨h1, h2, h3⟩
      · exact .inr rfl
  · rw [List.nodup_append]
    refine ⟨h.nd, by simp, fun x hx y hy => ?_⟩
    rw [List.mem_singleton] at hy
    subst hy
    intro hc
    subst hc
    exact hs2 (.inr ((h.ins x).1 hx).2.2)
  · rw [New.step hu]
    rintro (h1 | ⟨h1, _⟩)
    · exact h.nob h1
    · exact hb h1.symm
theorem Mid.row {f : Rel} {m lo b : Nat} {S0 : Nat → Bool} {L : List Nat} {i v u : Nat} {S : Nat → Bool} {N : List Nat} (h : Mid f m lo b S0 L i v S N) (hu : L[i]? = some u) (hv : v = m ∨ (m ≤ v)) (hin : ∀ x y, f x y = true → x < m ∧ y < m) : Mid f m lo b S0 L (i + 1) lo S N := by
  have key : ∀ x, New f lo L (i + 1) lo x ↔ New f lo L i v x := fun x => by
    constructor
    · rintro ⟨h0, ⟨i', u', h1, h2, h3⟩ | ⟨u', _, _, h3⟩⟩
      · by_cases hi : i' = i
        · subst hi
          exact ⟨h0, .inr ⟨u', h2, h3, by have := (hin _ _ h3).2; omega⟩⟩
        · exact ⟨h0, .inl ⟨i', u', by omega, h2, h3⟩⟩
      · omega
    · rintro ⟨h0, ⟨i', u', h1, h2, h3⟩ | ⟨u', h1, h2, _⟩⟩
      · exact ⟨h0, .inl ⟨i', u', by omega, h2, h3⟩⟩
      · exact ⟨h0, .inl ⟨i, u', by omega, h1, h2⟩⟩
  exact ⟨fun x hx => by rw [key]; exact h.seen x hx, fun x => by rw [key]; exact h.ins x, h.nd, by rw [key]; exact h.nob⟩
/-- A pair out of the level into b: found. -/
theorem Lvl.found {f : Rel} {m lo a b n : Nat} {S : Nat → Bool} {L : List Nat} (h : Lvl f m lo a b n S L) (hn : n ≤ m) (hm : m ≤ 12) {u : Nat} (hu : u ∈ L) (hf : f u b = true) (hl : lo ≤ b) (hb : b < m) : wayN f m lo a b = n := by
  refine wayN_eq (.inr ⟨h.pos, hn, ?_, h.nob⟩)
  have hp := h.pos
  obtain ⟨q, rfl⟩ : ∃ q, n = q + 1 := ⟨n - 1, by omega⟩
  rw [wk_last]
  refine ⟨u, ?_, hf, hl, by omega⟩
  rcases (h.ins u).1 hu with ⟨h1, rfl⟩ | ⟨_, h1, _⟩
  · obtain rfl : q = 0 := by omega
    rfl
  · simpa using h1
theorem Lvl.next {f : Rel} {m lo a b n : Nat} {S0 S : Nat → Bool} {L N : List Nat} {i v : Nat} (h : Lvl f m lo a b n S0 L) (hm : m ≤ 12) (h2 : Mid f m lo b S0 L i v S N) (hi : i = L.length) (hin : ∀ x y, f x y = true → x < m ∧ y < m) : Lvl f m lo a b (n + 1) S N := by
  subst hi
  have hp := h.pos
  have hLev : ∀ u, u ∈ L → Wk f lo (n - 1) a u := fun u hu => by
    rcases (h.ins u).1 hu with ⟨rfl, rfl⟩ | ⟨_, h1, _⟩
    · rfl
    · exact h1
  have new1 : ∀ x, New f lo L L.length v x → Wk f lo n a x := fun x hx => by
    obtain ⟨h0, ⟨i', u, h1, h2, h3⟩ | ⟨u, h1, _⟩⟩ := hx
    · have := hLev u (List.mem_of_getElem? h2)
      obtain ⟨q, rfl⟩ : ∃ q, n = q + 1 := ⟨n - 1, by omega⟩
      rw [wk_last]
      exact ⟨u, by simpa using this, h3, h0, by have := (hin _ _ h3).2; omega⟩
    · rw [List.getElem?_eq_none (Nat.le_refl _)] at h1; cases h1
  have new2 : ∀ x, Wk f lo n a x → (∀ j, 1 ≤ j → j < n → ¬ Wk f lo j a x) → New f lo L L.length v x := fun x hx hj => by
    obtain ⟨q, rfl⟩ : ∃ q, n = q + 1 := ⟨n - 1, by omega⟩
    obtain ⟨u, g1, g2, g3, g4⟩ := wk_last.1 hx
    have hu : u ∈ L := by
      refine (h.ins u).2 ?_
      by_cases hq : q = 0
      · subst hq
        exact .inl ⟨rfl, (show a = u from g1).symm⟩
      · refine .inr ⟨by omega, by simpa using g1, fun i h1 h2 h3 => ?_⟩
        exact hj (i + 1) (by omega) (by omega) (wk_last.2 ⟨u, h3, g2, g3, g4⟩)
    obtain ⟨i', hi'⟩ := List.getElem?_of_mem hu
    exact ⟨g3, .inl ⟨i', u, (List.getElem?_eq_some_iff.1 hi').1, hi', g2⟩⟩
  refine ⟨by omega, fun x => ?_, fun x hx => ?_, fun j h1 h3 hj => ?_, fun x hx => ((h2.ins x).1 hx).1, h2.nd⟩
  · rw [h2.ins x]
    constructor
    · rintro ⟨g1, g2, g3⟩
      refine .inr ⟨by omega, by simpa using new1 x g3, fun j q1 q2 q3 => ?_⟩
      have := (h.seen x g1).2 ⟨j, q1, by omega, q3⟩
      rw [g2] at this; cases this
    · rintro (⟨g1, _⟩ | ⟨_, g1, g2⟩)
      · omega
      · rw [Nat.add_sub_cancel] at g1 g2
        have hxm : x < m := by
          obtain ⟨q, rfl⟩ : ∃ q, n = q + 1 := ⟨n - 1, by omega⟩
          obtain ⟨u, _, q2, _⟩ := wk_last.1 g1
          exact (hin _ _ q2).2
        refine ⟨hxm, ?_, new2 x g1 fun j q1 q2 => g2 j q1 q2⟩
        cases hs : S0 x
        · rfl
        · obtain ⟨j, q1, q2, q3⟩ := (h.seen x hxm).1 hs
          exact absurd q3 (g2 j q1 q2)
  · rw [h2.seen x hx, h.seen x hx]
    constructor
    · rintro (⟨j, q1, q2, q3⟩ | g)
      · exact ⟨j, q1, by omega, q3⟩
      · exact ⟨n, hp, by omega, new1 x g⟩
    · rintro ⟨j, q1, q2, q3⟩
      by_cases hl : ∃ i, 1 ≤ i ∧ i < n ∧ Wk f lo i a x
      · exact .inl hl
      · have hjn : j = n := by
          by_cases hjn : j = n
          · exact hjn
          · exact absurd ⟨j, q1, by omega, q3⟩ hl
        subst hjn
        exact .inr (new2 x q3 fun i g1 g2 g3 => hl ⟨i, g1, g2, g3⟩)
  · by_cases hjn : j < n
    · exact h.nob j h1 hjn hj
    · obtain rfl : j = n := by omega
      exact h2.nob (new2 b hj fun i g1 g2 => h.nob i g1 g2)
theorem Mid.len {f : Rel} {m lo b : Nat} {S0 : Nat → Bool} {L : List Nat} {i v : Nat} {S : Nat → Bool} {N : List Nat} (h : Mid f m lo b S0 L i v S N) : N.length ≤ m := nodup_le (fun x hx => ((h.ins x).1 hx).1) h.nd
theorem Lvl.len {f : Rel} {m lo a b n : Nat} {S : Nat → Bool} {L : List Nat} (h : Lvl f m lo a b n S L) : L.length ≤ m := nodup_le h.lt h.nd
end Go.Proofs.YtgmjcgjbbogefaaGreat


/- The circle of the reference, and what leads where: plain. -/
namespace Go.Proofs.YtgmjcgjbbogefaaGreat
open Go.RowKit
set_option linter.unusedSimpArgs false
set_option linter.unusedVariables false

/-- Every walk of at least one pair can be cut to one of at most m pairs, m values being all that there are. -/
theorem wk_cut {f : Rel} {m lo : Nat} (hin : ∀ x y, f x y = true → x < m ∧ y < m) : ∀ (k n a b : Nat), n ≤ k → 1 ≤ n → Wk f lo n a b → ∃ n', 1 ≤ n' ∧ n' ≤ m ∧ Wk f lo n' a b
  | 0, n, a, b, h1, h2, _ => by omega
  | k + 1, n, a, b, h1, h2, hw => by
    obtain ⟨L, hl, hL⟩ := wk_nodes hw
    by_cases hn : n ≤ m
    · exact ⟨n, h2, hn, hw⟩
    · by_cases hd : L.Nodup
      · have := nodup_le (m := m) (fun x hx => by
          obtain ⟨i, hi⟩ := List.getElem?_of_mem hx
          obtain ⟨_, g2, _⟩ := hL i x hi
          obtain ⟨u, _, g4, _⟩ := wk_last.1 g2
          exact (hin _ _ g4).2) hd
        omega
      · have : ∃ (i j v : Nat), i < j ∧ L[i]? = some v ∧ L[j]? = some v := by
          refine Classical.byContradiction fun hc => hd ?_
          rw [List.Nodup, List.pairwise_iff_getElem]
          intro i j hi hj hij he
          exact hc ⟨i, j, L[i], hij, List.getElem?_eq_getElem hi, by rw [List.getElem?_eq_getElem hj, he]⟩
        obtain ⟨i, j, v, hij, hi, hj⟩ := this
        have hjl := (List.getElem?_eq_some_iff.1 hj).1
        exact wk_cut hin k (i + 1 + (n - (j + 1))) a b (by omega) (by omega) ((hL i v hi).2.1.app (hL j v hj).2.2)
/-- The search for the smallest circle, ahead of the value s. -/
structure BestR (f : Rel) (m s best at' : Nat) : Prop where
  le : best ≤ m
  zero : best = 0 → at' = 0 ∧ ∀ s' j, s' < s → 1 ≤ j → j ≤ m → ¬ Wk f s' j s' s'
  pos : best ≠ 0 → at' < s ∧ Wk f at' best at' at' ∧ (∀ s' j, s' < s → 1 ≤ j → j ≤ m → Wk f s' j s' s' → best ≤ j) ∧ ∀ s' j, s' < at' → 1 ≤ j → j ≤ m → Wk f s' j s' s' → best < j
theorem BestR.start (f : Rel) (m : Nat) : BestR f m 0 0 0 := ⟨Nat.zero_le _, fun _ => ⟨rfl, fun s' j h => by omega⟩, fun h => absurd rfl h⟩
theorem BestR.yes {f : Rel} {m s best at' : Nat} (h : BestR f m s best at') (h0 : 0 < wayN f m s s s) (hb : best = 0 ∨ wayN f m s s s < best) : BestR f m (s + 1) (wayN f m s s s) s := by
  refine ⟨wayN_le _ _ _ _ _, fun hc => by omega, fun _ => ⟨by omega, wayN_wk h0, fun s' j h1 h2 h3 h4 => ?_, fun s' j h1 h2 h3 h4 => ?_⟩⟩
  · by_cases hs : s' = s
    · subst hs
      exact (wayN_low h2 h3 h4).2
    · by_cases hz : best = 0
      · exact absurd h4 ((h.zero hz).2 s' j (by omega) h2 h3)
      · have := (h.pos hz).2.2.1 s' j (by omega) h2 h3 h4
        omega
  · by_cases hz : best = 0
    · exact absurd h4 ((h.zero hz).2 s' j (by omega) h2 h3)
    · have := (h.pos hz).2.2.1 s' j (by omega) h2 h3 h4
      omega
theorem BestR.no {f : Rel} {m s best at' : Nat} (h : BestR f m s best at') (hb : wayN f m s s s = 0 ∨ (best ≠ 0 ∧ best ≤ wayN f m s s s)) : BestR f m (s + 1) best at' := by
  refine ⟨h.le, fun hz => ⟨(h.zero hz).1, fun s' j h1 h2 h3 h4 => ?_⟩, fun hz => ⟨by have := (h.pos hz).1; omega, (h.pos hz).2.1, fun s' j h1 h2 h3 h4 => ?_, (h.pos hz).2.2.2⟩⟩
  · by_cases hs : s' = s
    · subst hs
      have := (wayN_low h2 h3 h4).1
      omega
    · exact (h.zero hz).2 s' j (by omega) h2 h3 h4
  · by_cases hs : s' = s
    · subst hs
      have := wayN_low h2 h3 h4
      omega
    · exact (h.pos hz).2.2.1 s' j (by omega) h2 h3 h4
theorem wk_ends {f : Rel} {m lo j a b : Nat} (hin : ∀ x y, f x y = true → x < m ∧ y < m) (hj : 1 ≤ j) (h : Wk f lo j a b) : a < m ∧ b < m := by
  obtain ⟨q, rfl⟩ : ∃ q, j = q + 1 := ⟨j - 1, by omega⟩
  obtain ⟨u, _, h2, _⟩ := wk_last.1 h
  obtain ⟨c, _, _, h3, _⟩ := h
  exact ⟨(hin _ _ h3).1, (hin _ _ h2).2⟩
theorem BestR.none {f : Rel} {m at' : Nat} (h : BestR f m m 0 at') (hin : ∀ x y, f x y = true → x < m ∧ y < m) : NoCyc f := fun s j hs h1 _ hw => by
  obtain ⟨n', g1, g2, g3⟩ := wk_cut hin j j s s (Nat.le_refl _) h1 hw
  exact (h.zero rfl).2 s n' (wk_ends hin h1 hw).1 g1 g2 g3
theorem BestR.min {f : Rel} {m best at' : Nat} (h : BestR f m m best at') (hb : best ≠ 0) (hm : m ≤ 12) (hin : ∀ x y, f x y = true → x < m ∧ y < m) : MinCyc f best at' := by
  obtain ⟨h1, h2, h3, h4⟩ := h.pos hb
  have hle := h.le
  refine ⟨by omega, by omega, by omega, h2, fun s n hs hn hw => ?_, fun s n hs hn hw => ?_⟩
  · by_cases hnm : n ≤ m
    · exact h3 s n (wk_ends hin hn hw).1 hn hnm hw
    · omega
  · by_cases hnm : n ≤ m
    · exact h4 s n hs hn hnm hw
    · omega
end Go.Proofs.YtgmjcgjbbogefaaGreat

