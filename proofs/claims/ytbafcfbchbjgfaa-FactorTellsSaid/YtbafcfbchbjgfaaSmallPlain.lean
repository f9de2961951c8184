/- The example of the laws of chapter 38: a dimension of four values, and one with a circle. Plain. -/
import Derived.Test.YtbafcfbchbjgfaaRefs1
import Derived.Test.YtbafcfbchbjgfaaJoins
namespace Go.Proofs.Ytbafcfbchbjgfaa
open Go.RowKit
set_option linter.unusedSimpArgs false
set_option linter.unusedVariables false

theorem wk_in12 {f : Rel} {lo : Nat} : ∀ {n a b : Nat}, Wk f lo n a b → n = 0 ∨ b < 12
  | 0, _, _, _ => .inl rfl
  | n + 1, a, b, ⟨c, _, hc, _, h⟩ => by
    right
    rcases wk_in12 h with rfl | h2
    · have : c = b := h
      omega
    · exact h2
theorem clR_eq {f g : Rel} (hb : Between f g) (hc : Closed g) (hf : ∀ a b, f a b = true → a < 12) (hg : ∀ a b, g a b = true → a < 12 ∧ b < 12) : clR f = g := by
  funext a b
  by_cases h : a < 12 ∧ b < 12
  · exact clR_at hb hc h.1 h.2
  · rw [Bool.eq_iff_iff]
    constructor
    · intro hr
      obtain ⟨n, hn⟩ := clR_iff.1 hr
      have hb12 : b < 12 := by
        rcases wk_in12 hn with h0 | h0
        · omega
        · exact h0
      obtain ⟨c, _, _, h1, _⟩ := hn
      exact absurd ⟨hf a c h1, hb12⟩ h
    · intro hr
      exact absurd (hg a b hr) h
def tabR (l : List (Nat × Nat)) : Rel := fun a b => l.any fun p => p.1 == a && p.2 == b
theorem tab_in {l : List (Nat × Nat)} (h : l.all (fun p => decide (p.1 < 12) && decide (p.2 < 12)) = true) {a b : Nat} (hr : tabR l a b = true) : a < 12 ∧ b < 12 := by
  simp only [tabR, List.any_eq_true, Bool.and_eq_true, beq_iff_eq] at hr
  obtain ⟨p, hp, rfl, rfl⟩ := hr
  have := List.all_eq_true.1 h p hp
  simpa using this
theorem pair_in {ps : List Pr} (h : ps.all (prIn 12) = true) {a b : Nat} (hr : pairRel ps a b = true) : a < 12 := by
  simp only [pairRel, List.any_eq_true, Bool.and_eq_true, beq_iff_eq] at hr
  obtain ⟨p, hp, h1, h2⟩ := hr
  have := List.all_eq_true.1 h p hp
  simp only [prIn, Bool.and_eq_true, decide_eq_true_eq] at this
  omega
def closedT (l : List (Nat × Nat)) : Bool := l.all fun p => l.all fun q => !(p.2 == q.1) || l.any fun r => r.1 == p.1 && r.2 == q.2
theorem closedT_ok {l : List (Nat × Nat)} (h : closedT l = true) : Closed (tabR l) := by
  intro a b c _ _ _ h1 h2
  simp only [tabR, List.any_eq_true, Bool.and_eq_true, beq_iff_eq] at h1 h2 ⊢
  obtain ⟨p, hp, rfl, rfl⟩ := h1
  obtain ⟨q, hq, h3, rfl⟩ := h2
  have := List.all_eq_true.1 (List.all_eq_true.1 h p hp) q hq
  rw [show (p.2 == q.1) = true by simpa using h3.symm] at this
  simp only [Bool.not_true, Bool.false_or, List.any_eq_true, Bool.and_eq_true, beq_iff_eq] at this
  exact this
def walkB (f : Rel) (lo : Nat) : Nat → Nat → Nat → Bool
  | 0, a, b => a == b
  | n + 1, a, b => (List.range 12).any fun c => decide (lo ≤ c) && (f a c && walkB f lo n c b)
theorem walkB_iff {f : Rel} {lo : Nat} : ∀ {n a b : Nat}, walkB f lo n a b = true ↔ Wk f lo n a b
  | 0, a, b => by simp [walkB, Wk]
  | n + 1, a, b => by
    simp only [walkB, Wk, List.any_eq_true, List.mem_range, Bool.and_eq_true, decide_eq_true_eq]
    constructor
    · rintro ⟨c, h1, h2, h3, h4⟩
      exact ⟨c, h2, h1, h3, walkB_iff.1 h4⟩
    · rintro ⟨c, h1, h2, h3, h4⟩
      exact ⟨c, h2, h1, h3, walkB_iff.2 h4⟩
theorem between_tab {f : Rel} {l : List (Nat × Nat)} (h1 : ∀ a b, a < 12 → b < 12 → f a b = true → tabR l a b = true) (h2 : l.all (fun p => walkB f 0 1 p.1 p.2 || (walkB f 0 2 p.1 p.2 || (walkB f 0 3 p.1 p.2 || walkB f 0 4 p.1 p.2))) = true) : Between f (tabR l) := by
  refine ⟨h1, fun a b _ _ hr => ?_⟩
  simp only [tabR, List.any_eq_true, Bool.and_eq_true, beq_iff_eq] at hr
  obtain ⟨p, hp, rfl, rfl⟩ := hr
  have := List.all_eq_true.1 h2 p hp
  simp only [Bool.or_eq_true] at this
  rcases this with h | h | h | h
  · exact ⟨0, walkB_iff.1 h⟩
  · exact ⟨1, walkB_iff.1 h⟩
  · exact ⟨2, walkB_iff.1 h⟩
  · exact ⟨3, walkB_iff.1 h⟩
abbrev dmP : List Pr := [(0, 1), (1, 3), (0, 2), (2, 3)]
abbrev dmX : List Pr := [(0, 1), (1, 3), (0, 2), (2, 3), (3, 0)]
abbrev tabP : List (Nat × Nat) := [(0, 1), (1, 3), (0, 2), (2, 3), (0, 3)]
abbrev tabX : List (Nat × Nat) := [(0, 0), (0, 1), (0, 2), (0, 3), (1, 0), (1, 1), (1, 2), (1, 3), (2, 0), (2, 1), (2, 2), (2, 3), (3, 0), (3, 1), (3, 2), (3, 3)]
theorem lo_of {ps : List Pr} {l : List (Nat × Nat)} (h : ps.all (fun p => l.any fun q => p.1 == (q.1 : Int) && p.2 == (q.2 : Int)) = true) : ∀ a b, a < 12 → b < 12 → pairRel ps a b = true → tabR l a b = true := by
  intro a b _ _ hr
  simp only [pairRel, List.any_eq_true, Bool.and_eq_true, beq_iff_eq] at hr
  obtain ⟨p, hp, h1, h2⟩ := hr
  have := List.all_eq_true.1 h p hp
  simp only [List.any_eq_true, Bool.and_eq_true, beq_iff_eq] at this
  obtain ⟨q, hq, h3, h4⟩ := this
  simp only [tabR, List.any_eq_true, Bool.and_eq_true, beq_iff_eq]
  exact ⟨q, hq, by omega, by omega⟩
theorem clP : clR (pairRel dmP) = tabR tabP := clR_eq (between_tab (lo_of (by decide)) (by decide +kernel)) (closedT_ok (by decide +kernel)) (fun a b h => pair_in (by decide) h) (fun a b h => tab_in (by decide) h)
theorem clX : clR (pairRel dmX) = tabR tabX := clR_eq (between_tab (lo_of (by decide)) (by decide +kernel)) (closedT_ok (by decide +kernel)) (fun a b h => pair_in (by decide) h) (fun a b h => tab_in (by decide) h)
abbrev gP : Rel := diagR (tabR tabP) 4
theorem closedP : closedD 4 dmP = (gP, true) := by
  rw [closed_yes (by decide) (by rw [clP]; decide +kernel), clP]
  rfl
theorem closedX : closedD 4 dmX = (noRel, false) := closed_no (.inr (by rw [clX]; decide +kernel))
abbrev lP : List Dm := [(4, dmP), (4, dmP)]
theorem at03 : atD 4 dmP 0 3 = true := by unfold atD; rw [closedP]; decide +kernel
theorem at12 : atD 4 dmP 1 2 = false := by unfold atD; rw [closedP]; decide +kernel
theorem jn12 : joinD 4 dmP 1 2 = (3, true) := by unfold joinD; rw [closedP]; decide +kernel
theorem jn01 : joinD 4 dmP 0 1 = (1, true) := by unfold joinD; rw [closedP]; decide +kernel
theorem rightP : rightD lP = true := by simp [rightD, closedP]
theorem rightX : rightD [(4, dmX)] = false := by simp [rightD, closedX]
theorem vecP {a b : List Int} (h : (inD lP a && inD lP b) = true) : vecD lP a b = true := by unfold vecD; rw [rightP, Bool.true_and, h]
theorem blkP {a0 a1 b0 b1 : Int} {k0 k1 : Bool} (h : (inD lP [a0, a1] && inD lP [b0, b1]) = true) (h0 : atD 4 dmP a0 b0 = k0) (h1 : atD 4 dmP a1 b1 = k1) : blocksD lP [a0, a1] [b0, b1] = (if k0 then [] else [0]) ++ (if k1 then [] else [1]) := by
  unfold blocksD
  rw [if_pos (vecP h)]
  have e0 : atI lP [a0, a1] [b0, b1] 0 = k0 := by rw [← h0]; rfl
  have e1 : atI lP [a0, a1] [b0, b1] 1 = k1 := by rw [← h1]; rfl
  show blkK lP [a0, a1] [b0, b1] 2 = _
  rw [blkK_next, blkK_next, e0, e1]
  cases k0 <;> cases k1 <;> rfl
theorem atP (a b : Int) (r : Bool) (h : (inV 4 a && (inV 4 b && gP a.toNat b.toNat)) = r) : atD 4 dmP a b = r := by unfold atD; rw [closedP]; simpa using h
theorem belP {a0 a1 b0 b1 : Int} {k0 k1 : Bool} (h : (inD lP [a0, a1] && inD lP [b0, b1]) = true) (h0 : atD 4 dmP a0 b0 = k0) (h1 : atD 4 dmP a1 b1 = k1) : belowD lP [a0, a1] [b0, b1] = (k0 && k1) := by
  unfold belowD
  rw [blkP h h0 h1, vecP h]
  cases k0 <;> cases k1 <;> rfl
theorem cmp1 : cmpD lP [0, 1] [1, 1] = (1, 0) := by
  unfold cmpD
  rw [if_pos (vecP (by decide)), belP (by decide) (atP 0 1 true (by decide +kernel)) (atP 1 1 true (by decide +kernel)), belP (by decide) (atP 1 0 false (by decide +kernel)) (atP 1 1 true (by decide +kernel))]
  rfl
theorem cmp2 : cmpD lP [0, 1] [1, 0] = (3, 0) := by
  unfold cmpD
  rw [if_pos (vecP (by decide)), belP (by decide) (atP 0 1 true (by decide +kernel)) (atP 1 0 false (by decide +kernel)), belP (by decide) (atP 1 0 false (by decide +kernel)) (atP 0 1 true (by decide +kernel))]
  rfl
theorem blk1 : blocksD lP [1, 0] [2, 3] = [0] := by
  rw [blkP (by decide) (atP 1 2 false (by decide +kernel)) (atP 0 3 true (by decide +kernel))]
  rfl
theorem bel1 : belowD lP [0, 0] [3, 3] = true := belP (by decide) (atP 0 3 true (by decide +kernel)) (atP 0 3 true (by decide +kernel))
theorem joins1 : joinsD lP [1, 0] [2, 1] = ([3, 1], true) := by
  have e0 : jnI lP [1, 0] [2, 1] 0 = (3, true) := jn12
  have e1 : jnI lP [1, 0] [2, 1] 1 = (1, true) := jn01
  rw [joins_yes (vecP (by decide)) (fun i hi => by
    have : i = 0 ∨ i = 1 := by simp at hi; omega
    rcases this with rfl | rfl
    · rw [e0]
    · rw [e1])]
  show (jnK lP [1, 0] [2, 1] 2, true) = _
  rw [jnK_next, jnK_next, e0, e1]
  rfl
theorem circX {C : List Nat} (h : IsCirc (pairRel dmX) C) : C = [0, 1, 3] := by
  have w3 : Wk (pairRel dmX) 0 3 0 0 := walkB_iff.1 (by decide +kernel)
  rcases h with ⟨_, hn⟩ | ⟨best, at', d, last, hm, hd, hl, hc⟩
  · exact absurd w3 (hn 0 3 (by omega) (by omega) (by omega))
  · have hb3 := hm.low 0 3 (by omega) (by omega) w3
    have no1 : ∀ s, s < 12 → walkB (pairRel dmX) s 1 s s = false := by decide +kernel
    have no2 : ∀ s, s < 12 → walkB (pairRel dmX) s 2 s s = false := by decide +kernel
    have hwk := hm.wk
    have hpos := hm.pos
    have hbest : best = 3 := by
      refine Classical.byContradiction fun hne => ?_
      have : best = 1 ∨ best = 2 := by omega
      rcases this with rfl | rfl
      · have := walkB_iff.2 hwk
        rw [no1 at' hm.lt] at this
        cases this
      · have := walkB_iff.2 hwk
        rw [no2 at' hm.lt] at this
        cases this
    subst hbest
    have hat : at' = 0 := by
      refine Classical.byContradiction fun hne => ?_
      have := hm.first 0 3 (by omega) (by omega) w3
      omega
    subst hat
    have d1 : d 1 = 2 := by
      have h1 := hd.up 2 1 (by omega) (by omega) (by omega) (walkB_iff.1 (by decide +kernel))
      have h2 := (hd.wk 1 (by omega) (by omega)).2
      have : d 1 = 0 ∨ d 1 = 1 ∨ d 1 = 2 := by omega
      rcases this with h | h | h
      · rw [h] at h2
        exact absurd (walkB_iff.2 h2) (by decide +kernel)
      · rw [h] at h2
        exact absurd (walkB_iff.2 h2) (by decide +kernel)
      · exact h
    match C, hl with
    | [c0, c1, c2], _ =>
      have h0 : c0 = 0 := by have := hc.head; simpa using this
      subst h0
      obtain ⟨u, v, e1, e2, hn1⟩ := hc.next 0 (by simp)
      obtain ⟨u', v', e3, e4, hn2⟩ := hc.next 1 (by simp)
      simp at e1 e2 e3 e4
      subst e1 e2 e3 e4
      have row0 : ∀ x, x < 12 → pairRel dmX 0 x = true → x = 1 ∨ x = 2 := by decide +kernel
      have row1 : ∀ x, x < 12 → pairRel dmX 1 x = true → x = 3 := by decide +kernel
      have hc1 : c1 = 1 := by
        rcases row0 c1 hn1.lt hn1.pair with h | h
        · exact h
        · exact absurd ⟨by decide +kernel, by simpa using d1⟩ (hn1.least 1 (by omega) (by omega))
      subst hc1
      rw [row1 c2 hn2.lt hn2.pair]
end Go.Proofs.Ytbafcfbchbjgfaa
