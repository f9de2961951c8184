/- The circle of the reference, and what leads where: plain. -/
import Derived.Test.YtbafcfbchbjgfaaWayPlain
namespace Go.Proofs.Ytbafcfbchbjgfaa
open Go.RowKit
set_option linter.unusedSimpArgs false
set_option linter.unusedVariables false

/-- Every walk of at least one pair can be cut to one of at most m pairs, m values being all that there are. -/
theorem wk_cut {f : Rel} {m lo : Nat} (hin : ∀ x y, f x y = true → x < m ∧ y < m) : ∀ (k n a b : Nat), n ≤ k → 1 ≤ n → Wk f lo n a b → ∃ n', 1 ≤ n' ∧ n' ≤ m ∧ Wk f lo n' a b
  | 0, n, a, b, h1, h2, _ => by omega
  | k + 1, n, a, b, h1, h2, hw => by
    obtain ⟨L, hl, hL⟩ := wk_nodes hw
    by_cases hn : n ≤ m
    · exact ⟨n, h2, hn, hw⟩
    · by_cases hd : L.Nodup
      · have := nodup_le (m := m) (fun x hx => by
          obtain ⟨i, hi⟩ := List.getElem?_of_mem hx
          obtain ⟨_, g2, _⟩ := hL i x hi
          obtain ⟨u, _, g4, _⟩ := wk_last.1 g2
          exact (hin _ _ g4).2) hd
        omega
      · have : ∃ (i j v : Nat), i < j ∧ L[i]? = some v ∧ L[j]? = some v := by
          refine Classical.byContradiction fun hc => hd ?_
          rw [List.Nodup, List.pairwise_iff_getElem]
          intro i j hi hj hij he
          exact hc ⟨i, j, L[i], hij, List.getElem?_eq_getElem hi, by rw [List.getElem?_eq_getElem hj, he]⟩
        obtain ⟨i, j, v, hij, hi, hj⟩ := this
        have hjl := (List.getElem?_eq_some_iff.1 hj).1
        exact wk_cut hin k (i + 1 + (n - (j + 1))) a b (by omega) (by omega) ((hL i v hi).2.1.app (hL j v hj).2.2)
/-- The search for the smallest circle, ahead of the value s. -/
structure BestR (f : Rel) (m s best at' : Nat) : Prop where
  le : best ≤ m
  zero : best = 0 → at' = 0 ∧ ∀ s' j, s' < s → 1 ≤ j → j ≤ m → ¬ Wk f s' j s' s'
  pos : best ≠ 0 → at' < s ∧ Wk f at' best at' at' ∧ (∀ s' j, s' < s → 1 ≤ j → j ≤ m → Wk f s' j s' s' → best ≤ j) ∧ ∀ s' j, s' < at' → 1 ≤ j → j ≤ m → Wk f s' j s' s' → best < j
theorem BestR.start (f : Rel) (m : Nat) : BestR f m 0 0 0 := ⟨Nat.zero_le _, fun _ => ⟨rfl, fun s' j h => by omega⟩, fun h => absurd rfl h⟩
theorem BestR.yes {f : Rel} {m s best at' : Nat} (h : BestR f m s best at') (h0 : 0 < wayN f m s s s) (hb : best = 0 ∨ wayN f m s s s < best) : BestR f m (s + 1) (wayN f m s s s) s := by
  refine ⟨wayN_le _ _ _ _ _, fun hc => by omega, fun _ => ⟨by omega, wayN_wk h0, fun s' j h1 h2 h3 h4 => ?_, fun s' j h1 h2 h3 h4 => ?_⟩⟩
  · by_cases hs : s' = s
    · subst hs
      exact (wayN_low h2 h3 h4).2
    · by_cases hz : best = 0
      · exact absurd h4 ((h.zero hz).2 s' j (by omega) h2 h3)
      · have := (h.pos hz).2.2.1 s' j (by omega) h2 h3 h4
        omega
  · by_cases hz : best = 0
    · exact absurd h4 ((h.zero hz).2 s' j (by omega) h2 h3)
    · have := (h.pos hz).2.2.1 s' j (by omega) h2 h3 h4
      omega
theorem BestR.no {f : Rel} {m s best at' : Nat} (h : BestR f m s best at') (hb : wayN f m s s s = 0 ∨ (best ≠ 0 ∧ best ≤ wayN f m s s s)) : BestR f m (s + 1) best at' := by
  refine ⟨h.le, fun hz => ⟨(h.zero hz).1, fun s' j h1 h2 h3 h4 => ?_⟩, fun hz => ⟨by have := (h.pos hz).1; omega, (h.pos hz).2.1, fun s' j h1 h2 h3 h4 => ?_, (h.pos hz).2.2.2⟩⟩
  · by_cases hs : s' = s
    · subst hs
      have := (wayN_low h2 h3 h4).1
      omega
    · exact (h.zero hz).2 s' j (by omega) h2 h3 h4
  · by_cases hs : s' = s
    · subst hs
      have := wayN_low h2 h3 h4
      omega
    · exact (h.pos hz).2.2.1 s' j (by omega) h2 h3 h4
theorem wk_ends {f : Rel} {m lo j a b : Nat} (hin : ∀ x y, f x y = true → x < m ∧ y < m) (hj : 1 ≤ j) (h : Wk f lo j a b) : a < m ∧ b < m := by
  obtain ⟨q, rfl⟩ : ∃ q, j = q + 1 := ⟨j - 1, by omega⟩
  obtain ⟨u, _, h2, _⟩ := wk_last.1 h
  obtain ⟨c, _, _, h3, _⟩ := h
  exact ⟨(hin _ _ h3).1, (hin _ _ h2).2⟩
theorem BestR.none {f : Rel} {m at' : Nat} (h : BestR f m m 0 at') (hin : ∀ x y, f x y = true → x < m ∧ y < m) : NoCyc f := fun s j hs h1 _ hw => by
  obtain ⟨n', g1, g2, g3⟩ := wk_cut hin j j s s (Nat.le_refl _) h1 hw
  exact (h.zero rfl).2 s n' (wk_ends hin h1 hw).1 g1 g2 g3
theorem BestR.min {f : Rel} {m best at' : Nat} (h : BestR f m m best at') (hb : best ≠ 0) (hm : m ≤ 12) (hin : ∀ x y, f x y = true → x < m ∧ y < m) : MinCyc f best at' := by
  obtain ⟨h1, h2, h3, h4⟩ := h.pos hb
  have hle := h.le
  refine ⟨by omega, by omega, by omega, h2, fun s n hs hn hw => ?_, fun s n hs hn hw => ?_⟩
  · by_cases hnm : n ≤ m
    · exact h3 s n (wk_ends hin hn hw).1 hn hnm hw
    · omega
  · by_cases hnm : n ≤ m
    · exact h4 s n hs hn hnm hw
    · omega
theorem least_ex {P : Nat → Prop} : ∀ (k j : Nat), j ≤ k → P j → ∃ i, i ≤ j ∧ P i ∧ ∀ i', i' < i → ¬ P i'
  | 0, j, h, hp => ⟨j, Nat.le_refl _, hp, fun i' hi => by omega⟩
  | k + 1, j, h, hp => by
    by_cases hl : ∃ i, i < j ∧ P i
    · obtain ⟨i, g1, g2⟩ := hl
      obtain ⟨i2, q1, q2, q3⟩ := least_ex k i (by omega) g2
      exact ⟨i2, by omega, q2, q3⟩
    · exact ⟨j, Nat.le_refl _, hp, fun i' hi hc => hl ⟨i', hi, hc⟩⟩
/-- Distances there are. -/
theorem isDist_ex (f : Rel) (to : Nat) : ∃ d, IsDist f to d := by
  have key : ∀ v, ∃ k, k ≤ 13 ∧ (k < 13 → to ≤ v ∧ Wk f to k v to) ∧ ∀ n, n ≤ 12 → to ≤ v → Wk f to n v to → k ≤ n := fun v => by
    by_cases h : to ≤ v ∧ ∃ j, j ≤ 12 ∧ Wk f to j v to
    · obtain ⟨h1, j, h2, h3⟩ := h
      obtain ⟨i, g1, g2, g3⟩ := least_ex (P := fun j => Wk f to j v to) j j (Nat.le_refl _) h3
      exact ⟨i, by omega, fun _ => ⟨h1, g2⟩, fun n _ _ hw => by
        refine Classical.byContradiction fun hc => g3 n (by omega) hw⟩
    · exact ⟨13, Nat.le_refl _, fun hc => by omega, fun n h1 h2 h3 => absurd ⟨h2, n, h1, h3⟩ h⟩
  refine ⟨fun v => Classical.choose (key v), ?_, fun v _ => (Classical.choose_spec (key v)).1, fun v _ h => (Classical.choose_spec (key v)).2.1 h, fun n v h1 h2 _ h3 => (Classical.choose_spec (key v)).2.2 n h1 h2 h3⟩
  have := (Classical.choose_spec (key to)).2.2 0 (by omega) (Nat.le_refl _) rfl
  omega
theorem way_dist {f : Rel} {to v m k : Nat} {d : Arr} (hd : IsDist f to d) (hv : to ≤ v) (hv12 : v < 12) (hne : v ≠ to) (hm : m ≤ 12) (hk : 1 ≤ k) (hkm : k ≤ m) : wayN f m to v to = k ↔ d v = k := by
  constructor
  · intro h
    rcases wayN_is f m to v to with ⟨h1, _⟩ | ⟨_, _, h3, h4⟩
    · omega
    · rw [h] at h3 h4
      have h5 := hd.up k v (by omega) hv hv12 h3
      have h6 := (hd.wk v hv12 (by omega)).2
      by_cases h0 : d v = 0
      · rw [h0] at h6
        exact absurd h6 hne
      · by_cases hlt : d v < k
        · exact absurd h6 (h4 _ (by omega) hlt)
        · omega
  · intro h
    have h6 := (hd.wk v hv12 (by omega)).2
    rw [h] at h6
    refine wayN_eq (.inr ⟨hk, hkm, h6, fun j h1 h2 h3 => ?_⟩)
    have := hd.up j v (by omega) hv hv12 h3
    omega
/-- Related in the closure: the same value, or a way. -/
theorem strong_rel {f : Rel} {m a b : Nat} (hin : ∀ x y, f x y = true → x < m ∧ y < m) (ha : a < m) : (a == b || decide (0 < wayN f m 0 a b)) = diagR (clR f) m a b := by
  rw [Bool.eq_iff_iff]
  simp only [diagR, Bool.or_eq_true, clR_iff, Bool.and_eq_true, beq_iff_eq, decide_eq_true_eq]
  constructor
  · rintro (rfl | h)
    · exact .inr ⟨rfl, ha⟩
    · left
      have hw := wayN_wk h
      obtain ⟨q, hq⟩ : ∃ q, wayN f m 0 a b = q + 1 := ⟨wayN f m 0 a b - 1, by omega⟩
      rw [hq] at hw
      exact ⟨q, hw⟩
  · rintro (⟨n, hw⟩ | ⟨rfl, _⟩)
    · obtain ⟨n', g1, g2, g3⟩ := wk_cut hin (n + 1) (n + 1) a b (Nat.le_refl _) (by omega) hw
      exact .inr (wayN_low g1 g2 g3).1
    · exact .inl rfl
/-- A circle there is exactly where some value leads back to itself. -/
theorem circ_nil {f : Rel} {C : List Nat} (h : IsCirc f C) : cycB (clR f) = decide (0 < C.length) := by
  rcases h with ⟨rfl, hno⟩ | ⟨best, at', d, last, hm, hd, hlen, hp⟩
  · have : cycB (clR f) = false := by
      refine Bool.eq_false_iff.2 fun hc => ?_
      simp only [cycB, List.any_eq_true, clR_iff] at hc
      obtain ⟨a, _, hr⟩ := hc
      exact nocyc_reach hno a hr
    rw [this]
    rfl
  · have h1 := hm.pos
    have : cycB (clR f) = true := by
      simp only [cycB, List.any_eq_true, List.mem_range, clR_iff]
      refine ⟨at', hm.lt, ?_⟩
      obtain ⟨q, rfl⟩ : ∃ q, best = q + 1 := ⟨best - 1, by omega⟩
      exact ⟨q, wk_lo (Nat.zero_le _) hm.wk⟩
    rw [this]
    simp; omega
/-- There is one circle to report. -/
theorem circ_one {f : Rel} {C C' : List Nat} (h : IsCirc f C) (h' : IsCirc f C') : C = C' := by
  have hl : (0 < C.length) ↔ (0 < C'.length) := by
    have := circ_nil h
    rw [circ_nil h', decide_eq_decide] at this
    exact this.symm
  rcases h with ⟨rfl, hno⟩ | ⟨best, at', d, last, hm, hd, hlen, hp⟩
  · have : ¬ 0 < C'.length := fun hc => by have := hl.2 hc; simp at this
    exact (List.eq_nil_of_length_eq_zero (by omega)).symm
  · rcases h' with ⟨rfl, hno⟩ | ⟨best', at2, d', last', hm', hd', hlen', hp'⟩
    · have h1 := hp.len
      have := hl.1 (by omega)
      simp at this
    · have e1 : best = best' := by
        have h1 := hm.low at2 best' hm'.lt hm'.pos hm'.wk
        have h2 := hm'.low at' best hm.lt hm.pos hm.wk
        omega
      subst e1
      have e2 : at' = at2 := by
        by_cases h1 : at' < at2
        · have := hm'.first at' best h1 hm.pos hm.wk
          omega
        · by_cases h2 : at2 < at'
          · have := hm.first at2 best h2 hm'.pos hm'.wk
            omega
          · omega
      subst e2
      have hdd : ∀ v, at' ≤ v → v < 12 → d v = d' v := fun v hv hv12 => by
        have a1 := hd.le v hv12
        have a2 := hd'.le v hv12
        by_cases h1 : d v < 13
        · have := hd'.up (d v) v (by omega) hv hv12 (hd.wk v hv12 h1).2
          by_cases h2 : d' v < 13
          · have := hd.up (d' v) v (by omega) hv hv12 (hd'.wk v hv12 h2).2
            omega
          · omega
        · by_cases h2 : d' v < 13
          · have := hd.up (d' v) v (by omega) hv hv12 (hd'.wk v hv12 h2).2
            omega
          · omega
      have key : ∀ i, i < best → C[i]? = C'[i]? := fun i => by
        induction i with
        | zero => intro _; rw [hp.head, hp'.head]
        | succ i ih =>
          intro hi
          obtain ⟨u, v, g1, g2, g3⟩ := hp.next i (by omega)
          obtain ⟨u', v', q1, q2, q3⟩ := hp'.next i (by omega)
          have := ih (by omega)
          rw [g1, q1] at this
          cases this
          rw [g2, q2]
          have : v = v' := by
            by_cases h1 : v < v'
            · exact absurd ⟨g3.pair, by rw [← hdd v g3.lo g3.lt]; exact g3.dist⟩ (q3.least v g3.lo h1)
            · by_cases h2 : v' < v
              · exact absurd ⟨q3.pair, by rw [hdd v' q3.lo q3.lt]; exact q3.dist⟩ (g3.least v' q3.lo h2)
              · omega
          rw [this]
      apply List.ext_getElem?
      intro i
      by_cases hi : i < best
      · exact key i hi
      · rw [List.getElem?_eq_none (by omega), List.getElem?_eq_none (by omega)]
end Go.Proofs.Ytbafcfbchbjgfaa
