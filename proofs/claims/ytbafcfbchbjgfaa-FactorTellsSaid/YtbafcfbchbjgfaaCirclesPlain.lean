/- The least circle: turned to its least value; its values are all different. Plain. -/
import Derived.Test.YtbafcfbchbjgfaaClo
namespace Go.Proofs.Ytbafcfbchbjgfaa
open Go.RowKit
set_option linter.unusedSimpArgs false
set_option linter.unusedVariables false

theorem wk_split {f : Rel} {lo : Nat} : ∀ {n a b : Nat}, Wk f lo n a b → Wk f (lo + 1) n a b ∨ ∃ i j, i + j = n ∧ Wk f lo i a lo ∧ Wk f lo j lo b
  | 0, a, b, h => .inl h
  | n + 1, a, b, ⟨c, h1, h2, h3, h4⟩ => by
    by_cases hc : c = lo
    · subst hc
      exact .inr ⟨1, n, by omega, ⟨c, h1, h2, h3, rfl⟩, h4⟩
    · rcases wk_split h4 with h5 | ⟨i, j, h5, h6, h7⟩
      · exact .inl ⟨c, by omega, h2, h3, h5⟩
      · exact .inr ⟨i + 1, j, by omega, ⟨c, h1, h2, h3, h6⟩, h7⟩
theorem wk_rotate {f : Rel} {n : Nat} (hn : 1 ≤ n) : ∀ (k lo s : Nat), 12 - lo ≤ k → Wk f lo n s s → ∃ s', s' < 12 ∧ Wk f s' n s' s'
  | 0, lo, s, hk, h => by
    obtain ⟨n, rfl⟩ : ∃ q, n = q + 1 := ⟨n - 1, by omega⟩
    obtain ⟨c, h1, h2, _⟩ := h
    omega
  | k + 1, lo, s, hk, h => by
    have hlo : lo < 12 := by
      obtain ⟨q, rfl⟩ : ∃ q, n = q + 1 := ⟨n - 1, by omega⟩
      obtain ⟨c, h1, h2, _⟩ := h
      omega
    rcases wk_split h with h1 | ⟨i, j, h1, h2, h3⟩
    · exact wk_rotate hn k (lo + 1) s (by omega) h1
    · exact ⟨lo, hlo, by have := h3.app h2; rw [Nat.add_comm, h1] at this; exact this⟩
theorem min_low {f : Rel} {best at' n s : Nat} (h : MinCyc f best at') (hn : 1 ≤ n) (hw : Wk f 0 n s s) : best ≤ n := by
  obtain ⟨s', h1, h2⟩ := wk_rotate hn 12 0 s (by omega) hw
  exact h.low s' n h1 hn h2
theorem wk_lo {f : Rel} {lo lo' : Nat} (hl : lo' ≤ lo) : ∀ {n a b : Nat}, Wk f lo n a b → Wk f lo' n a b
  | 0, _, _, h => h
  | n + 1, _, _, ⟨c, h1, h2, h3, h4⟩ => ⟨c, by omega, h2, h3, wk_lo hl h4⟩
theorem pre_at {f : Rel} {best at' : Nat} {d : Arr} {C : List Nat} {last : Nat} (h : CirPre f best at' d C last) : ∀ (k i u v : Nat), C[i]? = some u → C[i + k]? = some v → Wk f 0 k u v
  | 0, i, u, v, h1, h2 => by
    rw [Nat.add_zero, h1] at h2
    cases h2
    rfl
  | k + 1, i, u, v, h1, h2 => by
    have hl := (List.getElem?_eq_some_iff.1 h2).1
    obtain ⟨u', x, h3, h4, h5⟩ := h.next i (by omega)
    rw [h1] at h3
    cases h3
    exact ⟨x, Nat.zero_le _, h5.lt, h5.pair, pre_at h k (i + 1) x v h4 (by rw [Nat.add_assoc, Nat.add_comm 1 k]; exact h2)⟩
theorem pre_distinct {f : Rel} {best at' : Nat} {d : Arr} {C : List Nat} {last : Nat} (hm : MinCyc f best at') (h : CirPre f best at' d C last) {i k u : Nat} (hik : i < k) (h1 : C[i]? = some u) (h2 : C[k]? = some u) : False := by
  have hw := pre_at h (k - i) i u u h1 (by rw [show i + (k - i) = k by omega]; exact h2)
  have := min_low hm (by omega) hw
  have hk := (List.getElem?_eq_some_iff.1 h2).1
  have := h.le
  omega
theorem pre_lo {f : Rel} {best at' : Nat} {d : Arr} {C : List Nat} {last : Nat} (h : CirPre f best at' d C last) {i u : Nat} (h1 : C[i]? = some u) : at' ≤ u := by
  match i with
  | 0 => rw [h.head] at h1; cases h1; exact Nat.le_refl _
  | i + 1 =>
    obtain ⟨_, v, _, h2, h3⟩ := h.next i (List.getElem?_eq_some_iff.1 h1).1
    rw [h1] at h2
    cases h2
    exact h3.lo
theorem pre_last {f : Rel} {best at' : Nat} {d : Arr} {C : List Nat} {last : Nat} (h : CirPre f best at' d C last) (hlen : C.length = best) : f last at' = true := by
  have hb := h.back
  rw [hlen, Nat.sub_self] at hb
  obtain ⟨c, _, _, h3, h4⟩ := hb
  have : c = at' := h4
  subst this
  exact h3
/-- Distinct numbers below m: at most m. -/
theorem nodup_le : ∀ {m : Nat} {C : List Nat}, (∀ x ∈ C, x < m) → C.Nodup → C.length ≤ m
  | 0, [], _, _ => Nat.le_refl _
  | 0, x :: C, h1, _ => absurd (h1 x (by simp)) (by omega)
  | m + 1, C, h1, h2 => by
    by_cases hm : m ∈ C
    · have := nodup_le (m := m) (C := C.erase m) (fun x hx => by
        have h3 := (List.Nodup.mem_erase_iff h2).1 hx
        have := h1 x h3.2
        have := h3.1
        omega) (h2.erase m)
      rw [List.length_erase_of_mem hm] at this
      omega
    · have := nodup_le (m := m) (C := C) (fun x hx => by
        have := h1 x hx
        have : x ≠ m := fun hc => hm (hc ▸ hx)
        omega) h2
      omega
theorem wk_nodes {f : Rel} {lo : Nat} : ∀ {n a b : Nat}, Wk f lo n a b → ∃ L : List Nat, L.length = n ∧ ∀ (i v : Nat), L[i]? = some v → v < 12 ∧ Wk f lo (i + 1) a v ∧ Wk f lo (n - (i + 1)) v b
  | 0, a, b, h => ⟨[], rfl, fun i v hv => by simp at hv⟩
  | n + 1, a, b, ⟨c, h1, h2, h3, h4⟩ => by
    obtain ⟨L, hl, hL⟩ := wk_nodes h4
    refine ⟨c :: L, by simp [hl], fun i v hv => ?_⟩
    match i, hv with
    | 0, hv =>
      have : c = v := by simpa using hv
      subst this
      exact ⟨h2, ⟨c, h1, h2, h3, rfl⟩, by simpa using h4⟩
    | i + 1, hv =>
      obtain ⟨g1, g2, g3⟩ := hL i v (by simpa using hv)
      exact ⟨g1, ⟨c, h1, h2, h3, g2⟩, by rw [Nat.add_sub_add_right]; exact g3⟩
/-- Some circle has at most 12 pairs. -/
theorem wk_short {f : Rel} : ∀ (k n s : Nat), n ≤ k → 1 ≤ n → Wk f 0 n s s → ∃ n' s', 1 ≤ n' ∧ n' ≤ 12 ∧ s' < 12 ∧ Wk f 0 n' s' s'
  | 0, n, s, h1, h2, _ => by omega
  | k + 1, n, s, h1, h2, hw => by
    obtain ⟨L, hl, hL⟩ := wk_nodes hw
    by_cases hn : n ≤ 12
    · refine ⟨n, s, h2, hn, ?_, hw⟩
      have hi : L[n - 1]? = some (L[n - 1]'(by omega)) := List.getElem?_eq_getElem (by omega)
      obtain ⟨g1, _, g3⟩ := hL _ _ hi
      rw [show n - (n - 1 + 1) = 0 by omega] at g3
      have : L[n - 1]'(by omega) = s := g3
      omega
    · by_cases hd : L.Nodup
      · have := nodup_le (m := 12) (fun x hx => by
          obtain ⟨i, hi⟩ := List.getElem?_of_mem hx
          exact (hL i x hi).1) hd
        omega
      · have : ∃ (i j v : Nat), i < j ∧ L[i]? = some v ∧ L[j]? = some v := by
          refine Classical.byContradiction fun hc => hd ?_
          rw [List.Nodup, List.pairwise_iff_getElem]
          intro i j hi hj hij he
          exact hc ⟨i, j, L[i], hij, List.getElem?_eq_getElem hi, by rw [List.getElem?_eq_getElem hj, he]⟩
        obtain ⟨i, j, v, hij, hi, hj⟩ := this
        have hjl := (List.getElem?_eq_some_iff.1 hj).1
        have hw2 : Wk f 0 (i + 1 + (n - (j + 1))) s s := (hL i v hi).2.1.app (hL j v hj).2.2
        exact wk_short k (i + 1 + (n - (j + 1))) s (by omega) (by omega) hw2
theorem nocyc_reach {f : Rel} (h : NoCyc f) (a : Nat) : ¬ Reach f a a := by
  rintro ⟨n, hw⟩
  obtain ⟨n', s', h1, h2, h3, h4⟩ := wk_short (n + 1) (n + 1) a (Nat.le_refl _) (by omega) hw
  obtain ⟨s2, h5, h6⟩ := wk_rotate h1 12 0 s' (by omega) h4
  exact h s2 n' h5 h1 h2 h6
/-- The least way back, as the law looks for it: of at most m pairs, from a value below m. -/
structure BackIs (f : Rel) (m back : Nat) : Prop where
  none : back = 0 → ∀ s n, s < m → 1 ≤ n → n ≤ m → ¬ Wk f 0 n s s
  some : back ≠ 0 → (∃ s, s < m ∧ Wk f 0 back s s) ∧ ∀ s n, s < m → 1 ≤ n → n ≤ m → Wk f 0 n s s → back ≤ n
/-- A circle handed back: as long as the least way back, its values different, each next one a pair. -/
theorem circ_law {f : Rel} {m back : Nat} {C : List Nat} (hin : ∀ a b, f a b = true → a < m ∧ b < m) (hcy : cycB (clR f) = true) (hb : BackIs f m back) (hc : IsCirc f C) :
    C.length = back ∧ back ≠ 0 ∧ (∀ (i u v : Nat), C[i]? = some u → C[(i + 1) % C.length]? = some v → f u v = true) ∧ (∀ (i u v : Nat), 0 < i → C[i]? = some u → C[0]? = some v → v < u) ∧ (∀ (i k u : Nat), i < k → C[i]? = some u → C[k]? = some u → False) ∧ ∀ x ∈ C, x < m := by
  rcases hc with ⟨_, hno⟩ | ⟨best, at', d, last, hm, hd, hlen, hp⟩
  · simp only [cycB, List.any_eq_true, clR_iff] at hcy
    obtain ⟨a, _, hr⟩ := hcy
    exact absurd hr (nocyc_reach hno a)
  · have hlast := pre_last hp hlen
    have hat := (hin _ _ hlast).2
    have hpos := hm.pos
    have hall : ∀ (i u : Nat), C[i]? = some u → u < m := fun i u hu => by
      match i with
      | 0 => rw [hp.head] at hu; cases hu; exact hat
      | i + 1 =>
        obtain ⟨_, v, _, h2, h3⟩ := hp.next i (List.getElem?_eq_some_iff.1 hu).1
        rw [hu] at h2
        cases h2
        exact (hin _ _ h3.pair).2
    have hmem : ∀ x ∈ C, x < m := fun x hx => by
      obtain ⟨i, hi⟩ := List.getElem?_of_mem hx
      exact hall i x hi
    have hdis : ∀ (i k u : Nat), i < k → C[i]? = some u → C[k]? = some u → False := fun i k u h1 h2 h3 => pre_distinct hm hp h1 h2 h3
    have hnd : C.Nodup := by
      rw [List.Nodup, List.pairwise_iff_getElem]
      intro i j hi hj hij he
      exact hdis i j C[i] hij (List.getElem?_eq_getElem hi) (by rw [List.getElem?_eq_getElem hj, he])
    have hle : best ≤ m := by rw [← hlen]; exact nodup_le hmem hnd
    have hw0 : Wk f 0 best at' at' := wk_lo (Nat.zero_le _) hm.wk
    have hb0 : back ≠ 0 := fun h0 => hb.none h0 at' best hat hpos hle hw0
    obtain ⟨⟨s, _, hs⟩, hlow⟩ := hb.some hb0
    have e1 := hlow at' best hat hpos hle hw0
    have e2 := min_low hm (by omega) hs
    refine ⟨by omega, hb0, fun i u v h1 h2 => ?_, fun i u v h0 h1 h2 => ?_, hdis, hmem⟩
    · have hi := (List.getElem?_eq_some_iff.1 h1).1
      by_cases hi2 : i + 1 < C.length
      · rw [Nat.mod_eq_of_lt hi2] at h2
        obtain ⟨u', v', g1, g2, g3⟩ := hp.next i hi2
        rw [h1] at g1
        rw [h2] at g2
        cases g1; cases g2
        exact g3.pair
      · have hi3 : i + 1 = C.length := by omega
        rw [hi3, Nat.mod_self, hp.head] at h2
        cases h2
        have := hp.lst
        rw [← hi3, Nat.add_sub_cancel, h1] at this
        cases this
        exact hlast
    · rw [hp.head] at h2
      cases h2
      have := pre_lo hp h1
      have : at' ≠ u := fun he => hdis 0 i u h0 (by rw [hp.head, he]) h1
      omega
theorem nocirc_law {f : Rel} {m back : Nat} (hcy : cycB (clR f) = false) (hm : m ≤ 12) (hb : BackIs f m back) : back = 0 := by
  refine Classical.byContradiction fun h0 => ?_
  obtain ⟨⟨s, hs, hw⟩, _⟩ := hb.some h0
  obtain ⟨n, rfl⟩ : ∃ n, back = n + 1 := ⟨back - 1, by omega⟩
  have : cycB (clR f) = true := by
    simp only [cycB, List.any_eq_true, List.mem_range]
    exact ⟨s, by omega, clR_iff.2 ⟨n, hw⟩⟩
  rw [hcy] at this
  cases this
end Go.Proofs.Ytbafcfbchbjgfaa
