/- The least of the smallest circles, as package factor searches it. Plain. -/
import Derived.Test.YtbafcfbchbjgfaaHomePlain
namespace Go.Proofs.Ytbafcfbchbjgfaa
open Go.RowKit
set_option linter.unusedSimpArgs false
set_option linter.unusedVariables false

/-- The search for the smallest circle, ahead of the pair (s, v). -/
structure Best (f : Rel) (s v best at' : Nat) : Prop where
  le : best ≤ 13
  lt : at' < 12
  pos : 1 ≤ best
  found : best < 13 → at' ≤ s ∧ Wk f at' best at' at'
  low : ∀ s' c n, s' ≤ c → c < 12 → f s' c = true → n ≤ 12 → Wk f s' n c s' → (s' < s ∨ (s' = s ∧ c < v)) → best ≤ n + 1
  first : best < 13 → ∀ s' c n, s' < at' → s' ≤ c → c < 12 → f s' c = true → n ≤ 12 → Wk f s' n c s' → best < n + 1
theorem Best.start (f : Rel) : Best f 0 0 13 0 := ⟨Nat.le_refl _, by omega, by omega, fun h => by omega, fun s' c n _ _ _ _ _ h => by omega, fun h => by omega⟩
theorem Best.yes {f : Rel} {s v best at' : Nat} {d : Arr} (h : Best f s v best at') (hd : IsDist f s d) (hs : s ≤ v) (hv : v < 12) (hf : f s v = true) (hlt : d v + 1 < best) : Best f s (v + 1) (d v + 1) s := by
  have hle := h.le
  refine ⟨by omega, by omega, by omega, fun _ => ⟨Nat.le_refl _, v, hs, hv, hf, (hd.wk v hv (by omega)).2⟩, fun s' c n h1 h2 h3 h4 h5 h6 => ?_, fun _ s' c n h0 h1 h2 h3 h4 h5 => ?_⟩
  · by_cases hc : s' = s ∧ c = v
    · obtain ⟨rfl, rfl⟩ := hc
      have := hd.up n c h4 h1 h2 h5
      omega
    · have := h.low s' c n h1 h2 h3 h4 h5 (by omega)
      omega
  · have := h.low s' c n h1 h2 h3 h4 h5 (.inl h0)
    omega
theorem Best.no {f : Rel} {s v best at' : Nat} {d : Arr} (h : Best f s v best at') (hd : IsDist f s d) (hs : s ≤ v) (hv : v < 12) (hn : f s v = false ∨ ¬ d v + 1 < best) : Best f s (v + 1) best at' := by
  refine ⟨h.le, h.lt, h.pos, h.found, fun s' c n h1 h2 h3 h4 h5 h6 => ?_, h.first⟩
  by_cases hc : s' = s ∧ c = v
  · obtain ⟨rfl, rfl⟩ := hc
    rcases hn with hn | hn
    · rw [hn] at h3; cases h3
    · have := hd.up n c h4 h1 h2 h5
      omega
  · exact h.low s' c n h1 h2 h3 h4 h5 (by omega)
theorem Best.row {f : Rel} {s best at' : Nat} (h : Best f s 12 best at') : Best f (s + 1) (s + 1) best at' :=
  ⟨h.le, h.lt, h.pos, fun hb => ⟨by have := (h.found hb).1; omega, (h.found hb).2⟩, fun s' c n h1 h2 h3 h4 h5 h6 => h.low s' c n h1 h2 h3 h4 h5 (by omega), h.first⟩
/-- A smallest circle: its length, and the least value in it, as small as can be. -/
structure MinCyc (f : Rel) (best at' : Nat) : Prop where
  lt : at' < 12
  pos : 1 ≤ best
  le : best ≤ 12
  wk : Wk f at' best at' at'
  low : ∀ s n, s < 12 → 1 ≤ n → Wk f s n s s → best ≤ n
  first : ∀ s n, s < at' → 1 ≤ n → Wk f s n s s → best < n
theorem Best.min {f : Rel} {v best at' : Nat} (h : Best f 12 v best at') (hb : best < 13) : MinCyc f best at' := by
  refine ⟨h.lt, h.pos, by omega, (h.found hb).2, fun s n hs hn hw => ?_, fun s n hs hn hw => ?_⟩
  · obtain ⟨n, rfl⟩ : ∃ m, n = m + 1 := ⟨n - 1, by omega⟩
    obtain ⟨c, h1, h2, h3, h4⟩ := hw
    by_cases hn12 : n ≤ 12
    · exact h.low s c n h1 h2 h3 hn12 h4 (.inl hs)
    · omega
  · obtain ⟨n, rfl⟩ : ∃ m, n = m + 1 := ⟨n - 1, by omega⟩
    obtain ⟨c, h1, h2, h3, h4⟩ := hw
    by_cases hn12 : n ≤ 12
    · exact h.first hb s c n hs h1 h2 h3 hn12 h4
    · omega
/-- No circle of at most 12 pairs. -/
def NoCyc (f : Rel) : Prop := ∀ s n, s < 12 → 1 ≤ n → n ≤ 12 → ¬ Wk f s n s s
theorem Best.none {f : Rel} {v at' : Nat} (h : Best f 12 v 13 at') : NoCyc f := fun s n hs hn h12 hw => by
  obtain ⟨n, rfl⟩ : ∃ m, n = m + 1 := ⟨n - 1, by omega⟩
  obtain ⟨c, h1, h2, h3, h4⟩ := hw
  have := h.low s c n h1 h2 h3 (by omega) h4 (.inl hs)
  omega

/-- The next value of the circle: the least one that lies on a shortest way back. -/
structure IsNext (f : Rel) (at' : Nat) (d : Arr) (u m v : Nat) : Prop where
  lo : at' ≤ v
  lt : v < 12
  pair : f u v = true
  dist : d v = m
  least : ∀ x, at' ≤ x → x < v → ¬ (f u x = true ∧ d x = m)
structure CirPre (f : Rel) (best at' : Nat) (d : Arr) (C : List Nat) (last : Nat) : Prop where
  len : 1 ≤ C.length
  le : C.length ≤ best
  head : C[0]? = some at'
  next : ∀ i, i + 1 < C.length → ∃ u v, C[i]? = some u ∧ C[i + 1]? = some v ∧ IsNext f at' d u (best - (i + 1)) v
  lst : C[C.length - 1]? = some last
  lt : last < 12
  lo : at' ≤ last
  fro : Wk f at' (C.length - 1) at' last
  back : Wk f at' (best - C.length + 1) last at'
theorem CirPre.start {f : Rel} {best at' : Nat} {d : Arr} (h : MinCyc f best at') : CirPre f best at' d [at'] at' :=
  ⟨by simp, h.pos, rfl, fun i hi => by simp at hi, rfl, h.lt, Nat.le_refl _, rfl, by
    have := h.pos
    rw [show best - [at'].length + 1 = best by simp; omega]
    exact h.wk⟩
theorem CirPre.ex {f : Rel} {best at' : Nat} {d : Arr} {C : List Nat} {last : Nat} (h : CirPre f best at' d C last) (hm : MinCyc f best at') (hd : IsDist f at' d) (hlt : C.length < best) :
    ∃ c, at' ≤ c ∧ c < 12 ∧ f last c = true ∧ d c = best - C.length := by
  obtain ⟨c, h1, h2, h3, h4⟩ := h.back
  have h12 := hm.le
  have hlen := h.len
  have hup := hd.up _ c (by omega) h1 h2 h4
  refine ⟨c, h1, h2, h3, ?_⟩
  refine Classical.byContradiction fun hne => ?_
  have hw := (hd.wk c h2 (by omega)).2
  have hall : Wk f at' (C.length - 1 + (d c + 1)) at' at' := h.fro.app ⟨c, h1, h2, h3, hw⟩
  have := hm.low at' _ hm.lt (by omega) hall
  omega
theorem CirPre.snoc {f : Rel} {best at' : Nat} {d : Arr} {C : List Nat} {last v : Nat} (h : CirPre f best at' d C last) (hm : MinCyc f best at') (hd : IsDist f at' d) (hlt : C.length < best) (hn : IsNext f at' d last (best - C.length) v) : CirPre f best at' d (C ++ [v]) v := by
  have hlen := h.len
  have h12 := hm.le
  refine ⟨by simp, by simp; omega, ?_, fun i hi => ?_, by simp, hn.lt, hn.lo, ?_, ?_⟩
  · rw [List.getElem?_append_left (by omega)]
    exact h.head
  · rw [List.length_append, List.length_singleton] at hi
    by_cases hi2 : i + 1 < C.length
    · obtain ⟨u, x, h1, h2, h3⟩ := h.next i hi2
      exact ⟨u, x, by rw [List.getElem?_append_left (by omega)]; exact h1, by rw [List.getElem?_append_left hi2]; exact h2, h3⟩
    · have hi3 : i + 1 = C.length := by omega
      refine ⟨last, v, ?_, ?_, by rw [hi3]; exact hn⟩
      · rw [List.getElem?_append_left (by omega), show i = C.length - 1 by omega]
        exact h.lst
      · rw [List.getElem?_append_right (by omega), hi3]
        simp
  · have : Wk f at' (C.length - 1 + 1) at' v := h.fro.app ⟨v, hn.lo, hn.lt, hn.pair, rfl⟩
    rw [List.length_append, List.length_singleton, Nat.add_sub_cancel]
    rw [Nat.sub_add_cancel hlen] at this
    exact this
  · have := (hd.wk v hn.lt (by rw [hn.dist]; omega)).2
    rw [hn.dist] at this
    rw [List.length_append, List.length_singleton, show best - (C.length + 1) + 1 = best - C.length by omega]
    exact this
/-- What circle hands back. -/
def IsCirc (f : Rel) (C : List Nat) : Prop :=
  (C = [] ∧ NoCyc f) ∨ (∃ best at' d last, MinCyc f best at' ∧ IsDist f at' d ∧ C.length = best ∧ CirPre f best at' d C last)
end Go.Proofs.Ytbafcfbchbjgfaa
