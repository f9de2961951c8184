/- What LexErrors asks. Plain. -/
import Derived.Test.YtjenpmeknlgadaaDoorJoinsPlain
namespace Go.Proofs.YtjenpmeknlgadaaDoor
open Go.RowKit
set_option linter.unusedSimpArgs false
set_option linter.unusedVariables false

theorem span_rest {p : Int → Bool} (hp : p 0 = false) (l : List UInt8) : p (headI (l.drop (spanN p l))) = false := by
  cases h : l.drop (spanN p l) with
  | nil => exact hp
  | cons c r => exact takeWhile_drop_head (p := fun c => p c.toNat) l c r h
theorem rest_eq {l t r : List UInt8} {n : Nat} (h : l = t ++ r) (ht : t = l.take n) : r = l.drop n := by
  have h1 := List.take_append_drop n l
  rw [← ht] at h1
  have h2 : t ++ l.drop n = t ++ r := h1.trans h
  exact (List.append_cancel_left h2).symm
theorem next_ends {l r : List UInt8} {t : TK} (h : nextP l = (t, 0)) (hl : l = t.text ++ r) : (t.kind = 0 → wordI (headI r) = false) ∧ (t.kind = 1 → digitI (headI r) = false) ∧ (t.kind = 2 → signP l = some t.text) := by
  unfold nextP at h
  split at h
  · split at h
    · simp only [Prod.mk.injEq] at h
      obtain ⟨rfl, _⟩ := h
      refine ⟨fun _ => ?_, (by intro h; cases h), (by intro h; cases h)⟩
      rw [rest_eq hl rfl]
      exact span_rest (by decide) l
    · simp at h
  · split at h
    · split at h
      · simp only [Prod.mk.injEq] at h
        obtain ⟨rfl, _⟩ := h
        refine ⟨(by intro h; cases h), fun _ => ?_, (by intro h; cases h)⟩
        rw [rest_eq hl rfl]
        exact span_rest (by decide) l
      · simp at h
    · split at h
      · rename_i x hs
        simp only [Prod.mk.injEq] at h
        obtain ⟨rfl, _⟩ := h
        exact ⟨(by intro h; cases h), (by intro h; cases h), fun _ => hs⟩
      · simp at h
theorem next_cut {l r : List UInt8} {t : TK} (h : nextP l = (t, 0)) (hl : l = t.text ++ r) (m : Nat) : nextP (t.text ++ r.take m) = (t, 0) := by
  have hg := good_next h
  obtain ⟨h0, h1, h2⟩ := next_ends h hl
  by_cases hm : r.take m = []
  · rw [hm]
    exact hg.next_free [] (by decide) (by decide)
  · obtain ⟨c, r, rfl⟩ : ∃ c r', r = c :: r' := by
      cases r with
      | nil => simp at hm
      | cons c r => exact ⟨c, r, rfl⟩
    obtain ⟨m, rfl⟩ : ∃ m', m = m' + 1 := by
      cases m with
      | zero => simp at hm
      | succ m => exact ⟨m, rfl⟩
    rw [List.take_succ_cons]
    refine hg.next _ h0 h1 fun hk => ?_
    rw [← sign_two t.text hg.ne c r, ← hl]
    exact h2 hk
theorem glue_err {t : TP} {r : List TP × Int × Int} {ts : List TP} {a c : Int} (h : glue t r = (ts, a, c)) (hc : c ≠ 0) : r = (r.1, a, c) := by
  unfold glue at h
  split at h
  · rename_i h0
    simp only [Prod.mk.injEq] at h
    rw [h.2] at h0
    exact absurd h0 hc
  · simp only [Prod.mk.injEq] at h
    exact Prod.ext rfl h.2
theorem glue_oks (t : TP) {us : List TP} {a : Int} : glue t (us, a, 0) = (t :: us, a, 0) := by simp [glue]
theorem err_cut : ∀ (f k : Nat) (l : List UInt8) (ts : List TP) (a c : Int), l.length < f → lexGo f l k = (ts, a, c) → c ≠ 0 → ∃ m : Nat, a = ((k + m : Nat) : Int) ∧ m < l.length ∧ (∃ us x, lexGo f (l.take m) k = (us, x, 0)) ∧ ∀ f' d, lexGo (f' + 1) (l.drop m) d = ([], (d : Int), c)
  | 0, _, _, _, _, _, hf, _, _ => by omega
  | f + 1, k, l, ts, a, c, hf, h, hc => by
    obtain ⟨b, hb, hbl, h1 | ⟨h1, h2⟩ | ⟨h1, t, r, h2, h3, h4, h5⟩⟩ := lexGo_ways l
    · rw [lexGo_fin hb h1] at h
      simp only [Prod.mk.injEq] at h
      exact absurd h.2.2.symm hc
    · rw [lexGo_bad hb h1 h2] at h
      simp only [Prod.mk.injEq] at h
      have hlt := len_pos h1
      rw [List.length_drop] at hlt
      have hbb : spanN blankI (l.take b) = b := spanN_at (fun i hi => by
        obtain ⟨c, q1, q2⟩ := span_get l i (by rw [hb]; exact hi)
        exact ⟨c, by rw [List.getElem?_take_of_lt hi]; exact q1, q2⟩) (fun c hc => by
        rw [List.getElem?_eq_none (by rw [List.length_take]; omega)] at hc
        cases hc)
      have h0 : spanN blankI (l.drop b) = 0 := span_zero (by rw [← hb]; exact span_rest (by decide) l)
      refine ⟨b, h.2.1.symm, by omega, ⟨_, _, lexGo_fin hbb (by simp)⟩, fun f' d => ?_⟩
      have := lexGo_bad (f := f') (k := d) h0 (by simpa using h1) (by simpa using h2)
      rw [List.drop_zero, h.2.2] at this
      exact this
    · rw [lexGo_tok hb h1 h2] at h
      have hp := len_pos h3.ne
      have hlen := congrArg List.length h4
      rw [List.length_drop, List.length_append] at hlen
      have hg := glue_err h hc
      rw [h5] at hg
      obtain ⟨m, hm, hml, ⟨us, x, hu⟩, hd⟩ := err_cut f _ _ _ a c (by omega) hg hc
      have htk : (l.take (b + t.text.length + m)).drop b = t.text ++ r.take m := by
        rw [List.drop_take, h4, show b + t.text.length + m - b = t.text.length + m by omega, List.take_length_add_append]
      have hbb : spanN blankI (l.take (b + t.text.length + m)) = b := by
        have e : l.take (b + t.text.length + m) = l.take b ++ (t.text ++ r.take m) := by
          rw [Nat.add_assoc, List.take_add, h4, List.take_length_add_append]
        have e2 : l = l.take b ++ (t.text ++ r) := by rw [← h4, List.take_append_drop]
        have q1 := span_app (p := blankI) (l.take b) (t.text ++ r.take m) (by rw [head_app h3.ne]; exact h3.blank)
        have q2 := span_app (p := blankI) (l.take b) (t.text ++ r) (by rw [head_app h3.ne]; exact h3.blank)
        rw [← e2, hb] at q2
        rw [e, q1, ← q2]
      refine ⟨b + t.text.length + m, by rw [hm]; simp; omega, by omega, ⟨t.at (k + b) :: us, x, ?_⟩, fun f' d => ?_⟩
      · rw [lexGo_tok hbb (by rw [htk]; simp [h3.ne]) (by rw [htk]; exact next_cut h2 h4 m), ← List.drop_drop, htk, List.drop_left, hu, glue_oks]
      · rw [← List.drop_drop, h5]
        exact hd f' d
section
variable {T R : List UInt8}
theorem errs_ok (hT : T.length ≤ 3000) {ts : List TP} {a c : Int} (h : lexS T = (ts, a, c)) (hR : spanN blankI R = R.length) (hl : (T ++ R).length = 8000) : ∃ us x, lexS (T ++ R) = (us, x, c) ∧ us.length = ts.length ∧ ts.length ≤ 3001 := by
  rw [lexS_go (by omega)] at h
  have hne : R ≠ [] := by rintro rfl; rw [List.append_nil] at hl; omega
  have hb : blankI (headI R) = true := by
    cases R with
    | nil => exact absurd rfl hne
    | cons c R =>
      unfold spanN at hR
      rw [List.takeWhile_cons] at hR
      split at hR
      · assumption
      · simp at hR
  obtain ⟨h1, h2⟩ := lex_app (r := R) (Or.inl hb) (T.length + 1) ((T ++ R).length + 1) T 0 (by omega) (by omega)
  rw [lexS_go (by omega)]
  by_cases hc : c = 0
  · subst hc
    obtain ⟨us, hu, hRR⟩ := h2 ts a h
    obtain ⟨_, L, hL, _, _, hn⟩ := lexGo_ok _ _ _ _ _ h
    have hlen := congrArg List.length hL
    rw [hRR (R.length + 1) (by omega), lexGo_fin hR (by simp), hu]
    simp at hlen
    exact ⟨us ++ [endT (0 + T.length + R.length)], 0, by simp [comb], by simp, by rw [← hu]; omega⟩
  · have h3 := lexGo_err (T.length + 1) T 0 (by rw [h]; exact hc)
    rw [h] at h3 h1
    simp only at h3
    subst h3
    exact ⟨[], a, h1 hc, rfl, by simp⟩
theorem errs_codes : ∀ (f k : Nat) (l : List UInt8) (ts : List TP) (a c : Int), l.length < f → lexGo f l k = (ts, a, c) → c = 0 ∨ c = 15 ∨ c = 3 ∨ c = 13
  | 0, _, _, _, _, _, hf, _ => by omega
  | f + 1, k, l, ts, a, c, hf, h => by
    obtain ⟨b, hb, hbl, h1 | ⟨h1, h2⟩ | ⟨h1, t, r, h2, h3, h4, h5⟩⟩ := lexGo_ways l
    · rw [lexGo_fin hb h1] at h
      simp only [Prod.mk.injEq] at h
      exact Or.inl h.2.2.symm
    · rw [lexGo_bad hb h1 h2] at h
      simp only [Prod.mk.injEq] at h
      rw [← h.2.2]
      exact nextP_code _
    · by_cases hc : c = 0
      · exact Or.inl hc
      · rw [lexGo_tok hb h1 h2] at h
        have hp := len_pos h3.ne
        have hlen := congrArg List.length h4
        rw [List.length_drop, List.length_append] at hlen
        have hg := glue_err h hc
        rw [h5] at hg
        exact errs_codes f _ _ _ a c (by omega) hg
/-- THE LAW OF LexErrors: an error. -/
theorem errs_cut (hT : T.length ≤ 3000) {ts : List TP} {a c : Int} (h : lexS T = (ts, a, c)) (hc : c ≠ 0) :
    ts = [] ∧ (c = 15 ∨ c = 3 ∨ c = 13) ∧ ∃ m : Nat, a = (m : Int) ∧ m < T.length ∧ (∃ us x, lexS (T.take m) = (us, x, 0)) ∧ lexS (T.drop m) = ([], 0, c) := by
  have h' := h
  rw [lexS_go (by omega)] at h
  obtain ⟨m, hm, hml, ⟨us, x, hu⟩, hd⟩ := err_cut _ _ _ _ _ _ (by omega) h hc
  refine ⟨(places_bad hT h' hc).1, ?_, m, by rw [hm, Nat.zero_add], hml, ⟨us, x, ?_⟩, ?_⟩
  · rcases errs_codes _ _ _ _ _ _ (by omega) h with h | h
    · exact absurd h hc
    · exact h
  · rw [lexS_go (by rw [List.length_take]; omega), ← hu]
    exact lex_fuel _ _ _ _ (by omega) (by rw [List.length_take]; omega)
  · rw [lexS_go (by rw [List.length_drop]; omega)]
    exact hd _ 0
theorem errs_full (h : T.length = 8001) : lexS T = ([], 0, 6) := by unfold lexS; rw [if_pos (by omega)]
end
end Go.Proofs.YtjenpmeknlgadaaDoor
