/- Laws of the tokens of strings that are put together or cut. Plain. -/
import Derived.Test.YtjenpmeknlgadaaDoorPlacesPlain
namespace Go.Proofs.YtjenpmeknlgadaaDoor
open Go.RowKit
set_option linter.unusedSimpArgs false
set_option linter.unusedVariables false

theorem lex_fuel : ∀ (f f' : Nat) (l : List UInt8) (k : Nat), l.length < f → l.length < f' → lexGo f l k = lexGo f' l k
  | 0, _, _, _, h, _ => by omega
  | _ + 1, 0, _, _, _, h => by omega
  | f + 1, f' + 1, l, k, h, h' => by
    obtain ⟨b, hb, hbl, h1 | ⟨h1, h2⟩ | ⟨h1, t, r, h2, h3, h4, h5⟩⟩ := lexGo_ways l
    · rw [lexGo_fin hb h1, lexGo_fin hb h1]
    · rw [lexGo_bad hb h1 h2, lexGo_bad hb h1 h2]
    · have hp := len_pos h3.ne
      have hlen := congrArg List.length h4
      rw [List.length_drop, List.length_append] at hlen
      rw [lexGo_tok hb h1 h2, lexGo_tok hb h1 h2, lex_fuel f f' _ _ (by rw [h5]; omega) (by rw [h5]; omega)]
def TP.up (d : Nat) (t : TP) : TP := ⟨t.kind, t.text, t.n, t.pos + d⟩
def up3 (d : Nat) (r : List TP × Int × Int) : List TP × Int × Int := (r.1.map (TP.up d), if r.2.2 = 0 then r.2.1 else r.2.1 + d, r.2.2)
theorem glue_up (t : TP) (d : Nat) (r : List TP × Int × Int) : glue (t.up d) (up3 d r) = up3 d (glue t r) := by
  unfold glue up3
  by_cases h : r.2.2 = 0
  · simp [h]
  · simp [h]
theorem lex_up : ∀ (f : Nat) (l : List UInt8) (k d : Nat), l.length < f → lexGo f l (k + d) = up3 d (lexGo f l k)
  | 0, _, _, _, h => by omega
  | f + 1, l, k, d, h => by
    obtain ⟨b, hb, hbl, h1 | ⟨h1, h2⟩ | ⟨h1, t, r, h2, h3, h4, h5⟩⟩ := lexGo_ways l
    · rw [lexGo_fin hb h1, lexGo_fin hb h1]
      simp [up3, TP.up, endT]
      omega
    · rw [lexGo_bad hb h1 h2, lexGo_bad hb h1 h2]
      simp [up3, h2]
      omega
    · have hp := len_pos h3.ne
      have hlen := congrArg List.length h4
      rw [List.length_drop, List.length_append] at hlen
      rw [lexGo_tok hb h1 h2, lexGo_tok hb h1 h2, show k + d + b + t.text.length = k + b + t.text.length + d by omega, lex_up f _ _ d (by rw [h5]; omega), ← glue_up]
      congr 1
      simp [TP.up, TK.at]
      omega
theorem drop_more (l r : List UInt8) (b : Nat) : (l ++ r).drop (l.length + b) = r.drop b := by rw [← List.drop_drop, List.drop_left]
theorem span_more {p : Int → Bool} {l : List UInt8} (h : spanN p l = l.length) (r : List UInt8) : spanN p (l ++ r) = l.length + spanN p r := by
  unfold spanN at h ⊢
  rw [List.takeWhile_append, if_pos h, List.length_append]
theorem lex_lead {l : List UInt8} (hl : spanN blankI l = l.length) (r : List UInt8) (f k : Nat) : lexGo (f + 1) (l ++ r) k = lexGo (f + 1) r (k + l.length) := by
  have hs := span_more hl r
  obtain ⟨b, hb, hbl, h1 | ⟨h1, h2⟩ | ⟨h1, t, q, h2, h3, h4, h5⟩⟩ := lexGo_ways r
  · rw [hb] at hs
    rw [lexGo_fin hb h1, lexGo_fin hs (by rw [drop_more]; exact h1), Nat.add_assoc]
  · rw [hb] at hs
    rw [lexGo_bad hb h1 h2, lexGo_bad hs (by rw [drop_more]; exact h1) (by rw [drop_more]; exact h2), drop_more, Nat.add_assoc]
  · rw [hb] at hs
    rw [lexGo_tok hb h1 h2, lexGo_tok hs (by rw [drop_more]; exact h1) (by rw [drop_more]; exact h2), Nat.add_assoc l.length, drop_more, ← Nat.add_assoc k]
theorem span_less {p : Int → Bool} {l : List UInt8} (h : spanN p l < l.length) (r : List UInt8) : spanN p (l ++ r) = spanN p l := by
  unfold spanN at h ⊢
  rw [List.takeWhile_append, if_neg (by omega)]
theorem comb_cons (t : TP) (us : List TP) (R : List TP × Int × Int) : glue t (comb us R) = comb (t :: us) R := by
  unfold glue comb
  by_cases h : R.2.2 = 0 <;> simp [h]
theorem blank_free {r : List UInt8} (h : blankI (headI r) = true ∨ r = []) : wordI (headI r) = false ∧ headI r ≠ 61 := by
  rcases h with h | rfl
  · simp [blankI] at h
    rcases h with h | h | h <;> rw [h] <;> decide
  · decide
theorem lex_app {r : List UInt8} (hr : blankI (headI r) = true ∨ r = []) : ∀ (f f' : Nat) (l : List UInt8) (k : Nat), l.length < f → (l ++ r).length < f' →
    ((lexGo f l k).2.2 ≠ 0 → lexGo f' (l ++ r) k = lexGo f l k) ∧ (∀ ts a, lexGo f l k = (ts, a, 0) → ∃ us, ts = us ++ [endT (k + l.length)] ∧ ∀ f'', r.length < f'' → lexGo f' (l ++ r) k = comb us (lexGo f'' r (k + l.length)))
  | 0, _, _, _, h, _ => by omega
  | _ + 1, 0, _, _, _, h => by omega
  | f + 1, f' + 1, l, k, h, h' => by
    have hf := blank_free hr
    rw [List.length_append] at h'
    obtain ⟨b, hb, hbl, h1 | ⟨h1, h2⟩ | ⟨h1, t, q, h2, h3, h4, h5⟩⟩ := lexGo_ways l
    · rw [lexGo_fin hb h1]
      have hbe : b = l.length := by
        have := congrArg List.length h1
        rw [List.length_drop, List.length_nil] at this
        omega
      subst hbe
      refine ⟨fun hc => absurd rfl hc, fun ts a he => ?_⟩
      simp only [Prod.mk.injEq] at he
      refine ⟨[], by simp [he.1], fun f'' hf'' => ?_⟩
      rw [lex_lead hb, comb_nil]
      exact lex_fuel _ _ _ _ (by omega) hf''
    · have hlt : b < l.length := by
        have := len_pos h1
        rw [List.length_drop] at this
        omega
      have hb' : spanN blankI (l ++ r) = b := by rw [span_less (by omega), hb]
      have hd : (l ++ r).drop b = l.drop b ++ r := List.drop_append_of_le_length (by omega)
      have hn : nextP ((l ++ r).drop b) = nextP (l.drop b) := by rw [hd, next_app h1 r hf.1 hf.2]
      rw [lexGo_bad hb h1 h2]
      refine ⟨fun _ => ?_, fun ts a he => ?_⟩
      · rw [lexGo_bad hb' (by rw [hd]; simp [h1]) (by rw [hn]; exact h2), hn]
      · simp only [Prod.mk.injEq] at he
        exact absurd he.2.2 h2
    · have hlt : b < l.length := by
        have := len_pos h1
        rw [List.length_drop] at this
        omega
      have hp := len_pos h3.ne
      have hlen := congrArg List.length h4
      rw [List.length_drop, List.length_append] at hlen
      have hb' : spanN blankI (l ++ r) = b := by rw [span_less (by omega), hb]
      have hd : (l ++ r).drop b = l.drop b ++ r := List.drop_append_of_le_length (by omega)
      have hn : nextP ((l ++ r).drop b) = (t, 0) := by rw [hd, next_app h1 r hf.1 hf.2, h2]
      have hd2 : (l ++ r).drop (b + t.text.length) = q ++ r := by
        rw [List.drop_append_of_le_length (by omega), h5]
      have hkl : k + b + t.text.length + q.length = k + l.length := by omega
      rw [lexGo_tok hb h1 h2, lexGo_tok hb' (by rw [hd]; simp [h1]) hn, hd2, h5]
      obtain ⟨i1, i2⟩ := lex_app hr f f' q (k + b + t.text.length) (by omega) (by rw [List.length_append]; omega)
      refine ⟨fun hc => ?_, fun ts a he => ?_⟩
      · rw [i1 (by
          intro h0
          apply hc
          unfold glue
          rw [if_pos h0]
          exact h0)]
      · obtain ⟨us, hu, rfl⟩ := glue_ok he
        obtain ⟨vs, hv, hR⟩ := i2 us a hu
        refine ⟨t.at (k + b) :: vs, by rw [hv, hkl]; rfl, fun f'' hf'' => ?_⟩
        rw [hR f'' hf'', hkl, comb_cons]
end Go.Proofs.YtjenpmeknlgadaaDoor
