/- A word or a number is its own only token. Plain. -/
import Derived.Test.YtjenpmeknlgadaaDoorLexPlain
namespace Go.Proofs.YtjenpmeknlgadaaDoor
open Go.RowKit
set_option linter.unusedSimpArgs false
set_option linter.unusedVariables false

theorem span_zero {p : Int → Bool} {l : List UInt8} (h : p (headI l) = false) : spanN p l = 0 := by
  cases l with
  | nil => rfl
  | cons c l =>
    unfold spanN
    rw [List.takeWhile_cons, if_neg (by simpa [headI] using h)]
    rfl
theorem letter_blank {n : Int} (h : letterI n = true) : blankI n = false := by
  simp only [letterI, Bool.and_eq_true, decide_eq_true_eq] at h
  simp [blankI]
  omega
theorem digit_blank {n : Int} (h : digitI n = true) : blankI n = false := by
  simp only [digitI, Bool.and_eq_true, decide_eq_true_eq] at h
  simp [blankI]
  omega
theorem letter_digit {n : Int} (h : digitI n = true) : letterI n = false := by
  simp only [digitI, Bool.and_eq_true, decide_eq_true_eq] at h
  simp [letterI]
  omega
theorem lexGo_nil (f k : Nat) : lexGo (f + 1) [] k = ([endT k], 0, 0) := by
  unfold lexGo
  rw [if_pos (by simp)]
  rfl
theorem lexGo_one {T : List UInt8} {tk : TK} (f : Nat) (hb : blankI (headI T) = false) (hne : T ≠ []) (hn : nextP T = (tk, 0)) (ht : tk.text = T) : lexGo (f + 2) T 0 = ([tk.at 0, endT T.length], 0, 0) := by
  have hs := span_zero hb
  conv => lhs; unfold lexGo
  rw [hs, List.drop_zero, if_neg hne, hn, if_pos rfl]
  simp only [ht, List.drop_length, lexGo_nil]
  simp
theorem len_pos {T : List UInt8} (h : T ≠ []) : 0 < T.length := List.length_pos_iff.2 h
theorem wordB_parts {T : List UInt8} (h : wordB T = true) : T ≠ [] ∧ letterI (headI T) = true ∧ T.length ≤ 20 ∧ spanN wordI T = T.length := by
  simp only [wordB, Bool.and_eq_true, decide_eq_true_eq, Bool.not_eq_true'] at h
  exact ⟨fun hc => by rw [hc] at h; simp at h, h.2.1, h.2.2.1, h.2.2.2⟩
theorem numOk_parts {T : List UInt8} (h : numOk T = true) : T ≠ [] ∧ spanN digitI T = T.length ∧ T.length ≤ 13 ∧ numVal T ≤ 1099511627776 := by
  simp only [numOk, Bool.and_eq_true, decide_eq_true_eq, Bool.not_eq_true'] at h
  exact ⟨fun hc => by rw [hc] at h; simp at h, h.2.1, h.2.2.2.1, h.2.2.2.2⟩
theorem head_mem {T : List UInt8} (h : T ≠ []) : ∃ c, c ∈ T ∧ headI T = (c.toNat : Int) := by
  cases T with
  | nil => exact absurd rfl h
  | cons c l => exact ⟨c, by simp, rfl⟩
theorem numVal_nonneg {T : List UInt8} (h : numOk T = true) : 0 ≤ numVal T := by
  have hp := numOk_parts h
  have := numVal_bd T (span_all.1 hp.2.1) T.length (Nat.le_refl _)
  rw [List.take_length] at this
  exact this.1
theorem word_lex {T : List UInt8} (h : wordB T = true) (f : Nat) : lexGo (f + 2) T 0 = ([⟨0, T, 0, 0⟩, endT T.length], 0, 0) := by
  obtain ⟨h1, h2, h3, h4⟩ := wordB_parts h
  refine lexGo_one (tk := ⟨0, T, 0⟩) f (letter_blank h2) h1 ?_ rfl
  unfold nextP
  rw [if_pos h2, h4, List.take_length, if_pos h]
theorem num_lex {T : List UInt8} (h : numOk T = true) (f : Nat) : lexGo (f + 2) T 0 = ([⟨1, T, numVal T, 0⟩, endT T.length], 0, 0) := by
  obtain ⟨h1, h2, h3, h4⟩ := numOk_parts h
  obtain ⟨c, hc, hh⟩ := head_mem h1
  have hd : digitI (headI T) = true := by rw [hh]; exact span_all.1 h2 c hc
  refine lexGo_one (tk := ⟨1, T, numVal T⟩) f (digit_blank hd) h1 ?_ rfl
  unfold nextP
  rw [if_neg (by rw [letter_digit hd]; simp), if_pos hd, h2, List.take_length, numD_yes h]
  rfl

/-- The first of two tokens, if it is all of the string. -/
theorem lex_first {T : List UInt8} {f : Nat} {t u : TP} {a : Int} (h : lexGo (f + 1) T 0 = ([t, u], a, 0)) (ht : t.text = T) : nextP T = (⟨t.kind, t.text, t.n⟩, 0) := by
  unfold lexGo at h
  split at h
  · simp at h
  · rename_i h1
    split at h
    · rename_i h2
      simp only at h
      split at h
      · simp only [Prod.mk.injEq, List.cons.injEq] at h
        obtain ⟨⟨h3, _⟩, _⟩ := h
        have htx : (nextP (T.drop (spanN blankI T))).1.text = T := by
          have h4 := congrArg TP.text h3
          rw [ht] at h4
          exact h4
        have hok := nextP_ok h2
        have hlen := congrArg List.length hok.2
        rw [htx] at hlen
        rw [List.length_take, List.length_drop] at hlen
        have hpos := hok.1
        rw [htx] at hpos
        have hb : spanN blankI T = 0 := by omega
        rw [hb, List.drop_zero] at h2 h3 htx
        have h3' : t = (nextP T).1.at (0 + 0) := h3.symm
        rw [h3']
        exact Prod.ext rfl h2
      · simp at h
    · rename_i h2
      simp at h
theorem next_kind0 {T : List UInt8} {v : Int} (h : nextP T = (⟨0, T, v⟩, 0)) : wordB T = true := by
  unfold nextP at h
  split at h
  · split at h
    · rename_i h2
      simp only [Prod.mk.injEq, TK.mk.injEq] at h
      rw [h.1.2.1] at h2
      exact h2
    · simp at h
  · split at h
    · split at h
      · simp at h
      · simp at h
    · split at h <;> simp at h
theorem next_kind1 {T : List UInt8} {v : Int} (h : nextP T = (⟨1, T, v⟩, 0)) : numOk T = true ∧ v = numVal T := by
  unfold nextP at h
  split at h
  · split at h <;> simp at h
  · split at h
    · split at h
      · rename_i h3
        simp only [Prod.mk.injEq, TK.mk.injEq] at h
        rw [h.1.2.1] at h3
        have hv := h.1.2.2
        rw [h.1.2.1] at hv
        cases hn : numOk T with
        | true => exact ⟨rfl, by rw [← hv, numD_yes hn]⟩
        | false => rw [numD_no hn] at h3; cases h3
      · simp at h
    · split at h <;> simp at h

/-- What the law asks. -/
theorem words_no {T : List UInt8} (h8 : T.length ≤ 8000) (h : (lexS T).2.2 ≠ 0 ∨ (lexS T).1.length ≠ 2) : wordB T = false ∧ numD T = (0, false) := by
  have hS : lexS T = lexGo (T.length + 1) T 0 := by unfold lexS; rw [if_neg (by omega)]
  constructor
  · refine Bool.eq_false_iff.2 fun hw => ?_
    have hp := len_pos (wordB_parts hw).1
    obtain ⟨f, hf⟩ : ∃ f, T.length + 1 = f + 2 := ⟨T.length - 1, by omega⟩
    rw [hS, hf, word_lex hw] at h
    simp at h
  · refine numD_no (Bool.eq_false_iff.2 fun hw => ?_)
    have hp := len_pos (numOk_parts hw).1
    obtain ⟨f, hf⟩ : ∃ f, T.length + 1 = f + 2 := ⟨T.length - 1, by omega⟩
    rw [hS, hf, num_lex hw] at h
    simp at h
theorem words_yes {T : List UInt8} (h8 : T.length ≤ 8000) {t u : TP} {a : Int} (h : lexS T = ([t, u], a, 0)) :
    wordB T = (decide (t.text = T) && decide (t.kind = 0)) ∧ (numD T).2 = (decide (t.text = T) && decide (t.kind = 1)) ∧ ((numD T).2 = true → (numD T).1 = t.n ∧ 0 ≤ (numD T).1 ∧ (numD T).1 ≤ 1099511627776) ∧ (wordB T = true → T.length ≤ 20) := by
  have hS : lexS T = lexGo (T.length + 1) T 0 := by unfold lexS; rw [if_neg (by omega)]
  rw [hS] at h
  have hw : wordB T = true → t.text = T ∧ t.kind = 0 := fun hw => by
    have hp := len_pos (wordB_parts hw).1
    obtain ⟨f, hf⟩ : ∃ f, T.length + 1 = f + 2 := ⟨T.length - 1, by omega⟩
    rw [hf, word_lex hw] at h
    simp only [Prod.mk.injEq, List.cons.injEq] at h
    rw [← h.1.1]
    exact ⟨rfl, rfl⟩
  have hn : numOk T = true → t.text = T ∧ t.kind = 1 ∧ t.n = numVal T := fun hw => by
    have hp := len_pos (numOk_parts hw).1
    obtain ⟨f, hf⟩ : ∃ f, T.length + 1 = f + 2 := ⟨T.length - 1, by omega⟩
    rw [hf, num_lex hw] at h
    simp only [Prod.mk.injEq, List.cons.injEq] at h
    rw [← h.1.1]
    exact ⟨rfl, rfl, rfl⟩
  refine ⟨?_, ?_, ?_, fun hw => (wordB_parts hw).2.2.1⟩
  · rw [Bool.eq_iff_iff]
    simp only [Bool.and_eq_true, decide_eq_true_eq]
    constructor
    · exact hw
    · rintro ⟨h1, h2⟩
      have := lex_first h h1
      rw [h1, h2] at this
      exact next_kind0 this
  · have hd : (numD T).2 = numOk T := by
      unfold numD
      split <;> simp_all
    rw [hd, Bool.eq_iff_iff]
    simp only [Bool.and_eq_true, decide_eq_true_eq]
    constructor
    · intro h1
      exact ⟨(hn h1).1, (hn h1).2.1⟩
    · rintro ⟨h1, h2⟩
      have := lex_first h h1
      rw [h1, h2] at this
      exact (next_kind1 this).1
  · intro h1
    have h2 : numOk T = true := by
      unfold numD at h1
      split at h1
      · assumption
      · simp at h1
    rw [numD_yes h2]
    exact ⟨(hn h2).2.2.symm, numVal_nonneg h2, (numOk_parts h2).2.2.2⟩
end Go.Proofs.YtjenpmeknlgadaaDoor
