/- Where the tokens stand. Plain. -/
import Derived.Test.YtjenpmeknlgadaaDoorLexLaws
namespace Go.Proofs.YtjenpmeknlgadaaDoor
open Go.RowKit
set_option linter.unusedSimpArgs false
set_option linter.unusedVariables false

def Blanks (T : List UInt8) (e p : Nat) : Prop := ∀ j, e ≤ j → j < p → ∃ c, T[j]? = some c ∧ blankI (c.toNat : Int) = true
structure Stands (T : List UInt8) (t : TP) (last : Bool) (e p : Nat) : Prop where
  pos : t.pos = (p : Int)
  lo : e ≤ p
  hi : p + t.text.length ≤ T.length
  txt : (T.drop p).take t.text.length = t.text
  bl : Blanks T e p
  emp : decide (t.text = []) = last
  fin : decide (t.kind = 3) = last
  num : t.kind ≠ 1 → t.n = 0
def Placed (T : List UInt8) : List TP → Nat → Prop
  | [], e => e = T.length
  | t :: r, e => ∃ p, Stands T t r.isEmpty e p ∧ Placed T r (p + t.text.length)

theorem span_get {p : Int → Bool} : ∀ (l : List UInt8) (j : Nat), j < spanN p l → ∃ c, l[j]? = some c ∧ p (c.toNat : Int) = true
  | [], j, h => by simp [spanN] at h
  | a :: l, j, h => by
    unfold spanN at h
    rw [List.takeWhile_cons] at h
    split at h
    · rename_i ha
      cases j with
      | zero => exact ⟨a, rfl, ha⟩
      | succ j =>
        rw [List.length_cons] at h
        exact span_get l j (by unfold spanN; omega)
    · simp at h
theorem span_blanks {T : List UInt8} {e b : Nat} (h : spanN blankI (T.drop e) = b) : Blanks T e (e + b) := by
  intro j h1 h2
  obtain ⟨c, hc, hp⟩ := span_get (T.drop e) (j - e) (by rw [h]; omega)
  rw [List.getElem?_drop, show e + (j - e) = j by omega] at hc
  exact ⟨c, hc, hp⟩
theorem placed {T : List UInt8} : ∀ (f e : Nat) (ts : List TP) (a : Int), e ≤ T.length → lexGo f (T.drop e) e = (ts, a, 0) → Placed T ts e ∧ ts ≠ []
  | 0, _, _, _, _, h => by simp [lexGo] at h
  | f + 1, e, ts, a, he, h => by
    obtain ⟨b, hb, hbl, h1 | ⟨h1, h2⟩ | ⟨h1, t, r, h2, h3, h4, h5⟩⟩ := lexGo_ways (T.drop e)
    · rw [lexGo_fin hb h1] at h
      simp only [Prod.mk.injEq] at h
      obtain ⟨rfl, _, _⟩ := h
      rw [List.length_drop] at hbl
      have hl : T.length ≤ e + b := by
        have := congrArg List.length h1
        rw [List.drop_drop, List.length_drop, List.length_nil] at this
        omega
      exact ⟨⟨e + b, ⟨rfl, by omega, by simp [endT]; omega, by simp [endT], span_blanks hb, by simp [endT], by simp [endT], fun _ => rfl⟩, by simp [Placed, endT]; omega⟩, by simp⟩
    · rw [lexGo_bad hb h1 h2] at h
      simp only [Prod.mk.injEq] at h
      exact absurd h.2.2 h2
    · rw [lexGo_tok hb h1 h2, List.drop_drop] at h
      obtain ⟨us, hu, rfl⟩ := glue_ok h
      have hlen := congrArg List.length h4
      rw [List.length_drop, List.length_drop, List.length_append] at hlen
      rw [List.length_drop] at hbl
      have hp := len_pos h3.ne
      rw [show e + (b + t.text.length) = e + b + t.text.length by omega] at hu
      obtain ⟨hpl, hne⟩ := placed f (e + b + t.text.length) us a (by omega) hu
      have hemp : us.isEmpty = false := by cases us with | nil => exact absurd rfl hne | cons _ _ => rfl
      refine ⟨⟨e + b, ⟨rfl, by omega, by show e + b + t.text.length ≤ _; omega, ?_, span_blanks hb, ?_, ?_, fun h => h3.n h⟩, hpl⟩, by simp⟩
      · show (T.drop (e + b)).take t.text.length = t.text
        rw [← List.drop_drop, h4, List.take_left]
      · rw [hemp]
        exact decide_eq_false h3.ne
      · rw [hemp]
        exact decide_eq_false h3.kind
theorem bad_at : ∀ (f k : Nat) (l : List UInt8) (ts : List TP) (a c : Int), l.length < f → lexGo f l k = (ts, a, c) → c ≠ 0 → ∃ m : Nat, a = ((k + m : Nat) : Int) ∧ m < l.length
  | 0, _, _, _, _, _, hf, _, _ => by omega
  | f + 1, k, l, ts, a, c, hf, h, hc => by
    obtain ⟨b, hb, hbl, h1 | ⟨h1, h2⟩ | ⟨h1, t, r, h2, h3, h4, h5⟩⟩ := lexGo_ways l
    · rw [lexGo_fin hb h1] at h
      simp only [Prod.mk.injEq] at h
      exact absurd h.2.2.symm hc
    · rw [lexGo_bad hb h1 h2] at h
      simp only [Prod.mk.injEq] at h
      refine ⟨b, h.2.1.symm, ?_⟩
      have := len_pos h1
      rw [List.length_drop] at this
      omega
    · rw [lexGo_tok hb h1 h2] at h
      have hp := len_pos h3.ne
      have hlen := congrArg List.length h4
      rw [List.length_drop, List.length_append] at hlen
      have hg : lexGo f (l.drop (b + t.text.length)) (k + b + t.text.length) = ((lexGo f (l.drop (b + t.text.length)) (k + b + t.text.length)).1, a, c) := by
        unfold glue at h
        split at h
        · rename_i h0
          simp only [Prod.mk.injEq] at h
          rw [h.2] at h0
          exact absurd h0 hc
        · simp only [Prod.mk.injEq] at h
          exact Prod.ext rfl h.2
      obtain ⟨m, hm, hml⟩ := bad_at f _ _ _ a c (by rw [List.length_drop]; omega) hg hc
      rw [List.length_drop] at hml
      exact ⟨b + t.text.length + m, by rw [hm]; simp; omega, by omega⟩
/-- THE LAWS OF LexPlaces. -/
theorem places_ok {T : List UInt8} (hT : T.length ≤ 3000) {ts : List TP} {a : Int} (h : lexS T = (ts, a, 0)) : a = 0 ∧ Placed T ts 0 ∧ ts ≠ [] ∧ ts.length ≤ 3001 := by
  have hS : lexS T = lexGo (T.length + 1) T 0 := by unfold lexS; rw [if_neg (by omega)]
  rw [hS] at h
  obtain ⟨h1, L, hL, _, _, hn⟩ := lexGo_ok _ _ _ _ _ h
  have hlen := congrArg List.length hL
  obtain ⟨h2, h3⟩ := placed (T := T) (T.length + 1) 0 ts a (by omega) h
  exact ⟨h1, h2, h3, by simp at hlen; omega⟩
theorem places_bad {T : List UInt8} (hT : T.length ≤ 3000) {ts : List TP} {a c : Int} (h : lexS T = (ts, a, c)) (hc : c ≠ 0) : ts = [] ∧ ∃ m : Nat, a = (m : Int) ∧ m < T.length := by
  have hS : lexS T = lexGo (T.length + 1) T 0 := by unfold lexS; rw [if_neg (by omega)]
  rw [hS] at h
  obtain ⟨m, hm, hl⟩ := bad_at _ _ _ _ _ _ (by omega) h hc
  refine ⟨?_, m, by rw [hm, Nat.zero_add], hl⟩
  have := lexGo_err (T.length + 1) T 0 (by rw [h]; exact hc)
  rw [h] at this
  exact this
end Go.Proofs.YtjenpmeknlgadaaDoor
