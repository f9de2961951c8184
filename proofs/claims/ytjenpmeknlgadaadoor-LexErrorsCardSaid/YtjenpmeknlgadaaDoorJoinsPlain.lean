/- What LexJoins asks. Plain. -/
import Derived.Test.YtjenpmeknlgadaaDoorLexMore
namespace Go.Proofs.YtjenpmeknlgadaaDoor
open Go.RowKit
set_option linter.unusedSimpArgs false
set_option linter.unusedVariables false

theorem lexS_go {T : List UInt8} (h : T.length ≤ 8000) : lexS T = lexGo (T.length + 1) T 0 := by unfold lexS; rw [if_neg (by omega)]
theorem lex_sep {c : UInt8} (hc : blankI (c.toNat : Int) = true) (Y : List UInt8) (k : Nat) : lexGo (Y.length + 2) (c :: Y) k = up3 (k + 1) (lexGo (Y.length + 1) Y 0) := by
  have h1 : spanN blankI [c] = [c].length := by unfold spanN; rw [List.takeWhile_cons, if_pos hc]; rfl
  have h2 := lex_lead h1 Y (Y.length + 1) k
  rw [show [c] ++ Y = c :: Y from rfl] at h2
  rw [h2, lex_fuel _ (Y.length + 1) _ _ (by omega) (by omega)]
  have := lex_up (Y.length + 1) Y 0 (k + 1) (by omega)
  rw [Nat.zero_add] at this
  exact this
section
variable {X Y : List UInt8} {c : UInt8}
theorem joins_err1 (hX : X.length ≤ 3000) (hY : Y.length ≤ 3000) (hc : blankI (c.toNat : Int) = true) {ts : List TP} {i e : Int} (h : lexS X = (ts, i, e)) (he : e ≠ 0) : lexS (X ++ c :: Y) = ([], i, e) ∧ ts = [] := by
  rw [lexS_go (by omega)] at h
  have hl : (X ++ c :: Y).length ≤ 8000 := by rw [List.length_append, List.length_cons]; omega
  have h1 := (lex_app (r := c :: Y) (Or.inl hc) (X.length + 1) ((X ++ c :: Y).length + 1) X 0 (by omega) (by omega)).1 (by rw [h]; exact he)
  have h2 := lexGo_err (X.length + 1) X 0 (by rw [h]; exact he)
  rw [h] at h1 h2
  simp only at h2
  subst h2
  rw [lexS_go hl]
  exact ⟨h1, rfl⟩
theorem joins_ok (hX : X.length ≤ 3000) (hY : Y.length ≤ 3000) (hc : blankI (c.toNat : Int) = true) {ts : List TP} {i : Int} (h : lexS X = (ts, i, 0)) :
    ∃ us, ts = us ++ [endT X.length] ∧ us.length ≤ 3000 ∧ lexS (X ++ c :: Y) = comb us (up3 (X.length + 1) (lexS Y)) := by
  rw [lexS_go (by omega)] at h
  have hl : (X ++ c :: Y).length ≤ 8000 := by rw [List.length_append, List.length_cons]; omega
  obtain ⟨_, L, hL, _, _, hn⟩ := lexGo_ok _ _ _ _ _ h
  obtain ⟨us, hu, hR⟩ := (lex_app (r := c :: Y) (Or.inl hc) (X.length + 1) ((X ++ c :: Y).length + 1) X 0 (by omega) (by omega)).2 ts i h
  have hlen := congrArg List.length hL
  rw [hu] at hlen
  refine ⟨us, by rw [hu, Nat.zero_add], by simp at hlen; omega, ?_⟩
  rw [lexS_go hl, hR (Y.length + 2) (by simp), lex_sep hc, lexS_go (T := Y) (by omega), Nat.zero_add]
end
end Go.Proofs.YtjenpmeknlgadaaDoor
