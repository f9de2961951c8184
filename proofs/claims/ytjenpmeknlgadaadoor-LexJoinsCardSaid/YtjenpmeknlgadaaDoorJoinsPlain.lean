/- What LexJoins asks. Plain. -/
import Derived.Test.YtjenpmeknlgadaaDoorLexMore
namespace Go.Proofs.YtjenpmeknlgadaaDoor
open Go.RowKit
set_option linter.unusedSimpArgs false
set_option linter.unusedVariables false

theorem lexS_go {T : List UInt8} (h : T.length ≤ 8000) : lexS T = lexGo (T.length + 1) T 0 := by unfold lexS; rw [if_neg (by omega)]
theorem lex_sep {c : UInt8} (hc : blankI (c.toNat : Int) = true) (Y : List UInt8) (k : Nat) : lexGo (Y.length + 2) (c :: Y) k = up3 (k + 1) (lexGo (Y.length + 1) Y 0) := by
  have h1 : spanN blankI [c] = [c].length := by unfold spanN; rw [List.takeWhile_cons, if_pos hc]; rfl
  have h2 := lex_lead h1 Y (Y.length + 1) k
  rw [show [c] ++ Y = c :: Y from rfl] at h2
  rw [h2, lex_fuel _ (Y.length + 1) _ _ (by omega) (by omega)]
  have := lex_up (Y.length + 1) Y 0 (k + 1) (by omega)
  rw [Nat.zero_add] at this
  exact this
section
variable {X Y : List UInt8} {c : UInt8}
theorem joins_err1 (hX : X.length ≤ 3000) (hY : Y.length ≤ 3000) (hc : blankI (c.toNat : Int) = true) {ts : List TP} {i e : Int} (h : lexS X = (ts, i, e)) (he : e ≠ 0) : lexS (X ++ c :: Y) = ([], i, e) ∧ ts = [] := by
  rw [lexS_go (by omega)] at h
  have hl : (X ++ c :: Y).length ≤ 8000 := by rw [List.length_append, List.length_cons]; omega
  have h1 := (lex_app (r := c :: Y) (Or.inl hc) (X.length + 1) ((X ++ c :: Y).length + 1) X 0 (by omega) (by omega)).1 (by rw [h]; exact he)
  have h2 := lexGo_err (X.length + 1) X 0 (by rw [h]; exact he)
  rw [h] at h1 h2
  simp only at h2
  subst h2
  rw [lexS_go hl]
  exact ⟨h1, rfl⟩
theorem joins_ok (hX : X.length ≤ 3000) (hY : Y.length ≤ 3000) (hc : blankI (c.toNat : Int) = true) {ts : List TP} {i : Int} (h : lexS X = (ts, i, 0)) :
    ∃ us, ts = us ++ [endT X.length] ∧ us.length ≤ 3000 ∧ lexS (X ++ c :: Y) = comb us (up3 (X.length + 1) (lexS Y)) := by
  rw [lexS_go (by omega)] at h
  have hl : (X ++ c :: Y).length ≤ 8000 := by rw [List.length_append, List.length_cons]; omega
  obtain ⟨_, L, hL, _, _, hn⟩ := lexGo_ok _ _ _ _ _ h
  obtain ⟨us, hu, hR⟩ := (lex_app (r := c :: Y) (Or.inl hc) (X.length + 1) ((X ++ c :: Y).length + 1) X 0 (by omega) (by omega)).2 ts i h
  have hlen := congrArg List.length hL
  rw [hu] at hlen
  refine ⟨us, by rw [hu, Nat.zero_add], by simp at hlen; omega, ?_⟩
  rw [lexS_go hl, hR (Y.length + 2) (by simp), lex_sep hc, lexS_go (T := Y) (by omega), Nat.zero_add]
theorem joins_err2 (hX : X.length ≤ 3000) (hY : Y.length ≤ 3000) (hc : blankI (c.toNat : Int) = true) {ts bs : List TP} {i k f : Int} (h : lexS X = (ts, i, 0)) (hB : lexS Y = (bs, k, f)) (hf : f ≠ 0) :
    ts.length ≤ 3001 ∧ bs = [] ∧ ∃ m : Nat, k = (m : Int) ∧ m < 3000 ∧ lexS (X ++ c :: Y) = ([], (m : Int) + ((X.length + 1 : Nat) : Int), f) := by
  obtain ⟨us, hu, hul, hR⟩ := joins_ok hX hY hc h
  obtain ⟨rfl, m, rfl, hm⟩ := places_bad hY hB hf
  refine ⟨by rw [hu]; simp; omega, rfl, m, rfl, by omega, ?_⟩
  rw [hR, hB]
  simp [comb, up3, hf]
theorem placed_pos {T : List UInt8} : ∀ (ts : List TP) (e : Nat), Placed T ts e → ∀ t ∈ ts, ∃ p : Nat, t.pos = (p : Int) ∧ p ≤ T.length
  | [], _, _, t, ht => by simp at ht
  | u :: r, e, h, t, ht => by
    obtain ⟨p, hs, hr⟩ := h
    rcases List.mem_cons.1 ht with rfl | ht
    · exact ⟨p, hs.pos, by have := hs.hi; omega⟩
    · exact placed_pos r _ hr t ht
theorem joins_two (hX : X.length ≤ 3000) (hY : Y.length ≤ 3000) (hc : blankI (c.toNat : Int) = true) {ts bs : List TP} {i k : Int} (h : lexS X = (ts, i, 0)) (hB : lexS Y = (bs, k, 0)) :
    ∃ us : List TP, ts = us ++ [endT X.length] ∧ us.length ≤ 3000 ∧ bs.length ≤ 3001 ∧ lexS (X ++ c :: Y) = (us ++ bs.map (TP.up (X.length + 1)), 0, 0) ∧ ∀ (d : Nat) t, bs[d]? = some t → ∃ p : Nat, t.pos = (p : Int) ∧ p ≤ 3000 := by
  obtain ⟨us, hu, hul, hR⟩ := joins_ok hX hY hc h
  obtain ⟨rfl, hp, _, hl⟩ := places_ok hY hB
  refine ⟨us, hu, hul, hl, ?_, fun d t ht => ?_⟩
  · rw [hR, hB]
    simp [comb, up3]
  · obtain ⟨p, h1, h2⟩ := placed_pos _ _ hp t (List.mem_of_getElem? ht)
    exact ⟨p, h1, by omega⟩
end
end Go.Proofs.YtjenpmeknlgadaaDoor
