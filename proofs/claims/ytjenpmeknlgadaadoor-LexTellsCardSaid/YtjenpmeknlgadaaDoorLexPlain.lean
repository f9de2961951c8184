/- Tokens of a string, in plain Lean. -/
import Derived.Test.YtjenpmeknlgadaaDoorNext
namespace Go.Proofs.YtjenpmeknlgadaaDoor
open Go.RowKit
set_option linter.unusedSimpArgs false
set_option linter.unusedVariables false

structure TP where
  kind : Int
  text : List UInt8
  n : Int
  pos : Int
def TK.at (t : TK) (p : Nat) : TP := ⟨t.kind, t.text, t.n, p⟩
def endT (p : Nat) : TP := ⟨3, [], 0, p⟩
def lexGo : Nat → List UInt8 → Nat → List TP × Int × Int
  | 0, _, _ => ([], 0, -1)
  | f + 1, l, k =>
    if l.drop (spanN blankI l) = [] then ([endT (k + spanN blankI l)], 0, 0)
    else if (nextP (l.drop (spanN blankI l))).2 = 0 then
      let t := (nextP (l.drop (spanN blankI l))).1
      let r := lexGo f ((l.drop (spanN blankI l)).drop t.text.length) (k + spanN blankI l + t.text.length)
      if r.2.2 = 0 then (t.at (k + spanN blankI l) :: r.1, r.2) else ([], r.2)
    else ([], ((k + spanN blankI l : Nat) : Int), (nextP (l.drop (spanN blankI l))).2)
def lexS (l : List UInt8) : List TP × Int × Int := if 8000 < l.length then ([], 0, 6) else lexGo (l.length + 1) l 0

theorem takeWhile_drop_head {p : UInt8 → Bool} : ∀ (l : List UInt8), ∀ c r, l.drop (l.takeWhile p).length = c :: r → p c = false
  | [], c, r, h => by simp at h
  | a :: l, c, r, h => by
    by_cases ha : p a = true
    · rw [List.takeWhile_cons, if_pos ha, List.length_cons, List.drop_succ_cons] at h
      exact takeWhile_drop_head l c r h
    · rw [List.takeWhile_cons, if_neg ha] at h
      simp at h
      rw [← h.1]
      simpa using ha
theorem wordB_ne {l : List UInt8} (h : wordB l = true) : 0 < l.length := by
  cases l with
  | nil => simp [wordB] at h
  | cons c l => simp
theorem numOk_ne {l : List UInt8} (h : numOk l = true) : 0 < l.length := by
  cases l with
  | nil => simp [numOk] at h
  | cons c l => simp
theorem signs_ne {x : List UInt8} (h : x ∈ signsL) : 0 < x.length := by
  have : ∀ x ∈ signsL, 0 < x.length := by decide
  exact this x h
/-- A token that is there is not empty, and the string begins with it. -/
theorem nextP_ok {l : List UInt8} (h : (nextP l).2 = 0) : 0 < (nextP l).1.text.length ∧ (nextP l).1.text = l.take (nextP l).1.text.length := by
  unfold nextP at h ⊢
  split at h
  · split at h
    · rename_i h1 h2
      rw [if_pos h1, if_pos h2]
      refine ⟨wordB_ne h2, ?_⟩
      show l.take (spanN wordI l) = l.take (l.take (spanN wordI l)).length
      rw [List.length_take, Nat.min_eq_left (spanN_le _ _)]
    · simp at h
  · rename_i h1
    rw [if_neg h1]
    split at h
    · split at h
      · rename_i h2 h3
        rw [if_pos h2, if_pos h3]
        have : numOk (l.take (spanN digitI l)) = true := by
          unfold numD at h3
          split at h3
          · assumption
          · simp at h3
        refine ⟨numOk_ne this, ?_⟩
        show l.take (spanN digitI l) = l.take (l.take (spanN digitI l)).length
        rw [List.length_take, Nat.min_eq_left (spanN_le _ _)]
      · simp at h
    · rename_i h2
      rw [if_neg h2]
      cases hs : signP l with
      | none => rw [hs] at h; simp at h
      | some x =>
        have hx := List.mem_of_find?_eq_some hs
        have hp := List.find?_some hs
        refine ⟨signs_ne hx, ?_⟩
        show x = l.take x.length
        exact List.prefix_iff_eq_take.1 (List.isPrefixOf_iff_prefix.1 hp)
theorem nextP_code (l : List UInt8) : (nextP l).2 = 0 ∨ (nextP l).2 = 15 ∨ (nextP l).2 = 3 ∨ (nextP l).2 = 13 := by
  unfold nextP
  split
  · split <;> simp
  · split
    · split <;> simp
    · split <;> simp

def comb (ts : List TP) (r : List TP × Int × Int) : List TP × Int × Int := if r.2.2 = 0 then (ts ++ r.1, r.2) else ([], r.2)
theorem lexGo_err : ∀ (f : Nat) (l : List UInt8) (k : Nat), (lexGo f l k).2.2 ≠ 0 → (lexGo f l k).1 = []
  | 0, _, _, _ => rfl
  | f + 1, l, k, h => by
    unfold lexGo at h ⊢
    split at h
    · simp at h
    · rename_i h1
      rw [if_neg h1]
      split at h
      · rename_i h2
        rw [if_pos h2]
        simp only at h ⊢
        split at h
        · rename_i h3
          exact absurd h3 h
        · rename_i h3
          rw [if_neg h3]
      · rename_i h2
        rw [if_neg h2]
theorem comb_nil (f : Nat) (l : List UInt8) (k : Nat) : comb [] (lexGo f l k) = lexGo f l k := by
  unfold comb
  split
  · rfl
  · rename_i h
    rw [← lexGo_err f l k h]
section
variable {l : List UInt8} {k b f : Nat} {ts : List TP}
theorem lex_fin (hb : spanN blankI (l.drop k) = b) (h : l.drop (k + b) = []) : comb ts (lexGo (f + 1) (l.drop k) k) = (ts ++ [endT (k + b)], 0, 0) := by
  unfold lexGo
  rw [hb, List.drop_drop, if_pos h]
  rfl
theorem lex_err (hb : spanN blankI (l.drop k) = b) (h : l.drop (k + b) ≠ []) (he : (nextP (l.drop (k + b))).2 ≠ 0) : comb ts (lexGo (f + 1) (l.drop k) k) = ([], ((k + b : Nat) : Int), (nextP (l.drop (k + b))).2) := by
  unfold lexGo
  rw [hb, List.drop_drop, if_neg h, if_neg he]
  unfold comb
  rw [if_neg (by exact he)]
theorem lex_tok (hb : spanN blankI (l.drop k) = b) (h : l.drop (k + b) ≠ []) (he : (nextP (l.drop (k + b))).2 = 0) {m : Nat} (hm : (nextP (l.drop (k + b))).1.text.length = m) :
    comb ts (lexGo (f + 1) (l.drop k) k) = comb (ts ++ [(nextP (l.drop (k + b))).1.at (k + b)]) (lexGo f (l.drop (k + b + m)) (k + b + m)) := by
  conv => lhs; unfold lexGo
  rw [hb, List.drop_drop, if_neg h, if_pos he]
  simp only [hm, List.drop_drop]
  unfold comb
  by_cases h3 : (lexGo f (l.drop (k + b + m)) (k + b + m)).2.2 = 0
  · simp [h3]
  · simp [h3]
end
def tokCells (t : TP) : List Value := [.int .i64 t.kind, .string ⟨t.text.toArray⟩, .int .i64 t.n, .int .i64 t.pos]
def tokFlat (ts : List TP) : List Value := (ts.map tokCells).flatten
def Toks (S : Nat → Prop) (w : World) (v : Value) (ts : List TP) : Prop := RowF S 4 w v ts.length (tokFlat ts)
theorem tokFlat_snoc (ts : List TP) (t : TP) : tokFlat (ts ++ [t]) = tokFlat ts ++ tokCells t := by simp [tokFlat]
theorem Toks.exts {S : Nat → Prop} {w w' : World} {v : Value} {ts : List TP} (h : Toks S w v ts) (he : Exts w w') : Toks S w' v ts := RowF.exts h he
theorem tokFlat_at (ts : List TP) (i j : Nat) (hj : j < 4) : (tokFlat ts)[i * 4 + j]? = (ts[i]?).bind fun t => (tokCells t)[j]? := by
  unfold tokFlat
  rw [flatten_at _ (by intro x hx; rw [List.mem_map] at hx; obtain ⟨v, _, rfl⟩ := hx; rfl) i j hj, List.getElem?_map]
  cases ts[i]? <;> rfl
theorem Toks.get {S : Nat → Prop} {w : World} {ao : Option Addr} {n cap : Nat} {ts : List TP} (h : RowF S 4 w (.slice ao n cap) n (tokFlat ts)) {i : Nat} {t : TP} (hp : ts[i]? = some t) :
    ∃ b off, ao = some ⟨b, off, none⟩ ∧ b < w.heap.size ∧ w.cell? ⟨b, off + i * 4, none⟩ = some (.int .i64 t.kind) ∧ w.cell? ⟨b, off + i * 4 + 1, none⟩ = some (.string ⟨t.text.toArray⟩) ∧ w.cell? ⟨b, off + i * 4 + 2, none⟩ = some (.int .i64 t.n) ∧ w.cell? ⟨b, off + i * 4 + 3, none⟩ = some (.int .i64 t.pos) := by
  obtain ⟨h1, ao2, cap2, hv, h2, h3, h4, h5⟩ := h
  simp only [Value.slice.injEq, true_and] at hv
  obtain ⟨rfl, rfl⟩ := hv
  have hn : 0 < n := by
    have := (List.getElem?_eq_some_iff.1 hp).1
    have hl : (tokFlat ts).length = ts.length * 4 := by
      unfold tokFlat
      rw [flatten_len (k := 4) _ (by intro x hx; rw [List.mem_map] at hx; obtain ⟨v, _, rfl⟩ := hx; rfl), List.length_map]
    omega
  obtain ⟨b, off, rfl, hS, hb, hc⟩ := h5 hn
  have g : ∀ j c, j < 4 → (tokCells t)[j]? = some c → w.cell? ⟨b, off + i * 4 + j, none⟩ = some c := by
    intro j c hj he
    rw [Nat.add_assoc]
    exact hc _ _ (by rw [tokFlat_at ts i j hj, hp]; exact he)
  exact ⟨b, off, rfl, hb, g 0 _ (by omega) rfl, g 1 _ (by omega) rfl, g 2 _ (by omega) rfl, g 3 _ (by omega) rfl⟩
theorem tok_one (t : TP) : ∀ u ∈ tokCells t, u.oneCell' = true := by
  intro u hu
  simp [tokCells] at hu
  rcases hu with rfl | rfl | rfl | rfl <;> rfl
end Go.Proofs.YtjenpmeknlgadaaDoor
