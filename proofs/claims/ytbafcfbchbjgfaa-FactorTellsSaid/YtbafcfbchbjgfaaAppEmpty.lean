/- append of a slice, nil or not, to an empty one without spare room: a copy. A step of a region that draws its order. -/
import Derived.Test.YtbafcfbchbjgfaaAppend
import Derived.Test.YtbafcfbchbjgfaaHeld
import Derived.Deep.RegionLawGrows
namespace Go.Proofs.Ytbafcfbchbjgfaa
open Go.RowKit
set_option linter.unusedSimpArgs false
set_option linter.unusedVariables false

theorem run_append_zero {P : Program} {w : World} (t ty e : TypeId) (i : TypeInfo) (ht : P.underlying t = some (.slice e)) (hi : P.info? e = some i) (b : Addr) (ao : Option Addr) (c : Nat) :
    (Builtin.append_ #[t, t] ty #[.slice (some b) 0 0, .slice ao 0 c]).run P w = .ok (.slice (some b) 0 0) w := by
  cases ao <;> simp [Builtin.append_, run_underlying ht, sizeOf, typeInfo, hi, Builtin.lenOf, Builtin.firstCells, storeCells, loadCells, loadCellsFrom]

theorem step_append_empty {P : Program} {ops : Array Oper} {o : Oper} {a : Act} {w : World} {K : Act → World → Prop} {Q : Exit → Act → World → Prop} {E : Prop}
    (hg : o.guard = none) (s x : Operand) (t : TypeId) (hop : o.op = Op.call { callee := Callee.builtin Builtin.append, args := #[s, x], argTypes := #[t, t] })
    (e : TypeId) (i : TypeInfo) (z : Value) (size bytes : Nat) (h1 : P.underlying t = some (.slice e)) (h2 : P.info? e = some i) (h3 : i.zero = some z) (h4 : i.size = size) (h5 : i.bytes = bytes) (h6 : z.cells.size = size) (h7 : 0 < size)
    (b : Addr) (hs : a.eval s = .slice (some b) 0 0)
    (ao : Option Addr) (m c : Nat) (news : List Value) (hx : a.eval x = .slice ao m c) {S : Nat → Prop} (hrow : RowF S size w (.slice ao m c) m news) (h1c : ∀ u ∈ news, u.oneCell' = true)
    (b1 : m ≤ maxLen) (b2 : m * bytes ≤ 140737488355328)
    (hK : ∀ ao' c' w', Exts w w' → RowF (fun b => w.heap.size ≤ b) size w' (.slice ao' m c') m news → (m = 0 ∨ ∀ b, (Value.slice ao' m c').ownBlock = some b → ∃ cur, w'.heap[b]? = some (.cells cur e (0, 0))) → K (a.put o.dst (.slice ao' m c')) w') :
    if Region.wanted o (yielded ops a.tmps) = true then Oper.wp P o a w K Q else E := by
  obtain ⟨hl, ao2, cap2, hv, q2, q3, q4, q5⟩ := hrow
  simp only [Value.slice.injEq, true_and] at hv
  obtain ⟨rfl, rfl⟩ := hv
  by_cases hm : m = 0
  · subst hm
    obtain rfl : news = [] := List.eq_nil_of_length_eq_zero (by simpa using hl)
    have hw : Region.wanted o (yielded ops a.tmps) = true := by simp [Region.wanted, hg]
    rw [if_pos hw]
    have hrun := run_append_zero (P := P) (w := w) t o.type e i h1 h2 b ao c
    unfold Oper.wp
    simp [execOp, hop, resolve, invoke, builtin, hs, hx, hrun, Result.andThen]
    exact hK _ _ _ (Exts.refl w) ⟨by simp, some b, 0, rfl, Nat.le_refl _, Nat.zero_le _, (fun h => by cases h), fun h => by omega⟩ (.inl rfl)
  · obtain ⟨bb, off, rfl, _, _, hc⟩ := q5 (by omega)
    refine step_append_grows hg s x t hop e i z size bytes h1 h2 h3 h4 h5 h6 h7 (some b) 0 0 [] hs (fun h => by cases h) (by simp) (fun b _ j u hj => by simp at hj) ⟨bb, off, none⟩ m c news hx hl (fun j u hj => by rw [Addr.add_lit]; exact hc j u hj) h1c (by omega) (by omega) (by rw [Nat.zero_add]; exact b2) ?_
    intro v' w' ho hgr
    simp only [Nat.zero_add, List.nil_append] at ho
    obtain ⟨ao', c', rfl⟩ := owns_shape ho
    refine hK ao' c' w' (exts_of_grown (Exts.refl w) hgr (fun b hb => by cases hb)) (RowF.of_owns ho) (.inr fun b hb => ?_)
    obtain ⟨_, ⟨hv, _⟩ | ⟨g, cap, cur, hv, _, hgg, _⟩⟩ := ho
    · rw [hv] at hb; cases hb
    · rw [hv] at hb
      cases hb
      exact ⟨cur, hgg⟩
end Go.Proofs.Ytbafcfbchbjgfaa
