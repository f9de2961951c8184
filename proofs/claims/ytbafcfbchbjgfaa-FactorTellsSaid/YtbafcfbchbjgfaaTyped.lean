/- The type of the block that a slice begins in. -/
import Derived.Test.YtbafcfbchbjgfaaMem
namespace Go.Proofs.Ytbafcfbchbjgfaa
open Go.RowKit
set_option linter.unusedSimpArgs false
set_option linter.unusedVariables false

/-- The block that a slice begins in is a row of elements of type e. -/
def TypedBy (e : TypeId) (w : World) (v : Value) : Prop := ∀ b, v.ownBlock = some b → ∃ c, w.heap[b]? = some (.cells c e (0, 0))
theorem TypedBy.of_owns {base k n : Nat} {e : TypeId} {w : World} {v : Value} {xs : List Value} (h : w.ownsRow base e k v n xs) : TypedBy e w v := by
  intro b hb
  obtain ⟨_, ⟨rfl, _⟩ | ⟨g, cap, cur, rfl, _, hg, _⟩⟩ := h
  · cases hb
  · cases hb
    exact ⟨cur, hg⟩
theorem TypedBy.exts {e : TypeId} {w w' : World} {v : Value} (h : TypedBy e w v) (he : Exts w w') : TypedBy e w' v := fun b hb => by
  obtain ⟨c, hc⟩ := h b hb
  exact ⟨c, (he.below.block b (Array.getElem?_eq_some_iff.1 hc).1).trans hc⟩
theorem TypedBy.ne {e e' : TypeId} {w : World} {v v' : Value} (h : TypedBy e w v) (h' : TypedBy e' w v') (hne : e ≠ e') : v.ownBlock = none ∨ v.ownBlock ≠ v'.ownBlock := by
  cases hv : v.ownBlock with
  | none => exact .inl rfl
  | some b =>
    right
    intro heq
    obtain ⟨c, hc⟩ := h b hv
    obtain ⟨c', hc'⟩ := h' b heq.symm
    rw [hc] at hc'
    simp at hc'
    exact hne hc'.2
theorem TypedBy.grown {e : TypeId} {w w' : World} {v : Value} {row : Option Nat} (h : TypedBy e w v) (hg : w.grownBy w' row) (hne : v.ownBlock = none ∨ v.ownBlock ≠ row) : TypedBy e w' v := fun b hb => by
  obtain ⟨c, hc⟩ := h b hb
  refine ⟨c, (hg.block b (Array.getElem?_eq_some_iff.1 hc).1 ?_).trans hc⟩
  rcases hne with h0 | h0
  · rw [h0] at hb; cases hb
  · rw [← hb]; exact h0

end Go.Proofs.Ytbafcfbchbjgfaa
