/- The rows of a closure, laid out by functions. Not beside Closes, which has the same. -/
import Derived.Test.YtbafcfbchbjgfaaLawPlain
import Derived.Test.YtbafcfbchbjgfaaClo
import Derived.Test.YtbafcfbchbjgfaaRead
namespace Go.Proofs.Ytbafcfbchbjgfaa
open Go.RowKit Go.Deep
set_option linter.unusedSimpArgs false
set_option linter.unusedVariables false
/-- The rows, laid out. -/
theorem rows_at {w : World} {ro : Option Addr} {m rc : Nat} {g : Rel} (h : BRows w ro m m rc g) (hm : 0 < m) : ∃ b off, ∃ rb rof rcap : Nat → Nat, ro = some ⟨b, off, none⟩ ∧ b < w.heap.size ∧ (∀ a, a < m → w.cell? ⟨b, off + a, none⟩ = some (.slice (some ⟨rb a, rof a, none⟩) m (rcap a))) ∧ (∀ a, a < m → rb a < w.heap.size) ∧ (∀ a, a < m → m ≤ rcap a) ∧ ∀ a j, a < m → j < m → w.cell? ⟨rb a, rof a + j, none⟩ = some (.bool (g a j)) := by
  obtain ⟨rows, ⟨h1, ao, cap, hv, h2, h3, h4, h5⟩, hr⟩ := h
  simp only [Value.slice.injEq, true_and] at hv
  obtain ⟨rfl, rfl⟩ := hv
  obtain ⟨b, off, rfl, _, hb, hc⟩ := h5 hm
  have key : ∀ a, a < m → ∃ q : Nat × Nat × Nat, w.cell? ⟨b, off + a, none⟩ = some (.slice (some ⟨q.1, q.2.1, none⟩) m q.2.2) ∧ q.1 < w.heap.size ∧ m ≤ q.2.2 ∧ ∀ j, j < m → w.cell? ⟨q.1, q.2.1 + j, none⟩ = some (.bool (g a j)) := fun a ha => by
    obtain ⟨bo, bc, e1, ⟨q1, ao2, cap2, hv2, q2, q3, q4, q5⟩⟩ := hr a ha
    simp only [Value.slice.injEq, true_and] at hv2
    obtain ⟨rfl, rfl⟩ := hv2
    obtain ⟨b', off', rfl, _, hb', hc'⟩ := q5 hm
    exact ⟨(b', off', bc), hc a _ e1, hb', q2, fun j hj => hc' j _ (by simp [bools, hj])⟩
  obtain ⟨Q, hQ⟩ := choose_lt key
  exact ⟨b, off, fun a => (Q a).1, fun a => (Q a).2.1, fun a => (Q a).2.2, rfl, hb, fun a ha => (hQ a ha).1, fun a ha => (hQ a ha).2.1, fun a ha => (hQ a ha).2.2.1, fun a j ha hj => (hQ a ha).2.2.2 j hj⟩
end Go.Proofs.Ytbafcfbchbjgfaa
