/- slices.Clone at volumes and at entries: a new slice that reads alike. Conditions: its bytes fit. -/
import Derived.Test.YtnpjagodbnpahaaMem
import Derived.Test.YtnpjagodbnpahaaFrame
namespace Go.Proofs.Ytnpjagodbnpahaa
open Go.RowKit
set_option linter.unusedSimpArgs false
set_option linter.unusedVariables false

/-- The block that a slice begins in is a row of elements of type e. -/
def TypedBy (e : TypeId) (w : World) (v : Value) : Prop := ∀ b, v.ownBlock = some b → ∃ c, w.heap[b]? = some (.cells c e (0, 0))
theorem TypedBy.of_owns {base k n : Nat} {e : TypeId} {w : World} {v : Value} {xs : List Value} (h : w.ownsRow base e k v n xs) : TypedBy e w v := by
  intro b hb
  obtain ⟨_, ⟨rfl, _⟩ | ⟨g, cap, cur, rfl, _, hg, _⟩⟩ := h
  · cases hb
  · cases hb
    exact ⟨cur, hg⟩
theorem TypedBy.exts {e : TypeId} {w w' : World} {v : Value} (h : TypedBy e w v) (he : Exts w w') : TypedBy e w' v := fun b hb => by
  obtain ⟨c, hc⟩ := h b hb
  exact ⟨c, (he.below.block b (Array.getElem?_eq_some_iff.1 hc).1).trans hc⟩
theorem TypedBy.ne {e e' : TypeId} {w : World} {v v' : Value} (h : TypedBy e w v) (h' : TypedBy e' w v') (hne : e ≠ e') : v.ownBlock = none ∨ v.ownBlock ≠ v'.ownBlock := by
  cases hv : v.ownBlock with
  | none => exact .inl rfl
  | some b =>
    right
    intro heq
    obtain ⟨c, hc⟩ := h b hv
    obtain ⟨c', hc'⟩ := h' b heq.symm
    rw [hc] at hc'
    simp at hc'
    exact hne hc'.2
theorem TypedBy.grown {e : TypeId} {w w' : World} {v : Value} {row : Option Nat} (h : TypedBy e w v) (hg : w.grownBy w' row) (hne : v.ownBlock = none ∨ v.ownBlock ≠ row) : TypedBy e w' v := fun b hb => by
  obtain ⟨c, hc⟩ := h b hb
  refine ⟨c, (hg.block b (Array.getElem?_eq_some_iff.1 hc).1 ?_).trans hc⟩
  rcases hne with h0 | h0
  · rw [h0] at hb; cases hb
  · rw [← hb]; exact h0

theorem info61 : (Try.prog.info? 61).map (fun i => (i.zero, i.size, i.bytes)) = some (some (.agg #[.int .i64 0, .int .i64 0, .int .i64 0, .int .i64 0, .int .i64 0, .int .i64 0, .int .i64 0, .int .i64 0, .bool false]), 9, 72) := by kernel_rfl

set_option maxHeartbeats 400000 in
theorem clone30 (v : Value) (n : Nat) (xs : List Value) (w : World) {S : Nat → Prop} (h : RowF S 9 w v n xs) (h1 : ∀ u ∈ xs, u.oneCell' = true) (hb : n * 72 ≤ 140737488355328) :
    Calls Try.prog 34 #[v] w fun e w' => ∃ ao' c', e = .returned (.slice ao' n c') ∧ Exts w w' ∧ RowF (fun b => w.heap.size ≤ b) 9 w' (.slice ao' n c') n xs ∧ TypedBy 61 w' (.slice ao' n c') := by
  obtain ⟨i0, hi, hz0, hz1, hz2⟩ := info_parts info61
  have hnle := h.nle
  have hlen := h.len
  obtain ⟨_, ao, cap, rfl, h2, h3, h4, h5⟩ := id h
  cases ao with
  | none =>
    have hc := h4 rfl
    subst hc
    obtain rfl : n = 0 := by omega
    obtain rfl : xs = [] := List.eq_nil_of_length_eq_zero (by simpa using hlen)
    have e := fun w => Lib.run_eql_slice_nil (P := Try.prog) w 30 61 none 0 0 0 0 Try.underlying30
    go_enter Try.func34, Try.ntmps34
    go_wp2
    go_ret
    exact ⟨none, 0, rfl, Exts.refl _, RowF.nil _ 9 w, fun b hb => by cases hb⟩
  | some a =>
    have e := fun w => Lib.run_eql_slice_nil (P := Try.prog) w 30 61 (some a) n cap 0 0 Try.underlying30
    have hx : ∀ j u, xs[j]? = some u → (w.alloc (.cells #[] 61)).cell? (a.add j) = some u := by
      intro j u hj
      have hn : 0 < n := by
        have := (List.getElem?_eq_some_iff.1 hj).1
        rw [hlen] at this
        exact Nat.pos_of_ne_zero (fun h0 => by subst h0; simp at this)
      obtain ⟨b, off, hab, _, hbs, hc⟩ := h5 hn
      cases hab
      rw [Addr.add_lit, World.cell?_alloc_lt _ _ _ hbs]
      exact hc j u hj
    clear h2 h3 h4 h5 h
    unfold maxLen at hnle
    go_enter Try.func34, Try.ntmps34
    go_wp2_with (at_builtin; refine wpList_append_own _ rfl _ _ 30 rfl w.heap.size 61 i0 _ 9 72 Try.underlying30 hi hz0 hz1 hz2 rfl (by decide) _ 0 [] rfl (World.ownsRow_made w #[] 0 (Nat.le_refl _) (by decide) rfl) a n cap xs rfl hlen hx h1 (by unfold maxLen; omega) (by omega) (by simp) ?_; intro v' w1 hown hgrow hnil)
    go_ret
    simp only [Nat.zero_add, List.nil_append] at hown
    have hrow := RowF.of_owns hown
    obtain ⟨_, ao', c', rfl, _⟩ := id hrow
    exact ⟨ao', c', rfl, exts_of_grown ((Exts.refl w).alloc _) hgrow (fun b hb => by cases hb; exact Nat.le_refl _), hrow, TypedBy.of_owns hown⟩

theorem info63 : (Try.prog.info? 63).map (fun i => (i.zero, i.size, i.bytes)) = some (some (.agg #[.string ByteArray.empty, .int .i64 0]), 2, 24) := by kernel_rfl

set_option maxHeartbeats 400000 in
theorem clone31 (v : Value) (n : Nat) (xs : List Value) (w : World) {S : Nat → Prop} (h : RowF S 2 w v n xs) (h1 : ∀ u ∈ xs, u.oneCell' = true) (hb : n * 24 ≤ 140737488355328) :
    Calls Try.prog 35 #[v] w fun e w' => ∃ ao' c', e = .returned (.slice ao' n c') ∧ Exts w w' ∧ RowF (fun b => w.heap.size ≤ b) 2 w' (.slice ao' n c') n xs ∧ TypedBy 63 w' (.slice ao' n c') := by
  obtain ⟨i0, hi, hz0, hz1, hz2⟩ := info_parts info63
  have hnle := h.nle
  have hlen := h.len
  obtain ⟨_, ao, cap, rfl, h2, h3, h4, h5⟩ := id h
  cases ao with
  | none =>
    have hc := h4 rfl
    subst hc
    obtain rfl : n = 0 := by omega
    obtain rfl : xs = [] := List.eq_nil_of_length_eq_zero (by simpa using hlen)
    have e := fun w => Lib.run_eql_slice_nil (P := Try.prog) w 31 63 none 0 0 0 0 Try.underlying31
    go_enter Try.func35, Try.ntmps35
    go_wp2
    go_ret
    exact ⟨none, 0, rfl, Exts.refl _, RowF.nil _ 2 w, fun b hb => by cases hb⟩
  | some a =>
    have e := fun w => Lib.run_eql_slice_nil (P := Try.prog) w 31 63 (some a) n cap 0 0 Try.underlying31
    have hx : ∀ j u, xs[j]? = some u → (w.alloc (.cells #[] 63)).cell? (a.add j) = some u := by
      intro j u hj
      have hn : 0 < n := by
        have := (List.getElem?_eq_some_iff.1 hj).1
        rw [hlen] at this
        exact Nat.pos_of_ne_zero (fun h0 => by subst h0; simp at this)
      obtain ⟨b, off, hab, _, hbs, hc⟩ := h5 hn
      cases hab
      rw [Addr.add_lit, World.cell?_alloc_lt _ _ _ hbs]
      exact hc j u hj
    clear h2 h3 h4 h5 h
    unfold maxLen at hnle
    go_enter Try.func35, Try.ntmps35
    go_wp2_with (at_builtin; refine wpList_append_own _ rfl _ _ 31 rfl w.heap.size 63 i0 _ 2 24 Try.underlying31 hi hz0 hz1 hz2 rfl (by decide) _ 0 [] rfl (World.ownsRow_made w #[] 0 (Nat.le_refl _) (by decide) rfl) a n cap xs rfl hlen hx h1 (by unfold maxLen; omega) (by omega) (by simp) ?_; intro v' w1 hown hgrow hnil)
    go_ret
    simp only [Nat.zero_add, List.nil_append] at hown
    have hrow := RowF.of_owns hown
    obtain ⟨_, ao', c', rfl, _⟩ := id hrow
    exact ⟨ao', c', rfl, exts_of_grown ((Exts.refl w).alloc _) hgrow (fun b hb => by cases hb; exact Nat.le_refl _), hrow, TypedBy.of_owns hown⟩
end Go.Proofs.Ytnpjagodbnpahaa
