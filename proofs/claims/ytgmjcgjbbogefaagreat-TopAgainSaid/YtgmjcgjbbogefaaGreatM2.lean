/- Lemmas that the laws of this seat share, 4 texts in one: AppEmpty, Typed, Frame, HearA. No condition of their own. -/
import Derived.Test.YtgmjcgjbbogefaaGreatM1
import Derived.Deep.RegionLawGrows
import Derived.ProofKit
import Derived.OpenShut
import Derived.ShutString
import Derived.LoopN
import Derived.OwnWalk
/- append of a slice, nil or not, to an empty one without spare room: a copy. A step of a region that draws its order. -/
namespace Go.Proofs.YtgmjcgjbbogefaaGreat
open Go.RowKit
set_option linter.unusedSimpArgs false
set_option linter.unusedVariables false

theorem run_append_zero {P : Program} {w : World} (t ty e : TypeId) (i : TypeInfo) (ht : P.underlying t = some (.slice e)) (hi : P.info? e = some i) (b : Addr) (ao : Option Addr) (c : Nat) :
    (Builtin.append_ #[t, t] ty #[.slice (some b) 0 0, .slice ao 0 c]).run P w = .ok (.slice (some b) 0 0) w := by
  cases ao <;> simp [Builtin.append_, run_underlying ht, sizeOf, typeInfo, hi, Builtin.lenOf, Builtin.firstCells, storeCells, loadCells, loadCellsFrom]

theorem step_append_empty {P : Program} {ops : Array Oper} {o : Oper} {a : Act} {w : World} {K : Act → World → Prop} {Q : Exit → Act → World → Prop} {E : Prop}
    (hg : o.guard = none) (s x : Operand) (t : TypeId) (hop : o.op = Op.call { callee := Callee.builtin Builtin.append, args := #[s, x], argTypes := #[t, t] })
    (e : TypeId) (i : TypeInfo) (z : Value) (size bytes : Nat) (h1 : P.underlying t = some (.slice e)) (h2 : P.info? e = some i) (h3 : i.zero = some z) (h4 : i.size = size) (h5 : i.bytes = bytes) (h6 : z.cells.size = size) (h7 : 0 < size)
    (b : Addr) (hs : a.eval s = .slice (some b) 0 0)
    (ao : Option Addr) (m c : Nat) (news : List Value) (hx : a.eval x = .slice ao m c) {S : Nat → Prop} (hrow : RowF S size w (.slice ao m c) m news) (h1c : ∀ u ∈ news, u.oneCell' = true)
    (b1 : m ≤ maxLen) (b2 : m * bytes ≤ 140737488355328)
    (hK : ∀ ao' c' w', Exts w w' → RowF (fun b => w.heap.size ≤ b) size w' (.slice ao' m c') m news → (m = 0 ∨ ∀ b, (Value.slice ao' m c').ownBlock = some b → ∃ cur, w'.heap[b]? = some (.cells cur e (0, 0))) → K (a.put o.dst (.slice ao' m c')) w') :
    if Region.wanted o (yielded ops a.tmps) = true then Oper.wp P o a w K Q else E := by
  obtain ⟨hl, ao2, cap2, hv, q2, q3, q4, q5⟩ := hrow
  simp only [Value.slice.injEq, true_and] at hv
  obtain ⟨rfl, rfl⟩ := hv
  by_cases hm : m = 0
  · subst hm
    obtain rfl : news = [] := List.eq_nil_of_length_eq_zero (by simpa using hl)
    have hw : Region.wanted o (yielded ops a.tmps) = true := by simp [Region.wanted, hg]
    rw [if_pos hw]
    have hrun := run_append_zero (P := P) (w := w) t o.type e i h1 h2 b ao c
    unfold Oper.wp
    simp [execOp, hop, resolve, invoke, builtin, hs, hx, hrun, Result.andThen]
    exact hK _ _ _ (Exts.refl w) ⟨by simp, some b, 0, rfl, Nat.le_refl _, Nat.zero_le _, (fun h => by cases h), fun h => by omega⟩ (.inl rfl)
  · obtain ⟨bb, off, rfl, _, _, hc⟩ := q5 (by omega)
    refine step_append_grows hg s x t hop e i z size bytes h1 h2 h3 h4 h5 h6 h7 (some b) 0 0 [] hs (fun h => by cases h) (by simp) (fun b _ j u hj => by simp at hj) ⟨bb, off, none⟩ m c news hx hl (fun j u hj => by rw [Addr.add_lit]; exact hc j u hj) h1c (by omega) (by omega) (by rw [Nat.zero_add]; exact b2) ?_
    intro v' w' ho hgr
    simp only [Nat.zero_add, List.nil_append] at ho
    obtain ⟨ao', c', rfl⟩ := owns_shape ho
    refine hK ao' c' w' (exts_of_grown (Exts.refl w) hgr (fun b hb => by cases hb)) (RowF.of_owns ho) (.inr fun b hb => ?_)
    obtain ⟨_, ⟨hv, _⟩ | ⟨g, cap, cur, hv, _, hgg, _⟩⟩ := ho
    · rw [hv] at hb; cases hb
    · rw [hv] at hb
      cases hb
      exact ⟨cur, hgg⟩
end Go.Proofs.YtgmjcgjbbogefaaGreat


/- The type of the block that a slice begins in. -/
namespace Go.Proofs.YtgmjcgjbbogefaaGreat
open Go.RowKit
set_option linter.unusedSimpArgs false
set_option linter.unusedVariables false

/-- The block that a slice begins in is a row of elements of type e. -/
def TypedBy (e : TypeId) (w : World) (v : Value) : Prop := ∀ b, v.ownBlock = some b → ∃ c, w.heap[b]? = some (.cells c e (0, 0))
theorem TypedBy.of_owns {base k n : Nat} {e : TypeId} {w : World} {v : Value} {xs : List Value} (h : w.ownsRow base e k v n xs) : TypedBy e w v := by
  intro b hb
  obtain ⟨_, ⟨rfl, _⟩ | ⟨g, cap, cur, rfl, _, hg, _⟩⟩ := h
  · cases hb
  · cases hb
    exact ⟨cur, hg⟩
theorem TypedBy.exts {e : TypeId} {w w' : World} {v : Value} (h : TypedBy e w v) (he : Exts w w') : TypedBy e w' v := fun b hb => by
  obtain ⟨c, hc⟩ := h b hb
  exact ⟨c, (he.below.block b (Array.getElem?_eq_some_iff.1 hc).1).trans hc⟩
theorem TypedBy.ne {e e' : TypeId} {w : World} {v v' : Value} (h : TypedBy e w v) (h' : TypedBy e' w v') (hne : e ≠ e') : v.ownBlock = none ∨ v.ownBlock ≠ v'.ownBlock := by
  cases hv : v.ownBlock with
  | none => exact .inl rfl
  | some b =>
    right
    intro heq
    obtain ⟨c, hc⟩ := h b hv
    obtain ⟨c', hc'⟩ := h' b heq.symm
    rw [hc] at hc'
    simp at hc'
    exact hne hc'.2
theorem TypedBy.grown {e : TypeId} {w w' : World} {v : Value} {row : Option Nat} (h : TypedBy e w v) (hg : w.grownBy w' row) (hne : v.ownBlock = none ∨ v.ownBlock ≠ row) : TypedBy e w' v := fun b hb => by
  obtain ⟨c, hc⟩ := h b hb
  refine ⟨c, (hg.block b (Array.getElem?_eq_some_iff.1 hc).1 ?_).trans hc⟩
  rcases hne with h0 | h0
  · rw [h0] at hb; cases hb
  · rw [← hb]; exact h0

end Go.Proofs.YtgmjcgjbbogefaaGreat


/- The step from a walk to a law's row: a call that returns true and makes new blocks alone leaves each argument reading as it did. No conditions. -/
namespace Go.Proofs.YtgmjcgjbbogefaaGreat
open Go.ChangeShapes Go.WideShapes Go.ChangeAt Go.RowKit

theorem own : ownKnob Tryz.prog.godebug = none := by kernel_rfl
/-- The bounds of an int. -/
def I64 (n : Int) : Prop := -9223372036854775808 ≤ n ∧ n ≤ 9223372036854775807
theorem I64.of_wf {x : Int} (h : (Lit.int .i64 x).wf = true) : I64 x := by
  simp [Lit.wf, IntKind.min, IntKind.max, IntKind.signed, IntKind.bits] at h
  exact ⟨by omega, by omega⟩
theorem laidOut : laidOutB Tryz.prog = true := by kernel_rfl

section
variable {H : Type} {enc : TypeId × Value → H} {P : Program}

theorem trodAll_below (hl : laidOutB P = true) {W W' : World} (hb : Below W.heap.size W W') : ∀ {ts : List TypeId} {vs : List Value} {ds : List (DataW H)} {ps : List MemPlace},
    (∀ t ∈ ts, P.readableRec t = true ∧ t < P.types.size) → DataW.TrodAll enc P W 0 (fun _ => true) true ts vs ds ps → (∀ x ∈ ps, x.block < W.heap.size) →
    DataW.TrodAll enc P W' 0 (fun b => decide (b < W.heap.size)) true ts vs ds ps
  | [], [], [], _, _, h, _ => h
  | t :: ts, v :: vs, d :: ds, ps, ht, h, hlt => by
    obtain ⟨p, q, h1, h2, rfl⟩ := h
    refine ⟨p, q, ?_, ?_, rfl⟩
    · exact Below.trod hl (ht t (by simp)).1 (ht t (by simp)).2 h1 hb (fun x hx => hlt x (by simp [hx]))
    · exact trodAll_below hl hb (fun t' ht' => ht t' (by simp [ht'])) h2 (fun x hx => hlt x (by simp [hx]))

/-- THE LAW's STEP: true comes back, and there are new blocks alone. -/
theorem law_post {f : Func} {s : ChangeSpec} {W W' : World} {args : Array Value} {ds gs : List (DataW H)} {before : List MemPlace} {T : TypeId}
    (hl : laidOutB P = true) (hT : P.underlying T = some .bool) (hf : f.resultTypes = #[T]) (hvars : s.vars = [])
    (hts : ∀ t ∈ f.params.toList, P.readableRec t = true ∧ t < P.types.size)
    (hW : DataW.Whole enc P f.params.toList s.vars false W args.toList ds gs before)
    (hfn : s.fn H (ds ++ gs) = { results := [.lit (.bool true)], args := ds, vars := [] }) (hx : Exts W W') :
    s.post enc P f false true false false W args (.bool true) W' := by
  have hb := hx.below
  have hlt : ∀ p ∈ before, p.block < W.heap.size := fun p hp => hW.lt p hp
  have hW' := hW
  obtain ⟨p, q, hA, hV, rfl, _, _⟩ := hW
  rw [hvars] at hV
  obtain ⟨rfl, rfl⟩ := trodVars_none hV
  simp only [List.append_nil] at hW' hlt
  refine ⟨ds, [], p, [], p, [], hW', ?_, ?_, ?_, ?_, fun h => by cases h⟩
  · rw [hfn, hf]
    exact trodAll_mk1 (shut_bool hT true)
  · rw [hfn]
    exact trodAll_below hl hb hts hA hlt
  · rw [hfn, hvars]
    rfl
  · exact hb.frame _
end
end Go.Proofs.YtgmjcgjbbogefaaGreat


/- What a hearing asks of the calendar and the notice, where there are no holidays, stays and tables. -/
namespace Go.Proofs.YtgmjcgjbbogefaaGreat
open Go.RowKit Go.Maps
set_option linter.unusedSimpArgs false
set_option linter.unusedVariables false
set_option maxRecDepth 100000
set_option maxHeartbeats 2000000
theorem isDay77 (w : World) : Calls Tryz.prog 77 #[.int .i64 0] w fun e w' => e = .returned (.bool true) ∧ Exts w w' := by
  go_enter Tryz.func77, Tryz.ntmps77
  go_wp2
  go_ret
  exact ⟨rfl, (by repeat (first | exact Exts.refl _ | apply Exts.andR | apply Exts.alloc | apply Exts.wext | apply Exts.drew | apply Exts.drewN))⟩
theorem right76 (w : World) : Calls Tryz.prog 76 #[.slice none 0 0] w fun e w' => e = .returned (.bool true) ∧ Exts w w' := by
  go_enter Tryz.func76, Tryz.ntmps76
  go_wp2_with (first | (refine wp_loop_rounds 6 ?_; rw [rounds_succ]) | (rw [rounds_succ]))
  go_ret
  exact ⟨rfl, (by repeat (first | exact Exts.refl _ | apply Exts.andR | apply Exts.alloc | apply Exts.wext | apply Exts.drew | apply Exts.drewN))⟩
theorem len121_0 (w : World) : Calls Tryz.prog 121 #[.int .u64 0] w fun e w' => e = .returned (.int .i64 0) ∧ Exts w w' := by
  go_enter Tryz.func121, Tryz.ntmps121
  go_wp2
  go_ret
  exact ⟨by kernel_rfl, (by repeat (first | exact Exts.refl _ | apply Exts.andR | apply Exts.alloc | apply Exts.wext | apply Exts.drew | apply Exts.drewN))⟩
theorem len121_1 (w : World) : Calls Tryz.prog 121 #[.int .u64 1] w fun e w' => e = .returned (.int .i64 1) ∧ Exts w w' := by
  go_enter Tryz.func121, Tryz.ntmps121
  go_wp2
  go_ret
  exact ⟨by kernel_rfl, (by repeat (first | exact Exts.refl _ | apply Exts.andR | apply Exts.alloc | apply Exts.wext | apply Exts.drew | apply Exts.drewN))⟩
theorem len121_2 (w : World) : Calls Tryz.prog 121 #[.int .u64 2] w fun e w' => e = .returned (.int .i64 2) ∧ Exts w w' := by
  go_enter Tryz.func121, Tryz.ntmps121
  go_wp2
  go_ret
  exact ⟨by kernel_rfl, (by repeat (first | exact Exts.refl _ | apply Exts.andR | apply Exts.alloc | apply Exts.wext | apply Exts.drew | apply Exts.drewN))⟩
end Go.Proofs.YtgmjcgjbbogefaaGreat
