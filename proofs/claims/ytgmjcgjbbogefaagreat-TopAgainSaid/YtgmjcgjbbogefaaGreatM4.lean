/- Lemmas that the laws of this seat share, 4 texts in one: HearF, HearG, HearH, Arr. No condition of their own. -/
import Derived.Test.YtgmjcgjbbogefaaGreatM3
import Derived.Test.YtgmjcgjbbogefaaGreatM1
import Derived.Deep.WholeRow
/- region.write, Of, Right at one rectangle; offset.Gap. -/
namespace Go.Proofs.YtgmjcgjbbogefaaGreat
open Go.RowKit Go.Maps
set_option linter.unusedSimpArgs false
set_option linter.unusedVariables false
set_option maxRecDepth 100000
set_option maxHeartbeats 4000000
theorem limited167 (ao : Option Addr) (c : Nat) (w : World) : Calls Tryz.prog 167 #[.slice ao 1 c] w fun e w' => e = .returned (.tuple #[.slice ao 1 c, .int .i64 0]) ∧ Exts w w' := by
  go_enter Tryz.func167, Tryz.ntmps167
  go_wp2
  go_ret2
  exact ⟨rfl, (by repeat (first | exact Exts.refl _ | apply Exts.andR | apply Exts.alloc | apply Exts.wext | apply Exts.drew | apply Exts.drewN))⟩
/-- A row of one element: its cells. -/
theorem rowF_at {S : Nat → Prop} {w : World} {ao : Option Addr} {c k : Nat} {xs : List Value} (h : RowF S k w (.slice ao 1 c) 1 xs) : ∃ b off, ao = some ⟨b, off, none⟩ ∧ b < w.heap.size ∧ ∀ t v, xs[t]? = some v → w.cell? ⟨b, off + t, none⟩ = some v := by
  obtain ⟨_, ao2, cap2, hv, q2, q3, q4, q5⟩ := h
  simp only [Value.slice.injEq, true_and] at hv
  obtain ⟨rfl, rfl⟩ := hv
  obtain ⟨b, off, rfl, _, lb, hc⟩ := q5 (by decide)
  exact ⟨b, off, rfl, lb, hc⟩
theorem write168 {S S1 : Nat → Prop} (ao vo : Option Addr) (c vc : Nat) (x0 x1 : Int) (w : World) (hr : RowF S 3 w (.slice ao 1 c) 1 [.int .i64 x0, .int .i64 x1, .slice vo 1 vc]) (hv : RowF S1 2 w (.slice vo 1 vc) 1 [.int .i64 0, .int .i64 4]) :
    Calls Tryz.prog 168 #[.slice ao 1 c] w fun e w' => ∃ ao' c', e = .returned (.slice ao' 1 c') ∧ Exts w w' ∧ RowF (fun _ => True) 4 w' (.slice ao' 1 c') 1 [.int .i64 x0, .int .i64 0, .int .i64 x1, .int .i64 4] := by
  obtain ⟨i0, hi, hz0, hz1, hz2⟩ := info_parts info41
  obtain ⟨b, off, rfl, lb, hc⟩ := rowF_at hr
  obtain ⟨b', off', rfl, lb', hc'⟩ := rowF_at hv
  have c0 := hc 0 _ rfl
  have c1 := hc 1 _ rfl
  have c2 := hc 2 _ rfl
  have d0 := hc' 0 _ rfl
  have d1 := hc' 1 _ rfl
  rw [Nat.add_zero] at c0 d0
  clear hc hc' hr hv
  go_enter Tryz.func168, Tryz.ntmps168
  go_wp2_with (first | (refine wp_loop_rounds 6 ?_; rw [rounds_succ]) | (rw [rounds_succ]))
  first | refine wp_region_ext_lit2 (by kernel_rfl) (by kernel_rfl) ?_ | refine wp_region_ext_lit (by kernel_rfl) (by kernel_rfl) ?_
  repeat (go_big_quiet_step (fail))
  refine wpQuiet_nil ?_
  intro _ hwq'
  obtain ⟨xq, hwq''⟩ := hwq'
  subst hwq''
  go_wp2_with (first | (refine wp_loop_rounds 6 ?_; rw [rounds_succ]) | (rw [rounds_succ]))
  refine wp_name ?_
  intro W3 hW3
  have HX3 := Lib.hid (show Exts w W3 by rw [hW3]; exact (by repeat (first | exact Exts.refl _ | apply Exts.andR | apply Exts.alloc | apply Exts.wext | apply Exts.drew | apply Exts.drewN)))
  have C0 : ∀ w', Exts W3 w' → w'.cell? ⟨b, off, none⟩ = some (.int .i64 x0) := fun w' h => Exts.cell (HX3.out.trans h) c0
  have C1 : ∀ w', Exts W3 w' → w'.cell? ⟨b, off + 1, none⟩ = some (.int .i64 x1) := fun w' h => Exts.cell (HX3.out.trans h) c1
  have B0 : ∀ w', Exts W3 w' → w'.cell? ⟨w.heap.size + xq.bs.size, 0, none⟩ = some (.int .i64 0) := fun w' h => Exts.cell h (by rw [hW3]; simp [go_sem])
  have B1 : ∀ w', Exts W3 w' → w'.cell? ⟨w.heap.size + xq.bs.size, 1, none⟩ = some (.int .i64 4) := fun w' h => Exts.cell h (by rw [hW3]; simp [go_sem])
  clear hW3 c0 c1 c2 d0 d1 lb lb'
  have hw1 : IntKind.i64.wrap ((1 : Int) - 1) = 0 := by decide
  have hw0 : IntKind.i64.wrap (0 : Int) = 0 := by decide
  go_region_held3 (fun w' => Exts W3 w') (first | assumption | exact (Exts.refl _).drew | exact exts_of_grown (W := W3) (by repeat (first | exact Exts.refl _ | apply Exts.andR | apply Exts.alloc | apply Exts.wext | apply Exts.drew | apply Exts.drewN)) hgrow (fun b hb => by cases hb) | exact (by repeat (first | exact Exts.refl _ | apply Exts.andR | apply Exts.alloc | apply Exts.wext | apply Exts.drew | apply Exts.drewN))) ((first | (refine step_append_lies _ rfl (.tmp 43) (.tmp 60) 42 rfl W3.heap.size 41 i0 _ 4 32 Tryz.underlying42 hi hz0 hz1 hz2 rfl (by decide) (.slice none 0 0) 0 [] (by simp [Act.eval, Act.put]) (World.ownsRow_nil _ _ _ _) ⟨W3.heap.size, 0, none⟩ 1 1 [.int .i64 x0, .int .i64 0, .int .i64 x1, .int .i64 4] (by simp [Act.eval, Act.put]) rfl (by intro j u hj; match j, hj with | 0, hj => (simp at hj; subst hj; simp [go_sem]) | 1, hj => (simp at hj; subst hj; simp [go_sem]) | 2, hj => (simp at hj; subst hj; simp [go_sem]) | 3, hj => (simp at hj; subst hj; simp [go_sem])) (rect_one _ _) (by decide) (by unfold maxLen; omega) (by omega) (by simp <;> omega) _ rfl ?_; intro g5 cg5 w5 hown5 hgrow hat5 hlt5)))
  all_goals (
    have HX5 := Lib.hid (exts_of_grown (W := W3) (by repeat (first | exact Exts.refl _ | apply Exts.andR | apply Exts.alloc | apply Exts.wext | apply Exts.drew | apply Exts.drewN)) hgrow (fun b hb => by cases hb))
    have HO5 := Lib.hid hown5
    clear hgrow hat5 hlt5 hown5
    go_wp2_with (first | (refine wp_loop_rounds 6 ?_; rw [rounds_succ]) | (rw [rounds_succ]))
    go_ret
    exact ⟨_, _, rfl, HX3.out.trans HX5.out, RowF.mono (RowF.of_owns HO5.out) (fun _ _ => trivial)⟩)
end Go.Proofs.YtgmjcgjbbogefaaGreat

/- region.Of, Right at one rectangle; offset.Gap. -/
namespace Go.Proofs.YtgmjcgjbbogefaaGreat
open Go.RowKit Go.Maps
set_option linter.unusedSimpArgs false
set_option linter.unusedVariables false
set_option maxRecDepth 100000
set_option maxHeartbeats 4000000
abbrev recV (x0 x1 : Int) : List Value := [.int .i64 x0, .int .i64 0, .int .i64 x1, .int .i64 4]
theorem of122 {S : Nat → Prop} (ao : Option Addr) (c : Nat) (x0 x1 : Int) (hk : RecOk x0 x1) (w : World) (hr : RowF S 4 w (.slice ao 1 c) 1 (recV x0 x1)) :
    Calls Tryz.prog 122 #[.slice ao 1 c] w fun e w' => ∃ ao' c', e = .returned (.tuple #[.slice ao' 1 c', .int .i64 0]) ∧ Exts w w' ∧ RowF (fun _ => True) 4 w' (.slice ao' 1 c') 1 (recV x0 x1) := by
  have hx : x0 < x1 := by rcases hk with ⟨rfl, rfl⟩ | ⟨rfl, rfl⟩ <;> decide
  have HK := Lib.hid hk
  have HR := Lib.hid hr
  have HXX := Lib.hid hx
  obtain ⟨b, off, rfl, lb, hc⟩ := rowF_at hr
  have c0 := hc 0 _ rfl
  have c1 := hc 1 _ rfl
  have c2 := hc 2 _ rfl
  have c3 := hc 3 _ rfl
  rw [Nat.add_zero] at c0
  clear hc hr hk hx
  go_enter Tryz.func122, Tryz.ntmps122
  go_wp2_with (first | (refine wp_loop_rounds 6 ?_; rw [rounds_succ]) | (rw [rounds_succ]) | (go_at_call 124; ((with_reducible refine (rectRight124 _ _ HK.out _).mono ?_); rintro e w' ⟨rfl, y1, rfl⟩)) | (go_at_call 169; fail))
  refine Calls.mono (strips169 (w.heap.size + 1 + y1.bs.size) (some ⟨b, off, none⟩) c x0 x1 HXX.out _ (by simp [go_sem]) (RowF.exts HR.out (by repeat (first | exact Exts.refl _ | apply Exts.andR | apply Exts.alloc | apply Exts.wext | apply Exts.drew | apply Exts.drewN)))) ?_
  rintro e w' ⟨ao2, cc2, vo2, vc2, rfl, ⟨y2, rfl⟩, hs, hv⟩
  have HS := Lib.hid hs
  have HV := Lib.hid hv
  clear hs hv
  go_wp2_with (first | (go_at_call 168; ((with_reducible refine (write168 _ _ _ _ x0 x1 _ (RowF.exts HS.out (by repeat (first | exact Exts.refl _ | apply Exts.andR | apply Exts.alloc | apply Exts.wext | apply Exts.drew | apply Exts.drewN))) (RowF.exts HV.out (by repeat (first | exact Exts.refl _ | apply Exts.andR | apply Exts.alloc | apply Exts.wext | apply Exts.drew | apply Exts.drewN)))).mono ?_); rintro e w' ⟨ao3, cc3, rfl, ⟨y3, rfl⟩, hw⟩; (have HW := Lib.hid hw); clear hw)) | (go_at_call 167; ((with_reducible refine (limited167 _ _ _).mono ?_); rintro e w' ⟨rfl, y4, rfl⟩)))
  go_ret2
  have HW2 := HW.out
  simp only [wext_and] at HW2
  refine ⟨ao3, cc3, rfl, (by repeat (first | exact Exts.refl _ | apply Exts.andR | apply Exts.alloc | apply Exts.wext | apply Exts.drew | apply Exts.drewN)), ?_⟩
  exact RowF.exts HW2 (by repeat (first | exact Exts.refl _ | apply Exts.andR | apply Exts.alloc | apply Exts.wext | apply Exts.drew | apply Exts.drewN))
theorem equal123 {S S1 : Nat → Prop} (ao bo : Option Addr) (c1 c2 : Nat) (x0 x1 : Int) (w : World) (hr : RowF S 4 w (.slice ao 1 c1) 1 (recV x0 x1)) (hs : RowF S1 4 w (.slice bo 1 c2) 1 (recV x0 x1)) :
    Calls Tryz.prog 123 #[.slice ao 1 c1, .slice bo 1 c2] w fun e w' => e = .returned (.bool true) ∧ Exts w w' := by
  obtain ⟨b, off, rfl, lb, hc⟩ := rowF_at hr
  have c0 := hc 0 _ rfl
  have c1' := hc 1 _ rfl
  have c2' := hc 2 _ rfl
  have c3 := hc 3 _ rfl
  rw [Nat.add_zero] at c0
  obtain ⟨b', off', rfl, lb', hd⟩ := rowF_at hs
  have d0 := hd 0 _ rfl
  have d1 := hd 1 _ rfl
  have d2 := hd 2 _ rfl
  have d3 := hd 3 _ rfl
  rw [Nat.add_zero] at d0
  clear hc hd hr hs
  go_enter Tryz.func123, Tryz.ntmps123
  go_wp2_with (first | (refine wp_loop_rounds 6 ?_; rw [rounds_succ]) | (rw [rounds_succ]))
  first | refine wp_region_ext_lit2 (by kernel_rfl) (by kernel_rfl) ?_ | refine wp_region_ext_lit (by kernel_rfl) (by kernel_rfl) ?_
  repeat (go_big_quiet_step (fail))
  refine wpQuiet_nil ?_
  intro _ hwq'
  obtain ⟨xq, hwq''⟩ := hwq'
  subst hwq''
  go_wp2_with (first | (refine wp_loop_rounds 6 ?_; rw [rounds_succ]) | (rw [rounds_succ]))
  go_ret
  exact ⟨rfl, (by repeat (first | exact Exts.refl _ | apply Exts.andR | apply Exts.alloc | apply Exts.wext | apply Exts.drew | apply Exts.drewN))⟩
end Go.Proofs.YtgmjcgjbbogefaaGreat

/- region.Right at one rectangle; offset.Gap. -/
namespace Go.Proofs.YtgmjcgjbbogefaaGreat
open Go.RowKit Go.Maps
set_option linter.unusedSimpArgs false
set_option linter.unusedVariables false
set_option maxRecDepth 100000
set_option maxHeartbeats 4000000
theorem right89 {S : Nat → Prop} (ao : Option Addr) (c : Nat) (x0 x1 : Int) (hk : RecOk x0 x1) (w : World) (hr : RowF S 4 w (.slice ao 1 c) 1 (recV x0 x1)) :
    Calls Tryz.prog 89 #[.slice ao 1 c] w fun e w' => e = .returned (.bool true) ∧ Exts w w' := by
  have HK := Lib.hid hk
  have HR := Lib.hid hr
  clear hk hr
  go_enter Tryz.func89, Tryz.ntmps89
  go_wp2_with (first | (go_at_call 122; ((with_reducible refine (of122 _ _ x0 x1 HK.out _ (RowF.exts HR.out (by repeat (first | exact Exts.refl _ | apply Exts.andR | apply Exts.alloc | apply Exts.wext | apply Exts.drew | apply Exts.drewN)))).mono ?_); rintro e w' ⟨ao1, cc1, rfl, ⟨y1, rfl⟩, ho⟩; (have HO := Lib.hid ho); clear ho)) | (go_at_call 123; ((with_reducible refine (equal123 _ _ _ _ x0 x1 _ (RowF.exts HO.out (by repeat (first | exact Exts.refl _ | apply Exts.andR | apply Exts.alloc | apply Exts.wext | apply Exts.drew | apply Exts.drewN))) (RowF.exts HR.out (by repeat (first | exact Exts.refl _ | apply Exts.andR | apply Exts.alloc | apply Exts.wext | apply Exts.drew | apply Exts.drewN)))).mono ?_); rintro e w' ⟨rfl, y2, rfl⟩)))
  go_ret
  exact ⟨rfl, (by repeat (first | exact Exts.refl _ | apply Exts.andR | apply Exts.alloc | apply Exts.wext | apply Exts.drew | apply Exts.drewN))⟩
theorem gap155 {S S1 : Nat → Prop} (ao bo : Option Addr) (c1 c2 : Nat) (x0 x1 : Int) (hk : RecOk x0 x1) (w : World) (hr : RowF S 4 w (.slice ao 1 c1) 1 (recV 0 4)) (hs : RowF S1 4 w (.slice bo 1 c2) 1 (recV x0 x1)) :
    Calls Tryz.prog 155 #[.slice ao 1 c1, .slice bo 1 c2] w fun e w' => e = .returned (.tuple #[.int .i64 0, .bool true]) ∧ Exts w w' := by
  have HK := Lib.hid hk
  have HK0 := Lib.hid (show RecOk 0 4 from .inl ⟨rfl, rfl⟩)
  have HR := Lib.hid hr
  have HS := Lib.hid hs
  obtain ⟨b, off, rfl, lb, hc⟩ := rowF_at hr
  have e0 := hc 0 _ rfl
  have e1 := hc 1 _ rfl
  have e2 := hc 2 _ rfl
  have e3 := hc 3 _ rfl
  rw [Nat.add_zero] at e0
  obtain ⟨b', off', rfl, lb', hd⟩ := rowF_at hs
  have d0 := hd 0 _ rfl
  have d1 := hd 1 _ rfl
  have d2 := hd 2 _ rfl
  have d3 := hd 3 _ rfl
  rw [Nat.add_zero] at d0
  clear hc hd hr hs hk
  go_enter Tryz.func155, Tryz.ntmps155
  go_wp2_with (first | (refine wp_loop_rounds 6 ?_; rw [rounds_succ]) | (rw [rounds_succ]) | (go_at_call 89; ((with_reducible refine (right89 _ _ 0 4 HK0.out _ (RowF.exts HR.out (by repeat (first | exact Exts.refl _ | apply Exts.andR | apply Exts.alloc | apply Exts.wext | apply Exts.drew | apply Exts.drewN)))).mono ?_); rintro e w' ⟨rfl, y1, rfl⟩)) | (go_at_call 89; ((with_reducible refine (right89 _ _ x0 x1 HK.out _ (RowF.exts HS.out (by repeat (first | exact Exts.refl _ | apply Exts.andR | apply Exts.alloc | apply Exts.wext | apply Exts.drew | apply Exts.drewN)))).mono ?_); rintro e w' ⟨rfl, y2, rfl⟩)) | (go_at_call 193; ((with_reducible refine (gap193 x0 x1 HK.out _).mono ?_); rintro e w' ⟨rfl, y3, rfl⟩)))
  go_ret2
  exact ⟨rfl, (by repeat (first | exact Exts.refl _ | apply Exts.andR | apply Exts.alloc | apply Exts.wext | apply Exts.drew | apply Exts.drewN))⟩
end Go.Proofs.YtgmjcgjbbogefaaGreat

/- Whole arrays, by value, out of and into a block that lies anywhere in a world written out. No program in sight. -/
namespace Go.Proofs.YtgmjcgjbbogefaaGreat
open Go.RowKit
set_option linter.unusedSimpArgs false
set_option linter.unusedVariables false

/-- The cells of a block. -/
def rowOf (w : World) (b : Nat) : Array Value := match w.heap[b]? with | some (.cells c _ _) => c | _ => #[]
/-- A block is a row of so many cells, none of them frozen. -/
def isRow (w : World) (b n : Nat) : Prop := ∃ c t, w.heap[b]? = some (.cells c t (0, 0)) ∧ c.size = n
section
variable (w : World) (x : Ex) (c c' : Array Value) (t : TypeId) (n k : Nat)
theorem rowOf_of {w : World} {b : Nat} {c : Array Value} {t : TypeId} {fr : Nat × Nat} (h : w.heap[b]? = some (.cells c t fr)) : rowOf w b = c := by unfold rowOf; rw [h]
theorem heap_alloc_if (o : Obj) : (w.alloc o).heap[n]? = if n < w.heap.size then w.heap[n]? else if n = w.heap.size then some o else none := by
  show (w.heap.push o)[n]? = _
  rw [Array.getElem?_push]
  by_cases h : n = w.heap.size
  · rw [if_pos h, if_neg (by omega), if_pos h]
  · rw [if_neg h]
    by_cases h2 : n < w.heap.size
    · rw [if_pos h2]
    · rw [if_neg h2, if_neg h]
      exact Array.getElem?_eq_none (by omega)
@[go_sem] theorem rowOf_alloc : rowOf (w.alloc (.cells c t)) n = if n < w.heap.size then rowOf w n else if n = w.heap.size then c else #[] := by
  unfold rowOf
  rw [heap_alloc_if]
  by_cases h : n < w.heap.size
  · rw [if_pos h, if_pos h]
  · rw [if_neg h, if_neg h]
    by_cases h2 : n = w.heap.size
    · rw [if_pos h2, if_pos h2]
    · rw [if_neg h2, if_neg h2]
@[go_sem] theorem isRow_alloc : isRow (w.alloc (.cells c t)) n k = if n < w.heap.size then isRow w n k else if n = w.heap.size then c.size = k else False := by
  unfold isRow
  rw [heap_alloc_if]
  by_cases h : n < w.heap.size
  · rw [if_pos h, if_pos h]
  · rw [if_neg h, if_neg h]
    by_cases h2 : n = w.heap.size
    · rw [if_pos h2, if_pos h2]
      apply propext
      constructor
      · rintro ⟨_, _, h, rfl⟩
        simp only [Option.some.injEq, Obj.cells.injEq] at h
        rw [h.1]
      · intro h
        exact ⟨c, t, rfl, h⟩
    · rw [if_neg h2, if_neg h2]
      apply propext
      constructor
      · rintro ⟨_, _, h, _⟩
        cases h
      · intro h
        exact h.elim
def rowFar (w : World) (x : Ex) (n : Nat) : Array Value := rowOf (wext w x) n
def isRowFar (w : World) (x : Ex) (n k : Nat) : Prop := isRow (wext w x) n k
def setRowFar (w : World) (x : Ex) (n : Nat) (c : Array Value) : World := (wext w x).setRow n c
@[go_sem] theorem rowOf_wext : rowOf (wext w x) n = if n < w.heap.size then rowOf w n else rowFar w x n := by
  split
  · rename_i h
    unfold rowOf
    rw [wext_heap_old w x n h]
  · rfl
@[go_sem] theorem isRow_wext : isRow (wext w x) n k = if n < w.heap.size then isRow w n k else isRowFar w x n k := by
  split
  · rename_i h
    unfold isRow
    rw [wext_heap_old w x n h]
  · rfl
@[go_sem] theorem rowOf_drew : rowOf w.drew n = rowOf w n := rfl
@[go_sem] theorem isRow_drew : isRow w.drew n k = isRow w n k := rfl
@[go_sem] theorem setRow_alloc : (w.alloc (.cells c t)).setRow n c' = if n < w.heap.size then (w.setRow n c').alloc (.cells c t) else if n = w.heap.size then w.alloc (.cells c' t) else w.alloc (.cells c t) := by
  split
  · rename_i h
    simp only [World.setRow, World.alloc]
    congr 1
    apply Array.ext_getElem?
    intro i
    simp only [Array.getElem?_modify, Array.getElem?_push, Array.size_modify]
    by_cases hi : i = w.heap.size
    · subst hi
      simp [show ¬ n = w.heap.size by omega]
    · simp [hi]
  · split
    · rename_i h
      subst h
      exact World.setRow_alloc_new w c c' t
    · simp only [World.setRow, World.alloc]
      congr 1
      apply Array.ext_getElem?
      intro i
      rw [Array.getElem?_modify]
      split
      · rename_i h
        subst h
        rw [Array.getElem?_eq_none (by simp; omega)]
        rfl
      · rfl
@[go_sem] theorem setRow_wext : (wext w x).setRow n c = if n < w.heap.size then wext (w.setRow n c) x else setRowFar w x n c := by
  split
  · rename_i h
    unfold World.setRow wext
    congr 1
    apply Array.ext_getElem?
    intro i
    simp only [Array.getElem?_modify, Array.getElem?_append, Array.size_modify]
    by_cases hk : i < w.heap.size
    · simp only [if_pos hk]
    · have hn : ¬ n = i := by omega
      simp only [if_neg hk, if_neg hn]
  · rfl
@[go_sem] theorem setRow_drew : w.drew.setRow n c = (w.setRow n c).drew := rfl
@[simp, go_sem] theorem setRow_size : (w.setRow n c).heap.size = w.heap.size := by simp [World.setRow]
theorem run_loadCells_row {P : Program} {w : World} {b n : Nat} (h : isRow w b n) : (loadCellsFrom ⟨b, 0, none⟩ 0 n #[]).run P w = .ok (rowOf w b) w := by
  obtain ⟨c, t, hb, rfl⟩ := h
  have := run_loadCells_list (P := P) w ⟨b, 0, none⟩ c.toList (fun j v hv => by
    rw [Addr.add_lit, Nat.zero_add, cell_of_row w b j c t (0, 0) hb]
    simpa using hv)
  rw [rowOf_of hb]
  simpa [loadCells] using this
theorem run_storeCells_row {P : Program} {w : World} {b n : Nat} {c' : Array Value} (h : isRow w b n) (hn : c'.size = n) (h1 : c'.all (·.oneCell') = true) :
    (storeCells ⟨b, 0, none⟩ c'.toList 0).run P w = .ok () (w.setRow b c') := by
  obtain ⟨c, t, hb, hc⟩ := h
  have := run_storeCells_from (P := P) b t c'.toList 0 c w hb (by simp; omega) (fun v hv => (Array.all_eq_true_iff_forall_mem.1 h1) v (by simpa using hv))
  simpa using this
end
end Go.Proofs.YtgmjcgjbbogefaaGreat

