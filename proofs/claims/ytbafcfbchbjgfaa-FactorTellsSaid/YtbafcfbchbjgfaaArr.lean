/- Whole arrays, by value, out of and into a block that lies anywhere in a world written out. No program in sight. -/
import Derived.Test.YtbafcfbchbjgfaaHeld
import Derived.Deep.WholeRow
namespace Go.Proofs.Ytbafcfbchbjgfaa
open Go.RowKit
set_option linter.unusedSimpArgs false
set_option linter.unusedVariables false

/-- The cells of a block. -/
def rowOf (w : World) (b : Nat) : Array Value := match w.heap[b]? with | some (.cells c _ _) => c | _ => #[]
/-- A block is a row of so many cells, none of them frozen. -/
def isRow (w : World) (b n : Nat) : Prop := ∃ c t, w.heap[b]? = some (.cells c t (0, 0)) ∧ c.size = n
section
variable (w : World) (x : Ex) (c c' : Array Value) (t : TypeId) (n k : Nat)
theorem rowOf_of {w : World} {b : Nat} {c : Array Value} {t : TypeId} {fr : Nat × Nat} (h : w.heap[b]? = some (.cells c t fr)) : rowOf w b = c := by unfold rowOf; rw [h]
theorem heap_alloc_if (o : Obj) : (w.alloc o).heap[n]? = if n < w.heap.size then w.heap[n]? else if n = w.heap.size then some o else none := by
  show (w.heap.push o)[n]? = _
  rw [Array.getElem?_push]
  by_cases h : n = w.heap.size
  · rw [if_pos h, if_neg (by omega), if_pos h]
  · rw [if_neg h]
    by_cases h2 : n < w.heap.size
    · rw [if_pos h2]
    · rw [if_neg h2, if_neg h]
      exact Array.getElem?_eq_none (by omega)
@[go_sem] theorem rowOf_alloc : rowOf (w.alloc (.cells c t)) n = if n < w.heap.size then rowOf w n else if n = w.heap.size then c else #[] := by
  unfold rowOf
  rw [heap_alloc_if]
  by_cases h : n < w.heap.size
  · rw [if_pos h, if_pos h]
  · rw [if_neg h, if_neg h]
    by_cases h2 : n = w.heap.size
    · rw [if_pos h2, if_pos h2]
    · rw [if_neg h2, if_neg h2]
@[go_sem] theorem isRow_alloc : isRow (w.alloc (.cells c t)) n k = if n < w.heap.size then isRow w n k else if n = w.heap.size then c.size = k else False := by
  unfold isRow
  rw [heap_alloc_if]
  by_cases h : n < w.heap.size
  · rw [if_pos h, if_pos h]
  · rw [if_neg h, if_neg h]
    by_cases h2 : n = w.heap.size
    · rw [if_pos h2, if_pos h2]
      apply propext
      constructor
      · rintro ⟨_, _, h, rfl⟩
        simp only [Option.some.injEq, Obj.cells.injEq] at h
        rw [h.1]
      · intro h
        exact ⟨c, t, rfl, h⟩
    · rw [if_neg h2, if_neg h2]
      apply propext
      constructor
      · rintro ⟨_, _, h, _⟩
        cases h
      · intro h
        exact h.elim
def rowFar (w : World) (x : Ex) (n : Nat) : Array Value := rowOf (wext w x) n
def isRowFar (w : World) (x : Ex) (n k : Nat) : Prop := isRow (wext w x) n k
def setRowFar (w : World) (x : Ex) (n : Nat) (c : Array Value) : World := (wext w x).setRow n c
@[go_sem] theorem rowOf_wext : rowOf (wext w x) n = if n < w.heap.size then rowOf w n else rowFar w x n := by
  split
  · rename_i h
    unfold rowOf
    rw [wext_heap_old w x n h]
  · rfl
@[go_sem] theorem isRow_wext : isRow (wext w x) n k = if n < w.heap.size then isRow w n k else isRowFar w x n k := by
  split
  · rename_i h
    unfold isRow
    rw [wext_heap_old w x n h]
  · rfl
@[go_sem] theorem rowOf_drew : rowOf w.drew n = rowOf w n := rfl
@[go_sem] theorem isRow_drew : isRow w.drew n k = isRow w n k := rfl
@[go_sem] theorem setRow_alloc : (w.alloc (.cells c t)).setRow n c' = if n < w.heap.size then (w.setRow n c').alloc (.cells c t) else if n = w.heap.size then w.alloc (.cells c' t) else w.alloc (.cells c t) := by
  split
  · rename_i h
    simp only [World.setRow, World.alloc]
    congr 1
    apply Array.ext_getElem?
    intro i
    simp only [Array.getElem?_modify, Array.getElem?_push, Array.size_modify]
    by_cases hi : i = w.heap.size
    · subst hi
      simp [show ¬ n = w.heap.size by omega]
    · simp [hi]
  · split
    · rename_i h
      subst h
      exact World.setRow_alloc_new w c c' t
    · simp only [World.setRow, World.alloc]
      congr 1
      apply Array.ext_getElem?
      intro i
      rw [Array.getElem?_modify]
      split
      · rename_i h
        subst h
        rw [Array.getElem?_eq_none (by simp; omega)]
        rfl
      · rfl
@[go_sem] theorem setRow_wext : (wext w x).setRow n c = if n < w.heap.size then wext (w.setRow n c) x else setRowFar w x n c := by
  split
  · rename_i h
    unfold World.setRow wext
    congr 1
    apply Array.ext_getElem?
    intro i
    simp only [Array.getElem?_modify, Array.getElem?_append, Array.size_modify]
    by_cases hk : i < w.heap.size
    · simp only [if_pos hk]
    · have hn : ¬ n = i := by omega
      simp only [if_neg hk, if_neg hn]
  · rfl
@[go_sem] theorem setRow_drew : w.drew.setRow n c = (w.setRow n c).drew := rfl
@[simp, go_sem] theorem setRow_size : (w.setRow n c).heap.size = w.heap.size := by simp [World.setRow]
theorem run_loadCells_row {P : Program} {w : World} {b n : Nat} (h : isRow w b n) : (loadCellsFrom ⟨b, 0, none⟩ 0 n #[]).run P w = .ok (rowOf w b) w := by
  obtain ⟨c, t, hb, rfl⟩ := h
  have := run_loadCells_list (P := P) w ⟨b, 0, none⟩ c.toList (fun j v hv => by
    rw [Addr.add_lit, Nat.zero_add, cell_of_row w b j c t (0, 0) hb]
    simpa using hv)
  rw [rowOf_of hb]
  simpa [loadCells] using this
theorem run_storeCells_row {P : Program} {w : World} {b n : Nat} {c' : Array Value} (h : isRow w b n) (hn : c'.size = n) (h1 : c'.all (·.oneCell') = true) :
    (storeCells ⟨b, 0, none⟩ c'.toList 0).run P w = .ok () (w.setRow b c') := by
  obtain ⟨c, t, hb, hc⟩ := h
  have := run_storeCells_from (P := P) b t c'.toList 0 c w hb (by simp; omega) (fun v hv => (Array.all_eq_true_iff_forall_mem.1 h1) v (by simpa using hv))
  simpa using this
end
end Go.Proofs.Ytbafcfbchbjgfaa
