import Derived.Test.YtbafcfbchbjgfaaRows
import Derived.WalkKit
import Derived.WalkSpells
import Derived.WalkLawsBesides
import Derived.Deep.QuietTactic
import Derived.BigQuiet
import Derived.Lib.Hide
namespace Go.Proofs.Ytbafcfbchbjgfaa
open Go.RowKit

/-- New blocks, and a count of draws. -/
structure Ex where
  bs : Array Obj
  dr : Nat

instance : Nonempty Ex := ⟨⟨#[], 0⟩⟩

/-- The world w with new blocks behind its own, at another count of draws. -/
def wext (w : World) (x : Ex) : World := { w with heap := w.heap ++ x.bs, drawn := x.dr }

section
variable (w : World) (x y : Ex)
@[simp, go_sem] theorem wext_size : (wext w x).heap.size = w.heap.size + x.bs.size := by simp [wext]
@[simp, go_sem] theorem wext_tape : (wext w x).tape = w.tape := rfl
theorem wext_heap_old (k : Nat) (h : k < w.heap.size) : (wext w x).heap[k]? = w.heap[k]? := by
  simp only [wext, Array.getElem?_append]
  rw [if_pos h]
@[go_sem] theorem wext_cell (n i : Nat) (h : n < w.heap.size) : (wext w x).cell? ⟨n, i, none⟩ = w.cell? ⟨n, i, none⟩ := by
  simp only [World.cell?, wext_heap_old w x n h]
@[go_sem] theorem wext_frozen (n i : Nat) (h : n < w.heap.size) : (wext w x).frozen? ⟨n, i, none⟩ = w.frozen? ⟨n, i, none⟩ := by
  simp only [World.frozen?, wext_heap_old w x n h]
@[go_sem] theorem wext_setCell (n i : Nat) (v : Value) (h : n < w.heap.size) : (wext w x).setCell ⟨n, i, none⟩ v = wext (w.setCell ⟨n, i, none⟩ v) x := by
  unfold World.setCell wext
  congr 1
  apply Array.ext_getElem?
  intro k
  simp only [Array.getElem?_modify, Array.getElem?_append, Array.size_modify]
  by_cases hk : k < w.heap.size
  · simp only [if_pos hk]
  · have hn : ¬ n = k := by omega
    simp only [if_neg hk, if_neg hn]
@[go_sem] theorem wext_of_drew : wext w.drew x = wext w x := rfl
@[go_sem] theorem drew_of_wext : (wext w x).drew = wext w ⟨x.bs, x.dr + 1⟩ := rfl
@[go_sem] theorem drewN_of_wext (n : Nat) : (wext w x).drewN n = wext w ⟨x.bs, x.dr + n⟩ := rfl
theorem wext_wext : wext (wext w x) y = wext w ⟨x.bs ++ y.bs, y.dr⟩ := by simp [wext, Array.append_assoc]
/-- One behind the other. -/
def Ex.and (x y : Ex) : Ex := ⟨x.bs ++ y.bs, y.dr⟩
@[simp, go_sem] theorem add_and_size (n : Nat) (x y : Ex) : n + (x.and y).bs.size = n + x.bs.size + y.bs.size := by simp [Ex.and, Nat.add_assoc]
@[go_sem] theorem wext_and : wext (wext w x) y = wext w (x.and y) := wext_wext w x y
@[go_sem] theorem lt_add_more (a b c : Nat) (h : a < b) : (a < b + c) = True := eq_true (by omega)
@[go_sem] theorem lt_add_more2 (a b c1 c2 : Nat) (h : a < b) : (a < b + c1 + c2) = True := eq_true (by omega)
@[go_sem] theorem lt_add_more3 (a b c1 c2 c3 : Nat) (h : a < b) : (a < b + c1 + c2 + c3) = True := eq_true (by omega)
@[go_sem] theorem lt_add_more4 (a b c1 c2 c3 c4 : Nat) (h : a < b) : (a < b + c1 + c2 + c3 + c4) = True := eq_true (by omega)
@[go_sem] theorem lt_add_more5 (a b c1 c2 c3 c4 c5 : Nat) (h : a < b) : (a < b + c1 + c2 + c3 + c4 + c5) = True := eq_true (by omega)
@[go_sem] theorem lt_add_more6 (a b c1 c2 c3 c4 c5 c6 : Nat) (h : a < b) : (a < b + c1 + c2 + c3 + c4 + c5 + c6) = True := eq_true (by omega)
@[go_sem] theorem lt_add_more7 (a b c1 c2 c3 c4 c5 c6 c7 : Nat) (h : a < b) : (a < b + c1 + c2 + c3 + c4 + c5 + c6 + c7) = True := eq_true (by omega)
@[go_sem] theorem lt_add_more8 (a b c1 c2 c3 c4 c5 c6 c7 c8 : Nat) (h : a < b) : (a < b + c1 + c2 + c3 + c4 + c5 + c6 + c7 + c8) = True := eq_true (by omega)
@[go_sem] theorem lt_add_more9 (a b c1 c2 c3 c4 c5 c6 c7 c8 c9 : Nat) (h : a < b) : (a < b + c1 + c2 + c3 + c4 + c5 + c6 + c7 + c8 + c9) = True := eq_true (by omega)
@[go_sem] theorem lt_add_more10 (a b c1 c2 c3 c4 c5 c6 c7 c8 c9 c10 : Nat) (h : a < b) : (a < b + c1 + c2 + c3 + c4 + c5 + c6 + c7 + c8 + c9 + c10) = True := eq_true (by omega)
@[go_sem] theorem lt_add_more11 (a b c1 c2 c3 c4 c5 c6 c7 c8 c9 c10 c11 : Nat) (h : a < b) : (a < b + c1 + c2 + c3 + c4 + c5 + c6 + c7 + c8 + c9 + c10 + c11) = True := eq_true (by omega)
@[go_sem] theorem lt_add_more12 (a b c1 c2 c3 c4 c5 c6 c7 c8 c9 c10 c11 c12 : Nat) (h : a < b) : (a < b + c1 + c2 + c3 + c4 + c5 + c6 + c7 + c8 + c9 + c10 + c11 + c12) = True := eq_true (by omega)
@[go_sem] theorem lt_one_more1 (a c1 : Nat) : (a < a + 1 + c1) = True := eq_true (by omega)
@[go_sem] theorem lt_one_more2 (a c1 c2 : Nat) : (a < a + 1 + c1 + c2) = True := eq_true (by omega)
@[go_sem] theorem lt_one_more3 (a c1 c2 c3 : Nat) : (a < a + 1 + c1 + c2 + c3) = True := eq_true (by omega)
@[go_sem] theorem lt_one_more4 (a c1 c2 c3 c4 : Nat) : (a < a + 1 + c1 + c2 + c3 + c4) = True := eq_true (by omega)
@[go_sem] theorem lt_one_more5 (a c1 c2 c3 c4 c5 : Nat) : (a < a + 1 + c1 + c2 + c3 + c4 + c5) = True := eq_true (by omega)
@[go_sem] theorem lt_one_more6 (a c1 c2 c3 c4 c5 c6 : Nat) : (a < a + 1 + c1 + c2 + c3 + c4 + c5 + c6) = True := eq_true (by omega)
@[go_sem] theorem lt_one_more7 (a c1 c2 c3 c4 c5 c6 c7 : Nat) : (a < a + 1 + c1 + c2 + c3 + c4 + c5 + c6 + c7) = True := eq_true (by omega)
@[go_sem] theorem lt_one_more8 (a c1 c2 c3 c4 c5 c6 c7 c8 : Nat) : (a < a + 1 + c1 + c2 + c3 + c4 + c5 + c6 + c7 + c8) = True := eq_true (by omega)
@[go_sem] theorem lt_one_more9 (a c1 c2 c3 c4 c5 c6 c7 c8 c9 : Nat) : (a < a + 1 + c1 + c2 + c3 + c4 + c5 + c6 + c7 + c8 + c9) = True := eq_true (by omega)
@[go_sem] theorem lt_one_more10 (a c1 c2 c3 c4 c5 c6 c7 c8 c9 c10 : Nat) : (a < a + 1 + c1 + c2 + c3 + c4 + c5 + c6 + c7 + c8 + c9 + c10) = True := eq_true (by omega)
@[go_sem] theorem lt_one_more11 (a c1 c2 c3 c4 c5 c6 c7 c8 c9 c10 c11 : Nat) : (a < a + 1 + c1 + c2 + c3 + c4 + c5 + c6 + c7 + c8 + c9 + c10 + c11) = True := eq_true (by omega)
@[go_sem] theorem lt_one_more12 (a c1 c2 c3 c4 c5 c6 c7 c8 c9 c10 c11 c12 : Nat) : (a < a + 1 + c1 + c2 + c3 + c4 + c5 + c6 + c7 + c8 + c9 + c10 + c11 + c12) = True := eq_true (by omega)
theorem wext_self : wext w ⟨#[], w.drawn⟩ = w := by simp [wext]
theorem wext_one (o : Obj) : w.alloc o = wext w ⟨#[o], w.drawn⟩ := by
  show ({ w with heap := w.heap.push o } : World) = { w with heap := w.heap ++ #[o], drawn := w.drawn }
  rw [Array.push_eq_append]
theorem wext_drew : w.drew = wext w ⟨#[], w.drawn + 1⟩ := by
  show ({ w with drawn := w.drawn + 1 } : World) = { w with heap := w.heap ++ #[], drawn := w.drawn + 1 }
  rw [Array.append_empty]
end

/-! The same four questions where the block's number wants arithmetic: by 'if', which the walk decides. -/
section
variable (w : World) (x : Ex) (c : Array Value) (t : TypeId) (n i : Nat) (v : Value)
def cellFar (w : World) (x : Ex) (n i : Nat) : Option Value := (wext w x).cell? ⟨n, i, none⟩
def frozenFar (w : World) (x : Ex) (n i : Nat) : Bool := (wext w x).frozen? ⟨n, i, none⟩
def setFar (w : World) (x : Ex) (n i : Nat) (v : Value) : World := (wext w x).setCell ⟨n, i, none⟩ v
@[go_sem low] theorem alloc_cell_if : (w.alloc (.cells c t)).cell? ⟨n, i, none⟩ = if n < w.heap.size then w.cell? ⟨n, i, none⟩ else if n = w.heap.size then c[i]? else none := by
  split
  · rename_i h; exact World.cell?_alloc_lt w _ ⟨n, i, none⟩ h
  · split
    · rename_i h; subst h; exact World.cell?_alloc_new w c t i
    · simp only [World.alloc, World.cell?, Array.getElem?_push]
      rw [if_neg (by omega), Array.getElem?_eq_none (by omega)]
@[go_sem low] theorem alloc_frozen_if : (w.alloc (.cells c t)).frozen? ⟨n, i, none⟩ = if n < w.heap.size then w.frozen? ⟨n, i, none⟩ else false := by
  split
  · rename_i h; exact World.frozen?_alloc_past _ n i h
  · by_cases h2 : n = w.heap.size
    · subst h2; exact World.frozen?_alloc_new w c t i
    · simp only [World.alloc, World.frozen?, Array.getElem?_push]
      rw [if_neg (by omega), Array.getElem?_eq_none (by omega)]
@[go_sem low] theorem alloc_setCell_if : (w.alloc (.cells c t)).setCell ⟨n, i, none⟩ v = if n < w.heap.size then (w.setCell ⟨n, i, none⟩ v).alloc (.cells c t) else if n = w.heap.size then w.alloc (.cells (c.setIfInBounds i v) t) else w.alloc (.cells c t) := by
  split
  · rename_i h; exact World.setCell_alloc_past _ n i v h
  · split
    · rename_i h; exact World.setCell_alloc_at c t n i v h
    · unfold World.setCell World.alloc
      congr 1
      apply Array.ext_getElem?
      intro k
      rw [Array.getElem?_modify]
      split
      · rename_i h; subst h; rw [Array.getElem?_eq_none (by simp; omega)]; rfl
      · rfl
@[go_sem low] theorem wext_cell_if : (wext w x).cell? ⟨n, i, none⟩ = if n < w.heap.size then w.cell? ⟨n, i, none⟩ else cellFar w x n i := by
  split
  · rename_i h; exact wext_cell w x n i h
  · rfl
@[go_sem low] theorem wext_frozen_if : (wext w x).frozen? ⟨n, i, none⟩ = if n < w.heap.size then w.frozen? ⟨n, i, none⟩ else frozenFar w x n i := by
  split
  · rename_i h; exact wext_frozen w x n i h
  · rfl
@[go_sem low] theorem wext_setCell_if : (wext w x).setCell ⟨n, i, none⟩ v = if n < w.heap.size then wext (w.setCell ⟨n, i, none⟩ v) x else setFar w x n i v := by
  split
  · rename_i h; exact wext_setCell w x n i v h
  · rfl
end

/-- w' is w with new blocks: nothing that was there has turned. -/
def Exts (w w' : World) : Prop := ∃ x, w' = wext w x
theorem Exts.refl (w : World) : Exts w w := ⟨_, (wext_self w).symm⟩
theorem Exts.trans {a b c : World} : Exts a b → Exts b c → Exts a c
  | ⟨x, hx⟩, ⟨y, hy⟩ => ⟨_, by rw [hy, hx, wext_wext]⟩
theorem Exts.alloc {a w : World} (h : Exts a w) (o : Obj) : Exts a (w.alloc o) := h.trans ⟨_, wext_one w o⟩
theorem Exts.drew {a w : World} (h : Exts a w) : Exts a w.drew := h.trans ⟨_, wext_drew w⟩
theorem Exts.drewN {a w : World} (h : Exts a w) (n : Nat) : Exts a (w.drewN n) := h.trans ⟨⟨#[], w.drawn + n⟩, by
    show ({ w with drawn := w.drawn + n } : World) = { w with heap := w.heap ++ #[], drawn := w.drawn + n }
    rw [Array.append_empty]⟩
theorem Exts.wext {a w : World} (h : Exts a w) (x : Ex) : Exts a (wext w x) := h.trans ⟨x, rfl⟩
theorem Exts.andR {a w : World} {x : Ex} (h : Exts a (Go.Proofs.Ytbafcfbchbjgfaa.wext w x)) (y : Ex) : Exts a (Go.Proofs.Ytbafcfbchbjgfaa.wext w (x.and y)) := h.trans ⟨y, (wext_and w x y).symm⟩
theorem Exts.below {w w' : World} (h : Exts w w') : Below w.heap.size w w' := by
  obtain ⟨x, rfl⟩ := h
  exact ⟨rfl, rfl, rfl, by simp, fun k hk => wext_heap_old w x k hk⟩
theorem Exts.of_below {w w' : World} (h : Below w.heap.size w w') : Exts w w' := by
  refine ⟨⟨w'.heap.extract w.heap.size w'.heap.size, w'.drawn⟩, ?_⟩
  have hb := h.block
  have hs := h.size
  have ho := h.os
  have ht := h.tape
  have hp := h.output
  obtain ⟨hp', tp', dr', os', out'⟩ := w'
  simp only [Go.Proofs.Ytbafcfbchbjgfaa.wext] at *
  subst ho ht hp
  congr 1
  apply Array.ext_getElem?
  intro k
  rw [Array.getElem?_append]
  by_cases hk : k < w.heap.size
  · rw [if_pos hk]; exact hb k hk
  · rw [if_neg hk, Array.getElem?_extract]
    by_cases h2 : k < hp'.size
    · rw [if_pos (by omega)]
      congr 1
      omega
    · rw [if_neg (by omega), Array.getElem?_eq_none (by omega)]

section
variable {P : Program} {ops : Array Oper}
/-- A region that draws, its operations read and its callees make new blocks alone: one walk. -/
theorem wp_region_ext_lit {id : Nat} {Q : Exit → Act → World → Prop} {a : Act} {w : World} {l : List Oper} (hm : P.follows .mixedOrders = true) (hB : Region.lexB .any l.toArray = true)
    (h : wpQuiet P l.toArray (fun w' => ∃ x, w' = wext w x) (fun a' => ∀ w', (∃ x, w' = wext w x) → Q .normal a' w') l a) : (Code.region id l.toArray true).wp P Q a w :=
  wp_region_quiet (C := fun w' => ∃ x, w' = wext w x) hm hB ⟨_, wext_drew w⟩ (by simpa using h)
/-- The same where new blocks lie behind already, of which nothing is asked. -/
theorem wp_region_ext_lit2 {id : Nat} {Q : Exit → Act → World → Prop} {a : Act} {w : World} {x0 : Ex} {l : List Oper} (hm : P.follows .mixedOrders = true) (hB : Region.lexB .any l.toArray = true)
    (h : wpQuiet P l.toArray (fun w' => ∃ x, w' = wext w x) (fun a' => ∀ w', (∃ x, w' = wext w x) → Q .normal a' w') l a) : (Code.region id l.toArray true).wp P Q a (wext w x0) :=
  wp_region_quiet (C := fun w' => ∃ x, w' = wext w x) hm hB ⟨⟨x0.bs, x0.dr + 1⟩, rfl⟩ (by simpa using h)
/-- The world under one name. -/
theorem Exts.cell {w w' : World} {a : Addr} {v : Value} (h : Exts w w') (hc : w.cell? a = some v) : w'.cell? a = some v := (h.below.cell (World.block_lt_of_cell? w a hc)).trans hc
theorem wp_name {c : Code} {Q : Exit → Act → World → Prop} {a : Act} {w : World} (h : ∀ W, W = w → c.wp P Q a W) : c.wp P Q a w := h w rfl
theorem Calls.ext_of {f : FuncId} {args : Array Value} {w : World} {x : Ex} {v : Value}
    (h : Calls P f args (wext w x) fun e w' => e = .returned v ∧ Exts (wext w x) w') : Calls P f args (wext w x) fun e w'' => e = .returned v ∧ ∃ y, w'' = wext w y :=
  h.mono fun _ _ ⟨he, hx⟩ => ⟨he, Exts.trans ⟨x, rfl⟩ hx⟩
end

end Go.Proofs.Ytbafcfbchbjgfaa
