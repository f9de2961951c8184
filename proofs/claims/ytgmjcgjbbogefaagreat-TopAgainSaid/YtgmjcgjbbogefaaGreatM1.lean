/- Lemmas that the laws of this seat share, 4 texts in one: Ext, Mem, Append, Held. No condition of their own. -/
import Derived.Test.YtgmjcgjbbogefaaGreatRows
import Derived.WalkKit
import Derived.WalkSpells
import Derived.WalkLawsBesides
import Derived.Deep.QuietTactic
import Derived.BigQuiet
import Derived.Lib.Hide
import Derived.Laws.AppendOwnNone
import Derived.Deep.Slices
import Derived.Deep.Fields
import Derived.ChangeSame
import Derived.Deep.RegionHeld3

namespace Go.Proofs.YtgmjcgjbbogefaaGreat
open Go.RowKit

/-- New blocks, and a count of draws. -/
structure Ex where
  bs : Array Obj
  dr : Nat

instance : Nonempty Ex := ⟨⟨#[], 0⟩⟩

/-- The world w with new blocks behind its own, at another count of draws. -/
def wext (w : World) (x : Ex) : World := { w with heap := w.heap ++ x.bs, drawn := x.dr }

section
variable (w : World) (x y : Ex)
@[simp, go_sem] theorem wext_size : (wext w x).heap.size = w.heap.size + x.bs.size := by simp [wext]
@[simp, go_sem] theorem wext_tape : (wext w x).tape = w.tape := rfl
theorem wext_heap_old (k : Nat) (h : k < w.heap.size) : (wext w x).heap[k]? = w.heap[k]? := by
  simp only [wext, Array.getElem?_append]
  rw [if_pos h]
@[go_sem] theorem wext_cell (n i : Nat) (h : n < w.heap.size) : (wext w x).cell? ⟨n, i, none⟩ = w.cell? ⟨n, i, none⟩ := by
  simp only [World.cell?, wext_heap_old w x n h]
@[go_sem] theorem wext_frozen (n i : Nat) (h : n < w.heap.size) : (wext w x).frozen? ⟨n, i, none⟩ = w.frozen? ⟨n, i, none⟩ := by
  simp only [World.frozen?, wext_heap_old w x n h]
@[go_sem] theorem wext_setCell (n i : Nat) (v : Value) (h : n < w.heap.size) : (wext w x).setCell ⟨n, i, none⟩ v = wext (w.setCell ⟨n, i, none⟩ v) x := by
  unfold World.setCell wext
  congr 1
  apply Array.ext_getElem?
  intro k
  simp only [Array.getElem?_modify, Array.getElem?_append, Array.size_modify]
  by_cases hk : k < w.heap.size
  · simp only [if_pos hk]
  · have hn : ¬ n = k := by omega
    simp only [if_neg hk, if_neg hn]
@[go_sem] theorem wext_of_drew : wext w.drew x = wext w x := rfl
@[go_sem] theorem drew_of_wext : (wext w x).drew = wext w ⟨x.bs, x.dr + 1⟩ := rfl
@[go_sem] theorem drewN_of_wext (n : Nat) : (wext w x).drewN n = wext w ⟨x.bs, x.dr + n⟩ := rfl
theorem wext_wext : wext (wext w x) y = wext w ⟨x.bs ++ y.bs, y.dr⟩ := by simp [wext, Array.append_assoc]
/-- One behind the other. -/
def Ex.and (x y : Ex) : Ex := ⟨x.bs ++ y.bs, y.dr⟩
@[simp, go_sem] theorem add_and_size (n : Nat) (x y : Ex) : n + (x.and y).bs.size = n + x.bs.size + y.bs.size := by simp [Ex.and, Nat.add_assoc]
@[go_sem] theorem wext_and : wext (wext w x) y = wext w (x.and y) := wext_wext w x y
@[go_sem] theorem lt_add_more (a b c : Nat) (h : a < b) : (a < b + c) = True := eq_true (by omega)
@[go_sem] theorem lt_add_more2 (a b c1 c2 : Nat) (h : a < b) : (a < b + c1 + c2) = True := eq_true (by omega)
@[go_sem] theorem lt_add_more3 (a b c1 c2 c3 : Nat) (h : a < b) : (a < b + c1 + c2 + c3) = True := eq_true (by omega)
@[go_sem] theorem lt_add_more4 (a b c1 c2 c3 c4 : Nat) (h : a < b) : (a < b + c1 + c2 + c3 + c4) = True := eq_true (by omega)
@[go_sem] theorem lt_add_more5 (a b c1 c2 c3 c4 c5 : Nat) (h : a < b) : (a < b + c1 + c2 + c3 + c4 + c5) = True := eq_true (by omega)
@[go_sem] theorem lt_add_more6 (a b c1 c2 c3 c4 c5 c6 : Nat) (h : a < b) : (a < b + c1 + c2 + c3 + c4 + c5 + c6) = True := eq_true (by omega)
@[go_sem] theorem lt_add_more7 (a b c1 c2 c3 c4 c5 c6 c7 : Nat) (h : a < b) : (a < b + c1 + c2 + c3 + c4 + c5 + c6 + c7) = True := eq_true (by omega)
@[go_sem] theorem lt_add_more8 (a b c1 c2 c3 c4 c5 c6 c7 c8 : Nat) (h : a < b) : (a < b + c1 + c2 + c3 + c4 + c5 + c6 + c7 + c8) = True := eq_true (by omega)
@[go_sem] theorem lt_add_more9 (a b c1 c2 c3 c4 c5 c6 c7 c8 c9 : Nat) (h : a < b) : (a < b + c1 + c2 + c3 + c4 + c5 + c6 + c7 + c8 + c9) = True := eq_true (by omega)
@[go_sem] theorem lt_add_more10 (a b c1 c2 c3 c4 c5 c6 c7 c8 c9 c10 : Nat) (h : a < b) : (a < b + c1 + c2 + c3 + c4 + c5 + c6 + c7 + c8 + c9 + c10) = True := eq_true (by omega)
@[go_sem] theorem lt_add_more11 (a b c1 c2 c3 c4 c5 c6 c7 c8 c9 c10 c11 : Nat) (h : a < b) : (a < b + c1 + c2 + c3 + c4 + c5 + c6 + c7 + c8 + c9 + c10 + c11) = True := eq_true (by omega)
@[go_sem] theorem lt_add_more12 (a b c1 c2 c3 c4 c5 c6 c7 c8 c9 c10 c11 c12 : Nat) (h : a < b) : (a < b + c1 + c2 + c3 + c4 + c5 + c6 + c7 + c8 + c9 + c10 + c11 + c12) = True := eq_true (by omega)
@[go_sem] theorem lt_one_more1 (a c1 : Nat) : (a < a + 1 + c1) = True := eq_true (by omega)
@[go_sem] theorem lt_one_more2 (a c1 c2 : Nat) : (a < a + 1 + c1 + c2) = True := eq_true (by omega)
@[go_sem] theorem lt_one_more3 (a c1 c2 c3 : Nat) : (a < a + 1 + c1 + c2 + c3) = True := eq_true (by omega)
@[go_sem] theorem lt_one_more4 (a c1 c2 c3 c4 : Nat) : (a < a + 1 + c1 + c2 + c3 + c4) = True := eq_true (by omega)
@[go_sem] theorem lt_one_more5 (a c1 c2 c3 c4 c5 : Nat) : (a < a + 1 + c1 + c2 + c3 + c4 + c5) = True := eq_true (by omega)
@[go_sem] theorem lt_one_more6 (a c1 c2 c3 c4 c5 c6 : Nat) : (a < a + 1 + c1 + c2 + c3 + c4 + c5 + c6) = True := eq_true (by omega)
@[go_sem] theorem lt_one_more7 (a c1 c2 c3 c4 c5 c6 c7 : Nat) : (a < a + 1 + c1 + c2 + c3 + c4 + c5 + c6 + c7) = True := eq_true (by omega)
@[go_sem] theorem lt_one_more8 (a c1 c2 c3 c4 c5 c6 c7 c8 : Nat) : (a < a + 1 + c1 + c2 + c3 + c4 + c5 + c6 + c7 + c8) = True := eq_true (by omega)
@[go_sem] theorem lt_one_more9 (a c1 c2 c3 c4 c5 c6 c7 c8 c9 : Nat) : (a < a + 1 + c1 + c2 + c3 + c4 + c5 + c6 + c7 + c8 + c9) = True := eq_true (by omega)
@[go_sem] theorem lt_one_more10 (a c1 c2 c3 c4 c5 c6 c7 c8 c9 c10 : Nat) : (a < a + 1 + c1 + c2 + c3 + c4 + c5 + c6 + c7 + c8 + c9 + c10) = True := eq_true (by omega)
@[go_sem] theorem lt_one_more11 (a c1 c2 c3 c4 c5 c6 c7 c8 c9 c10 c11 : Nat) : (a < a + 1 + c1 + c2 + c3 + c4 + c5 + c6 + c7 + c8 + c9 + c10 + c11) = True := eq_true (by omega)
@[go_sem] theorem lt_one_more12 (a c1 c2 c3 c4 c5 c6 c7 c8 c9 c10 c11 c12 : Nat) : (a < a + 1 + c1 + c2 + c3 + c4 + c5 + c6 + c7 + c8 + c9 + c10 + c11 + c12) = True := eq_true (by omega)
theorem wext_self : wext w ⟨#[], w.drawn⟩ = w := by simp [wext]
theorem wext_one (o : Obj) : w.alloc o = wext w ⟨#[o], w.drawn⟩ := by
  show ({ w with heap := w.heap.push o } : World) = { w with heap := w.heap ++ #[o], drawn := w.drawn }
  rw [Array.push_eq_append]
theorem wext_drew : w.drew = wext w ⟨#[], w.drawn + 1⟩ := by
  show ({ w with drawn := w.drawn + 1 } : World) = { w with heap := w.heap ++ #[], drawn := w.drawn + 1 }
  rw [Array.append_empty]
end

/-! The same four questions where the block's number wants arithmetic: by 'if', which the walk decides. -/
section
variable (w : World) (x : Ex) (c : Array Value) (t : TypeId) (n i : Nat) (v : Value)
def cellFar (w : World) (x : Ex) (n i : Nat) : Option Value := (wext w x).cell? ⟨n, i, none⟩
def frozenFar (w : World) (x : Ex) (n i : Nat) : Bool := (wext w x).frozen? ⟨n, i, none⟩
def setFar (w : World) (x : Ex) (n i : Nat) (v : Value) : World := (wext w x).setCell ⟨n, i, none⟩ v
@[go_sem low] theorem alloc_cell_if : (w.alloc (.cells c t)).cell? ⟨n, i, none⟩ = if n < w.heap.size then w.cell? ⟨n, i, none⟩ else if n = w.heap.size then c[i]? else none := by
  split
  · rename_i h; exact World.cell?_alloc_lt w _ ⟨n, i, none⟩ h
  · split
    · rename_i h; subst h; exact World.cell?_alloc_new w c t i
    · simp only [World.alloc, World.cell?, Array.getElem?_push]
      rw [if_neg (by omega), Array.getElem?_eq_none (by omega)]
@[go_sem low] theorem alloc_frozen_if : (w.alloc (.cells c t)).frozen? ⟨n, i, none⟩ = if n < w.heap.size then w.frozen? ⟨n, i, none⟩ else false := by
  split
  · rename_i h; exact World.frozen?_alloc_past _ n i h
  · by_cases h2 : n = w.heap.size
    · subst h2; exact World.frozen?_alloc_new w c t i
    · simp only [World.alloc, World.frozen?, Array.getElem?_push]
      rw [if_neg (by omega), Array.getElem?_eq_none (by omega)]
@[go_sem low] theorem alloc_setCell_if : (w.alloc (.cells c t)).setCell ⟨n, i, none⟩ v = if n < w.heap.size then (w.setCell ⟨n, i, none⟩ v).alloc (.cells c t) else if n = w.heap.size then w.alloc (.cells (c.setIfInBounds i v) t) else w.alloc (.cells c t) := by
  split
  · rename_i h; exact World.setCell_alloc_past _ n i v h
  · split
    · rename_i h; exact World.setCell_alloc_at c t n i v h
    · unfold World.setCell World.alloc
      congr 1
      apply Array.ext_getElem?
      intro k
      rw [Array.getElem?_modify]
      split
      · rename_i h; subst h; rw [Array.getElem?_eq_none (by simp; omega)]; rfl
      · rfl
@[go_sem low] theorem wext_cell_if : (wext w x).cell? ⟨n, i, none⟩ = if n < w.heap.size then w.cell? ⟨n, i, none⟩ else cellFar w x n i := by
  split
  · rename_i h; exact wext_cell w x n i h
  · rfl
@[go_sem low] theorem wext_frozen_if : (wext w x).frozen? ⟨n, i, none⟩ = if n < w.heap.size then w.frozen? ⟨n, i, none⟩ else frozenFar w x n i := by
  split
  · rename_i h; exact wext_frozen w x n i h
  · rfl
@[go_sem low] theorem wext_setCell_if : (wext w x).setCell ⟨n, i, none⟩ v = if n < w.heap.size then wext (w.setCell ⟨n, i, none⟩ v) x else setFar w x n i v := by
  split
  · rename_i h; exact wext_setCell w x n i v h
  · rfl
end

/-- w' is w with new blocks: nothing that was there has turned. -/
def Exts (w w' : World) : Prop := ∃ x, w' = wext w x
theorem Exts.refl (w : World) : Exts w w := ⟨_, (wext_self w).symm⟩
theorem Exts.trans {a b c : World} : Exts a b → Exts b c → Exts a c
  | ⟨x, hx⟩, ⟨y, hy⟩ => ⟨_, by rw [hy, hx, wext_wext]⟩
theorem Exts.alloc {a w : World} (h : Exts a w) (o : Obj) : Exts a (w.alloc o) := h.trans ⟨_, wext_one w o⟩
theorem Exts.drew {a w : World} (h : Exts a w) : Exts a w.drew := h.trans ⟨_, wext_drew w⟩
theorem Exts.drewN {a w : World} (h : Exts a w) (n : Nat) : Exts a (w.drewN n) := h.trans ⟨⟨#[], w.drawn + n⟩, by
    show ({ w with drawn := w.drawn + n } : World) = { w with heap := w.heap ++ #[], drawn := w.drawn + n }
    rw [Array.append_empty]⟩
theorem Exts.wext {a w : World} (h : Exts a w) (x : Ex) : Exts a (wext w x) := h.trans ⟨x, rfl⟩
theorem Exts.andR {a w : World} {x : Ex} (h : Exts a (Go.Proofs.YtgmjcgjbbogefaaGreat.wext w x)) (y : Ex) : Exts a (Go.Proofs.YtgmjcgjbbogefaaGreat.wext w (x.and y)) := h.trans ⟨y, (wext_and w x y).symm⟩
theorem Exts.below {w w' : World} (h : Exts w w') : Below w.heap.size w w' := by
  obtain ⟨x, rfl⟩ := h
  exact ⟨rfl, rfl, rfl, by simp, fun k hk => wext_heap_old w x k hk⟩
theorem Exts.of_below {w w' : World} (h : Below w.heap.size w w') : Exts w w' := by
  refine ⟨⟨w'.heap.extract w.heap.size w'.heap.size, w'.drawn⟩, ?_⟩
  have hb := h.block
  have hs := h.size
  have ho := h.os
  have ht := h.tape
  have hp := h.output
  obtain ⟨hp', tp', dr', os', out'⟩ := w'
  simp only [Go.Proofs.YtgmjcgjbbogefaaGreat.wext] at *
  subst ho ht hp
  congr 1
  apply Array.ext_getElem?
  intro k
  rw [Array.getElem?_append]
  by_cases hk : k < w.heap.size
  · rw [if_pos hk]; exact hb k hk
  · rw [if_neg hk, Array.getElem?_extract]
    by_cases h2 : k < hp'.size
    · rw [if_pos (by omega)]
      congr 1
      omega
    · rw [if_neg (by omega), Array.getElem?_eq_none (by omega)]

section
variable {P : Program} {ops : Array Oper}
/-- A region that draws, its operations read and its callees make new blocks alone: one walk. -/
theorem wp_region_ext_lit {id : Nat} {Q : Exit → Act → World → Prop} {a : Act} {w : World} {l : List Oper} (hm : P.follows .mixedOrders = true) (hB : Region.lexB .any l.toArray = true)
    (h : wpQuiet P l.toArray (fun w' => ∃ x, w' = wext w x) (fun a' => ∀ w', (∃ x, w' = wext w x) → Q .normal a' w') l a) : (Code.region id l.toArray true).wp P Q a w :=
  wp_region_quiet (C := fun w' => ∃ x, w' = wext w x) hm hB ⟨_, wext_drew w⟩ (by simpa using h)
/-- The same where new blocks lie behind already, of which nothing is asked. -/
theorem wp_region_ext_lit2 {id : Nat} {Q : Exit → Act → World → Prop} {a : Act} {w : World} {x0 : Ex} {l : List Oper} (hm : P.follows .mixedOrders = true) (hB : Region.lexB .any l.toArray = true)
    (h : wpQuiet P l.toArray (fun w' => ∃ x, w' = wext w x) (fun a' => ∀ w', (∃ x, w' = wext w x) → Q .normal a' w') l a) : (Code.region id l.toArray true).wp P Q a (wext w x0) :=
  wp_region_quiet (C := fun w' => ∃ x, w' = wext w x) hm hB ⟨⟨x0.bs, x0.dr + 1⟩, rfl⟩ (by simpa using h)
/-- The world under one name. -/
theorem Exts.cell {w w' : World} {a : Addr} {v : Value} (h : Exts w w') (hc : w.cell? a = some v) : w'.cell? a = some v := (h.below.cell (World.block_lt_of_cell? w a hc)).trans hc
theorem wp_name {c : Code} {Q : Exit → Act → World → Prop} {a : Act} {w : World} (h : ∀ W, W = w → c.wp P Q a W) : c.wp P Q a w := h w rfl
theorem Calls.ext_of {f : FuncId} {args : Array Value} {w : World} {x : Ex} {v : Value}
    (h : Calls P f args (wext w x) fun e w' => e = .returned v ∧ Exts (wext w x) w') : Calls P f args (wext w x) fun e w'' => e = .returned v ∧ ∃ y, w'' = wext w y :=
  h.mono fun _ _ ⟨he, hx⟩ => ⟨he, Exts.trans ⟨x, rfl⟩ hx⟩
end

end Go.Proofs.YtgmjcgjbbogefaaGreat


/- Slices that read as rows of cells: how such a reading is kept when new blocks come, or another row is written. No program in sight, but for the names. -/
namespace Go.Proofs.YtgmjcgjbbogefaaGreat
open Go.RowKit

/-- v is a slice of n elements of k cells each, whose cells are xs; its block is one of S. -/
def RowF (S : Nat → Prop) (k : Nat) (w : World) (v : Value) (n : Nat) (xs : List Value) : Prop :=
  xs.length = n * k ∧ ∃ ao cap, v = .slice ao n cap ∧ n ≤ cap ∧ cap ≤ maxLen ∧ (ao = none → cap = 0) ∧
    (0 < n → ∃ b off, ao = some ⟨b, off, none⟩ ∧ S b ∧ b < w.heap.size ∧ ∀ t c, xs[t]? = some c → w.cell? ⟨b, off + t, none⟩ = some c)

section
variable {S : Nat → Prop} {k : Nat} {w w' : World} {v : Value} {n : Nat} {xs : List Value}

theorem RowF.of_keep (h : RowF S k w v n xs) (hs : w.heap.size ≤ w'.heap.size) (hc : ∀ b, v.ownBlock = some b → S b → b < w.heap.size → w'.heap[b]? = w.heap[b]?) : RowF S k w' v n xs := by
  obtain ⟨h1, ao, cap, rfl, h2, h3, h4, h5⟩ := h
  refine ⟨h1, ao, cap, rfl, h2, h3, h4, fun hn => ?_⟩
  obtain ⟨b, off, rfl, hS, hb, hx⟩ := h5 hn
  refine ⟨b, off, rfl, hS, by omega, fun t c ht => ?_⟩
  rw [World.cell?_of_block (hc b rfl hS hb)]
  exact hx t c ht

theorem RowF.mono {S' : Nat → Prop} (h : RowF S k w v n xs) (hS : ∀ b, S b → S' b) : RowF S' k w v n xs := by
  obtain ⟨h1, ao, cap, rfl, h2, h3, h4, h5⟩ := h
  refine ⟨h1, ao, cap, rfl, h2, h3, h4, fun hn => ?_⟩
  obtain ⟨b, off, rfl, hb, hx⟩ := h5 hn
  exact ⟨b, off, rfl, hS b hb, hx⟩

theorem RowF.exts (h : RowF S k w v n xs) (he : Exts w w') : RowF S k w' v n xs :=
  h.of_keep he.below.size (fun b _ _ hb => he.below.block b hb)

theorem RowF.grown {row : Option Nat} (h : RowF S k w v n xs) (hg : w.grownBy w' row) (hne : v.ownBlock = none ∨ v.ownBlock ≠ row) : RowF S k w' v n xs :=
  h.of_keep hg.size (fun b hb _ hlt => hg.block b hlt (by
    rcases hne with h0 | h0
    · rw [h0] at hb; cases hb
    · rw [← hb]; exact h0))

theorem RowF.len (h : RowF S k w v n xs) : xs.length = n * k := h.1
theorem RowF.nle (h : RowF S k w v n xs) : n ≤ maxLen := by
  obtain ⟨_, ao, cap, rfl, h2, h3, _⟩ := h
  omega

/-- What an append or a make leaves. -/
theorem RowF.of_owns {base : Nat} {e : TypeId} (h : w.ownsRow base e k v n xs) : RowF (fun b => base ≤ b) k w v n xs := by
  obtain ⟨h1, h2 | ⟨g, cap, cur, rfl, hb, hg, h3, h4, h5, h6⟩⟩ := h
  · obtain ⟨rfl, rfl⟩ := h2
    exact ⟨h1, none, 0, rfl, Nat.le_refl _, Nat.zero_le _, fun _ => rfl, fun h => by omega⟩
  · refine ⟨h1, some ⟨g, 0, none⟩, cap, rfl, h3, h4, (fun h => by cases h), fun hn => ⟨g, 0, rfl, hb, (Array.getElem?_eq_some_iff.1 hg).1, fun t c ht => ?_⟩⟩
    have hg' : w.heap[g]? = some (.cells cur e (0, 0)) := hg
    simp only [World.cell?, hg', Nat.zero_add]
    rw [← h6, List.getElem?_take] at ht
    split at ht
    · simpa using ht
    · cases ht

theorem RowF.nil (S : Nat → Prop) (k : Nat) (w : World) : RowF S k w (.slice none 0 0) 0 [] :=
  ⟨by simp, none, 0, rfl, Nat.le_refl _, Nat.zero_le _, fun _ => rfl, fun h => by omega⟩

theorem exts_of_grown {row : Option Nat} {W : World} (he : Exts W w) (hg : w.grownBy w' row) (hr : ∀ b, row = some b → W.heap.size ≤ b) : Exts W w' := by
  apply Exts.of_below
  exact he.below.grown hg he.below.size hr
end

theorem grownBy_exts {w w' : World} (h : Exts w w') (row : Option Nat) : w.grownBy w' row :=
  ⟨h.below.os, h.below.tape, h.below.output, h.below.size, fun b hb _ => h.below.block b hb⟩
theorem ownsRow_exts {w w' : World} {base : Nat} {e : TypeId} {k n : Nat} {v : Value} {xs : List Value} (h : w.ownsRow base e k v n xs) (he : Exts w w') : w'.ownsRow base e k v n xs :=
  h.kept (grownBy_exts he none) (by cases hv : v.ownBlock <;> simp)

/-- The blocks from B on are as they were: what is read from those alone reads as it did. -/
def Keeps (B : Nat) (w w' : World) : Prop := w.heap.size ≤ w'.heap.size ∧ ∀ b, B ≤ b → b < w.heap.size → w'.heap[b]? = w.heap[b]?
theorem Keeps.refl (B : Nat) (w : World) : Keeps B w w := ⟨Nat.le_refl _, fun _ _ _ => rfl⟩
theorem Keeps.trans {B : Nat} {a b c : World} (h : Keeps B a b) (h' : Keeps B b c) : Keeps B a c :=
  ⟨Nat.le_trans h.1 h'.1, fun k hk hlt => (h'.2 k hk (Nat.lt_of_lt_of_le hlt h.1)).trans (h.2 k hk hlt)⟩
theorem Keeps.exts {B : Nat} {a b c : World} (h : Keeps B a b) (h' : Exts b c) : Keeps B a c :=
  h.trans ⟨h'.below.size, fun k _ hlt => h'.below.block k hlt⟩
theorem Keeps.base {B : Nat} {a b : World} {x : Ex} (ha : a.heap.size = B) (hb : b.heap.size = B) : Keeps B (wext a x) (wext b x) := by
  refine ⟨by simp [ha, hb], fun k hk hlt => ?_⟩
  simp only [wext, Array.getElem?_append]
  rw [if_neg (by omega), if_neg (by omega), ha, hb]
theorem Keeps.alloc {B : Nat} {a b : World} (h : Keeps B a b) (o : Obj) : Keeps B a (b.alloc o) := h.exts ((Exts.refl _).alloc o)
theorem Keeps.wext {B : Nat} {a b : World} (h : Keeps B a b) (x : Ex) : Keeps B a (Go.Proofs.YtgmjcgjbbogefaaGreat.wext b x) := h.exts ((Exts.refl _).wext x)
theorem Keeps.andR {B : Nat} {a b : World} {x : Ex} (h : Keeps B a (Go.Proofs.YtgmjcgjbbogefaaGreat.wext b x)) (y : Ex) : Keeps B a (Go.Proofs.YtgmjcgjbbogefaaGreat.wext b (x.and y)) := h.exts ((Exts.refl _).andR y)
theorem RowF.keeps {B : Nat} {k : Nat} {w w' : World} {v : Value} {n : Nat} {xs : List Value} (h : RowF (fun b => B ≤ b) k w v n xs) (he : Keeps B w w') : RowF (fun b => B ≤ b) k w' v n xs :=
  h.of_keep he.1 (fun b _ hS hb => he.2 b hS hb)

/-- Two worlds of one size that are alike from block B on. -/
def Alike (B : Nat) (a b : World) : Prop := a.heap.size = b.heap.size ∧ ∀ k, B ≤ k → b.heap[k]? = a.heap[k]?
theorem Alike.base {B : Nat} {a b : World} (ha : a.heap.size = B) (hb : b.heap.size = B) : Alike B a b :=
  ⟨by omega, fun k hk => by rw [Array.getElem?_eq_none (by omega), Array.getElem?_eq_none (by omega)]⟩
theorem Alike.alloc {B : Nat} {a b : World} (h : Alike B a b) (o : Obj) : Alike B (a.alloc o) (b.alloc o) := by
  refine ⟨by simp [h.1], fun k hk => ?_⟩
  simp only [World.alloc, Array.getElem?_push, h.1, h.2 k hk]
theorem Alike.wext {B : Nat} {a b : World} {x y : Ex} (h : Alike B a b) (hx : x.bs = y.bs) : Alike B (Go.Proofs.YtgmjcgjbbogefaaGreat.wext a x) (Go.Proofs.YtgmjcgjbbogefaaGreat.wext b y) := by
  refine ⟨by simp [h.1, hx], fun k hk => ?_⟩
  simp only [Go.Proofs.YtgmjcgjbbogefaaGreat.wext, Array.getElem?_append, h.1, hx, h.2 k hk]
theorem Alike.keeps {B : Nat} {a b : World} (h : Alike B a b) : Keeps B a b := ⟨Nat.le_of_eq h.1, fun k hk _ => h.2 k hk⟩
theorem Keeps.drew {B : Nat} {a b : World} (h : Keeps B a b) : Keeps B a b.drew := h.exts ((Exts.refl _).drew)
theorem RowF.up {k n B B' : Nat} {w : World} {v : Value} {xs : List Value} (h : RowF (fun b => B ≤ b) k w v n xs) (he : B' ≤ B) : RowF (fun b => B' ≤ b) k w v n xs := h.mono fun _ hb => Nat.le_trans he hb
theorem RowF.from {k n : Nat} {w0 W w : World} {v : Value} {xs : List Value} (h : RowF (fun b => W.heap.size ≤ b) k w v n xs) (he : Exts w0 W) : RowF (fun b => w0.heap.size ≤ b) k w v n xs := h.mono fun _ hb => Nat.le_trans he.below.size hb

/-- Lists of lists of one length, laid one behind the other. -/
theorem flatten_len {k : Nat} : ∀ (L : List (List Value)), (∀ l ∈ L, l.length = k) → L.flatten.length = L.length * k
  | [], _ => by simp
  | l :: L, h => by
    rw [List.flatten_cons, List.length_append, flatten_len L (fun l' hl => h l' (by simp [hl])), h l (by simp), List.length_cons, Nat.add_mul]
    omega

theorem flatten_at {k : Nat} : ∀ (L : List (List Value)), (∀ l ∈ L, l.length = k) → ∀ (i j : Nat), j < k → L.flatten[i * k + j]? = (L[i]?).bind (·[j]?)
  | [], _, i, j, _ => by simp
  | l :: L, h, 0, j, hj => by
    have := h l (by simp)
    rw [List.flatten_cons, List.getElem?_append_left (by omega)]
    simp
  | l :: L, h, i + 1, j, hj => by
    have hl := h l (by simp)
    rw [List.flatten_cons, List.getElem?_append_right (by rw [hl, Nat.add_mul]; omega), hl]
    have : (i + 1) * k + j - k = i * k + j := by rw [Nat.add_mul]; omega
    rw [this, flatten_at L (fun l' hl' => h l' (by simp [hl'])) i j hj]
    simp

/-- The slice x[from:], or any part of it. -/
theorem RowF.part {S : Nat → Prop} {k : Nat} {w : World} {ao : Option Addr} {n cap : Nat} {xs : List Value} (h : RowF S k w (.slice ao n cap) n xs) (lo m cap' : Nat) (hlo : lo + m ≤ n) (hm : m ≤ cap') (hcap : cap' ≤ maxLen)
    (ao' : Option Addr) (hao0 : ao' = none → cap' = 0) (hao : ∀ b off, ao = some ⟨b, off, none⟩ → 0 < m → ao' = some ⟨b, off + lo * k, none⟩) : RowF S k w (.slice ao' m cap') m ((xs.drop (lo * k)).take (m * k)) := by
  obtain ⟨h1, ao2, cap2, hv, h2, h3, h4, h5⟩ := h
  simp only [Value.slice.injEq, true_and] at hv
  obtain ⟨rfl, rfl⟩ := hv
  refine ⟨?_, ao', cap', rfl, hm, hcap, hao0, fun hm0 => ?_⟩
  · rw [List.length_take, List.length_drop, h1, ← Nat.sub_mul]
    rw [Nat.min_eq_left (Nat.mul_le_mul_right _ (by omega))]
  · obtain ⟨b, off, rfl, hS, hb, hx⟩ := h5 (by omega)
    refine ⟨b, off + lo * k, hao b off rfl hm0, hS, hb, fun t c ht => ?_⟩
    rw [List.getElem?_take] at ht
    split at ht
    · rw [List.getElem?_drop] at ht
      rw [Nat.add_assoc]
      exact hx _ _ ht
    · cases ht
end Go.Proofs.YtgmjcgjbbogefaaGreat


/- append of a slice, nil or not, that reads as a row, to a slice of the call's own. -/
namespace Go.Proofs.YtgmjcgjbbogefaaGreat
open Go.RowKit
set_option linter.unusedSimpArgs false
set_option linter.unusedVariables false

theorem owns_shape {w : World} {base n k : Nat} {e : TypeId} {v : Value} {xs : List Value} (h : w.ownsRow base e k v n xs) : ∃ ao c, v = .slice ao n c := by
  obtain ⟨_, ⟨rfl, rfl⟩ | ⟨g, cap, cur, rfl, _⟩⟩ := h
  · exact ⟨_, _, rfl⟩
  · exact ⟨_, _, rfl⟩

theorem wpList_append_row {P : Program} {w : World} {ops : Array Oper} {rest : List Oper} {o : Oper} {a : Act} {Q : Exit → Act → World → Prop} (hgd : o.guard = none) (s x : Operand) (t : TypeId)
    (ho : o.op = .call { callee := .builtin .append, args := #[s, x], argTypes := #[t, t] })
    (base : Nat) (e : TypeId) (i : TypeInfo) (z : Value) (size bytes : Nat) (ht : P.underlying t = some (.slice e)) (hi : P.info? e = some i) (hz : i.zero = some z)
    (hsize : i.size = size) (hby : i.bytes = bytes) (hzs : z.cells.size = size) (hsz : 0 < size)
    (v : Value) (n : Nat) (xs : List Value) (hs : a.eval s = v) (hown : w.ownsRow base e size v n xs)
    (ao : Option Addr) (m c : Nat) (news : List Value) (hx : a.eval x = .slice ao m c) {S : Nat → Prop} (hrow : RowF S size w (.slice ao m c) m news) (h1 : ∀ u ∈ news, u.oneCell' = true)
    (h63 : n + m ≤ maxLen) (hbytes : (n + m) * bytes ≤ 140737488355328) (hbase : base ≤ w.heap.size)
    (h : ∀ ao' c' w', w'.ownsRow base e size (.slice ao' (n + m) c') (n + m) (xs ++ news) → w.grownBy w' v.ownBlock → wpList P ops Q rest (a.put o.dst (.slice ao' (n + m) c')) w') : wpList P ops Q (o :: rest) a w := by
  obtain ⟨hl, ao2, cap2, hv, h2, h3, h4, h5⟩ := hrow
  simp only [Value.slice.injEq, true_and] at hv
  obtain ⟨rfl, rfl⟩ := hv
  cases ao with
  | none =>
    have hc := h4 rfl
    subst hc
    obtain rfl : m = 0 := by omega
    obtain rfl : news = [] := List.eq_nil_of_length_eq_zero (by simpa using hl)
    obtain ⟨ao', c', hv⟩ := owns_shape hown
    refine wpList_append_own_none hgd s x t ho base e i size ht hi v n xs hs hown hx ?_
    have := h ao' c' w (by rw [List.append_nil, Nat.add_zero, ← hv]; exact hown) (grownBy_exts (Exts.refl w) _)
    rw [Nat.add_zero, ← hv] at this
    exact this
  | some ad =>
    refine wpList_append_own w hgd s x t ho base e i z size bytes ht hi hz hsize hby hzs hsz v n xs hs hown ad m c news hx hl (fun j u hj => ?_) h1 h63 hbytes hbase (fun v' w' h2 h3 _ => ?_)
    · have hm : 0 < m := by
        have := (List.getElem?_eq_some_iff.1 hj).1
        rw [hl] at this
        exact Nat.pos_of_ne_zero (fun h0 => by subst h0; simp at this)
      obtain ⟨b, off, hab, _, _, hc⟩ := h5 hm
      cases hab
      rw [Addr.add_lit]
      exact hc j u hj
    · obtain ⟨ao', c', rfl⟩ := owns_shape h2
      exact h ao' c' w' h2 h3

end Go.Proofs.YtgmjcgjbbogefaaGreat


/- Cells of blocks that lie in a world under one name: rules for all worlds with new blocks behind. No program in sight, but for the names. -/
namespace Go.Proofs.YtgmjcgjbbogefaaGreat
open Go.RowKit
set_option linter.unusedSimpArgs false
set_option linter.unusedVariables false

theorem box_all {w : World} (W : World) (c : Array Value) {t : TypeId} (h : Exts (w.alloc (.cells c t)) W) : ∀ w' i, Exts W w' → w'.cell? ⟨w.heap.size, i, none⟩ = c[i]? := fun w' i hw => by
  obtain ⟨x, rfl⟩ := h.trans hw
  rw [wext_cell _ _ _ _ (by simp)]
  exact World.cell?_alloc_new w c t i
@[go_sem] theorem exts_self_true (w : World) : Exts w w = True := eq_true (Exts.refl w)
@[go_sem] theorem exts_wext_true (w : World) (x : Ex) : Exts w (wext w x) = True := eq_true ⟨x, rfl⟩
@[go_sem] theorem exts_alloc_true (a w : World) (o : Obj) (h : Exts a w) : Exts a (w.alloc o) = True := eq_true (h.alloc o)
@[go_sem] theorem exts_drew_true (a w : World) (h : Exts a w) : Exts a w.drew = True := eq_true h.drew
theorem all_at {w W : World} {a : Addr} {v : Value} (h : Exts w W) (hc : w.cell? a = some v) : ∀ w', Exts W w' → w'.cell? a = some v := fun _ hw => Exts.cell (h.trans hw) hc

@[go_sem] theorem exts_wext_more (a w : World) (x : Ex) (h : Exts a w) : Exts a (wext w x) = True := eq_true (h.wext x)
@[go_sem] theorem exts_alloc_wext (w : World) (o : Obj) (x : Ex) : Exts w (wext (w.alloc o) x) = True := eq_true (((Exts.refl w).alloc o).wext x)
theorem RowF.lt {S : Nat → Prop} {k n : Nat} {w : World} {v : Value} {xs : List Value} (h : RowF S k w v n xs) : RowF (fun b => b < w.heap.size) k w v n xs := by
  obtain ⟨h1, ao, cap, rfl, h2, h3, h4, h5⟩ := h
  refine ⟨h1, ao, cap, rfl, h2, h3, h4, fun hn => ?_⟩
  obtain ⟨b, off, rfl, hS, hb, hx⟩ := h5 hn
  exact ⟨b, off, rfl, hb, hb, hx⟩
end Go.Proofs.YtgmjcgjbbogefaaGreat

