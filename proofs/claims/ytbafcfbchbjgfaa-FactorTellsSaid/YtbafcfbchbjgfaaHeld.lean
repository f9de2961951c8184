/- Cells of blocks that lie in a world under one name: rules for all worlds with new blocks behind. No program in sight, but for the names. -/
import Derived.Test.YtbafcfbchbjgfaaMem
import Derived.Deep.RegionHeld3
namespace Go.Proofs.Ytbafcfbchbjgfaa
open Go.RowKit
set_option linter.unusedSimpArgs false
set_option linter.unusedVariables false

theorem box_all {w : World} (W : World) (c : Array Value) {t : TypeId} (h : Exts (w.alloc (.cells c t)) W) : ∀ w' i, Exts W w' → w'.cell? ⟨w.heap.size, i, none⟩ = c[i]? := fun w' i hw => by
  obtain ⟨x, rfl⟩ := h.trans hw
  rw [wext_cell _ _ _ _ (by simp)]
  exact World.cell?_alloc_new w c t i
@[go_sem] theorem exts_self_true (w : World) : Exts w w = True := eq_true (Exts.refl w)
@[go_sem] theorem exts_wext_true (w : World) (x : Ex) : Exts w (wext w x) = True := eq_true ⟨x, rfl⟩
@[go_sem] theorem exts_alloc_true (a w : World) (o : Obj) (h : Exts a w) : Exts a (w.alloc o) = True := eq_true (h.alloc o)
@[go_sem] theorem exts_drew_true (a w : World) (h : Exts a w) : Exts a w.drew = True := eq_true h.drew
theorem all_at {w W : World} {a : Addr} {v : Value} (h : Exts w W) (hc : w.cell? a = some v) : ∀ w', Exts W w' → w'.cell? a = some v := fun _ hw => Exts.cell (h.trans hw) hc

@[go_sem] theorem exts_wext_more (a w : World) (x : Ex) (h : Exts a w) : Exts a (wext w x) = True := eq_true (h.wext x)
@[go_sem] theorem exts_alloc_wext (w : World) (o : Obj) (x : Ex) : Exts w (wext (w.alloc o) x) = True := eq_true (((Exts.refl w).alloc o).wext x)
theorem RowF.lt {S : Nat → Prop} {k n : Nat} {w : World} {v : Value} {xs : List Value} (h : RowF S k w v n xs) : RowF (fun b => b < w.heap.size) k w v n xs := by
  obtain ⟨h1, ao, cap, rfl, h2, h3, h4, h5⟩ := h
  refine ⟨h1, ao, cap, rfl, h2, h3, h4, fun hn => ?_⟩
  obtain ⟨b, off, rfl, hS, hb, hx⟩ := h5 hn
  exact ⟨b, off, rfl, hb, hb, hx⟩
end Go.Proofs.Ytbafcfbchbjgfaa
