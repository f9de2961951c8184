/- Relations of 12 values as arrays of 144 cells. -/
import Derived.Test.YtbafcfbchbjgfaaArr
import Derived.ChangeKeysEq
namespace Go.Proofs.Ytbafcfbchbjgfaa
open Go.RowKit
set_option linter.unusedSimpArgs false
set_option linter.unusedVariables false

abbrev Rel := Nat → Nat → Bool
def matC (f : Rel) : Array Value := ((List.range 144).map fun i => .bool (f (i / 12) (i % 12))).toArray
def upd (f : Rel) (a b : Nat) (v : Bool) : Rel := fun x y => if x = a ∧ y = b then v else f x y
@[simp, go_sem] theorem matC_size (f : Rel) : (matC f).size = 144 := by simp [matC]
theorem matC_one (f : Rel) : (matC f).all (·.oneCell') = true := by
  rw [Array.all_eq_true_iff_forall_mem]
  intro v hv
  simp [matC] at hv
  obtain ⟨a, _, rfl⟩ := hv
  rfl
@[go_sem] theorem matC_get (f : Rel) (a b : Nat) (ha : a < 12) (hb : b < 12) : (matC f)[a * 12 + b]? = some (.bool (f a b)) := by
  have h : a * 12 + b < 144 := by omega
  simp [matC, h]
  rw [show (a * 12 + b) / 12 = a by omega, show b % 12 = b by omega]
@[go_sem] theorem matC_set (f : Rel) (a b : Nat) (v : Bool) (ha : a < 12) (hb : b < 12) : (matC f).setIfInBounds (a * 12 + b) (.bool v) = matC (upd f a b v) := by
  apply Array.ext_getElem?
  intro i
  rw [Array.getElem?_setIfInBounds]
  by_cases hi : a * 12 + b = i
  · subst hi
    rw [if_pos rfl, if_pos (by rw [matC_size]; omega), matC_get _ a b ha hb]
    simp [upd]
  · rw [if_neg hi]
    by_cases h2 : i < 144
    · obtain ⟨x, y, hx, hy, rfl⟩ : ∃ x y, x < 12 ∧ y < 12 ∧ i = x * 12 + y := ⟨i / 12, i % 12, by omega, by omega, by omega⟩
      rw [matC_get _ x y hx hy, matC_get _ x y hx hy]
      have : ¬ (x = a ∧ y = b) := fun h => hi (by rw [h.1, h.2])
      simp [upd, this]
    · rw [Array.getElem?_eq_none (by rw [matC_size]; omega), Array.getElem?_eq_none (by rw [matC_size]; omega)]
theorem matC_inj {f g : Rel} (h : ∀ a b, a < 12 → b < 12 → f a b = g a b) : matC f = matC g := by
  unfold matC
  congr 1
  apply List.map_congr_left
  intro i hi
  rw [h _ _ (by have := List.mem_range.1 hi; omega) (by omega)]
def noRel : Rel := fun _ _ => false
theorem info52 : (Try.prog.info? 52).map (fun i => (i.zero, i.size)) = some (some (.agg (matC noRel)), 144) := by kernel_rfl
@[go_sem] theorem zero52 (w : World) : (zeroValue 52).run Try.prog w = .ok (.agg (matC noRel)) w := (zero_of_info info52).1 w
section
variable (w : World) (b : Nat) (f : Rel)
/-- A whole array is loaded at once: its load is not opened. -/
def ldV (t : TypeId) (a : Addr) : Sem Value := loadVar t a
@[go_sem ↓] theorem loadVar52 (a : Addr) : loadVar 52 a = ldV 52 a := rfl
@[go_sem] theorem load52 (h : isRow w b 144) : (ldV 52 ⟨b, 0, none⟩).run Try.prog w = .ok (.agg (rowOf w b)) w := by
  obtain ⟨c, t, hb, hc⟩ := h
  have hi : (Try.prog.info? 52).map (·.size) = some c.size := by rw [hc]; exact (zero_of_info info52).2
  rw [rowOf_of hb]
  exact run_loadVar_row w b t 52 c (0, 0) _ hb Try.underlying52 rfl hi
@[go_sem] theorem store144 (h : isRow w b 144) : (storeCells ⟨b, 0, none⟩ (matC f).toList 0).run Try.prog w = .ok () (w.setRow b (matC f)) := run_storeCells_row h (matC_size f) (matC_one f)
end
/-- A row of a relation. -/
def rowC (f : Rel) (a : Nat) : Array Value := ((List.range 12).map fun b => .bool (f a b)).toArray
@[simp, go_sem] theorem rowC_size (f : Rel) (a : Nat) : (rowC f a).size = 12 := by simp [rowC]
@[go_sem] theorem rowC_get (f : Rel) (a b : Nat) (hb : b < 12) : (rowC f a)[b]? = some (.bool (f a b)) := by simp [rowC, hb]
@[go_sem] theorem matC_row (f : Rel) (a : Nat) (ha : a < 12) : (matC f).extract (a * 12) (a * 12 + 12) = rowC f a := by
  apply Array.ext_getElem?
  intro i
  rw [Array.getElem?_extract]
  by_cases hi : i < 12
  · rw [if_pos (by rw [matC_size]; omega), matC_get f a i ha hi, rowC_get f a i hi]
  · rw [if_neg (by omega), Array.getElem?_eq_none (by rw [rowC_size]; omega)]
theorem info50 : (Try.prog.info? 50).map (fun i => i.size) = some 12 := by kernel_rfl
theorem size50 (w : World) : (sizeOf 50).run Try.prog w = .ok 12 w := by
  cases hq : Try.prog.info? 50 with
  | none => have := info50; rw [hq] at this; cases this
  | some i =>
    have : i.size = 12 := by have := info50; rw [hq] at this; simpa using this
    simp [sizeOf, typeInfo, hq, this]
theorem part50 (f : Rel) (a : Nat) (ha : a < 12) (w : World) : (part 50 (matC f) (a * 12)).run Try.prog w = .ok (.agg (rowC f a)) w := by
  simp [part, isAgg, run_underlying Try.underlying50, size50, matC_row f a ha]
theorem part4 (f : Rel) (a b : Nat) (hb : b < 12) (w : World) : (part 4 (rowC f a) b).run Try.prog w = .ok (.bool (f a b)) w := by
  simp [part, isAgg, run_underlying Try.underlying4, rowC_get f a b hb]
theorem run_items {P : Program} (w : World) (d : Nat) (e : TypeId) (k : Nat) (xs ys : Array Value) (A B : Nat → Value) (r : Nat → Bool) : ∀ is : List Nat, (∀ i ∈ is, (part e xs (i * k)).run P w = .ok (A i) w ∧ (part e ys (i * k)).run P w = .ok (B i) w ∧ (Op.equalIn d e (A i) (B i)).run P w = .ok (r i) w) →
    (Op.eqItems d e k xs ys is).run P w = .ok (is.all r) w
  | [], _ => by simp [Op.eqItems]
  | i :: is, h => by
    obtain ⟨h1, h2, h3⟩ := h i (by simp)
    have ih := run_items w d e k xs ys A B r is fun j hj => h j (by simp [hj])
    simp only [Op.eqItems, Sem.run_bind, h1, h2, h3, Result.andThen_ok]
    cases hr : r i
    · simp [hr]
    · simpa [hr] using ih
def rowEq (f g : Rel) (a : Nat) : Bool := (List.range 12).all fun b => f a b == g a b
def relEq (f g : Rel) : Bool := (List.range 12).all (rowEq f g)
theorem some4 : (Try.prog.info? 4).isSome = true := by kernel_rfl
theorem some50 : (Try.prog.info? 50).isSome = true := by kernel_rfl
theorem cells4 : Try.prog.cellsOf 4 = 1 := by kernel_rfl
theorem cells50 : Try.prog.cellsOf 50 = 12 := by kernel_rfl
theorem eq50 (d : Nat) (f g : Rel) (a : Nat) (w : World) : (Op.equalIn (d + 1 + 1) 50 (.agg (rowC f a)) (.agg (rowC g a))).run Try.prog w = .ok (rowEq f g a) w := by
  obtain ⟨i, hi⟩ := Option.isSome_iff_exists.1 some4
  rw [run_equalIn_array w (d + 1) _ _ Try.underlying50 hi, cells4]
  refine run_items w (d + 1) 4 1 _ _ (fun b => .bool (f a b)) (fun b => .bool (g a b)) _ _ fun b hb => ?_
  have hb := List.mem_range.1 hb
  rw [Nat.mul_one]
  exact ⟨part4 f a b hb w, part4 g a b hb w, run_equalIn_bool w d 4 _ _ Try.underlying4⟩
@[go_sem] theorem eq52 (f g : Rel) (w : World) : (Op.equalIn 10000 52 (.agg (matC f)) (.agg (matC g))).run Try.prog w = .ok (relEq f g) w := by
  obtain ⟨i, hi⟩ := Option.isSome_iff_exists.1 some50
  rw [run_equalIn_array w 9999 _ _ Try.underlying52 hi, cells50]
  refine run_items w 9999 50 12 _ _ (fun a => .agg (rowC f a)) (fun a => .agg (rowC g a)) _ _ fun a ha => ?_
  have ha := List.mem_range.1 ha
  exact ⟨part50 f a ha w, part50 g a ha w, eq50 9997 f g a w⟩
theorem relEq_iff {f g : Rel} : relEq f g = true ↔ ∀ a b, a < 12 → b < 12 → f a b = g a b := by
  simp only [relEq, rowEq, List.all_eq_true, List.mem_range, beq_iff_eq]
  exact ⟨fun h a b ha hb => h a ha b hb, fun h a ha b hb => h a b ha hb⟩
theorem relEq_mat {f g : Rel} (h : relEq f g = true) : matC f = matC g := matC_inj (relEq_iff.1 h)
/-- A relation handed back through a cell. -/
theorem res52 {fn : Func} {p : Tmp} (h : fn.results = #[.cell p 52]) (tmps : Array Value) (w : World) (b : Nat) (f : Rel) (hp : tmps.getD p undef = .pointer (some ⟨b, 0, none⟩)) (hr : isRow w b 144) (hw : rowOf w b = matC f) :
    (results fn tmps).run Try.prog w = .ok (.agg (matC f)) w := by
  obtain ⟨c, t, hb, hc⟩ := hr
  rw [rowOf_of hb] at hw
  subst hw
  exact results_cell_row h tmps w b t _ (0, 0) _ hp hb Try.underlying52 rfl (by rw [hc]; exact (zero_of_info info52).2)
end Go.Proofs.Ytbafcfbchbjgfaa
