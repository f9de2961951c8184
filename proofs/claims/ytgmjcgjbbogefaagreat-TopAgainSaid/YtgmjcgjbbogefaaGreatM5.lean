/- Lemmas that the laws of this seat share, 4 texts in one: Mat, ReachPlain, Reach, Dim. No condition of their own. -/
import Derived.Test.YtgmjcgjbbogefaaGreatM4
import Derived.ChangeKeysEq
import Derived.Deep.LoopGhost
import Derived.BigRegion
import Derived.Test.YtgmjcgjbbogefaaGreatM1
/- Relations of 12 values as arrays of 144 cells. -/
namespace Go.Proofs.YtgmjcgjbbogefaaGreat
open Go.RowKit
set_option linter.unusedSimpArgs false
set_option linter.unusedVariables false

abbrev Rel := Nat → Nat → Bool
def matC (f : Rel) : Array Value := ((List.range 144).map fun i => .bool (f (i / 12) (i % 12))).toArray
def upd (f : Rel) (a b : Nat) (v : Bool) : Rel := fun x y => if x = a ∧ y = b then v else f x y
@[simp, go_sem] theorem matC_size (f : Rel) : (matC f).size = 144 := by simp [matC]
theorem matC_one (f : Rel) : (matC f).all (·.oneCell') = true := by
  rw [Array.all_eq_true_iff_forall_mem]
  intro v hv
  simp [matC] at hv
  obtain ⟨a, _, rfl⟩ := hv
  rfl
@[go_sem] theorem matC_get (f : Rel) (a b : Nat) (ha : a < 12) (hb : b < 12) : (matC f)[a * 12 + b]? = some (.bool (f a b)) := by
  have h : a * 12 + b < 144 := by omega
  simp [matC, h]
  rw [show (a * 12 + b) / 12 = a by omega, show b % 12 = b by omega]
@[go_sem] theorem matC_set (f : Rel) (a b : Nat) (v : Bool) (ha : a < 12) (hb : b < 12) : (matC f).setIfInBounds (a * 12 + b) (.bool v) = matC (upd f a b v) := by
  apply Array.ext_getElem?
  intro i
  rw [Array.getElem?_setIfInBounds]
  by_cases hi : a * 12 + b = i
  · subst hi
    rw [if_pos rfl, if_pos (by rw [matC_size]; omega), matC_get _ a b ha hb]
    simp [upd]
  · rw [if_neg hi]
    by_cases h2 : i < 144
    · obtain ⟨x, y, hx, hy, rfl⟩ : ∃ x y, x < 12 ∧ y < 12 ∧ i = x * 12 + y := ⟨i / 12, i % 12, by omega, by omega, by omega⟩
      rw [matC_get _ x y hx hy, matC_get _ x y hx hy]
      have : ¬ (x = a ∧ y = b) := fun h => hi (by rw [h.1, h.2])
      simp [upd, this]
    · rw [Array.getElem?_eq_none (by rw [matC_size]; omega), Array.getElem?_eq_none (by rw [matC_size]; omega)]
theorem matC_inj {f g : Rel} (h : ∀ a b, a < 12 → b < 12 → f a b = g a b) : matC f = matC g := by
  unfold matC
  congr 1
  apply List.map_congr_left
  intro i hi
  rw [h _ _ (by have := List.mem_range.1 hi; omega) (by omega)]
def noRel : Rel := fun _ _ => false
@[go_sem] theorem zeroCells_mat : Tryz.zeroCells133 = matC noRel := by kernel_rfl
theorem info52 : (Tryz.prog.info? 133).map (fun i => (i.zero, i.size)) = some (some (.agg (matC noRel)), 144) := by kernel_rfl
@[go_sem] theorem zero52 (w : World) : (zeroValue 133).run Tryz.prog w = .ok (.agg (matC noRel)) w := (zero_of_info info52).1 w
section
variable (w : World) (b : Nat) (f : Rel)
/-- A whole array is loaded at once: its load is not opened. -/
def ldV (t : TypeId) (a : Addr) : Sem Value := loadVar t a
@[go_sem ↓] theorem loadVar52 (a : Addr) : loadVar 133 a = ldV 133 a := rfl
@[go_sem] theorem load52 (h : isRow w b 144) : (ldV 133 ⟨b, 0, none⟩).run Tryz.prog w = .ok (.agg (rowOf w b)) w := by
  obtain ⟨c, t, hb, hc⟩ := h
  have hi : (Tryz.prog.info? 133).map (·.size) = some c.size := by rw [hc]; exact (zero_of_info info52).2
  rw [rowOf_of hb]
  exact run_loadVar_row w b t 133 c (0, 0) _ hb Tryz.underlying133 rfl hi
@[go_sem] theorem store144 (h : isRow w b 144) : (storeCells ⟨b, 0, none⟩ (matC f).toList 0).run Tryz.prog w = .ok () (w.setRow b (matC f)) := run_storeCells_row h (matC_size f) (matC_one f)
end
/-- A row of a relation. -/
def rowC (f : Rel) (a : Nat) : Array Value := ((List.range 12).map fun b => .bool (f a b)).toArray
@[simp, go_sem] theorem rowC_size (f : Rel) (a : Nat) : (rowC f a).size = 12 := by simp [rowC]
@[go_sem] theorem rowC_get (f : Rel) (a b : Nat) (hb : b < 12) : (rowC f a)[b]? = some (.bool (f a b)) := by simp [rowC, hb]
@[go_sem] theorem matC_row (f : Rel) (a : Nat) (ha : a < 12) : (matC f).extract (a * 12) (a * 12 + 12) = rowC f a := by
  apply Array.ext_getElem?
  intro i
  rw [Array.getElem?_extract]
  by_cases hi : i < 12
  · rw [if_pos (by rw [matC_size]; omega), matC_get f a i ha hi, rowC_get f a i hi]
  · rw [if_neg (by omega), Array.getElem?_eq_none (by rw [rowC_size]; omega)]
theorem info50 : (Tryz.prog.info? 131).map (fun i => i.size) = some 12 := by kernel_rfl
theorem size50 (w : World) : (sizeOf 131).run Tryz.prog w = .ok 12 w := by
  cases hq : Tryz.prog.info? 131 with
  | none => have := info50; rw [hq] at this; cases this
  | some i =>
    have : i.size = 12 := by have := info50; rw [hq] at this; simpa using this
    simp [sizeOf, typeInfo, hq, this]
theorem part50 (f : Rel) (a : Nat) (ha : a < 12) (w : World) : (part 131 (matC f) (a * 12)).run Tryz.prog w = .ok (.agg (rowC f a)) w := by
  simp [part, isAgg, run_underlying Tryz.underlying131, size50, matC_row f a ha]
theorem part4 (f : Rel) (a b : Nat) (hb : b < 12) (w : World) : (part 4 (rowC f a) b).run Tryz.prog w = .ok (.bool (f a b)) w := by
  simp [part, isAgg, run_underlying Tryz.underlying4, rowC_get f a b hb]
theorem run_items {P : Program} (w : World) (d : Nat) (e : TypeId) (k : Nat) (xs ys : Array Value) (A B : Nat → Value) (r : Nat → Bool) : ∀ is : List Nat, (∀ i ∈ is, (part e xs (i * k)).run P w = .ok (A i) w ∧ (part e ys (i * k)).run P w = .ok (B i) w ∧ (Op.equalIn d e (A i) (B i)).run P w = .ok (r i) w) →
    (Op.eqItems d e k xs ys is).run P w = .ok (is.all r) w
  | [], _ => by simp [Op.eqItems]
  | i :: is, h => by
    obtain ⟨h1, h2, h3⟩ := h i (by simp)
    have ih := run_items w d e k xs ys A B r is fun j hj => h j (by simp [hj])
    simp only [Op.eqItems, Sem.run_bind, h1, h2, h3, Result.andThen_ok]
    cases hr : r i
    · simp [hr]
    · simpa [hr] using ih
def rowEq (f g : Rel) (a : Nat) : Bool := (List.range 12).all fun b => f a b == g a b
def relEq (f g : Rel) : Bool := (List.range 12).all (rowEq f g)
theorem some4 : (Tryz.prog.info? 4).isSome = true := by kernel_rfl
theorem some50 : (Tryz.prog.info? 131).isSome = true := by kernel_rfl
theorem cells4 : Tryz.prog.cellsOf 4 = 1 := by kernel_rfl
theorem cells50 : Tryz.prog.cellsOf 131 = 12 := by kernel_rfl
theorem eq50 (d : Nat) (f g : Rel) (a : Nat) (w : World) : (Op.equalIn (d + 1 + 1) 131 (.agg (rowC f a)) (.agg (rowC g a))).run Tryz.prog w = .ok (rowEq f g a) w := by
  obtain ⟨i, hi⟩ := Option.isSome_iff_exists.1 some4
  rw [run_equalIn_array w (d + 1) _ _ Tryz.underlying131 hi, cells4]
  refine run_items w (d + 1) 4 1 _ _ (fun b => .bool (f a b)) (fun b => .bool (g a b)) _ _ fun b hb => ?_
  have hb := List.mem_range.1 hb
  rw [Nat.mul_one]
  exact ⟨part4 f a b hb w, part4 g a b hb w, run_equalIn_bool w d 4 _ _ Tryz.underlying4⟩
@[go_sem] theorem eq52 (f g : Rel) (w : World) : (Op.equalIn 10000 133 (.agg (matC f)) (.agg (matC g))).run Tryz.prog w = .ok (relEq f g) w := by
  obtain ⟨i, hi⟩ := Option.isSome_iff_exists.1 some50
  rw [run_equalIn_array w 9999 _ _ Tryz.underlying133 hi, cells50]
  refine run_items w 9999 131 12 _ _ (fun a => .agg (rowC f a)) (fun a => .agg (rowC g a)) _ _ fun a ha => ?_
  have ha := List.mem_range.1 ha
  exact ⟨part50 f a ha w, part50 g a ha w, eq50 9997 f g a w⟩
theorem relEq_iff {f g : Rel} : relEq f g = true ↔ ∀ a b, a < 12 → b < 12 → f a b = g a b := by
  simp only [relEq, rowEq, List.all_eq_true, List.mem_range, beq_iff_eq]
  exact ⟨fun h a b ha hb => h a ha b hb, fun h a ha b hb => h a b ha hb⟩
/-- A relation handed back through a cell. -/
theorem res52 {fn : Func} {p : Tmp} (h : fn.results = #[.cell p 133]) (tmps : Array Value) (w : World) (b : Nat) (f : Rel) (hp : tmps.getD p undef = .pointer (some ⟨b, 0, none⟩)) (hr : isRow w b 144) (hw : rowOf w b = matC f) :
    (results fn tmps).run Tryz.prog w = .ok (.agg (matC f)) w := by
  obtain ⟨c, t, hb, hc⟩ := hr
  rw [rowOf_of hb] at hw
  subst hw
  exact results_cell_row h tmps w b t _ (0, 0) _ hp hb Tryz.underlying133 rfl (by rw [hc]; exact (zero_of_info info52).2)
end Go.Proofs.YtgmjcgjbbogefaaGreat


/- Relations of 12 values: two steps added until nothing changes; walks. Plain. -/
namespace Go.Proofs.YtgmjcgjbbogefaaGreat
open Go.RowKit
set_option linter.unusedSimpArgs false
set_option linter.unusedVariables false

def stepR (h : Rel) : Rel := fun a c => h a c || (List.range 12).any fun b => h a b && h b c
def curR (h : Rel) (a b c : Nat) : Rel := fun x z => h x z || (List.range (if x < a then 12 else if x = a then (if z < c then b + 1 else b) else 0)).any fun y => h x y && h y z
theorem curR_zero (h : Rel) : curR h 0 0 0 = h := by
  funext x z
  simp only [curR]
  by_cases hx : x = 0
  · subst hx; simp
  · rw [if_neg (by omega), if_neg hx]; simp
theorem curR_next (h : Rel) (a b c : Nat) (v : Bool) (hv : v = (curR h a b c a c || (h a b && h b c))) : upd (curR h a b c) a c v = curR h a b (c + 1) := by
  subst hv
  funext x z
  unfold upd
  by_cases hx : x = a ∧ z = c
  · rw [if_pos hx]
    obtain ⟨rfl, rfl⟩ := hx
    simp only [curR, Nat.lt_irrefl, if_false, if_true, Nat.lt_succ_self]
    rw [List.range_succ, List.any_append, Bool.or_assoc]
    simp
  · rw [if_neg hx]
    simp only [curR]
    by_cases h1 : x = a
    · have hz : z ≠ c := fun hz => hx ⟨h1, hz⟩
      subst h1
      by_cases h2 : z < c
      · rw [if_pos h2, if_pos (by omega : z < c + 1)]
      · rw [if_neg h2, if_neg (by omega : ¬ z < c + 1)]
    · simp only [h1, if_false]
theorem curR_row (h : Rel) (a b : Nat) : matC (curR h a b 12) = matC (curR h a (b + 1) 0) := matC_inj fun x z hx hz => by
  simp only [curR, if_pos hz, Nat.not_lt_zero, if_false]
theorem curR_col (h : Rel) (a : Nat) : curR h a 12 0 = curR h (a + 1) 0 0 := by
  funext x z
  simp only [curR, Nat.not_lt_zero, if_false]
  by_cases h1 : x < a
  · rw [if_pos h1, if_pos (by omega)]
  · rw [if_neg h1]
    by_cases h2 : x = a
    · rw [if_pos h2, if_pos (by omega)]
    · rw [if_neg h2, if_neg (by omega)]
      by_cases h3 : x = a + 1
      · rw [if_pos h3]
      · rw [if_neg h3]
theorem curR_all (h : Rel) : matC (curR h 12 0 0) = matC (stepR h) := matC_inj fun x z hx hz => by
  simp only [curR, stepR, if_pos hx]

/-- Walks of exactly n pairs. -/
def Wk (f : Rel) (lo : Nat) : Nat → Nat → Nat → Prop
  | 0, a, b => a = b
  | n + 1, a, b => ∃ c, lo ≤ c ∧ c < 12 ∧ f a c = true ∧ Wk f lo n c b
theorem Wk.app {f : Rel} {lo : Nat} : ∀ {n m a b c : Nat}, Wk f lo n a b → Wk f lo m b c → Wk f lo (n + m) a c
  | 0, m, a, b, c, h, h2 => by
    have : a = b := h
    subst this
    rw [Nat.zero_add]
    exact h2
  | n + 1, m, a, b, c, ⟨d, h1, h2, h3, h4⟩, h5 => by
    rw [Nat.add_right_comm]
    exact ⟨d, h1, h2, h3, h4.app h5⟩
def Reach (f : Rel) (a b : Nat) : Prop := ∃ n, Wk f 0 (n + 1) a b
theorem Reach.one {f : Rel} {a b : Nat} (hb : b < 12) (h : f a b = true) : Reach f a b := ⟨0, b, Nat.zero_le _, hb, h, rfl⟩
theorem Reach.trans {f : Rel} {a b c : Nat} (h1 : Reach f a b) (h2 : Reach f b c) : Reach f a c := by
  obtain ⟨n, h1⟩ := h1
  obtain ⟨m, h2⟩ := h2
  exact ⟨n + 1 + m, by have := h1.app h2; rw [show n + 1 + m + 1 = n + 1 + (m + 1) by omega]; exact this⟩
/-- What a round keeps. -/
structure Between (f g : Rel) : Prop where
  lo : ∀ a b, a < 12 → b < 12 → f a b = true → g a b = true
  hi : ∀ a b, a < 12 → b < 12 → g a b = true → Reach f a b
theorem Between.refl (f : Rel) : Between f f := ⟨fun _ _ _ _ h => h, fun _ _ _ hb h => .one hb h⟩
theorem Between.step {f g : Rel} (h : Between f g) : Between f (stepR g) := by
  refine ⟨fun a b ha hb hf => ?_, fun a b ha hb hg => ?_⟩
  · simp [stepR, h.lo a b ha hb hf]
  · simp only [stepR, Bool.or_eq_true, List.any_eq_true, List.mem_range, Bool.and_eq_true] at hg
    rcases hg with hg | ⟨c, hc, h1, h2⟩
    · exact h.hi a b ha hb hg
    · exact (h.hi a c ha hc h1).trans (h.hi c b hc hb h2)
def Closed (g : Rel) : Prop := ∀ a b c, a < 12 → b < 12 → c < 12 → g a b = true → g b c = true → g a c = true
theorem closed_of_step {g h : Rel} (h1 : g = stepR h) (h2 : relEq h g = true) : Closed g := by
  subst h1
  have h2 := relEq_iff.1 h2
  intro a b c ha hb hc h3 h4
  rw [← h2 a b ha hb] at h3
  rw [← h2 b c hb hc] at h4
  simp only [stepR, Bool.or_eq_true, List.any_eq_true, List.mem_range, Bool.and_eq_true]
  exact .inr ⟨b, hb, h3, h4⟩
theorem closed_of_none {g : Rel} (h2 : relEq noRel g = true) : Closed g := by
  have h2 := relEq_iff.1 h2
  intro a b c ha hb hc h3 h4
  rw [← h2 a b ha hb] at h3
  cases h3
theorem wk_in {f g : Rel} (h : Between f g) (hc : Closed g) : ∀ (n a b : Nat), a < 12 → b < 12 → Wk f 0 (n + 1) a b → g a b = true
  | 0, a, b, ha, hb, ⟨c, _, hc, h1, h2⟩ => by
    have : c = b := h2
    subst this
    exact h.lo a c ha hc h1
  | n + 1, a, b, ha, hb, ⟨c, _, hc', h1, h2⟩ => hc a c b ha hc' hb (h.lo a c ha hc' h1) (wk_in h hc n c b hc' hb h2)
/-- The closure: exactly what is reached. -/
theorem between_closed {f g : Rel} (h : Between f g) (hc : Closed g) {a b : Nat} (ha : a < 12) (hb : b < 12) : g a b = true ↔ Reach f a b :=
  ⟨h.hi a b ha hb, fun ⟨n, hn⟩ => wk_in h hc n a b ha hb hn⟩
/-! How many pairs lack. -/
def zerosR (g : Rel) : Nat := ((List.range 144).filter fun i => !g (i / 12) (i % 12)).length
theorem filter_le {α : Type} {p q : α → Bool} : ∀ (l : List α), (∀ x ∈ l, p x = true → q x = true) → (l.filter p).length ≤ (l.filter q).length
  | [], _ => Nat.le_refl _
  | x :: l, h => by
    have ih := filter_le l fun y hy => h y (by simp [hy])
    rw [List.filter_cons, List.filter_cons]
    by_cases hp : p x = true
    · rw [if_pos hp, if_pos (h x (by simp) hp), List.length_cons, List.length_cons]
      omega
    · rw [if_neg hp]
      split
      · rw [List.length_cons]; omega
      · exact ih
theorem filter_lt {α : Type} {p q : α → Bool} : ∀ (l : List α), (∀ x ∈ l, p x = true → q x = true) → (∃ x ∈ l, p x = false ∧ q x = true) → (l.filter p).length < (l.filter q).length
  | [], _, ⟨x, hx, _⟩ => by simp at hx
  | x :: l, h, ⟨y, hy, h1, h2⟩ => by
    have ih := filter_le l fun y hy => h y (by simp [hy])
    rw [List.filter_cons, List.filter_cons]
    by_cases hxy : y = x
    · subst hxy
      rw [if_neg (by rw [h1]; simp), if_pos h2, List.length_cons]
      omega
    · have ih2 := filter_lt l (fun y hy => h y (by simp [hy])) ⟨y, by simpa [hxy] using hy, h1, h2⟩
      by_cases hp : p x = true
      · rw [if_pos hp, if_pos (h x (by simp) hp), List.length_cons, List.length_cons]
        omega
      · rw [if_neg hp]
        split
        · rw [List.length_cons]; omega
        · exact ih2
def leftR (g h : Rel) : Nat := 2 * zerosR g + if relEq h g = true then 0 else 1
theorem left_step {g h : Rel} (hne : relEq h g = false) : leftR (stepR g) g < leftR g h := by
  unfold leftR
  rw [hne]
  have hle : ∀ i ∈ List.range 144, (!stepR g (i / 12) (i % 12)) = true → (!g (i / 12) (i % 12)) = true := by
    intro i _ hi
    simp only [stepR, Bool.not_eq_true', Bool.or_eq_false_iff] at hi ⊢
    exact hi.1
  by_cases he : relEq g (stepR g) = true
  · rw [if_pos he]
    have := filter_le _ hle
    unfold zerosR
    simp only [Bool.false_eq_true, if_false]
    omega
  · rw [if_neg he]
    have : ∃ i ∈ List.range 144, (!stepR g (i / 12) (i % 12)) = false ∧ (!g (i / 12) (i % 12)) = true := by
      refine Classical.byContradiction fun hc => he (relEq_iff.2 fun a b ha hb => ?_)
      refine Classical.byContradiction fun hab => hc ⟨a * 12 + b, List.mem_range.2 (by omega), ?_⟩
      rw [show (a * 12 + b) / 12 = a by omega, show (a * 12 + b) % 12 = b by omega]
      cases hg : g a b with
      | true => exact absurd (by simp [stepR, hg]) hab
      | false =>
        rw [hg] at hab
        cases hs : stepR g a b with
        | true => exact ⟨rfl, rfl⟩
        | false => exact absurd hs.symm hab
    have := filter_lt _ hle this
    unfold zerosR
    simp only [Bool.false_eq_true, if_false]
    omega
end Go.Proofs.YtgmjcgjbbogefaaGreat


/- reach of package factor. -/
namespace Go.Proofs.YtgmjcgjbbogefaaGreat
open Go.RowKit
set_option linter.unusedSimpArgs false
set_option linter.unusedVariables false

theorem wext_alloc (w : World) (x : Ex) (o : Obj) : (wext w x).alloc o = wext w (x.and ⟨#[o], x.dr⟩) := by
  rw [wext_one, wext_and]
  rfl
theorem world_turn (B : World) (y x : Ex) (o o' : Obj) : (wext ((wext B y).alloc o) x).alloc o' = wext ((wext B ((y.and ⟨#[o], y.dr⟩).and x)).alloc o') ⟨#[], x.dr⟩ := by
  rw [wext_alloc B y o, wext_and]
  exact (wext_self _).symm
set_option maxRecDepth 100000
set_option maxHeartbeats 1000000
theorem reach40 (f : Rel) (w : World) :
    Calls Tryz.prog 73 #[.agg (matC f)] w fun e w' => ∃ g, e = .returned (.agg (matC g)) ∧ Between f g ∧ Closed g ∧ Exts w w' := by
  go_enter Tryz.func73, Tryz.ntmps73
  go_wp2
  go_loopg [3] (leftR f noRel) (fun k p wr => ∃ (g h : Rel) (y z : Ex), wr = wext ((wext ((w.alloc (.cells (matC g) 133)).alloc (.cells (matC noRel) 133)) y).alloc (.cells (matC h) 133)) z ∧ p = .pointer (some ⟨w.heap.size + 1 + 1 + y.bs.size, 0, none⟩) ∧ Between f g ∧ (h = noRel ∨ g = stepR h) ∧ leftR g h ≤ k)
  case atStart => exact ⟨f, noRel, ⟨#[], ((w.alloc (.cells (matC f) 133)).alloc (.cells (matC noRel) 133)).drawn⟩, ⟨#[], (((w.alloc (.cells (matC f) 133)).alloc (.cells (matC noRel) 133)).alloc (.cells (matC noRel) 133)).drawn⟩, by rw [wext_self, wext_self], rfl, Between.refl f, .inl rfl, Nat.le_refl _⟩
  case round =>
    obtain ⟨g, h, y, z, rfl, rfl, hbt, hst, hle⟩ := hrel
    have HBT := Lib.hid hbt
    have HST := Lib.hid hst
    have HLE := Lib.hid hle
    clear hbt hst hle
    cases hq : relEq h g with
    | true =>
      have HQ := Lib.hid hq
      go_wp2
      have hcl : Closed g := by
        rcases HST.out with rfl | hs
        · exact closed_of_none HQ.out
        · exact closed_of_step hs HQ.out
      refine bodyPost_ret (v := .agg (matC g)) (res52 rfl _ _ _ _ rfl (by simp [go_sem]) (by simp [go_sem])) rfl ⟨g, rfl, HBT.out, hcl, (by repeat (first | exact Exts.refl _ | apply Exts.andR | apply Exts.alloc | apply Exts.wext | apply Exts.drew | apply Exts.drewN))⟩
    | false =>
      have HQ := Lib.hid hq
      go_wp2
      clear hq
      go_loopw [12] (fun i wr => ∃ (a : Nat) (x : Ex), a ≤ 12 ∧ i = .int .i64 a ∧ wr = wext ((wext ((w.alloc (.cells (matC (curR g a 0 0)) 133)).alloc (.cells (matC noRel) 133)) y).alloc (.cells (matC g) 133)) x) (fun i _ => 12 - (intOf i).toNat)
      case atStart => exact ⟨0, z, by omega, rfl, by rw [curR_zero]⟩
      case round =>
        obtain ⟨a, x, ha, rfl, rfl⟩ := hrel
        by_cases halt : a < 12
        · go_wp2
          go_loopw [15] (fun i wr => ∃ (b : Nat) (x : Ex), b ≤ 12 ∧ i = .int .i64 b ∧ wr = wext ((wext ((w.alloc (.cells (matC (curR g a b 0)) 133)).alloc (.cells (matC noRel) 133)) y).alloc (.cells (matC g) 133)) x) (fun i _ => 12 - (intOf i).toNat)
          case atStart => exact ⟨0, x, by omega, rfl, rfl⟩
          case round =>
            obtain ⟨b, x, hb, rfl, rfl⟩ := hrel
            by_cases hblt : b < 12
            · go_wp2
              go_loopw [18] (fun i wr => ∃ (c : Nat) (x : Ex), c ≤ 12 ∧ i = .int .i64 c ∧ wr = wext ((wext ((w.alloc (.cells (matC (curR g a b c)) 133)).alloc (.cells (matC noRel) 133)) y).alloc (.cells (matC g) 133)) x) (fun i _ => 12 - (intOf i).toNat)
              case atStart => exact ⟨0, x, by omega, rfl, rfl⟩
              case round =>
                obtain ⟨c, x, hc, rfl, rfl⟩ := hrel
                by_cases hclt : c < 12
                · cases h1 : curR g a b c a c with
                  | true =>
                    have HN := Lib.hid (curR_next g a b c true (by rw [h1]; rfl))
                    go_wp2
                    go_region
                    rw [HN.out]
                    go_wp2
                    refine ⟨⟨c + 1, _, by omega, by go_num, rfl⟩, ?_⟩
                    simp [intOf]; omega
                  | false =>
                    cases h2 : g a b with
                    | false =>
                      have HN := Lib.hid (curR_next g a b c false (by rw [h1, h2]; rfl))
                      go_wp2
                      go_region
                      rw [HN.out]
                      go_wp2
                      refine ⟨⟨c + 1, _, by omega, by go_num, rfl⟩, ?_⟩
                      simp [intOf]; omega
                    | true =>
                      cases h3 : g b c with
                      | false =>
                        have HN := Lib.hid (curR_next g a b c false (by rw [h1, h2, h3]; rfl))
                        go_wp2
                        go_region
                        rw [HN.out]
                        go_wp2
                        refine ⟨⟨c + 1, _, by omega, by go_num, rfl⟩, ?_⟩
                        simp [intOf]; omega
                      | true =>
                        have HN := Lib.hid (curR_next g a b c true (by rw [h1, h2, h3]; rfl))
                        go_wp2
                        go_region
                        rw [HN.out]
                        go_wp2
                        refine ⟨⟨c + 1, _, by omega, by go_num, rfl⟩, ?_⟩
                        simp [intOf]; omega
                · obtain rfl : c = 12 := by omega
                  go_wp2
                  refine ⟨⟨b + 1, x, by omega, by go_num, by rw [curR_row]⟩, ?_⟩
                  simp [intOf]; omega
            · obtain rfl : b = 12 := by omega
              go_wp2
              refine ⟨⟨a + 1, x, by omega, by go_num, by rw [curR_col]⟩, ?_⟩
              simp [intOf]; omega
        · obtain rfl : a = 12 := by omega
          rw [curR_all]
          go_wp2
          go_roundg (leftR (stepR g) g)
          case measure => exact Nat.lt_of_lt_of_le (left_step HQ.out) HLE.out
          case rel =>
            exact ⟨stepR g, g, (y.and ⟨#[.cells (matC g) 133], y.dr⟩).and x, ⟨#[], x.dr⟩, world_turn _ _ _ _ _, by rw [add_and_size, add_and_size]; rfl, HBT.out.step, .inr rfl, Nat.le_refl _⟩
end Go.Proofs.YtgmjcgjbbogefaaGreat


/- Dimensions: pairs of values; valid and steps of package factor. -/
namespace Go.Proofs.YtgmjcgjbbogefaaGreat
open Go.RowKit
set_option linter.unusedSimpArgs false
set_option linter.unusedVariables false

abbrev Pr := Int × Int
def prCells (p : Pr) : List Value := [.int .i64 p.1, .int .i64 p.2]
def prFlat (ps : List Pr) : List Value := (ps.map prCells).flatten
theorem prFlat_at (ps : List Pr) (i j : Nat) (hj : j < 2) : (prFlat ps)[i * 2 + j]? = (ps[i]?).bind fun t => (prCells t)[j]? := by
  unfold prFlat
  rw [flatten_at _ (by intro x hx; rw [List.mem_map] at hx; obtain ⟨v, _, rfl⟩ := hx; rfl) i j hj, List.getElem?_map]
  cases ps[i]? <;> rfl
theorem prFlat_len (ps : List Pr) : (prFlat ps).length = ps.length * 2 := by
  unfold prFlat
  rw [flatten_len (k := 2) _ (by intro x hx; rw [List.mem_map] at hx; obtain ⟨v, _, rfl⟩ := hx; rfl), List.length_map]
abbrev Prs (S : Nat → Prop) (w : World) (po : Option Addr) (n c : Nat) (ps : List Pr) : Prop := RowF S 2 w (.slice po n c) n (prFlat ps)
theorem Prs.len {S : Nat → Prop} {w : World} {po : Option Addr} {n c : Nat} {ps : List Pr} (h : Prs S w po n c ps) : ps.length = n := by
  have := RowF.len h
  rw [prFlat_len] at this
  omega
theorem Prs.get {S : Nat → Prop} {w : World} {po : Option Addr} {n c : Nat} {ps : List Pr} (h : Prs S w po n c ps) {i : Nat} (hi : i < n) :
    ∃ b off p, po = some ⟨b, off, none⟩ ∧ b < w.heap.size ∧ ps[i]? = some p ∧ w.cell? ⟨b, off + i * 2, none⟩ = some (.int .i64 p.1) ∧ w.cell? ⟨b, off + i * 2 + 1, none⟩ = some (.int .i64 p.2) := by
  have hl := h.len
  obtain ⟨h1, ao2, cap2, hv, h2, h3, h4, h5⟩ := h
  simp only [Value.slice.injEq, true_and] at hv
  obtain ⟨rfl, rfl⟩ := hv
  obtain ⟨b, off, rfl, hS, hb, hc⟩ := h5 (by omega)
  have hp : ps[i]? = some ps[i] := List.getElem?_eq_getElem (by omega)
  have g : ∀ j c, j < 2 → (prCells ps[i])[j]? = some c → w.cell? ⟨b, off + i * 2 + j, none⟩ = some c := by
    intro j c hj he
    rw [Nat.add_assoc]
    exact hc _ _ (by rw [prFlat_at ps i j hj, hp]; exact he)
  exact ⟨b, off, _, rfl, hb, hp, g 0 _ (by omega) rfl, g 1 _ (by omega) rfl⟩

def prIn (V : Int) (p : Pr) : Bool := decide (0 ≤ p.1) && decide (p.1 < V) && (decide (0 ≤ p.2) && decide (p.2 < V))
def validB (V : Int) (ps : List Pr) : Bool := decide (1 ≤ V) && decide (V ≤ 12) && (decide (ps.length ≤ 144) && ps.all (prIn V))
def pairRel (ps : List Pr) : Rel := fun a b => ps.any fun p => p.1 == (a : Int) && p.2 == (b : Int)
theorem pairRel_next (ps : List Pr) (k a b : Nat) (h : ps[k]? = some ((a : Int), (b : Int))) : upd (pairRel (ps.take k)) a b true = pairRel (ps.take (k + 1)) := by
  funext x y
  unfold upd pairRel
  rw [List.take_add_one, h, List.any_append]
  by_cases hx : x = a ∧ y = b
  · rw [if_pos hx]
    simp [hx.1, hx.2]
  · rw [if_neg hx]
    have : (((a : Int) == (x : Int)) && ((b : Int) == (y : Int))) = false := by
      refine Bool.eq_false_iff.2 fun hc => hx ?_
      simp at hc
      omega
    simp [this]
set_option maxRecDepth 100000
set_option maxHeartbeats 1000000
theorem steps34 {S : Nat → Prop} (V : Int) (po : Option Addr) (n c : Nat) (ps : List Pr) (w : World) (h : Prs S w po n c ps) (hin : ∀ p ∈ ps, 0 ≤ p.1 ∧ p.1 < 12 ∧ 0 ≤ p.2 ∧ p.2 < 12) :
    Calls Tryz.prog 51 #[.agg #[.int .i64 V, .slice po n c]] w fun e w' => e = .returned (.agg (matC (pairRel ps))) ∧ Exts w w' := by
  have hl := h.len
  have hm := h.nle
  unfold maxLen at hm
  have H := Lib.hid h
  have HIN := Lib.hid hin
  have HL := Lib.hid hl
  clear h hin hl
  go_enter Tryz.func51, Tryz.ntmps51
  go_wp2
  go_loopw [9] (fun i wr => ∃ (k : Nat), k ≤ n ∧ i = .int .i64 k ∧ Exts (((w.alloc (.cells #[.int .i64 V, .slice po n c] 38)).alloc (.cells (matC noRel) 133)).alloc (.cells (matC (pairRel (ps.take k))) 133)) wr) (fun i _ => n - (intOf i).toNat)
  case atStart => exact ⟨0, by omega, rfl, Exts.refl _⟩
  case round =>
    obtain ⟨k, hk, rfl, x, rfl⟩ := hrel
    by_cases hlt : k < n
    · obtain ⟨b, off, ⟨p1, p2⟩, rfl, hb, hp, e0, e1⟩ := H.out.get hlt
      obtain ⟨q1, q2, q3, q4⟩ := HIN.out _ (List.mem_of_getElem? hp)
      simp only at q1 q2 q3 q4 e0 e1
      obtain ⟨a, rfl⟩ : ∃ a : Nat, p1 = a := ⟨p1.toNat, by omega⟩
      obtain ⟨d, rfl⟩ : ∃ d : Nat, p2 = d := ⟨p2.toNat, by omega⟩
      have ha : a < 12 := by omega
      have hd : d < 12 := by omega
      have HN := Lib.hid (pairRel_next ps k a d hp)
      clear hp q1 q3
      go_wp2
      go_region
      rw [HN.out]
      go_wp2
      refine ⟨⟨k + 1, by omega, by go_num, (by repeat (first | exact Exts.refl _ | apply Exts.andR | apply Exts.alloc | apply Exts.wext | apply Exts.drew | apply Exts.drewN))⟩, ?_⟩
      simp [intOf]; omega
    · obtain rfl : k = n := by omega
      have htk : ps.take k = ps := List.take_of_length_le (by rw [HL.out]; exact Nat.le_refl _)
      rw [htk]
      go_wp2
      refine bodyPost_ret (v := .agg (matC (pairRel ps))) (res52 rfl _ _ _ _ rfl (by simp [go_sem]) (by simp [go_sem])) rfl ⟨rfl, (by repeat (first | exact Exts.refl _ | apply Exts.andR | apply Exts.alloc | apply Exts.wext | apply Exts.drew | apply Exts.drewN))⟩

theorem valid_no {V : Int} {ps : List Pr} {p : Pr} (h : p ∈ ps) (hp : prIn V p = false) : validB V ps = false := by
  have : ps.all (prIn V) = false := by
    refine Bool.eq_false_iff.2 fun hc => ?_
    rw [List.all_eq_true.1 hc p h] at hp
    cases hp
  simp [validB, this]
theorem valid_in {V : Int} {ps : List Pr} (h : validB V ps = true) : (1 ≤ V ∧ V ≤ 12) ∧ ps.length ≤ 144 ∧ ∀ p ∈ ps, 0 ≤ p.1 ∧ p.1 < V ∧ 0 ≤ p.2 ∧ p.2 < V := by
  simp only [validB, Bool.and_eq_true, decide_eq_true_eq, List.all_eq_true, prIn] at h
  exact ⟨h.1, h.2.1, fun p hp => ⟨(h.2.2 p hp).1.1, (h.2.2 p hp).1.2, (h.2.2 p hp).2.1, (h.2.2 p hp).2.2⟩⟩
theorem valid_bad {V : Int} {ps : List Pr} (h : ¬ (1 ≤ V ∧ V ≤ 12 ∧ ps.length ≤ 144)) : validB V ps = false := by
  refine Bool.eq_false_iff.2 fun hc => h ?_
  obtain ⟨⟨h1, h2⟩, h3, _⟩ := valid_in hc
  exact ⟨h1, h2, h3⟩
theorem valid32 {S : Nat → Prop} (V : Int) (po : Option Addr) (n c : Nat) (ps : List Pr) (w : World) (h : Prs S w po n c ps) :
    Calls Tryz.prog 49 #[.agg #[.int .i64 V, .slice po n c]] w fun e w' => e = .returned (.bool (validB V ps)) ∧ Exts w w' := by
  have hl := h.len
  have hm := h.nle
  unfold maxLen at hm
  have H := Lib.hid h
  have HL := Lib.hid hl
  by_cases h1 : 1 ≤ V
  · have b1 : decide (V < 1) = false := by simp; omega
    by_cases h2 : V ≤ 12
    · have b2 : decide (12 < V) = false := by simp; omega
      by_cases h3 : n ≤ 144
      · have b3 : decide ((144 : Int) < (n : Int)) = false := by simp; omega
        clear h hl
        go_enter Tryz.func49, Tryz.ntmps49
        go_wp2
        go_loopw [22] (fun i wr => ∃ (k : Nat), k ≤ n ∧ i = .int .i64 k ∧ Exts (w.alloc (.cells #[.int .i64 V, .slice po n c] 38)) wr ∧ ∀ p ∈ ps.take k, prIn V p = true) (fun i _ => n - (intOf i).toNat)
        case atStart => exact ⟨0, by omega, rfl, Exts.refl _, by simp⟩
        case round =>
          obtain ⟨k, hk, rfl, ⟨x, rfl⟩, hin⟩ := hrel
          have HI := Lib.hid hin
          clear hin
          by_cases hlt : k < n
          · obtain ⟨b, off, ⟨p1, p2⟩, rfl, hb, hp, e0, e1⟩ := H.out.get hlt
            simp only at e0 e1
            have HP := Lib.hid hp
            clear hp
            by_cases q0 : p2 < p1
            · by_cases q1 : p2 < 0
              · have HR := Lib.hid (valid_no (V := V) (List.mem_of_getElem? HP.out) (by simp [prIn]; omega))
                have c1 : decide (p2 < 0) = true := by simpa using q1
                go_wp2
                go_ret
                exact ⟨by rw [HR.out]; rfl, (by repeat (first | exact Exts.refl _ | apply Exts.andR | apply Exts.alloc | apply Exts.wext | apply Exts.drew | apply Exts.drewN))⟩
              · have c1 : decide (p2 < 0) = false := by simpa using q1
                by_cases q2 : V ≤ p1
                · have HR := Lib.hid (valid_no (V := V) (List.mem_of_getElem? HP.out) (by simp [prIn]; omega))
                  have c2 : decide (V ≤ p1) = true := by simpa using q2
                  go_wp2
                  go_ret
                  exact ⟨by rw [HR.out]; rfl, (by repeat (first | exact Exts.refl _ | apply Exts.andR | apply Exts.alloc | apply Exts.wext | apply Exts.drew | apply Exts.drewN))⟩
                · have c2 : decide (V ≤ p1) = false := by simpa using q2
                  have HQ := Lib.hid (show prIn V (p1, p2) = true by simp [prIn]; omega)
                  go_wp2
                  refine ⟨⟨k + 1, by omega, by go_num, (by repeat (first | exact Exts.refl _ | apply Exts.andR | apply Exts.alloc | apply Exts.wext | apply Exts.drew | apply Exts.drewN)), fun q hq => ?_⟩, ?_⟩
                  · rw [List.take_add_one, HP.out, List.mem_append] at hq
                    rcases hq with hq | hq
                    · exact HI.out q hq
                    · simp at hq
                      rw [hq]
                      exact HQ.out
                  · simp [intOf]; omega
            · by_cases q3 : p1 < p2
              · by_cases q1 : p1 < 0
                · have HR := Lib.hid (valid_no (V := V) (List.mem_of_getElem? HP.out) (by simp [prIn]; omega))
                  have c1 : decide (p1 < 0) = true := by simpa using q1
                  go_wp2
                  go_ret
                  exact ⟨by rw [HR.out]; rfl, (by repeat (first | exact Exts.refl _ | apply Exts.andR | apply Exts.alloc | apply Exts.wext | apply Exts.drew | apply Exts.drewN))⟩
                · have c1 : decide (p1 < 0) = false := by simpa using q1
                  by_cases q2 : V ≤ p2
                  · have HR := Lib.hid (valid_no (V := V) (List.mem_of_getElem? HP.out) (by simp [prIn]; omega))
                    have c2 : decide (V ≤ p2) = true := by simpa using q2
                    go_wp2
                    go_ret
                    exact ⟨by rw [HR.out]; rfl, (by repeat (first | exact Exts.refl _ | apply Exts.andR | apply Exts.alloc | apply Exts.wext | apply Exts.drew | apply Exts.drewN))⟩
                  · have c2 : decide (V ≤ p2) = false := by simpa using q2
                    have HQ := Lib.hid (show prIn V (p1, p2) = true by simp [prIn]; omega)
                    go_wp2
                    refine ⟨⟨k + 1, by omega, by go_num, (by repeat (first | exact Exts.refl _ | apply Exts.andR | apply Exts.alloc | apply Exts.wext | apply Exts.drew | apply Exts.drewN)), fun q hq => ?_⟩, ?_⟩
                    · rw [List.take_add_one, HP.out, List.mem_append] at hq
                      rcases hq with hq | hq
                      · exact HI.out q hq
                      · simp at hq
                        rw [hq]
                        exact HQ.out
                    · simp [intOf]; omega
              · obtain rfl : p1 = p2 := by omega
                by_cases q1 : p1 < 0
                · have HR := Lib.hid (valid_no (V := V) (List.mem_of_getElem? HP.out) (by simp [prIn]; omega))
                  have c1 : decide (p1 < 0) = true := by simpa using q1
                  go_wp2
                  go_ret
                  exact ⟨by rw [HR.out]; rfl, (by repeat (first | exact Exts.refl _ | apply Exts.andR | apply Exts.alloc | apply Exts.wext | apply Exts.drew | apply Exts.drewN))⟩
                · have c1 : decide (p1 < 0) = false := by simpa using q1
                  by_cases q2 : V ≤ p1
                  · have HR := Lib.hid (valid_no (V := V) (List.mem_of_getElem? HP.out) (by simp [prIn]; omega))
                    have c2 : decide (V ≤ p1) = true := by simpa using q2
                    go_wp2
                    go_ret
                    exact ⟨by rw [HR.out]; rfl, (by repeat (first | exact Exts.refl _ | apply Exts.andR | apply Exts.alloc | apply Exts.wext | apply Exts.drew | apply Exts.drewN))⟩
                  · have c2 : decide (V ≤ p1) = false := by simpa using q2
                    have HQ := Lib.hid (show prIn V (p1, p1) = true by simp [prIn]; omega)
                    go_wp2
                    refine ⟨⟨k + 1, by omega, by go_num, (by repeat (first | exact Exts.refl _ | apply Exts.andR | apply Exts.alloc | apply Exts.wext | apply Exts.drew | apply Exts.drewN)), fun q hq => ?_⟩, ?_⟩
                    · rw [List.take_add_one, HP.out, List.mem_append] at hq
                      rcases hq with hq | hq
                      · exact HI.out q hq
                      · simp at hq
                        rw [hq]
                        exact HQ.out
                    · simp [intOf]; omega
          · obtain rfl : k = n := by omega
            have htk : ps.take k = ps := List.take_of_length_le (by rw [HL.out]; exact Nat.le_refl _)
            have HR := Lib.hid (show validB V ps = true by
              have := HI.out
              rw [htk] at this
              have hlen := HL.out
              simp only [validB, Bool.and_eq_true, decide_eq_true_eq, List.all_eq_true]
              exact ⟨⟨h1, h2⟩, by omega, this⟩)
            clear htk
            go_wp2
            go_ret
            exact ⟨by rw [HR.out]; rfl, (by repeat (first | exact Exts.refl _ | apply Exts.andR | apply Exts.alloc | apply Exts.wext | apply Exts.drew | apply Exts.drewN))⟩
      · have b3 : decide ((144 : Int) < (n : Int)) = true := by simp; omega
        have HR := Lib.hid (valid_bad (V := V) (ps := ps) (by omega))
        clear h hl
        go_enter Tryz.func49, Tryz.ntmps49
        go_wp2
        go_ret
        exact ⟨by rw [HR.out]; rfl, (by repeat (first | exact Exts.refl _ | apply Exts.andR | apply Exts.alloc | apply Exts.wext | apply Exts.drew | apply Exts.drewN))⟩
    · have b2 : decide (12 < V) = true := by simp; omega
      have HR := Lib.hid (valid_bad (V := V) (ps := ps) (by omega))
      clear h hl
      go_enter Tryz.func49, Tryz.ntmps49
      go_wp2
      go_ret
      exact ⟨by rw [HR.out]; rfl, (by repeat (first | exact Exts.refl _ | apply Exts.andR | apply Exts.alloc | apply Exts.wext | apply Exts.drew | apply Exts.drewN))⟩
  · have b1 : decide (V < 1) = true := by simp; omega
    have HR := Lib.hid (valid_bad (V := V) (ps := ps) (by omega))
    clear h hl
    go_enter Tryz.func49, Tryz.ntmps49
    go_wp2
    go_ret
    exact ⟨by rw [HR.out]; rfl, (by repeat (first | exact Exts.refl _ | apply Exts.andR | apply Exts.alloc | apply Exts.wext | apply Exts.drew | apply Exts.drewN))⟩
end Go.Proofs.YtgmjcgjbbogefaaGreat

