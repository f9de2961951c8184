/- How far it is to a value by values that are not less: the relaxation. Plain; and the array of 12 numbers. -/
import Derived.Test.YtbafcfbchbjgfaaClosePlain
namespace Go.Proofs.Ytbafcfbchbjgfaa
open Go.RowKit
set_option linter.unusedSimpArgs false
set_option linter.unusedVariables false

abbrev Arr := Nat → Nat
def arrC (d : Arr) : Array Value := ((List.range 12).map fun i => .int .i64 (d i)).toArray
def updA (d : Arr) (a v : Nat) : Arr := fun x => if x = a then v else d x
@[simp, go_sem] theorem arrC_size (d : Arr) : (arrC d).size = 12 := by simp [arrC]
theorem arrC_one (d : Arr) : (arrC d).all (·.oneCell') = true := by
  rw [Array.all_eq_true_iff_forall_mem]
  intro v hv
  simp [arrC] at hv
  obtain ⟨a, _, rfl⟩ := hv
  rfl
@[go_sem] theorem arrC_get (d : Arr) (a : Nat) (ha : a < 12) : (arrC d)[a]? = some (.int .i64 (d a)) := by simp [arrC, ha]
@[simp, go_sem] theorem arrC_elem (d : Arr) (a : Nat) (ha : a < (arrC d).size) : (arrC d)[a] = .int .i64 (d a) := by simp [arrC]
@[go_sem] theorem arrC_set (d : Arr) (a : Nat) (v : Nat) (ha : a < 12) : (arrC d).setIfInBounds a (.int .i64 (v : Int)) = arrC (updA d a v) := by
  apply Array.ext_getElem?
  intro i
  rw [Array.getElem?_setIfInBounds]
  by_cases hi : a = i
  · subst hi
    rw [if_pos rfl, if_pos (by rw [arrC_size]; exact ha), arrC_get _ a ha]
    simp [updA]
  · rw [if_neg hi]
    by_cases h2 : i < 12
    · rw [arrC_get _ i h2, arrC_get _ i h2]
      simp [updA, show ¬ i = a from fun h => hi h.symm]
    · rw [Array.getElem?_eq_none (by rw [arrC_size]; omega), Array.getElem?_eq_none (by rw [arrC_size]; omega)]
theorem arrC_inj {d e : Arr} (h : ∀ a, a < 12 → d a = e a) : arrC d = arrC e := by
  unfold arrC
  congr 1
  apply List.map_congr_left
  intro i hi
  rw [h i (List.mem_range.1 hi)]

structure Home (f : Rel) (to r a b : Nat) (d : Arr) : Prop where
  zero : d to = 0
  le : ∀ v, v < 12 → d v ≤ 13
  wk : ∀ v, v < 12 → d v < 13 → to ≤ v ∧ Wk f to (d v) v to
  up : ∀ n v, n ≤ r → to ≤ v → v < 12 → Wk f to n v to → d v ≤ n
  cur : ∀ v c n, to ≤ v → v < 12 → to ≤ c → c < 12 → f v c = true → n ≤ r → Wk f to n c to → (v < a ∨ (v = a ∧ c < b)) → d v ≤ n + 1
theorem Home.start (f : Rel) (to : Nat) (hto : to < 12) : Home f to 0 to to (updA (fun _ => 13) to 0) := by
  refine ⟨by simp [updA], fun v _ => ?_, fun v hv h => ?_, fun n v hn hv _ hw => ?_, fun v c n h1 _ h2 _ _ _ _ h3 => by omega⟩
  · unfold updA; split <;> simp
  · unfold updA at h ⊢
    split at h
    · rename_i hvt
      subst hvt
      rw [if_pos rfl]
      exact ⟨Nat.le_refl _, rfl⟩
    · simp at h
  · obtain rfl : n = 0 := by omega
    have : v = to := hw
    simp [updA, this]
def relax (f : Rel) (to a b : Nat) (d : Arr) : Arr := if f a b = true ∧ a ≠ to then updA d a (min (d a) (d b + 1)) else d
theorem relax_le (f : Rel) (to a b : Nat) (d : Arr) (v : Nat) : relax f to a b d v ≤ d v := by
  unfold relax updA
  split
  · by_cases h : v = a
    · simp only [h, if_true]; omega
    · simp only [if_neg h]; omega
  · exact Nat.le_refl _
theorem Home.next {f : Rel} {to r a b : Nat} {d : Arr} (h : Home f to r a b d) (ha : to ≤ a) (ha2 : a < 12) (hb : to ≤ b) (hb2 : b < 12) : Home f to r a (b + 1) (relax f to a b d) := by
  have hle := relax_le f to a b d
  refine ⟨by have := hle to; have := h.zero; omega, fun v hv => Nat.le_trans (hle v) (h.le v hv), fun v hv h13 => ?_, fun n v hn hv hv2 hw => Nat.le_trans (hle v) (h.up n v hn hv hv2 hw), fun v c n h1 h2 h3 h4 h5 h6 h7 h8 => ?_⟩
  · unfold relax updA at h13 ⊢
    split at h13
    · rename_i hc
      rw [if_pos hc]
      by_cases hva : v = a
      · simp only [hva, if_true] at h13 ⊢
        refine ⟨ha, ?_⟩
        rcases Nat.le_total (d a) (d b + 1) with hm | hm
        · rw [Nat.min_eq_left hm] at h13 ⊢
          exact (h.wk a ha2 h13).2
        · rw [Nat.min_eq_right hm] at h13 ⊢
          exact ⟨b, hb, hb2, hc.1, (h.wk b hb2 (by omega)).2⟩
      · simp only [if_neg hva] at h13 ⊢
        exact h.wk v hv h13
    · rename_i hc
      rw [if_neg hc]
      exact h.wk v hv h13
  · by_cases hvc : v = a ∧ c = b
    · obtain ⟨rfl, rfl⟩ := hvc
      by_cases hvt : v = to
      · have := hle v
        have := h.zero
        rw [hvt] at *
        omega
      · have := h.up n c h6 h3 h4 h7
        unfold relax updA
        rw [if_pos ⟨h5, hvt⟩]
        simp only [if_true]
        omega
    · have := h.cur v c n h1 h2 h3 h4 h5 h6 h7 (by omega)
      exact Nat.le_trans (hle v) this
theorem Home.row {f : Rel} {to r a : Nat} {d : Arr} (h : Home f to r a 12 d) : Home f to r (a + 1) to d :=
  ⟨h.zero, h.le, h.wk, h.up, fun v c n h1 h2 h3 h4 h5 h6 h7 h8 => h.cur v c n h1 h2 h3 h4 h5 h6 h7 (by omega)⟩
theorem Home.round {f : Rel} {to r : Nat} {d : Arr} (h : Home f to r 12 to d) : Home f to (r + 1) to to d := by
  refine ⟨h.zero, h.le, h.wk, fun n v hn hv hv2 hw => ?_, fun v c n h1 h2 h3 h4 h5 h6 h7 h8 => by omega⟩
  cases n with
  | zero =>
    exact h.up 0 v (Nat.zero_le _) hv hv2 hw
  | succ n =>
    obtain ⟨c, hc1, hc2, hc3, hc4⟩ := hw
    exact h.cur v c n hv hv2 hc1 hc2 hc3 (by omega) hc4 (.inl hv2)
/-- The distances to a value, 13 for what is too far. -/
structure IsDist (f : Rel) (to : Nat) (d : Arr) : Prop where
  zero : d to = 0
  le : ∀ v, v < 12 → d v ≤ 13
  wk : ∀ v, v < 12 → d v < 13 → to ≤ v ∧ Wk f to (d v) v to
  up : ∀ n v, n ≤ 12 → to ≤ v → v < 12 → Wk f to n v to → d v ≤ n
theorem Home.dist {f : Rel} {to a b : Nat} {d : Arr} (h : Home f to 12 a b d) : IsDist f to d := ⟨h.zero, h.le, h.wk, h.up⟩

theorem info60 : (Try.prog.info? 60).map (fun i => (i.zero, i.size)) = some (some (.agg (arrC fun _ => 0)), 12) := by kernel_rfl
@[go_sem ↓] theorem zero60 (w : World) : (zeroValue 60).run Try.prog w = .ok (.agg (arrC fun _ => 0)) w := (zero_of_info info60).1 w
@[go_sem ↓] theorem loadVar60 (a : Addr) : loadVar 60 a = ldV 60 a := rfl
@[go_sem] theorem load60 (w : World) (b : Nat) (h : isRow w b 12) : (ldV 60 ⟨b, 0, none⟩).run Try.prog w = .ok (.agg (rowOf w b)) w := by
  obtain ⟨c, t, hb, hc⟩ := h
  have hi : (Try.prog.info? 60).map (·.size) = some c.size := by rw [hc]; exact (zero_of_info info60).2
  rw [rowOf_of hb]
  exact run_loadVar_row w b t 60 c (0, 0) _ hb Try.underlying60 rfl hi
@[go_sem] theorem store12 (w : World) (b : Nat) (d : Arr) (h : isRow w b 12) : (storeCells ⟨b, 0, none⟩ (arrC d).toList 0).run Try.prog w = .ok () (w.setRow b (arrC d)) := run_storeCells_row h (arrC_size d) (arrC_one d)
theorem res60 {fn : Func} {p : Tmp} (h : fn.results = #[.cell p 60]) (tmps : Array Value) (w : World) (b : Nat) (d : Arr) (hp : tmps.getD p undef = .pointer (some ⟨b, 0, none⟩)) (hr : isRow w b 12) (hw : rowOf w b = arrC d) :
    (results fn tmps).run Try.prog w = .ok (.agg (arrC d)) w := by
  obtain ⟨c, t, hb, hc⟩ := hr
  rw [rowOf_of hb] at hw
  subst hw
  exact results_cell_row h tmps w b t _ (0, 0) _ hp hb Try.underlying60 rfl (by rw [hc]; exact (zero_of_info info60).2)
end Go.Proofs.Ytbafcfbchbjgfaa
