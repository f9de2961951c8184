/- Lemmas that the laws of this seat share, 4 texts in one: HomePlain, CircPlain, Home, Circ. No condition of their own. -/
import Derived.Test.YtodgohilfbggjaaM3
import Derived.Test.YtodgohilfbggjaaM4
import Derived.Deep.LoopGhost
/- How far it is to a value by values that are not less: the relaxation. Plain; and the array of 12 numbers. -/
namespace Go.Proofs.Ytodgohilfbggjaa
open Go.RowKit
set_option linter.unusedSimpArgs false
set_option linter.unusedVariables false

abbrev Arr := Nat → Nat
def arrC (d : Arr) : Array Value := ((List.range 12).map fun i => .int .i64 (d i)).toArray
def updA (d : Arr) (a v : Nat) : Arr := fun x => if x = a then v else d x
@[simp, go_sem] theorem arrC_size (d : Arr) : (arrC d).size = 12 := by simp [arrC]
theorem arrC_one (d : Arr) : (arrC d).all (·.oneCell') = true := by
  rw [Array.all_eq_true_iff_forall_mem]
  intro v hv
  simp [arrC] at hv
  obtain ⟨a, _, rfl⟩ := hv
  rfl
@[go_sem] theorem arrC_get (d : Arr) (a : Nat) (ha : a < 12) : (arrC d)[a]? = some (.int .i64 (d a)) := by simp [arrC, ha]
@[simp, go_sem] theorem arrC_elem (d : Arr) (a : Nat) (ha : a < (arrC d).size) : (arrC d)[a] = .int .i64 (d a) := by simp [arrC]
@[go_sem] theorem arrC_set (d : Arr) (a : Nat) (v : Nat) (ha : a < 12) : (arrC d).setIfInBounds a (.int .i64 (v : Int)) = arrC (updA d a v) := by
  apply Array.ext_getElem?
  intro i
  rw [Array.getElem?_setIfInBounds]
  by_cases hi : a = i
  · subst hi
    rw [if_pos rfl, if_pos (by rw [arrC_size]; exact ha), arrC_get _ a ha]
    simp [updA]
  · rw [if_neg hi]
    by_cases h2 : i < 12
    · rw [arrC_get _ i h2, arrC_get _ i h2]
      simp [updA, show ¬ i = a from fun h => hi h.symm]
    · rw [Array.getElem?_eq_none (by rw [arrC_size]; omega), Array.getElem?_eq_none (by rw [arrC_size]; omega)]
theorem arrC_inj {d e : Arr} (h : ∀ a, a < 12 → d a = e a) : arrC d = arrC e := by
  unfold arrC
  congr 1
  apply List.map_congr_left
  intro i hi
  rw [h i (List.mem_range.1 hi)]

structure Home (f : Rel) (to r a b : Nat) (d : Arr) : Prop where
  zero : d to = 0
  le : ∀ v, v < 12 → d v ≤ 13
  wk : ∀ v, v < 12 → d v < 13 → to ≤ v ∧ Wk f to (d v) v to
  up : ∀ n v, n ≤ r → to ≤ v → v < 12 → Wk f to n v to → d v ≤ n
  cur : ∀ v c n, to ≤ v → v < 12 → to ≤ c → c < 12 → f v c = true → n ≤ r → Wk f to n c to → (v < a ∨ (v = a ∧ c < b)) → d v ≤ n + 1
theorem Home.start (f : Rel) (to : Nat) (hto : to < 12) : Home f to 0 to to (updA (fun _ => 13) to 0) := by
  refine ⟨by simp [updA], fun v _ => ?_, fun v hv h => ?_, fun n v hn hv _ hw => ?_, fun v c n h1 _ h2 _ _ _ _ h3 => by omega⟩
  · unfold updA; split <;> simp
  · unfold updA at h ⊢
    split at h
    · rename_i hvt
      subst hvt
      rw [if_pos rfl]
      exact ⟨Nat.le_refl _, rfl⟩
    · simp at h
  · obtain rfl : n = 0 := by omega
    have : v = to := hw
    simp [updA, this]
def relax (f : Rel) (to a b : Nat) (d : Arr) : Arr := if f a b = true ∧ a ≠ to then updA d a (min (d a) (d b + 1)) else d
theorem relax_le (f : Rel) (to a b : Nat) (d : Arr) (v : Nat) : relax f to a b d v ≤ d v := by
  unfold relax updA
  split
  · by_cases h : v = a
    · simp only [h, if_true]; omega
    · simp only [if_neg h]; omega
  · exact Nat.le_refl _
theorem Home.next {f : Rel} {to r a b : Nat} {d : Arr} (h : Home f to r a b d) (ha : to ≤ a) (ha2 : a < 12) (hb : to ≤ b) (hb2 : b < 12) : Home f to r a (b + 1) (relax f to a b d) := by
  have hle := relax_le f to a b d
  refine ⟨by have := hle to; have := h.zero; omega, fun v hv => Nat.le_trans (hle v) (h.le v hv), fun v hv h13 => ?_, fun n v hn hv hv2 hw => Nat.le_trans (hle v) (h.up n v hn hv hv2 hw), fun v c n h1 h2 h3 h4 h5 h6 h7 h8 => ?_⟩
  · unfold relax updA at h13 ⊢
    split at h13
    · rename_i hc
      rw [if_pos hc]
      by_cases hva : v = a
      · simp only [hva, if_true] at h13 ⊢
        refine ⟨ha, ?_⟩
        rcases Nat.le_total (d a) (d b + 1) with hm | hm
        · rw [Nat.min_eq_left hm] at h13 ⊢
          exact (h.wk a ha2 h13).2
        · rw [Nat.min_eq_right hm] at h13 ⊢
          exact ⟨b, hb, hb2, hc.1, (h.wk b hb2 (by omega)).2⟩
      · simp only [if_neg hva] at h13 ⊢
        exact h.wk v hv h13
    · rename_i hc
      rw [if_neg hc]
      exact h.wk v hv h13
  · by_cases hvc : v = a ∧ c = b
    · obtain ⟨rfl, rfl⟩ := hvc
      by_cases hvt : v = to
      · have := hle v
        have := h.zero
        rw [hvt] at *
        omega
      · have := h.up n c h6 h3 h4 h7
        unfold relax updA
        rw [if_pos ⟨h5, hvt⟩]
        simp only [if_true]
        omega
    · have := h.cur v c n h1 h2 h3 h4 h5 h6 h7 (by omega)
      exact Nat.le_trans (hle v) this
theorem Home.row {f : Rel} {to r a : Nat} {d : Arr} (h : Home f to r a 12 d) : Home f to r (a + 1) to d :=
  ⟨h.zero, h.le, h.wk, h.up, fun v c n h1 h2 h3 h4 h5 h6 h7 h8 => h.cur v c n h1 h2 h3 h4 h5 h6 h7 (by omega)⟩
theorem Home.round {f : Rel} {to r : Nat} {d : Arr} (h : Home f to r 12 to d) : Home f to (r + 1) to to d := by
  refine ⟨h.zero, h.le, h.wk, fun n v hn hv hv2 hw => ?_, fun v c n h1 h2 h3 h4 h5 h6 h7 h8 => by omega⟩
  cases n with
  | zero =>
    exact h.up 0 v (Nat.zero_le _) hv hv2 hw
  | succ n =>
    obtain ⟨c, hc1, hc2, hc3, hc4⟩ := hw
    exact h.cur v c n hv hv2 hc1 hc2 hc3 (by omega) hc4 (.inl hv2)
/-- The distances to a value, 13 for what is too far. -/
structure IsDist (f : Rel) (to : Nat) (d : Arr) : Prop where
  zero : d to = 0
  le : ∀ v, v < 12 → d v ≤ 13
  wk : ∀ v, v < 12 → d v < 13 → to ≤ v ∧ Wk f to (d v) v to
  up : ∀ n v, n ≤ 12 → to ≤ v → v < 12 → Wk f to n v to → d v ≤ n
theorem Home.dist {f : Rel} {to a b : Nat} {d : Arr} (h : Home f to 12 a b d) : IsDist f to d := ⟨h.zero, h.le, h.wk, h.up⟩

theorem info60 : (Try.prog.info? 100).map (fun i => (i.zero, i.size)) = some (some (.agg (arrC fun _ => 0)), 12) := by kernel_rfl
@[go_sem ↓] theorem zero60 (w : World) : (zeroValue 100).run Try.prog w = .ok (.agg (arrC fun _ => 0)) w := (zero_of_info info60).1 w
@[go_sem ↓] theorem loadVar60 (a : Addr) : loadVar 100 a = ldV 100 a := rfl
@[go_sem] theorem load60 (w : World) (b : Nat) (h : isRow w b 12) : (ldV 100 ⟨b, 0, none⟩).run Try.prog w = .ok (.agg (rowOf w b)) w := by
  obtain ⟨c, t, hb, hc⟩ := h
  have hi : (Try.prog.info? 100).map (·.size) = some c.size := by rw [hc]; exact (zero_of_info info60).2
  rw [rowOf_of hb]
  exact run_loadVar_row w b t 100 c (0, 0) _ hb Try.underlying100 rfl hi
@[go_sem] theorem store12 (w : World) (b : Nat) (d : Arr) (h : isRow w b 12) : (storeCells ⟨b, 0, none⟩ (arrC d).toList 0).run Try.prog w = .ok () (w.setRow b (arrC d)) := run_storeCells_row h (arrC_size d) (arrC_one d)
theorem res60 {fn : Func} {p : Tmp} (h : fn.results = #[.cell p 100]) (tmps : Array Value) (w : World) (b : Nat) (d : Arr) (hp : tmps.getD p undef = .pointer (some ⟨b, 0, none⟩)) (hr : isRow w b 12) (hw : rowOf w b = arrC d) :
    (results fn tmps).run Try.prog w = .ok (.agg (arrC d)) w := by
  obtain ⟨c, t, hb, hc⟩ := hr
  rw [rowOf_of hb] at hw
  subst hw
  exact results_cell_row h tmps w b t _ (0, 0) _ hp hb Try.underlying100 rfl (by rw [hc]; exact (zero_of_info info60).2)
end Go.Proofs.Ytodgohilfbggjaa

/- The least of the smallest circles, as package factor searches it. Plain. -/
namespace Go.Proofs.Ytodgohilfbggjaa
open Go.RowKit
set_option linter.unusedSimpArgs false
set_option linter.unusedVariables false

/-- The search for the smallest circle, ahead of the pair (s, v). -/
structure Best (f : Rel) (s v best at' : Nat) : Prop where
  le : best ≤ 13
  lt : at' < 12
  pos : 1 ≤ best
  found : best < 13 → at' ≤ s ∧ Wk f at' best at' at'
  low : ∀ s' c n, s' ≤ c → c < 12 → f s' c = true → n ≤ 12 → Wk f s' n c s' → (s' < s ∨ (s' = s ∧ c < v)) → best ≤ n + 1
  first : best < 13 → ∀ s' c n, s' < at' → s' ≤ c → c < 12 → f s' c = true → n ≤ 12 → Wk f s' n c s' → best < n + 1
theorem Best.start (f : Rel) : Best f 0 0 13 0 := ⟨Nat.le_refl _, by omega, by omega, fun h => by omega, fun s' c n _ _ _ _ _ h => by omega, fun h => by omega⟩
theorem Best.yes {f : Rel} {s v best at' : Nat} {d : Arr} (h : Best f s v best at') (hd : IsDist f s d) (hs : s ≤ v) (hv : v < 12) (hf : f s v = true) (hlt : d v + 1 < best) : Best f s (v + 1) (d v + 1) s := by
  have hle := h.le
  refine ⟨by omega, by omega, by omega, fun _ => ⟨Nat.le_refl _, v, hs, hv, hf, (hd.wk v hv (by omega)).2⟩, fun s' c n h1 h2 h3 h4 h5 h6 => ?_, fun _ s' c n h0 h1 h2 h3 h4 h5 => ?_⟩
  · by_cases hc : s' = s ∧ c = v
    · obtain ⟨rfl, rfl⟩ := hc
      have := hd.up n c h4 h1 h2 h5
      omega
    · have := h.low s' c n h1 h2 h3 h4 h5 (by omega)
      omega
  · have := h.low s' c n h1 h2 h3 h4 h5 (.inl h0)
    omega
theorem Best.no {f : Rel} {s v best at' : Nat} {d : Arr} (h : Best f s v best at') (hd : IsDist f s d) (hs : s ≤ v) (hv : v < 12) (hn : f s v = false ∨ ¬ d v + 1 < best) : Best f s (v + 1) best at' := by
  refine ⟨h.le, h.lt, h.pos, h.found, fun s' c n h1 h2 h3 h4 h5 h6 => ?_, h.first⟩
  by_cases hc : s' = s ∧ c = v
  · obtain ⟨rfl, rfl⟩ := hc
    rcases hn with hn | hn
    · rw [hn] at h3; cases h3
    · have := hd.up n c h4 h1 h2 h5
      omega
  · exact h.low s' c n h1 h2 h3 h4 h5 (by omega)
theorem Best.row {f : Rel} {s best at' : Nat} (h : Best f s 12 best at') : Best f (s + 1) (s + 1) best at' :=
  ⟨h.le, h.lt, h.pos, fun hb => ⟨by have := (h.found hb).1; omega, (h.found hb).2⟩, fun s' c n h1 h2 h3 h4 h5 h6 => h.low s' c n h1 h2 h3 h4 h5 (by omega), h.first⟩
/-- A smallest circle: its length, and the least value in it, as small as can be. -/
structure MinCyc (f : Rel) (best at' : Nat) : Prop where
  lt : at' < 12
  pos : 1 ≤ best
  le : best ≤ 12
  wk : Wk f at' best at' at'
  low : ∀ s n, s < 12 → 1 ≤ n → Wk f s n s s → best ≤ n
  first : ∀ s n, s < at' → 1 ≤ n → Wk f s n s s → best < n
theorem Best.min {f : Rel} {v best at' : Nat} (h : Best f 12 v best at') (hb : best < 13) : MinCyc f best at' := by
  refine ⟨h.lt, h.pos, by omega, (h.found hb).2, fun s n hs hn hw => ?_, fun s n hs hn hw => ?_⟩
  · obtain ⟨n, rfl⟩ : ∃ m, n = m + 1 := ⟨n - 1, by omega⟩
    obtain ⟨c, h1, h2, h3, h4⟩ := hw
    by_cases hn12 : n ≤ 12
    · exact h.low s c n h1 h2 h3 hn12 h4 (.inl hs)
    · omega
  · obtain ⟨n, rfl⟩ : ∃ m, n = m + 1 := ⟨n - 1, by omega⟩
    obtain ⟨c, h1, h2, h3, h4⟩ := hw
    by_cases hn12 : n ≤ 12
    · exact h.first hb s c n hs h1 h2 h3 hn12 h4
    · omega
/-- No circle of at most 12 pairs. -/
def NoCyc (f : Rel) : Prop := ∀ s n, s < 12 → 1 ≤ n → n ≤ 12 → ¬ Wk f s n s s
theorem Best.none {f : Rel} {v at' : Nat} (h : Best f 12 v 13 at') : NoCyc f := fun s n hs hn h12 hw => by
  obtain ⟨n, rfl⟩ : ∃ m, n = m + 1 := ⟨n - 1, by omega⟩
  obtain ⟨c, h1, h2, h3, h4⟩ := hw
  have := h.low s c n h1 h2 h3 (by omega) h4 (.inl hs)
  omega

/-- The next value of the circle: the least one that lies on a shortest way back. -/
structure IsNext (f : Rel) (at' : Nat) (d : Arr) (u m v : Nat) : Prop where
  lo : at' ≤ v
  lt : v < 12
  pair : f u v = true
  dist : d v = m
  least : ∀ x, at' ≤ x → x < v → ¬ (f u x = true ∧ d x = m)
structure CirPre (f : Rel) (best at' : Nat) (d : Arr) (C : List Nat) (last : Nat) : Prop where
  len : 1 ≤ C.length
  le : C.length ≤ best
  head : C[0]? = some at'
  next : ∀ i, i + 1 < C.length → ∃ u v, C[i]? = some u ∧ C[i + 1]? = some v ∧ IsNext f at' d u (best - (i + 1)) v
  lst : C[C.length - 1]? = some last
  lt : last < 12
  lo : at' ≤ last
  fro : Wk f at' (C.length - 1) at' last
  back : Wk f at' (best - C.length + 1) last at'
theorem CirPre.start {f : Rel} {best at' : Nat} {d : Arr} (h : MinCyc f best at') : CirPre f best at' d [at'] at' :=
  ⟨by simp, h.pos, rfl, fun i hi => by simp at hi, rfl, h.lt, Nat.le_refl _, rfl, by
    have := h.pos
    rw [show best - [at'].length + 1 = best by simp; omega]
    exact h.wk⟩
theorem CirPre.ex {f : Rel} {best at' : Nat} {d : Arr} {C : List Nat} {last : Nat} (h : CirPre f best at' d C last) (hm : MinCyc f best at') (hd : IsDist f at' d) (hlt : C.length < best) :
    ∃ c, at' ≤ c ∧ c < 12 ∧ f last c = true ∧ d c = best - C.length := by
  obtain ⟨c, h1, h2, h3, h4⟩ := h.back
  have h12 := hm.le
  have hlen := h.len
  have hup := hd.up _ c (by omega) h1 h2 h4
  refine ⟨c, h1, h2, h3, ?_⟩
  refine Classical.byContradiction fun hne => ?_
  have hw := (hd.wk c h2 (by omega)).2
  have hall : Wk f at' (C.length - 1 + (d c + 1)) at' at' := h.fro.app ⟨c, h1, h2, h3, hw⟩
  have := hm.low at' _ hm.lt (by omega) hall
  omega
theorem CirPre.snoc {f : Rel} {best at' : Nat} {d : Arr} {C : List Nat} {last v : Nat} (h : CirPre f best at' d C last) (hm : MinCyc f best at') (hd : IsDist f at' d) (hlt : C.length < best) (hn : IsNext f at' d last (best - C.length) v) : CirPre f best at' d (C ++ [v]) v := by
  have hlen := h.len
  have h12 := hm.le
  refine ⟨by simp, by simp; omega, ?_, fun i hi => ?_, by simp, hn.lt, hn.lo, ?_, ?_⟩
  · rw [List.getElem?_append_left (by omega)]
    exact h.head
  · rw [List.length_append, List.length_singleton] at hi
    by_cases hi2 : i + 1 < C.length
    · obtain ⟨u, x, h1, h2, h3⟩ := h.next i hi2
      exact ⟨u, x, by rw [List.getElem?_append_left (by omega)]; exact h1, by rw [List.getElem?_append_left hi2]; exact h2, h3⟩
    · have hi3 : i + 1 = C.length := by omega
      refine ⟨last, v, ?_, ?_, by rw [hi3]; exact hn⟩
      · rw [List.getElem?_append_left (by omega), show i = C.length - 1 by omega]
        exact h.lst
      · rw [List.getElem?_append_right (by omega), hi3]
        simp
  · have : Wk f at' (C.length - 1 + 1) at' v := h.fro.app ⟨v, hn.lo, hn.lt, hn.pair, rfl⟩
    rw [List.length_append, List.length_singleton, Nat.add_sub_cancel]
    rw [Nat.sub_add_cancel hlen] at this
    exact this
  · have := (hd.wk v hn.lt (by rw [hn.dist]; omega)).2
    rw [hn.dist] at this
    rw [List.length_append, List.length_singleton, show best - (C.length + 1) + 1 = best - C.length by omega]
    exact this
/-- What circle hands back. -/
def IsCirc (f : Rel) (C : List Nat) : Prop :=
  (C = [] ∧ NoCyc f) ∨ (∃ best at' d last, MinCyc f best at' ∧ IsDist f at' d ∧ C.length = best ∧ CirPre f best at' d C last)
end Go.Proofs.Ytodgohilfbggjaa

/- home of package factor. -/
namespace Go.Proofs.Ytodgohilfbggjaa
open Go.RowKit
set_option linter.unusedSimpArgs false
set_option linter.unusedVariables false
@[go_sem] theorem arrC_set1 (d : Arr) (a : Nat) (v : Nat) (ha : a < 12) : (arrC d).setIfInBounds a (.int .i64 ((v : Int) + 1)) = arrC (updA d a (v + 1)) := arrC_set d a (v + 1) ha
@[go_sem] theorem arrC_set13 (d : Arr) (a : Nat) (ha : a < 12) : (arrC d).setIfInBounds a (.int .i64 13) = arrC (updA d a 13) := arrC_set d a 13 ha
@[go_sem] theorem arrC_set0 (d : Arr) (a : Nat) (ha : a < 12) : (arrC d).setIfInBounds a (.int .i64 0) = arrC (updA d a 0) := arrC_set d a 0 ha
def fillA (k : Nat) : Arr := fun v => if v < k then 13 else 0
theorem fill_next (k : Nat) : updA (fillA k) k 13 = fillA (k + 1) := by
  funext v
  unfold updA fillA
  by_cases h : v = k
  · subst h; simp
  · rw [if_neg h]
    by_cases h2 : v < k
    · rw [if_pos h2, if_pos (by omega)]
    · rw [if_neg h2, if_neg (by omega)]
theorem fill_all (to : Nat) : arrC (updA (fillA 12) to 0) = arrC (updA (fun _ => 13) to 0) := arrC_inj fun a ha => by simp [updA, fillA, ha]
theorem relax_no {f : Rel} {to a b : Nat} {d : Arr} (h : f a b = false ∨ a = to) : relax f to a b d = d := if_neg (by
  rintro ⟨h1, h2⟩
  rcases h with h | h
  · rw [h1] at h; cases h
  · exact h2 h)
theorem relax_lt {f : Rel} {to a b : Nat} {d : Arr} (h1 : f a b = true) (h2 : a ≠ to) (h3 : d b + 1 < d a) : relax f to a b d = updA d a (d b + 1) := by
  unfold relax
  rw [if_pos ⟨h1, h2⟩, Nat.min_eq_right (by omega)]
theorem relax_ge {f : Rel} {to a b : Nat} {d : Arr} (h1 : f a b = true) (h2 : a ≠ to) (h3 : ¬ d b + 1 < d a) : relax f to a b d = updA d a (d a) := by
  unfold relax
  rw [if_pos ⟨h1, h2⟩, Nat.min_eq_left (by omega)]
set_option maxRecDepth 100000
set_option maxHeartbeats 2000000
theorem home41 (f : Rel) (to : Nat) (hto : to < 12) (w : World) : Calls Try.prog 69 #[.agg (matC f), .int .i64 to] w fun e w' => ∃ d, e = .returned (.agg (arrC d)) ∧ IsDist f to d ∧ Exts w w' := by
  go_enter Try.func69, Try.ntmps69
  go_wp2
  go_loopw [9] (fun i wr => ∃ (k : Nat), k ≤ 12 ∧ i = .int .i64 k ∧ Exts (((w.alloc (.cells (matC f) 81)).alloc (.cells (arrC fun _ => 0) 100)).alloc (.cells (arrC (fillA k)) 100)) wr) (fun i _ => 12 - (intOf i).toNat)
  case atStart => exact ⟨0, by omega, rfl, Exts.refl _⟩
  case round =>
    obtain ⟨k, hk, rfl, x, rfl⟩ := hrel
    by_cases hlt : k < 12
    · have HN := Lib.hid (fill_next k)
      go_wp2
      rw [HN.out]
      refine ⟨⟨k + 1, by omega, by go_num, (by repeat (first | exact Exts.refl _ | apply Exts.andR | apply Exts.alloc | apply Exts.wext | apply Exts.drew | apply Exts.drewN))⟩, ?_⟩
      simp [intOf]; omega
    · obtain rfl : k = 12 := by omega
      go_wp2
      rw [fill_all]
      go_wp2
      go_loopw [17] (fun i wr => ∃ (r : Nat) (d : Arr), r ≤ 12 ∧ i = .int .i64 r ∧ Home f to r to to d ∧ Exts (((w.alloc (.cells (matC f) 81)).alloc (.cells (arrC fun _ => 0) 100)).alloc (.cells (arrC d) 100)) wr) (fun i _ => 12 - (intOf i).toNat)
      case atStart => exact ⟨0, _, by omega, rfl, Home.start f to hto, (by repeat (first | exact Exts.refl _ | apply Exts.andR | apply Exts.alloc | apply Exts.wext | apply Exts.drew | apply Exts.drewN))⟩
      case round =>
        obtain ⟨r, d, hr, rfl, hh, x, rfl⟩ := hrel
        have HH := Lib.hid hh
        clear hh
        by_cases hrlt : r < 12
        · go_wp2
          go_loopw [7] (fun i wr => ∃ (a : Nat) (d : Arr), to ≤ a ∧ a ≤ 12 ∧ i = .int .i64 a ∧ Home f to r a to d ∧ Exts (((w.alloc (.cells (matC f) 81)).alloc (.cells (arrC fun _ => 0) 100)).alloc (.cells (arrC d) 100)) wr) (fun i _ => 12 - (intOf i).toNat)
          case atStart => exact ⟨to, d, by omega, by omega, rfl, HH.out, (by repeat (first | exact Exts.refl _ | apply Exts.andR | apply Exts.alloc | apply Exts.wext | apply Exts.drew | apply Exts.drewN))⟩
          case round =>
            obtain ⟨a, d, hta, ha, rfl, hh, x, rfl⟩ := hrel
            have HH := Lib.hid hh
            clear hh
            by_cases halt : a < 12
            · go_wp2
              go_loopw [8] (fun i wr => ∃ (b : Nat) (d : Arr), to ≤ b ∧ b ≤ 12 ∧ i = .int .i64 b ∧ Home f to r a b d ∧ Exts (((w.alloc (.cells (matC f) 81)).alloc (.cells (arrC fun _ => 0) 100)).alloc (.cells (arrC d) 100)) wr) (fun i _ => 12 - (intOf i).toNat)
              case atStart => exact ⟨to, d, by omega, by omega, rfl, HH.out, (by repeat (first | exact Exts.refl _ | apply Exts.andR | apply Exts.alloc | apply Exts.wext | apply Exts.drew | apply Exts.drewN))⟩
              case round =>
                obtain ⟨b, d, htb, hb, rfl, hh, x, rfl⟩ := hrel
                have HH := Lib.hid hh
                by_cases hblt : b < 12
                · have hda := hh.le a halt
                  have hdb := hh.le b hblt
                  have HN := Lib.hid (hh.next hta halt htb hblt)
                  clear hh
                  cases hf : f a b with
                  | false =>
                    have HE := Lib.hid (relax_no (d := d) (to := to) (.inl hf))
                    go_wp2
                    refine ⟨⟨b + 1, d, by omega, by omega, by go_num, by have := HN.out; rw [HE.out] at this; exact this, (by repeat (first | exact Exts.refl _ | apply Exts.andR | apply Exts.alloc | apply Exts.wext | apply Exts.drew | apply Exts.drewN))⟩, ?_⟩
                    simp [intOf]; omega
                  | true =>
                    by_cases hat : a = to
                    · have q1 : ((a : Int) == (to : Int)) = true := by simp; omega
                      have q2 : ((a : Int) != (to : Int)) = false := by simp; omega
                      have q3 : (a == to) = true := by simpa using hat
                      have q4 : (a != to) = false := by simpa using hat
                      have HE := Lib.hid (relax_no (f := f) (b := b) (d := d) (.inr hat))
                      clear hat
                      go_wp2
                      refine ⟨⟨b + 1, d, by omega, by omega, by go_num, by have := HN.out; rw [HE.out] at this; exact this, (by repeat (first | exact Exts.refl _ | apply Exts.andR | apply Exts.alloc | apply Exts.wext | apply Exts.drew | apply Exts.drewN))⟩, ?_⟩
                      simp [intOf]; omega
                    · have q1 : ((a : Int) == (to : Int)) = false := by simp; omega
                      have q2 : ((a : Int) != (to : Int)) = true := by simp; omega
                      have q3 : (a == to) = false := by simpa using hat
                      have q4 : (a != to) = true := by simpa using hat
                      by_cases hm : d b + 1 < d a
                      · have hm' : (d b : Int) + 1 < (d a : Int) := by omega
                        have HE := Lib.hid (relax_lt hf hat hm)
                        clear hat
                        go_wp2
                        go_region
                        go_wp2
                        refine ⟨⟨b + 1, _, by omega, by omega, by go_num, by have := HN.out; rw [HE.out] at this; exact this, (by repeat (first | exact Exts.refl _ | apply Exts.andR | apply Exts.alloc | apply Exts.wext | apply Exts.drew | apply Exts.drewN))⟩, ?_⟩
                        simp [intOf]; omega
                      · have hm' : (d a : Int) ≤ (d b : Int) + 1 := by omega
                        have HE := Lib.hid (relax_ge hf hat hm)
                        clear hat hm
                        go_wp2
                        go_region
                        go_wp2
                        go_roundw
                        case rel => exact ⟨b + 1, _, by omega, by omega, by go_num, by have := HN.out; rw [HE.out] at this; exact this, (by repeat (first | exact Exts.refl _ | apply Exts.andR | apply Exts.alloc | apply Exts.wext | apply Exts.drew | apply Exts.drewN))⟩
                        case measure => simp [intOf]; omega
                · obtain rfl : b = 12 := by omega
                  have HN := Lib.hid hh.row
                  clear hh
                  go_wp2
                  refine ⟨⟨a + 1, d, by omega, by omega, by go_num, HN.out, (by repeat (first | exact Exts.refl _ | apply Exts.andR | apply Exts.alloc | apply Exts.wext | apply Exts.drew | apply Exts.drewN))⟩, ?_⟩
                  simp [intOf]; omega
            · obtain rfl : a = 12 := by omega
              have HN := Lib.hid HH.out.round
              go_wp2
              refine ⟨⟨r + 1, d, by omega, by go_num, HN.out, (by repeat (first | exact Exts.refl _ | apply Exts.andR | apply Exts.alloc | apply Exts.wext | apply Exts.drew | apply Exts.drewN))⟩, ?_⟩
              simp [intOf]; omega
        · obtain rfl : r = 12 := by omega
          go_wp2
          refine bodyPost_ret (v := .agg (arrC d)) (res60 rfl _ _ _ _ rfl (by simp [go_sem]) (by simp [go_sem])) rfl ⟨d, rfl, HH.out.dist, (by repeat (first | exact Exts.refl _ | apply Exts.andR | apply Exts.alloc | apply Exts.wext | apply Exts.drew | apply Exts.drewN))⟩
end Go.Proofs.Ytodgohilfbggjaa

/- circle of package factor. -/
namespace Go.Proofs.Ytodgohilfbggjaa
open Go.RowKit
set_option linter.unusedSimpArgs false
set_option linter.unusedVariables false

set_option maxRecDepth 100000
set_option maxHeartbeats 2000000
theorem circle33 (f : Rel) (w : World) : Calls Try.prog 67 #[.agg (matC f)] w fun e w' => ∃ (C : List Nat) (ro : Option Addr) (rc : Nat), e = .returned (.slice ro C.length rc) ∧ IsCirc f C ∧ Exts w w' ∧ Ints (fun b => w.heap.size ≤ b) w' ro C.length rc (C.map Int.ofNat) := by
  obtain ⟨i0, hi, hz0, hz1, hz2⟩ := info_parts info3
  go_enter Try.func67, Try.ntmps67
  go_wp2
  go_loopw [3, 4, 11] (fun b a i wr => ∃ (s best at' : Nat), s ≤ 12 ∧ i = .int .i64 s ∧ b = .int .i64 best ∧ a = .int .i64 at' ∧ Best f s s best at' ∧ Exts (w.alloc (.cells (matC f) 81)) wr) (fun _ _ i _ => 12 - (intOf i).toNat)
  case atStart => exact ⟨0, 13, 0, by omega, rfl, rfl, rfl, Best.start f, Exts.refl _⟩
  case round =>
    obtain ⟨s, best, at', hs, rfl, rfl, rfl, hb, x, rfl⟩ := hrel
    have HB := Lib.hid hb
    clear hb
    by_cases hlt : s < 12
    · go_wp2_with (first | (go_at_call 69; ((with_reducible refine (home41 f s hlt _).mono ?_); rintro e w' ⟨d, rfl, hd, x1, rfl⟩; (have HD := Lib.hid hd); clear hd)))
      go_loopw [3, 4, 7] (fun b a i wr => ∃ (v best at' : Nat), s ≤ v ∧ v ≤ 12 ∧ i = .int .i64 v ∧ b = .int .i64 best ∧ a = .int .i64 at' ∧ Best f s v best at' ∧ Exts ((wext (w.alloc (.cells (matC f) 81)) (x.and x1)).alloc (.cells (arrC d) 100)) wr) (fun _ _ i _ => 12 - (intOf i).toNat)
      case atStart => exact ⟨s, best, at', by omega, by omega, rfl, rfl, rfl, HB.out, Exts.refl _⟩
      case round =>
        clear HB
        obtain ⟨v, best, at', hsv, hv, rfl, rfl, rfl, hb, y, rfl⟩ := hrel
        have hb13 := hb.le
        have HB := Lib.hid hb
        clear hb
        by_cases hvlt : v < 12
        · have hdv := HD.out.le v hvlt
          cases hf : f s v with
          | false =>
            have HN := Lib.hid (HB.out.no HD.out hsv hvlt (.inl hf))
            go_wp2
            refine ⟨⟨v + 1, best, at', by omega, by omega, by go_num, rfl, rfl, HN.out, (by repeat (first | exact Exts.refl _ | apply Exts.andR | apply Exts.alloc | apply Exts.wext | apply Exts.drew | apply Exts.drewN))⟩, ?_⟩
            simp [intOf]; omega
          | true =>
            by_cases hm : d v + 1 < best
            · have hm' : decide ((d v : Int) + 1 < (best : Int)) = true := by simp; omega
              have HN := Lib.hid (HB.out.yes HD.out hsv hvlt hf hm)
              clear hm
              go_wp2
              refine ⟨⟨v + 1, d v + 1, s, by omega, by omega, by go_num, by go_num, rfl, HN.out, (by repeat (first | exact Exts.refl _ | apply Exts.andR | apply Exts.alloc | apply Exts.wext | apply Exts.drew | apply Exts.drewN))⟩, ?_⟩
              simp [intOf]; omega
            · have hm' : decide ((d v : Int) + 1 < (best : Int)) = false := by simp; omega
              have HN := Lib.hid (HB.out.no HD.out hsv hvlt (.inr hm))
              clear hm
              go_wp2
              refine ⟨⟨v + 1, best, at', by omega, by omega, by go_num, rfl, rfl, HN.out, (by repeat (first | exact Exts.refl _ | apply Exts.andR | apply Exts.alloc | apply Exts.wext | apply Exts.drew | apply Exts.drewN))⟩, ?_⟩
              simp [intOf]; omega
        · obtain rfl : v = 12 := by omega
          have HN := Lib.hid HB.out.row
          go_wp2
          refine ⟨⟨s + 1, best, at', by omega, by go_num, rfl, rfl, HN.out, (by repeat (first | exact Exts.refl _ | apply Exts.andR | apply Exts.alloc | apply Exts.wext | apply Exts.drew | apply Exts.drewN))⟩, ?_⟩
          simp [intOf]; omega
    · obtain rfl : s = 12 := by omega
      by_cases hb13 : best = 13
      · subst hb13
        have HR := Lib.hid HB.out.none
        go_wp2
        go_ret
        exact ⟨[], none, 0, rfl, .inl ⟨rfl, HR.out⟩, (by repeat (first | exact Exts.refl _ | apply Exts.andR | apply Exts.alloc | apply Exts.wext | apply Exts.drew | apply Exts.drewN)), RowF.nil _ _ _⟩
      · have hle := HB.out.le
        have hm := HB.out.min (by omega)
        have HM := Lib.hid hm
        have ha12 := hm.lt
        have hb12 := hm.le
        have q1 : ((best : Int) == 13) = false := by simp; omega
        have q2 : (best == 13) = false := by simpa using hb13
        clear hm
        go_wp2_with (first | (go_at_call 69; ((with_reducible refine (home41 f at' ha12 _).mono ?_); rintro e w' ⟨d, rfl, hd, x1, rfl⟩; (have HD := Lib.hid hd); clear hd)))
        go_loopg [9] best (fun k o wr => ∃ (C : List Nat) (last : Nat), CirPre f best at' d C last ∧ best - C.length ≤ k ∧ Exts w wr ∧ wr.ownsRow w.heap.size 3 1 o C.length (intsC (C.map Int.ofNat)) ∧ wr.heap[w.heap.size]? = some (.cells (matC f) 81 (0, 0)) ∧ wr.heap[w.heap.size + 1 + x.bs.size + x1.bs.size + 1]? = some (.cells (arrC d) 100 (0, 0)))
        case atStart =>
          refine ⟨[at'], at', CirPre.start HM.out, by simp, (by repeat (first | exact Exts.refl _ | apply Exts.andR | apply Exts.alloc | apply Exts.wext | apply Exts.drew | apply Exts.drewN)), ⟨by simp, .inr ⟨w.heap.size + 1 + x.bs.size + x1.bs.size, 1, #[.int .i64 at'], rfl, by omega, ?_, Nat.le_refl _, by decide, rfl, rfl⟩⟩, ?_, ?_⟩
          · rw [heap_alloc_if, if_pos (by simp), heap_alloc_if, if_neg (by simp), if_pos (by simp)]
          · rw [heap_alloc_if, if_pos (by simp; omega), heap_alloc_if, if_pos (by simp; omega), wext_heap_old _ _ _ (by simp), heap_alloc_if, if_neg (by omega), if_pos rfl]
          · rw [heap_alloc_if, if_neg (by simp), if_pos (by simp)]
        case round =>
          obtain ⟨C, last, hcp, hk, hwr, hown, hm0, hd0⟩ := hrel
          obtain ⟨q, hq⟩ : ∃ q, C.length = q + 1 := ⟨C.length - 1, by have := hcp.len; omega⟩
          obtain ⟨_, ⟨h1, _⟩ | ⟨g, cap, cur, rfl, hgb, hg, hcap, hmax, hcs, htk⟩⟩ := id hown
          · omega
          · have HCP := Lib.hid hcp
            have HO := Lib.hid hown
            have HWR := Lib.hid hwr
            have HQ := Lib.hid hq
            have hl12 := hcp.lt
            have hle := hcp.le
            have HK := Lib.hid hk
            have cl : wr.cell? ⟨g, q, none⟩ = some (.int .i64 last) := by
              have h2 := hcp.lst
              rw [hq, Nat.add_sub_cancel] at h2
              have h3 : (intsC (C.map Int.ofNat))[q]? = some (.int .i64 last) := by simp [intsC, h2]
              rw [← htk, List.getElem?_take_of_lt (by omega)] at h3
              rw [cell_of_row wr g q cur 3 (0, 0) hg]
              simpa using h3
            have lg : g < wr.heap.size := (Array.getElem?_eq_some_iff.1 hg).1
            have lm : w.heap.size < wr.heap.size := (Array.getElem?_eq_some_iff.1 hm0).1
            have ld : w.heap.size + 1 + x.bs.size + x1.bs.size + 1 < wr.heap.size := (Array.getElem?_eq_some_iff.1 hd0).1
            have HG := Lib.hid hg
            have HM0 := Lib.hid hm0
            have HGB := Lib.hid hgb
            have HD0 := Lib.hid hd0
            rw [hq] at hle ⊢
            clear hcp hown hwr hq hm0 hd0 hg hcs htk hk
            by_cases hlt : q + 1 < best
            · obtain ⟨c, hc1, hc2, hc3, hc4⟩ := HCP.out.ex HM.out HD.out (by rw [HQ.out]; exact hlt)
              rw [HQ.out] at hc4
              have HC3 := Lib.hid hc3
              have HC4 := Lib.hid hc4
              clear hc3 hc4
              go_wp2
              go_loopg [9, 10] 12 (fun k o i wr2 => ∃ v, at' ≤ v ∧ v ≤ c ∧ i = .int .i64 v ∧ o = .slice (some ⟨g, 0, none⟩) (q + 1) cap ∧ wr2 = wr ∧ 12 - v ≤ k ∧ ∀ z, at' ≤ z → z < v → ¬ (f last z = true ∧ d z = best - (q + 1)))
              case atStart => exact ⟨at', Nat.le_refl _, hc1, rfl, rfl, rfl, by omega, fun z h1 h2 => by omega⟩
              case round =>
                rename_i gk0 _ _ _ _ gk1 _ _ _ _ _ _
                obtain ⟨v, hv1, hv2, rfl, rfl, rfl, hvk, hin⟩ := hrel
                have HI := Lib.hid hin
                clear hin
                have hv12 : v < 12 := by omega
                have c1 : wr.cell? ⟨w.heap.size, last * 12 + v, none⟩ = some (.bool (f last v)) := by rw [cell_of_row _ _ _ _ _ _ HM0.out]; exact matC_get f last v hl12 hv12
                have c2 : wr.cell? ⟨w.heap.size + 1 + x.bs.size + x1.bs.size + 1, v, none⟩ = some (.int .i64 (d v)) := by rw [cell_of_row _ _ _ _ _ _ HD0.out]; exact arrC_get d v hv12
                cases hf : f last v with
                | false =>
                  have HF := Lib.hid hf
                  rw [hf] at c1
                  clear hf
                  go_wp2
                  go_roundg (12 - (v + 1))
                  case measure => omega
                  case rel =>
                    refine ⟨v + 1, by omega, ?_, by go_num, rfl, rfl, Nat.le_refl _, fun z h1 h2 => ?_⟩
                    · by_cases hvc : v = c
                      · rw [hvc, HC3.out] at HF
                        exact absurd HF.out (by simp)
                      · omega
                    · by_cases hz : z = v
                      · rw [hz]
                        rintro ⟨h3, h4⟩
                        rw [HF.out] at h3; cases h3
                      · exact HI.out z h1 (by omega)
                | true =>
                  have HF := Lib.hid hf
                  rw [hf] at c1
                  clear hf
                  by_cases he : d v = best - (q + 1)
                  · have q3 : ((d v : Int) == (best : Int) - ((q : Int) + 1)) = true := by simp; omega
                    have HN := Lib.hid (HCP.out.snoc HM.out HD.out (by rw [HQ.out]; exact hlt) ⟨hv1, hv12, HF.out, by rw [HQ.out]; exact he, by rw [HQ.out]; exact HI.out⟩)
                    clear he
                    go_wp2_with (at_builtin; refine wpList_append_lies _ rfl (.tmp 75) (.tmp 77) 24 rfl w.heap.size 3 i0 _ 1 8 Try.underlying24 hi hz0 hz1 hz2 rfl (by decide) (.slice (some ⟨g, 0, none⟩) (q + 1) cap) (q + 1) (intsC (C.map Int.ofNat)) rfl (ownsRow_exts (HQ.out ▸ HO.out) (by repeat (first | exact Exts.refl _ | apply Exts.andR | apply Exts.alloc | apply Exts.wext | apply Exts.drew | apply Exts.drewN))) ⟨_, 0, none⟩ 1 1 [.int .i64 v] rfl rfl (by intro j u hj; match j, hj with | 0, hj => (simp at hj; subst hj; simp [go_sem])) (int_one _) (by decide) (by unfold maxLen; omega) (by omega) (by simp; omega) _ rfl ?_; intro g2 cg w1 hown' hgrow hat hlt')
                    go_roundg (best - (q + 2))
                    case measure =>
                      have h1 := HK.out
                      rw [HQ.out] at h1
                      omega
                    case rel =>
                      have hlen : (C ++ [v]).length = q + 1 + 1 := by rw [List.length_append, HQ.out]; rfl
                      have hgm : g ≠ w.heap.size := fun hc => by
                        have h1 := HG.out
                        rw [hc, HM0.out] at h1
                        simp at h1
                      have hgd : g ≠ w.heap.size + 1 + x.bs.size + x1.bs.size + 1 := fun hc => by
                        have h1 := HG.out
                        rw [hc, HD0.out] at h1
                        simp at h1
                      refine ⟨C ++ [v], v, HN.out, by rw [hlen]; omega, exts_of_grown (W := w) (HWR.out.alloc _) hgrow (fun b hb => by cases hb; exact HGB.out), by rw [hlen, List.map_append, show intsC (List.map Int.ofNat C ++ List.map Int.ofNat [v]) = intsC (List.map Int.ofNat C) ++ [.int .i64 (v : Int)] by simp [intsC]]; exact hown', ?_, ?_⟩
                      · rw [hgrow.block _ (by simp; omega) (fun hc => by cases hc; exact hgm rfl), heap_alloc_if, if_pos lm]
                        exact HM0.out
                      · rw [hgrow.block _ (by simp; omega) (fun hc => by cases hc; exact hgd rfl), heap_alloc_if, if_pos ld]
                        exact HD0.out
                  · have q3 : ((d v : Int) == (best : Int) - ((q : Int) + 1)) = false := by simp; omega
                    have HE := Lib.hid he
                    clear he
                    go_wp2
                    go_roundg (12 - (v + 1))
                    case measure => omega
                    case rel =>
                      refine ⟨v + 1, by omega, ?_, by go_num, rfl, rfl, Nat.le_refl _, fun z h1 h2 => ?_⟩
                      · by_cases hvc : v = c
                        · rw [hvc, HC4.out] at HE
                          exact absurd rfl HE.out
                        · omega
                      · by_cases hz : z = v
                        · rw [hz]
                          rintro ⟨h3, h4⟩
                          exact HE.out h4
                        · exact HI.out z h1 (by omega)
            · have hqb : q + 1 = best := by omega
              go_wp2
              go_ret
              exact ⟨C, some ⟨g, 0, none⟩, cap, by rw [HQ.out]; rfl, .inr ⟨best, at', d, last, HM.out, HD.out, by rw [HQ.out]; exact hqb, HCP.out⟩, HWR.out, RowF.of_owns HO.out⟩
end Go.Proofs.Ytodgohilfbggjaa
