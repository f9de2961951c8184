/- Lemmas that the laws of this seat share, 4 texts in one: StepsPlain, RefValid, BackPlain, WayPlain. No condition of their own. -/
import Derived.Test.YtodgohilfbggjaaM7
import Derived.Test.YtodgohilfbggjaaM6
import Derived.Test.YtodgohilfbggjaaM4
import Derived.Deep.OwnRows
/- What is reached by exactly so many pairs, as FactorCircles computes it. Plain. -/
namespace Go.Proofs.Ytodgohilfbggjaa
open Go.RowKit
set_option linter.unusedSimpArgs false
set_option linter.unusedVariables false

theorem wk_last {f : Rel} {lo : Nat} : ∀ {n a b : Nat}, Wk f lo (n + 1) a b ↔ ∃ u, Wk f lo n a u ∧ f u b = true ∧ lo ≤ b ∧ b < 12
  | 0, a, b => by
    constructor
    · rintro ⟨c, h1, h2, h3, h4⟩
      have : c = b := h4
      subst this
      exact ⟨a, rfl, h3, h1, h2⟩
    · rintro ⟨u, h1, h2, h3, h4⟩
      have : a = u := h1
      subst this
      exact ⟨b, h3, h4, h2, rfl⟩
  | n + 1, a, b => by
    constructor
    · rintro ⟨c, h1, h2, h3, h4⟩
      obtain ⟨u, g1, g2⟩ := wk_last.1 h4
      exact ⟨u, ⟨c, h1, h2, h3, g1⟩, g2⟩
    · rintro ⟨u, ⟨c, h1, h2, h3, h4⟩, g⟩
      exact ⟨c, h1, h2, h3, wk_last.2 ⟨u, h4, g⟩⟩
open Classical in
/-- Reached from s by exactly n pairs. -/
noncomputable def nowN (f : Rel) (s n x : Nat) : Bool := decide (Wk f 0 n s x)
theorem nowN_iff {f : Rel} {s n x : Nat} : nowN f s n x = true ↔ Wk f 0 n s x := by simp [nowN]
theorem nowN_zero (f : Rel) (s x : Nat) : nowN f s 0 x = decide (x = s) := by
  rw [Bool.eq_iff_iff, nowN_iff, decide_eq_true_eq]
  exact ⟨fun h => (show s = x from h).symm, fun h => h.symm⟩
/-- After k pairs of the list. -/
noncomputable def nextK (ps : List Pr) (now : Nat → Bool) (k : Nat) (y : Nat) : Bool := (ps.take k).any fun p => p.2 == (y : Int) && now p.1.toNat
theorem nextK_next (ps : List Pr) (now : Nat → Bool) (k u v : Nat) (h : ps[k]? = some ((u : Int), (v : Int))) (y : Nat) : nextK ps now (k + 1) y = (if y = v then nextK ps now k y || now u else nextK ps now k y) := by
  unfold nextK
  rw [List.take_add_one, h, List.any_append]
  by_cases hy : y = v
  · rw [if_pos hy]
    simp [hy]
  · rw [if_neg hy]
    have : ((v : Int) == (y : Int)) = false := by simp; omega
    simp [this]
theorem next_all (ps : List Pr) (s n y : Nat) (hin : ∀ p ∈ ps, 0 ≤ p.1 ∧ 0 ≤ p.2 ∧ p.2 < 12) : nextK ps (nowN (pairRel ps) s n) ps.length y = nowN (pairRel ps) s (n + 1) y := by
  rw [Bool.eq_iff_iff, nowN_iff, wk_last]
  unfold nextK
  rw [List.take_of_length_le (Nat.le_refl _)]
  simp only [List.any_eq_true, Bool.and_eq_true, beq_iff_eq, nowN_iff]
  constructor
  · rintro ⟨p, hp, h1, h2⟩
    have := hin p hp
    refine ⟨p.1.toNat, h2, ?_, Nat.zero_le _, by omega⟩
    simp only [pairRel, List.any_eq_true, Bool.and_eq_true, beq_iff_eq]
    exact ⟨p, hp, by omega, h1⟩
  · rintro ⟨u, h1, h2, _, h3⟩
    simp only [pairRel, List.any_eq_true, Bool.and_eq_true, beq_iff_eq] at h2
    obtain ⟨p, hp, e1, e2⟩ := h2
    exact ⟨p, hp, e2, by rw [e1]; simpa using h1⟩
end Go.Proofs.Ytodgohilfbggjaa

/- Valid of the reference of chapter 38. No condition. -/
namespace Go.Proofs.Ytodgohilfbggjaa
open Go.RowKit
set_option linter.unusedSimpArgs false
set_option linter.unusedVariables false
set_option maxRecDepth 100000
set_option maxHeartbeats 2000000
theorem refValid27 {S : Nat → Prop} (V : Int) (po : Option Addr) (n c : Nat) (ps : List Pr) (w : World) (h : Prs S w po n c ps) :
    Calls Try.prog 57 #[.agg #[.int .i64 V, .slice po n c]] w fun e w' => e = .returned (.bool (validB V ps)) ∧ Exts w w' := by
  have hl := h.len
  have hm := h.nle
  unfold maxLen at hm
  have H := Lib.hid h
  have HL := Lib.hid hl
  by_cases h1 : 1 ≤ V
  · have b1 : decide (V < 1) = false := by simp; omega
    by_cases h2 : V ≤ 12
    · have b2 : decide (12 < V) = false := by simp; omega
      by_cases h3 : n ≤ 144
      · have b3 : decide ((144 : Int) < (n : Int)) = false := by simp; omega
        clear h hl
        go_enter Try.func57, Try.ntmps57
        go_wp2
        go_loopw [3] (fun i wr => ∃ (k : Nat), k ≤ n ∧ i = .int .i64 k ∧ Exts (w.alloc (.cells #[.int .i64 V, .slice po n c] 52)) wr ∧ ∀ p ∈ ps.take k, prIn V p = true) (fun i _ => n - (intOf i).toNat)
        case atStart => exact ⟨0, by omega, rfl, Exts.refl _, by simp⟩
        case round =>
          obtain ⟨k, hk, rfl, ⟨x, rfl⟩, hin⟩ := hrel
          have HI := Lib.hid hin
          clear hin
          by_cases hlt : k < n
          · obtain ⟨b, off, ⟨p1, p2⟩, rfl, hb, hp, e0, e1⟩ := H.out.get hlt
            simp only at e0 e1
            have HP := Lib.hid hp
            clear hp
            by_cases q1 : p1 < 0
            · have c1 : decide (p1 < 0) = true := by simpa using q1
              have HR := Lib.hid (valid_no (V := V) (List.mem_of_getElem? HP.out) (by simp [prIn]; omega))
              go_wp2
              go_ret
              exact ⟨by rw [HR.out]; rfl, (by repeat (first | exact Exts.refl _ | apply Exts.andR | apply Exts.alloc | apply Exts.wext | apply Exts.drew | apply Exts.drewN))⟩
            · have c1 : decide (p1 < 0) = false := by simpa using q1
              by_cases q2 : V ≤ p1
              · have c2 : decide (V ≤ p1) = true := by simpa using q2
                have HR := Lib.hid (valid_no (V := V) (List.mem_of_getElem? HP.out) (by simp [prIn]; omega))
                go_wp2
                go_ret
                exact ⟨by rw [HR.out]; rfl, (by repeat (first | exact Exts.refl _ | apply Exts.andR | apply Exts.alloc | apply Exts.wext | apply Exts.drew | apply Exts.drewN))⟩
              · have c2 : decide (V ≤ p1) = false := by simpa using q2
                by_cases q3 : p2 < 0
                · have c3 : decide (p2 < 0) = true := by simpa using q3
                  have HR := Lib.hid (valid_no (V := V) (List.mem_of_getElem? HP.out) (by simp [prIn]; omega))
                  go_wp2
                  go_ret
                  exact ⟨by rw [HR.out]; rfl, (by repeat (first | exact Exts.refl _ | apply Exts.andR | apply Exts.alloc | apply Exts.wext | apply Exts.drew | apply Exts.drewN))⟩
                · have c3 : decide (p2 < 0) = false := by simpa using q3
                  by_cases q4 : V ≤ p2
                  · have c4 : decide (V ≤ p2) = true := by simpa using q4
                    have HR := Lib.hid (valid_no (V := V) (List.mem_of_getElem? HP.out) (by simp [prIn]; omega))
                    go_wp2
                    go_ret
                    exact ⟨by rw [HR.out]; rfl, (by repeat (first | exact Exts.refl _ | apply Exts.andR | apply Exts.alloc | apply Exts.wext | apply Exts.drew | apply Exts.drewN))⟩
                  · have c4 : decide (V ≤ p2) = false := by simpa using q4
                    have HQ := Lib.hid (show prIn V (p1, p2) = true by simp [prIn]; omega)
                    go_wp2
                    refine ⟨⟨k + 1, by omega, by go_num, (by repeat (first | exact Exts.refl _ | apply Exts.andR | apply Exts.alloc | apply Exts.wext | apply Exts.drew | apply Exts.drewN)), fun q hq => ?_⟩, ?_⟩
                    · rw [List.take_add_one, HP.out, List.mem_append] at hq
                      rcases hq with hq | hq
                      · exact HI.out q hq
                      · simp at hq
                        rw [hq]
                        exact HQ.out
                    · simp [intOf]; omega
          · obtain rfl : k = n := by omega
            have htk : ps.take k = ps := List.take_of_length_le (by rw [HL.out]; exact Nat.le_refl _)
            have HR := Lib.hid (show validB V ps = true by
              have := HI.out
              rw [htk] at this
              have hlen := HL.out
              simp only [validB, Bool.and_eq_true, decide_eq_true_eq, List.all_eq_true]
              exact ⟨⟨h1, h2⟩, by omega, this⟩)
            clear htk
            go_wp2
            go_ret
            exact ⟨by rw [HR.out]; rfl, (by repeat (first | exact Exts.refl _ | apply Exts.andR | apply Exts.alloc | apply Exts.wext | apply Exts.drew | apply Exts.drewN))⟩
      · have b3 : decide ((144 : Int) < (n : Int)) = true := by simp; omega
        have HR := Lib.hid (valid_bad (V := V) (ps := ps) (by omega))
        clear h hl
        go_enter Try.func57, Try.ntmps57
        go_wp2
        go_ret
        exact ⟨by rw [HR.out]; rfl, (by repeat (first | exact Exts.refl _ | apply Exts.andR | apply Exts.alloc | apply Exts.wext | apply Exts.drew | apply Exts.drewN))⟩
    · have b2 : decide (12 < V) = true := by simp; omega
      have HR := Lib.hid (valid_bad (V := V) (ps := ps) (by omega))
      clear h hl
      go_enter Try.func57, Try.ntmps57
      go_wp2
      go_ret
      exact ⟨by rw [HR.out]; rfl, (by repeat (first | exact Exts.refl _ | apply Exts.andR | apply Exts.alloc | apply Exts.wext | apply Exts.drew | apply Exts.drewN))⟩
  · have b1 : decide (V < 1) = true := by simp; omega
    have HR := Lib.hid (valid_bad (V := V) (ps := ps) (by omega))
    clear h hl
    go_enter Try.func57, Try.ntmps57
    go_wp2
    go_ret
    exact ⟨by rw [HR.out]; rfl, (by repeat (first | exact Exts.refl _ | apply Exts.andR | apply Exts.alloc | apply Exts.wext | apply Exts.drew | apply Exts.drewN))⟩
end Go.Proofs.Ytodgohilfbggjaa

/- The least way back, value by value and length by length. Plain. -/
namespace Go.Proofs.Ytodgohilfbggjaa
open Go.RowKit
set_option linter.unusedSimpArgs false
set_option linter.unusedVariables false

/-- What has been looked at: all lengths up to m for values below k, the lengths below n for k. -/
def Looked (m k n s j : Nat) : Prop := 1 ≤ j ∧ (s < k ∧ j ≤ m ∨ s = k ∧ j < n)
structure BackTo (f : Rel) (m k n bk : Nat) : Prop where
  le : bk ≤ m
  none : bk = 0 → ∀ s j, Looked m k n s j → ¬ Wk f 0 j s s
  some : bk ≠ 0 → (∃ s, s < m ∧ Wk f 0 bk s s) ∧ ∀ s j, Looked m k n s j → Wk f 0 j s s → bk ≤ j
theorem back_start (f : Rel) (m : Nat) : BackTo f m 0 1 0 :=
  ⟨Nat.zero_le _, fun _ s j h => by obtain ⟨h1, h2⟩ := h; omega, fun h => absurd rfl h⟩
theorem back_next {f : Rel} {m k bk : Nat} (h : BackTo f m k (m + 1) bk) : BackTo f m (k + 1) 1 bk := by
  have key : ∀ s j, Looked m (k + 1) 1 s j → Looked m k (m + 1) s j := fun s j ⟨h1, h2⟩ => ⟨h1, by omega⟩
  exact ⟨h.le, fun h0 s j hl => h.none h0 s j (key s j hl), fun h0 => ⟨(h.some h0).1, fun s j hl => (h.some h0).2 s j (key s j hl)⟩⟩
theorem back_end {f : Rel} {m bk : Nat} (h : BackTo f m m 1 bk) : BackIs f m bk := by
  have key : ∀ s j, s < m → 1 ≤ j → j ≤ m → Looked m m 1 s j := fun s j h1 h2 h3 => ⟨h2, .inl ⟨h1, h3⟩⟩
  exact ⟨fun h0 s j h1 h2 h3 => h.none h0 s j (key s j h1 h2 h3), fun h0 => ⟨(h.some h0).1, fun s j h1 h2 h3 => (h.some h0).2 s j (key s j h1 h2 h3)⟩⟩
theorem looked_next {m k n s j : Nat} (h : Looked m k (n + 1) s j) : Looked m k n s j ∨ (s = k ∧ j = n) := by
  obtain ⟨h1, h2⟩ := h
  by_cases hj : s = k ∧ j = n
  · exact .inr hj
  · exact .inl ⟨h1, by omega⟩
theorem back_set {f : Rel} {m k n bk : Nat} (h : BackTo f m k n bk) (hk : k < m) (hn : n ≤ m) (h1 : 1 ≤ n) (hw : nowN f k n k = true) (hb : bk = 0 ∨ n < bk) : BackTo f m k (n + 1) n := by
  refine ⟨hn, fun h0 => by omega, fun _ => ⟨⟨k, hk, nowN_iff.1 hw⟩, fun s j hl hj => ?_⟩⟩
  rcases looked_next hl with hl | ⟨_, rfl⟩
  · by_cases h0 : bk = 0
    · exact absurd hj (h.none h0 s j hl)
    · have := (h.some h0).2 s j hl hj
      omega
  · exact Nat.le_refl _
theorem back_keep {f : Rel} {m k n bk : Nat} (h : BackTo f m k n bk) (hw : nowN f k n k = false ∨ (bk ≠ 0 ∧ bk ≤ n)) : BackTo f m k (n + 1) bk := by
  refine ⟨h.le, fun h0 s j hl hj => ?_, fun h0 => ⟨(h.some h0).1, fun s j hl hj => ?_⟩⟩
  · rcases looked_next hl with hl | ⟨rfl, rfl⟩
    · exact h.none h0 s j hl hj
    · rcases hw with hw | ⟨hw, _⟩
      · rw [nowN_iff.2 hj] at hw; cases hw
      · exact hw h0
  · rcases looked_next hl with hl | ⟨rfl, rfl⟩
    · exact (h.some h0).2 s j hl hj
    · rcases hw with hw | ⟨_, hw⟩
      · rw [nowN_iff.2 hj] at hw; cases hw
      · exact hw
def hasP (ps : List Pr) (a b : Int) : Bool := ps.any fun p => p.1 == a && p.2 == b
theorem info4b : (Try.prog.info? 4).map (fun i => (i.zero, i.size, i.bytes)) = some (some (.bool false), 1, 1) := by kernel_rfl
def updB (g : Nat → Bool) (i : Nat) (v : Bool) : Nat → Bool := fun y => if y = i then v else g y
/-- A row of so many bools. -/
def boolC (g : Nat → Bool) (m : Nat) : Array Value := ((List.range m).map fun i => .bool (g i)).toArray
@[simp, go_sem] theorem boolC_size (g : Nat → Bool) (m : Nat) : (boolC g m).size = m := by simp [boolC]
@[go_sem] theorem boolC_get (g : Nat → Bool) (m i : Nat) (h : i < m) : (boolC g m)[i]? = some (.bool (g i)) := by simp [boolC, h]
@[simp, go_sem] theorem boolC_elem (g : Nat → Bool) (m i : Nat) (h : i < (boolC g m).size) : (boolC g m)[i] = .bool (g i) := by simp [boolC]
@[go_sem] theorem boolC_set (g : Nat → Bool) (m i : Nat) (v : Bool) : (boolC g m).setIfInBounds i (.bool v) = boolC (updB g i v) m := by
  apply Array.ext_getElem?
  intro y
  rw [Array.getElem?_setIfInBounds]
  by_cases hi : i = y
  · subst hi
    rw [if_pos rfl]
    by_cases h : i < m
    · rw [if_pos (by simpa using h), boolC_get _ _ _ h]
      simp [updB]
    · rw [if_neg (by simpa using h), Array.getElem?_eq_none (by simpa using Nat.le_of_not_lt h)]
  · rw [if_neg hi]
    by_cases h : y < m
    · rw [boolC_get _ _ _ h, boolC_get _ _ _ h]
      unfold updB
      rw [if_neg (fun hc => hi hc.symm)]
    · rw [Array.getElem?_eq_none (by simpa using Nat.le_of_not_lt h), Array.getElem?_eq_none (by simpa using Nat.le_of_not_lt h)]
theorem boolC_ext {g g' : Nat → Bool} {m : Nat} (h : ∀ i, i < m → g i = g' i) : boolC g m = boolC g' m := by
  unfold boolC
  congr 1
  apply List.map_congr_left
  intro i hi
  rw [h i (List.mem_range.1 hi)]
@[go_sem] theorem made_bools (m : Nat) : madeCells #[.bool false] m = boolC (fun _ => false) m := by
  apply Array.ext_getElem?
  intro y
  by_cases h : y < m
  · rw [boolC_get _ _ _ h]
    simp [madeCells, h, Nat.mod_one]
  · rw [Array.getElem?_eq_none (by rw [size_madeCells]; omega), Array.getElem?_eq_none (by rw [boolC_size]; omega)]
theorem now_start (f : Rel) (s m : Nat) : boolC (updB (fun _ => false) s true) m = boolC (nowN f s 0) m := boolC_ext fun i _ => by
  rw [nowN_zero]
  by_cases h : i = s <;> simp [updB, h]
theorem next_start (ps : List Pr) (now : Nat → Bool) (m : Nat) : boolC (fun _ => false) m = boolC (nextK ps now 0) m := boolC_ext fun i _ => by simp [nextK]
theorem next_step (ps : List Pr) (now : Nat → Bool) (m k u v : Nat) (h : ps[k]? = some ((u : Int), (v : Int))) : boolC (updB (nextK ps now k) v (nextK ps now k v || now u)) m = boolC (nextK ps now (k + 1)) m := boolC_ext fun i _ => by
  unfold updB
  rw [nextK_next ps now k u v h]
  by_cases hi : i = v
  · rw [hi]
  · rw [if_neg hi, if_neg hi]
theorem next_end (ps : List Pr) (s n m : Nat) (hin : ∀ p ∈ ps, 0 ≤ p.1 ∧ 0 ≤ p.2 ∧ p.2 < 12) : boolC (nextK ps (nowN (pairRel ps) s n) ps.length) m = boolC (nowN (pairRel ps) s (n + 1)) m := boolC_ext fun i _ => next_all ps s n i hin
end Go.Proofs.Ytodgohilfbggjaa

/- The fewest pairs that lead from one value to another, as the reference searches it breadth first. Plain. -/
namespace Go.Proofs.Ytodgohilfbggjaa
open Go.RowKit
set_option linter.unusedSimpArgs false
set_option linter.unusedVariables false

/-- The fewest pairs, at least one, at most m; 0 if there is no such way. -/
def WayIs (f : Rel) (m lo a b n : Nat) : Prop := (n = 0 ∧ ∀ j, 1 ≤ j → j ≤ m → ¬ Wk f lo j a b) ∨ (1 ≤ n ∧ n ≤ m ∧ Wk f lo n a b ∧ ∀ j, 1 ≤ j → j < n → ¬ Wk f lo j a b)
theorem WayIs.unique {f : Rel} {m lo a b n n' : Nat} (h : WayIs f m lo a b n) (h' : WayIs f m lo a b n') : n = n' := by
  rcases h with ⟨rfl, h1⟩ | ⟨h1, h2, h3, h4⟩ <;> rcases h' with ⟨rfl, g1⟩ | ⟨g1, g2, g3, g4⟩
  · rfl
  · exact absurd g3 (h1 _ g1 g2)
  · exact absurd h3 (g1 _ h1 h2)
  · by_cases hlt : n < n'
    · exact absurd h3 (g4 n h1 hlt)
    · by_cases hlt2 : n' < n
      · exact absurd g3 (h4 n' g1 hlt2)
      · omega
theorem wayIs_ex (f : Rel) (m lo a b : Nat) : ∃ n, WayIs f m lo a b n := by
  by_cases h : ∃ j, 1 ≤ j ∧ j ≤ m ∧ Wk f lo j a b
  · obtain ⟨j, h1, h2, h3⟩ := h
    have key : ∀ k j, j ≤ k → 1 ≤ j → j ≤ m → Wk f lo j a b → ∃ n, WayIs f m lo a b n := by
      intro k
      induction k with
      | zero => intro j h1 h2; omega
      | succ k ih =>
        intro j h1 h2 h3 h4
        by_cases hl : ∃ i, 1 ≤ i ∧ i < j ∧ Wk f lo i a b
        · obtain ⟨i, g1, g2, g3⟩ := hl
          exact ih i (by omega) g1 (by omega) g3
        · exact ⟨j, .inr ⟨h2, h3, h4, fun i g1 g2 g3 => hl ⟨i, g1, g2, g3⟩⟩⟩
    exact key j j (Nat.le_refl _) h1 h2 h3
  · exact ⟨0, .inl ⟨rfl, fun j h1 h2 h3 => h ⟨j, h1, h2, h3⟩⟩⟩
noncomputable def wayN (f : Rel) (m lo a b : Nat) : Nat := Classical.choose (wayIs_ex f m lo a b)
theorem wayN_is (f : Rel) (m lo a b : Nat) : WayIs f m lo a b (wayN f m lo a b) := Classical.choose_spec (wayIs_ex f m lo a b)
theorem wayN_eq {f : Rel} {m lo a b n : Nat} (h : WayIs f m lo a b n) : wayN f m lo a b = n := (wayN_is f m lo a b).unique h
theorem wayN_le (f : Rel) (m lo a b : Nat) : wayN f m lo a b ≤ m := by
  rcases wayN_is f m lo a b with ⟨h, _⟩ | ⟨_, h, _⟩ <;> omega
theorem wayN_wk {f : Rel} {m lo a b : Nat} (h : 0 < wayN f m lo a b) : Wk f lo (wayN f m lo a b) a b := by
  rcases wayN_is f m lo a b with ⟨h1, _⟩ | ⟨_, _, h1, _⟩
  · omega
  · exact h1
theorem wayN_low {f : Rel} {m lo a b j : Nat} (h1 : 1 ≤ j) (h2 : j ≤ m) (h : Wk f lo j a b) : 0 < wayN f m lo a b ∧ wayN f m lo a b ≤ j := by
  rcases wayN_is f m lo a b with ⟨_, g⟩ | ⟨g1, g2, _, g4⟩
  · exact absurd h (g j h1 h2)
  · refine ⟨g1, ?_⟩
    refine Classical.byContradiction fun hc => g4 j h1 (by omega) h

/-- What the walk has ahead of round n: the values of the level, and all that were seen. -/
structure Lvl (f : Rel) (m lo a b n : Nat) (S : Nat → Bool) (L : List Nat) : Prop where
  pos : 1 ≤ n
  ins : ∀ v, v ∈ L ↔ (n = 1 ∧ v = a) ∨ (2 ≤ n ∧ Wk f lo (n - 1) a v ∧ ∀ i, 1 ≤ i → i < n - 1 → ¬ Wk f lo i a v)
  seen : ∀ v, v < m → (S v = true ↔ ∃ j, 1 ≤ j ∧ j < n ∧ Wk f lo j a v)
  nob : ∀ j, 1 ≤ j → j < n → ¬ Wk f lo j a b
  lt : ∀ v ∈ L, v < m
  nd : L.Nodup
theorem Lvl.start (f : Rel) {m a : Nat} (lo b : Nat) (ha : a < m) : Lvl f m lo a b 1 (fun _ => false) [a] where
  pos := Nat.le_refl _
  ins := fun v => by
    simp only [List.mem_singleton]
    constructor
    · intro h; exact .inl ⟨by trivial, h⟩
    · rintro (⟨_, h⟩ | ⟨h, _⟩)
      · exact h
      · omega
  seen := fun v _ => by
    constructor
    · intro h; cases h
    · rintro ⟨j, h1, h2, _⟩; omega
  nob := fun j h1 h2 => by omega
  lt := fun v h => by rw [List.mem_singleton] at h; omega
  nd := by simp
/-- What round n has found so far: of the first i values of the level all, of the next one those below v. -/
def New (f : Rel) (lo : Nat) (L : List Nat) (i v x : Nat) : Prop := lo ≤ x ∧ ((∃ i' u, i' < i ∧ L[i']? = some u ∧ f u x = true) ∨ (∃ u, L[i]? = some u ∧ f u x = true ∧ x < v))
structure Mid (f : Rel) (m lo b : Nat) (S0 : Nat → Bool) (L : List Nat) (i v : Nat) (S : Nat → Bool) (N : List Nat) : Prop where
  seen : ∀ x, x < m → (S x = true ↔ S0 x = true ∨ New f lo L i v x)
  ins : ∀ x, x ∈ N ↔ x < m ∧ S0 x = false ∧ New f lo L i v x
  nd : N.Nodup
  nob : ¬ New f lo L i v b
theorem Mid.start (f : Rel) (m lo b : Nat) (S0 : Nat → Bool) (L : List Nat) : Mid f m lo b S0 L 0 lo S0 [] where
  seen := fun x _ => by
    constructor
    · intro h; exact .inl h
    · rintro (h | ⟨h0, ⟨i', u, h, _⟩ | ⟨u, _, _, h⟩⟩)
      · exact h
      · omega
      · omega
  ins := fun x => by
    constructor
    · intro h; cases h
    · rintro ⟨_, _, h0, ⟨i', u, h, _⟩ | ⟨u, _, _, h⟩⟩
      · omega
      · omega
  nd := by simp
  nob := by
    rintro ⟨h0, ⟨i', u, h, _⟩ | ⟨u, _, _, h⟩⟩ <;> omega
theorem New.step {f : Rel} {lo : Nat} {L : List Nat} {i v x u : Nat} (hu : L[i]? = some u) : New f lo L i (v + 1) x ↔ New f lo L i v x ∨ (x = v ∧ lo ≤ v ∧ f u v = true) := by
  constructor
  · rintro ⟨h0, h | ⟨u', h1, h2, h3⟩⟩
    · exact .inl ⟨h0, .inl h⟩
    · by_cases hx : x = v
      · rw [hu] at h1
        cases h1
        subst hx
        exact .inr ⟨rfl, h0, h2⟩
      · exact .inl ⟨h0, .inr ⟨u', h1, h2, by omega⟩⟩
  · rintro (⟨h0, h | ⟨u', h1, h2, h3⟩⟩ | ⟨rfl, h0, h2⟩)
    · exact ⟨h0, .inl h⟩
    · exact ⟨h0, .inr ⟨u', h1, h2, by omega⟩⟩
    · exact ⟨h0, .inr ⟨u, hu, h2, by omega⟩⟩
theorem Mid.no {f : Rel} {m lo b : Nat} {S0 : Nat → Bool} {L : List Nat} {i v u : Nat} {S : Nat → Bool} {N : List Nat} (h : Mid f m lo b S0 L i v S N) (hu : L[i]? = some u) (hf : f u v = false) : Mid f m lo b S0 L i (v + 1) S N := by
  have key : ∀ x, New f lo L i (v + 1) x ↔ New f lo L i v x := fun x => by
    rw [New.step hu]
    constructor
    · rintro (h | ⟨_, _, h⟩)
      · exact h
      · rw [hf] at h; cases h
    · exact .inl
  exact ⟨fun x hx => by rw [key]; exact h.seen x hx, fun x => by rw [key]; exact h.ins x, h.nd, by rw [key]; exact h.nob⟩
theorem Mid.old {f : Rel} {m lo b : Nat} {S0 : Nat → Bool} {L : List Nat} {i v u : Nat} {S : Nat → Bool} {N : List Nat} (h : Mid f m lo b S0 L i v S N) (hu : L[i]? = some u) (hf : f u v = true) (hl : lo ≤ v) (hv : v < m) (hb : v ≠ b) (hs : S v = true) : Mid f m lo b S0 L i (v + 1) S N := by
  have hs2 := (h.seen v hv).1 hs
  refine ⟨fun x hx => ?_, fun x => ?_, h.nd, ?_⟩
  · rw [New.step hu, h.seen x hx]
    constructor
    · rintro (h | h)
      · exact .inl h
      · exact .inr (.inl h)
    · rintro (h | h | ⟨rfl, _⟩)
      · exact .inl h
      · exact .inr h
      · exact hs2
  · rw [New.step hu, h.ins x]
    constructor
    · rintro ⟨h1, h2, h3⟩
      exact ⟨h1, h2, .inl h3⟩
    · rintro ⟨h1, h2, h3 | ⟨rfl, _⟩⟩
      · exact ⟨h1, h2, h3⟩
      · rcases hs2 with h3 | h3
        · rw [h2] at h3; cases h3
        · exact ⟨h1, h2, h3⟩
  · rw [New.step hu]
    rintro (h1 | ⟨h1, _⟩)
    · exact h.nob h1
    · exact hb h1.symm
theorem Mid.add {f : Rel} {m lo b : Nat} {S0 : Nat → Bool} {L : List Nat} {i v u : Nat} {S : Nat → Bool} {N : List Nat} (h : Mid f m lo b S0 L i v S N) (hu : L[i]? = some u) (hf : f u v = true) (hl : lo ≤ v) (hv : v < m) (hb : v ≠ b) (hs : S v = false) : Mid f m lo b S0 L i (v + 1) (updB S v true) (N ++ [v]) := by
  have hs2 : ¬ (S0 v = true ∨ New f lo L i v v) := fun hc => by
    rw [(h.seen v hv).2 hc] at hs; cases hs
  refine ⟨fun x hx => ?_, fun x => ?_, ?_, ?_⟩
  · rw [New.step hu]
    by_cases hxv : x = v
    · subst hxv
      exact ⟨fun _ => .inr (.inr ⟨rfl, hl, hf⟩), fun _ => by simp [updB]⟩
    · rw [show updB S v true x = S x by simp [updB, hxv], h.seen x hx]
      constructor
      · rintro (h | h)
        · exact .inl h
        · exact .inr (.inl h)
      · rintro (h | h | ⟨rfl, _⟩)
        · exact .inl h
        · exact .inr h
        · exact absurd rfl hxv
  · rw [New.step hu, List.mem_append, h.ins x, List.mem_singleton]
    constructor
    · rintro (⟨h1, h2, h3⟩ | rfl)
      · exact ⟨h1, h2, .inl h3⟩
      · refine ⟨hv, ?_, .inr ⟨rfl, hl, hf⟩⟩
        cases h0 : S0 x
        · rfl
        · exact absurd (.inl h0) hs2
    · rintro ⟨h1, h2, h3 | ⟨rfl, _⟩⟩
      · exact .inl ⟨h1, h2, h3⟩
      · exact .inr rfl
  · rw [List.nodup_append]
    refine ⟨h.nd, by simp, fun x hx y hy => ?_⟩
    rw [List.mem_singleton] at hy
    subst hy
    intro hc
    subst hc
    exact hs2 (.inr ((h.ins x).1 hx).2.2)
  · rw [New.step hu]
    rintro (h1 | ⟨h1, _⟩)
    · exact h.nob h1
    · exact hb h1.symm
theorem Mid.row {f : Rel} {m lo b : Nat} {S0 : Nat → Bool} {L : List Nat} {i v u : Nat} {S : Nat → Bool} {N : List Nat} (h : Mid f m lo b S0 L i v S N) (hu : L[i]? = some u) (hv : v = m ∨ (m ≤ v)) (hin : ∀ x y, f x y = true → x < m ∧ y < m) : Mid f m lo b S0 L (i + 1) lo S N := by
  have key : ∀ x, New f lo L (i + 1) lo x ↔ New f lo L i v x := fun x => by
    constructor
    · rintro ⟨h0, ⟨i', u', h1, h2, h3⟩ | ⟨u', _, _, h3⟩⟩
      · by_cases hi : i' = i
        · subst hi
          exact ⟨h0, .inr ⟨u', h2, h3, by have := (hin _ _ h3).2; omega⟩⟩
        · exact ⟨h0, .inl ⟨i', u', by omega, h2, h3⟩⟩
      · omega
    · rintro ⟨h0, ⟨i', u', h1, h2, h3⟩ | ⟨u', h1, h2, _⟩⟩
      · exact ⟨h0, .inl ⟨i', u', by omega, h2, h3⟩⟩
      · exact ⟨h0, .inl ⟨i, u', by omega, h1, h2⟩⟩
  exact ⟨fun x hx => by rw [key]; exact h.seen x hx, fun x => by rw [key]; exact h.ins x, h.nd, by rw [key]; exact h.nob⟩
/-- A pair out of the level into b: found. -/
theorem Lvl.found {f : Rel} {m lo a b n : Nat} {S : Nat → Bool} {L : List Nat} (h : Lvl f m lo a b n S L) (hn : n ≤ m) (hm : m ≤ 12) {u : Nat} (hu : u ∈ L) (hf : f u b = true) (hl : lo ≤ b) (hb : b < m) : wayN f m lo a b = n := by
  refine wayN_eq (.inr ⟨h.pos, hn, ?_, h.nob⟩)
  have hp := h.pos
  obtain ⟨q, rfl⟩ : ∃ q, n = q + 1 := ⟨n - 1, by omega⟩
  rw [wk_last]
  refine ⟨u, ?_, hf, hl, by omega⟩
  rcases (h.ins u).1 hu with ⟨h1, rfl⟩ | ⟨_, h1, _⟩
  · obtain rfl : q = 0 := by omega
    rfl
  · simpa using h1
theorem Lvl.next {f : Rel} {m lo a b n : Nat} {S0 S : Nat → Bool} {L N : List Nat} {i v : Nat} (h : Lvl f m lo a b n S0 L) (hm : m ≤ 12) (h2 : Mid f m lo b S0 L i v S N) (hi : i = L.length) (hin : ∀ x y, f x y = true → x < m ∧ y < m) : Lvl f m lo a b (n + 1) S N := by
  subst hi
  have hp := h.pos
  have hLev : ∀ u, u ∈ L → Wk f lo (n - 1) a u := fun u hu => by
    rcases (h.ins u).1 hu with ⟨rfl, rfl⟩ | ⟨_, h1, _⟩
    · rfl
    · exact h1
  have new1 : ∀ x, New f lo L L.length v x → Wk f lo n a x := fun x hx => by
    obtain ⟨h0, ⟨i', u, h1, h2, h3⟩ | ⟨u, h1, _⟩⟩ := hx
    · have := hLev u (List.mem_of_getElem? h2)
      obtain ⟨q, rfl⟩ : ∃ q, n = q + 1 := ⟨n - 1, by omega⟩
      rw [wk_last]
      exact ⟨u, by simpa using this, h3, h0, by have := (hin _ _ h3).2; omega⟩
    · rw [List.getElem?_eq_none (Nat.le_refl _)] at h1; cases h1
  have new2 : ∀ x, Wk f lo n a x → (∀ j, 1 ≤ j → j < n → ¬ Wk f lo j a x) → New f lo L L.length v x := fun x hx hj => by
    obtain ⟨q, rfl⟩ : ∃ q, n = q + 1 := ⟨n - 1, by omega⟩
    obtain ⟨u, g1, g2, g3, g4⟩ := wk_last.1 hx
    have hu : u ∈ L := by
      refine (h.ins u).2 ?_
      by_cases hq : q = 0
      · subst hq
        exact .inl ⟨rfl, (show a = u from g1).symm⟩
      · refine .inr ⟨by omega, by simpa using g1, fun i h1 h2 h3 => ?_⟩
        exact hj (i + 1) (by omega) (by omega) (wk_last.2 ⟨u, h3, g2, g3, g4⟩)
    obtain ⟨i', hi'⟩ := List.getElem?_of_mem hu
    exact ⟨g3, .inl ⟨i', u, (List.getElem?_eq_some_iff.1 hi').1, hi', g2⟩⟩
  refine ⟨by omega, fun x => ?_, fun x hx => ?_, fun j h1 h3 hj => ?_, fun x hx => ((h2.ins x).1 hx).1, h2.nd⟩
  · rw [h2.ins x]
    constructor
    · rintro ⟨g1, g2, g3⟩
      refine .inr ⟨by omega, by simpa using new1 x g3, fun j q1 q2 q3 => ?_⟩
      have := (h.seen x g1).2 ⟨j, q1, by omega, q3⟩
      rw [g2] at this; cases this
    · rintro (⟨g1, _⟩ | ⟨_, g1, g2⟩)
      · omega
      · rw [Nat.add_sub_cancel] at g1 g2
        have hxm : x < m := by
          obtain ⟨q, rfl⟩ : ∃ q, n = q + 1 := ⟨n - 1, by omega⟩
          obtain ⟨u, _, q2, _⟩ := wk_last.1 g1
          exact (hin _ _ q2).2
        refine ⟨hxm, ?_, new2 x g1 fun j q1 q2 => g2 j q1 q2⟩
        cases hs : S0 x
        · rfl
        · obtain ⟨j, q1, q2, q3⟩ := (h.seen x hxm).1 hs
          exact absurd q3 (g2 j q1 q2)
  · rw [h2.seen x hx, h.seen x hx]
    constructor
    · rintro (⟨j, q1, q2, q3⟩ | g)
      · exact ⟨j, q1, by omega, q3⟩
      · exact ⟨n, hp, by omega, new1 x g⟩
    · rintro ⟨j, q1, q2, q3⟩
      by_cases hl : ∃ i, 1 ≤ i ∧ i < n ∧ Wk f lo i a x
      · exact .inl hl
      · have hjn : j = n := by
          by_cases hjn : j = n
          · exact hjn
          · exact absurd ⟨j, q1, by omega, q3⟩ hl
        subst hjn
        exact .inr (new2 x q3 fun i g1 g2 g3 => hl ⟨i, g1, g2, g3⟩)
  · by_cases hjn : j < n
    · exact h.nob j h1 hjn hj
    · obtain rfl : j = n := by omega
      exact h2.nob (new2 b hj fun i g1 g2 => h.nob i g1 g2)
theorem Lvl.end {f : Rel} {m lo a b : Nat} {S : Nat → Bool} {L : List Nat} (h : Lvl f m lo a b (m + 1) S L) : wayN f m lo a b = 0 :=
  wayN_eq (.inl ⟨rfl, fun j h1 h2 => h.nob j h1 (by omega)⟩)
theorem Mid.len {f : Rel} {m lo b : Nat} {S0 : Nat → Bool} {L : List Nat} {i v : Nat} {S : Nat → Bool} {N : List Nat} (h : Mid f m lo b S0 L i v S N) : N.length ≤ m := nodup_le (fun x hx => ((h.ins x).1 hx).1) h.nd
theorem Lvl.len {f : Rel} {m lo a b n : Nat} {S : Nat → Bool} {L : List Nat} (h : Lvl f m lo a b n S L) : L.length ≤ m := nodup_le h.lt h.nd
end Go.Proofs.Ytodgohilfbggjaa
