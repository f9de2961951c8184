/- Lemmas that the laws of this seat share, 4 texts in one: Dim, ClosePlain, Close, Dims. No condition of their own. -/
import Derived.Test.YtodgohilfbggjaaM2
/- Dimensions: pairs of values; valid and steps of package factor. -/
namespace Go.Proofs.Ytodgohilfbggjaa
open Go.RowKit
set_option linter.unusedSimpArgs false
set_option linter.unusedVariables false

abbrev Pr := Int × Int
def prCells (p : Pr) : List Value := [.int .i64 p.1, .int .i64 p.2]
def prFlat (ps : List Pr) : List Value := (ps.map prCells).flatten
theorem prFlat_at (ps : List Pr) (i j : Nat) (hj : j < 2) : (prFlat ps)[i * 2 + j]? = (ps[i]?).bind fun t => (prCells t)[j]? := by
  unfold prFlat
  rw [flatten_at _ (by intro x hx; rw [List.mem_map] at hx; obtain ⟨v, _, rfl⟩ := hx; rfl) i j hj, List.getElem?_map]
  cases ps[i]? <;> rfl
theorem prFlat_len (ps : List Pr) : (prFlat ps).length = ps.length * 2 := by
  unfold prFlat
  rw [flatten_len (k := 2) _ (by intro x hx; rw [List.mem_map] at hx; obtain ⟨v, _, rfl⟩ := hx; rfl), List.length_map]
abbrev Prs (S : Nat → Prop) (w : World) (po : Option Addr) (n c : Nat) (ps : List Pr) : Prop := RowF S 2 w (.slice po n c) n (prFlat ps)
theorem Prs.len {S : Nat → Prop} {w : World} {po : Option Addr} {n c : Nat} {ps : List Pr} (h : Prs S w po n c ps) : ps.length = n := by
  have := RowF.len h
  rw [prFlat_len] at this
  omega
theorem Prs.get {S : Nat → Prop} {w : World} {po : Option Addr} {n c : Nat} {ps : List Pr} (h : Prs S w po n c ps) {i : Nat} (hi : i < n) :
    ∃ b off p, po = some ⟨b, off, none⟩ ∧ b < w.heap.size ∧ ps[i]? = some p ∧ w.cell? ⟨b, off + i * 2, none⟩ = some (.int .i64 p.1) ∧ w.cell? ⟨b, off + i * 2 + 1, none⟩ = some (.int .i64 p.2) := by
  have hl := h.len
  obtain ⟨h1, ao2, cap2, hv, h2, h3, h4, h5⟩ := h
  simp only [Value.slice.injEq, true_and] at hv
  obtain ⟨rfl, rfl⟩ := hv
  obtain ⟨b, off, rfl, hS, hb, hc⟩ := h5 (by omega)
  have hp : ps[i]? = some ps[i] := List.getElem?_eq_getElem (by omega)
  have g : ∀ j c, j < 2 → (prCells ps[i])[j]? = some c → w.cell? ⟨b, off + i * 2 + j, none⟩ = some c := by
    intro j c hj he
    rw [Nat.add_assoc]
    exact hc _ _ (by rw [prFlat_at ps i j hj, hp]; exact he)
  exact ⟨b, off, _, rfl, hb, hp, g 0 _ (by omega) rfl, g 1 _ (by omega) rfl⟩

def prIn (V : Int) (p : Pr) : Bool := decide (0 ≤ p.1) && decide (p.1 < V) && (decide (0 ≤ p.2) && decide (p.2 < V))
def validB (V : Int) (ps : List Pr) : Bool := decide (1 ≤ V) && decide (V ≤ 12) && (decide (ps.length ≤ 144) && ps.all (prIn V))
def pairRel (ps : List Pr) : Rel := fun a b => ps.any fun p => p.1 == (a : Int) && p.2 == (b : Int)
theorem pairRel_next (ps : List Pr) (k a b : Nat) (h : ps[k]? = some ((a : Int), (b : Int))) : upd (pairRel (ps.take k)) a b true = pairRel (ps.take (k + 1)) := by
  funext x y
  unfold upd pairRel
  rw [List.take_add_one, h, List.any_append]
  by_cases hx : x = a ∧ y = b
  · rw [if_pos hx]
    simp [hx.1, hx.2]
  · rw [if_neg hx]
    have : (((a : Int) == (x : Int)) && ((b : Int) == (y : Int))) = false := by
      refine Bool.eq_false_iff.2 fun hc => hx ?_
      simp at hc
      omega
    simp [this]
set_option maxRecDepth 100000
set_option maxHeartbeats 1000000
theorem steps34 {S : Nat → Prop} (V : Int) (po : Option Addr) (n c : Nat) (ps : List Pr) (w : World) (h : Prs S w po n c ps) (hin : ∀ p ∈ ps, 0 ≤ p.1 ∧ p.1 < 12 ∧ 0 ≤ p.2 ∧ p.2 < 12) :
    Calls Try.prog 61 #[.agg #[.int .i64 V, .slice po n c]] w fun e w' => e = .returned (.agg (matC (pairRel ps))) ∧ Exts w w' := by
  have hl := h.len
  have hm := h.nle
  unfold maxLen at hm
  have H := Lib.hid h
  have HIN := Lib.hid hin
  have HL := Lib.hid hl
  clear h hin hl
  go_enter Try.func61, Try.ntmps61
  go_wp2
  go_loopw [9] (fun i wr => ∃ (k : Nat), k ≤ n ∧ i = .int .i64 k ∧ Exts (((w.alloc (.cells #[.int .i64 V, .slice po n c] 52)).alloc (.cells (matC noRel) 81)).alloc (.cells (matC (pairRel (ps.take k))) 81)) wr) (fun i _ => n - (intOf i).toNat)
  case atStart => exact ⟨0, by omega, rfl, Exts.refl _⟩
  case round =>
    obtain ⟨k, hk, rfl, x, rfl⟩ := hrel
    by_cases hlt : k < n
    · obtain ⟨b, off, ⟨p1, p2⟩, rfl, hb, hp, e0, e1⟩ := H.out.get hlt
      obtain ⟨q1, q2, q3, q4⟩ := HIN.out _ (List.mem_of_getElem? hp)
      simp only at q1 q2 q3 q4 e0 e1
      obtain ⟨a, rfl⟩ : ∃ a : Nat, p1 = a := ⟨p1.toNat, by omega⟩
      obtain ⟨d, rfl⟩ : ∃ d : Nat, p2 = d := ⟨p2.toNat, by omega⟩
      have ha : a < 12 := by omega
      have hd : d < 12 := by omega
      have HN := Lib.hid (pairRel_next ps k a d hp)
      clear hp q1 q3
      go_wp2
      go_region
      rw [HN.out]
      go_wp2
      refine ⟨⟨k + 1, by omega, by go_num, (by repeat (first | exact Exts.refl _ | apply Exts.andR | apply Exts.alloc | apply Exts.wext | apply Exts.drew | apply Exts.drewN))⟩, ?_⟩
      simp [intOf]; omega
    · obtain rfl : k = n := by omega
      have htk : ps.take k = ps := List.take_of_length_le (by rw [HL.out]; exact Nat.le_refl _)
      rw [htk]
      go_wp2
      refine bodyPost_ret (v := .agg (matC (pairRel ps))) (res52 rfl _ _ _ _ rfl (by simp [go_sem]) (by simp [go_sem])) rfl ⟨rfl, (by repeat (first | exact Exts.refl _ | apply Exts.andR | apply Exts.alloc | apply Exts.wext | apply Exts.drew | apply Exts.drewN))⟩

theorem valid_no {V : Int} {ps : List Pr} {p : Pr} (h : p ∈ ps) (hp : prIn V p = false) : validB V ps = false := by
  have : ps.all (prIn V) = false := by
    refine Bool.eq_false_iff.2 fun hc => ?_
    rw [List.all_eq_true.1 hc p h] at hp
    cases hp
  simp [validB, this]
theorem valid_in {V : Int} {ps : List Pr} (h : validB V ps = true) : (1 ≤ V ∧ V ≤ 12) ∧ ps.length ≤ 144 ∧ ∀ p ∈ ps, 0 ≤ p.1 ∧ p.1 < V ∧ 0 ≤ p.2 ∧ p.2 < V := by
  simp only [validB, Bool.and_eq_true, decide_eq_true_eq, List.all_eq_true, prIn] at h
  exact ⟨h.1, h.2.1, fun p hp => ⟨(h.2.2 p hp).1.1, (h.2.2 p hp).1.2, (h.2.2 p hp).2.1, (h.2.2 p hp).2.2⟩⟩
theorem valid_bad {V : Int} {ps : List Pr} (h : ¬ (1 ≤ V ∧ V ≤ 12 ∧ ps.length ≤ 144)) : validB V ps = false := by
  refine Bool.eq_false_iff.2 fun hc => h ?_
  obtain ⟨⟨h1, h2⟩, h3, _⟩ := valid_in hc
  exact ⟨h1, h2, h3⟩
theorem valid32 {S : Nat → Prop} (V : Int) (po : Option Addr) (n c : Nat) (ps : List Pr) (w : World) (h : Prs S w po n c ps) :
    Calls Try.prog 59 #[.agg #[.int .i64 V, .slice po n c]] w fun e w' => e = .returned (.bool (validB V ps)) ∧ Exts w w' := by
  have hl := h.len
  have hm := h.nle
  unfold maxLen at hm
  have H := Lib.hid h
  have HL := Lib.hid hl
  by_cases h1 : 1 ≤ V
  · have b1 : decide (V < 1) = false := by simp; omega
    by_cases h2 : V ≤ 12
    · have b2 : decide (12 < V) = false := by simp; omega
      by_cases h3 : n ≤ 144
      · have b3 : decide ((144 : Int) < (n : Int)) = false := by simp; omega
        clear h hl
        go_enter Try.func59, Try.ntmps59
        go_wp2
        go_loopw [22] (fun i wr => ∃ (k : Nat), k ≤ n ∧ i = .int .i64 k ∧ Exts (w.alloc (.cells #[.int .i64 V, .slice po n c] 52)) wr ∧ ∀ p ∈ ps.take k, prIn V p = true) (fun i _ => n - (intOf i).toNat)
        case atStart => exact ⟨0, by omega, rfl, Exts.refl _, by simp⟩
        case round =>
          obtain ⟨k, hk, rfl, ⟨x, rfl⟩, hin⟩ := hrel
          have HI := Lib.hid hin
          clear hin
          by_cases hlt : k < n
          · obtain ⟨b, off, ⟨p1, p2⟩, rfl, hb, hp, e0, e1⟩ := H.out.get hlt
            simp only at e0 e1
            have HP := Lib.hid hp
            clear hp
            by_cases q0 : p2 < p1
            · by_cases q1 : p2 < 0
              · have HR := Lib.hid (valid_no (V := V) (List.mem_of_getElem? HP.out) (by simp [prIn]; omega))
                have c1 : decide (p2 < 0) = true := by simpa using q1
                go_wp2
                go_ret
                exact ⟨by rw [HR.out]; rfl, (by repeat (first | exact Exts.refl _ | apply Exts.andR | apply Exts.alloc | apply Exts.wext | apply Exts.drew | apply Exts.drewN))⟩
              · have c1 : decide (p2 < 0) = false := by simpa using q1
                by_cases q2 : V ≤ p1
                · have HR := Lib.hid (valid_no (V := V) (List.mem_of_getElem? HP.out) (by simp [prIn]; omega))
                  have c2 : decide (V ≤ p1) = true := by simpa using q2
                  go_wp2
                  go_ret
                  exact ⟨by rw [HR.out]; rfl, (by repeat (first | exact Exts.refl _ | apply Exts.andR | apply Exts.alloc | apply Exts.wext | apply Exts.drew | apply Exts.drewN))⟩
                · have c2 : decide (V ≤ p1) = false := by simpa using q2
                  have HQ := Lib.hid (show prIn V (p1, p2) = true by simp [prIn]; omega)
                  go_wp2
                  refine ⟨⟨k + 1, by omega, by go_num, (by repeat (first | exact Exts.refl _ | apply Exts.andR | apply Exts.alloc | apply Exts.wext | apply Exts.drew | apply Exts.drewN)), fun q hq => ?_⟩, ?_⟩
                  · rw [List.take_add_one, HP.out, List.mem_append] at hq
                    rcases hq with hq | hq
                    · exact HI.out q hq
                    · simp at hq
                      rw [hq]
                      exact HQ.out
                  · simp [intOf]; omega
            · by_cases q3 : p1 < p2
              · by_cases q1 : p1 < 0
                · have HR := Lib.hid (valid_no (V := V) (List.mem_of_getElem? HP.out) (by simp [prIn]; omega))
                  have c1 : decide (p1 < 0) = true := by simpa using q1
                  go_wp2
                  go_ret
                  exact ⟨by rw [HR.out]; rfl, (by repeat (first | exact Exts.refl _ | apply Exts.andR | apply Exts.alloc | apply Exts.wext | apply Exts.drew | apply Exts.drewN))⟩
                · have c1 : decide (p1 < 0) = false := by simpa using q1
                  by_cases q2 : V ≤ p2
                  · have HR := Lib.hid (valid_no (V := V) (List.mem_of_getElem? HP.out) (by simp [prIn]; omega))
                    have c2 : decide (V ≤ p2) = true := by simpa using q2
                    go_wp2
                    go_ret
                    exact ⟨by rw [HR.out]; rfl, (by repeat (first | exact Exts.refl _ | apply Exts.andR | apply Exts.alloc | apply Exts.wext | apply Exts.drew | apply Exts.drewN))⟩
                  · have c2 : decide (V ≤ p2) = false := by simpa using q2
                    have HQ := Lib.hid (show prIn V (p1, p2) = true by simp [prIn]; omega)
                    go_wp2
                    refine ⟨⟨k + 1, by omega, by go_num, (by repeat (first | exact Exts.refl _ | apply Exts.andR | apply Exts.alloc | apply Exts.wext | apply Exts.drew | apply Exts.drewN)), fun q hq => ?_⟩, ?_⟩
                    · rw [List.take_add_one, HP.out, List.mem_append] at hq
                      rcases hq with hq | hq
                      · exact HI.out q hq
                      · simp at hq
                        rw [hq]
                        exact HQ.out
                    · simp [intOf]; omega
              · obtain rfl : p1 = p2 := by omega
                by_cases q1 : p1 < 0
                · have HR := Lib.hid (valid_no (V := V) (List.mem_of_getElem? HP.out) (by simp [prIn]; omega))
                  have c1 : decide (p1 < 0) = true := by simpa using q1
                  go_wp2
                  go_ret
                  exact ⟨by rw [HR.out]; rfl, (by repeat (first | exact Exts.refl _ | apply Exts.andR | apply Exts.alloc | apply Exts.wext | apply Exts.drew | apply Exts.drewN))⟩
                · have c1 : decide (p1 < 0) = false := by simpa using q1
                  by_cases q2 : V ≤ p1
                  · have HR := Lib.hid (valid_no (V := V) (List.mem_of_getElem? HP.out) (by simp [prIn]; omega))
                    have c2 : decide (V ≤ p1) = true := by simpa using q2
                    go_wp2
                    go_ret
                    exact ⟨by rw [HR.out]; rfl, (by repeat (first | exact Exts.refl _ | apply Exts.andR | apply Exts.alloc | apply Exts.wext | apply Exts.drew | apply Exts.drewN))⟩
                  · have c2 : decide (V ≤ p1) = false := by simpa using q2
                    have HQ := Lib.hid (show prIn V (p1, p1) = true by simp [prIn]; omega)
                    go_wp2
                    refine ⟨⟨k + 1, by omega, by go_num, (by repeat (first | exact Exts.refl _ | apply Exts.andR | apply Exts.alloc | apply Exts.wext | apply Exts.drew | apply Exts.drewN)), fun q hq => ?_⟩, ?_⟩
                    · rw [List.take_add_one, HP.out, List.mem_append] at hq
                      rcases hq with hq | hq
                      · exact HI.out q hq
                      · simp at hq
                        rw [hq]
                        exact HQ.out
                    · simp [intOf]; omega
          · obtain rfl : k = n := by omega
            have htk : ps.take k = ps := List.take_of_length_le (by rw [HL.out]; exact Nat.le_refl _)
            have HR := Lib.hid (show validB V ps = true by
              have := HI.out
              rw [htk] at this
              have hlen := HL.out
              simp only [validB, Bool.and_eq_true, decide_eq_true_eq, List.all_eq_true]
              exact ⟨⟨h1, h2⟩, by omega, this⟩)
            clear htk
            go_wp2
            go_ret
            exact ⟨by rw [HR.out]; rfl, (by repeat (first | exact Exts.refl _ | apply Exts.andR | apply Exts.alloc | apply Exts.wext | apply Exts.drew | apply Exts.drewN))⟩
      · have b3 : decide ((144 : Int) < (n : Int)) = true := by simp; omega
        have HR := Lib.hid (valid_bad (V := V) (ps := ps) (by omega))
        clear h hl
        go_enter Try.func59, Try.ntmps59
        go_wp2
        go_ret
        exact ⟨by rw [HR.out]; rfl, (by repeat (first | exact Exts.refl _ | apply Exts.andR | apply Exts.alloc | apply Exts.wext | apply Exts.drew | apply Exts.drewN))⟩
    · have b2 : decide (12 < V) = true := by simp; omega
      have HR := Lib.hid (valid_bad (V := V) (ps := ps) (by omega))
      clear h hl
      go_enter Try.func59, Try.ntmps59
      go_wp2
      go_ret
      exact ⟨by rw [HR.out]; rfl, (by repeat (first | exact Exts.refl _ | apply Exts.andR | apply Exts.alloc | apply Exts.wext | apply Exts.drew | apply Exts.drewN))⟩
  · have b1 : decide (V < 1) = true := by simp; omega
    have HR := Lib.hid (valid_bad (V := V) (ps := ps) (by omega))
    clear h hl
    go_enter Try.func59, Try.ntmps59
    go_wp2
    go_ret
    exact ⟨by rw [HR.out]; rfl, (by repeat (first | exact Exts.refl _ | apply Exts.andR | apply Exts.alloc | apply Exts.wext | apply Exts.drew | apply Exts.drewN))⟩
end Go.Proofs.Ytodgohilfbggjaa

/- The closure of a relation, and of a dimension. Plain. -/
namespace Go.Proofs.Ytodgohilfbggjaa
open Go.RowKit
set_option linter.unusedSimpArgs false
set_option linter.unusedVariables false

open Classical in
/-- What is reached by one or more pairs. -/
noncomputable def clR (f : Rel) : Rel := fun a b => decide (Reach f a b)
theorem clR_iff {f : Rel} {a b : Nat} : clR f a b = true ↔ Reach f a b := by simp [clR]
theorem clR_mat {f g : Rel} (h : Between f g) (hc : Closed g) : matC g = matC (clR f) := matC_inj fun a b ha hb => by
  rw [Bool.eq_iff_iff, between_closed h hc ha hb, clR_iff]
theorem clR_at {f g : Rel} (h : Between f g) (hc : Closed g) {a b : Nat} (ha : a < 12) (hb : b < 12) : clR f a b = g a b := by
  rw [Bool.eq_iff_iff, between_closed h hc ha hb, clR_iff]
def cycB (g : Rel) : Bool := (List.range 12).any fun a => g a a
/-- A relation, and the first so many values related to themselves. -/
def diagR (g : Rel) (k : Nat) : Rel := fun a b => g a b || (a == b && decide (a < k))
theorem diagR_zero (g : Rel) : diagR g 0 = g := by
  funext a b
  simp [diagR]
theorem diagR_next (g : Rel) (k : Nat) : upd (diagR g k) k k true = diagR g (k + 1) := by
  funext a b
  unfold upd diagR
  by_cases h : a = k ∧ b = k
  · rw [if_pos h]
    obtain ⟨rfl, rfl⟩ := h
    simp
  · rw [if_neg h]
    by_cases hab : a = b
    · subst hab
      have : a ≠ k := fun hc => h ⟨hc, hc⟩
      have : decide (a < k) = decide (a < k + 1) := by
        rw [decide_eq_decide]
        omega
      rw [this]
    · rw [show (a == b) = false by simpa using hab, Bool.false_and, Bool.false_and]
/-- A dimension: its closure, if it is valid and has no circle. -/
noncomputable def closedD (V : Int) (ps : List Pr) : Rel × Bool := if validB V ps = true ∧ cycB (clR (pairRel ps)) = false then (diagR (clR (pairRel ps)) V.toNat, true) else (noRel, false)
theorem closed_yes {V : Int} {ps : List Pr} (h1 : validB V ps = true) (h2 : cycB (clR (pairRel ps)) = false) : closedD V ps = (diagR (clR (pairRel ps)) V.toNat, true) := if_pos ⟨h1, h2⟩
theorem closed_no {V : Int} {ps : List Pr} (h : validB V ps = false ∨ cycB (clR (pairRel ps)) = true) : closedD V ps = (noRel, false) := if_neg (by
  rintro ⟨h1, h2⟩
  rcases h with h | h
  · rw [h1] at h; cases h
  · rw [h2] at h; cases h)
end Go.Proofs.Ytodgohilfbggjaa

/- closed of package factor. -/
namespace Go.Proofs.Ytodgohilfbggjaa
open Go.RowKit
set_option linter.unusedSimpArgs false
set_option linter.unusedVariables false

theorem reach40_D (f : Rel) (w : World) : Calls Try.prog 60 #[.agg (matC f)] w fun e w' => e = .returned (.agg (matC (clR f))) ∧ Exts w w' :=
  (reach40 f w).mono fun e w' ⟨g, he, h1, h2, hx⟩ => ⟨by rw [he, clR_mat h1 h2], hx⟩
theorem res52b {fn : Func} {p q : Tmp} (h : fn.results = #[.cell p 81, .tmp q]) (tmps : Array Value) (w : World) (b : Nat) (f : Rel) (v : Value) (hp : tmps.getD p undef = .pointer (some ⟨b, 0, none⟩)) (hq : tmps.getD q undef = v) (hr : isRow w b 144) (hw : rowOf w b = matC f) :
    (results fn tmps).run Try.prog w = .ok (.tuple #[.agg (matC f), v]) w := by
  have hl : (loadVar 81 ⟨b, 0, none⟩).run Try.prog w = .ok (.agg (matC f)) w := by
    rw [← hw]
    exact load52 w b hr
  have hp' : tmps[p]?.getD undef = .pointer (some ⟨b, 0, none⟩) := by simpa using hp
  have hq' : tmps[q]?.getD undef = v := by simpa using hq
  simp [results, h, hp', hq', asAddr, hl]
set_option maxRecDepth 100000
set_option maxHeartbeats 1000000
theorem closed31 {S : Nat → Prop} (V : Int) (po : Option Addr) (n c : Nat) (ps : List Pr) (w : World) (h : Prs S w po n c ps) :
    Calls Try.prog 51 #[.agg #[.int .i64 V, .slice po n c]] w fun e w' => e = .returned (.tuple #[.agg (matC (closedD V ps).1), .bool (closedD V ps).2]) ∧ Exts w w' := by
  cases hv : validB V ps with
  | false =>
    have HV := Lib.hid hv
    have HR := Lib.hid (closed_no (V := V) (ps := ps) (.inl hv))
    have H := Lib.hid h
    clear hv h
    go_enter Try.func51, Try.ntmps51
    go_wp2_with (first | (go_at_call 59; ((with_reducible refine (valid32 _ _ _ _ ps _ (RowF.exts H.out (by repeat (first | exact Exts.refl _ | apply Exts.andR | apply Exts.alloc | apply Exts.wext | apply Exts.drew | apply Exts.drewN)))).mono ?_); rintro e w' ⟨rfl, x1, rfl⟩; rw [HV.out])))
    refine bodyPost_ret (v := .tuple #[.agg (matC noRel), .bool false]) (res52b rfl _ _ _ _ _ rfl rfl (by simp [go_sem]) (by simp [go_sem])) rfl ⟨by rw [HR.out], (by repeat (first | exact Exts.refl _ | apply Exts.andR | apply Exts.alloc | apply Exts.wext | apply Exts.drew | apply Exts.drewN))⟩
  | true =>
    obtain ⟨⟨v1, v2⟩, v3, v4⟩ := valid_in hv
    obtain ⟨m, rfl⟩ : ∃ m : Nat, V = m := ⟨V.toNat, by omega⟩
    have HV := Lib.hid hv
    have HI := Lib.hid (show ∀ p ∈ ps, 0 ≤ p.1 ∧ p.1 < 12 ∧ 0 ≤ p.2 ∧ p.2 < 12 from fun p hp => by have := v4 p hp; omega)
    have H := Lib.hid h
    clear hv h v3 v4
    go_enter Try.func51, Try.ntmps51
    go_wp2_with (first | (go_at_call 59; ((with_reducible refine (valid32 _ _ _ _ ps _ (RowF.exts H.out (by repeat (first | exact Exts.refl _ | apply Exts.andR | apply Exts.alloc | apply Exts.wext | apply Exts.drew | apply Exts.drewN)))).mono ?_); rintro e w' ⟨rfl, x1, rfl⟩; rw [HV.out])) | (go_at_call 61; ((with_reducible refine (steps34 _ _ _ _ ps _ (RowF.exts H.out (by repeat (first | exact Exts.refl _ | apply Exts.andR | apply Exts.alloc | apply Exts.wext | apply Exts.drew | apply Exts.drewN))) HI.out).mono ?_); rintro e w' ⟨rfl, x2, rfl⟩)) | (go_at_call 60; ((with_reducible refine (reach40_D _ _).mono ?_); rintro e w' ⟨rfl, x3, rfl⟩)))
    obtain ⟨g, hg⟩ : ∃ g, clR (pairRel ps) = g := ⟨_, rfl⟩
    rw [hg]
    have HG := Lib.hid hg
    clear hg
    go_loopw [14] (fun i wr => ∃ (k : Nat), k ≤ 12 ∧ i = .int .i64 k ∧ Exts ((wext ((w.alloc (.cells #[.int .i64 m, .slice po n c] 52)).alloc (.cells (matC noRel) 81)) ((x1.and x2).and x3)).alloc (.cells (matC g) 81)) wr ∧ ∀ a, a < k → g a a = false) (fun i _ => 12 - (intOf i).toNat)
    case atStart => exact ⟨0, by omega, rfl, Exts.refl _, fun a ha => by omega⟩
    case round =>
      obtain ⟨k, hk, rfl, ⟨x, rfl⟩, hin⟩ := hrel
      have HK := Lib.hid hin
      clear hin
      by_cases hlt : k < 12
      · cases hq : g k k with
        | true =>
          have HR := Lib.hid (closed_no (V := (m : Int)) (ps := ps) (.inr (by
            simp only [cycB, List.any_eq_true, List.mem_range]
            exact ⟨k, hlt, by rw [HG.out]; exact hq⟩)))
          go_wp2
          refine bodyPost_ret (v := .tuple #[.agg (matC noRel), .bool false]) (res52b rfl _ _ _ _ _ rfl rfl (by simp [go_sem]) (by simp [go_sem])) rfl ⟨by rw [HR.out], (by repeat (first | exact Exts.refl _ | apply Exts.andR | apply Exts.alloc | apply Exts.wext | apply Exts.drew | apply Exts.drewN))⟩
        | false =>
          have HQ := Lib.hid hq
          go_wp2
          refine ⟨⟨k + 1, by omega, by go_num, (by repeat (first | exact Exts.refl _ | apply Exts.andR | apply Exts.alloc | apply Exts.wext | apply Exts.drew | apply Exts.drewN)), fun a ha => ?_⟩, ?_⟩
          · by_cases hak : a = k
            · rw [hak]; exact HQ.out
            · exact HK.out a (by omega)
          · simp [intOf]; omega
      · obtain rfl : k = 12 := by omega
        have HR := Lib.hid (closed_yes (V := (m : Int)) (ps := ps) HV.out (by
          refine Bool.eq_false_iff.2 fun hc => ?_
          simp only [cycB, List.any_eq_true, List.mem_range] at hc
          obtain ⟨a, ha, h1⟩ := hc
          rw [HG.out, HK.out a ha] at h1
          cases h1))
        go_wp2
        go_loopw [26] (fun i wr => ∃ (k : Nat), k ≤ m ∧ i = .int .i64 k ∧ Exts ((wext ((w.alloc (.cells #[.int .i64 m, .slice po n c] 52)).alloc (.cells (matC noRel) 81)) ((x1.and x2).and x3)).alloc (.cells (matC (diagR g k)) 81)) wr) (fun i _ => m - (intOf i).toNat)
        case atStart => exact ⟨0, by omega, rfl, by rw [diagR_zero]; exact (by repeat (first | exact Exts.refl _ | apply Exts.andR | apply Exts.alloc | apply Exts.wext | apply Exts.drew | apply Exts.drewN))⟩
        case round =>
          obtain ⟨k, hk, rfl, x, rfl⟩ := hrel
          by_cases hlt : k < m
          · have hlt' : k < 12 := by omega
            have HN := Lib.hid (diagR_next g k)
            go_wp2
            rw [HN.out]
            refine ⟨⟨k + 1, by omega, by go_num, (by repeat (first | exact Exts.refl _ | apply Exts.andR | apply Exts.alloc | apply Exts.wext | apply Exts.drew | apply Exts.drewN))⟩, ?_⟩
            simp [intOf]; omega
          · obtain rfl : k = m := by omega
            go_wp2
            refine bodyPost_ret (v := .tuple #[.agg (matC (diagR g k)), .bool true]) (res52b rfl _ _ _ _ _ rfl rfl (by simp [go_sem]) (by simp [go_sem])) rfl ⟨by rw [HR.out, HG.out]; rfl, (by repeat (first | exact Exts.refl _ | apply Exts.andR | apply Exts.alloc | apply Exts.wext | apply Exts.drew | apply Exts.drewN))⟩
end Go.Proofs.Ytodgohilfbggjaa

/- Lists of dimensions, lists of numbers: how they are read; Atleast, Right of package factor. -/
namespace Go.Proofs.Ytodgohilfbggjaa
open Go.RowKit
set_option linter.unusedSimpArgs false
set_option linter.unusedVariables false

abbrev Dm := Int × List Pr
/-- A slice of pairs, whatever its length. -/
def PrsV (w : World) (v : Value) (ps : List Pr) : Prop := ∃ po c, v = .slice po ps.length c ∧ Prs (fun _ => True) w po ps.length c ps
theorem PrsV.exts {w w' : World} {v : Value} {ps : List Pr} (h : PrsV w v ps) (he : Exts w w') : PrsV w' v ps := by
  obtain ⟨po, c, h1, h2⟩ := h
  exact ⟨po, c, h1, RowF.exts h2 he⟩
def Dims (S : Nat → Prop) (w : World) (lo : Option Addr) (n c : Nat) (D : List Dm) : Prop :=
  D.length = n ∧ ∃ xs, RowF S 2 w (.slice lo n c) n xs ∧ ∀ (i : Nat) (d : Dm), D[i]? = some d → ∃ b, xs[i * 2]? = some (.int .i64 d.1) ∧ xs[i * 2 + 1]? = some b ∧ PrsV w b d.2
theorem Dims.exts {S : Nat → Prop} {w w' : World} {lo : Option Addr} {n c : Nat} {D : List Dm} (h : Dims S w lo n c D) (he : Exts w w') : Dims S w' lo n c D := by
  obtain ⟨h1, xs, h2, h3⟩ := h
  exact ⟨h1, xs, h2.exts he, fun i d hd => let ⟨b, e1, e2, e3⟩ := h3 i d hd; ⟨b, e1, e2, e3.exts he⟩⟩
theorem Dims.nle {S : Nat → Prop} {w : World} {lo : Option Addr} {n c : Nat} {D : List Dm} (h : Dims S w lo n c D) : n ≤ maxLen := by
  obtain ⟨_, xs, h2, _⟩ := h
  exact RowF.nle h2
theorem Dims.get {S : Nat → Prop} {w : World} {lo : Option Addr} {n c : Nat} {D : List Dm} (h : Dims S w lo n c D) {i : Nat} (hi : i < n) :
    ∃ b off V ps po pc, lo = some ⟨b, off, none⟩ ∧ b < w.heap.size ∧ D[i]? = some (V, ps) ∧ w.cell? ⟨b, off + i * 2, none⟩ = some (.int .i64 V) ∧ w.cell? ⟨b, off + i * 2 + 1, none⟩ = some (.slice po ps.length pc) ∧ Prs (fun _ => True) w po ps.length pc ps := by
  obtain ⟨h1, xs, h2, h3⟩ := h
  have hp : D[i]? = some D[i] := List.getElem?_eq_getElem (by omega)
  obtain ⟨v, e1, e2, po, pc, rfl, e3⟩ := h3 i _ hp
  obtain ⟨q1, ao2, cap2, hv, q2, q3, q4, q5⟩ := h2
  simp only [Value.slice.injEq, true_and] at hv
  obtain ⟨rfl, rfl⟩ := hv
  obtain ⟨b, off, rfl, _, hb, hc⟩ := q5 (by omega)
  refine ⟨b, off, D[i].1, D[i].2, po, pc, rfl, hb, hp, hc _ _ e1, ?_, e3⟩
  rw [Nat.add_assoc]
  exact hc _ _ e2

abbrev intsC (l : List Int) : List Value := l.map (.int .i64 ·)
abbrev Ints (S : Nat → Prop) (w : World) (ao : Option Addr) (n c : Nat) (l : List Int) : Prop := RowF S 1 w (.slice ao n c) n (intsC l)
theorem ints_len {S : Nat → Prop} {w : World} {ao : Option Addr} {n c : Nat} {l : List Int} (h : Ints S w ao n c l) : l.length = n := by
  have := RowF.len h
  rw [List.length_map] at this
  omega
theorem ints_get {S : Nat → Prop} {w : World} {ao : Option Addr} {n c : Nat} {l : List Int} (h : Ints S w ao n c l) {i : Nat} (hi : i < n) :
    ∃ b off x, ao = some ⟨b, off, none⟩ ∧ b < w.heap.size ∧ l[i]? = some x ∧ w.cell? ⟨b, off + i, none⟩ = some (.int .i64 x) := by
  have hl := ints_len h
  obtain ⟨q1, ao2, cap2, hv, q2, q3, q4, q5⟩ := h
  simp only [Value.slice.injEq, true_and] at hv
  obtain ⟨rfl, rfl⟩ := hv
  obtain ⟨b, off, rfl, _, hb, hc⟩ := q5 (by omega)
  have hp : l[i]? = some l[i] := List.getElem?_eq_getElem (by omega)
  exact ⟨b, off, _, rfl, hb, hp, hc _ _ (by rw [List.getElem?_map, hp]; rfl)⟩

noncomputable def rightD (D : List Dm) : Bool := D.all (fun d => (closedD d.1 d.2).2) && decide (D.length ≤ 12)
def inV (V a : Int) : Bool := decide (0 ≤ a) && decide (a < V)
noncomputable def atD (V : Int) (ps : List Pr) (a b : Int) : Bool := (closedD V ps).2 && (inV V a && (inV V b && (closedD V ps).1 a.toNat b.toNat))
set_option maxRecDepth 100000
set_option maxHeartbeats 1000000
theorem closed31_D {S : Nat → Prop} (V : Int) (po : Option Addr) (n c : Nat) (ps : List Pr) (g : Rel) (o : Bool) (w : World) (h : Prs S w po n c ps) (hD : closedD V ps = (g, o)) :
    Calls Try.prog 51 #[.agg #[.int .i64 V, .slice po n c]] w fun e w' => e = .returned (.tuple #[.agg (matC g), .bool o]) ∧ Exts w w' := by
  have := closed31 V po n c ps w h
  rw [hD] at this
  exact this
theorem closed_valid {V : Int} {ps : List Pr} {g : Rel} (h : closedD V ps = (g, true)) : validB V ps = true ∧ cycB (clR (pairRel ps)) = false ∧ g = diagR (clR (pairRel ps)) V.toNat := by
  unfold closedD at h
  split at h
  · rename_i hc
    simp only [Prod.mk.injEq, and_true] at h
    exact ⟨hc.1, hc.2, h.symm⟩
  · simp at h
theorem atD_out {V : Int} {ps : List Pr} {a b : Int} (h : ¬ (0 ≤ a ∧ a < V ∧ 0 ≤ b ∧ b < V)) : atD V ps a b = false := by
  refine Bool.eq_false_iff.2 fun hc => h ?_
  simp only [atD, inV, Bool.and_eq_true, decide_eq_true_eq] at hc
  exact ⟨hc.2.1.1, hc.2.1.2, hc.2.2.1.1, hc.2.2.1.2⟩
theorem right19 {S : Nat → Prop} (lo : Option Addr) (n c : Nat) (D : List Dm) (w : World) (h : Dims S w lo n c D) :
    Calls Try.prog 62 #[.slice lo n c] w fun e w' => e = .returned (.bool (rightD D)) ∧ Exts w w' := by
  have hm := h.nle
  unfold maxLen at hm
  have hl := h.1
  have H := Lib.hid h
  have HL := Lib.hid hl
  clear h hl
  go_enter Try.func62, Try.ntmps62
  go_wp2
  go_loopw [9] (fun i wr => ∃ (k : Nat), k ≤ n ∧ i = .int .i64 k ∧ Exts w wr ∧ ∀ d ∈ D.take k, (closedD d.1 d.2).2 = true) (fun i _ => n - (intOf i).toNat)
  case atStart => exact ⟨0, by omega, rfl, Exts.refl _, by simp⟩
  case round =>
    obtain ⟨k, hk, rfl, ⟨x, rfl⟩, hin⟩ := hrel
    have HI := Lib.hid hin
    clear hin
    by_cases hlt : k < n
    · obtain ⟨b, off, V, ps, po, pc, rfl, hb, hd, e0, e1, hp⟩ := H.out.get hlt
      obtain ⟨⟨g, o⟩, hg⟩ : ∃ D, closedD V ps = D := ⟨_, rfl⟩
      have HG := Lib.hid hg
      have HP := Lib.hid hp
      have HD := Lib.hid hd
      clear hg hp hd
      cases o with
      | true =>
        go_wp2_with (first | (go_at_call 51; ((with_reducible refine (closed31_D _ _ _ _ ps _ _ _ (RowF.exts HP.out (by repeat (first | exact Exts.refl _ | apply Exts.andR | apply Exts.alloc | apply Exts.wext | apply Exts.drew | apply Exts.drewN))) HG.out).mono ?_); rintro e w' ⟨rfl, x1, rfl⟩)))
        refine ⟨⟨k + 1, by omega, by go_num, (by repeat (first | exact Exts.refl _ | apply Exts.andR | apply Exts.alloc | apply Exts.wext | apply Exts.drew | apply Exts.drewN)), fun q hq => ?_⟩, ?_⟩
        · rw [List.take_add_one, HD.out, List.mem_append] at hq
          rcases hq with hq | hq
          · exact HI.out q hq
          · simp at hq
            rw [hq]
            show (closedD V ps).2 = true
            rw [HG.out]
        · simp [intOf]; omega
      | false =>
        have HR := Lib.hid (show rightD D = false by
          refine Bool.eq_false_iff.2 fun hc => ?_
          simp only [rightD, Bool.and_eq_true, List.all_eq_true] at hc
          have := hc.1 (V, ps) (List.mem_of_getElem? HD.out)
          simp only [HG.out] at this
          cases this)
        go_wp2_with (first | (go_at_call 51; ((with_reducible refine (closed31_D _ _ _ _ ps _ _ _ (RowF.exts HP.out (by repeat (first | exact Exts.refl _ | apply Exts.andR | apply Exts.alloc | apply Exts.wext | apply Exts.drew | apply Exts.drewN))) HG.out).mono ?_); rintro e w' ⟨rfl, x1, rfl⟩)))
        go_ret
        exact ⟨by rw [HR.out]; rfl, (by repeat (first | exact Exts.refl _ | apply Exts.andR | apply Exts.alloc | apply Exts.wext | apply Exts.drew | apply Exts.drewN))⟩
    · obtain rfl : k = n := by omega
      have htk : D.take k = D := List.take_of_length_le (by rw [HL.out]; exact Nat.le_refl _)
      have HR := Lib.hid (show rightD D = decide ((k : Int) ≤ 12) by
        have := HI.out
        rw [htk] at this
        simp only [rightD, HL.out, List.all_eq_true.2 this, Bool.true_and]
        rw [decide_eq_decide]
        omega)
      clear htk
      go_wp2
      go_ret
      exact ⟨by rw [HR.out]; first | rfl | (simp; done), (by repeat (first | exact Exts.refl _ | apply Exts.andR | apply Exts.alloc | apply Exts.wext | apply Exts.drew | apply Exts.drewN))⟩
theorem atleast21 {S : Nat → Prop} (V : Int) (po : Option Addr) (n c : Nat) (ps : List Pr) (aa bb : Int) (w : World) (h : Prs S w po n c ps) :
    Calls Try.prog 28 #[.agg #[.int .i64 V, .slice po n c], .int .i64 aa, .int .i64 bb] w fun e w' => e = .returned (.bool (atD V ps aa bb)) ∧ Exts w w' := by
  obtain ⟨⟨g, o⟩, hg⟩ : ∃ D, closedD V ps = D := ⟨_, rfl⟩
  have H := Lib.hid h
  have HG := Lib.hid hg
  clear h hg
  cases o with
  | false =>
    have HR := Lib.hid (show atD V ps aa bb = false by simp [atD, HG.out])
    go_enter Try.func28, Try.ntmps28
    go_wp2_with (first | (go_at_call 51; ((with_reducible refine (closed31_D _ _ _ _ ps _ _ _ (RowF.exts H.out (by repeat (first | exact Exts.refl _ | apply Exts.andR | apply Exts.alloc | apply Exts.wext | apply Exts.drew | apply Exts.drewN))) HG.out).mono ?_); rintro e w' ⟨rfl, x1, rfl⟩)))
    go_ret
    exact ⟨by rw [HR.out]; rfl, (by repeat (first | exact Exts.refl _ | apply Exts.andR | apply Exts.alloc | apply Exts.wext | apply Exts.drew | apply Exts.drewN))⟩
  | true =>
    have hV := (valid_in (closed_valid HG.out).1).1.2
    by_cases q0 : bb < aa
    · by_cases q1 : 0 ≤ bb
      · have c1 : decide (0 ≤ bb) = true := by simpa using q1
        by_cases q2 : aa < V
        · have c2 : decide (aa < V) = true := by simpa using q2
          obtain ⟨u, rfl⟩ : ∃ u : Nat, aa = u := ⟨aa.toNat, by omega⟩
          obtain ⟨v, rfl⟩ : ∃ v : Nat, bb = v := ⟨bb.toNat, by omega⟩
          have hu : u < 12 := by omega
          have hv : v < 12 := by omega
          have HR := Lib.hid (show atD V ps u v = g u v by
            have := HG.out
            simp only [atD, this, inV, Bool.true_and]
            rw [decide_eq_true (by omega : (0 : Int) ≤ u), decide_eq_true (by omega : (u : Int) < V), decide_eq_true (by omega : (0 : Int) ≤ v), decide_eq_true (by omega : (v : Int) < V)]
            rfl)
          go_enter Try.func28, Try.ntmps28
          go_wp2_with (first | (go_at_call 51; ((with_reducible refine (closed31_D _ _ _ _ ps _ _ _ (RowF.exts H.out (by repeat (first | exact Exts.refl _ | apply Exts.andR | apply Exts.alloc | apply Exts.wext | apply Exts.drew | apply Exts.drewN))) HG.out).mono ?_); rintro e w' ⟨rfl, x1, rfl⟩)))
          go_ret
          exact ⟨by rw [HR.out]; rfl, (by repeat (first | exact Exts.refl _ | apply Exts.andR | apply Exts.alloc | apply Exts.wext | apply Exts.drew | apply Exts.drewN))⟩
        · have c2 : decide (aa < V) = false := by simpa using q2
          have HR := Lib.hid (atD_out (ps := ps) (a := aa) (b := bb) (V := V) (by omega))
          go_enter Try.func28, Try.ntmps28
          go_wp2_with (first | (go_at_call 51; ((with_reducible refine (closed31_D _ _ _ _ ps _ _ _ (RowF.exts H.out (by repeat (first | exact Exts.refl _ | apply Exts.andR | apply Exts.alloc | apply Exts.wext | apply Exts.drew | apply Exts.drewN))) HG.out).mono ?_); rintro e w' ⟨rfl, x1, rfl⟩)))
          go_ret
          exact ⟨by rw [HR.out]; rfl, (by repeat (first | exact Exts.refl _ | apply Exts.andR | apply Exts.alloc | apply Exts.wext | apply Exts.drew | apply Exts.drewN))⟩
      · have c1 : decide (0 ≤ bb) = false := by simpa using q1
        have HR := Lib.hid (atD_out (ps := ps) (a := aa) (b := bb) (V := V) (by omega))
        go_enter Try.func28, Try.ntmps28
        go_wp2_with (first | (go_at_call 51; ((with_reducible refine (closed31_D _ _ _ _ ps _ _ _ (RowF.exts H.out (by repeat (first | exact Exts.refl _ | apply Exts.andR | apply Exts.alloc | apply Exts.wext | apply Exts.drew | apply Exts.drewN))) HG.out).mono ?_); rintro e w' ⟨rfl, x1, rfl⟩)))
        go_ret
        exact ⟨by rw [HR.out]; rfl, (by repeat (first | exact Exts.refl _ | apply Exts.andR | apply Exts.alloc | apply Exts.wext | apply Exts.drew | apply Exts.drewN))⟩
    · by_cases q3 : aa < bb
      · by_cases q1 : 0 ≤ aa
        · have c1 : decide (0 ≤ aa) = true := by simpa using q1
          by_cases q2 : bb < V
          · have c2 : decide (bb < V) = true := by simpa using q2
            obtain ⟨u, rfl⟩ : ∃ u : Nat, aa = u := ⟨aa.toNat, by omega⟩
            obtain ⟨v, rfl⟩ : ∃ v : Nat, bb = v := ⟨bb.toNat, by omega⟩
            have hu : u < 12 := by omega
            have hv : v < 12 := by omega
            have HR := Lib.hid (show atD V ps u v = g u v by
              have := HG.out
              simp only [atD, this, inV, Bool.true_and]
              rw [decide_eq_true (by omega : (0 : Int) ≤ u), decide_eq_true (by omega : (u : Int) < V), decide_eq_true (by omega : (0 : Int) ≤ v), decide_eq_true (by omega : (v : Int) < V)]
              rfl)
            go_enter Try.func28, Try.ntmps28
            go_wp2_with (first | (go_at_call 51; ((with_reducible refine (closed31_D _ _ _ _ ps _ _ _ (RowF.exts H.out (by repeat (first | exact Exts.refl _ | apply Exts.andR | apply Exts.alloc | apply Exts.wext | apply Exts.drew | apply Exts.drewN))) HG.out).mono ?_); rintro e w' ⟨rfl, x1, rfl⟩)))
            go_ret
            exact ⟨by rw [HR.out]; rfl, (by repeat (first | exact Exts.refl _ | apply Exts.andR | apply Exts.alloc | apply Exts.wext | apply Exts.drew | apply Exts.drewN))⟩
          · have c2 : decide (bb < V) = false := by simpa using q2
            have HR := Lib.hid (atD_out (ps := ps) (a := aa) (b := bb) (V := V) (by omega))
            go_enter Try.func28, Try.ntmps28
            go_wp2_with (first | (go_at_call 51; ((with_reducible refine (closed31_D _ _ _ _ ps _ _ _ (RowF.exts H.out (by repeat (first | exact Exts.refl _ | apply Exts.andR | apply Exts.alloc | apply Exts.wext | apply Exts.drew | apply Exts.drewN))) HG.out).mono ?_); rintro e w' ⟨rfl, x1, rfl⟩)))
            go_ret
            exact ⟨by rw [HR.out]; rfl, (by repeat (first | exact Exts.refl _ | apply Exts.andR | apply Exts.alloc | apply Exts.wext | apply Exts.drew | apply Exts.drewN))⟩
        · have c1 : decide (0 ≤ aa) = false := by simpa using q1
          have HR := Lib.hid (atD_out (ps := ps) (a := aa) (b := bb) (V := V) (by omega))
          go_enter Try.func28, Try.ntmps28
          go_wp2_with (first | (go_at_call 51; ((with_reducible refine (closed31_D _ _ _ _ ps _ _ _ (RowF.exts H.out (by repeat (first | exact Exts.refl _ | apply Exts.andR | apply Exts.alloc | apply Exts.wext | apply Exts.drew | apply Exts.drewN))) HG.out).mono ?_); rintro e w' ⟨rfl, x1, rfl⟩)))
          go_ret
          exact ⟨by rw [HR.out]; rfl, (by repeat (first | exact Exts.refl _ | apply Exts.andR | apply Exts.alloc | apply Exts.wext | apply Exts.drew | apply Exts.drewN))⟩
      · obtain rfl : aa = bb := by omega
        by_cases q1 : 0 ≤ aa
        · have c1 : decide (0 ≤ aa) = true := by simpa using q1
          by_cases q2 : aa < V
          · have c2 : decide (aa < V) = true := by simpa using q2
            obtain ⟨u, rfl⟩ : ∃ u : Nat, aa = u := ⟨aa.toNat, by omega⟩
            have hu : u < 12 := by omega
            have HR := Lib.hid (show atD V ps u u = g u u by
              have := HG.out
              simp only [atD, this, inV, Bool.true_and]
              rw [decide_eq_true (by omega : (0 : Int) ≤ u), decide_eq_true (by omega : (u : Int) < V)]
              rfl)
            go_enter Try.func28, Try.ntmps28
            go_wp2_with (first | (go_at_call 51; ((with_reducible refine (closed31_D _ _ _ _ ps _ _ _ (RowF.exts H.out (by repeat (first | exact Exts.refl _ | apply Exts.andR | apply Exts.alloc | apply Exts.wext | apply Exts.drew | apply Exts.drewN))) HG.out).mono ?_); rintro e w' ⟨rfl, x1, rfl⟩)))
            go_ret
            exact ⟨by rw [HR.out]; rfl, (by repeat (first | exact Exts.refl _ | apply Exts.andR | apply Exts.alloc | apply Exts.wext | apply Exts.drew | apply Exts.drewN))⟩
          · have c2 : decide (aa < V) = false := by simpa using q2
            have HR := Lib.hid (atD_out (ps := ps) (a := aa) (b := aa) (V := V) (by omega))
            go_enter Try.func28, Try.ntmps28
            go_wp2_with (first | (go_at_call 51; ((with_reducible refine (closed31_D _ _ _ _ ps _ _ _ (RowF.exts H.out (by repeat (first | exact Exts.refl _ | apply Exts.andR | apply Exts.alloc | apply Exts.wext | apply Exts.drew | apply Exts.drewN))) HG.out).mono ?_); rintro e w' ⟨rfl, x1, rfl⟩)))
            go_ret
            exact ⟨by rw [HR.out]; rfl, (by repeat (first | exact Exts.refl _ | apply Exts.andR | apply Exts.alloc | apply Exts.wext | apply Exts.drew | apply Exts.drewN))⟩
        · have c1 : decide (0 ≤ aa) = false := by simpa using q1
          have HR := Lib.hid (atD_out (ps := ps) (a := aa) (b := aa) (V := V) (by omega))
          go_enter Try.func28, Try.ntmps28
          go_wp2_with (first | (go_at_call 51; ((with_reducible refine (closed31_D _ _ _ _ ps _ _ _ (RowF.exts H.out (by repeat (first | exact Exts.refl _ | apply Exts.andR | apply Exts.alloc | apply Exts.wext | apply Exts.drew | apply Exts.drewN))) HG.out).mono ?_); rintro e w' ⟨rfl, x1, rfl⟩)))
          go_ret
          exact ⟨by rw [HR.out]; rfl, (by repeat (first | exact Exts.refl _ | apply Exts.andR | apply Exts.alloc | apply Exts.wext | apply Exts.drew | apply Exts.drewN))⟩
end Go.Proofs.Ytodgohilfbggjaa
