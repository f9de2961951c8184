/- Dimensions: pairs of values; valid and steps of package factor. -/
import Derived.Test.YtbafcfbchbjgfaaReach
import Derived.Test.YtbafcfbchbjgfaaAppend
namespace Go.Proofs.Ytbafcfbchbjgfaa
open Go.RowKit
set_option linter.unusedSimpArgs false
set_option linter.unusedVariables false

abbrev Pr := Int × Int
def prCells (p : Pr) : List Value := [.int .i64 p.1, .int .i64 p.2]
def prFlat (ps : List Pr) : List Value := (ps.map prCells).flatten
theorem prFlat_at (ps : List Pr) (i j : Nat) (hj : j < 2) : (prFlat ps)[i * 2 + j]? = (ps[i]?).bind fun t => (prCells t)[j]? := by
  unfold prFlat
  rw [flatten_at _ (by intro x hx; rw [List.mem_map] at hx; obtain ⟨v, _, rfl⟩ := hx; rfl) i j hj, List.getElem?_map]
  cases ps[i]? <;> rfl
theorem prFlat_len (ps : List Pr) : (prFlat ps).length = ps.length * 2 := by
  unfold prFlat
  rw [flatten_len (k := 2) _ (by intro x hx; rw [List.mem_map] at hx; obtain ⟨v, _, rfl⟩ := hx; rfl), List.length_map]
abbrev Prs (S : Nat → Prop) (w : World) (po : Option Addr) (n c : Nat) (ps : List Pr) : Prop := RowF S 2 w (.slice po n c) n (prFlat ps)
theorem Prs.len {S : Nat → Prop} {w : World} {po : Option Addr} {n c : Nat} {ps : List Pr} (h : Prs S w po n c ps) : ps.length = n := by
  have := RowF.len h
  rw [prFlat_len] at this
  omega
theorem Prs.get {S : Nat → Prop} {w : World} {po : Option Addr} {n c : Nat} {ps : List Pr} (h : Prs S w po n c ps) {i : Nat} (hi : i < n) :
    ∃ b off p, po = some ⟨b, off, none⟩ ∧ b < w.heap.size ∧ ps[i]? = some p ∧ w.cell? ⟨b, off + i * 2, none⟩ = some (.int .i64 p.1) ∧ w.cell? ⟨b, off + i * 2 + 1, none⟩ = some (.int .i64 p.2) := by
  have hl := h.len
  obtain ⟨h1, ao2, cap2, hv, h2, h3, h4, h5⟩ := h
  simp only [Value.slice.injEq, true_and] at hv
  obtain ⟨rfl, rfl⟩ := hv
  obtain ⟨b, off, rfl, hS, hb, hc⟩ := h5 (by omega)
  have hp : ps[i]? = some ps[i] := List.getElem?_eq_getElem (by omega)
  have g : ∀ j c, j < 2 → (prCells ps[i])[j]? = some c → w.cell? ⟨b, off + i * 2 + j, none⟩ = some c := by
    intro j c hj he
    rw [Nat.add_assoc]
    exact hc _ _ (by rw [prFlat_at ps i j hj, hp]; exact he)
  exact ⟨b, off, _, rfl, hb, hp, g 0 _ (by omega) rfl, g 1 _ (by omega) rfl⟩

def prIn (V : Int) (p : Pr) : Bool := decide (0 ≤ p.1) && decide (p.1 < V) && (decide (0 ≤ p.2) && decide (p.2 < V))
def validB (V : Int) (ps : List Pr) : Bool := decide (1 ≤ V) && decide (V ≤ 12) && (decide (ps.length ≤ 144) && ps.all (prIn V))
def pairRel (ps : List Pr) : Rel := fun a b => ps.any fun p => p.1 == (a : Int) && p.2 == (b : Int)
theorem pairRel_next (ps : List Pr) (k a b : Nat) (h : ps[k]? = some ((a : Int), (b : Int))) : upd (pairRel (ps.take k)) a b true = pairRel (ps.take (k + 1)) := by
  funext x y
  unfold upd pairRel
  rw [List.take_add_one, h, List.any_append]
  by_cases hx : x = a ∧ y = b
  · rw [if_pos hx]
    simp [hx.1, hx.2]
  · rw [if_neg hx]
    have : (((a : Int) == (x : Int)) && ((b : Int) == (y : Int))) = false := by
      refine Bool.eq_false_iff.2 fun hc => hx ?_
      simp at hc
      omega
    simp [this]
set_option maxRecDepth 100000
set_option maxHeartbeats 1000000
theorem steps34 {S : Nat → Prop} (V : Int) (po : Option Addr) (n c : Nat) (ps : List Pr) (w : World) (h : Prs S w po n c ps) (hin : ∀ p ∈ ps, 0 ≤ p.1 ∧ p.1 < 12 ∧ 0 ≤ p.2 ∧ p.2 < 12) :
    Calls Try.prog 34 #[.agg #[.int .i64 V, .slice po n c]] w fun e w' => e = .returned (.agg (matC (pairRel ps))) ∧ Exts w w' := by
  have hl := h.len
  have hm := h.nle
  unfold maxLen at hm
  have H := Lib.hid h
  have HIN := Lib.hid hin
  have HL := Lib.hid hl
  clear h hin hl
  go_enter Try.func34, Try.ntmps34
  go_wp2
  go_loopw [9] (fun i wr => ∃ (k : Nat), k ≤ n ∧ i = .int .i64 k ∧ Exts (((w.alloc (.cells #[.int .i64 V, .slice po n c] 24)).alloc (.cells (matC noRel) 52)).alloc (.cells (matC (pairRel (ps.take k))) 52)) wr) (fun i _ => n - (intOf i).toNat)
  case atStart => exact ⟨0, by omega, rfl, Exts.refl _⟩
  case round =>
    obtain ⟨k, hk, rfl, x, rfl⟩ := hrel
    by_cases hlt : k < n
    · obtain ⟨b, off, ⟨p1, p2⟩, rfl, hb, hp, e0, e1⟩ := H.out.get hlt
      obtain ⟨q1, q2, q3, q4⟩ := HIN.out _ (List.mem_of_getElem? hp)
      simp only at q1 q2 q3 q4 e0 e1
      obtain ⟨a, rfl⟩ : ∃ a : Nat, p1 = a := ⟨p1.toNat, by omega⟩
      obtain ⟨d, rfl⟩ : ∃ d : Nat, p2 = d := ⟨p2.toNat, by omega⟩
      have ha : a < 12 := by omega
      have hd : d < 12 := by omega
      have HN := Lib.hid (pairRel_next ps k a d hp)
      clear hp q1 q3
      go_wp2
      go_region
      rw [HN.out]
      go_wp2
      refine ⟨⟨k + 1, by omega, by go_num, (by repeat (first | exact Exts.refl _ | apply Exts.andR | apply Exts.alloc | apply Exts.wext | apply Exts.drew | apply Exts.drewN))⟩, ?_⟩
      simp [intOf]; omega
    · obtain rfl : k = n := by omega
      have htk : ps.take k = ps := List.take_of_length_le (by rw [HL.out]; exact Nat.le_refl _)
      rw [htk]
      go_wp2
      refine bodyPost_ret (v := .agg (matC (pairRel ps))) (res52 rfl _ _ _ _ rfl (by simp [go_sem]) (by simp [go_sem])) rfl ⟨rfl, (by repeat (first | exact Exts.refl _ | apply Exts.andR | apply Exts.alloc | apply Exts.wext | apply Exts.drew | apply Exts.drewN))⟩

theorem valid_no {V : Int} {ps : List Pr} {p : Pr} (h : p ∈ ps) (hp : prIn V p = false) : validB V ps = false := by
  have : ps.all (prIn V) = false := by
    refine Bool.eq_false_iff.2 fun hc => ?_
    rw [List.all_eq_true.1 hc p h] at hp
    cases hp
  simp [validB, this]
theorem valid_in {V : Int} {ps : List Pr} (h : validB V ps = true) : (1 ≤ V ∧ V ≤ 12) ∧ ps.length ≤ 144 ∧ ∀ p ∈ ps, 0 ≤ p.1 ∧ p.1 < V ∧ 0 ≤ p.2 ∧ p.2 < V := by
  simp only [validB, Bool.and_eq_true, decide_eq_true_eq, List.all_eq_true, prIn] at h
  exact ⟨h.1, h.2.1, fun p hp => ⟨(h.2.2 p hp).1.1, (h.2.2 p hp).1.2, (h.2.2 p hp).2.1, (h.2.2 p hp).2.2⟩⟩
theorem valid_bad {V : Int} {ps : List Pr} (h : ¬ (1 ≤ V ∧ V ≤ 12 ∧ ps.length ≤ 144)) : validB V ps = false := by
  refine Bool.eq_false_iff.2 fun hc => h ?_
  obtain ⟨⟨h1, h2⟩, h3, _⟩ := valid_in hc
  exact ⟨h1, h2, h3⟩
theorem valid32 {S : Nat → Prop} (V : Int) (po : Option Addr) (n c : Nat) (ps : List Pr) (w : World) (h : Prs S w po n c ps) :
    Calls Try.prog 32 #[.agg #[.int .i64 V, .slice po n c]] w fun e w' => e = .returned (.bool (validB V ps)) ∧ Exts w w' := by
  have hl := h.len
  have hm := h.nle
  unfold maxLen at hm
  have H := Lib.hid h
  have HL := Lib.hid hl
  by_cases h1 : 1 ≤ V
  · have b1 : decide (V < 1) = false := by simp; omega
    by_cases h2 : V ≤ 12
    · have b2 : decide (12 < V) = false := by simp; omega
      by_cases h3 : n ≤ 144
      · have b3 : decide ((144 : Int) < (n : Int)) = false := by simp; omega
        clear h hl
        go_enter Try.func32, Try.ntmps32
        go_wp2
        go_loopw [22] (fun i wr => ∃ (k : Nat), k ≤ n ∧ i = .int .i64 k ∧ Exts (w.alloc (.cells #[.int .i64 V, .slice po n c] 24)) wr ∧ ∀ p ∈ ps.take k, prIn V p = true) (fun i _ => n - (intOf i).toNat)
        case atStart => exact ⟨0, by omega, rfl, Exts.refl _, by simp⟩
        case round =>
          obtain ⟨k, hk, rfl, ⟨x, rfl⟩, hin⟩ := hrel
          have HI := Lib.hid hin
          clear hin
          by_cases hlt : k < n
          · obtain ⟨b, off, ⟨p1, p2⟩, rfl, hb, hp, e0, e1⟩ := H.out.get hlt
            simp only at e0 e1
            have HP := Lib.hid hp
            clear hp
            by_cases q0 : p2 < p1
            · by_cases q1 : p2 < 0
              · have HR := Lib.hid (valid_no (V := V) (List.mem_of_getElem? HP.out) (by simp [prIn]; omega))
                have c1 : decide (p2 < 0) = true := by simpa using q1
                go_wp2
                go_ret
                exact ⟨by rw [HR.out]; rfl, (by repeat (first | exact Exts.refl _ | apply Exts.andR | apply Exts.alloc | apply Exts.wext | apply Exts.drew | apply Exts.drewN))⟩
              · have c1 : decide (p2 < 0) = false := by simpa using q1
                by_cases q2 : V ≤ p1
                · have HR := Lib.hid (valid_no (V := V) (List.mem_of_getElem? HP.out) (by simp [prIn]; omega))
                  have c2 : decide (V ≤ p1) = true := by simpa using q2
                  go_wp2
                  go_ret
                  exact ⟨by rw [HR.out]; rfl, (by repeat (first | exact Exts.refl _ | apply Exts.andR | apply Exts.alloc | apply Exts.wext | apply Exts.drew | apply Exts.drewN))⟩
                · have c2 : decide (V ≤ p1) = false := by simpa using q2
                  have HQ := Lib.hid (show prIn V (p1, p2) = true by simp [prIn]; omega)
                  go_wp2
                  refine ⟨⟨k + 1, by omega, by go_num, (by repeat (first | exact Exts.refl _ | apply Exts.andR | apply Exts.alloc | apply Exts.wext | apply Exts.drew | apply Exts.drewN)), fun q hq => ?_⟩, ?_⟩
                  · rw [List.take_add_one, HP.out, List.mem_append] at hq
                    rcases hq with hq | hq
                    · exact HI.out q hq
                    · simp at hq
                      rw [hq]
                      exact HQ.out
                  · simp [intOf]; omega
            · by_cases q3 : p1 < p2
              · by_cases q1 : p1 < 0
                · have HR := Lib.hid (valid_no (V := V) (List.mem_of_getElem? HP.out) (by simp [prIn]; omega))
                  have c1 : decide (p1 < 0) = true := by simpa using q1
                  go_wp2
                  go_ret
                  exact ⟨by rw [HR.out]; rfl, (by repeat (first | exact Exts.refl _ | apply Exts.andR | apply Exts.alloc | apply Exts.wext | apply Exts.drew | apply Exts.drewN))⟩
                · have c1 : decide (p1 < 0) = false := by simpa using q1
                  by_cases q2 : V ≤ p2
                  · have HR := Lib.hid (valid_no (V := V) (List.mem_of_getElem? HP.out) (by simp [prIn]; omega))
                    have c2 : decide (V ≤ p2) = true := by simpa using q2
                    go_wp2
                    go_ret
                    exact ⟨by rw [HR.out]; rfl, (by repeat (first | exact Exts.refl _ | apply Exts.andR | apply Exts.alloc | apply Exts.wext | apply Exts.drew | apply Exts.drewN))⟩
                  · have c2 : decide (V ≤ p2) = false := by simpa using q2
                    have HQ := Lib.hid (show prIn V (p1, p2) = true by simp [prIn]; omega)
                    go_wp2
                    refine ⟨⟨k + 1, by omega, by go_num, (by repeat (first | exact Exts.refl _ | apply Exts.andR | apply Exts.alloc | apply Exts.wext | apply Exts.drew | apply Exts.drewN)), fun q hq => ?_⟩, ?_⟩
                    · rw [List.take_add_one, HP.out, List.mem_append] at hq
                      rcases hq with hq | hq
                      · exact HI.out q hq
                      · simp at hq
                        rw [hq]
                        exact HQ.out
                    · simp [intOf]; omega
              · obtain rfl : p1 = p2 := by omega
                by_cases q1 : p1 < 0
                · have HR := Lib.hid (valid_no (V := V) (List.mem_of_getElem? HP.out) (by simp [prIn]; omega))
                  have c1 : decide (p1 < 0) = true := by simpa using q1
                  go_wp2
                  go_ret
                  exact ⟨by rw [HR.out]; rfl, (by repeat (first | exact Exts.refl _ | apply Exts.andR | apply Exts.alloc | apply Exts.wext | apply Exts.drew | apply Exts.drewN))⟩
                · have c1 : decide (p1 < 0) = false := by simpa using q1
                  by_cases q2 : V ≤ p1
                  · have HR := Lib.hid (valid_no (V := V) (List.mem_of_getElem? HP.out) (by simp [prIn]; omega))
                    have c2 : decide (V ≤ p1) = true := by simpa using q2
                    go_wp2
                    go_ret
                    exact ⟨by rw [HR.out]; rfl, (by repeat (first | exact Exts.refl _ | apply Exts.andR | apply Exts.alloc | apply Exts.wext | apply Exts.drew | apply Exts.drewN))⟩
                  · have c2 : decide (V ≤ p1) = false := by simpa using q2
                    have HQ := Lib.hid (show prIn V (p1, p1) = true by simp [prIn]; omega)
                    go_wp2
                    refine ⟨⟨k + 1, by omega, by go_num, (by repeat (first | exact Exts.refl _ | apply Exts.andR | apply Exts.alloc | apply Exts.wext | apply Exts.drew | apply Exts.drewN)), fun q hq => ?_⟩, ?_⟩
                    · rw [List.take_add_one, HP.out, List.mem_append] at hq
                      rcases hq with hq | hq
                      · exact HI.out q hq
                      · simp at hq
                        rw [hq]
                        exact HQ.out
                    · simp [intOf]; omega
          · obtain rfl : k = n := by omega
            have htk : ps.take k = ps := List.take_of_length_le (by rw [HL.out]; exact Nat.le_refl _)
            have HR := Lib.hid (show validB V ps = true by
              have := HI.out
              rw [htk] at this
              have hlen := HL.out
              simp only [validB, Bool.and_eq_true, decide_eq_true_eq, List.all_eq_true]
              exact ⟨⟨h1, h2⟩, by omega, this⟩)
            clear htk
            go_wp2
            go_ret
            exact ⟨by rw [HR.out]; rfl, (by repeat (first | exact Exts.refl _ | apply Exts.andR | apply Exts.alloc | apply Exts.wext | apply Exts.drew | apply Exts.drewN))⟩
      · have b3 : decide ((144 : Int) < (n : Int)) = true := by simp; omega
        have HR := Lib.hid (valid_bad (V := V) (ps := ps) (by omega))
        clear h hl
        go_enter Try.func32, Try.ntmps32
        go_wp2
        go_ret
        exact ⟨by rw [HR.out]; rfl, (by repeat (first | exact Exts.refl _ | apply Exts.andR | apply Exts.alloc | apply Exts.wext | apply Exts.drew | apply Exts.drewN))⟩
    · have b2 : decide (12 < V) = true := by simp; omega
      have HR := Lib.hid (valid_bad (V := V) (ps := ps) (by omega))
      clear h hl
      go_enter Try.func32, Try.ntmps32
      go_wp2
      go_ret
      exact ⟨by rw [HR.out]; rfl, (by repeat (first | exact Exts.refl _ | apply Exts.andR | apply Exts.alloc | apply Exts.wext | apply Exts.drew | apply Exts.drewN))⟩
  · have b1 : decide (V < 1) = true := by simp; omega
    have HR := Lib.hid (valid_bad (V := V) (ps := ps) (by omega))
    clear h hl
    go_enter Try.func32, Try.ntmps32
    go_wp2
    go_ret
    exact ⟨by rw [HR.out]; rfl, (by repeat (first | exact Exts.refl _ | apply Exts.andR | apply Exts.alloc | apply Exts.wext | apply Exts.drew | apply Exts.drewN))⟩
end Go.Proofs.Ytbafcfbchbjgfaa
