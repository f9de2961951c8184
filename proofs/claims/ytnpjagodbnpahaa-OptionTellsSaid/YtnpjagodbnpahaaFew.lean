/- Few of the reference: whether a right's numbers are small. No condition. -/
import Derived.Test.YtnpjagodbnpahaaSame
namespace Go.Proofs.Ytnpjagodbnpahaa
open Go.RowKit
set_option linter.unusedSimpArgs false
set_option linter.unusedVariables false

def fewB (P : List PhC) : Bool := decide (P.length ≤ 12) && P.all fun p => decide (p.1.length ≤ 20) && decide (p.2.length ≤ 20)
theorem fits_of_few {P : List PhC} (h : fewB P = true) : Fits P := by
  simp only [fewB, Bool.and_eq_true, decide_eq_true_eq, List.all_eq_true] at h
  exact ⟨by omega, fun p hp => by have := h.2 p hp; omega⟩
theorem few_len {P : List PhC} (h : fewB P = true) : P.length ≤ 12 := by
  simp only [fewB, Bool.and_eq_true, decide_eq_true_eq, List.all_eq_true] at h
  exact h.1
theorem few_not {P : List PhC} {k : Nat} {p : PhC} (hp : P[k]? = some p) (h : 20 < p.1.length ∨ 20 < p.2.length) : fewB P = false := by
  refine Bool.eq_false_iff.2 fun hf => ?_
  simp only [fewB, Bool.and_eq_true, decide_eq_true_eq, List.all_eq_true] at hf
  have := hf.2 p (List.mem_of_getElem? hp)
  omega
theorem few_yes {P : List PhC} (h1 : P.length ≤ 12) (h2 : ∀ i p, i < P.length → P[i]? = some p → p.1.length ≤ 20 ∧ p.2.length ≤ 20) : fewB P = true := by
  simp only [fewB, Bool.and_eq_true, decide_eq_true_eq, List.all_eq_true]
  refine ⟨h1, fun p hp => ?_⟩
  obtain ⟨i, hi⟩ := List.getElem?_of_mem hp
  exact h2 i p (List.getElem?_eq_some_iff.1 hi).1 hi

set_option maxRecDepth 100000
set_option maxHeartbeats 2000000 in
theorem few9 (id ho lot us un : Int) (ov : Bool) (ao : Option Addr) (ca : Nat) (P : List PhC) (w : World) {S : Nat → Prop} (h : Phs S w (.slice ao P.length ca) P) :
    Calls Try.prog 9 #[rightV id ho lot (.slice ao P.length ca) us un ov] w fun e w' => e = .returned (.bool (fewB P)) ∧ Exts w w' := by
  have H := Lib.hid h
  obtain ⟨f1, f2, _, _⟩ := h.facts
  unfold maxLen at f2
  clear h
  by_cases hl : P.length ≤ 12
  · have b1 : decide (12 < P.length) = false := by simp; omega
    go_enter Try.func9, Try.ntmps9
    go_wp2
    go_loopw [3] (fun i wr => ∃ (k : Nat) (x : Ex), k ≤ P.length ∧ i = .int .i64 k ∧ wr = wext (w.alloc (.cells #[.int .i64 id, .int .i64 ho, .int .i64 lot, .slice ao P.length ca, .int .i64 us, .int .i64 un, .bool ov] 26)) x ∧ ∀ i p, i < k → P[i]? = some p → p.1.length ≤ 20 ∧ p.2.length ≤ 20) (fun i _ => P.length - (intOf i).toNat)
    case atStart => exact ⟨0, _, by omega, rfl, (wext_self _).symm, fun i p hi => by omega⟩
    case round =>
      obtain ⟨k, x, hk, rfl, rfl, hin⟩ := hrel
      by_cases hlt : k < P.length
      · obtain ⟨p, hp⟩ : ∃ q, P[k]? = some q := ⟨P[k], List.getElem?_eq_getElem hlt⟩
        obtain ⟨b, off, aa, ca', ab, cb', rfl, hb, _, e0, e1, v1, v2⟩ := H.out.get hp
        have n1 := RowF.nle v1
        have n2 := RowF.nle v2
        unfold maxLen at n1 n2
        have HI := Lib.hid hin
        clear v1 v2 hin
        by_cases c1 : 20 < p.1.length
        · have HR := Lib.hid (few_not hp (.inl c1))
          go_wp2
          go_ret
          exact ⟨by rw [HR.out]; rfl, (by repeat (first | exact Exts.refl _ | apply Exts.andR | apply Exts.alloc | apply Exts.wext | apply Exts.drew | apply Exts.drewN))⟩
        · by_cases c2 : 20 < p.2.length
          · have HR := Lib.hid (few_not hp (.inr c2))
            have b2 : decide (20 < p.1.length) = false := by simpa using c1
            go_wp2
            go_ret
            exact ⟨by rw [HR.out]; rfl, (by repeat (first | exact Exts.refl _ | apply Exts.andR | apply Exts.alloc | apply Exts.wext | apply Exts.drew | apply Exts.drewN))⟩
          · have b2 : decide (20 < p.1.length) = false := by simpa using c1
            have b3 : decide (20 < p.2.length) = false := by simpa using c2
            go_wp2
            go_roundw
            case rel =>
              refine ⟨k + 1, x, by omega, by go_num, rfl, fun i q hi hq => ?_⟩
              by_cases hik : i < k
              · exact HI.out i q hik hq
              · obtain rfl : i = k := by omega
                rw [hp] at hq
                cases hq
                omega
            case measure => simp [intOf]; omega
      · obtain rfl : k = P.length := by omega
        have HR := Lib.hid (few_yes hl hin)
        clear hin
        go_wp2
        go_ret
        exact ⟨by rw [HR.out]; rfl, (by repeat (first | exact Exts.refl _ | apply Exts.andR | apply Exts.alloc | apply Exts.wext | apply Exts.drew | apply Exts.drewN))⟩
  · have hr : fewB P = false := by simp [fewB, hl]
    have HR := Lib.hid hr
    clear hr
    have b1 : decide (12 < P.length) = true := by simp; omega
    go_enter Try.func9, Try.ntmps9
    go_wp2
    go_ret
    exact ⟨by rw [HR.out]; rfl, (by repeat (first | exact Exts.refl _ | apply Exts.andR | apply Exts.alloc | apply Exts.wext | apply Exts.drew | apply Exts.drewN))⟩
end Go.Proofs.Ytnpjagodbnpahaa
