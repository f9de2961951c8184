/- Join of package factor. -/
import Derived.Test.YtbafcfbchbjgfaaBelow
namespace Go.Proofs.Ytbafcfbchbjgfaa
open Go.RowKit
set_option linter.unusedSimpArgs false
set_option linter.unusedVariables false

def leastK (g : Rel) (u v c k : Nat) : Bool := (g u c && g v c) && (List.range k).all fun d => (!g u d || !g v d) || g c d
theorem leastK_zero (g : Rel) (u v c : Nat) : leastK g u v c 0 = (g u c && g v c) := by simp [leastK]
theorem leastK_next (g : Rel) (u v c k : Nat) : leastK g u v c (k + 1) = (leastK g u v c k && ((!g u k || !g v k) || g c k)) := by
  unfold leastK
  rw [List.range_succ, List.all_append, ← Bool.and_assoc]
  simp
def joinF (g : Rel) (V u v : Nat) : Option Nat := (List.range V).find? fun c => leastK g u v c V
def outO (o : Option Nat) : Int × Bool := match o with | some c => ((c : Int), true) | none => (0, false)
noncomputable def joinD (V : Int) (ps : List Pr) (a b : Int) : Int × Bool := if (closedD V ps).2 && (inV V a && inV V b) then outO (joinF (closedD V ps).1 V.toNat a.toNat b.toNat) else (0, false)
theorem join_out {V : Int} {ps : List Pr} {a b : Int} (h : ¬ (0 ≤ a ∧ a < V ∧ 0 ≤ b ∧ b < V)) : joinD V ps a b = (0, false) := if_neg (by
  intro hc
  simp only [inV, Bool.and_eq_true, decide_eq_true_eq] at hc
  exact h ⟨hc.2.1.1, hc.2.1.2, hc.2.2.1, hc.2.2.2⟩)
theorem join_in {V : Nat} {ps : List Pr} {u v : Nat} {g : Rel} (hg : closedD V ps = (g, true)) (hu : u < V) (hv : v < V) : joinD V ps u v = outO (joinF g V u v) := by
  unfold joinD
  rw [if_pos (by rw [hg]; simp [inV, hu, hv]), hg]
  simp
theorem find_range {p : Nat → Bool} {n k : Nat} (hk : k < n) (h1 : ∀ i, i < k → p i = false) (h2 : p k = true) : (List.range n).find? p = some k := by
  rw [List.find?_eq_some_iff_getElem]
  refine ⟨h2, k, by simpa using hk, by simp, fun j hj => ?_⟩
  simp [h1 j hj]
theorem find_none {p : Nat → Bool} {n : Nat} (h1 : ∀ i, i < n → p i = false) : (List.range n).find? p = none := by
  rw [List.find?_eq_none]
  intro x hx
  simp [h1 x (List.mem_range.1 hx)]
set_option maxRecDepth 100000
set_option maxHeartbeats 2000000
theorem join13_lt {S : Nat → Prop} (V : Nat) (po : Option Addr) (n c : Nat) (ps : List Pr) (g : Rel) (u v : Nat) (w : World) (h : Prs S w po n c ps) (hg : closedD V ps = (g, true)) (hu : u < V) (hv : v < V) (q : u < v) :
    Calls Try.prog 13 #[.agg #[.int .i64 V, .slice po n c], .int .i64 u, .int .i64 v] w fun e w' => e = .returned (.tuple #[.int .i64 (outO (joinF g V u v)).1, .bool (outO (joinF g V u v)).2]) ∧ Exts w w' := by
  have hV := (valid_in (closed_valid hg).1).1.2
  have H := Lib.hid h
  have HG := Lib.hid hg
  have c1 : decide ((u : Int) < 0) = false := by simp
  have c2 : decide ((v : Int) < 0) = false := by simp
  have c3 : decide ((V : Int) ≤ (u : Int)) = false := by simp; omega
  have c4 : decide ((V : Int) ≤ (v : Int)) = false := by simp; omega
  have hu2 : u < 12 := by omega
  have hv2 : v < 12 := by omega
  clear h hg
  have q' : (u : Int) < (v : Int) := by omega
  go_enter Try.func13, Try.ntmps13
  go_wp2_with (first | (go_at_call 31; ((with_reducible refine (closed31_D _ _ _ _ ps _ _ _ (RowF.exts H.out (by repeat (first | exact Exts.refl _ | apply Exts.andR | apply Exts.alloc | apply Exts.wext | apply Exts.drew | apply Exts.drewN))) HG.out).mono ?_); rintro e w' ⟨rfl, x1, rfl⟩)))
  go_loopw [36] (fun i wr => ∃ (k : Nat), k ≤ V ∧ i = .int .i64 k ∧ Exts ((wext (w.alloc (.cells #[.int .i64 V, .slice po n c] 24)) x1).alloc (.cells (matC g) 52)) wr ∧ ∀ i, i < k → leastK g u v i V = false) (fun i _ => V - (intOf i).toNat)
  case atStart => exact ⟨0, by omega, rfl, (by repeat (first | exact Exts.refl _ | apply Exts.andR | apply Exts.alloc | apply Exts.wext | apply Exts.drew | apply Exts.drewN)), fun i hi => by omega⟩
  case round =>
    obtain ⟨k, hk, rfl, ⟨x, rfl⟩, hin⟩ := hrel
    have HI := Lib.hid hin
    clear hin
    by_cases hlt : k < V
    · have hk12 : k < 12 := by omega
      cases hgu : g u k with
      | false =>
        cases hgv : g v k with
        | false =>
          have HGU := Lib.hid hgu
          have HGV := Lib.hid hgv
          go_wp2
          go_loopw [11, 53] (fun l d wr => ∃ (e : Nat), e ≤ V ∧ d = .int .i64 e ∧ l = .bool (leastK g u v k e) ∧ Exts ((wext (w.alloc (.cells #[.int .i64 V, .slice po n c] 24)) x1).alloc (.cells (matC g) 52)) wr) (fun _ d _ => V - (intOf d).toNat)
          case atStart => exact ⟨0, by omega, rfl, by rw [leastK_zero]; simp [HGU.out, HGV.out], (by repeat (first | exact Exts.refl _ | apply Exts.andR | apply Exts.alloc | apply Exts.wext | apply Exts.drew | apply Exts.drewN))⟩
          case round =>
            obtain ⟨e, he, rfl, rfl, x, rfl⟩ := hrel
            by_cases helt : e < V
            · have he12 : e < 12 := by omega
              cases hL : leastK g u v k e with
              | false =>
                have HE := Lib.hid (show leastK g u v k (e + 1) = false by rw [leastK_next]; simp [hL])
                go_wp2
                refine ⟨⟨e + 1, by omega, by go_num, by rw [HE.out], (by repeat (first | exact Exts.refl _ | apply Exts.andR | apply Exts.alloc | apply Exts.wext | apply Exts.drew | apply Exts.drewN))⟩, ?_⟩
                simp [intOf]; omega
              | true =>
                cases hU : g u e with
                | false =>
                  have HE := Lib.hid (show leastK g u v k (e + 1) = true by rw [leastK_next]; simp [hL, hU])
                  go_wp2
                  refine ⟨⟨e + 1, by omega, by go_num, by rw [HE.out], (by repeat (first | exact Exts.refl _ | apply Exts.andR | apply Exts.alloc | apply Exts.wext | apply Exts.drew | apply Exts.drewN))⟩, ?_⟩
                  simp [intOf]; omega
                | true =>
                  cases hV : g v e with
                  | false =>
                    have HE := Lib.hid (show leastK g u v k (e + 1) = true by rw [leastK_next]; simp [hL, hU, hV])
                    go_wp2
                    refine ⟨⟨e + 1, by omega, by go_num, by rw [HE.out], (by repeat (first | exact Exts.refl _ | apply Exts.andR | apply Exts.alloc | apply Exts.wext | apply Exts.drew | apply Exts.drewN))⟩, ?_⟩
                    simp [intOf]; omega
                  | true =>
                    cases hC : g k e with
                    | false =>
                      have HE := Lib.hid (show leastK g u v k (e + 1) = false by rw [leastK_next]; simp [hL, hU, hV, hC])
                      go_wp2
                      refine ⟨⟨e + 1, by omega, by go_num, by rw [HE.out], (by repeat (first | exact Exts.refl _ | apply Exts.andR | apply Exts.alloc | apply Exts.wext | apply Exts.drew | apply Exts.drewN))⟩, ?_⟩
                      simp [intOf]; omega
                    | true =>
                      have HE := Lib.hid (show leastK g u v k (e + 1) = true by rw [leastK_next]; simp [hL, hU, hV, hC])
                      go_wp2
                      refine ⟨⟨e + 1, by omega, by go_num, by rw [HE.out], (by repeat (first | exact Exts.refl _ | apply Exts.andR | apply Exts.alloc | apply Exts.wext | apply Exts.drew | apply Exts.drewN))⟩, ?_⟩
                      simp [intOf]; omega

            · obtain rfl : e = V := by omega
              cases hL : leastK g u v k e with
              | true =>
                have HR := Lib.hid (show joinF g e u v = some k from find_range hlt HI.out hL)
                go_wp2
                go_ret2
                exact ⟨by rw [HR.out]; rfl, (by repeat (first | exact Exts.refl _ | apply Exts.andR | apply Exts.alloc | apply Exts.wext | apply Exts.drew | apply Exts.drewN))⟩
              | false =>
                have HN := Lib.hid hL
                go_wp2
                refine ⟨⟨k + 1, by omega, by go_num, (by repeat (first | exact Exts.refl _ | apply Exts.andR | apply Exts.alloc | apply Exts.wext | apply Exts.drew | apply Exts.drewN)), fun i hi => ?_⟩, ?_⟩
                · by_cases hik : i = k
                  · rw [hik]; exact HN.out
                  · exact HI.out i (by omega)
                · simp [intOf]; omega
        | true =>
          have HGU := Lib.hid hgu
          have HGV := Lib.hid hgv
          go_wp2
          go_loopw [11, 53] (fun l d wr => ∃ (e : Nat), e ≤ V ∧ d = .int .i64 e ∧ l = .bool (leastK g u v k e) ∧ Exts ((wext (w.alloc (.cells #[.int .i64 V, .slice po n c] 24)) x1).alloc (.cells (matC g) 52)) wr) (fun _ d _ => V - (intOf d).toNat)
          case atStart => exact ⟨0, by omega, rfl, by rw [leastK_zero]; simp [HGU.out, HGV.out], (by repeat (first | exact Exts.refl _ | apply Exts.andR | apply Exts.alloc | apply Exts.wext | apply Exts.drew | apply Exts.drewN))⟩
          case round =>
            obtain ⟨e, he, rfl, rfl, x, rfl⟩ := hrel
            by_cases helt : e < V
            · have he12 : e < 12 := by omega
              cases hL : leastK g u v k e with
              | false =>
                have HE := Lib.hid (show leastK g u v k (e + 1) = false by rw [leastK_next]; simp [hL])
                go_wp2
                refine ⟨⟨e + 1, by omega, by go_num, by rw [HE.out], (by repeat (first | exact Exts.refl _ | apply Exts.andR | apply Exts.alloc | apply Exts.wext | apply Exts.drew | apply Exts.drewN))⟩, ?_⟩
                simp [intOf]; omega
              | true =>
                cases hU : g u e with
                | false =>
                  have HE := Lib.hid (show leastK g u v k (e + 1) = true by rw [leastK_next]; simp [hL, hU])
                  go_wp2
                  refine ⟨⟨e + 1, by omega, by go_num, by rw [HE.out], (by repeat (first | exact Exts.refl _ | apply Exts.andR | apply Exts.alloc | apply Exts.wext | apply Exts.drew | apply Exts.drewN))⟩, ?_⟩
                  simp [intOf]; omega
                | true =>
                  cases hV : g v e with
                  | false =>
                    have HE := Lib.hid (show leastK g u v k (e + 1) = true by rw [leastK_next]; simp [hL, hU, hV])
                    go_wp2
                    refine ⟨⟨e + 1, by omega, by go_num, by rw [HE.out], (by repeat (first | exact Exts.refl _ | apply Exts.andR | apply Exts.alloc | apply Exts.wext | apply Exts.drew | apply Exts.drewN))⟩, ?_⟩
                    simp [intOf]; omega
                  | true =>
                    cases hC : g k e with
                    | false =>
                      have HE := Lib.hid (show leastK g u v k (e + 1) = false by rw [leastK_next]; simp [hL, hU, hV, hC])
                      go_wp2
                      refine ⟨⟨e + 1, by omega, by go_num, by rw [HE.out], (by repeat (first | exact Exts.refl _ | apply Exts.andR | apply Exts.alloc | apply Exts.wext | apply Exts.drew | apply Exts.drewN))⟩, ?_⟩
                      simp [intOf]; omega
                    | true =>
                      have HE := Lib.hid (show leastK g u v k (e + 1) = true by rw [leastK_next]; simp [hL, hU, hV, hC])
                      go_wp2
                      refine ⟨⟨e + 1, by omega, by go_num, by rw [HE.out], (by repeat (first | exact Exts.refl _ | apply Exts.andR | apply Exts.alloc | apply Exts.wext | apply Exts.drew | apply Exts.drewN))⟩, ?_⟩
                      simp [intOf]; omega

            · obtain rfl : e = V := by omega
              cases hL : leastK g u v k e with
              | true =>
                have HR := Lib.hid (show joinF g e u v = some k from find_range hlt HI.out hL)
                go_wp2
                go_ret2
                exact ⟨by rw [HR.out]; rfl, (by repeat (first | exact Exts.refl _ | apply Exts.andR | apply Exts.alloc | apply Exts.wext | apply Exts.drew | apply Exts.drewN))⟩
              | false =>
                have HN := Lib.hid hL
                go_wp2
                refine ⟨⟨k + 1, by omega, by go_num, (by repeat (first | exact Exts.refl _ | apply Exts.andR | apply Exts.alloc | apply Exts.wext | apply Exts.drew | apply Exts.drewN)), fun i hi => ?_⟩, ?_⟩
                · by_cases hik : i = k
                  · rw [hik]; exact HN.out
                  · exact HI.out i (by omega)
                · simp [intOf]; omega
      | true =>
        cases hgv : g v k with
        | false =>
          have HGU := Lib.hid hgu
          have HGV := Lib.hid hgv
          go_wp2
          go_loopw [11, 53] (fun l d wr => ∃ (e : Nat), e ≤ V ∧ d = .int .i64 e ∧ l = .bool (leastK g u v k e) ∧ Exts ((wext (w.alloc (.cells #[.int .i64 V, .slice po n c] 24)) x1).alloc (.cells (matC g) 52)) wr) (fun _ d _ => V - (intOf d).toNat)
          case atStart => exact ⟨0, by omega, rfl, by rw [leastK_zero]; simp [HGU.out, HGV.out], (by repeat (first | exact Exts.refl _ | apply Exts.andR | apply Exts.alloc | apply Exts.wext | apply Exts.drew | apply Exts.drewN))⟩
          case round =>
            obtain ⟨e, he, rfl, rfl, x, rfl⟩ := hrel
            by_cases helt : e < V
            · have he12 : e < 12 := by omega
              cases hL : leastK g u v k e with
              | false =>
                have HE := Lib.hid (show leastK g u v k (e + 1) = false by rw [leastK_next]; simp [hL])
                go_wp2
                refine ⟨⟨e + 1, by omega, by go_num, by rw [HE.out], (by repeat (first | exact Exts.refl _ | apply Exts.andR | apply Exts.alloc | apply Exts.wext | apply Exts.drew | apply Exts.drewN))⟩, ?_⟩
                simp [intOf]; omega
              | true =>
                cases hU : g u e with
                | false =>
                  have HE := Lib.hid (show leastK g u v k (e + 1) = true by rw [leastK_next]; simp [hL, hU])
                  go_wp2
                  refine ⟨⟨e + 1, by omega, by go_num, by rw [HE.out], (by repeat (first | exact Exts.refl _ | apply Exts.andR | apply Exts.alloc | apply Exts.wext | apply Exts.drew | apply Exts.drewN))⟩, ?_⟩
                  simp [intOf]; omega
                | true =>
                  cases hV : g v e with
                  | false =>
                    have HE := Lib.hid (show leastK g u v k (e + 1) = true by rw [leastK_next]; simp [hL, hU, hV])
                    go_wp2
                    refine ⟨⟨e + 1, by omega, by go_num, by rw [HE.out], (by repeat (first | exact Exts.refl _ | apply Exts.andR | apply Exts.alloc | apply Exts.wext | apply Exts.drew | apply Exts.drewN))⟩, ?_⟩
                    simp [intOf]; omega
                  | true =>
                    cases hC : g k e with
                    | false =>
                      have HE := Lib.hid (show leastK g u v k (e + 1) = false by rw [leastK_next]; simp [hL, hU, hV, hC])
                      go_wp2
                      refine ⟨⟨e + 1, by omega, by go_num, by rw [HE.out], (by repeat (first | exact Exts.refl _ | apply Exts.andR | apply Exts.alloc | apply Exts.wext | apply Exts.drew | apply Exts.drewN))⟩, ?_⟩
                      simp [intOf]; omega
                    | true =>
                      have HE := Lib.hid (show leastK g u v k (e + 1) = true by rw [leastK_next]; simp [hL, hU, hV, hC])
                      go_wp2
                      refine ⟨⟨e + 1, by omega, by go_num, by rw [HE.out], (by repeat (first | exact Exts.refl _ | apply Exts.andR | apply Exts.alloc | apply Exts.wext | apply Exts.drew | apply Exts.drewN))⟩, ?_⟩
                      simp [intOf]; omega

            · obtain rfl : e = V := by omega
              cases hL : leastK g u v k e with
              | true =>
                have HR := Lib.hid (show joinF g e u v = some k from find_range hlt HI.out hL)
                go_wp2
                go_ret2
                exact ⟨by rw [HR.out]; rfl, (by repeat (first | exact Exts.refl _ | apply Exts.andR | apply Exts.alloc | apply Exts.wext | apply Exts.drew | apply Exts.drewN))⟩
              | false =>
                have HN := Lib.hid hL
                go_wp2
                refine ⟨⟨k + 1, by omega, by go_num, (by repeat (first | exact Exts.refl _ | apply Exts.andR | apply Exts.alloc | apply Exts.wext | apply Exts.drew | apply Exts.drewN)), fun i hi => ?_⟩, ?_⟩
                · by_cases hik : i = k
                  · rw [hik]; exact HN.out
                  · exact HI.out i (by omega)
                · simp [intOf]; omega
        | true =>
          have HGU := Lib.hid hgu
          have HGV := Lib.hid hgv
          go_wp2
          go_loopw [11, 53] (fun l d wr => ∃ (e : Nat), e ≤ V ∧ d = .int .i64 e ∧ l = .bool (leastK g u v k e) ∧ Exts ((wext (w.alloc (.cells #[.int .i64 V, .slice po n c] 24)) x1).alloc (.cells (matC g) 52)) wr) (fun _ d _ => V - (intOf d).toNat)
          case atStart => exact ⟨0, by omega, rfl, by rw [leastK_zero]; simp [HGU.out, HGV.out], (by repeat (first | exact Exts.refl _ | apply Exts.andR | apply Exts.alloc | apply Exts.wext | apply Exts.drew | apply Exts.drewN))⟩
          case round =>
            obtain ⟨e, he, rfl, rfl, x, rfl⟩ := hrel
            by_cases helt : e < V
            · have he12 : e < 12 := by omega
              cases hL : leastK g u v k e with
              | false =>
                have HE := Lib.hid (show leastK g u v k (e + 1) = false by rw [leastK_next]; simp [hL])
                go_wp2
                refine ⟨⟨e + 1, by omega, by go_num, by rw [HE.out], (by repeat (first | exact Exts.refl _ | apply Exts.andR | apply Exts.alloc | apply Exts.wext | apply Exts.drew | apply Exts.drewN))⟩, ?_⟩
                simp [intOf]; omega
              | true =>
                cases hU : g u e with
                | false =>
                  have HE := Lib.hid (show leastK g u v k (e + 1) = true by rw [leastK_next]; simp [hL, hU])
                  go_wp2
                  refine ⟨⟨e + 1, by omega, by go_num, by rw [HE.out], (by repeat (first | exact Exts.refl _ | apply Exts.andR | apply Exts.alloc | apply Exts.wext | apply Exts.drew | apply Exts.drewN))⟩, ?_⟩
                  simp [intOf]; omega
                | true =>
                  cases hV : g v e with
                  | false =>
                    have HE := Lib.hid (show leastK g u v k (e + 1) = true by rw [leastK_next]; simp [hL, hU, hV])
                    go_wp2
                    refine ⟨⟨e + 1, by omega, by go_num, by rw [HE.out], (by repeat (first | exact Exts.refl _ | apply Exts.andR | apply Exts.alloc | apply Exts.wext | apply Exts.drew | apply Exts.drewN))⟩, ?_⟩
                    simp [intOf]; omega
                  | true =>
                    cases hC : g k e with
                    | false =>
                      have HE := Lib.hid (show leastK g u v k (e + 1) = false by rw [leastK_next]; simp [hL, hU, hV, hC])
                      go_wp2
                      refine ⟨⟨e + 1, by omega, by go_num, by rw [HE.out], (by repeat (first | exact Exts.refl _ | apply Exts.andR | apply Exts.alloc | apply Exts.wext | apply Exts.drew | apply Exts.drewN))⟩, ?_⟩
                      simp [intOf]; omega
                    | true =>
                      have HE := Lib.hid (show leastK g u v k (e + 1) = true by rw [leastK_next]; simp [hL, hU, hV, hC])
                      go_wp2
                      refine ⟨⟨e + 1, by omega, by go_num, by rw [HE.out], (by repeat (first | exact Exts.refl _ | apply Exts.andR | apply Exts.alloc | apply Exts.wext | apply Exts.drew | apply Exts.drewN))⟩, ?_⟩
                      simp [intOf]; omega

            · obtain rfl : e = V := by omega
              cases hL : leastK g u v k e with
              | true =>
                have HR := Lib.hid (show joinF g e u v = some k from find_range hlt HI.out hL)
                go_wp2
                go_ret2
                exact ⟨by rw [HR.out]; rfl, (by repeat (first | exact Exts.refl _ | apply Exts.andR | apply Exts.alloc | apply Exts.wext | apply Exts.drew | apply Exts.drewN))⟩
              | false =>
                have HN := Lib.hid hL
                go_wp2
                refine ⟨⟨k + 1, by omega, by go_num, (by repeat (first | exact Exts.refl _ | apply Exts.andR | apply Exts.alloc | apply Exts.wext | apply Exts.drew | apply Exts.drewN)), fun i hi => ?_⟩, ?_⟩
                · by_cases hik : i = k
                  · rw [hik]; exact HN.out
                  · exact HI.out i (by omega)
                · simp [intOf]; omega
    · obtain rfl : k = V := by omega
      have HR := Lib.hid (show joinF g k u v = none from find_none HI.out)
      go_wp2
      go_ret2
      exact ⟨by rw [HR.out]; rfl, (by repeat (first | exact Exts.refl _ | apply Exts.andR | apply Exts.alloc | apply Exts.wext | apply Exts.drew | apply Exts.drewN))⟩
theorem join13_gt {S : Nat → Prop} (V : Nat) (po : Option Addr) (n c : Nat) (ps : List Pr) (g : Rel) (u v : Nat) (w : World) (h : Prs S w po n c ps) (hg : closedD V ps = (g, true)) (hu : u < V) (hv : v < V) (q : v < u) :
    Calls Try.prog 13 #[.agg #[.int .i64 V, .slice po n c], .int .i64 u, .int .i64 v] w fun e w' => e = .returned (.tuple #[.int .i64 (outO (joinF g V u v)).1, .bool (outO (joinF g V u v)).2]) ∧ Exts w w' := by
  have hV := (valid_in (closed_valid hg).1).1.2
  have H := Lib.hid h
  have HG := Lib.hid hg
  have c1 : decide ((u : Int) < 0) = false := by simp
  have c2 : decide ((v : Int) < 0) = false := by simp
  have c3 : decide ((V : Int) ≤ (u : Int)) = false := by simp; omega
  have c4 : decide ((V : Int) ≤ (v : Int)) = false := by simp; omega
  have hu2 : u < 12 := by omega
  have hv2 : v < 12 := by omega
  clear h hg
  have q' : (v : Int) < (u : Int) := by omega
  go_enter Try.func13, Try.ntmps13
  go_wp2_with (first | (go_at_call 31; ((with_reducible refine (closed31_D _ _ _ _ ps _ _ _ (RowF.exts H.out (by repeat (first | exact Exts.refl _ | apply Exts.andR | apply Exts.alloc | apply Exts.wext | apply Exts.drew | apply Exts.drewN))) HG.out).mono ?_); rintro e w' ⟨rfl, x1, rfl⟩)))
  go_loopw [36] (fun i wr => ∃ (k : Nat), k ≤ V ∧ i = .int .i64 k ∧ Exts ((wext (w.alloc (.cells #[.int .i64 V, .slice po n c] 24)) x1).alloc (.cells (matC g) 52)) wr ∧ ∀ i, i < k → leastK g u v i V = false) (fun i _ => V - (intOf i).toNat)
  case atStart => exact ⟨0, by omega, rfl, (by repeat (first | exact Exts.refl _ | apply Exts.andR | apply Exts.alloc | apply Exts.wext | apply Exts.drew | apply Exts.drewN)), fun i hi => by omega⟩
  case round =>
    obtain ⟨k, hk, rfl, ⟨x, rfl⟩, hin⟩ := hrel
    have HI := Lib.hid hin
    clear hin
    by_cases hlt : k < V
    · have hk12 : k < 12 := by omega
      cases hgu : g u k with
      | false =>
        cases hgv : g v k with
        | false =>
          have HGU := Lib.hid hgu
          have HGV := Lib.hid hgv
          go_wp2
          go_loopw [11, 53] (fun l d wr => ∃ (e : Nat), e ≤ V ∧ d = .int .i64 e ∧ l = .bool (leastK g u v k e) ∧ Exts ((wext (w.alloc (.cells #[.int .i64 V, .slice po n c] 24)) x1).alloc (.cells (matC g) 52)) wr) (fun _ d _ => V - (intOf d).toNat)
          case atStart => exact ⟨0, by omega, rfl, by rw [leastK_zero]; simp [HGU.out, HGV.out], (by repeat (first | exact Exts.refl _ | apply Exts.andR | apply Exts.alloc | apply Exts.wext | apply Exts.drew | apply Exts.drewN))⟩
          case round =>
            obtain ⟨e, he, rfl, rfl, x, rfl⟩ := hrel
            by_cases helt : e < V
            · have he12 : e < 12 := by omega
              cases hL : leastK g u v k e with
              | false =>
                have HE := Lib.hid (show leastK g u v k (e + 1) = false by rw [leastK_next]; simp [hL])
                go_wp2
                refine ⟨⟨e + 1, by omega, by go_num, by rw [HE.out], (by repeat (first | exact Exts.refl _ | apply Exts.andR | apply Exts.alloc | apply Exts.wext | apply Exts.drew | apply Exts.drewN))⟩, ?_⟩
                simp [intOf]; omega
              | true =>
                cases hU : g u e with
                | false =>
                  have HE := Lib.hid (show leastK g u v k (e + 1) = true by rw [leastK_next]; simp [hL, hU])
                  go_wp2
                  refine ⟨⟨e + 1, by omega, by go_num, by rw [HE.out], (by repeat (first | exact Exts.refl _ | apply Exts.andR | apply Exts.alloc | apply Exts.wext | apply Exts.drew | apply Exts.drewN))⟩, ?_⟩
                  simp [intOf]; omega
                | true =>
                  cases hV : g v e with
                  | false =>
                    have HE := Lib.hid (show leastK g u v k (e + 1) = true by rw [leastK_next]; simp [hL, hU, hV])
                    go_wp2
                    refine ⟨⟨e + 1, by omega, by go_num, by rw [HE.out], (by repeat (first | exact Exts.refl _ | apply Exts.andR | apply Exts.alloc | apply Exts.wext | apply Exts.drew | apply Exts.drewN))⟩, ?_⟩
                    simp [intOf]; omega
                  | true =>
                    cases hC : g k e with
                    | false =>
                      have HE := Lib.hid (show leastK g u v k (e + 1) = false by rw [leastK_next]; simp [hL, hU, hV, hC])
                      go_wp2
                      refine ⟨⟨e + 1, by omega, by go_num, by rw [HE.out], (by repeat (first | exact Exts.refl _ | apply Exts.andR | apply Exts.alloc | apply Exts.wext | apply Exts.drew | apply Exts.drewN))⟩, ?_⟩
                      simp [intOf]; omega
                    | true =>
                      have HE := Lib.hid (show leastK g u v k (e + 1) = true by rw [leastK_next]; simp [hL, hU, hV, hC])
                      go_wp2
                      refine ⟨⟨e + 1, by omega, by go_num, by rw [HE.out], (by repeat (first | exact Exts.refl _ | apply Exts.andR | apply Exts.alloc | apply Exts.wext | apply Exts.drew | apply Exts.drewN))⟩, ?_⟩
                      simp [intOf]; omega

            · obtain rfl : e = V := by omega
              cases hL : leastK g u v k e with
              | true =>
                have HR := Lib.hid (show joinF g e u v = some k from find_range hlt HI.out hL)
                go_wp2
                go_ret2
                exact ⟨by rw [HR.out]; rfl, (by repeat (first | exact Exts.refl _ | apply Exts.andR | apply Exts.alloc | apply Exts.wext | apply Exts.drew | apply Exts.drewN))⟩
              | false =>
                have HN := Lib.hid hL
                go_wp2
                refine ⟨⟨k + 1, by omega, by go_num, (by repeat (first | exact Exts.refl _ | apply Exts.andR | apply Exts.alloc | apply Exts.wext | apply Exts.drew | apply Exts.drewN)), fun i hi => ?_⟩, ?_⟩
                · by_cases hik : i = k
                  · rw [hik]; exact HN.out
                  · exact HI.out i (by omega)
                · simp [intOf]; omega
        | true =>
          have HGU := Lib.hid hgu
          have HGV := Lib.hid hgv
          go_wp2
          go_loopw [11, 53] (fun l d wr => ∃ (e : Nat), e ≤ V ∧ d = .int .i64 e ∧ l = .bool (leastK g u v k e) ∧ Exts ((wext (w.alloc (.cells #[.int .i64 V, .slice po n c] 24)) x1).alloc (.cells (matC g) 52)) wr) (fun _ d _ => V - (intOf d).toNat)
          case atStart => exact ⟨0, by omega, rfl, by rw [leastK_zero]; simp [HGU.out, HGV.out], (by repeat (first | exact Exts.refl _ | apply Exts.andR | apply Exts.alloc | apply Exts.wext | apply Exts.drew | apply Exts.drewN))⟩
          case round =>
            obtain ⟨e, he, rfl, rfl, x, rfl⟩ := hrel
            by_cases helt : e < V
            · have he12 : e < 12 := by omega
              cases hL : leastK g u v k e with
              | false =>
                have HE := Lib.hid (show leastK g u v k (e + 1) = false by rw [leastK_next]; simp [hL])
                go_wp2
                refine ⟨⟨e + 1, by omega, by go_num, by rw [HE.out], (by repeat (first | exact Exts.refl _ | apply Exts.andR | apply Exts.alloc | apply Exts.wext | apply Exts.drew | apply Exts.drewN))⟩, ?_⟩
                simp [intOf]; omega
              | true =>
                cases hU : g u e with
                | false =>
                  have HE := Lib.hid (show leastK g u v k (e + 1) = true by rw [leastK_next]; simp [hL, hU])
                  go_wp2
                  refine ⟨⟨e + 1, by omega, by go_num, by rw [HE.out], (by repeat (first | exact Exts.refl _ | apply Exts.andR | apply Exts.alloc | apply Exts.wext | apply Exts.drew | apply Exts.drewN))⟩, ?_⟩
                  simp [intOf]; omega
                | true =>
                  cases hV : g v e with
                  | false =>
                    have HE := Lib.hid (show leastK g u v k (e + 1) = true by rw [leastK_next]; simp [hL, hU, hV])
                    go_wp2
                    refine ⟨⟨e + 1, by omega, by go_num, by rw [HE.out], (by repeat (first | exact Exts.refl _ | apply Exts.andR | apply Exts.alloc | apply Exts.wext | apply Exts.drew | apply Exts.drewN))⟩, ?_⟩
                    simp [intOf]; omega
                  | true =>
                    cases hC : g k e with
                    | false =>
                      have HE := Lib.hid (show leastK g u v k (e + 1) = false by rw [leastK_next]; simp [hL, hU, hV, hC])
                      go_wp2
                      refine ⟨⟨e + 1, by omega, by go_num, by rw [HE.out], (by repeat (first | exact Exts.refl _ | apply Exts.andR | apply Exts.alloc | apply Exts.wext | apply Exts.drew | apply Exts.drewN))⟩, ?_⟩
                      simp [intOf]; omega
                    | true =>
                      have HE := Lib.hid (show leastK g u v k (e + 1) = true by rw [leastK_next]; simp [hL, hU, hV, hC])
                      go_wp2
                      refine ⟨⟨e + 1, by omega, by go_num, by rw [HE.out], (by repeat (first | exact Exts.refl _ | apply Exts.andR | apply Exts.alloc | apply Exts.wext | apply Exts.drew | apply Exts.drewN))⟩, ?_⟩
                      simp [intOf]; omega

            · obtain rfl : e = V := by omega
              cases hL : leastK g u v k e with
              | true =>
                have HR := Lib.hid (show joinF g e u v = some k from find_range hlt HI.out hL)
                go_wp2
                go_ret2
                exact ⟨by rw [HR.out]; rfl, (by repeat (first | exact Exts.refl _ | apply Exts.andR | apply Exts.alloc | apply Exts.wext | apply Exts.drew | apply Exts.drewN))⟩
              | false =>
                have HN := Lib.hid hL
                go_wp2
                refine ⟨⟨k + 1, by omega, by go_num, (by repeat (first | exact Exts.refl _ | apply Exts.andR | apply Exts.alloc | apply Exts.wext | apply Exts.drew | apply Exts.drewN)), fun i hi => ?_⟩, ?_⟩
                · by_cases hik : i = k
                  · rw [hik]; exact HN.out
                  · exact HI.out i (by omega)
                · simp [intOf]; omega
      | true =>
        cases hgv : g v k with
        | false =>
          have HGU := Lib.hid hgu
          have HGV := Lib.hid hgv
          go_wp2
          go_loopw [11, 53] (fun l d wr => ∃ (e : Nat), e ≤ V ∧ d = .int .i64 e ∧ l = .bool (leastK g u v k e) ∧ Exts ((wext (w.alloc (.cells #[.int .i64 V, .slice po n c] 24)) x1).alloc (.cells (matC g) 52)) wr) (fun _ d _ => V - (intOf d).toNat)
          case atStart => exact ⟨0, by omega, rfl, by rw [leastK_zero]; simp [HGU.out, HGV.out], (by repeat (first | exact Exts.refl _ | apply Exts.andR | apply Exts.alloc | apply Exts.wext | apply Exts.drew | apply Exts.drewN))⟩
          case round =>
            obtain ⟨e, he, rfl, rfl, x, rfl⟩ := hrel
            by_cases helt : e < V
            · have he12 : e < 12 := by omega
              cases hL : leastK g u v k e with
              | false =>
                have HE := Lib.hid (show leastK g u v k (e + 1) = false by rw [leastK_next]; simp [hL])
                go_wp2
                refine ⟨⟨e + 1, by omega, by go_num, by rw [HE.out], (by repeat (first | exact Exts.refl _ | apply Exts.andR | apply Exts.alloc | apply Exts.wext | apply Exts.drew | apply Exts.drewN))⟩, ?_⟩
                simp [intOf]; omega
              | true =>
                cases hU : g u e with
                | false =>
                  have HE := Lib.hid (show leastK g u v k (e + 1) = true by rw [leastK_next]; simp [hL, hU])
                  go_wp2
                  refine ⟨⟨e + 1, by omega, by go_num, by rw [HE.out], (by repeat (first | exact Exts.refl _ | apply Exts.andR | apply Exts.alloc | apply Exts.wext | apply Exts.drew | apply Exts.drewN))⟩, ?_⟩
                  simp [intOf]; omega
                | true =>
                  cases hV : g v e with
                  | false =>
                    have HE := Lib.hid (show leastK g u v k (e + 1) = true by rw [leastK_next]; simp [hL, hU, hV])
                    go_wp2
                    refine ⟨⟨e + 1, by omega, by go_num, by rw [HE.out], (by repeat (first | exact Exts.refl _ | apply Exts.andR | apply Exts.alloc | apply Exts.wext | apply Exts.drew | apply Exts.drewN))⟩, ?_⟩
                    simp [intOf]; omega
                  | true =>
                    cases hC : g k e with
                    | false =>
                      have HE := Lib.hid (show leastK g u v k (e + 1) = false by rw [leastK_next]; simp [hL, hU, hV, hC])
                      go_wp2
                      refine ⟨⟨e + 1, by omega, by go_num, by rw [HE.out], (by repeat (first | exact Exts.refl _ | apply Exts.andR | apply Exts.alloc | apply Exts.wext | apply Exts.drew | apply Exts.drewN))⟩, ?_⟩
                      simp [intOf]; omega
                    | true =>
                      have HE := Lib.hid (show leastK g u v k (e + 1) = true by rw [leastK_next]; simp [hL, hU, hV, hC])
                      go_wp2
                      refine ⟨⟨e + 1, by omega, by go_num, by rw [HE.out], (by repeat (first | exact Exts.refl _ | apply Exts.andR | apply Exts.alloc | apply Exts.wext | apply Exts.drew | apply Exts.drewN))⟩, ?_⟩
                      simp [intOf]; omega

            · obtain rfl : e = V := by omega
              cases hL : leastK g u v k e with
              | true =>
                have HR := Lib.hid (show joinF g e u v = some k from find_range hlt HI.out hL)
                go_wp2
                go_ret2
                exact ⟨by rw [HR.out]; rfl, (by repeat (first | exact Exts.refl _ | apply Exts.andR | apply Exts.alloc | apply Exts.wext | apply Exts.drew | apply Exts.drewN))⟩
              | false =>
                have HN := Lib.hid hL
                go_wp2
                refine ⟨⟨k + 1, by omega, by go_num, (by repeat (first | exact Exts.refl _ | apply Exts.andR | apply Exts.alloc | apply Exts.wext | apply Exts.drew | apply Exts.drewN)), fun i hi => ?_⟩, ?_⟩
                · by_cases hik : i = k
                  · rw [hik]; exact HN.out
                  · exact HI.out i (by omega)
                · simp [intOf]; omega
        | true =>
          have HGU := Lib.hid hgu
          have HGV := Lib.hid hgv
          go_wp2
          go_loopw [11, 53] (fun l d wr => ∃ (e : Nat), e ≤ V ∧ d = .int .i64 e ∧ l = .bool (leastK g u v k e) ∧ Exts ((wext (w.alloc (.cells #[.int .i64 V, .slice po n c] 24)) x1).alloc (.cells (matC g) 52)) wr) (fun _ d _ => V - (intOf d).toNat)
          case atStart => exact ⟨0, by omega, rfl, by rw [leastK_zero]; simp [HGU.out, HGV.out], (by repeat (first | exact Exts.refl _ | apply Exts.andR | apply Exts.alloc | apply Exts.wext | apply Exts.drew | apply Exts.drewN))⟩
          case round =>
            obtain ⟨e, he, rfl, rfl, x, rfl⟩ := hrel
            by_cases helt : e < V
            · have he12 : e < 12 := by omega
              cases hL : leastK g u v k e with
              | false =>
                have HE := Lib.hid (show leastK g u v k (e + 1) = false by rw [leastK_next]; simp [hL])
                go_wp2
                refine ⟨⟨e + 1, by omega, by go_num, by rw [HE.out], (by repeat (first | exact Exts.refl _ | apply Exts.andR | apply Exts.alloc | apply Exts.wext | apply Exts.drew | apply Exts.drewN))⟩, ?_⟩
                simp [intOf]; omega
              | true =>
                cases hU : g u e with
                | false =>
                  have HE := Lib.hid (show leastK g u v k (e + 1) = true by rw [leastK_next]; simp [hL, hU])
                  go_wp2
                  refine ⟨⟨e + 1, by omega, by go_num, by rw [HE.out], (by repeat (first | exact Exts.refl _ | apply Exts.andR | apply Exts.alloc | apply Exts.wext | apply Exts.drew | apply Exts.drewN))⟩, ?_⟩
                  simp [intOf]; omega
                | true =>
                  cases hV : g v e with
                  | false =>
                    have HE := Lib.hid (show leastK g u v k (e + 1) = true by rw [leastK_next]; simp [hL, hU, hV])
                    go_wp2
                    refine ⟨⟨e + 1, by omega, by go_num, by rw [HE.out], (by repeat (first | exact Exts.refl _ | apply Exts.andR | apply Exts.alloc | apply Exts.wext | apply Exts.drew | apply Exts.drewN))⟩, ?_⟩
                    simp [intOf]; omega
                  | true =>
                    cases hC : g k e with
                    | false =>
                      have HE := Lib.hid (show leastK g u v k (e + 1) = false by rw [leastK_next]; simp [hL, hU, hV, hC])
                      go_wp2
                      refine ⟨⟨e + 1, by omega, by go_num, by rw [HE.out], (by repeat (first | exact Exts.refl _ | apply Exts.andR | apply Exts.alloc | apply Exts.wext | apply Exts.drew | apply Exts.drewN))⟩, ?_⟩
                      simp [intOf]; omega
                    | true =>
                      have HE := Lib.hid (show leastK g u v k (e + 1) = true by rw [leastK_next]; simp [hL, hU, hV, hC])
                      go_wp2
                      refine ⟨⟨e + 1, by omega, by go_num, by rw [HE.out], (by repeat (first | exact Exts.refl _ | apply Exts.andR | apply Exts.alloc | apply Exts.wext | apply Exts.drew | apply Exts.drewN))⟩, ?_⟩
                      simp [intOf]; omega

            · obtain rfl : e = V := by omega
              cases hL : leastK g u v k e with
              | true =>
                have HR := Lib.hid (show joinF g e u v = some k from find_range hlt HI.out hL)
                go_wp2
                go_ret2
                exact ⟨by rw [HR.out]; rfl, (by repeat (first | exact Exts.refl _ | apply Exts.andR | apply Exts.alloc | apply Exts.wext | apply Exts.drew | apply Exts.drewN))⟩
              | false =>
                have HN := Lib.hid hL
                go_wp2
                refine ⟨⟨k + 1, by omega, by go_num, (by repeat (first | exact Exts.refl _ | apply Exts.andR | apply Exts.alloc | apply Exts.wext | apply Exts.drew | apply Exts.drewN)), fun i hi => ?_⟩, ?_⟩
                · by_cases hik : i = k
                  · rw [hik]; exact HN.out
                  · exact HI.out i (by omega)
                · simp [intOf]; omega
    · obtain rfl : k = V := by omega
      have HR := Lib.hid (show joinF g k u v = none from find_none HI.out)
      go_wp2
      go_ret2
      exact ⟨by rw [HR.out]; rfl, (by repeat (first | exact Exts.refl _ | apply Exts.andR | apply Exts.alloc | apply Exts.wext | apply Exts.drew | apply Exts.drewN))⟩
theorem join13_eq {S : Nat → Prop} (V : Nat) (po : Option Addr) (n c : Nat) (ps : List Pr) (g : Rel) (u v : Nat) (w : World) (h : Prs S w po n c ps) (hg : closedD V ps = (g, true)) (hu : u < V) (hv : v < V) (q : u = v) :
    Calls Try.prog 13 #[.agg #[.int .i64 V, .slice po n c], .int .i64 u, .int .i64 v] w fun e w' => e = .returned (.tuple #[.int .i64 (outO (joinF g V u v)).1, .bool (outO (joinF g V u v)).2]) ∧ Exts w w' := by
  have hV := (valid_in (closed_valid hg).1).1.2
  have H := Lib.hid h
  have HG := Lib.hid hg
  have c1 : decide ((u : Int) < 0) = false := by simp
  have c2 : decide ((v : Int) < 0) = false := by simp
  have c3 : decide ((V : Int) ≤ (u : Int)) = false := by simp; omega
  have c4 : decide ((V : Int) ≤ (v : Int)) = false := by simp; omega
  have hu2 : u < 12 := by omega
  have hv2 : v < 12 := by omega
  clear h hg
  subst q
  go_enter Try.func13, Try.ntmps13
  go_wp2_with (first | (go_at_call 31; ((with_reducible refine (closed31_D _ _ _ _ ps _ _ _ (RowF.exts H.out (by repeat (first | exact Exts.refl _ | apply Exts.andR | apply Exts.alloc | apply Exts.wext | apply Exts.drew | apply Exts.drewN))) HG.out).mono ?_); rintro e w' ⟨rfl, x1, rfl⟩)))
  go_loopw [36] (fun i wr => ∃ (k : Nat), k ≤ V ∧ i = .int .i64 k ∧ Exts ((wext (w.alloc (.cells #[.int .i64 V, .slice po n c] 24)) x1).alloc (.cells (matC g) 52)) wr ∧ ∀ i, i < k → leastK g u u i V = false) (fun i _ => V - (intOf i).toNat)
  case atStart => exact ⟨0, by omega, rfl, (by repeat (first | exact Exts.refl _ | apply Exts.andR | apply Exts.alloc | apply Exts.wext | apply Exts.drew | apply Exts.drewN)), fun i hi => by omega⟩
  case round =>
    obtain ⟨k, hk, rfl, ⟨x, rfl⟩, hin⟩ := hrel
    have HI := Lib.hid hin
    clear hin
    by_cases hlt : k < V
    · have hk12 : k < 12 := by omega
      cases hgu : g u k with
      | false =>
        have HGU := Lib.hid hgu
        have HGV := Lib.hid hgu
        go_wp2
        go_loopw [11, 53] (fun l d wr => ∃ (e : Nat), e ≤ V ∧ d = .int .i64 e ∧ l = .bool (leastK g u u k e) ∧ Exts ((wext (w.alloc (.cells #[.int .i64 V, .slice po n c] 24)) x1).alloc (.cells (matC g) 52)) wr) (fun _ d _ => V - (intOf d).toNat)
        case atStart => exact ⟨0, by omega, rfl, by rw [leastK_zero]; simp [HGU.out, HGV.out], (by repeat (first | exact Exts.refl _ | apply Exts.andR | apply Exts.alloc | apply Exts.wext | apply Exts.drew | apply Exts.drewN))⟩
        case round =>
          obtain ⟨e, he, rfl, rfl, x, rfl⟩ := hrel
          by_cases helt : e < V
          · have he12 : e < 12 := by omega
            cases hL : leastK g u u k e with
            | false =>
              have HE := Lib.hid (show leastK g u u k (e + 1) = false by rw [leastK_next]; simp [hL])
              go_wp2
              refine ⟨⟨e + 1, by omega, by go_num, by rw [HE.out], (by repeat (first | exact Exts.refl _ | apply Exts.andR | apply Exts.alloc | apply Exts.wext | apply Exts.drew | apply Exts.drewN))⟩, ?_⟩
              simp [intOf]; omega
            | true =>
              cases hU : g u e with
              | false =>
                have HE := Lib.hid (show leastK g u u k (e + 1) = true by rw [leastK_next]; simp [hL, hU])
                go_wp2
                refine ⟨⟨e + 1, by omega, by go_num, by rw [HE.out], (by repeat (first | exact Exts.refl _ | apply Exts.andR | apply Exts.alloc | apply Exts.wext | apply Exts.drew | apply Exts.drewN))⟩, ?_⟩
                simp [intOf]; omega
              | true =>
                cases hC : g k e with
                | false =>
                  have HE := Lib.hid (show leastK g u u k (e + 1) = false by rw [leastK_next]; simp [hL, hU, hC])
                  go_wp2
                  refine ⟨⟨e + 1, by omega, by go_num, by rw [HE.out], (by repeat (first | exact Exts.refl _ | apply Exts.andR | apply Exts.alloc | apply Exts.wext | apply Exts.drew | apply Exts.drewN))⟩, ?_⟩
                  simp [intOf]; omega
                | true =>
                  have HE := Lib.hid (show leastK g u u k (e + 1) = true by rw [leastK_next]; simp [hL, hU, hC])
                  go_wp2
                  refine ⟨⟨e + 1, by omega, by go_num, by rw [HE.out], (by repeat (first | exact Exts.refl _ | apply Exts.andR | apply Exts.alloc | apply Exts.wext | apply Exts.drew | apply Exts.drewN))⟩, ?_⟩
                  simp [intOf]; omega

          · obtain rfl : e = V := by omega
            cases hL : leastK g u u k e with
            | true =>
              have HR := Lib.hid (show joinF g e u u = some k from find_range hlt HI.out hL)
              go_wp2
              go_ret2
              exact ⟨by rw [HR.out]; rfl, (by repeat (first | exact Exts.refl _ | apply Exts.andR | apply Exts.alloc | apply Exts.wext | apply Exts.drew | apply Exts.drewN))⟩
            | false =>
              have HN := Lib.hid hL
              go_wp2
              refine ⟨⟨k + 1, by omega, by go_num, (by repeat (first | exact Exts.refl _ | apply Exts.andR | apply Exts.alloc | apply Exts.wext | apply Exts.drew | apply Exts.drewN)), fun i hi => ?_⟩, ?_⟩
              · by_cases hik : i = k
                · rw [hik]; exact HN.out
                · exact HI.out i (by omega)
              · simp [intOf]; omega
      | true =>
        have HGU := Lib.hid hgu
        have HGV := Lib.hid hgu
        go_wp2
        go_loopw [11, 53] (fun l d wr => ∃ (e : Nat), e ≤ V ∧ d = .int .i64 e ∧ l = .bool (leastK g u u k e) ∧ Exts ((wext (w.alloc (.cells #[.int .i64 V, .slice po n c] 24)) x1).alloc (.cells (matC g) 52)) wr) (fun _ d _ => V - (intOf d).toNat)
        case atStart => exact ⟨0, by omega, rfl, by rw [leastK_zero]; simp [HGU.out, HGV.out], (by repeat (first | exact Exts.refl _ | apply Exts.andR | apply Exts.alloc | apply Exts.wext | apply Exts.drew | apply Exts.drewN))⟩
        case round =>
          obtain ⟨e, he, rfl, rfl, x, rfl⟩ := hrel
          by_cases helt : e < V
          · have he12 : e < 12 := by omega
            cases hL : leastK g u u k e with
            | false =>
              have HE := Lib.hid (show leastK g u u k (e + 1) = false by rw [leastK_next]; simp [hL])
              go_wp2
              refine ⟨⟨e + 1, by omega, by go_num, by rw [HE.out], (by repeat (first | exact Exts.refl _ | apply Exts.andR | apply Exts.alloc | apply Exts.wext | apply Exts.drew | apply Exts.drewN))⟩, ?_⟩
              simp [intOf]; omega
            | true =>
              cases hU : g u e with
              | false =>
                have HE := Lib.hid (show leastK g u u k (e + 1) = true by rw [leastK_next]; simp [hL, hU])
                go_wp2
                refine ⟨⟨e + 1, by omega, by go_num, by rw [HE.out], (by repeat (first | exact Exts.refl _ | apply Exts.andR | apply Exts.alloc | apply Exts.wext | apply Exts.drew | apply Exts.drewN))⟩, ?_⟩
                simp [intOf]; omega
              | true =>
                cases hC : g k e with
                | false =>
                  have HE := Lib.hid (show leastK g u u k (e + 1) = false by rw [leastK_next]; simp [hL, hU, hC])
                  go_wp2
                  refine ⟨⟨e + 1, by omega, by go_num, by rw [HE.out], (by repeat (first | exact Exts.refl _ | apply Exts.andR | apply Exts.alloc | apply Exts.wext | apply Exts.drew | apply Exts.drewN))⟩, ?_⟩
                  simp [intOf]; omega
                | true =>
                  have HE := Lib.hid (show leastK g u u k (e + 1) = true by rw [leastK_next]; simp [hL, hU, hC])
                  go_wp2
                  refine ⟨⟨e + 1, by omega, by go_num, by rw [HE.out], (by repeat (first | exact Exts.refl _ | apply Exts.andR | apply Exts.alloc | apply Exts.wext | apply Exts.drew | apply Exts.drewN))⟩, ?_⟩
                  simp [intOf]; omega

          · obtain rfl : e = V := by omega
            cases hL : leastK g u u k e with
            | true =>
              have HR := Lib.hid (show joinF g e u u = some k from find_range hlt HI.out hL)
              go_wp2
              go_ret2
              exact ⟨by rw [HR.out]; rfl, (by repeat (first | exact Exts.refl _ | apply Exts.andR | apply Exts.alloc | apply Exts.wext | apply Exts.drew | apply Exts.drewN))⟩
            | false =>
              have HN := Lib.hid hL
              go_wp2
              refine ⟨⟨k + 1, by omega, by go_num, (by repeat (first | exact Exts.refl _ | apply Exts.andR | apply Exts.alloc | apply Exts.wext | apply Exts.drew | apply Exts.drewN)), fun i hi => ?_⟩, ?_⟩
              · by_cases hik : i = k
                · rw [hik]; exact HN.out
                · exact HI.out i (by omega)
              · simp [intOf]; omega
    · obtain rfl : k = V := by omega
      have HR := Lib.hid (show joinF g k u u = none from find_none HI.out)
      go_wp2
      go_ret2
      exact ⟨by rw [HR.out]; rfl, (by repeat (first | exact Exts.refl _ | apply Exts.andR | apply Exts.alloc | apply Exts.wext | apply Exts.drew | apply Exts.drewN))⟩
end Go.Proofs.Ytbafcfbchbjgfaa
