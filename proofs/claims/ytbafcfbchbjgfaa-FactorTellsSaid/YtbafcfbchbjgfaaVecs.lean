/- vectors of package factor. -/
import Derived.Test.YtbafcfbchbjgfaaDims
namespace Go.Proofs.Ytbafcfbchbjgfaa
open Go.RowKit
set_option linter.unusedSimpArgs false
set_option linter.unusedVariables false

/-- A vector: as many numbers as dimensions, each one a value of its dimension. -/
def inD : List Dm → List Int → Bool
  | d :: D, a :: l => inV d.1 a && inD D l
  | [], [] => true
  | _, _ => false
theorem inD_iff : ∀ {D : List Dm} {l : List Int}, inD D l = true ↔ l.length = D.length ∧ ∀ (i : Nat) (d : Dm) (x : Int), D[i]? = some d → l[i]? = some x → inV d.1 x = true
  | [], [] => by simp [inD]
  | [], a :: l => by simp [inD]
  | d :: D, [] => by simp [inD]
  | d :: D, a :: l => by
    simp only [inD, Bool.and_eq_true, inD_iff (D := D) (l := l), List.length_cons, Nat.add_right_cancel_iff]
    constructor
    · rintro ⟨h1, h2, h3⟩
      refine ⟨h2, fun i e x hd hx => ?_⟩
      cases i with
      | zero => simp at hd hx; subst hd hx; exact h1
      | succ i => simp at hd hx; exact h3 i e x hd hx
    · rintro ⟨h2, h3⟩
      exact ⟨h3 0 d a rfl rfl, h2, fun i e x hd hx => h3 (i + 1) e x (by simpa using hd) (by simpa using hx)⟩
noncomputable def vecD (D : List Dm) (a b : List Int) : Bool := rightD D && (inD D a && inD D b)
def InK (D : List Dm) (a b : List Int) (k : Nat) : Prop := ∀ (i : Nat) (d : Dm) (x y : Int), i < k → D[i]? = some d → a[i]? = some x → b[i]? = some y → inV d.1 x = true ∧ inV d.1 y = true
theorem vec_bad {D : List Dm} {a b : List Int} {k : Nat} {V : Int} {ps : List Pr} {x y : Int} (hd : D[k]? = some (V, ps)) (ha : a[k]? = some x) (hb : b[k]? = some y) (h : ¬ (0 ≤ x ∧ x < V ∧ 0 ≤ y ∧ y < V)) : vecD D a b = false := by
  refine Bool.eq_false_iff.2 fun hc => h ?_
  simp only [vecD, Bool.and_eq_true] at hc
  have h1 := (inD_iff.1 hc.2.1).2 k _ x hd ha
  have h2 := (inD_iff.1 hc.2.2).2 k _ y hd hb
  simp only [inV, Bool.and_eq_true, decide_eq_true_eq] at h1 h2
  exact ⟨h1.1, h1.2, h2.1, h2.2⟩
theorem inK_next {D : List Dm} {a b : List Int} {k : Nat} {V : Int} {ps : List Pr} {x y : Int} (h : InK D a b k) (hd : D[k]? = some (V, ps)) (ha : a[k]? = some x) (hb : b[k]? = some y) (h2 : 0 ≤ x ∧ x < V ∧ 0 ≤ y ∧ y < V) : InK D a b (k + 1) := by
  intro i d p q hi h3 h4 h5
  by_cases hk : i = k
  · subst hk
    rw [hd] at h3
    rw [ha] at h4
    rw [hb] at h5
    cases h3; cases h4; cases h5
    simp only [inV, Bool.and_eq_true, decide_eq_true_eq]
    omega
  · exact h i d p q (by omega) h3 h4 h5
theorem vec_len {D : List Dm} {a b : List Int} (h : a.length ≠ D.length ∨ b.length ≠ D.length) : vecD D a b = false := by
  refine Bool.eq_false_iff.2 fun hc => ?_
  simp only [vecD, Bool.and_eq_true] at hc
  have h1 := (inD_iff.1 hc.2.1).1
  have h2 := (inD_iff.1 hc.2.2).1
  rcases h with h | h
  · exact h h1
  · exact h h2
theorem vec_yes {D : List Dm} {a b : List Int} {n : Nat} (hr : rightD D = true) (hn : D.length = n) (ha : a.length = n) (hb : b.length = n) (h : InK D a b n) : vecD D a b = true := by
  simp only [vecD, hr, Bool.true_and, Bool.and_eq_true, inD_iff]
  refine ⟨⟨by omega, fun i d x hd hx => ?_⟩, by omega, fun i d y hd hy => ?_⟩
  · have hi := (List.getElem?_eq_some_iff.1 hd).1
    exact (h i d x _ (by omega) hd hx (List.getElem?_eq_getElem (by omega))).1
  · have hi := (List.getElem?_eq_some_iff.1 hd).1
    exact (h i d _ y (by omega) hd (List.getElem?_eq_getElem (by omega)) hy).2
theorem right19_D {S : Nat → Prop} (lo : Option Addr) (n c : Nat) (D : List Dm) (r : Bool) (w : World) (h : Dims S w lo n c D) (hD : rightD D = r) :
    Calls Try.prog 19 #[.slice lo n c] w fun e w' => e = .returned (.bool r) ∧ Exts w w' := by
  subst hD
  exact right19 lo n c D w h
set_option maxRecDepth 100000
set_option maxHeartbeats 2000000
theorem vectors39 {S S1 S2 : Nat → Prop} (lo ao bo : Option Addr) (n c na ca nb cb : Nat) (D : List Dm) (al bl : List Int) (w : World) (h : Dims S w lo n c D) (ha : Ints S1 w ao na ca al) (hb : Ints S2 w bo nb cb bl) :
    Calls Try.prog 39 #[.slice lo n c, .slice ao na ca, .slice bo nb cb] w fun e w' => e = .returned (.bool (vecD D al bl)) ∧ Exts w w' := by
  have hm := h.nle
  unfold maxLen at hm
  have HL := Lib.hid h.1
  have HLA := Lib.hid (ints_len ha)
  have HLB := Lib.hid (ints_len hb)
  obtain ⟨r, hr⟩ : ∃ r, rightD D = r := ⟨_, rfl⟩
  have H := Lib.hid h
  have HAA := Lib.hid ha
  have HBB := Lib.hid hb
  have HRD := Lib.hid hr
  have hma := RowF.nle ha
  have hmb := RowF.nle hb
  unfold maxLen at hma hmb
  clear h ha hb hr
  cases r with
  | false =>
    have HR := Lib.hid (show vecD D al bl = false by simp [vecD, HRD.out])
    go_enter Try.func39, Try.ntmps39
    go_wp2_with (first | (go_at_call 19; ((with_reducible refine (right19_D _ _ _ D _ _ (H.out.exts (by repeat (first | exact Exts.refl _ | apply Exts.andR | apply Exts.alloc | apply Exts.wext | apply Exts.drew | apply Exts.drewN))) HRD.out).mono ?_); rintro e w' ⟨rfl, x0, rfl⟩)))
    go_ret
    exact ⟨by rw [HR.out]; rfl, (by repeat (first | exact Exts.refl _ | apply Exts.andR | apply Exts.alloc | apply Exts.wext | apply Exts.drew | apply Exts.drewN))⟩
  | true =>
    by_cases h1 : na = n
    · by_cases h2 : nb = n
      · subst h1 h2
        go_enter Try.func39, Try.ntmps39
        go_wp2_with (first | (go_at_call 19; ((with_reducible refine (right19_D _ _ _ D _ _ (H.out.exts (by repeat (first | exact Exts.refl _ | apply Exts.andR | apply Exts.alloc | apply Exts.wext | apply Exts.drew | apply Exts.drewN))) HRD.out).mono ?_); rintro e w' ⟨rfl, x0, rfl⟩)))
        go_loopw [28] (fun i wr => ∃ (k : Nat), k ≤ nb ∧ i = .int .i64 k ∧ Exts w wr ∧ InK D al bl k) (fun i _ => nb - (intOf i).toNat)
        case atStart => exact ⟨0, by omega, rfl, (by repeat (first | exact Exts.refl _ | apply Exts.andR | apply Exts.alloc | apply Exts.wext | apply Exts.drew | apply Exts.drewN)), fun i d x y hi => by omega⟩
        case round =>
          obtain ⟨k, hk, rfl, ⟨x, rfl⟩, hin⟩ := hrel
          have HI := Lib.hid hin
          clear hin
          by_cases hlt : k < nb
          · obtain ⟨b, off, V, ps, po, pc, rfl, hb, hd, e0, e1, hp⟩ := H.out.get hlt
            obtain ⟨b1, off1, xa, rfl, hb1, hxa, f1⟩ := ints_get HAA.out hlt
            obtain ⟨b2, off2, xb, rfl, hb2, hxb, f2⟩ := ints_get HBB.out hlt
            have HD := Lib.hid hd
            have HA := Lib.hid hxa
            have HB := Lib.hid hxb
            clear hd hxa hxb hp
            by_cases q0 : xb < xa
            · by_cases q1 : xb < 0
              · have HR := Lib.hid (vec_bad HD.out HA.out HB.out (by omega) : vecD D al bl = false)
                have c1 : decide (xb < 0) = true := by simpa using q1
                go_wp2
                first | refine wp_region_ext_lit2 (by kernel_rfl) (by kernel_rfl) ?_ | refine wp_region_ext_lit (by kernel_rfl) (by kernel_rfl) ?_
                repeat (go_big_quiet_step (fail))
                refine wpQuiet_nil ?_
                intro _ hwq'
                obtain ⟨xq, hwq''⟩ := hwq'
                subst hwq''
                go_wp2
                go_ret
                exact ⟨by rw [HR.out]; rfl, (by repeat (first | exact Exts.refl _ | apply Exts.andR | apply Exts.alloc | apply Exts.wext | apply Exts.drew | apply Exts.drewN))⟩
              · have c1 : decide (xb < 0) = false := by simpa using q1
                by_cases q2 : V ≤ xa
                · have HR := Lib.hid (vec_bad HD.out HA.out HB.out (by omega) : vecD D al bl = false)
                  have c2 : decide (V ≤ xa) = true := by simpa using q2
                  go_wp2
                  first | refine wp_region_ext_lit2 (by kernel_rfl) (by kernel_rfl) ?_ | refine wp_region_ext_lit (by kernel_rfl) (by kernel_rfl) ?_
                  repeat (go_big_quiet_step (fail))
                  refine wpQuiet_nil ?_
                  intro _ hwq'
                  obtain ⟨xq, hwq''⟩ := hwq'
                  subst hwq''
                  go_wp2
                  go_ret
                  exact ⟨by rw [HR.out]; rfl, (by repeat (first | exact Exts.refl _ | apply Exts.andR | apply Exts.alloc | apply Exts.wext | apply Exts.drew | apply Exts.drewN))⟩
                · have c2 : decide (V ≤ xa) = false := by simpa using q2
                  have HQ := Lib.hid (inK_next HI.out HD.out HA.out HB.out (by omega))
                  go_wp2
                  first | refine wp_region_ext_lit2 (by kernel_rfl) (by kernel_rfl) ?_ | refine wp_region_ext_lit (by kernel_rfl) (by kernel_rfl) ?_
                  repeat (go_big_quiet_step (fail))
                  refine wpQuiet_nil ?_
                  intro _ hwq'
                  obtain ⟨xq, hwq''⟩ := hwq'
                  subst hwq''
                  go_wp2
                  refine ⟨⟨k + 1, by omega, by go_num, (by repeat (first | exact Exts.refl _ | apply Exts.andR | apply Exts.alloc | apply Exts.wext | apply Exts.drew | apply Exts.drewN)), HQ.out⟩, ?_⟩
                  simp [intOf]; omega
            · by_cases q3 : xa < xb
              · by_cases q1 : xa < 0
                · have HR := Lib.hid (vec_bad HD.out HA.out HB.out (by omega) : vecD D al bl = false)
                  have c1 : decide (xa < 0) = true := by simpa using q1
                  go_wp2
                  first | refine wp_region_ext_lit2 (by kernel_rfl) (by kernel_rfl) ?_ | refine wp_region_ext_lit (by kernel_rfl) (by kernel_rfl) ?_
                  repeat (go_big_quiet_step (fail))
                  refine wpQuiet_nil ?_
                  intro _ hwq'
                  obtain ⟨xq, hwq''⟩ := hwq'
                  subst hwq''
                  go_wp2
                  go_ret
                  exact ⟨by rw [HR.out]; rfl, (by repeat (first | exact Exts.refl _ | apply Exts.andR | apply Exts.alloc | apply Exts.wext | apply Exts.drew | apply Exts.drewN))⟩
                · have c1 : decide (xa < 0) = false := by simpa using q1
                  by_cases q2 : V ≤ xb
                  · have HR := Lib.hid (vec_bad HD.out HA.out HB.out (by omega) : vecD D al bl = false)
                    have c2 : decide (V ≤ xb) = true := by simpa using q2
                    go_wp2
                    first | refine wp_region_ext_lit2 (by kernel_rfl) (by kernel_rfl) ?_ | refine wp_region_ext_lit (by kernel_rfl) (by kernel_rfl) ?_
                    repeat (go_big_quiet_step (fail))
                    refine wpQuiet_nil ?_
                    intro _ hwq'
                    obtain ⟨xq, hwq''⟩ := hwq'
                    subst hwq''
                    go_wp2
                    go_ret
                    exact ⟨by rw [HR.out]; rfl, (by repeat (first | exact Exts.refl _ | apply Exts.andR | apply Exts.alloc | apply Exts.wext | apply Exts.drew | apply Exts.drewN))⟩
                  · have c2 : decide (V ≤ xb) = false := by simpa using q2
                    have HQ := Lib.hid (inK_next HI.out HD.out HA.out HB.out (by omega))
                    go_wp2
                    first | refine wp_region_ext_lit2 (by kernel_rfl) (by kernel_rfl) ?_ | refine wp_region_ext_lit (by kernel_rfl) (by kernel_rfl) ?_
                    repeat (go_big_quiet_step (fail))
                    refine wpQuiet_nil ?_
                    intro _ hwq'
                    obtain ⟨xq, hwq''⟩ := hwq'
                    subst hwq''
                    go_wp2
                    refine ⟨⟨k + 1, by omega, by go_num, (by repeat (first | exact Exts.refl _ | apply Exts.andR | apply Exts.alloc | apply Exts.wext | apply Exts.drew | apply Exts.drewN)), HQ.out⟩, ?_⟩
                    simp [intOf]; omega
              · obtain rfl : xa = xb := by omega
                by_cases q1 : xa < 0
                · have HR := Lib.hid (vec_bad HD.out HA.out HB.out (by omega) : vecD D al bl = false)
                  have c1 : decide (xa < 0) = true := by simpa using q1
                  go_wp2
                  first | refine wp_region_ext_lit2 (by kernel_rfl) (by kernel_rfl) ?_ | refine wp_region_ext_lit (by kernel_rfl) (by kernel_rfl) ?_
                  repeat (go_big_quiet_step (fail))
                  refine wpQuiet_nil ?_
                  intro _ hwq'
                  obtain ⟨xq, hwq''⟩ := hwq'
                  subst hwq''
                  go_wp2
                  go_ret
                  exact ⟨by rw [HR.out]; rfl, (by repeat (first | exact Exts.refl _ | apply Exts.andR | apply Exts.alloc | apply Exts.wext | apply Exts.drew | apply Exts.drewN))⟩
                · have c1 : decide (xa < 0) = false := by simpa using q1
                  by_cases q2 : V ≤ xa
                  · have HR := Lib.hid (vec_bad HD.out HA.out HB.out (by omega) : vecD D al bl = false)
                    have c2 : decide (V ≤ xa) = true := by simpa using q2
                    go_wp2
                    first | refine wp_region_ext_lit2 (by kernel_rfl) (by kernel_rfl) ?_ | refine wp_region_ext_lit (by kernel_rfl) (by kernel_rfl) ?_
                    repeat (go_big_quiet_step (fail))
                    refine wpQuiet_nil ?_
                    intro _ hwq'
                    obtain ⟨xq, hwq''⟩ := hwq'
                    subst hwq''
                    go_wp2
                    go_ret
                    exact ⟨by rw [HR.out]; rfl, (by repeat (first | exact Exts.refl _ | apply Exts.andR | apply Exts.alloc | apply Exts.wext | apply Exts.drew | apply Exts.drewN))⟩
                  · have c2 : decide (V ≤ xa) = false := by simpa using q2
                    have HQ := Lib.hid (inK_next HI.out HD.out HA.out HB.out (by omega))
                    go_wp2
                    first | refine wp_region_ext_lit2 (by kernel_rfl) (by kernel_rfl) ?_ | refine wp_region_ext_lit (by kernel_rfl) (by kernel_rfl) ?_
                    repeat (go_big_quiet_step (fail))
                    refine wpQuiet_nil ?_
                    intro _ hwq'
                    obtain ⟨xq, hwq''⟩ := hwq'
                    subst hwq''
                    go_wp2
                    refine ⟨⟨k + 1, by omega, by go_num, (by repeat (first | exact Exts.refl _ | apply Exts.andR | apply Exts.alloc | apply Exts.wext | apply Exts.drew | apply Exts.drewN)), HQ.out⟩, ?_⟩
                    simp [intOf]; omega
          · obtain rfl : k = nb := by omega
            have HR := Lib.hid (vec_yes HRD.out HL.out HLA.out HLB.out HI.out)
            go_wp2
            go_ret
            exact ⟨by rw [HR.out]; rfl, (by repeat (first | exact Exts.refl _ | apply Exts.andR | apply Exts.alloc | apply Exts.wext | apply Exts.drew | apply Exts.drewN))⟩
      · have q2 : ((nb : Int) == (n : Int)) = false := by simp; omega
        have q1 : ((nb : Int) != (n : Int)) = true := by simp; omega
        have q3 : (nb == n) = false := by simpa using h2
        have q4 : (nb != n) = true := by simpa using h2
        have HR := Lib.hid (vec_len (D := D) (a := al) (b := bl) (.inr (by have := HL.out; have := HLB.out; omega)))
        subst h1
        go_enter Try.func39, Try.ntmps39
        go_wp2_with (first | (go_at_call 19; ((with_reducible refine (right19_D _ _ _ D _ _ (H.out.exts (by repeat (first | exact Exts.refl _ | apply Exts.andR | apply Exts.alloc | apply Exts.wext | apply Exts.drew | apply Exts.drewN))) HRD.out).mono ?_); rintro e w' ⟨rfl, x0, rfl⟩)))
        go_ret
        exact ⟨by rw [HR.out]; rfl, (by repeat (first | exact Exts.refl _ | apply Exts.andR | apply Exts.alloc | apply Exts.wext | apply Exts.drew | apply Exts.drewN))⟩
    · have q2 : ((na : Int) == (n : Int)) = false := by simp; omega
      have q1 : ((na : Int) != (n : Int)) = true := by simp; omega
      have q3 : (na == n) = false := by simpa using h1
      have q4 : (na != n) = true := by simpa using h1
      have HR := Lib.hid (vec_len (D := D) (a := al) (b := bl) (.inl (by have := HL.out; have := HLA.out; omega)))
      go_enter Try.func39, Try.ntmps39
      go_wp2_with (first | (go_at_call 19; ((with_reducible refine (right19_D _ _ _ D _ _ (H.out.exts (by repeat (first | exact Exts.refl _ | apply Exts.andR | apply Exts.alloc | apply Exts.wext | apply Exts.drew | apply Exts.drewN))) HRD.out).mono ?_); rintro e w' ⟨rfl, x0, rfl⟩)))
      go_ret
      exact ⟨by rw [HR.out]; rfl, (by repeat (first | exact Exts.refl _ | apply Exts.andR | apply Exts.alloc | apply Exts.wext | apply Exts.drew | apply Exts.drewN))⟩
end Go.Proofs.Ytbafcfbchbjgfaa
