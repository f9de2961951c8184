/- Lemmas that the laws of this seat share, 4 texts in one: Vecs, Blocks, Below, LawPlain. No condition of their own. -/
import Derived.Test.YtodgohilfbggjaaM3
import Derived.Deep.AppendLies
/- vectors of package factor. -/
namespace Go.Proofs.Ytodgohilfbggjaa
open Go.RowKit
set_option linter.unusedSimpArgs false
set_option linter.unusedVariables false

/-- A vector: as many numbers as dimensions, each one a value of its dimension. -/
def inD : List Dm → List Int → Bool
  | d :: D, a :: l => inV d.1 a && inD D l
  | [], [] => true
  | _, _ => false
theorem inD_iff : ∀ {D : List Dm} {l : List Int}, inD D l = true ↔ l.length = D.length ∧ ∀ (i : Nat) (d : Dm) (x : Int), D[i]? = some d → l[i]? = some x → inV d.1 x = true
  | [], [] => by simp [inD]
  | [], a :: l => by simp [inD]
  | d :: D, [] => by simp [inD]
  | d :: D, a :: l => by
    simp only [inD, Bool.and_eq_true, inD_iff (D := D) (l := l), List.length_cons, Nat.add_right_cancel_iff]
    constructor
    · rintro ⟨h1, h2, h3⟩
      refine ⟨h2, fun i e x hd hx => ?_⟩
      cases i with
      | zero => simp at hd hx; subst hd hx; exact h1
      | succ i => simp at hd hx; exact h3 i e x hd hx
    · rintro ⟨h2, h3⟩
      exact ⟨h3 0 d a rfl rfl, h2, fun i e x hd hx => h3 (i + 1) e x (by simpa using hd) (by simpa using hx)⟩
noncomputable def vecD (D : List Dm) (a b : List Int) : Bool := rightD D && (inD D a && inD D b)
def InK (D : List Dm) (a b : List Int) (k : Nat) : Prop := ∀ (i : Nat) (d : Dm) (x y : Int), i < k → D[i]? = some d → a[i]? = some x → b[i]? = some y → inV d.1 x = true ∧ inV d.1 y = true
theorem vec_bad {D : List Dm} {a b : List Int} {k : Nat} {V : Int} {ps : List Pr} {x y : Int} (hd : D[k]? = some (V, ps)) (ha : a[k]? = some x) (hb : b[k]? = some y) (h : ¬ (0 ≤ x ∧ x < V ∧ 0 ≤ y ∧ y < V)) : vecD D a b = false := by
  refine Bool.eq_false_iff.2 fun hc => h ?_
  simp only [vecD, Bool.and_eq_true] at hc
  have h1 := (inD_iff.1 hc.2.1).2 k _ x hd ha
  have h2 := (inD_iff.1 hc.2.2).2 k _ y hd hb
  simp only [inV, Bool.and_eq_true, decide_eq_true_eq] at h1 h2
  exact ⟨h1.1, h1.2, h2.1, h2.2⟩
theorem inK_next {D : List Dm} {a b : List Int} {k : Nat} {V : Int} {ps : List Pr} {x y : Int} (h : InK D a b k) (hd : D[k]? = some (V, ps)) (ha : a[k]? = some x) (hb : b[k]? = some y) (h2 : 0 ≤ x ∧ x < V ∧ 0 ≤ y ∧ y < V) : InK D a b (k + 1) := by
  intro i d p q hi h3 h4 h5
  by_cases hk : i = k
  · subst hk
    rw [hd] at h3
    rw [ha] at h4
    rw [hb] at h5
    cases h3; cases h4; cases h5
    simp only [inV, Bool.and_eq_true, decide_eq_true_eq]
    omega
  · exact h i d p q (by omega) h3 h4 h5
theorem vec_len {D : List Dm} {a b : List Int} (h : a.length ≠ D.length ∨ b.length ≠ D.length) : vecD D a b = false := by
  refine Bool.eq_false_iff.2 fun hc => ?_
  simp only [vecD, Bool.and_eq_true] at hc
  have h1 := (inD_iff.1 hc.2.1).1
  have h2 := (inD_iff.1 hc.2.2).1
  rcases h with h | h
  · exact h h1
  · exact h h2
theorem vec_yes {D : List Dm} {a b : List Int} {n : Nat} (hr : rightD D = true) (hn : D.length = n) (ha : a.length = n) (hb : b.length = n) (h : InK D a b n) : vecD D a b = true := by
  simp only [vecD, hr, Bool.true_and, Bool.and_eq_true, inD_iff]
  refine ⟨⟨by omega, fun i d x hd hx => ?_⟩, by omega, fun i d y hd hy => ?_⟩
  · have hi := (List.getElem?_eq_some_iff.1 hd).1
    exact (h i d x _ (by omega) hd hx (List.getElem?_eq_getElem (by omega))).1
  · have hi := (List.getElem?_eq_some_iff.1 hd).1
    exact (h i d _ y (by omega) hd (List.getElem?_eq_getElem (by omega)) hy).2
theorem right19_D {S : Nat → Prop} (lo : Option Addr) (n c : Nat) (D : List Dm) (r : Bool) (w : World) (h : Dims S w lo n c D) (hD : rightD D = r) :
    Calls Try.prog 62 #[.slice lo n c] w fun e w' => e = .returned (.bool r) ∧ Exts w w' := by
  subst hD
  exact right19 lo n c D w h
set_option maxRecDepth 100000
set_option maxHeartbeats 2000000
theorem vectors39 {S S1 S2 : Nat → Prop} (lo ao bo : Option Addr) (n c na ca nb cb : Nat) (D : List Dm) (al bl : List Int) (w : World) (h : Dims S w lo n c D) (ha : Ints S1 w ao na ca al) (hb : Ints S2 w bo nb cb bl) :
    Calls Try.prog 52 #[.slice lo n c, .slice ao na ca, .slice bo nb cb] w fun e w' => e = .returned (.bool (vecD D al bl)) ∧ Exts w w' := by
  have hm := h.nle
  unfold maxLen at hm
  have HL := Lib.hid h.1
  have HLA := Lib.hid (ints_len ha)
  have HLB := Lib.hid (ints_len hb)
  obtain ⟨r, hr⟩ : ∃ r, rightD D = r := ⟨_, rfl⟩
  have H := Lib.hid h
  have HAA := Lib.hid ha
  have HBB := Lib.hid hb
  have HRD := Lib.hid hr
  have hma := RowF.nle ha
  have hmb := RowF.nle hb
  unfold maxLen at hma hmb
  clear h ha hb hr
  cases r with
  | false =>
    have HR := Lib.hid (show vecD D al bl = false by simp [vecD, HRD.out])
    go_enter Try.func52, Try.ntmps52
    go_wp2_with (first | (go_at_call 62; ((with_reducible refine (right19_D _ _ _ D _ _ (H.out.exts (by repeat (first | exact Exts.refl _ | apply Exts.andR | apply Exts.alloc | apply Exts.wext | apply Exts.drew | apply Exts.drewN))) HRD.out).mono ?_); rintro e w' ⟨rfl, x0, rfl⟩)))
    go_ret
    exact ⟨by rw [HR.out]; rfl, (by repeat (first | exact Exts.refl _ | apply Exts.andR | apply Exts.alloc | apply Exts.wext | apply Exts.drew | apply Exts.drewN))⟩
  | true =>
    by_cases h1 : na = n
    · by_cases h2 : nb = n
      · subst h1 h2
        go_enter Try.func52, Try.ntmps52
        go_wp2_with (first | (go_at_call 62; ((with_reducible refine (right19_D _ _ _ D _ _ (H.out.exts (by repeat (first | exact Exts.refl _ | apply Exts.andR | apply Exts.alloc | apply Exts.wext | apply Exts.drew | apply Exts.drewN))) HRD.out).mono ?_); rintro e w' ⟨rfl, x0, rfl⟩)))
        go_loopw [28] (fun i wr => ∃ (k : Nat), k ≤ nb ∧ i = .int .i64 k ∧ Exts w wr ∧ InK D al bl k) (fun i _ => nb - (intOf i).toNat)
        case atStart => exact ⟨0, by omega, rfl, (by repeat (first | exact Exts.refl _ | apply Exts.andR | apply Exts.alloc | apply Exts.wext | apply Exts.drew | apply Exts.drewN)), fun i d x y hi => by omega⟩
        case round =>
          obtain ⟨k, hk, rfl, ⟨x, rfl⟩, hin⟩ := hrel
          have HI := Lib.hid hin
          clear hin
          by_cases hlt : k < nb
          · obtain ⟨b, off, V, ps, po, pc, rfl, hb, hd, e0, e1, hp⟩ := H.out.get hlt
            obtain ⟨b1, off1, xa, rfl, hb1, hxa, f1⟩ := ints_get HAA.out hlt
            obtain ⟨b2, off2, xb, rfl, hb2, hxb, f2⟩ := ints_get HBB.out hlt
            have HD := Lib.hid hd
            have HA := Lib.hid hxa
            have HB := Lib.hid hxb
            clear hd hxa hxb hp
            by_cases q0 : xb < xa
            · by_cases q1 : xb < 0
              · have HR := Lib.hid (vec_bad HD.out HA.out HB.out (by omega) : vecD D al bl = false)
                have c1 : decide (xb < 0) = true := by simpa using q1
                go_wp2
                first | refine wp_region_ext_lit2 (by kernel_rfl) (by kernel_rfl) ?_ | refine wp_region_ext_lit (by kernel_rfl) (by kernel_rfl) ?_
                repeat (go_big_quiet_step (fail))
                refine wpQuiet_nil ?_
                intro _ hwq'
                obtain ⟨xq, hwq''⟩ := hwq'
                subst hwq''
                go_wp2
                go_ret
                exact ⟨by rw [HR.out]; rfl, (by repeat (first | exact Exts.refl _ | apply Exts.andR | apply Exts.alloc | apply Exts.wext | apply Exts.drew | apply Exts.drewN))⟩
              · have c1 : decide (xb < 0) = false := by simpa using q1
                by_cases q2 : V ≤ xa
                · have HR := Lib.hid (vec_bad HD.out HA.out HB.out (by omega) : vecD D al bl = false)
                  have c2 : decide (V ≤ xa) = true := by simpa using q2
                  go_wp2
                  first | refine wp_region_ext_lit2 (by kernel_rfl) (by kernel_rfl) ?_ | refine wp_region_ext_lit (by kernel_rfl) (by kernel_rfl) ?_
                  repeat (go_big_quiet_step (fail))
                  refine wpQuiet_nil ?_
                  intro _ hwq'
                  obtain ⟨xq, hwq''⟩ := hwq'
                  subst hwq''
                  go_wp2
                  go_ret
                  exact ⟨by rw [HR.out]; rfl, (by repeat (first | exact Exts.refl _ | apply Exts.andR | apply Exts.alloc | apply Exts.wext | apply Exts.drew | apply Exts.drewN))⟩
                · have c2 : decide (V ≤ xa) = false := by simpa using q2
                  have HQ := Lib.hid (inK_next HI.out HD.out HA.out HB.out (by omega))
                  go_wp2
                  first | refine wp_region_ext_lit2 (by kernel_rfl) (by kernel_rfl) ?_ | refine wp_region_ext_lit (by kernel_rfl) (by kernel_rfl) ?_
                  repeat (go_big_quiet_step (fail))
                  refine wpQuiet_nil ?_
                  intro _ hwq'
                  obtain ⟨xq, hwq''⟩ := hwq'
                  subst hwq''
                  go_wp2
                  refine ⟨⟨k + 1, by omega, by go_num, (by repeat (first | exact Exts.refl _ | apply Exts.andR | apply Exts.alloc | apply Exts.wext | apply Exts.drew | apply Exts.drewN)), HQ.out⟩, ?_⟩
                  simp [intOf]; omega
            · by_cases q3 : xa < xb
              · by_cases q1 : xa < 0
                · have HR := Lib.hid (vec_bad HD.out HA.out HB.out (by omega) : vecD D al bl = false)
                  have c1 : decide (xa < 0) = true := by simpa using q1
                  go_wp2
                  first | refine wp_region_ext_lit2 (by kernel_rfl) (by kernel_rfl) ?_ | refine wp_region_ext_lit (by kernel_rfl) (by kernel_rfl) ?_
                  repeat (go_big_quiet_step (fail))
                  refine wpQuiet_nil ?_
                  intro _ hwq'
                  obtain ⟨xq, hwq''⟩ := hwq'
                  subst hwq''
                  go_wp2
                  go_ret
                  exact ⟨by rw [HR.out]; rfl, (by repeat (first | exact Exts.refl _ | apply Exts.andR | apply Exts.alloc | apply Exts.wext | apply Exts.drew | apply Exts.drewN))⟩
                · have c1 : decide (xa < 0) = false := by simpa using q1
                  by_cases q2 : V ≤ xb
                  · have HR := Lib.hid (vec_bad HD.out HA.out HB.out (by omega) : vecD D al bl = false)
                    have c2 : decide (V ≤ xb) = true := by simpa using q2
                    go_wp2
                    first | refine wp_region_ext_lit2 (by kernel_rfl) (by kernel_rfl) ?_ | refine wp_region_ext_lit (by kernel_rfl) (by kernel_rfl) ?_
                    repeat (go_big_quiet_step (fail))
                    refine wpQuiet_nil ?_
                    intro _ hwq'
                    obtain ⟨xq, hwq''⟩ := hwq'
                    subst hwq''
                    go_wp2
                    go_ret
                    exact ⟨by rw [HR.out]; rfl, (by repeat (first | exact Exts.refl _ | apply Exts.andR | apply Exts.alloc | apply Exts.wext | apply Exts.drew | apply Exts.drewN))⟩
                  · have c2 : decide (V ≤ xb) = false := by simpa using q2
                    have HQ := Lib.hid (inK_next HI.out HD.out HA.out HB.out (by omega))
                    go_wp2
                    first | refine wp_region_ext_lit2 (by kernel_rfl) (by kernel_rfl) ?_ | refine wp_region_ext_lit (by kernel_rfl) (by kernel_rfl) ?_
                    repeat (go_big_quiet_step (fail))
                    refine wpQuiet_nil ?_
                    intro _ hwq'
                    obtain ⟨xq, hwq''⟩ := hwq'
                    subst hwq''
                    go_wp2
                    refine ⟨⟨k + 1, by omega, by go_num, (by repeat (first | exact Exts.refl _ | apply Exts.andR | apply Exts.alloc | apply Exts.wext | apply Exts.drew | apply Exts.drewN)), HQ.out⟩, ?_⟩
                    simp [intOf]; omega
              · obtain rfl : xa = xb := by omega
                by_cases q1 : xa < 0
                · have HR := Lib.hid (vec_bad HD.out HA.out HB.out (by omega) : vecD D al bl = false)
                  have c1 : decide (xa < 0) = true := by simpa using q1
                  go_wp2
                  first | refine wp_region_ext_lit2 (by kernel_rfl) (by kernel_rfl) ?_ | refine wp_region_ext_lit (by kernel_rfl) (by kernel_rfl) ?_
                  repeat (go_big_quiet_step (fail))
                  refine wpQuiet_nil ?_
                  intro _ hwq'
                  obtain ⟨xq, hwq''⟩ := hwq'
                  subst hwq''
                  go_wp2
                  go_ret
                  exact ⟨by rw [HR.out]; rfl, (by repeat (first | exact Exts.refl _ | apply Exts.andR | apply Exts.alloc | apply Exts.wext | apply Exts.drew | apply Exts.drewN))⟩
                · have c1 : decide (xa < 0) = false := by simpa using q1
                  by_cases q2 : V ≤ xa
                  · have HR := Lib.hid (vec_bad HD.out HA.out HB.out (by omega) : vecD D al bl = false)
                    have c2 : decide (V ≤ xa) = true := by simpa using q2
                    go_wp2
                    first | refine wp_region_ext_lit2 (by kernel_rfl) (by kernel_rfl) ?_ | refine wp_region_ext_lit (by kernel_rfl) (by kernel_rfl) ?_
                    repeat (go_big_quiet_step (fail))
                    refine wpQuiet_nil ?_
                    intro _ hwq'
                    obtain ⟨xq, hwq''⟩ := hwq'
                    subst hwq''
                    go_wp2
                    go_ret
                    exact ⟨by rw [HR.out]; rfl, (by repeat (first | exact Exts.refl _ | apply Exts.andR | apply Exts.alloc | apply Exts.wext | apply Exts.drew | apply Exts.drewN))⟩
                  · have c2 : decide (V ≤ xa) = false := by simpa using q2
                    have HQ := Lib.hid (inK_next HI.out HD.out HA.out HB.out (by omega))
                    go_wp2
                    first | refine wp_region_ext_lit2 (by kernel_rfl) (by kernel_rfl) ?_ | refine wp_region_ext_lit (by kernel_rfl) (by kernel_rfl) ?_
                    repeat (go_big_quiet_step (fail))
                    refine wpQuiet_nil ?_
                    intro _ hwq'
                    obtain ⟨xq, hwq''⟩ := hwq'
                    subst hwq''
                    go_wp2
                    refine ⟨⟨k + 1, by omega, by go_num, (by repeat (first | exact Exts.refl _ | apply Exts.andR | apply Exts.alloc | apply Exts.wext | apply Exts.drew | apply Exts.drewN)), HQ.out⟩, ?_⟩
                    simp [intOf]; omega
          · obtain rfl : k = nb := by omega
            have HR := Lib.hid (vec_yes HRD.out HL.out HLA.out HLB.out HI.out)
            go_wp2
            go_ret
            exact ⟨by rw [HR.out]; rfl, (by repeat (first | exact Exts.refl _ | apply Exts.andR | apply Exts.alloc | apply Exts.wext | apply Exts.drew | apply Exts.drewN))⟩
      · have q2 : ((nb : Int) == (n : Int)) = false := by simp; omega
        have q1 : ((nb : Int) != (n : Int)) = true := by simp; omega
        have q3 : (nb == n) = false := by simpa using h2
        have q4 : (nb != n) = true := by simpa using h2
        have HR := Lib.hid (vec_len (D := D) (a := al) (b := bl) (.inr (by have := HL.out; have := HLB.out; omega)))
        subst h1
        go_enter Try.func52, Try.ntmps52
        go_wp2_with (first | (go_at_call 62; ((with_reducible refine (right19_D _ _ _ D _ _ (H.out.exts (by repeat (first | exact Exts.refl _ | apply Exts.andR | apply Exts.alloc | apply Exts.wext | apply Exts.drew | apply Exts.drewN))) HRD.out).mono ?_); rintro e w' ⟨rfl, x0, rfl⟩)))
        go_ret
        exact ⟨by rw [HR.out]; rfl, (by repeat (first | exact Exts.refl _ | apply Exts.andR | apply Exts.alloc | apply Exts.wext | apply Exts.drew | apply Exts.drewN))⟩
    · have q2 : ((na : Int) == (n : Int)) = false := by simp; omega
      have q1 : ((na : Int) != (n : Int)) = true := by simp; omega
      have q3 : (na == n) = false := by simpa using h1
      have q4 : (na != n) = true := by simpa using h1
      have HR := Lib.hid (vec_len (D := D) (a := al) (b := bl) (.inl (by have := HL.out; have := HLA.out; omega)))
      go_enter Try.func52, Try.ntmps52
      go_wp2_with (first | (go_at_call 62; ((with_reducible refine (right19_D _ _ _ D _ _ (H.out.exts (by repeat (first | exact Exts.refl _ | apply Exts.andR | apply Exts.alloc | apply Exts.wext | apply Exts.drew | apply Exts.drewN))) HRD.out).mono ?_); rintro e w' ⟨rfl, x0, rfl⟩)))
      go_ret
      exact ⟨by rw [HR.out]; rfl, (by repeat (first | exact Exts.refl _ | apply Exts.andR | apply Exts.alloc | apply Exts.wext | apply Exts.drew | apply Exts.drewN))⟩
end Go.Proofs.Ytodgohilfbggjaa

/- Blocks, Below and Compare of package factor. -/
namespace Go.Proofs.Ytodgohilfbggjaa
open Go.RowKit
set_option linter.unusedSimpArgs false
set_option linter.unusedVariables false

theorem info3 : (Try.prog.info? 3).map (fun i => (i.zero, i.size, i.bytes)) = some (some (.int .i64 0), 1, 8) := by kernel_rfl
theorem intsC_snoc (l : List Int) (x : Int) : intsC (l ++ [x]) = intsC l ++ [.int .i64 x] := by simp [intsC]
theorem int_one (x : Int) : ∀ u ∈ [Value.int .i64 x], u.oneCell' = true := by
  intro u hu
  simp at hu
  subst hu
  rfl
noncomputable def atI (D : List Dm) (a b : List Int) (i : Nat) : Bool := match D[i]?, a[i]?, b[i]? with | some d, some x, some y => atD d.1 d.2 x y | _, _, _ => false
theorem atI_of {D : List Dm} {a b : List Int} {i : Nat} {V : Int} {ps : List Pr} {x y : Int} (h1 : D[i]? = some (V, ps)) (h2 : a[i]? = some x) (h3 : b[i]? = some y) : atI D a b i = atD V ps x y := by
  unfold atI
  rw [h1, h2, h3]
noncomputable def blkK (D : List Dm) (a b : List Int) (k : Nat) : List Int := ((List.range k).filter fun i => !atI D a b i).map Int.ofNat
theorem blkK_next (D : List Dm) (a b : List Int) (k : Nat) : blkK D a b (k + 1) = if atI D a b k = false then blkK D a b k ++ [Int.ofNat k] else blkK D a b k := by
  unfold blkK
  rw [List.range_succ, List.filter_append, List.map_append]
  cases h : atI D a b k <;> simp [h]
theorem blkK_len (D : List Dm) (a b : List Int) (k : Nat) : (blkK D a b k).length ≤ k := by
  unfold blkK
  rw [List.length_map]
  exact Nat.le_trans (List.length_filter_le _ _) (by simp)
noncomputable def blocksD (D : List Dm) (a b : List Int) : List Int := if vecD D a b = true then blkK D a b D.length else []
noncomputable def belowD (D : List Dm) (a b : List Int) : Bool := vecD D a b && (blocksD D a b).isEmpty
theorem vectors39_D {S S1 S2 : Nat → Prop} (lo ao bo : Option Addr) (n c na ca nb cb : Nat) (D : List Dm) (al bl : List Int) (r : Bool) (w : World) (h : Dims S w lo n c D) (ha : Ints S1 w ao na ca al) (hb : Ints S2 w bo nb cb bl) (hD : vecD D al bl = r) :
    Calls Try.prog 52 #[.slice lo n c, .slice ao na ca, .slice bo nb cb] w fun e w' => e = .returned (.bool r) ∧ Exts w w' := by
  subst hD
  exact vectors39 lo ao bo n c na ca nb cb D al bl w h ha hb
theorem atleast21_D {S : Nat → Prop} (V : Int) (po : Option Addr) (n c : Nat) (ps : List Pr) (aa bb : Int) (r : Bool) (w : World) (h : Prs S w po n c ps) (hD : atD V ps aa bb = r) :
    Calls Try.prog 28 #[.agg #[.int .i64 V, .slice po n c], .int .i64 aa, .int .i64 bb] w fun e w' => e = .returned (.bool r) ∧ Exts w w' := by
  subst hD
  exact atleast21 V po n c ps aa bb w h
theorem vec_n {D : List Dm} {a b : List Int} (h : vecD D a b = true) : a.length = D.length ∧ b.length = D.length ∧ D.length ≤ 12 := by
  simp only [vecD, rightD, Bool.and_eq_true, decide_eq_true_eq] at h
  exact ⟨(inD_iff.1 h.2.1).1, (inD_iff.1 h.2.2).1, h.1.2⟩
set_option maxRecDepth 100000
set_option maxHeartbeats 2000000
theorem blocks25 {S S1 S2 : Nat → Prop} (lo ao bo : Option Addr) (n c na ca nb cb : Nat) (D : List Dm) (al bl : List Int) (w : World) (h : Dims S w lo n c D) (ha : Ints S1 w ao na ca al) (hb : Ints S2 w bo nb cb bl) :
    Calls Try.prog 53 #[.slice lo n c, .slice ao na ca, .slice bo nb cb] w fun e w' => ∃ ro rc, e = .returned (.slice ro (blocksD D al bl).length rc) ∧ Exts w w' ∧ Ints (fun b => w.heap.size ≤ b) w' ro (blocksD D al bl).length rc (blocksD D al bl) := by
  obtain ⟨i0, hi, hz0, hz1, hz2⟩ := info_parts info3
  have HL := Lib.hid h.1
  have HLA := Lib.hid (ints_len ha)
  have HLB := Lib.hid (ints_len hb)
  obtain ⟨r, hr⟩ : ∃ r, vecD D al bl = r := ⟨_, rfl⟩
  have hm := h.nle
  unfold maxLen at hm
  have hma := RowF.nle ha
  have hmb := RowF.nle hb
  unfold maxLen at hma hmb
  have H := Lib.hid h
  have HAA := Lib.hid ha
  have HBB := Lib.hid hb
  have HVD := Lib.hid hr
  clear h ha hb hr
  cases r with
  | false =>
    have HR := Lib.hid (show blocksD D al bl = [] by unfold blocksD; rw [HVD.out]; rfl)
    go_enter Try.func53, Try.ntmps53
    go_wp2_with (first | (go_at_call 52; ((with_reducible refine (vectors39_D _ _ _ _ _ _ _ _ _ D al bl _ _ (H.out.exts (by repeat (first | exact Exts.refl _ | apply Exts.andR | apply Exts.alloc | apply Exts.wext | apply Exts.drew | apply Exts.drewN))) (RowF.exts HAA.out (by repeat (first | exact Exts.refl _ | apply Exts.andR | apply Exts.alloc | apply Exts.wext | apply Exts.drew | apply Exts.drewN))) (RowF.exts HBB.out (by repeat (first | exact Exts.refl _ | apply Exts.andR | apply Exts.alloc | apply Exts.wext | apply Exts.drew | apply Exts.drewN))) HVD.out).mono ?_); rintro e w' ⟨rfl, x0, rfl⟩)))
    go_ret
    exact ⟨none, 0, by rw [HR.out]; rfl, (by repeat (first | exact Exts.refl _ | apply Exts.andR | apply Exts.alloc | apply Exts.wext | apply Exts.drew | apply Exts.drewN)), by rw [HR.out]; exact RowF.nil _ _ _⟩
  | true =>
    have hv := vec_n HVD.out
    have HR := Lib.hid (show blocksD D al bl = blkK D al bl n by unfold blocksD; rw [if_pos HVD.out, HL.out])
    obtain ⟨rfl, rfl, hn12⟩ : na = n ∧ nb = n ∧ n ≤ 12 := by have := HL.out; have := HLA.out; have := HLB.out; omega
    clear hv
    go_enter Try.func53, Try.ntmps53
    go_wp2_with (first | (go_at_call 52; ((with_reducible refine (vectors39_D _ _ _ _ _ _ _ _ _ D al bl _ _ (H.out.exts (by repeat (first | exact Exts.refl _ | apply Exts.andR | apply Exts.alloc | apply Exts.wext | apply Exts.drew | apply Exts.drewN))) (RowF.exts HAA.out (by repeat (first | exact Exts.refl _ | apply Exts.andR | apply Exts.alloc | apply Exts.wext | apply Exts.drew | apply Exts.drewN))) (RowF.exts HBB.out (by repeat (first | exact Exts.refl _ | apply Exts.andR | apply Exts.alloc | apply Exts.wext | apply Exts.drew | apply Exts.drewN))) HVD.out).mono ?_); rintro e w' ⟨rfl, x0, rfl⟩)))
    go_loopw [7, 17] (fun o i wr => ∃ (k m : Nat), k ≤ nb ∧ (blkK D al bl k).length = m ∧ i = .int .i64 k ∧ Exts w wr ∧ wr.ownsRow w.heap.size 3 1 o m (intsC (blkK D al bl k))) (fun _ i _ => nb - (intOf i).toNat)
    case atStart => exact ⟨0, 0, by omega, rfl, rfl, (by repeat (first | exact Exts.refl _ | apply Exts.andR | apply Exts.alloc | apply Exts.wext | apply Exts.drew | apply Exts.drewN)), World.ownsRow_nil _ _ _ _⟩
    case round =>
      obtain ⟨k, m, hk, hmk, rfl, ⟨x, rfl⟩, hown⟩ := hrel
      obtain ⟨ao2, c2, rfl⟩ := owns_shape hown
      have hmle := blkK_len D al bl k
      rw [hmk] at hmle
      have HO := Lib.hid hown
      have HMK := Lib.hid hmk
      clear hown hmk
      by_cases hlt : k < nb
      · obtain ⟨b, off, V, ps, po, pc, rfl, hb, hd, e0, e1, hp⟩ := H.out.get hlt
        obtain ⟨b1, off1, xa, rfl, hb1, hxa, f1⟩ := ints_get HAA.out hlt
        obtain ⟨b2, off2, xb, rfl, hb2, hxb, f2⟩ := ints_get HBB.out hlt
        obtain ⟨t, ht⟩ : ∃ t, atD V ps xa xb = t := ⟨_, rfl⟩
        have hat := atI_of hd hxa hxb
        rw [ht] at hat
        have HP := Lib.hid hp
        have HT := Lib.hid ht
        have HN := Lib.hid (blkK_next D al bl k)
        have HAT := Lib.hid hat
        clear hd hxa hxb hp ht hat
        cases t with
        | true =>
          have HE := Lib.hid (show blkK D al bl (k + 1) = blkK D al bl k by rw [HN.out, HAT.out]; rfl)
          go_wp2
          first | refine wp_region_ext_lit2 (by kernel_rfl) (by kernel_rfl) ?_ | refine wp_region_ext_lit (by kernel_rfl) (by kernel_rfl) ?_
          repeat (go_big_quiet_step (((first | (go_at_call 28; exact Calls.ext_of (atleast21_D _ _ _ _ ps _ _ _ _ (RowF.exts HP.out (by repeat (first | exact Exts.refl _ | apply Exts.andR | apply Exts.alloc | apply Exts.wext | apply Exts.drew | apply Exts.drewN))) HT.out))))))
          refine wpQuiet_nil ?_
          intro _ hwq'
          obtain ⟨xq, hwq''⟩ := hwq'
          subst hwq''
          go_wp2
          refine ⟨⟨k + 1, m, by omega, by rw [HE.out]; exact HMK.out, by go_num, (by repeat (first | exact Exts.refl _ | apply Exts.andR | apply Exts.alloc | apply Exts.wext | apply Exts.drew | apply Exts.drewN)), by rw [HE.out]; exact ownsRow_exts HO.out (by repeat (first | exact Exts.refl _ | apply Exts.andR | apply Exts.alloc | apply Exts.wext | apply Exts.drew | apply Exts.drewN))⟩, ?_⟩
          simp [intOf]; omega
        | false =>
          have HE := Lib.hid (show blkK D al bl (k + 1) = blkK D al bl k ++ [(k : Int)] by rw [HN.out, HAT.out]; rfl)
          go_wp2
          first | refine wp_region_ext_lit2 (by kernel_rfl) (by kernel_rfl) ?_ | refine wp_region_ext_lit (by kernel_rfl) (by kernel_rfl) ?_
          repeat (go_big_quiet_step (((first | (go_at_call 28; exact Calls.ext_of (atleast21_D _ _ _ _ ps _ _ _ _ (RowF.exts HP.out (by repeat (first | exact Exts.refl _ | apply Exts.andR | apply Exts.alloc | apply Exts.wext | apply Exts.drew | apply Exts.drewN))) HT.out))))))
          refine wpQuiet_nil ?_
          intro _ hwq'
          obtain ⟨xq, hwq''⟩ := hwq'
          subst hwq''
          go_wp2_with (at_builtin; refine wpList_append_lies _ rfl (.tmp 33) (.tmp 35) 24 rfl w.heap.size 3 i0 _ 1 8 Try.underlying24 hi hz0 hz1 hz2 rfl (by decide) (.slice ao2 m c2) m (intsC (blkK D al bl k)) rfl (ownsRow_exts HO.out (by repeat (first | exact Exts.refl _ | apply Exts.andR | apply Exts.alloc | apply Exts.wext | apply Exts.drew | apply Exts.drewN))) ⟨_, 0, none⟩ 1 1 [.int .i64 k] rfl rfl (by intro j u hj; match j, hj with | 0, hj => (simp at hj; subst hj; simp [go_sem])) (int_one _) (by decide) (by unfold maxLen; omega) (by omega) (by simp; omega) _ rfl ?_; intro g cg w1 hown' hgrow hat hlt')
          refine ⟨⟨k + 1, m + 1, by omega, by rw [HE.out, List.length_append, HMK.out]; rfl, by go_num, exts_of_grown (W := w) (by repeat (first | exact Exts.refl _ | apply Exts.andR | apply Exts.alloc | apply Exts.wext | apply Exts.drew | apply Exts.drewN)) hgrow (fun b hb => (HO.out.lt b hb).1), by rw [HE.out, intsC_snoc]; exact hown'⟩, ?_⟩
          simp [intOf]; omega
      · obtain rfl : k = nb := by omega
        go_wp2
        go_ret
        exact ⟨ao2, c2, by rw [HR.out, HMK.out]; rfl, (by repeat (first | exact Exts.refl _ | apply Exts.andR | apply Exts.alloc | apply Exts.wext | apply Exts.drew | apply Exts.drewN)), by rw [HR.out, HMK.out]; exact RowF.of_owns (ownsRow_exts HO.out (by repeat (first | exact Exts.refl _ | apply Exts.andR | apply Exts.alloc | apply Exts.wext | apply Exts.drew | apply Exts.drewN)))⟩
end Go.Proofs.Ytodgohilfbggjaa

/- Below and Compare of package factor. -/
namespace Go.Proofs.Ytodgohilfbggjaa
open Go.RowKit
set_option linter.unusedSimpArgs false
set_option linter.unusedVariables false

theorem blocks25_N {S S1 S2 : Nat → Prop} (lo ao bo : Option Addr) (n c na ca nb cb : Nat) (D : List Dm) (al bl ks : List Int) (m : Nat) (w : World) (h : Dims S w lo n c D) (ha : Ints S1 w ao na ca al) (hb : Ints S2 w bo nb cb bl) (hD : blocksD D al bl = ks) (hm : ks.length = m) :
    Calls Try.prog 53 #[.slice lo n c, .slice ao na ca, .slice bo nb cb] w fun e w' => ∃ ro rc, e = .returned (.slice ro m rc) ∧ Exts w w' ∧ Ints (fun b => w.heap.size ≤ b) w' ro m rc ks := by
  subst hD hm
  exact blocks25 lo ao bo n c na ca nb cb D al bl w h ha hb
set_option maxRecDepth 100000
set_option maxHeartbeats 2000000
theorem below23 {S S1 S2 : Nat → Prop} (lo ao bo : Option Addr) (n c na ca nb cb : Nat) (D : List Dm) (al bl : List Int) (w : World) (h : Dims S w lo n c D) (ha : Ints S1 w ao na ca al) (hb : Ints S2 w bo nb cb bl) :
    Calls Try.prog 29 #[.slice lo n c, .slice ao na ca, .slice bo nb cb] w fun e w' => e = .returned (.bool (belowD D al bl)) ∧ Exts w w' := by
  have HL := Lib.hid h.1
  have HLA := Lib.hid (ints_len ha)
  have HLB := Lib.hid (ints_len hb)
  obtain ⟨r, hr⟩ : ∃ r, vecD D al bl = r := ⟨_, rfl⟩
  have hm := h.nle
  unfold maxLen at hm
  have hma := RowF.nle ha
  have hmb := RowF.nle hb
  unfold maxLen at hma hmb
  have H := Lib.hid h
  have HAA := Lib.hid ha
  have HBB := Lib.hid hb
  have HVD := Lib.hid hr
  clear h ha hb hr
  obtain ⟨ks, hks⟩ : ∃ ks, blocksD D al bl = ks := ⟨_, rfl⟩
  obtain ⟨m, hkm⟩ : ∃ m, ks.length = m := ⟨_, rfl⟩
  have HBD := Lib.hid hks
  have HM := Lib.hid hkm
  have hmax : m ≤ n := by
    have h1 := blkK_len D al bl D.length
    have h2 := HL.out
    unfold blocksD at hks
    split at hks
    · rw [hks] at h1; omega
    · rw [← hkm, ← hks]; simp
  have HR := Lib.hid (show belowD D al bl = (r && decide (m = 0)) by
    unfold belowD
    rw [HVD.out, hks]
    congr 1
    cases ks with
    | nil => simp at hkm; simp [← hkm]
    | cons a l => simp at hkm; simp [← hkm])
  clear hks hkm
  cases r with
  | false =>
    go_enter Try.func29, Try.ntmps29
    go_wp2_with (first | (go_at_call 52; ((with_reducible refine (vectors39_D _ _ _ _ _ _ _ _ _ D al bl _ _ (H.out.exts (by repeat (first | exact Exts.refl _ | apply Exts.andR | apply Exts.alloc | apply Exts.wext | apply Exts.drew | apply Exts.drewN))) (RowF.exts HAA.out (by repeat (first | exact Exts.refl _ | apply Exts.andR | apply Exts.alloc | apply Exts.wext | apply Exts.drew | apply Exts.drewN))) (RowF.exts HBB.out (by repeat (first | exact Exts.refl _ | apply Exts.andR | apply Exts.alloc | apply Exts.wext | apply Exts.drew | apply Exts.drewN))) HVD.out).mono ?_); rintro e w' ⟨rfl, x0, rfl⟩)) | (go_at_call 53; ((with_reducible refine (blocks25_N _ _ _ _ _ _ _ _ _ D al bl _ _ _ (H.out.exts (by repeat (first | exact Exts.refl _ | apply Exts.andR | apply Exts.alloc | apply Exts.wext | apply Exts.drew | apply Exts.drewN))) (RowF.exts HAA.out (by repeat (first | exact Exts.refl _ | apply Exts.andR | apply Exts.alloc | apply Exts.wext | apply Exts.drew | apply Exts.drewN))) (RowF.exts HBB.out (by repeat (first | exact Exts.refl _ | apply Exts.andR | apply Exts.alloc | apply Exts.wext | apply Exts.drew | apply Exts.drewN))) HBD.out HM.out).mono ?_); rintro e w' ⟨ro, rc, rfl, ⟨x1, rfl⟩, hbr⟩; clear hbr)))
    go_ret
    exact ⟨by rw [HR.out]; rfl, (by repeat (first | exact Exts.refl _ | apply Exts.andR | apply Exts.alloc | apply Exts.wext | apply Exts.drew | apply Exts.drewN))⟩
  | true =>
    by_cases h0 : m = 0
    · subst h0
      go_enter Try.func29, Try.ntmps29
      go_wp2_with (first | (go_at_call 52; ((with_reducible refine (vectors39_D _ _ _ _ _ _ _ _ _ D al bl _ _ (H.out.exts (by repeat (first | exact Exts.refl _ | apply Exts.andR | apply Exts.alloc | apply Exts.wext | apply Exts.drew | apply Exts.drewN))) (RowF.exts HAA.out (by repeat (first | exact Exts.refl _ | apply Exts.andR | apply Exts.alloc | apply Exts.wext | apply Exts.drew | apply Exts.drewN))) (RowF.exts HBB.out (by repeat (first | exact Exts.refl _ | apply Exts.andR | apply Exts.alloc | apply Exts.wext | apply Exts.drew | apply Exts.drewN))) HVD.out).mono ?_); rintro e w' ⟨rfl, x0, rfl⟩)) | (go_at_call 53; ((with_reducible refine (blocks25_N _ _ _ _ _ _ _ _ _ D al bl _ _ _ (H.out.exts (by repeat (first | exact Exts.refl _ | apply Exts.andR | apply Exts.alloc | apply Exts.wext | apply Exts.drew | apply Exts.drewN))) (RowF.exts HAA.out (by repeat (first | exact Exts.refl _ | apply Exts.andR | apply Exts.alloc | apply Exts.wext | apply Exts.drew | apply Exts.drewN))) (RowF.exts HBB.out (by repeat (first | exact Exts.refl _ | apply Exts.andR | apply Exts.alloc | apply Exts.wext | apply Exts.drew | apply Exts.drewN))) HBD.out HM.out).mono ?_); rintro e w' ⟨ro, rc, rfl, ⟨x1, rfl⟩, hbr⟩; clear hbr)))
      go_ret
      exact ⟨by rw [HR.out]; rfl, (by repeat (first | exact Exts.refl _ | apply Exts.andR | apply Exts.alloc | apply Exts.wext | apply Exts.drew | apply Exts.drewN))⟩
    · have q1 : ((m : Int) == 0) = false := by simp; omega
      have q2 : (m == 0) = false := by simpa using h0
      have HR' := Lib.hid (HR.out.trans (show (true && decide (m = 0)) = false by simp [h0]))
      go_enter Try.func29, Try.ntmps29
      go_wp2_with (first | (go_at_call 52; ((with_reducible refine (vectors39_D _ _ _ _ _ _ _ _ _ D al bl _ _ (H.out.exts (by repeat (first | exact Exts.refl _ | apply Exts.andR | apply Exts.alloc | apply Exts.wext | apply Exts.drew | apply Exts.drewN))) (RowF.exts HAA.out (by repeat (first | exact Exts.refl _ | apply Exts.andR | apply Exts.alloc | apply Exts.wext | apply Exts.drew | apply Exts.drewN))) (RowF.exts HBB.out (by repeat (first | exact Exts.refl _ | apply Exts.andR | apply Exts.alloc | apply Exts.wext | apply Exts.drew | apply Exts.drewN))) HVD.out).mono ?_); rintro e w' ⟨rfl, x0, rfl⟩)) | (go_at_call 53; ((with_reducible refine (blocks25_N _ _ _ _ _ _ _ _ _ D al bl _ _ _ (H.out.exts (by repeat (first | exact Exts.refl _ | apply Exts.andR | apply Exts.alloc | apply Exts.wext | apply Exts.drew | apply Exts.drewN))) (RowF.exts HAA.out (by repeat (first | exact Exts.refl _ | apply Exts.andR | apply Exts.alloc | apply Exts.wext | apply Exts.drew | apply Exts.drewN))) (RowF.exts HBB.out (by repeat (first | exact Exts.refl _ | apply Exts.andR | apply Exts.alloc | apply Exts.wext | apply Exts.drew | apply Exts.drewN))) HBD.out HM.out).mono ?_); rintro e w' ⟨ro, rc, rfl, ⟨x1, rfl⟩, hbr⟩; clear hbr)))
      go_ret
      exact ⟨by rw [HR'.out]; rfl, (by repeat (first | exact Exts.refl _ | apply Exts.andR | apply Exts.alloc | apply Exts.wext | apply Exts.drew | apply Exts.drewN))⟩
theorem below23_D {S S1 S2 : Nat → Prop} (lo ao bo : Option Addr) (n c na ca nb cb : Nat) (D : List Dm) (al bl : List Int) (r : Bool) (w : World) (h : Dims S w lo n c D) (ha : Ints S1 w ao na ca al) (hb : Ints S2 w bo nb cb bl) (hD : belowD D al bl = r) :
    Calls Try.prog 29 #[.slice lo n c, .slice ao na ca, .slice bo nb cb] w fun e w' => e = .returned (.bool r) ∧ Exts w w' := by
  subst hD
  exact below23 lo ao bo n c na ca nb cb D al bl w h ha hb
end Go.Proofs.Ytodgohilfbggjaa

/- Below is reflexive, transitive and antisymmetric; a join is the least bound. Plain. -/
namespace Go.Proofs.Ytodgohilfbggjaa
open Go.RowKit
set_option linter.unusedSimpArgs false
set_option linter.unusedVariables false

theorem closed_ok {V : Int} {ps : List Pr} (h : (closedD V ps).2 = true) : ∃ g, closedD V ps = (g, true) := ⟨(closedD V ps).1, Prod.ext rfl h⟩
theorem cyc_no {f : Rel} (h : cycB (clR f) = false) {u : Nat} (hu : u < 12) : ¬ Reach f u u := fun hr => by
  have : cycB (clR f) = true := by
    simp only [cycB, List.any_eq_true, List.mem_range]
    exact ⟨u, hu, clR_iff.2 hr⟩
  rw [h] at this
  cases this
theorem valid_le {V : Int} {ps : List Pr} (h : validB V ps = true) : V ≤ 12 := by
  simp only [validB, Bool.and_eq_true, decide_eq_true_eq] at h
  exact h.1.2
theorem at_iff {V : Int} {ps : List Pr} {a b : Int} (h : (closedD V ps).2 = true) : atD V ps a b = true ↔ (0 ≤ a ∧ a < V) ∧ (0 ≤ b ∧ b < V) ∧ (Reach (pairRel ps) a.toNat b.toNat ∨ a = b) := by
  obtain ⟨g, hg⟩ := closed_ok h
  obtain ⟨hv, hc, rfl⟩ := closed_valid hg
  unfold atD
  rw [hg]
  simp only [inV, diagR, Bool.true_and, Bool.and_eq_true, decide_eq_true_eq, Bool.or_eq_true, beq_iff_eq, clR_iff]
  constructor
  · rintro ⟨h1, h2, h3 | ⟨h3, _⟩⟩
    · exact ⟨h1, h2, .inl h3⟩
    · exact ⟨h1, h2, .inr (by omega)⟩
  · rintro ⟨h1, h2, h3 | h3⟩
    · exact ⟨h1, h2, .inl h3⟩
    · exact ⟨h1, h2, .inr ⟨by omega, by omega⟩⟩
theorem at_refl {V : Int} {ps : List Pr} {a : Int} (h : (closedD V ps).2 = true) (ha : inV V a = true) : atD V ps a a = true := by
  simp only [inV, Bool.and_eq_true, decide_eq_true_eq] at ha
  exact (at_iff h).2 ⟨ha, ha, .inr rfl⟩
theorem at_trans {V : Int} {ps : List Pr} {a b c : Int} (h : (closedD V ps).2 = true) (h1 : atD V ps a b = true) (h2 : atD V ps b c = true) : atD V ps a c = true := by
  rw [at_iff h] at *
  obtain ⟨ha, hb, h1⟩ := h1
  obtain ⟨_, hc, h2⟩ := h2
  refine ⟨ha, hc, ?_⟩
  rcases h1 with h1 | rfl
  · rcases h2 with h2 | rfl
    · exact .inl (h1.trans h2)
    · exact .inl h1
  · exact h2
theorem at_anti {V : Int} {ps : List Pr} {a b : Int} (h : (closedD V ps).2 = true) (h1 : atD V ps a b = true) (h2 : atD V ps b a = true) : a = b := by
  obtain ⟨g, hg⟩ := closed_ok h
  obtain ⟨hv, hcy, _⟩ := closed_valid hg
  have hV := valid_le hv
  rw [at_iff h] at *
  obtain ⟨ha, hb, h1⟩ := h1
  obtain ⟨_, _, h2⟩ := h2
  rcases h1 with h1 | h1
  · rcases h2 with h2 | h2
    · exact absurd (h1.trans h2) (cyc_no hcy (by omega))
    · exact h2.symm
  · exact h1
theorem right_at {D : List Dm} (hr : rightD D = true) {i : Nat} {V : Int} {ps : List Pr} (hd : D[i]? = some (V, ps)) : (closedD V ps).2 = true := by
  simp only [rightD, Bool.and_eq_true, List.all_eq_true] at hr
  exact hr.1 _ (List.mem_of_getElem? hd)
theorem below_iff {D : List Dm} {a b : List Int} (hr : rightD D = true) (ha : inD D a = true) (hb : inD D b = true) : belowD D a b = true ↔ ∀ (i : Nat) V ps x y, D[i]? = some (V, ps) → a[i]? = some x → b[i]? = some y → atD V ps x y = true := by
  have hv : vecD D a b = true := by simp [vecD, hr, ha, hb]
  have h1 := (inD_iff.1 ha).1
  have h2 := (inD_iff.1 hb).1
  unfold belowD blocksD
  rw [if_pos hv, hv, Bool.true_and, List.isEmpty_iff, blkK, List.map_eq_nil_iff, List.filter_eq_nil_iff]
  constructor
  · intro h i V ps x y hd hx hy
    have := h i (by simpa using (List.getElem?_eq_some_iff.1 hd).1)
    rw [atI_of hd hx hy] at this
    simpa using this
  · intro h i hi
    have hi := List.mem_range.1 hi
    have hd : D[i]? = some (D[i].1, D[i].2) := List.getElem?_eq_getElem hi
    have hx : a[i]? = some (a[i]'(by omega)) := List.getElem?_eq_getElem (by omega)
    have hy : b[i]? = some (b[i]'(by omega)) := List.getElem?_eq_getElem (by omega)
    rw [atI_of hd hx hy, h i _ _ _ _ hd hx hy]
    decide
theorem in_at {D : List Dm} {a : List Int} (ha : inD D a = true) {i : Nat} {V : Int} {ps : List Pr} (hd : D[i]? = some (V, ps)) : ∃ x, a[i]? = some x ∧ inV V x = true := by
  have h1 := (inD_iff.1 ha).1
  have hi := (List.getElem?_eq_some_iff.1 hd).1
  have hx : a[i]? = some (a[i]'(by omega)) := List.getElem?_eq_getElem (by omega)
  exact ⟨_, hx, (inD_iff.1 ha).2 i _ _ hd hx⟩
theorem below_refl {D : List Dm} {a : List Int} (hr : rightD D = true) (ha : inD D a = true) : belowD D a a = true := (below_iff hr ha ha).2 fun i V ps x y hd hx hy => by
  rw [hx] at hy
  cases hy
  exact at_refl (right_at hr hd) ((inD_iff.1 ha).2 i _ _ hd hx)
theorem below_trans {D : List Dm} {a b c : List Int} (hr : rightD D = true) (ha : inD D a = true) (hb : inD D b = true) (hc : inD D c = true) (h1 : belowD D a b = true) (h2 : belowD D b c = true) : belowD D a c = true := (below_iff hr ha hc).2 fun i V ps x y hd hx hy => by
  obtain ⟨z, hz, _⟩ := in_at hb hd
  exact at_trans (right_at hr hd) ((below_iff hr ha hb).1 h1 i V ps x z hd hx hz) ((below_iff hr hb hc).1 h2 i V ps z y hd hz hy)
theorem below_anti {D : List Dm} {a b : List Int} (hr : rightD D = true) (ha : inD D a = true) (hb : inD D b = true) (h1 : belowD D a b = true) (h2 : belowD D b a = true) : a = b := by
  have l1 := (inD_iff.1 ha).1
  have l2 := (inD_iff.1 hb).1
  apply List.ext_getElem? 
  intro i
  by_cases hi : i < D.length
  · have hd : D[i]? = some (D[i].1, D[i].2) := List.getElem?_eq_getElem hi
    obtain ⟨x, hx, _⟩ := in_at ha hd
    obtain ⟨y, hy, _⟩ := in_at hb hd
    rw [hx, hy, at_anti (right_at hr hd) ((below_iff hr ha hb).1 h1 i _ _ x y hd hx hy) ((below_iff hr hb ha).1 h2 i _ _ y x hd hy hx)]
  · rw [List.getElem?_eq_none (by omega), List.getElem?_eq_none (by omega)]
theorem vec_of {D : List Dm} {a b : List Int} (hr : rightD D = true) (ha : inD D a = true) (hb : inD D b = true) : vecD D a b = true := by simp [vecD, hr, ha, hb]
theorem below_blocks {D : List Dm} {a b : List Int} (hr : rightD D = true) (ha : inD D a = true) (hb : inD D b = true) {r : Bool} (h : belowD D a b = r) : (blocksD D a b).isEmpty = r := by
  unfold belowD at h
  rw [vec_of hr ha hb, Bool.true_and] at h
  exact h
/-! Joins. -/
end Go.Proofs.Ytodgohilfbggjaa
