/- Join, outside of the bounds too, and Joins of package factor. -/
import Derived.Test.YtbafcfbchbjgfaaJoin
namespace Go.Proofs.Ytbafcfbchbjgfaa
open Go.RowKit
set_option linter.unusedSimpArgs false
set_option linter.unusedVariables false

set_option maxRecDepth 100000
set_option maxHeartbeats 2000000
theorem join13_out {S : Nat → Prop} (V : Int) (po : Option Addr) (n c : Nat) (ps : List Pr) (g : Rel) (o : Bool) (aa bb : Int) (w : World) (h : Prs S w po n c ps) (hg : closedD V ps = (g, o)) (hb : o = true → ¬ (0 ≤ aa ∧ aa < V ∧ 0 ≤ bb ∧ bb < V)) :
    Calls Try.prog 13 #[.agg #[.int .i64 V, .slice po n c], .int .i64 aa, .int .i64 bb] w fun e w' => e = .returned (.tuple #[.int .i64 (joinD V ps aa bb).1, .bool (joinD V ps aa bb).2]) ∧ Exts w w' := by
  have H := Lib.hid h
  have HG := Lib.hid hg
  clear h hg
  cases o with
  | false =>
    have HR := Lib.hid (show joinD V ps aa bb = (0, false) by unfold joinD; rw [HG.out]; rfl)
    clear hb
    go_enter Try.func13, Try.ntmps13
    go_wp2_with (first | (go_at_call 31; ((with_reducible refine (closed31_D _ _ _ _ ps _ _ _ (RowF.exts H.out (by repeat (first | exact Exts.refl _ | apply Exts.andR | apply Exts.alloc | apply Exts.wext | apply Exts.drew | apply Exts.drewN))) HG.out).mono ?_); rintro e w' ⟨rfl, x1, rfl⟩)))
    go_ret2
    exact ⟨by rw [HR.out]; rfl, (by repeat (first | exact Exts.refl _ | apply Exts.andR | apply Exts.alloc | apply Exts.wext | apply Exts.drew | apply Exts.drewN))⟩
  | true =>
    have hb := hb rfl
    by_cases q0 : bb < aa
    · by_cases q1 : bb < 0
      · have c1 : decide (bb < 0) = true := by simpa using q1
        have HR := Lib.hid (join_out (ps := ps) (a := aa) (b := bb) (V := V) (by omega))
        go_enter Try.func13, Try.ntmps13
        go_wp2_with (first | (go_at_call 31; ((with_reducible refine (closed31_D _ _ _ _ ps _ _ _ (RowF.exts H.out (by repeat (first | exact Exts.refl _ | apply Exts.andR | apply Exts.alloc | apply Exts.wext | apply Exts.drew | apply Exts.drewN))) HG.out).mono ?_); rintro e w' ⟨rfl, x1, rfl⟩)))
        go_ret2
        exact ⟨by rw [HR.out]; rfl, (by repeat (first | exact Exts.refl _ | apply Exts.andR | apply Exts.alloc | apply Exts.wext | apply Exts.drew | apply Exts.drewN))⟩
      · have c1 : decide (bb < 0) = false := by simpa using q1
        have c2 : decide (V ≤ aa) = true := by simp; omega
        have HR := Lib.hid (join_out (ps := ps) (a := aa) (b := bb) (V := V) (by omega))
        go_enter Try.func13, Try.ntmps13
        go_wp2_with (first | (go_at_call 31; ((with_reducible refine (closed31_D _ _ _ _ ps _ _ _ (RowF.exts H.out (by repeat (first | exact Exts.refl _ | apply Exts.andR | apply Exts.alloc | apply Exts.wext | apply Exts.drew | apply Exts.drewN))) HG.out).mono ?_); rintro e w' ⟨rfl, x1, rfl⟩)))
        go_ret2
        exact ⟨by rw [HR.out]; rfl, (by repeat (first | exact Exts.refl _ | apply Exts.andR | apply Exts.alloc | apply Exts.wext | apply Exts.drew | apply Exts.drewN))⟩
    · by_cases q3 : aa < bb
      · by_cases q1 : aa < 0
        · have c1 : decide (aa < 0) = true := by simpa using q1
          have HR := Lib.hid (join_out (ps := ps) (a := aa) (b := bb) (V := V) (by omega))
          go_enter Try.func13, Try.ntmps13
          go_wp2_with (first | (go_at_call 31; ((with_reducible refine (closed31_D _ _ _ _ ps _ _ _ (RowF.exts H.out (by repeat (first | exact Exts.refl _ | apply Exts.andR | apply Exts.alloc | apply Exts.wext | apply Exts.drew | apply Exts.drewN))) HG.out).mono ?_); rintro e w' ⟨rfl, x1, rfl⟩)))
          go_ret2
          exact ⟨by rw [HR.out]; rfl, (by repeat (first | exact Exts.refl _ | apply Exts.andR | apply Exts.alloc | apply Exts.wext | apply Exts.drew | apply Exts.drewN))⟩
        · have c1 : decide (aa < 0) = false := by simpa using q1
          have c2 : decide (V ≤ bb) = true := by simp; omega
          have HR := Lib.hid (join_out (ps := ps) (a := aa) (b := bb) (V := V) (by omega))
          go_enter Try.func13, Try.ntmps13
          go_wp2_with (first | (go_at_call 31; ((with_reducible refine (closed31_D _ _ _ _ ps _ _ _ (RowF.exts H.out (by repeat (first | exact Exts.refl _ | apply Exts.andR | apply Exts.alloc | apply Exts.wext | apply Exts.drew | apply Exts.drewN))) HG.out).mono ?_); rintro e w' ⟨rfl, x1, rfl⟩)))
          go_ret2
          exact ⟨by rw [HR.out]; rfl, (by repeat (first | exact Exts.refl _ | apply Exts.andR | apply Exts.alloc | apply Exts.wext | apply Exts.drew | apply Exts.drewN))⟩
      · obtain rfl : aa = bb := by omega
        by_cases q1 : aa < 0
        · have c1 : decide (aa < 0) = true := by simpa using q1
          have HR := Lib.hid (join_out (ps := ps) (a := aa) (b := aa) (V := V) (by omega))
          go_enter Try.func13, Try.ntmps13
          go_wp2_with (first | (go_at_call 31; ((with_reducible refine (closed31_D _ _ _ _ ps _ _ _ (RowF.exts H.out (by repeat (first | exact Exts.refl _ | apply Exts.andR | apply Exts.alloc | apply Exts.wext | apply Exts.drew | apply Exts.drewN))) HG.out).mono ?_); rintro e w' ⟨rfl, x1, rfl⟩)))
          go_ret2
          exact ⟨by rw [HR.out]; rfl, (by repeat (first | exact Exts.refl _ | apply Exts.andR | apply Exts.alloc | apply Exts.wext | apply Exts.drew | apply Exts.drewN))⟩
        · have c1 : decide (aa < 0) = false := by simpa using q1
          have c2 : decide (V ≤ aa) = true := by simp; omega
          have HR := Lib.hid (join_out (ps := ps) (a := aa) (b := aa) (V := V) (by omega))
          go_enter Try.func13, Try.ntmps13
          go_wp2_with (first | (go_at_call 31; ((with_reducible refine (closed31_D _ _ _ _ ps _ _ _ (RowF.exts H.out (by repeat (first | exact Exts.refl _ | apply Exts.andR | apply Exts.alloc | apply Exts.wext | apply Exts.drew | apply Exts.drewN))) HG.out).mono ?_); rintro e w' ⟨rfl, x1, rfl⟩)))
          go_ret2
          exact ⟨by rw [HR.out]; rfl, (by repeat (first | exact Exts.refl _ | apply Exts.andR | apply Exts.alloc | apply Exts.wext | apply Exts.drew | apply Exts.drewN))⟩
theorem join13 {S : Nat → Prop} (V : Int) (po : Option Addr) (n c : Nat) (ps : List Pr) (aa bb : Int) (w : World) (h : Prs S w po n c ps) :
    Calls Try.prog 13 #[.agg #[.int .i64 V, .slice po n c], .int .i64 aa, .int .i64 bb] w fun e w' => e = .returned (.tuple #[.int .i64 (joinD V ps aa bb).1, .bool (joinD V ps aa bb).2]) ∧ Exts w w' := by
  obtain ⟨⟨g, o⟩, hg⟩ : ∃ D, closedD V ps = D := ⟨_, rfl⟩
  by_cases hb : o = true ∧ 0 ≤ aa ∧ aa < V ∧ 0 ≤ bb ∧ bb < V
  · obtain ⟨rfl, h1, h2, h3, h4⟩ := hb
    obtain ⟨m, rfl⟩ : ∃ m : Nat, V = m := ⟨V.toNat, by omega⟩
    obtain ⟨u, rfl⟩ : ∃ u : Nat, aa = u := ⟨aa.toNat, by omega⟩
    obtain ⟨v, rfl⟩ : ∃ v : Nat, bb = v := ⟨bb.toNat, by omega⟩
    rw [join_in hg (by omega) (by omega)]
    rcases Nat.lt_trichotomy u v with q | q | q
    · exact join13_lt m po n c ps g u v w h hg (by omega) (by omega) q
    · exact join13_eq m po n c ps g u v w h hg (by omega) (by omega) q
    · exact join13_gt m po n c ps g u v w h hg (by omega) (by omega) q
  · exact join13_out V po n c ps g o aa bb w h hg (fun ho hc => hb ⟨ho, hc⟩)
theorem join13_D {S : Nat → Prop} (V : Int) (po : Option Addr) (n c : Nat) (ps : List Pr) (aa bb x : Int) (o : Bool) (w : World) (h : Prs S w po n c ps) (hD : joinD V ps aa bb = (x, o)) :
    Calls Try.prog 13 #[.agg #[.int .i64 V, .slice po n c], .int .i64 aa, .int .i64 bb] w fun e w' => e = .returned (.tuple #[.int .i64 x, .bool o]) ∧ Exts w w' := by
  have := join13 V po n c ps aa bb w h
  rw [hD] at this
  exact this
/-- The joint numbers of the first so many dimensions, if there are all. -/
noncomputable def jnI (D : List Dm) (a b : List Int) (i : Nat) : Int × Bool := match D[i]?, a[i]?, b[i]? with | some d, some x, some y => joinD d.1 d.2 x y | _, _, _ => (0, false)
theorem jnI_of {D : List Dm} {a b : List Int} {i : Nat} {V : Int} {ps : List Pr} {x y : Int} (h1 : D[i]? = some (V, ps)) (h2 : a[i]? = some x) (h3 : b[i]? = some y) : jnI D a b i = joinD V ps x y := by
  unfold jnI
  rw [h1, h2, h3]
noncomputable def jnK (D : List Dm) (a b : List Int) (k : Nat) : List Int := (List.range k).map fun i => (jnI D a b i).1
noncomputable def jnB (D : List Dm) (a b : List Int) : Bool := vecD D a b && (List.range D.length).all fun i => (jnI D a b i).2
noncomputable def joinsD (D : List Dm) (a b : List Int) : List Int × Bool := if jnB D a b = true then (jnK D a b D.length, true) else ([], false)
theorem jnK_next (D : List Dm) (a b : List Int) (k : Nat) : jnK D a b (k + 1) = jnK D a b k ++ [(jnI D a b k).1] := by simp [jnK, List.range_succ]
@[simp] theorem jnK_len (D : List Dm) (a b : List Int) (k : Nat) : (jnK D a b k).length = k := by simp [jnK]
theorem joins_no {D : List Dm} {a b : List Int} (h : vecD D a b = false ∨ ∃ i, i < D.length ∧ (jnI D a b i).2 = false) : joinsD D a b = ([], false) := if_neg (by
  intro hc
  simp only [jnB, Bool.and_eq_true, List.all_eq_true, List.mem_range] at hc
  rcases h with h | ⟨i, hi, h⟩
  · rw [h] at hc; cases hc.1
  · have := hc.2 i hi
    rw [h] at this
    cases this)
theorem joins_yes {D : List Dm} {a b : List Int} (h : vecD D a b = true) (h2 : ∀ i, i < D.length → (jnI D a b i).2 = true) : joinsD D a b = (jnK D a b D.length, true) := if_pos (by
  simp only [jnB, Bool.and_eq_true, List.all_eq_true, List.mem_range]
  exact ⟨h, h2⟩)
theorem joins17 {S S1 S2 : Nat → Prop} (lo ao bo : Option Addr) (n c na ca nb cb : Nat) (D : List Dm) (al bl : List Int) (w : World) (h : Dims S w lo n c D) (ha : Ints S1 w ao na ca al) (hb : Ints S2 w bo nb cb bl) :
    Calls Try.prog 17 #[.slice lo n c, .slice ao na ca, .slice bo nb cb] w fun e w' => ∃ ro rc, e = .returned (.tuple #[.slice ro (joinsD D al bl).1.length rc, .bool (joinsD D al bl).2]) ∧ Exts w w' ∧ Ints (fun b => w.heap.size ≤ b) w' ro (joinsD D al bl).1.length rc (joinsD D al bl).1 := by
  obtain ⟨i0, hi, hz0, hz1, hz2⟩ := info_parts info3
  have HL := Lib.hid h.1
  have HLA := Lib.hid (ints_len ha)
  have HLB := Lib.hid (ints_len hb)
  obtain ⟨r, hr⟩ : ∃ r, vecD D al bl = r := ⟨_, rfl⟩
  have hm := h.nle
  unfold maxLen at hm
  have hma := RowF.nle ha
  have hmb := RowF.nle hb
  unfold maxLen at hma hmb
  have H := Lib.hid h
  have HAA := Lib.hid ha
  have HBB := Lib.hid hb
  have HVD := Lib.hid hr
  clear h ha hb hr
  cases r with
  | false =>
    have HR := Lib.hid (joins_no (.inl HVD.out))
    go_enter Try.func17, Try.ntmps17
    go_wp2_with (first | (go_at_call 39; ((with_reducible refine (vectors39_D _ _ _ _ _ _ _ _ _ D al bl _ _ (H.out.exts (by repeat (first | exact Exts.refl _ | apply Exts.andR | apply Exts.alloc | apply Exts.wext | apply Exts.drew | apply Exts.drewN))) (RowF.exts HAA.out (by repeat (first | exact Exts.refl _ | apply Exts.andR | apply Exts.alloc | apply Exts.wext | apply Exts.drew | apply Exts.drewN))) (RowF.exts HBB.out (by repeat (first | exact Exts.refl _ | apply Exts.andR | apply Exts.alloc | apply Exts.wext | apply Exts.drew | apply Exts.drewN))) HVD.out).mono ?_); rintro e w' ⟨rfl, x0, rfl⟩)))
    go_ret2
    exact ⟨none, 0, by rw [HR.out]; rfl, (by repeat (first | exact Exts.refl _ | apply Exts.andR | apply Exts.alloc | apply Exts.wext | apply Exts.drew | apply Exts.drewN)), by rw [HR.out]; exact RowF.nil _ _ _⟩
  | true =>
    have hv := vec_n HVD.out
    obtain ⟨rfl, rfl, hn12⟩ : na = n ∧ nb = n ∧ n ≤ 12 := by have := HL.out; have := HLA.out; have := HLB.out; omega
    clear hv
    go_enter Try.func17, Try.ntmps17
    go_wp2_with (first | (go_at_call 39; ((with_reducible refine (vectors39_D _ _ _ _ _ _ _ _ _ D al bl _ _ (H.out.exts (by repeat (first | exact Exts.refl _ | apply Exts.andR | apply Exts.alloc | apply Exts.wext | apply Exts.drew | apply Exts.drewN))) (RowF.exts HAA.out (by repeat (first | exact Exts.refl _ | apply Exts.andR | apply Exts.alloc | apply Exts.wext | apply Exts.drew | apply Exts.drewN))) (RowF.exts HBB.out (by repeat (first | exact Exts.refl _ | apply Exts.andR | apply Exts.alloc | apply Exts.wext | apply Exts.drew | apply Exts.drewN))) HVD.out).mono ?_); rintro e w' ⟨rfl, x0, rfl⟩)))
    go_loopw [8, 21] (fun o i wr => ∃ (k : Nat), k ≤ nb ∧ i = .int .i64 k ∧ Exts w wr ∧ wr.ownsRow w.heap.size 3 1 o k (intsC (jnK D al bl k)) ∧ ∀ i, i < k → (jnI D al bl i).2 = true) (fun _ i _ => nb - (intOf i).toNat)
    case atStart => exact ⟨0, by omega, rfl, (by repeat (first | exact Exts.refl _ | apply Exts.andR | apply Exts.alloc | apply Exts.wext | apply Exts.drew | apply Exts.drewN)), ⟨by simp, .inr ⟨w.heap.size + x0.bs.size, 0, #[], rfl, by omega, by rw [← wext_size]; exact heap_alloc_new _ _, Nat.le_refl _, by decide, rfl, rfl⟩⟩, fun i hi => by omega⟩
    case round =>
      obtain ⟨k, hk, rfl, ⟨x, rfl⟩, hown, hin⟩ := hrel
      obtain ⟨ao2, c2, rfl⟩ := owns_shape hown
      have HO := Lib.hid hown
      have HI := Lib.hid hin
      clear hown hin
      by_cases hlt : k < nb
      · obtain ⟨b, off, V, ps, po, pc, rfl, hb, hd, e0, e1, hp⟩ := H.out.get hlt
        obtain ⟨b1, off1, xa, rfl, hb1, hxa, f1⟩ := ints_get HAA.out hlt
        obtain ⟨b2, off2, xb, rfl, hb2, hxb, f2⟩ := ints_get HBB.out hlt
        obtain ⟨⟨t, ok⟩, ht⟩ : ∃ t, joinD V ps xa xb = t := ⟨_, rfl⟩
        have hat := jnI_of hd hxa hxb
        rw [ht] at hat
        have HP := Lib.hid hp
        have HT := Lib.hid ht
        have HN := Lib.hid (jnK_next D al bl k)
        have HAT := Lib.hid hat
        clear hd hxa hxb hp ht hat
        cases ok with
        | false =>
          have HR := Lib.hid (joins_no (.inr ⟨k, by rw [HL.out]; exact hlt, by rw [HAT.out]⟩))
          go_wp2
          first | refine wp_region_ext_lit2 (by kernel_rfl) (by kernel_rfl) ?_ | refine wp_region_ext_lit (by kernel_rfl) (by kernel_rfl) ?_
          repeat (go_big_quiet_step (((first | (go_at_call 13; exact Calls.ext_of (join13_D _ _ _ _ ps _ _ _ _ _ (RowF.exts HP.out (by repeat (first | exact Exts.refl _ | apply Exts.andR | apply Exts.alloc | apply Exts.wext | apply Exts.drew | apply Exts.drewN))) HT.out))))))
          refine wpQuiet_nil ?_
          intro _ hwq'
          obtain ⟨xq, hwq''⟩ := hwq'
          subst hwq''
          go_wp2
          go_ret2
          exact ⟨none, 0, by rw [HR.out]; rfl, (by repeat (first | exact Exts.refl _ | apply Exts.andR | apply Exts.alloc | apply Exts.wext | apply Exts.drew | apply Exts.drewN)), by rw [HR.out]; exact RowF.nil _ _ _⟩
        | true =>
          have HE := Lib.hid (show jnK D al bl (k + 1) = jnK D al bl k ++ [t] by rw [HN.out, HAT.out])
          go_wp2
          first | refine wp_region_ext_lit2 (by kernel_rfl) (by kernel_rfl) ?_ | refine wp_region_ext_lit (by kernel_rfl) (by kernel_rfl) ?_
          repeat (go_big_quiet_step (((first | (go_at_call 13; exact Calls.ext_of (join13_D _ _ _ _ ps _ _ _ _ _ (RowF.exts HP.out (by repeat (first | exact Exts.refl _ | apply Exts.andR | apply Exts.alloc | apply Exts.wext | apply Exts.drew | apply Exts.drewN))) HT.out))))))
          refine wpQuiet_nil ?_
          intro _ hwq'
          obtain ⟨xq, hwq''⟩ := hwq'
          subst hwq''
          go_wp2_with (at_builtin; refine wpList_append_lies _ rfl (.tmp 41) (.tmp 43) 26 rfl w.heap.size 3 i0 _ 1 8 Try.underlying26 hi hz0 hz1 hz2 rfl (by decide) (.slice ao2 k c2) k (intsC (jnK D al bl k)) rfl (ownsRow_exts HO.out (by repeat (first | exact Exts.refl _ | apply Exts.andR | apply Exts.alloc | apply Exts.wext | apply Exts.drew | apply Exts.drewN))) ⟨_, 0, none⟩ 1 1 [.int .i64 t] rfl rfl (by intro j u hj; match j, hj with | 0, hj => (simp at hj; subst hj; simp [go_sem])) (int_one _) (by decide) (by unfold maxLen; omega) (by omega) (by simp; omega) _ rfl ?_; intro g cg w1 hown' hgrow hat hlt')
          refine ⟨⟨k + 1, by omega, by go_num, exts_of_grown (W := w) (by repeat (first | exact Exts.refl _ | apply Exts.andR | apply Exts.alloc | apply Exts.wext | apply Exts.drew | apply Exts.drewN)) hgrow (fun b hb => (HO.out.lt b hb).1), by rw [HE.out, intsC_snoc]; exact hown', fun i hi => ?_⟩, ?_⟩
          · by_cases hik : i = k
            · rw [hik, HAT.out]
            · exact HI.out i (by omega)
          · simp [intOf]; omega
      · obtain rfl : k = nb := by omega
        have HR := Lib.hid (joins_yes HVD.out (by rw [HL.out]; exact HI.out))
        rw [HL.out] at HR
        go_wp2
        go_ret2
        exact ⟨ao2, c2, by rw [HR.out, jnK_len]; rfl, (by repeat (first | exact Exts.refl _ | apply Exts.andR | apply Exts.alloc | apply Exts.wext | apply Exts.drew | apply Exts.drewN)), by rw [HR.out, jnK_len]; exact RowF.of_owns (ownsRow_exts HO.out (by repeat (first | exact Exts.refl _ | apply Exts.andR | apply Exts.alloc | apply Exts.wext | apply Exts.drew | apply Exts.drewN)))⟩
end Go.Proofs.Ytbafcfbchbjgfaa
