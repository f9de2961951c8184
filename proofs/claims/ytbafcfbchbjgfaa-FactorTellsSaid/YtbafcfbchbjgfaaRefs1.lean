/- Ints, Few, Vector and Valid of the reference; pair of the laws. -/
import Derived.Test.YtbafcfbchbjgfaaClo
namespace Go.Proofs.Ytbafcfbchbjgfaa
open Go.RowKit
set_option linter.unusedSimpArgs false
set_option linter.unusedVariables false

theorem list_ne_at {a b : List Int} {i : Nat} {x y : Int} (h1 : a[i]? = some x) (h2 : b[i]? = some y) (h : x ≠ y) : decide (a = b) = false := by
  rw [decide_eq_false_iff_not]
  rintro rfl
  rw [h1] at h2
  cases h2
  exact h rfl
theorem list_eq_at {a b : List Int} {n : Nat} (ha : a.length = n) (hb : b.length = n) (h : ∀ (i : Nat) x y, i < n → a[i]? = some x → b[i]? = some y → x = y) : decide (a = b) = true := by
  rw [decide_eq_true_eq]
  apply List.ext_getElem (by omega)
  intro i h1 h2
  exact h i _ _ (by omega) (List.getElem?_eq_getElem h1) (List.getElem?_eq_getElem h2)
set_option maxRecDepth 100000
set_option maxHeartbeats 2000000
theorem ints12 {S1 S2 : Nat → Prop} (ao bo : Option Addr) (na ca nb cb : Nat) (al bl : List Int) (w : World) (ha : Ints S1 w ao na ca al) (hb : Ints S2 w bo nb cb bl) :
    Calls Try.prog 12 #[.slice ao na ca, .slice bo nb cb] w fun e w' => e = .returned (.bool (decide (al = bl))) ∧ Exts w w' := by
  have hla := ints_len ha
  have hlb := ints_len hb
  have hma := RowF.nle ha
  have hmb := RowF.nle hb
  unfold maxLen at hma hmb
  have HLA := Lib.hid hla
  have HLB := Lib.hid hlb
  have HAA := Lib.hid ha
  have HBB := Lib.hid hb
  clear ha hb hla hlb
  by_cases hn : na = nb
  · subst hn
    go_enter Try.func12, Try.ntmps12
    go_wp2
    go_loopw [5] (fun i wr => ∃ (k : Nat), k ≤ na ∧ i = .int .i64 k ∧ Exts w wr ∧ ∀ (i : Nat) x y, i < k → al[i]? = some x → bl[i]? = some y → x = y) (fun i _ => na - (intOf i).toNat)
    case atStart => exact ⟨0, by omega, rfl, Exts.refl _, fun i x y hi => by omega⟩
    case round =>
      obtain ⟨k, hk, rfl, ⟨x, rfl⟩, hin⟩ := hrel
      have HI := Lib.hid hin
      clear hin
      by_cases hlt : k < na
      · obtain ⟨b1, off1, xa, rfl, hb1, hxa, f1⟩ := ints_get HAA.out hlt
        obtain ⟨b2, off2, xb, rfl, hb2, hxb, f2⟩ := ints_get HBB.out hlt
        have HA := Lib.hid hxa
        have HB := Lib.hid hxb
        clear hxa hxb
        by_cases he : xa = xb
        · subst he
          go_wp2
          first | refine wp_region_ext_lit2 (by kernel_rfl) (by kernel_rfl) ?_ | refine wp_region_ext_lit (by kernel_rfl) (by kernel_rfl) ?_
          repeat (go_big_quiet_step (fail))
          refine wpQuiet_nil ?_
          intro _ hwq'
          obtain ⟨xq, hwq''⟩ := hwq'
          subst hwq''
          go_wp2
          refine ⟨⟨k + 1, by omega, by go_num, (by repeat (first | exact Exts.refl _ | apply Exts.andR | apply Exts.alloc | apply Exts.wext | apply Exts.drew | apply Exts.drewN)), fun i x y hi h1 h2 => ?_⟩, ?_⟩
          · by_cases hik : i = k
            · rw [hik, HA.out] at h1
              rw [hik, HB.out] at h2
              cases h1; cases h2; rfl
            · exact HI.out i x y (by omega) h1 h2
          · simp [intOf]; omega
        · have q1 : (xa == xb) = false := by simpa using he
          have q2 : (xa != xb) = true := by simpa using he
          have HR := Lib.hid (list_ne_at HA.out HB.out he)
          clear he
          go_wp2
          first | refine wp_region_ext_lit2 (by kernel_rfl) (by kernel_rfl) ?_ | refine wp_region_ext_lit (by kernel_rfl) (by kernel_rfl) ?_
          repeat (go_big_quiet_step (fail))
          refine wpQuiet_nil ?_
          intro _ hwq'
          obtain ⟨xq, hwq''⟩ := hwq'
          subst hwq''
          go_wp2
          go_ret
          exact ⟨by rw [HR.out]; rfl, (by repeat (first | exact Exts.refl _ | apply Exts.andR | apply Exts.alloc | apply Exts.wext | apply Exts.drew | apply Exts.drewN))⟩
      · obtain rfl : k = na := by omega
        have HR := Lib.hid (list_eq_at HLA.out HLB.out HI.out)
        go_wp2
        go_ret
        exact ⟨by rw [HR.out]; rfl, (by repeat (first | exact Exts.refl _ | apply Exts.andR | apply Exts.alloc | apply Exts.wext | apply Exts.drew | apply Exts.drewN))⟩
  · have q2 : ((na : Int) == (nb : Int)) = false := by simp; omega
    have q1 : ((na : Int) != (nb : Int)) = true := by simp; omega
    have q3 : (na == nb) = false := by simpa using hn
    have q4 : (na != nb) = true := by simpa using hn
    have HR := Lib.hid (show decide (al = bl) = false by
      rw [decide_eq_false_iff_not]
      rintro rfl
      have h1 := HLA.out
      have h2 := HLB.out
      omega)
    go_enter Try.func12, Try.ntmps12
    go_wp2
    go_ret
    exact ⟨by rw [HR.out]; rfl, (by repeat (first | exact Exts.refl _ | apply Exts.andR | apply Exts.alloc | apply Exts.wext | apply Exts.drew | apply Exts.drewN))⟩
def fewD (D : List Dm) : Bool := D.all (fun d => decide (d.2.length ≤ 40)) && decide (D.length ≤ 4)
theorem few9 {S : Nat → Prop} (lo : Option Addr) (n c : Nat) (D : List Dm) (w : World) (h : Dims S w lo n c D) :
    Calls Try.prog 9 #[.slice lo n c] w fun e w' => e = .returned (.bool (fewD D)) ∧ Exts w w' := by
  have hm := h.nle
  unfold maxLen at hm
  have HL := Lib.hid h.1
  have H := Lib.hid h
  clear h
  go_enter Try.func9, Try.ntmps9
  go_wp2
  go_loopw [3] (fun i wr => ∃ (k : Nat), k ≤ n ∧ i = .int .i64 k ∧ Exts w wr ∧ ∀ d ∈ D.take k, d.2.length ≤ 40) (fun i _ => n - (intOf i).toNat)
  case atStart => exact ⟨0, by omega, rfl, Exts.refl _, by simp⟩
  case round =>
    obtain ⟨k, hk, rfl, ⟨x, rfl⟩, hin⟩ := hrel
    have HI := Lib.hid hin
    clear hin
    by_cases hlt : k < n
    · obtain ⟨b, off, V, ps, po, pc, rfl, hb, hd, e0, e1, hp⟩ := H.out.get hlt
      have hpm := RowF.nle hp
      unfold maxLen at hpm
      have HD := Lib.hid hd
      clear hd hp
      by_cases h40 : ps.length ≤ 40
      · have q1 : decide ((40 : Int) < (ps.length : Int)) = false := by simp; omega
        go_wp2
        refine ⟨⟨k + 1, by omega, by go_num, (by repeat (first | exact Exts.refl _ | apply Exts.andR | apply Exts.alloc | apply Exts.wext | apply Exts.drew | apply Exts.drewN)), fun q hq => ?_⟩, ?_⟩
        · rw [List.take_add_one, HD.out, List.mem_append] at hq
          rcases hq with hq | hq
          · exact HI.out q hq
          · simp at hq
            rw [hq]
            exact h40
        · simp [intOf]; omega
      · have q1 : decide ((40 : Int) < (ps.length : Int)) = true := by simp; omega
        have HR := Lib.hid (show fewD D = false by
          refine Bool.eq_false_iff.2 fun hc => h40 ?_
          simp only [fewD, Bool.and_eq_true, List.all_eq_true, decide_eq_true_eq] at hc
          exact hc.1 _ (List.mem_of_getElem? HD.out))
        go_wp2
        go_ret
        exact ⟨by rw [HR.out]; rfl, (by repeat (first | exact Exts.refl _ | apply Exts.andR | apply Exts.alloc | apply Exts.wext | apply Exts.drew | apply Exts.drewN))⟩
    · obtain rfl : k = n := by omega
      have htk : D.take k = D := List.take_of_length_le (by rw [HL.out]; exact Nat.le_refl _)
      have HR := Lib.hid (show fewD D = decide ((k : Int) ≤ 4) by
        have := HI.out
        rw [htk] at this
        have hall : D.all (fun d => decide (d.2.length ≤ 40)) = true := List.all_eq_true.2 fun d hd => by simpa using this d hd
        simp only [fewD, HL.out, hall, Bool.true_and]
        rw [decide_eq_decide]
        omega)
      clear htk
      go_wp2
      go_ret
      exact ⟨by rw [HR.out]; first | rfl | (simp; done), (by repeat (first | exact Exts.refl _ | apply Exts.andR | apply Exts.alloc | apply Exts.wext | apply Exts.drew | apply Exts.drewN))⟩
theorem inD_no {D : List Dm} {l : List Int} {k : Nat} {V : Int} {ps : List Pr} {x : Int} (hd : D[k]? = some (V, ps)) (hx : l[k]? = some x) (h : ¬ (0 ≤ x ∧ x < V)) : inD D l = false := by
  refine Bool.eq_false_iff.2 fun hc => h ?_
  have h1 := (inD_iff.1 hc).2 k _ x hd hx
  simp only [inV, Bool.and_eq_true, decide_eq_true_eq] at h1
  exact h1
theorem vector29 {S S1 : Nat → Prop} (lo ao : Option Addr) (n c na ca : Nat) (D : List Dm) (al : List Int) (w : World) (h : Dims S w lo n c D) (ha : Ints S1 w ao na ca al) :
    Calls Try.prog 29 #[.slice lo n c, .slice ao na ca] w fun e w' => e = .returned (.bool (inD D al)) ∧ Exts w w' := by
  have hm := h.nle
  have hma := RowF.nle ha
  unfold maxLen at hm hma
  have HL := Lib.hid h.1
  have HLA := Lib.hid (ints_len ha)
  have H := Lib.hid h
  have HAA := Lib.hid ha
  clear h ha
  by_cases hn : na = n
  · subst hn
    go_enter Try.func29, Try.ntmps29
    go_wp2
    go_loopw [5] (fun i wr => ∃ (k : Nat), k ≤ na ∧ i = .int .i64 k ∧ Exts w wr ∧ ∀ (i : Nat) (d : Dm) (x : Int), i < k → D[i]? = some d → al[i]? = some x → inV d.1 x = true) (fun i _ => na - (intOf i).toNat)
    case atStart => exact ⟨0, by omega, rfl, Exts.refl _, fun i d x hi => by omega⟩
    case round =>
      obtain ⟨k, hk, rfl, ⟨x, rfl⟩, hin⟩ := hrel
      have HI := Lib.hid hin
      clear hin
      by_cases hlt : k < na
      · obtain ⟨b, off, V, ps, po, pc, rfl, hb, hd, e0, e1, hp⟩ := H.out.get hlt
        obtain ⟨b1, off1, xa, rfl, hb1, hxa, f1⟩ := ints_get HAA.out hlt
        have HD := Lib.hid hd
        have HA := Lib.hid hxa
        clear hd hxa hp
        by_cases h0 : xa < 0
        · have q1 : decide (xa < 0) = true := by simpa using h0
          have HR := Lib.hid (inD_no HD.out HA.out (by omega))
          go_wp2
          first | refine wp_region_ext_lit2 (by kernel_rfl) (by kernel_rfl) ?_ | refine wp_region_ext_lit (by kernel_rfl) (by kernel_rfl) ?_
          repeat (go_big_quiet_step (fail))
          refine wpQuiet_nil ?_
          intro _ hwq'
          obtain ⟨xq, hwq''⟩ := hwq'
          subst hwq''
          go_wp2
          go_ret
          exact ⟨by rw [HR.out]; rfl, (by repeat (first | exact Exts.refl _ | apply Exts.andR | apply Exts.alloc | apply Exts.wext | apply Exts.drew | apply Exts.drewN))⟩
        · have q1 : decide (xa < 0) = false := by simpa using h0
          by_cases h1 : V ≤ xa
          · have q2 : decide (V ≤ xa) = true := by simpa using h1
            have HR := Lib.hid (inD_no HD.out HA.out (by omega))
            go_wp2
            first | refine wp_region_ext_lit2 (by kernel_rfl) (by kernel_rfl) ?_ | refine wp_region_ext_lit (by kernel_rfl) (by kernel_rfl) ?_
            repeat (go_big_quiet_step (fail))
            refine wpQuiet_nil ?_
            intro _ hwq'
            obtain ⟨xq, hwq''⟩ := hwq'
            subst hwq''
            go_wp2
            go_ret
            exact ⟨by rw [HR.out]; rfl, (by repeat (first | exact Exts.refl _ | apply Exts.andR | apply Exts.alloc | apply Exts.wext | apply Exts.drew | apply Exts.drewN))⟩
          · have q2 : decide (V ≤ xa) = false := by simpa using h1
            have HQ := Lib.hid (show inV V xa = true by simp [inV]; omega)
            clear h0 h1
            go_wp2
            first | refine wp_region_ext_lit2 (by kernel_rfl) (by kernel_rfl) ?_ | refine wp_region_ext_lit (by kernel_rfl) (by kernel_rfl) ?_
            repeat (go_big_quiet_step (fail))
            refine wpQuiet_nil ?_
            intro _ hwq'
            obtain ⟨xq, hwq''⟩ := hwq'
            subst hwq''
            go_wp2
            refine ⟨⟨k + 1, by omega, by go_num, (by repeat (first | exact Exts.refl _ | apply Exts.andR | apply Exts.alloc | apply Exts.wext | apply Exts.drew | apply Exts.drewN)), fun i d y hi h1 h2 => ?_⟩, ?_⟩
            · by_cases hik : i = k
              · rw [hik, HD.out] at h1
                rw [hik, HA.out] at h2
                cases h1; cases h2
                exact HQ.out
              · exact HI.out i d y (by omega) h1 h2
            · simp [intOf]; omega
      · obtain rfl : k = na := by omega
        have HR := Lib.hid (show inD D al = true by
          rw [inD_iff]
          refine ⟨by rw [HL.out, HLA.out], fun i d y h1 h2 => HI.out i d y ?_ h1 h2⟩
          have := (List.getElem?_eq_some_iff.1 h1).1
          rw [HL.out] at this
          exact this)
        go_wp2
        go_ret
        exact ⟨by rw [HR.out]; rfl, (by repeat (first | exact Exts.refl _ | apply Exts.andR | apply Exts.alloc | apply Exts.wext | apply Exts.drew | apply Exts.drewN))⟩
  · have q2 : ((na : Int) == (n : Int)) = false := by simp; omega
    have q1 : ((na : Int) != (n : Int)) = true := by simp; omega
    have q3 : (na == n) = false := by simpa using hn
    have q4 : (na != n) = true := by simpa using hn
    have HR := Lib.hid (show inD D al = false by
      refine Bool.eq_false_iff.2 fun hc => ?_
      have h1 := (inD_iff.1 hc).1
      have h2 := HL.out
      have h3 := HLA.out
      omega)
    go_enter Try.func29, Try.ntmps29
    go_wp2
    go_ret
    exact ⟨by rw [HR.out]; rfl, (by repeat (first | exact Exts.refl _ | apply Exts.andR | apply Exts.alloc | apply Exts.wext | apply Exts.drew | apply Exts.drewN))⟩
end Go.Proofs.Ytbafcfbchbjgfaa
