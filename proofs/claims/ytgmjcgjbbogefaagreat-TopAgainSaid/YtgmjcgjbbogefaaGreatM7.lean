/- Lemmas that the laws of this seat share, 4 texts in one: Blocks, Below, LawPlain, HomePlain. No condition of their own. -/
import Derived.Test.YtgmjcgjbbogefaaGreatM6
import Derived.Deep.AppendLies
/- Blocks, Below and Compare of package factor. -/
namespace Go.Proofs.YtgmjcgjbbogefaaGreat
open Go.RowKit
set_option linter.unusedSimpArgs false
set_option linter.unusedVariables false

theorem info3 : (Tryz.prog.info? 3).map (fun i => (i.zero, i.size, i.bytes)) = some (some (.int .i64 0), 1, 8) := by kernel_rfl
theorem intsC_snoc (l : List Int) (x : Int) : intsC (l ++ [x]) = intsC l ++ [.int .i64 x] := by simp [intsC]
theorem int_one (x : Int) : ∀ u ∈ [Value.int .i64 x], u.oneCell' = true := by
  intro u hu
  simp at hu
  subst hu
  rfl
noncomputable def atI (D : List Dm) (a b : List Int) (i : Nat) : Bool := match D[i]?, a[i]?, b[i]? with | some d, some x, some y => atD d.1 d.2 x y | _, _, _ => false
theorem atI_of {D : List Dm} {a b : List Int} {i : Nat} {V : Int} {ps : List Pr} {x y : Int} (h1 : D[i]? = some (V, ps)) (h2 : a[i]? = some x) (h3 : b[i]? = some y) : atI D a b i = atD V ps x y := by
  unfold atI
  rw [h1, h2, h3]
noncomputable def blkK (D : List Dm) (a b : List Int) (k : Nat) : List Int := ((List.range k).filter fun i => !atI D a b i).map Int.ofNat
theorem blkK_next (D : List Dm) (a b : List Int) (k : Nat) : blkK D a b (k + 1) = if atI D a b k = false then blkK D a b k ++ [Int.ofNat k] else blkK D a b k := by
  unfold blkK
  rw [List.range_succ, List.filter_append, List.map_append]
  cases h : atI D a b k <;> simp [h]
theorem blkK_len (D : List Dm) (a b : List Int) (k : Nat) : (blkK D a b k).length ≤ k := by
  unfold blkK
  rw [List.length_map]
  exact Nat.le_trans (List.length_filter_le _ _) (by simp)
noncomputable def blocksD (D : List Dm) (a b : List Int) : List Int := if vecD D a b = true then blkK D a b D.length else []
noncomputable def belowD (D : List Dm) (a b : List Int) : Bool := vecD D a b && (blocksD D a b).isEmpty
theorem vectors39_D {S S1 S2 : Nat → Prop} (lo ao bo : Option Addr) (n c na ca nb cb : Nat) (D : List Dm) (al bl : List Int) (r : Bool) (w : World) (h : Dims S w lo n c D) (ha : Ints S1 w ao na ca al) (hb : Ints S2 w bo nb cb bl) (hD : vecD D al bl = r) :
    Calls Tryz.prog 34 #[.slice lo n c, .slice ao na ca, .slice bo nb cb] w fun e w' => e = .returned (.bool r) ∧ Exts w w' := by
  subst hD
  exact vectors39 lo ao bo n c na ca nb cb D al bl w h ha hb
theorem atleast21_D {S : Nat → Prop} (V : Int) (po : Option Addr) (n c : Nat) (ps : List Pr) (aa bb : Int) (r : Bool) (w : World) (h : Prs S w po n c ps) (hD : atD V ps aa bb = r) :
    Calls Tryz.prog 44 #[.agg #[.int .i64 V, .slice po n c], .int .i64 aa, .int .i64 bb] w fun e w' => e = .returned (.bool r) ∧ Exts w w' := by
  subst hD
  exact atleast21 V po n c ps aa bb w h
theorem vec_n {D : List Dm} {a b : List Int} (h : vecD D a b = true) : a.length = D.length ∧ b.length = D.length ∧ D.length ≤ 12 := by
  simp only [vecD, rightD, Bool.and_eq_true, decide_eq_true_eq] at h
  exact ⟨(inD_iff.1 h.2.1).1, (inD_iff.1 h.2.2).1, h.1.2⟩
set_option maxRecDepth 100000
set_option maxHeartbeats 2000000
theorem blocks25 {S S1 S2 : Nat → Prop} (lo ao bo : Option Addr) (n c na ca nb cb : Nat) (D : List Dm) (al bl : List Int) (w : World) (h : Dims S w lo n c D) (ha : Ints S1 w ao na ca al) (hb : Ints S2 w bo nb cb bl) :
    Calls Tryz.prog 35 #[.slice lo n c, .slice ao na ca, .slice bo nb cb] w fun e w' => ∃ ro rc, e = .returned (.slice ro (blocksD D al bl).length rc) ∧ Exts w w' ∧ Ints (fun b => w.heap.size ≤ b) w' ro (blocksD D al bl).length rc (blocksD D al bl) := by
  obtain ⟨i0, hi, hz0, hz1, hz2⟩ := info_parts info3
  have HL := Lib.hid h.1
  have HLA := Lib.hid (ints_len ha)
  have HLB := Lib.hid (ints_len hb)
  obtain ⟨r, hr⟩ : ∃ r, vecD D al bl = r := ⟨_, rfl⟩
  have hm := h.nle
  unfold maxLen at hm
  have hma := RowF.nle ha
  have hmb := RowF.nle hb
  unfold maxLen at hma hmb
  have H := Lib.hid h
  have HAA := Lib.hid ha
  have HBB := Lib.hid hb
  have HVD := Lib.hid hr
  clear h ha hb hr
  cases r with
  | false =>
    have HR := Lib.hid (show blocksD D al bl = [] by unfold blocksD; rw [HVD.out]; rfl)
    go_enter Tryz.func35, Tryz.ntmps35
    go_wp2_with (first | (go_at_call 34; ((with_reducible refine (vectors39_D _ _ _ _ _ _ _ _ _ D al bl _ _ (H.out.exts (by repeat (first | exact Exts.refl _ | apply Exts.andR | apply Exts.alloc | apply Exts.wext | apply Exts.drew | apply Exts.drewN))) (RowF.exts HAA.out (by repeat (first | exact Exts.refl _ | apply Exts.andR | apply Exts.alloc | apply Exts.wext | apply Exts.drew | apply Exts.drewN))) (RowF.exts HBB.out (by repeat (first | exact Exts.refl _ | apply Exts.andR | apply Exts.alloc | apply Exts.wext | apply Exts.drew | apply Exts.drewN))) HVD.out).mono ?_); rintro e w' ⟨rfl, x0, rfl⟩)))
    go_ret
    exact ⟨none, 0, by rw [HR.out]; rfl, (by repeat (first | exact Exts.refl _ | apply Exts.andR | apply Exts.alloc | apply Exts.wext | apply Exts.drew | apply Exts.drewN)), by rw [HR.out]; exact RowF.nil _ _ _⟩
  | true =>
    have hv := vec_n HVD.out
    have HR := Lib.hid (show blocksD D al bl = blkK D al bl n by unfold blocksD; rw [if_pos HVD.out, HL.out])
    obtain ⟨rfl, rfl, hn12⟩ : na = n ∧ nb = n ∧ n ≤ 12 := by have := HL.out; have := HLA.out; have := HLB.out; omega
    clear hv
    go_enter Tryz.func35, Tryz.ntmps35
    go_wp2_with (first | (go_at_call 34; ((with_reducible refine (vectors39_D _ _ _ _ _ _ _ _ _ D al bl _ _ (H.out.exts (by repeat (first | exact Exts.refl _ | apply Exts.andR | apply Exts.alloc | apply Exts.wext | apply Exts.drew | apply Exts.drewN))) (RowF.exts HAA.out (by repeat (first | exact Exts.refl _ | apply Exts.andR | apply Exts.alloc | apply Exts.wext | apply Exts.drew | apply Exts.drewN))) (RowF.exts HBB.out (by repeat (first | exact Exts.refl _ | apply Exts.andR | apply Exts.alloc | apply Exts.wext | apply Exts.drew | apply Exts.drewN))) HVD.out).mono ?_); rintro e w' ⟨rfl, x0, rfl⟩)))
    go_loopw [7, 17] (fun o i wr => ∃ (k m : Nat), k ≤ nb ∧ (blkK D al bl k).length = m ∧ i = .int .i64 k ∧ Exts w wr ∧ wr.ownsRow w.heap.size 3 1 o m (intsC (blkK D al bl k))) (fun _ i _ => nb - (intOf i).toNat)
    case atStart => exact ⟨0, 0, by omega, rfl, rfl, (by repeat (first | exact Exts.refl _ | apply Exts.andR | apply Exts.alloc | apply Exts.wext | apply Exts.drew | apply Exts.drewN)), World.ownsRow_nil _ _ _ _⟩
    case round =>
      obtain ⟨k, m, hk, hmk, rfl, ⟨x, rfl⟩, hown⟩ := hrel
      obtain ⟨ao2, c2, rfl⟩ := owns_shape hown
      have hmle := blkK_len D al bl k
      rw [hmk] at hmle
      have HO := Lib.hid hown
      have HMK := Lib.hid hmk
      clear hown hmk
      by_cases hlt : k < nb
      · obtain ⟨b, off, V, ps, po, pc, rfl, hb, hd, e0, e1, hp⟩ := H.out.get hlt
        obtain ⟨b1, off1, xa, rfl, hb1, hxa, f1⟩ := ints_get HAA.out hlt
        obtain ⟨b2, off2, xb, rfl, hb2, hxb, f2⟩ := ints_get HBB.out hlt
        obtain ⟨t, ht⟩ : ∃ t, atD V ps xa xb = t := ⟨_, rfl⟩
        have hat := atI_of hd hxa hxb
        rw [ht] at hat
        have HP := Lib.hid hp
        have HT := Lib.hid ht
        have HN := Lib.hid (blkK_next D al bl k)
        have HAT := Lib.hid hat
        clear hd hxa hxb hp ht hat
        cases t with
        | true =>
          have HE := Lib.hid (show blkK D al bl (k + 1) = blkK D al bl k by rw [HN.out, HAT.out]; rfl)
          go_wp2
          first | refine wp_region_ext_lit2 (by kernel_rfl) (by kernel_rfl) ?_ | refine wp_region_ext_lit (by kernel_rfl) (by kernel_rfl) ?_
          repeat (go_big_quiet_step (((first | (go_at_call 44; exact Calls.ext_of (atleast21_D _ _ _ _ ps _ _ _ _ (RowF.exts HP.out (by repeat (first | exact Exts.refl _ | apply Exts.andR | apply Exts.alloc | apply Exts.wext | apply Exts.drew | apply Exts.drewN))) HT.out))))))
          refine wpQuiet_nil ?_
          intro _ hwq'
          obtain ⟨xq, hwq''⟩ := hwq'
          subst hwq''
          go_wp2
          refine ⟨⟨k + 1, m, by omega, by rw [HE.out]; exact HMK.out, by go_num, (by repeat (first | exact Exts.refl _ | apply Exts.andR | apply Exts.alloc | apply Exts.wext | apply Exts.drew | apply Exts.drewN)), by rw [HE.out]; exact ownsRow_exts HO.out (by repeat (first | exact Exts.refl _ | apply Exts.andR | apply Exts.alloc | apply Exts.wext | apply Exts.drew | apply Exts.drewN))⟩, ?_⟩
          simp [intOf]; omega
        | false =>
          have HE := Lib.hid (show blkK D al bl (k + 1) = blkK D al bl k ++ [(k : Int)] by rw [HN.out, HAT.out]; rfl)
          go_wp2
          first | refine wp_region_ext_lit2 (by kernel_rfl) (by kernel_rfl) ?_ | refine wp_region_ext_lit (by kernel_rfl) (by kernel_rfl) ?_
          repeat (go_big_quiet_step (((first | (go_at_call 44; exact Calls.ext_of (atleast21_D _ _ _ _ ps _ _ _ _ (RowF.exts HP.out (by repeat (first | exact Exts.refl _ | apply Exts.andR | apply Exts.alloc | apply Exts.wext | apply Exts.drew | apply Exts.drewN))) HT.out))))))
          refine wpQuiet_nil ?_
          intro _ hwq'
          obtain ⟨xq, hwq''⟩ := hwq'
          subst hwq''
          go_wp2_with (at_builtin; refine wpList_append_lies _ rfl (.tmp 33) (.tmp 35) 24 rfl w.heap.size 3 i0 _ 1 8 Tryz.underlying24 hi hz0 hz1 hz2 rfl (by decide) (.slice ao2 m c2) m (intsC (blkK D al bl k)) rfl (ownsRow_exts HO.out (by repeat (first | exact Exts.refl _ | apply Exts.andR | apply Exts.alloc | apply Exts.wext | apply Exts.drew | apply Exts.drewN))) ⟨_, 0, none⟩ 1 1 [.int .i64 k] rfl rfl (by intro j u hj; match j, hj with | 0, hj => (simp at hj; subst hj; simp [go_sem])) (int_one _) (by decide) (by unfold maxLen; omega) (by omega) (by simp; omega) _ rfl ?_; intro g cg w1 hown' hgrow hat hlt')
          refine ⟨⟨k + 1, m + 1, by omega, by rw [HE.out, List.length_append, HMK.out]; rfl, by go_num, exts_of_grown (W := w) (by repeat (first | exact Exts.refl _ | apply Exts.andR | apply Exts.alloc | apply Exts.wext | apply Exts.drew | apply Exts.drewN)) hgrow (fun b hb => (HO.out.lt b hb).1), by rw [HE.out, intsC_snoc]; exact hown'⟩, ?_⟩
          simp [intOf]; omega
      · obtain rfl : k = nb := by omega
        go_wp2
        go_ret
        exact ⟨ao2, c2, by rw [HR.out, HMK.out]; rfl, (by repeat (first | exact Exts.refl _ | apply Exts.andR | apply Exts.alloc | apply Exts.wext | apply Exts.drew | apply Exts.drewN)), by rw [HR.out, HMK.out]; exact RowF.of_owns (ownsRow_exts HO.out (by repeat (first | exact Exts.refl _ | apply Exts.andR | apply Exts.alloc | apply Exts.wext | apply Exts.drew | apply Exts.drewN)))⟩
end Go.Proofs.YtgmjcgjbbogefaaGreat


/- Below and Compare of package factor. -/
namespace Go.Proofs.YtgmjcgjbbogefaaGreat
open Go.RowKit
set_option linter.unusedSimpArgs false
set_option linter.unusedVariables false

theorem blocks25_N {S S1 S2 : Nat → Prop} (lo ao bo : Option Addr) (n c na ca nb cb : Nat) (D : List Dm) (al bl ks : List Int) (m : Nat) (w : World) (h : Dims S w lo n c D) (ha : Ints S1 w ao na ca al) (hb : Ints S2 w bo nb cb bl) (hD : blocksD D al bl = ks) (hm : ks.length = m) :
    Calls Tryz.prog 35 #[.slice lo n c, .slice ao na ca, .slice bo nb cb] w fun e w' => ∃ ro rc, e = .returned (.slice ro m rc) ∧ Exts w w' ∧ Ints (fun b => w.heap.size ≤ b) w' ro m rc ks := by
  subst hD hm
  exact blocks25 lo ao bo n c na ca nb cb D al bl w h ha hb
set_option maxRecDepth 100000
set_option maxHeartbeats 2000000
theorem below23 {S S1 S2 : Nat → Prop} (lo ao bo : Option Addr) (n c na ca nb cb : Nat) (D : List Dm) (al bl : List Int) (w : World) (h : Dims S w lo n c D) (ha : Ints S1 w ao na ca al) (hb : Ints S2 w bo nb cb bl) :
    Calls Tryz.prog 21 #[.slice lo n c, .slice ao na ca, .slice bo nb cb] w fun e w' => e = .returned (.bool (belowD D al bl)) ∧ Exts w w' := by
  have HL := Lib.hid h.1
  have HLA := Lib.hid (ints_len ha)
  have HLB := Lib.hid (ints_len hb)
  obtain ⟨r, hr⟩ : ∃ r, vecD D al bl = r := ⟨_, rfl⟩
  have hm := h.nle
  unfold maxLen at hm
  have hma := RowF.nle ha
  have hmb := RowF.nle hb
  unfold maxLen at hma hmb
  have H := Lib.hid h
  have HAA := Lib.hid ha
  have HBB := Lib.hid hb
  have HVD := Lib.hid hr
  clear h ha hb hr
  obtain ⟨ks, hks⟩ : ∃ ks, blocksD D al bl = ks := ⟨_, rfl⟩
  obtain ⟨m, hkm⟩ : ∃ m, ks.length = m := ⟨_, rfl⟩
  have HBD := Lib.hid hks
  have HM := Lib.hid hkm
  have hmax : m ≤ n := by
    have h1 := blkK_len D al bl D.length
    have h2 := HL.out
    unfold blocksD at hks
    split at hks
    · rw [hks] at h1; omega
    · rw [← hkm, ← hks]; simp
  have HR := Lib.hid (show belowD D al bl = (r && decide (m = 0)) by
    unfold belowD
    rw [HVD.out, hks]
    congr 1
    cases ks with
    | nil => simp at hkm; simp [← hkm]
    | cons a l => simp at hkm; simp [← hkm])
  clear hks hkm
  cases r with
  | false =>
    go_enter Tryz.func21, Tryz.ntmps21
    go_wp2_with (first | (go_at_call 34; ((with_reducible refine (vectors39_D _ _ _ _ _ _ _ _ _ D al bl _ _ (H.out.exts (by repeat (first | exact Exts.refl _ | apply Exts.andR | apply Exts.alloc | apply Exts.wext | apply Exts.drew | apply Exts.drewN))) (RowF.exts HAA.out (by repeat (first | exact Exts.refl _ | apply Exts.andR | apply Exts.alloc | apply Exts.wext | apply Exts.drew | apply Exts.drewN))) (RowF.exts HBB.out (by repeat (first | exact Exts.refl _ | apply Exts.andR | apply Exts.alloc | apply Exts.wext | apply Exts.drew | apply Exts.drewN))) HVD.out).mono ?_); rintro e w' ⟨rfl, x0, rfl⟩)) | (go_at_call 35; ((with_reducible refine (blocks25_N _ _ _ _ _ _ _ _ _ D al bl _ _ _ (H.out.exts (by repeat (first | exact Exts.refl _ | apply Exts.andR | apply Exts.alloc | apply Exts.wext | apply Exts.drew | apply Exts.drewN))) (RowF.exts HAA.out (by repeat (first | exact Exts.refl _ | apply Exts.andR | apply Exts.alloc | apply Exts.wext | apply Exts.drew | apply Exts.drewN))) (RowF.exts HBB.out (by repeat (first | exact Exts.refl _ | apply Exts.andR | apply Exts.alloc | apply Exts.wext | apply Exts.drew | apply Exts.drewN))) HBD.out HM.out).mono ?_); rintro e w' ⟨ro, rc, rfl, ⟨x1, rfl⟩, hbr⟩; clear hbr)))
    go_ret
    exact ⟨by rw [HR.out]; rfl, (by repeat (first | exact Exts.refl _ | apply Exts.andR | apply Exts.alloc | apply Exts.wext | apply Exts.drew | apply Exts.drewN))⟩
  | true =>
    by_cases h0 : m = 0
    · subst h0
      go_enter Tryz.func21, Tryz.ntmps21
      go_wp2_with (first | (go_at_call 34; ((with_reducible refine (vectors39_D _ _ _ _ _ _ _ _ _ D al bl _ _ (H.out.exts (by repeat (first | exact Exts.refl _ | apply Exts.andR | apply Exts.alloc | apply Exts.wext | apply Exts.drew | apply Exts.drewN))) (RowF.exts HAA.out (by repeat (first | exact Exts.refl _ | apply Exts.andR | apply Exts.alloc | apply Exts.wext | apply Exts.drew | apply Exts.drewN))) (RowF.exts HBB.out (by repeat (first | exact Exts.refl _ | apply Exts.andR | apply Exts.alloc | apply Exts.wext | apply Exts.drew | apply Exts.drewN))) HVD.out).mono ?_); rintro e w' ⟨rfl, x0, rfl⟩)) | (go_at_call 35; ((with_reducible refine (blocks25_N _ _ _ _ _ _ _ _ _ D al bl _ _ _ (H.out.exts (by repeat (first | exact Exts.refl _ | apply Exts.andR | apply Exts.alloc | apply Exts.wext | apply Exts.drew | apply Exts.drewN))) (RowF.exts HAA.out (by repeat (first | exact Exts.refl _ | apply Exts.andR | apply Exts.alloc | apply Exts.wext | apply Exts.drew | apply Exts.drewN))) (RowF.exts HBB.out (by repeat (first | exact Exts.refl _ | apply Exts.andR | apply Exts.alloc | apply Exts.wext | apply Exts.drew | apply Exts.drewN))) HBD.out HM.out).mono ?_); rintro e w' ⟨ro, rc, rfl, ⟨x1, rfl⟩, hbr⟩; clear hbr)))
      go_ret
      exact ⟨by rw [HR.out]; rfl, (by repeat (first | exact Exts.refl _ | apply Exts.andR | apply Exts.alloc | apply Exts.wext | apply Exts.drew | apply Exts.drewN))⟩
    · have q1 : ((m : Int) == 0) = false := by simp; omega
      have q2 : (m == 0) = false := by simpa using h0
      have HR' := Lib.hid (HR.out.trans (show (true && decide (m = 0)) = false by simp [h0]))
      go_enter Tryz.func21, Tryz.ntmps21
      go_wp2_with (first | (go_at_call 34; ((with_reducible refine (vectors39_D _ _ _ _ _ _ _ _ _ D al bl _ _ (H.out.exts (by repeat (first | exact Exts.refl _ | apply Exts.andR | apply Exts.alloc | apply Exts.wext | apply Exts.drew | apply Exts.drewN))) (RowF.exts HAA.out (by repeat (first | exact Exts.refl _ | apply Exts.andR | apply Exts.alloc | apply Exts.wext | apply Exts.drew | apply Exts.drewN))) (RowF.exts HBB.out (by repeat (first | exact Exts.refl _ | apply Exts.andR | apply Exts.alloc | apply Exts.wext | apply Exts.drew | apply Exts.drewN))) HVD.out).mono ?_); rintro e w' ⟨rfl, x0, rfl⟩)) | (go_at_call 35; ((with_reducible refine (blocks25_N _ _ _ _ _ _ _ _ _ D al bl _ _ _ (H.out.exts (by repeat (first | exact Exts.refl _ | apply Exts.andR | apply Exts.alloc | apply Exts.wext | apply Exts.drew | apply Exts.drewN))) (RowF.exts HAA.out (by repeat (first | exact Exts.refl _ | apply Exts.andR | apply Exts.alloc | apply Exts.wext | apply Exts.drew | apply Exts.drewN))) (RowF.exts HBB.out (by repeat (first | exact Exts.refl _ | apply Exts.andR | apply Exts.alloc | apply Exts.wext | apply Exts.drew | apply Exts.drewN))) HBD.out HM.out).mono ?_); rintro e w' ⟨ro, rc, rfl, ⟨x1, rfl⟩, hbr⟩; clear hbr)))
      go_ret
      exact ⟨by rw [HR'.out]; rfl, (by repeat (first | exact Exts.refl _ | apply Exts.andR | apply Exts.alloc | apply Exts.wext | apply Exts.drew | apply Exts.drewN))⟩
theorem below23_D {S S1 S2 : Nat → Prop} (lo ao bo : Option Addr) (n c na ca nb cb : Nat) (D : List Dm) (al bl : List Int) (r : Bool) (w : World) (h : Dims S w lo n c D) (ha : Ints S1 w ao na ca al) (hb : Ints S2 w bo nb cb bl) (hD : belowD D al bl = r) :
    Calls Tryz.prog 21 #[.slice lo n c, .slice ao na ca, .slice bo nb cb] w fun e w' => e = .returned (.bool r) ∧ Exts w w' := by
  subst hD
  exact below23 lo ao bo n c na ca nb cb D al bl w h ha hb
end Go.Proofs.YtgmjcgjbbogefaaGreat


/- Below is reflexive, transitive and antisymmetric; a join is the least bound. Plain. -/
namespace Go.Proofs.YtgmjcgjbbogefaaGreat
open Go.RowKit
set_option linter.unusedSimpArgs false
set_option linter.unusedVariables false

theorem closed_ok {V : Int} {ps : List Pr} (h : (closedD V ps).2 = true) : ∃ g, closedD V ps = (g, true) := ⟨(closedD V ps).1, Prod.ext rfl h⟩
theorem at_iff {V : Int} {ps : List Pr} {a b : Int} (h : (closedD V ps).2 = true) : atD V ps a b = true ↔ (0 ≤ a ∧ a < V) ∧ (0 ≤ b ∧ b < V) ∧ (Reach (pairRel ps) a.toNat b.toNat ∨ a = b) := by
  obtain ⟨g, hg⟩ := closed_ok h
  obtain ⟨hv, hc, rfl⟩ := closed_valid hg
  unfold atD
  rw [hg]
  simp only [inV, diagR, Bool.true_and, Bool.and_eq_true, decide_eq_true_eq, Bool.or_eq_true, beq_iff_eq, clR_iff]
  constructor
  · rintro ⟨h1, h2, h3 | ⟨h3, _⟩⟩
    · exact ⟨h1, h2, .inl h3⟩
    · exact ⟨h1, h2, .inr (by omega)⟩
  · rintro ⟨h1, h2, h3 | h3⟩
    · exact ⟨h1, h2, .inl h3⟩
    · exact ⟨h1, h2, .inr ⟨by omega, by omega⟩⟩
theorem at_trans {V : Int} {ps : List Pr} {a b c : Int} (h : (closedD V ps).2 = true) (h1 : atD V ps a b = true) (h2 : atD V ps b c = true) : atD V ps a c = true := by
  rw [at_iff h] at *
  obtain ⟨ha, hb, h1⟩ := h1
  obtain ⟨_, hc, h2⟩ := h2
  refine ⟨ha, hc, ?_⟩
  rcases h1 with h1 | rfl
  · rcases h2 with h2 | rfl
    · exact .inl (h1.trans h2)
    · exact .inl h1
  · exact h2
theorem right_at {D : List Dm} (hr : rightD D = true) {i : Nat} {V : Int} {ps : List Pr} (hd : D[i]? = some (V, ps)) : (closedD V ps).2 = true := by
  simp only [rightD, Bool.and_eq_true, List.all_eq_true] at hr
  exact hr.1 _ (List.mem_of_getElem? hd)
theorem below_iff {D : List Dm} {a b : List Int} (hr : rightD D = true) (ha : inD D a = true) (hb : inD D b = true) : belowD D a b = true ↔ ∀ (i : Nat) V ps x y, D[i]? = some (V, ps) → a[i]? = some x → b[i]? = some y → atD V ps x y = true := by
  have hv : vecD D a b = true := by simp [vecD, hr, ha, hb]
  have h1 := (inD_iff.1 ha).1
  have h2 := (inD_iff.1 hb).1
  unfold belowD blocksD
  rw [if_pos hv, hv, Bool.true_and, List.isEmpty_iff, blkK, List.map_eq_nil_iff, List.filter_eq_nil_iff]
  constructor
  · intro h i V ps x y hd hx hy
    have := h i (by simpa using (List.getElem?_eq_some_iff.1 hd).1)
    rw [atI_of hd hx hy] at this
    simpa using this
  · intro h i hi
    have hi := List.mem_range.1 hi
    have hd : D[i]? = some (D[i].1, D[i].2) := List.getElem?_eq_getElem hi
    have hx : a[i]? = some (a[i]'(by omega)) := List.getElem?_eq_getElem (by omega)
    have hy : b[i]? = some (b[i]'(by omega)) := List.getElem?_eq_getElem (by omega)
    rw [atI_of hd hx hy, h i _ _ _ _ hd hx hy]
    decide
theorem in_at {D : List Dm} {a : List Int} (ha : inD D a = true) {i : Nat} {V : Int} {ps : List Pr} (hd : D[i]? = some (V, ps)) : ∃ x, a[i]? = some x ∧ inV V x = true := by
  have h1 := (inD_iff.1 ha).1
  have hi := (List.getElem?_eq_some_iff.1 hd).1
  have hx : a[i]? = some (a[i]'(by omega)) := List.getElem?_eq_getElem (by omega)
  exact ⟨_, hx, (inD_iff.1 ha).2 i _ _ hd hx⟩
theorem below_trans {D : List Dm} {a b c : List Int} (hr : rightD D = true) (ha : inD D a = true) (hb : inD D b = true) (hc : inD D c = true) (h1 : belowD D a b = true) (h2 : belowD D b c = true) : belowD D a c = true := (below_iff hr ha hc).2 fun i V ps x y hd hx hy => by
  obtain ⟨z, hz, _⟩ := in_at hb hd
  exact at_trans (right_at hr hd) ((below_iff hr ha hb).1 h1 i V ps x z hd hx hz) ((below_iff hr hb hc).1 h2 i V ps z y hd hz hy)
theorem vec_of {D : List Dm} {a b : List Int} (hr : rightD D = true) (ha : inD D a = true) (hb : inD D b = true) : vecD D a b = true := by simp [vecD, hr, ha, hb]
end Go.Proofs.YtgmjcgjbbogefaaGreat


/- How far it is to a value by values that are not less: the relaxation. Plain; and the array of 12 numbers. -/
namespace Go.Proofs.YtgmjcgjbbogefaaGreat
open Go.RowKit
set_option linter.unusedSimpArgs false
set_option linter.unusedVariables false

abbrev Arr := Nat → Nat
def arrC (d : Arr) : Array Value := ((List.range 12).map fun i => .int .i64 (d i)).toArray
def updA (d : Arr) (a v : Nat) : Arr := fun x => if x = a then v else d x
@[simp, go_sem] theorem arrC_size (d : Arr) : (arrC d).size = 12 := by simp [arrC]
theorem arrC_one (d : Arr) : (arrC d).all (·.oneCell') = true := by
  rw [Array.all_eq_true_iff_forall_mem]
  intro v hv
  simp [arrC] at hv
  obtain ⟨a, _, rfl⟩ := hv
  rfl
@[go_sem] theorem arrC_get (d : Arr) (a : Nat) (ha : a < 12) : (arrC d)[a]? = some (.int .i64 (d a)) := by simp [arrC, ha]
@[simp, go_sem] theorem arrC_elem (d : Arr) (a : Nat) (ha : a < (arrC d).size) : (arrC d)[a] = .int .i64 (d a) := by simp [arrC]
@[go_sem] theorem arrC_set (d : Arr) (a : Nat) (v : Nat) (ha : a < 12) : (arrC d).setIfInBounds a (.int .i64 (v : Int)) = arrC (updA d a v) := by
  apply Array.ext_getElem?
  intro i
  rw [Array.getElem?_setIfInBounds]
  by_cases hi : a = i
  · subst hi
    rw [if_pos rfl, if_pos (by rw [arrC_size]; exact ha), arrC_get _ a ha]
    simp [updA]
  · rw [if_neg hi]
    by_cases h2 : i < 12
    · rw [arrC_get _ i h2, arrC_get _ i h2]
      simp [updA, show ¬ i = a from fun h => hi h.symm]
    · rw [Array.getElem?_eq_none (by rw [arrC_size]; omega), Array.getElem?_eq_none (by rw [arrC_size]; omega)]
theorem arrC_inj {d e : Arr} (h : ∀ a, a < 12 → d a = e a) : arrC d = arrC e := by
  unfold arrC
  congr 1
  apply List.map_congr_left
  intro i hi
  rw [h i (List.mem_range.1 hi)]

structure Home (f : Rel) (to r a b : Nat) (d : Arr) : Prop where
  zero : d to = 0
  le : ∀ v, v < 12 → d v ≤ 13
  wk : ∀ v, v < 12 → d v < 13 → to ≤ v ∧ Wk f to (d v) v to
  up : ∀ n v, n ≤ r → to ≤ v → v < 12 → Wk f to n v to → d v ≤ n
  cur : ∀ v c n, to ≤ v → v < 12 → to ≤ c → c < 12 → f v c = true → n ≤ r → Wk f to n c to → (v < a ∨ (v = a ∧ c < b)) → d v ≤ n + 1
theorem Home.start (f : Rel) (to : Nat) (hto : to < 12) : Home f to 0 to to (updA (fun _ => 13) to 0) := by
  refine ⟨by simp [updA], fun v _ => ?_, fun v hv h => ?_, fun n v hn hv _ hw => ?_, fun v c n h1 _ h2 _ _ _ _ h3 => by omega⟩
  · unfold updA; split <;> simp
  · unfold updA at h ⊢
    split at h
    · rename_i hvt
      subst hvt
      rw [if_pos rfl]
      exact ⟨Nat.le_refl _, rfl⟩
    · simp at h
  · obtain rfl : n = 0 := by omega
    have : v = to := hw
    simp [updA, this]
def relax (f : Rel) (to a b : Nat) (d : Arr) : Arr := if f a b = true ∧ a ≠ to then updA d a (min (d a) (d b + 1)) else d
theorem relax_le (f : Rel) (to a b : Nat) (d : Arr) (v : Nat) : relax f to a b d v ≤ d v := by
  unfold relax updA
  split
  · by_cases h : v = a
    · simp only [h, if_true]; omega
    · simp only [if_neg h]; omega
  · exact Nat.le_refl _
theorem Home.next {f : Rel} {to r a b : Nat} {d : Arr} (h : Home f to r a b d) (ha : to ≤ a) (ha2 : a < 12) (hb : to ≤ b) (hb2 : b < 12) : Home f to r a (b + 1) (relax f to a b d) := by
  have hle := relax_le f to a b d
  refine ⟨by have := hle to; have := h.zero; omega, fun v hv => Nat.le_trans (hle v) (h.le v hv), fun v hv h13 => ?_, fun n v hn hv hv2 hw => Nat.le_trans (hle v) (h.up n v hn hv hv2 hw), fun v c n h1 h2 h3 h4 h5 h6 h7 h8 => ?_⟩
  · unfold relax updA at h13 ⊢
    split at h13
    · rename_i hc
      rw [if_pos hc]
      by_cases hva : v = a
      · simp only [hva, if_true] at h13 ⊢
        refine ⟨ha, ?_⟩
        rcases Nat.le_total (d a) (d b + 1) with hm | hm
        · rw [Nat.min_eq_left hm] at h13 ⊢
          exact (h.wk a ha2 h13).2
        · rw [Nat.min_eq_right hm] at h13 ⊢
          exact ⟨b, hb, hb2, hc.1, (h.wk b hb2 (by omega)).2⟩
      · simp only [if_neg hva] at h13 ⊢
        exact h.wk v hv h13
    · rename_i hc
      rw [if_neg hc]
      exact h.wk v hv h13
  · by_cases hvc : v = a ∧ c = b
    · obtain ⟨rfl, rfl⟩ := hvc
      by_cases hvt : v = to
      · have := hle v
        have := h.zero
        rw [hvt] at *
        omega
      · have := h.up n c h6 h3 h4 h7
        unfold relax updA
        rw [if_pos ⟨h5, hvt⟩]
        simp only [if_true]
        omega
    · have := h.cur v c n h1 h2 h3 h4 h5 h6 h7 (by omega)
      exact Nat.le_trans (hle v) this
theorem Home.row {f : Rel} {to r a : Nat} {d : Arr} (h : Home f to r a 12 d) : Home f to r (a + 1) to d :=
  ⟨h.zero, h.le, h.wk, h.up, fun v c n h1 h2 h3 h4 h5 h6 h7 h8 => h.cur v c n h1 h2 h3 h4 h5 h6 h7 (by omega)⟩
theorem Home.round {f : Rel} {to r : Nat} {d : Arr} (h : Home f to r 12 to d) : Home f to (r + 1) to to d := by
  refine ⟨h.zero, h.le, h.wk, fun n v hn hv hv2 hw => ?_, fun v c n h1 h2 h3 h4 h5 h6 h7 h8 => by omega⟩
  cases n with
  | zero =>
    exact h.up 0 v (Nat.zero_le _) hv hv2 hw
  | succ n =>
    obtain ⟨c, hc1, hc2, hc3, hc4⟩ := hw
    exact h.cur v c n hv hv2 hc1 hc2 hc3 (by omega) hc4 (.inl hv2)
/-- The distances to a value, 13 for what is too far. -/
structure IsDist (f : Rel) (to : Nat) (d : Arr) : Prop where
  zero : d to = 0
  le : ∀ v, v < 12 → d v ≤ 13
  wk : ∀ v, v < 12 → d v < 13 → to ≤ v ∧ Wk f to (d v) v to
  up : ∀ n v, n ≤ 12 → to ≤ v → v < 12 → Wk f to n v to → d v ≤ n
theorem Home.dist {f : Rel} {to a b : Nat} {d : Arr} (h : Home f to 12 a b d) : IsDist f to d := ⟨h.zero, h.le, h.wk, h.up⟩

theorem info60 : (Tryz.prog.info? 164).map (fun i => (i.zero, i.size)) = some (some (.agg (arrC fun _ => 0)), 12) := by kernel_rfl
@[go_sem ↓] theorem zero60 (w : World) : (zeroValue 164).run Tryz.prog w = .ok (.agg (arrC fun _ => 0)) w := (zero_of_info info60).1 w
@[go_sem ↓] theorem loadVar60 (a : Addr) : loadVar 164 a = ldV 164 a := rfl
@[go_sem] theorem load60 (w : World) (b : Nat) (h : isRow w b 12) : (ldV 164 ⟨b, 0, none⟩).run Tryz.prog w = .ok (.agg (rowOf w b)) w := by
  obtain ⟨c, t, hb, hc⟩ := h
  have hi : (Tryz.prog.info? 164).map (·.size) = some c.size := by rw [hc]; exact (zero_of_info info60).2
  rw [rowOf_of hb]
  exact run_loadVar_row w b t 164 c (0, 0) _ hb Tryz.underlying164 rfl hi
@[go_sem] theorem store12 (w : World) (b : Nat) (d : Arr) (h : isRow w b 12) : (storeCells ⟨b, 0, none⟩ (arrC d).toList 0).run Tryz.prog w = .ok () (w.setRow b (arrC d)) := run_storeCells_row h (arrC_size d) (arrC_one d)
theorem res60 {fn : Func} {p : Tmp} (h : fn.results = #[.cell p 164]) (tmps : Array Value) (w : World) (b : Nat) (d : Arr) (hp : tmps.getD p undef = .pointer (some ⟨b, 0, none⟩)) (hr : isRow w b 12) (hw : rowOf w b = arrC d) :
    (results fn tmps).run Tryz.prog w = .ok (.agg (arrC d)) w := by
  obtain ⟨c, t, hb, hc⟩ := hr
  rw [rowOf_of hb] at hw
  subst hw
  exact results_cell_row h tmps w b t _ (0, 0) _ hp hb Tryz.underlying164 rfl (by rw [hc]; exact (zero_of_info info60).2)
end Go.Proofs.YtgmjcgjbbogefaaGreat

