/- Blocks, Below and Compare of package factor. -/
import Derived.Test.YtbafcfbchbjgfaaVecs
import Derived.Deep.AppendLies
namespace Go.Proofs.Ytbafcfbchbjgfaa
open Go.RowKit
set_option linter.unusedSimpArgs false
set_option linter.unusedVariables false

theorem info3 : (Try.prog.info? 3).map (fun i => (i.zero, i.size, i.bytes)) = some (some (.int .i64 0), 1, 8) := by kernel_rfl
theorem intsC_snoc (l : List Int) (x : Int) : intsC (l ++ [x]) = intsC l ++ [.int .i64 x] := by simp [intsC]
theorem int_one (x : Int) : ∀ u ∈ [Value.int .i64 x], u.oneCell' = true := by
  intro u hu
  simp at hu
  subst hu
  rfl
noncomputable def atI (D : List Dm) (a b : List Int) (i : Nat) : Bool := match D[i]?, a[i]?, b[i]? with | some d, some x, some y => atD d.1 d.2 x y | _, _, _ => false
theorem atI_of {D : List Dm} {a b : List Int} {i : Nat} {V : Int} {ps : List Pr} {x y : Int} (h1 : D[i]? = some (V, ps)) (h2 : a[i]? = some x) (h3 : b[i]? = some y) : atI D a b i = atD V ps x y := by
  unfold atI
  rw [h1, h2, h3]
noncomputable def blkK (D : List Dm) (a b : List Int) (k : Nat) : List Int := ((List.range k).filter fun i => !atI D a b i).map Int.ofNat
theorem blkK_next (D : List Dm) (a b : List Int) (k : Nat) : blkK D a b (k + 1) = if atI D a b k = false then blkK D a b k ++ [Int.ofNat k] else blkK D a b k := by
  unfold blkK
  rw [List.range_succ, List.filter_append, List.map_append]
  cases h : atI D a b k <;> simp [h]
theorem blkK_len (D : List Dm) (a b : List Int) (k : Nat) : (blkK D a b k).length ≤ k := by
  unfold blkK
  rw [List.length_map]
  exact Nat.le_trans (List.length_filter_le _ _) (by simp)
noncomputable def blocksD (D : List Dm) (a b : List Int) : List Int := if vecD D a b = true then blkK D a b D.length else []
noncomputable def belowD (D : List Dm) (a b : List Int) : Bool := vecD D a b && (blocksD D a b).isEmpty
theorem vectors39_D {S S1 S2 : Nat → Prop} (lo ao bo : Option Addr) (n c na ca nb cb : Nat) (D : List Dm) (al bl : List Int) (r : Bool) (w : World) (h : Dims S w lo n c D) (ha : Ints S1 w ao na ca al) (hb : Ints S2 w bo nb cb bl) (hD : vecD D al bl = r) :
    Calls Try.prog 39 #[.slice lo n c, .slice ao na ca, .slice bo nb cb] w fun e w' => e = .returned (.bool r) ∧ Exts w w' := by
  subst hD
  exact vectors39 lo ao bo n c na ca nb cb D al bl w h ha hb
theorem atleast21_D {S : Nat → Prop} (V : Int) (po : Option Addr) (n c : Nat) (ps : List Pr) (aa bb : Int) (r : Bool) (w : World) (h : Prs S w po n c ps) (hD : atD V ps aa bb = r) :
    Calls Try.prog 21 #[.agg #[.int .i64 V, .slice po n c], .int .i64 aa, .int .i64 bb] w fun e w' => e = .returned (.bool r) ∧ Exts w w' := by
  subst hD
  exact atleast21 V po n c ps aa bb w h
theorem vec_n {D : List Dm} {a b : List Int} (h : vecD D a b = true) : a.length = D.length ∧ b.length = D.length ∧ D.length ≤ 12 := by
  simp only [vecD, rightD, Bool.and_eq_true, decide_eq_true_eq] at h
  exact ⟨(inD_iff.1 h.2.1).1, (inD_iff.1 h.2.2).1, h.1.2⟩
set_option maxRecDepth 100000
set_option maxHeartbeats 2000000
theorem blocks25 {S S1 S2 : Nat → Prop} (lo ao bo : Option Addr) (n c na ca nb cb : Nat) (D : List Dm) (al bl : List Int) (w : World) (h : Dims S w lo n c D) (ha : Ints S1 w ao na ca al) (hb : Ints S2 w bo nb cb bl) :
    Calls Try.prog 25 #[.slice lo n c, .slice ao na ca, .slice bo nb cb] w fun e w' => ∃ ro rc, e = .returned (.slice ro (blocksD D al bl).length rc) ∧ Exts w w' ∧ Ints (fun b => w.heap.size ≤ b) w' ro (blocksD D al bl).length rc (blocksD D al bl) := by
  obtain ⟨i0, hi, hz0, hz1, hz2⟩ := info_parts info3
  have HL := Lib.hid h.1
  have HLA := Lib.hid (ints_len ha)
  have HLB := Lib.hid (ints_len hb)
  obtain ⟨r, hr⟩ : ∃ r, vecD D al bl = r := ⟨_, rfl⟩
  have hm := h.nle
  unfold maxLen at hm
  have hma := RowF.nle ha
  have hmb := RowF.nle hb
  unfold maxLen at hma hmb
  have H := Lib.hid h
  have HAA := Lib.hid ha
  have HBB := Lib.hid hb
  have HVD := Lib.hid hr
  clear h ha hb hr
  cases r with
  | false =>
    have HR := Lib.hid (show blocksD D al bl = [] by unfold blocksD; rw [HVD.out]; rfl)
    go_enter Try.func25, Try.ntmps25
    go_wp2_with (first | (go_at_call 39; ((with_reducible refine (vectors39_D _ _ _ _ _ _ _ _ _ D al bl _ _ (H.out.exts (by repeat (first | exact Exts.refl _ | apply Exts.andR | apply Exts.alloc | apply Exts.wext | apply Exts.drew | apply Exts.drewN))) (RowF.exts HAA.out (by repeat (first | exact Exts.refl _ | apply Exts.andR | apply Exts.alloc | apply Exts.wext | apply Exts.drew | apply Exts.drewN))) (RowF.exts HBB.out (by repeat (first | exact Exts.refl _ | apply Exts.andR | apply Exts.alloc | apply Exts.wext | apply Exts.drew | apply Exts.drewN))) HVD.out).mono ?_); rintro e w' ⟨rfl, x0, rfl⟩)))
    go_ret
    exact ⟨none, 0, by rw [HR.out]; rfl, (by repeat (first | exact Exts.refl _ | apply Exts.andR | apply Exts.alloc | apply Exts.wext | apply Exts.drew | apply Exts.drewN)), by rw [HR.out]; exact RowF.nil _ _ _⟩
  | true =>
    have hv := vec_n HVD.out
    have HR := Lib.hid (show blocksD D al bl = blkK D al bl n by unfold blocksD; rw [if_pos HVD.out, HL.out])
    obtain ⟨rfl, rfl, hn12⟩ : na = n ∧ nb = n ∧ n ≤ 12 := by have := HL.out; have := HLA.out; have := HLB.out; omega
    clear hv
    go_enter Try.func25, Try.ntmps25
    go_wp2_with (first | (go_at_call 39; ((with_reducible refine (vectors39_D _ _ _ _ _ _ _ _ _ D al bl _ _ (H.out.exts (by repeat (first | exact Exts.refl _ | apply Exts.andR | apply Exts.alloc | apply Exts.wext | apply Exts.drew | apply Exts.drewN))) (RowF.exts HAA.out (by repeat (first | exact Exts.refl _ | apply Exts.andR | apply Exts.alloc | apply Exts.wext | apply Exts.drew | apply Exts.drewN))) (RowF.exts HBB.out (by repeat (first | exact Exts.refl _ | apply Exts.andR | apply Exts.alloc | apply Exts.wext | apply Exts.drew | apply Exts.drewN))) HVD.out).mono ?_); rintro e w' ⟨rfl, x0, rfl⟩)))
    go_loopw [7, 17] (fun o i wr => ∃ (k m : Nat), k ≤ nb ∧ (blkK D al bl k).length = m ∧ i = .int .i64 k ∧ Exts w wr ∧ wr.ownsRow w.heap.size 3 1 o m (intsC (blkK D al bl k))) (fun _ i _ => nb - (intOf i).toNat)
    case atStart => exact ⟨0, 0, by omega, rfl, rfl, (by repeat (first | exact Exts.refl _ | apply Exts.andR | apply Exts.alloc | apply Exts.wext | apply Exts.drew | apply Exts.drewN)), World.ownsRow_nil _ _ _ _⟩
    case round =>
      obtain ⟨k, m, hk, hmk, rfl, ⟨x, rfl⟩, hown⟩ := hrel
      obtain ⟨ao2, c2, rfl⟩ := owns_shape hown
      have hmle := blkK_len D al bl k
      rw [hmk] at hmle
      have HO := Lib.hid hown
      have HMK := Lib.hid hmk
      clear hown hmk
      by_cases hlt : k < nb
      · obtain ⟨b, off, V, ps, po, pc, rfl, hb, hd, e0, e1, hp⟩ := H.out.get hlt
        obtain ⟨b1, off1, xa, rfl, hb1, hxa, f1⟩ := ints_get HAA.out hlt
        obtain ⟨b2, off2, xb, rfl, hb2, hxb, f2⟩ := ints_get HBB.out hlt
        obtain ⟨t, ht⟩ : ∃ t, atD V ps xa xb = t := ⟨_, rfl⟩
        have hat := atI_of hd hxa hxb
        rw [ht] at hat
        have HP := Lib.hid hp
        have HT := Lib.hid ht
        have HN := Lib.hid (blkK_next D al bl k)
        have HAT := Lib.hid hat
        clear hd hxa hxb hp ht hat
        cases t with
        | true =>
          have HE := Lib.hid (show blkK D al bl (k + 1) = blkK D al bl k by rw [HN.out, HAT.out]; rfl)
          go_wp2
          first | refine wp_region_ext_lit2 (by kernel_rfl) (by kernel_rfl) ?_ | refine wp_region_ext_lit (by kernel_rfl) (by kernel_rfl) ?_
          repeat (go_big_quiet_step (((first | (go_at_call 21; exact Calls.ext_of (atleast21_D _ _ _ _ ps _ _ _ _ (RowF.exts HP.out (by repeat (first | exact Exts.refl _ | apply Exts.andR | apply Exts.alloc | apply Exts.wext | apply Exts.drew | apply Exts.drewN))) HT.out))))))
          refine wpQuiet_nil ?_
          intro _ hwq'
          obtain ⟨xq, hwq''⟩ := hwq'
          subst hwq''
          go_wp2
          refine ⟨⟨k + 1, m, by omega, by rw [HE.out]; exact HMK.out, by go_num, (by repeat (first | exact Exts.refl _ | apply Exts.andR | apply Exts.alloc | apply Exts.wext | apply Exts.drew | apply Exts.drewN)), by rw [HE.out]; exact ownsRow_exts HO.out (by repeat (first | exact Exts.refl _ | apply Exts.andR | apply Exts.alloc | apply Exts.wext | apply Exts.drew | apply Exts.drewN))⟩, ?_⟩
          simp [intOf]; omega
        | false =>
          have HE := Lib.hid (show blkK D al bl (k + 1) = blkK D al bl k ++ [(k : Int)] by rw [HN.out, HAT.out]; rfl)
          go_wp2
          first | refine wp_region_ext_lit2 (by kernel_rfl) (by kernel_rfl) ?_ | refine wp_region_ext_lit (by kernel_rfl) (by kernel_rfl) ?_
          repeat (go_big_quiet_step (((first | (go_at_call 21; exact Calls.ext_of (atleast21_D _ _ _ _ ps _ _ _ _ (RowF.exts HP.out (by repeat (first | exact Exts.refl _ | apply Exts.andR | apply Exts.alloc | apply Exts.wext | apply Exts.drew | apply Exts.drewN))) HT.out))))))
          refine wpQuiet_nil ?_
          intro _ hwq'
          obtain ⟨xq, hwq''⟩ := hwq'
          subst hwq''
          go_wp2_with (at_builtin; refine wpList_append_lies _ rfl (.tmp 33) (.tmp 35) 26 rfl w.heap.size 3 i0 _ 1 8 Try.underlying26 hi hz0 hz1 hz2 rfl (by decide) (.slice ao2 m c2) m (intsC (blkK D al bl k)) rfl (ownsRow_exts HO.out (by repeat (first | exact Exts.refl _ | apply Exts.andR | apply Exts.alloc | apply Exts.wext | apply Exts.drew | apply Exts.drewN))) ⟨_, 0, none⟩ 1 1 [.int .i64 k] rfl rfl (by intro j u hj; match j, hj with | 0, hj => (simp at hj; subst hj; simp [go_sem])) (int_one _) (by decide) (by unfold maxLen; omega) (by omega) (by simp; omega) _ rfl ?_; intro g cg w1 hown' hgrow hat hlt')
          refine ⟨⟨k + 1, m + 1, by omega, by rw [HE.out, List.length_append, HMK.out]; rfl, by go_num, exts_of_grown (W := w) (by repeat (first | exact Exts.refl _ | apply Exts.andR | apply Exts.alloc | apply Exts.wext | apply Exts.drew | apply Exts.drewN)) hgrow (fun b hb => (HO.out.lt b hb).1), by rw [HE.out, intsC_snoc]; exact hown'⟩, ?_⟩
          simp [intOf]; omega
      · obtain rfl : k = nb := by omega
        go_wp2
        go_ret
        exact ⟨ao2, c2, by rw [HR.out, HMK.out]; rfl, (by repeat (first | exact Exts.refl _ | apply Exts.andR | apply Exts.alloc | apply Exts.wext | apply Exts.drew | apply Exts.drewN)), by rw [HR.out, HMK.out]; exact RowF.of_owns (ownsRow_exts HO.out (by repeat (first | exact Exts.refl _ | apply Exts.andR | apply Exts.alloc | apply Exts.wext | apply Exts.drew | apply Exts.drewN)))⟩
end Go.Proofs.Ytbafcfbchbjgfaa
