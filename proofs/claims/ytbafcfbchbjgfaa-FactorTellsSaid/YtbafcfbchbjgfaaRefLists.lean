/- Blocks, Below and Compare of the reference of chapter 38. No condition. -/
import Derived.Test.YtbafcfbchbjgfaaRefStrong
import Derived.Test.YtbafcfbchbjgfaaOrders
import Derived.Test.YtbafcfbchbjgfaaBelow
namespace Go.Proofs.Ytbafcfbchbjgfaa
open Go.RowKit
set_option linter.unusedSimpArgs false
set_option linter.unusedVariables false
/-- Everything that the closure of a dimension of a right list says. -/
theorem right_at2 {D : List Dm} {V : Int} {ps : List Pr} {i : Nat} (h : rightD D = true) (hd : D[i]? = some (V, ps)) : ∃ (m : Nat) (g : Rel), V = m ∧ closedD (m : Int) ps = (g, true) := by
  simp only [rightD, Bool.and_eq_true, List.all_eq_true] at h
  obtain ⟨g, hg⟩ := closed_ok (h.1 (V, ps) (List.mem_of_getElem? hd))
  obtain ⟨⟨h1, _⟩, _⟩ := valid_in (closed_valid hg).1
  simp only at h1
  exact ⟨V.toNat, g, by omega, by rw [show ((V.toNat : Nat) : Int) = V by omega]; exact hg⟩
theorem in_at2 {D : List Dm} {al : List Int} {V x : Int} {ps : List Pr} {i : Nat} (h : inD D al = true) (hd : D[i]? = some (V, ps)) (hx : al[i]? = some x) : 0 ≤ x ∧ x < V := by
  have := (inD_iff.1 h).2 i (V, ps) x hd hx
  simpa [inV] using this
theorem atD_in {m u v : Nat} {ps : List Pr} {g : Rel} (hg : closedD (m : Int) ps = (g, true)) (hu : u < m) (hv : v < m) : atD (m : Int) ps u v = g u v := by
  have h1 : inV (m : Int) u = true := by simp [inV]; omega
  have h2 : inV (m : Int) v = true := by simp [inV]; omega
  unfold atD
  rw [hg, h1, h2]
  simp
set_option maxRecDepth 100000
set_option maxHeartbeats 4000000
theorem blocks26 {S S1 S2 : Nat → Prop} (lo ao bo : Option Addr) (n c na ca nb cb : Nat) (D : List Dm) (al bl : List Int) (w : World) (h : Dims S w lo n c D) (ha : Ints S1 w ao na ca al) (hb : Ints S2 w bo nb cb bl) :
    Calls Try.prog 26 #[.slice lo n c, .slice ao na ca, .slice bo nb cb] w fun e w' => ∃ ro rc, e = .returned (.slice ro (blocksD D al bl).length rc) ∧ Exts w w' ∧ Ints (fun b => w.heap.size ≤ b) w' ro (blocksD D al bl).length rc (blocksD D al bl) := by
  obtain ⟨i0, hi, hz0, hz1, hz2⟩ := info_parts info3
  have HL := Lib.hid h.1
  have HLA := Lib.hid (ints_len ha)
  have HLB := Lib.hid (ints_len hb)
  obtain ⟨r1, hr1⟩ : ∃ r, rightD D = r := ⟨_, rfl⟩
  obtain ⟨r2, hr2⟩ : ∃ r, inD D al = r := ⟨_, rfl⟩
  obtain ⟨r3, hr3⟩ : ∃ r, inD D bl = r := ⟨_, rfl⟩
  have hr : vecD D al bl = (r1 && (r2 && r3)) := by unfold vecD; rw [hr1, hr2, hr3]
  have hm := h.nle
  unfold maxLen at hm
  have hma := RowF.nle ha
  have hmb := RowF.nle hb
  unfold maxLen at hma hmb
  have H := Lib.hid h
  have HAA := Lib.hid ha
  have HBB := Lib.hid hb
  have HRT := Lib.hid hr1
  have HIA := Lib.hid hr2
  have HIB := Lib.hid hr3
  have HVD := Lib.hid hr
  clear h ha hb hr hr1 hr2 hr3
  cases r1 with
  | false =>
    have HR := Lib.hid (show blocksD D al bl = [] by unfold blocksD; rw [HVD.out]; rfl)
    go_enter Try.func26, Try.ntmps26
    go_wp2_with (first | (go_at_call 20; ((with_reducible refine (right20_D _ _ _ D _ _ (H.out.exts (by repeat (first | exact Exts.refl _ | apply Exts.andR | apply Exts.alloc | apply Exts.wext | apply Exts.drew | apply Exts.drewN))) HRT.out).mono ?_); rintro e w' ⟨rfl, x0, rfl⟩)) | (go_at_call 29; ((with_reducible refine (vector29_D lo ao _ _ _ _ D al _ _ (H.out.exts (by repeat (first | exact Exts.refl _ | apply Exts.andR | apply Exts.alloc | apply Exts.wext | apply Exts.drew | apply Exts.drewN))) (RowF.exts HAA.out (by repeat (first | exact Exts.refl _ | apply Exts.andR | apply Exts.alloc | apply Exts.wext | apply Exts.drew | apply Exts.drewN))) HIA.out).mono ?_); rintro e w' ⟨rfl, x1, rfl⟩)) | (go_at_call 29; ((with_reducible refine (vector29_D lo bo _ _ _ _ D bl _ _ (H.out.exts (by repeat (first | exact Exts.refl _ | apply Exts.andR | apply Exts.alloc | apply Exts.wext | apply Exts.drew | apply Exts.drewN))) (RowF.exts HBB.out (by repeat (first | exact Exts.refl _ | apply Exts.andR | apply Exts.alloc | apply Exts.wext | apply Exts.drew | apply Exts.drewN))) HIB.out).mono ?_); rintro e w' ⟨rfl, x2, rfl⟩)))
    go_ret
    exact ⟨none, 0, by rw [HR.out]; rfl, (by repeat (first | exact Exts.refl _ | apply Exts.andR | apply Exts.alloc | apply Exts.wext | apply Exts.drew | apply Exts.drewN)), by rw [HR.out]; exact RowF.nil _ _ _⟩
  | true =>
    cases r2 with
    | false =>
      have HR := Lib.hid (show blocksD D al bl = [] by unfold blocksD; rw [HVD.out]; rfl)
      go_enter Try.func26, Try.ntmps26
      go_wp2_with (first | (go_at_call 20; ((with_reducible refine (right20_D _ _ _ D _ _ (H.out.exts (by repeat (first | exact Exts.refl _ | apply Exts.andR | apply Exts.alloc | apply Exts.wext | apply Exts.drew | apply Exts.drewN))) HRT.out).mono ?_); rintro e w' ⟨rfl, x0, rfl⟩)) | (go_at_call 29; ((with_reducible refine (vector29_D lo ao _ _ _ _ D al _ _ (H.out.exts (by repeat (first | exact Exts.refl _ | apply Exts.andR | apply Exts.alloc | apply Exts.wext | apply Exts.drew | apply Exts.drewN))) (RowF.exts HAA.out (by repeat (first | exact Exts.refl _ | apply Exts.andR | apply Exts.alloc | apply Exts.wext | apply Exts.drew | apply Exts.drewN))) HIA.out).mono ?_); rintro e w' ⟨rfl, x1, rfl⟩)) | (go_at_call 29; ((with_reducible refine (vector29_D lo bo _ _ _ _ D bl _ _ (H.out.exts (by repeat (first | exact Exts.refl _ | apply Exts.andR | apply Exts.alloc | apply Exts.wext | apply Exts.drew | apply Exts.drewN))) (RowF.exts HBB.out (by repeat (first | exact Exts.refl _ | apply Exts.andR | apply Exts.alloc | apply Exts.wext | apply Exts.drew | apply Exts.drewN))) HIB.out).mono ?_); rintro e w' ⟨rfl, x2, rfl⟩)))
      go_ret
      exact ⟨none, 0, by rw [HR.out]; rfl, (by repeat (first | exact Exts.refl _ | apply Exts.andR | apply Exts.alloc | apply Exts.wext | apply Exts.drew | apply Exts.drewN)), by rw [HR.out]; exact RowF.nil _ _ _⟩
    | true =>
      cases r3 with
      | false =>
        have HR := Lib.hid (show blocksD D al bl = [] by unfold blocksD; rw [HVD.out]; rfl)
        go_enter Try.func26, Try.ntmps26
        go_wp2_with (first | (go_at_call 20; ((with_reducible refine (right20_D _ _ _ D _ _ (H.out.exts (by repeat (first | exact Exts.refl _ | apply Exts.andR | apply Exts.alloc | apply Exts.wext | apply Exts.drew | apply Exts.drewN))) HRT.out).mono ?_); rintro e w' ⟨rfl, x0, rfl⟩)) | (go_at_call 29; ((with_reducible refine (vector29_D lo ao _ _ _ _ D al _ _ (H.out.exts (by repeat (first | exact Exts.refl _ | apply Exts.andR | apply Exts.alloc | apply Exts.wext | apply Exts.drew | apply Exts.drewN))) (RowF.exts HAA.out (by repeat (first | exact Exts.refl _ | apply Exts.andR | apply Exts.alloc | apply Exts.wext | apply Exts.drew | apply Exts.drewN))) HIA.out).mono ?_); rintro e w' ⟨rfl, x1, rfl⟩)) | (go_at_call 29; ((with_reducible refine (vector29_D lo bo _ _ _ _ D bl _ _ (H.out.exts (by repeat (first | exact Exts.refl _ | apply Exts.andR | apply Exts.alloc | apply Exts.wext | apply Exts.drew | apply Exts.drewN))) (RowF.exts HBB.out (by repeat (first | exact Exts.refl _ | apply Exts.andR | apply Exts.alloc | apply Exts.wext | apply Exts.drew | apply Exts.drewN))) HIB.out).mono ?_); rintro e w' ⟨rfl, x2, rfl⟩)))
        go_ret
        exact ⟨none, 0, by rw [HR.out]; rfl, (by repeat (first | exact Exts.refl _ | apply Exts.andR | apply Exts.alloc | apply Exts.wext | apply Exts.drew | apply Exts.drewN)), by rw [HR.out]; exact RowF.nil _ _ _⟩
      | true =>
        have hv := vec_n (show vecD D al bl = true from HVD.out)
        have HR := Lib.hid (show blocksD D al bl = blkK D al bl n by unfold blocksD; rw [if_pos (show vecD D al bl = true from HVD.out), HL.out])
        obtain ⟨rfl, rfl, hn12⟩ : na = n ∧ nb = n ∧ n ≤ 12 := by have := HL.out; have := HLA.out; have := HLB.out; omega
        clear hv
        go_enter Try.func26, Try.ntmps26
        go_wp2_with (first | (go_at_call 20; ((with_reducible refine (right20_D _ _ _ D _ _ (H.out.exts (by repeat (first | exact Exts.refl _ | apply Exts.andR | apply Exts.alloc | apply Exts.wext | apply Exts.drew | apply Exts.drewN))) HRT.out).mono ?_); rintro e w' ⟨rfl, x0, rfl⟩)) | (go_at_call 29; ((with_reducible refine (vector29_D lo ao _ _ _ _ D al _ _ (H.out.exts (by repeat (first | exact Exts.refl _ | apply Exts.andR | apply Exts.alloc | apply Exts.wext | apply Exts.drew | apply Exts.drewN))) (RowF.exts HAA.out (by repeat (first | exact Exts.refl _ | apply Exts.andR | apply Exts.alloc | apply Exts.wext | apply Exts.drew | apply Exts.drewN))) HIA.out).mono ?_); rintro e w' ⟨rfl, x1, rfl⟩)) | (go_at_call 29; ((with_reducible refine (vector29_D lo bo _ _ _ _ D bl _ _ (H.out.exts (by repeat (first | exact Exts.refl _ | apply Exts.andR | apply Exts.alloc | apply Exts.wext | apply Exts.drew | apply Exts.drewN))) (RowF.exts HBB.out (by repeat (first | exact Exts.refl _ | apply Exts.andR | apply Exts.alloc | apply Exts.wext | apply Exts.drew | apply Exts.drewN))) HIB.out).mono ?_); rintro e w' ⟨rfl, x2, rfl⟩)))
        go_loopw [7, 8] (fun o i wr => ∃ (k m : Nat), k ≤ nb ∧ (blkK D al bl k).length = m ∧ i = .int .i64 k ∧ Exts w wr ∧ wr.ownsRow w.heap.size 3 1 o m (intsC (blkK D al bl k))) (fun _ i _ => nb - (intOf i).toNat)
        case atStart => exact ⟨0, 0, by omega, rfl, rfl, (by repeat (first | exact Exts.refl _ | apply Exts.andR | apply Exts.alloc | apply Exts.wext | apply Exts.drew | apply Exts.drewN)), World.ownsRow_nil _ _ _ _⟩
        case round =>
          obtain ⟨k, m, hk, hmk, rfl, hx, hown⟩ := hrel
          have HX := Lib.hid hx
          have HBS := Lib.hid (show w.heap.size ≤ wr.heap.size from hx.below.size)
          clear hx
          obtain ⟨ao2, c2, rfl⟩ := owns_shape hown
          have hmle := blkK_len D al bl k
          rw [hmk] at hmle
          have HO := Lib.hid hown
          have HMK := Lib.hid hmk
          clear hown hmk
          by_cases hlt : k < nb
          · obtain ⟨b, off, V, ps, po, pc, rfl, hb, hd, e0, e1, hp⟩ := (H.out.exts HX.out).get hlt
            obtain ⟨b1, off1, xa, rfl, hb1, hxa, f1⟩ := ints_get (RowF.exts HAA.out HX.out) hlt
            obtain ⟨b2, off2, xb, rfl, hb2, hxb, f2⟩ := ints_get (RowF.exts HBB.out HX.out) hlt
            obtain ⟨mm, g, rfl, hg⟩ := right_at2 HRT.out hd
            obtain ⟨a1, a2⟩ := in_at2 HIA.out hd hxa
            obtain ⟨a3, a4⟩ := in_at2 HIB.out hd hxb
            obtain ⟨u, rfl⟩ : ∃ u : Nat, xa = u := ⟨xa.toNat, by omega⟩
            obtain ⟨v, rfl⟩ : ∃ v : Nat, xb = v := ⟨xb.toNat, by omega⟩
            have hu : u < mm := by omega
            have hv2 : v < mm := by omega
            obtain ⟨t, ht⟩ : ∃ t, g u v = t := ⟨_, rfl⟩
            have hat := atI_of hd hxa hxb
            rw [atD_in hg hu hv2, ht] at hat
            have HP := Lib.hid hp
            have HT := Lib.hid ht
            have HG := Lib.hid hg
            have HN := Lib.hid (blkK_next D al bl k)
            have HAT := Lib.hid hat
            clear hd hxa hxb hp ht hat hg a1 a2 a3 a4
            cases t with
            | true =>
              have HE := Lib.hid (show blkK D al bl (k + 1) = blkK D al bl k by rw [HN.out, HAT.out]; rfl)
              go_wp2_with (first | (go_at_call 37; ((with_reducible refine (strong37_D _ _ _ _ ps _ _ g _ _ (RowF.exts HP.out (by repeat (first | exact Exts.refl _ | apply Exts.andR | apply Exts.alloc | apply Exts.wext | apply Exts.drew | apply Exts.drewN))) HG.out hu HT.out).mono ?_); rintro e w' ⟨rfl, x5, rfl⟩)))
              first | refine wp_region_ext_lit2 (by kernel_rfl) (by kernel_rfl) ?_ | refine wp_region_ext_lit (by kernel_rfl) (by kernel_rfl) ?_
              repeat (go_big_quiet_step (((first | (go_at_call 37; exact Calls.ext_of (strong37_D _ _ _ _ ps _ _ g _ _ (RowF.exts HP.out (by repeat (first | exact Exts.refl _ | apply Exts.andR | apply Exts.alloc | apply Exts.wext | apply Exts.drew | apply Exts.drewN))) HG.out hu HT.out))))))
              refine wpQuiet_nil ?_
              intro _ hwq'
              obtain ⟨xq, hwq''⟩ := hwq'
              subst hwq''
              go_wp2
              refine ⟨⟨k + 1, m, by omega, by rw [HE.out]; exact HMK.out, by go_num, HX.out.trans (by repeat (first | exact Exts.refl _ | apply Exts.andR | apply Exts.alloc | apply Exts.wext | apply Exts.drew | apply Exts.drewN)), by rw [HE.out]; exact ownsRow_exts HO.out (by repeat (first | exact Exts.refl _ | apply Exts.andR | apply Exts.alloc | apply Exts.wext | apply Exts.drew | apply Exts.drewN))⟩, ?_⟩
              simp [intOf]; omega
            | false =>
              have HE := Lib.hid (show blkK D al bl (k + 1) = blkK D al bl k ++ [(k : Int)] by rw [HN.out, HAT.out]; rfl)
              go_wp2_with (first | (go_at_call 37; ((with_reducible refine (strong37_D _ _ _ _ ps _ _ g _ _ (RowF.exts HP.out (by repeat (first | exact Exts.refl _ | apply Exts.andR | apply Exts.alloc | apply Exts.wext | apply Exts.drew | apply Exts.drewN))) HG.out hu HT.out).mono ?_); rintro e w' ⟨rfl, x5, rfl⟩)))
              first | refine wp_region_ext_lit2 (by kernel_rfl) (by kernel_rfl) ?_ | refine wp_region_ext_lit (by kernel_rfl) (by kernel_rfl) ?_
              repeat (go_big_quiet_step (((first | (go_at_call 37; exact Calls.ext_of (strong37_D _ _ _ _ ps _ _ g _ _ (RowF.exts HP.out (by repeat (first | exact Exts.refl _ | apply Exts.andR | apply Exts.alloc | apply Exts.wext | apply Exts.drew | apply Exts.drewN))) HG.out hu HT.out))))))
              refine wpQuiet_nil ?_
              intro _ hwq'
              obtain ⟨xq, hwq''⟩ := hwq'
              subst hwq''
              go_wp2_with (at_builtin; refine wpList_append_lies _ rfl (.tmp 44) (.tmp 46) 26 rfl w.heap.size 3 i0 _ 1 8 Try.underlying26 hi hz0 hz1 hz2 rfl (by decide) (.slice ao2 m c2) m (intsC (blkK D al bl k)) rfl (ownsRow_exts HO.out (by repeat (first | exact Exts.refl _ | apply Exts.andR | apply Exts.alloc | apply Exts.wext | apply Exts.drew | apply Exts.drewN))) ⟨_, 0, none⟩ 1 1 [.int .i64 k] rfl rfl (by intro j u hj; match j, hj with | 0, hj => (simp at hj; subst hj; simp [go_sem])) (int_one _) (by decide) (by unfold maxLen; omega) (by omega) (by have := HBS.out; simp; omega) _ rfl ?_; intro g cg w1 hown' hgrow hat hlt')
              refine ⟨⟨k + 1, m + 1, by omega, by rw [HE.out, List.length_append, HMK.out]; rfl, by go_num, exts_of_grown (W := w) (HX.out.trans (by repeat (first | exact Exts.refl _ | apply Exts.andR | apply Exts.alloc | apply Exts.wext | apply Exts.drew | apply Exts.drewN))) hgrow (fun b hb => (HO.out.lt b hb).1), by rw [HE.out, intsC_snoc]; exact hown'⟩, ?_⟩
              simp [intOf]; omega
          · obtain rfl : k = nb := by omega
            go_wp2
            go_ret
            exact ⟨ao2, c2, by rw [HR.out, HMK.out]; rfl, HX.out.trans (by repeat (first | exact Exts.refl _ | apply Exts.andR | apply Exts.alloc | apply Exts.wext | apply Exts.drew | apply Exts.drewN)), by rw [HR.out, HMK.out]; exact RowF.of_owns (ownsRow_exts HO.out (by repeat (first | exact Exts.refl _ | apply Exts.andR | apply Exts.alloc | apply Exts.wext | apply Exts.drew | apply Exts.drewN)))⟩
end Go.Proofs.Ytbafcfbchbjgfaa
