/- Joins of the reference of chapter 38. No condition. -/
import Derived.Test.YtbafcfbchbjgfaaRefLists
import Derived.Test.YtbafcfbchbjgfaaRefJoin
import Derived.Test.YtbafcfbchbjgfaaJoins
namespace Go.Proofs.Ytbafcfbchbjgfaa
open Go.RowKit
set_option linter.unusedSimpArgs false
set_option linter.unusedVariables false
theorem join14_D {S : Nat → Prop} (V : Int) (po : Option Addr) (n c : Nat) (ps : List Pr) (aa bb x : Int) (o : Bool) (w : World) (h : Prs S w po n c ps) (hD : joinD V ps aa bb = (x, o)) :
    Calls Try.prog 14 #[.agg #[.int .i64 V, .slice po n c], .int .i64 aa, .int .i64 bb] w fun e w' => e = .returned (.tuple #[.int .i64 x, .bool o]) ∧ Exts w w' := by
  have := join14 V po n c ps aa bb w h
  rw [hD] at this
  exact this
set_option maxRecDepth 100000
set_option maxHeartbeats 4000000
theorem joins18 {S S1 S2 : Nat → Prop} (lo ao bo : Option Addr) (n c na ca nb cb : Nat) (D : List Dm) (al bl : List Int) (w : World) (h : Dims S w lo n c D) (ha : Ints S1 w ao na ca al) (hb : Ints S2 w bo nb cb bl) :
    Calls Try.prog 18 #[.slice lo n c, .slice ao na ca, .slice bo nb cb] w fun e w' => ∃ ro rc, e = .returned (.tuple #[.slice ro (joinsD D al bl).1.length rc, .bool (joinsD D al bl).2]) ∧ Exts w w' ∧ Ints (fun b => w.heap.size ≤ b) w' ro (joinsD D al bl).1.length rc (joinsD D al bl).1 := by
  obtain ⟨i0, hi, hz0, hz1, hz2⟩ := info_parts info3
  have HL := Lib.hid h.1
  have HLA := Lib.hid (ints_len ha)
  have HLB := Lib.hid (ints_len hb)
  obtain ⟨r1, hr1⟩ : ∃ r, rightD D = r := ⟨_, rfl⟩
  obtain ⟨r2, hr2⟩ : ∃ r, inD D al = r := ⟨_, rfl⟩
  obtain ⟨r3, hr3⟩ : ∃ r, inD D bl = r := ⟨_, rfl⟩
  have hr : vecD D al bl = (r1 && (r2 && r3)) := by unfold vecD; rw [hr1, hr2, hr3]
  have hm := h.nle
  unfold maxLen at hm
  have hma := RowF.nle ha
  have hmb := RowF.nle hb
  unfold maxLen at hma hmb
  have H := Lib.hid h
  have HAA := Lib.hid ha
  have HBB := Lib.hid hb
  have HRT := Lib.hid hr1
  have HIA := Lib.hid hr2
  have HIB := Lib.hid hr3
  have HVD := Lib.hid hr
  clear h ha hb hr hr1 hr2 hr3
  cases r1 with
  | false =>
    have HR := Lib.hid (joins_no (.inl HVD.out))
    go_enter Try.func18, Try.ntmps18
    go_wp2_with (first | (go_at_call 20; ((with_reducible refine (right20_D _ _ _ D _ _ (H.out.exts (by repeat (first | exact Exts.refl _ | apply Exts.andR | apply Exts.alloc | apply Exts.wext | apply Exts.drew | apply Exts.drewN))) HRT.out).mono ?_); rintro e w' ⟨rfl, x0, rfl⟩)) | (go_at_call 29; ((with_reducible refine (vector29_D lo ao _ _ _ _ D al _ _ (H.out.exts (by repeat (first | exact Exts.refl _ | apply Exts.andR | apply Exts.alloc | apply Exts.wext | apply Exts.drew | apply Exts.drewN))) (RowF.exts HAA.out (by repeat (first | exact Exts.refl _ | apply Exts.andR | apply Exts.alloc | apply Exts.wext | apply Exts.drew | apply Exts.drewN))) HIA.out).mono ?_); rintro e w' ⟨rfl, x1, rfl⟩)) | (go_at_call 29; ((with_reducible refine (vector29_D lo bo _ _ _ _ D bl _ _ (H.out.exts (by repeat (first | exact Exts.refl _ | apply Exts.andR | apply Exts.alloc | apply Exts.wext | apply Exts.drew | apply Exts.drewN))) (RowF.exts HBB.out (by repeat (first | exact Exts.refl _ | apply Exts.andR | apply Exts.alloc | apply Exts.wext | apply Exts.drew | apply Exts.drewN))) HIB.out).mono ?_); rintro e w' ⟨rfl, x2, rfl⟩)))
    go_ret2
    exact ⟨none, 0, by rw [HR.out]; rfl, (by repeat (first | exact Exts.refl _ | apply Exts.andR | apply Exts.alloc | apply Exts.wext | apply Exts.drew | apply Exts.drewN)), by rw [HR.out]; exact RowF.nil _ _ _⟩
  | true =>
    cases r2 with
    | false =>
      have HR := Lib.hid (joins_no (.inl HVD.out))
      go_enter Try.func18, Try.ntmps18
      go_wp2_with (first | (go_at_call 20; ((with_reducible refine (right20_D _ _ _ D _ _ (H.out.exts (by repeat (first | exact Exts.refl _ | apply Exts.andR | apply Exts.alloc | apply Exts.wext | apply Exts.drew | apply Exts.drewN))) HRT.out).mono ?_); rintro e w' ⟨rfl, x0, rfl⟩)) | (go_at_call 29; ((with_reducible refine (vector29_D lo ao _ _ _ _ D al _ _ (H.out.exts (by repeat (first | exact Exts.refl _ | apply Exts.andR | apply Exts.alloc | apply Exts.wext | apply Exts.drew | apply Exts.drewN))) (RowF.exts HAA.out (by repeat (first | exact Exts.refl _ | apply Exts.andR | apply Exts.alloc | apply Exts.wext | apply Exts.drew | apply Exts.drewN))) HIA.out).mono ?_); rintro e w' ⟨rfl, x1, rfl⟩)) | (go_at_call 29; ((with_reducible refine (vector29_D lo bo _ _ _ _ D bl _ _ (H.out.exts (by repeat (first | exact Exts.refl _ | apply Exts.andR | apply Exts.alloc | apply Exts.wext | apply Exts.drew | apply Exts.drewN))) (RowF.exts HBB.out (by repeat (first | exact Exts.refl _ | apply Exts.andR | apply Exts.alloc | apply Exts.wext | apply Exts.drew | apply Exts.drewN))) HIB.out).mono ?_); rintro e w' ⟨rfl, x2, rfl⟩)))
      go_ret2
      exact ⟨none, 0, by rw [HR.out]; rfl, (by repeat (first | exact Exts.refl _ | apply Exts.andR | apply Exts.alloc | apply Exts.wext | apply Exts.drew | apply Exts.drewN)), by rw [HR.out]; exact RowF.nil _ _ _⟩
    | true =>
      cases r3 with
      | false =>
        have HR := Lib.hid (joins_no (.inl HVD.out))
        go_enter Try.func18, Try.ntmps18
        go_wp2_with (first | (go_at_call 20; ((with_reducible refine (right20_D _ _ _ D _ _ (H.out.exts (by repeat (first | exact Exts.refl _ | apply Exts.andR | apply Exts.alloc | apply Exts.wext | apply Exts.drew | apply Exts.drewN))) HRT.out).mono ?_); rintro e w' ⟨rfl, x0, rfl⟩)) | (go_at_call 29; ((with_reducible refine (vector29_D lo ao _ _ _ _ D al _ _ (H.out.exts (by repeat (first | exact Exts.refl _ | apply Exts.andR | apply Exts.alloc | apply Exts.wext | apply Exts.drew | apply Exts.drewN))) (RowF.exts HAA.out (by repeat (first | exact Exts.refl _ | apply Exts.andR | apply Exts.alloc | apply Exts.wext | apply Exts.drew | apply Exts.drewN))) HIA.out).mono ?_); rintro e w' ⟨rfl, x1, rfl⟩)) | (go_at_call 29; ((with_reducible refine (vector29_D lo bo _ _ _ _ D bl _ _ (H.out.exts (by repeat (first | exact Exts.refl _ | apply Exts.andR | apply Exts.alloc | apply Exts.wext | apply Exts.drew | apply Exts.drewN))) (RowF.exts HBB.out (by repeat (first | exact Exts.refl _ | apply Exts.andR | apply Exts.alloc | apply Exts.wext | apply Exts.drew | apply Exts.drewN))) HIB.out).mono ?_); rintro e w' ⟨rfl, x2, rfl⟩)))
        go_ret2
        exact ⟨none, 0, by rw [HR.out]; rfl, (by repeat (first | exact Exts.refl _ | apply Exts.andR | apply Exts.alloc | apply Exts.wext | apply Exts.drew | apply Exts.drewN)), by rw [HR.out]; exact RowF.nil _ _ _⟩
      | true =>
        have hvd : vecD D al bl = true := HVD.out
        have hv := vec_n hvd
        have HVT := Lib.hid hvd
        obtain ⟨rfl, rfl, hn12⟩ : na = n ∧ nb = n ∧ n ≤ 12 := by have := HL.out; have := HLA.out; have := HLB.out; omega
        clear hv hvd
        go_enter Try.func18, Try.ntmps18
        go_wp2_with (first | (go_at_call 20; ((with_reducible refine (right20_D _ _ _ D _ _ (H.out.exts (by repeat (first | exact Exts.refl _ | apply Exts.andR | apply Exts.alloc | apply Exts.wext | apply Exts.drew | apply Exts.drewN))) HRT.out).mono ?_); rintro e w' ⟨rfl, x0, rfl⟩)) | (go_at_call 29; ((with_reducible refine (vector29_D lo ao _ _ _ _ D al _ _ (H.out.exts (by repeat (first | exact Exts.refl _ | apply Exts.andR | apply Exts.alloc | apply Exts.wext | apply Exts.drew | apply Exts.drewN))) (RowF.exts HAA.out (by repeat (first | exact Exts.refl _ | apply Exts.andR | apply Exts.alloc | apply Exts.wext | apply Exts.drew | apply Exts.drewN))) HIA.out).mono ?_); rintro e w' ⟨rfl, x1, rfl⟩)) | (go_at_call 29; ((with_reducible refine (vector29_D lo bo _ _ _ _ D bl _ _ (H.out.exts (by repeat (first | exact Exts.refl _ | apply Exts.andR | apply Exts.alloc | apply Exts.wext | apply Exts.drew | apply Exts.drewN))) (RowF.exts HBB.out (by repeat (first | exact Exts.refl _ | apply Exts.andR | apply Exts.alloc | apply Exts.wext | apply Exts.drew | apply Exts.drewN))) HIB.out).mono ?_); rintro e w' ⟨rfl, x2, rfl⟩)))
        go_loopw [8, 9] (fun o i wr => ∃ (k : Nat), k ≤ nb ∧ i = .int .i64 k ∧ Exts w wr ∧ wr.ownsRow w.heap.size 3 1 o k (intsC (jnK D al bl k)) ∧ ∀ i, i < k → (jnI D al bl i).2 = true) (fun _ i _ => nb - (intOf i).toNat)
        case atStart => exact ⟨0, by omega, rfl, (by repeat (first | exact Exts.refl _ | apply Exts.andR | apply Exts.alloc | apply Exts.wext | apply Exts.drew | apply Exts.drewN)), World.ownsRow_nil _ _ _ _, fun i hi => by omega⟩
        case round =>
          obtain ⟨k, hk, rfl, hx, hown, hin⟩ := hrel
          have HX := Lib.hid hx
          have HBS := Lib.hid (show w.heap.size ≤ wr.heap.size from hx.below.size)
          obtain ⟨ao2, c2, rfl⟩ := owns_shape hown
          have HO := Lib.hid hown
          have HI := Lib.hid hin
          clear hx hown hin
          by_cases hlt : k < nb
          · obtain ⟨b, off, V, ps, po, pc, rfl, hb, hd, e0, e1, hp⟩ := (H.out.exts HX.out).get hlt
            obtain ⟨b1, off1, xa, rfl, hb1, hxa, f1⟩ := ints_get (RowF.exts HAA.out HX.out) hlt
            obtain ⟨b2, off2, xb, rfl, hb2, hxb, f2⟩ := ints_get (RowF.exts HBB.out HX.out) hlt
            obtain ⟨⟨t, ok⟩, ht⟩ : ∃ t, joinD V ps xa xb = t := ⟨_, rfl⟩
            have hat := jnI_of hd hxa hxb
            rw [ht] at hat
            have HP := Lib.hid hp
            have HT := Lib.hid ht
            have HN := Lib.hid (jnK_next D al bl k)
            have HAT := Lib.hid hat
            clear hd hxa hxb hp ht hat
            cases ok with
            | false =>
              have HR := Lib.hid (joins_no (.inr ⟨k, by rw [HL.out]; exact hlt, by rw [HAT.out]⟩))
              go_wp2
              first | refine wp_region_ext_lit2 (by kernel_rfl) (by kernel_rfl) ?_ | refine wp_region_ext_lit (by kernel_rfl) (by kernel_rfl) ?_
              repeat (go_big_quiet_step (((first | (go_at_call 14; exact Calls.ext_of (join14_D _ _ _ _ ps _ _ _ _ _ (RowF.exts HP.out (by repeat (first | exact Exts.refl _ | apply Exts.andR | apply Exts.alloc | apply Exts.wext | apply Exts.drew | apply Exts.drewN))) HT.out))))))
              refine wpQuiet_nil ?_
              intro _ hwq'
              obtain ⟨xq, hwq''⟩ := hwq'
              subst hwq''
              go_wp2
              go_ret2
              exact ⟨none, 0, by rw [HR.out]; rfl, HX.out.trans (by repeat (first | exact Exts.refl _ | apply Exts.andR | apply Exts.alloc | apply Exts.wext | apply Exts.drew | apply Exts.drewN)), by rw [HR.out]; exact RowF.nil _ _ _⟩
            | true =>
              have HE := Lib.hid (show jnK D al bl (k + 1) = jnK D al bl k ++ [t] by rw [HN.out, HAT.out])
              go_wp2
              first | refine wp_region_ext_lit2 (by kernel_rfl) (by kernel_rfl) ?_ | refine wp_region_ext_lit (by kernel_rfl) (by kernel_rfl) ?_
              repeat (go_big_quiet_step (((first | (go_at_call 14; exact Calls.ext_of (join14_D _ _ _ _ ps _ _ _ _ _ (RowF.exts HP.out (by repeat (first | exact Exts.refl _ | apply Exts.andR | apply Exts.alloc | apply Exts.wext | apply Exts.drew | apply Exts.drewN))) HT.out))))))
              refine wpQuiet_nil ?_
              intro _ hwq'
              obtain ⟨xq, hwq''⟩ := hwq'
              subst hwq''
              go_wp2_with (at_builtin; refine wpList_append_lies _ rfl (.tmp 51) (.tmp 53) 26 rfl w.heap.size 3 i0 _ 1 8 Try.underlying26 hi hz0 hz1 hz2 rfl (by decide) (.slice ao2 k c2) k (intsC (jnK D al bl k)) rfl (ownsRow_exts HO.out (by repeat (first | exact Exts.refl _ | apply Exts.andR | apply Exts.alloc | apply Exts.wext | apply Exts.drew | apply Exts.drewN))) ⟨_, 0, none⟩ 1 1 [.int .i64 t] rfl rfl (by intro j u hj; match j, hj with | 0, hj => (simp at hj; subst hj; simp [go_sem])) (int_one _) (by decide) (by unfold maxLen; omega) (by omega) (by have := HBS.out; simp; omega) _ rfl ?_; intro g cg w1 hown' hgrow hat hlt')
              refine ⟨⟨k + 1, by omega, by go_num, exts_of_grown (W := w) (HX.out.trans (by repeat (first | exact Exts.refl _ | apply Exts.andR | apply Exts.alloc | apply Exts.wext | apply Exts.drew | apply Exts.drewN))) hgrow (fun b hb => (HO.out.lt b hb).1), by rw [HE.out, intsC_snoc]; exact hown', fun i hi => ?_⟩, ?_⟩
              · by_cases hik : i = k
                · rw [hik, HAT.out]
                · exact HI.out i (by omega)
              · simp [intOf]; omega
          · obtain rfl : k = nb := by omega
            have HR := Lib.hid (joins_yes HVT.out (by rw [HL.out]; exact HI.out))
            rw [HL.out] at HR
            go_wp2
            go_ret2
            exact ⟨ao2, c2, by rw [HR.out, jnK_len]; rfl, HX.out.trans (by repeat (first | exact Exts.refl _ | apply Exts.andR | apply Exts.alloc | apply Exts.wext | apply Exts.drew | apply Exts.drewN)), by rw [HR.out, jnK_len]; exact RowF.of_owns (ownsRow_exts HO.out (by repeat (first | exact Exts.refl _ | apply Exts.andR | apply Exts.alloc | apply Exts.wext | apply Exts.drew | apply Exts.drewN)))⟩
end Go.Proofs.Ytbafcfbchbjgfaa
