/- Lemmas that the laws of this seat share, 2 texts in one: Small9, RefAdd. No condition of their own. -/
import Derived.Test.YtodgohilfbggjaaM18
/- small of the laws of chapter 39 returns true. No condition. -/
namespace Go.Proofs.Ytodgohilfbggjaa
open Go.RowKit
set_option linter.unusedSimpArgs false
set_option linter.unusedVariables false
set_option maxRecDepth 100000
set_option maxHeartbeats 4000000
theorem small9 (w : World) : Calls Try.prog 9 #[] w fun e w' => e = .returned (.bool true) ∧ Exts w w' := by
  obtain ⟨i0, hi, hz0, hz1, hz2⟩ := info_parts info33
  go_enter Try.func9, Try.ntmps9
  go_wp2_with (first | (go_at_call 11; fail) | (go_at_call 13; fail) | (go_at_call 15; fail) | (go_at_call 17; fail) | (go_at_call 19; fail) | (go_at_call 21; fail) | (go_at_call 23; fail) | (go_at_call 24; fail))
  generalize hW : World.alloc _ _ = W
  have HX := Lib.hid (show Exts w W by rw [← hW]; exact (by repeat (first | exact Exts.refl _ | apply Exts.andR | apply Exts.alloc | apply Exts.wext | apply Exts.drew | apply Exts.drewN)))
  have HP := Lib.hid (show Prs (fun _ => True) W (some ⟨w.heap.size, 0, none⟩) 2 2 dmO by rw [← hW]; exact rowF_lit (by repeat (first | exact alloc_at _ _ _ (by simp) | refine alloc_below _ _ _ _ (by simp <;> omega) ?_ | fail)) rfl (by decide))
  have HD := Lib.hid (show Dims (fun _ => True) W (some ⟨w.heap.size + 1 + 1, 0, none⟩) 2 2 lO by
    refine dims_two (fr := (0, 0)) (t := 52) ?_ HP.out
    rw [← hW]
    exact (by repeat (first | exact alloc_at _ _ _ (by simp) | refine alloc_below _ _ _ _ (by simp <;> omega) ?_ | fail)))
  have HB := Lib.hid (show Cases (fun _ => True) W (some ⟨w.heap.size + 1 + 1 + 1 + 1 + 1, 0, none⟩) 2 2 bO by
    rw [← hW]
    exact cases_two (by repeat (first | exact alloc_at _ _ _ (by simp) | refine alloc_below _ _ _ _ (by simp <;> omega) ?_ | fail)) (intsV_lit (by repeat (first | exact alloc_at _ _ _ (by simp) | refine alloc_below _ _ _ _ (by simp <;> omega) ?_ | fail)) rfl (by decide)) (intsV_lit (by repeat (first | exact alloc_at _ _ _ (by simp) | refine alloc_below _ _ _ _ (by simp <;> omega) ?_ | fail)) rfl (by decide)) (by constructor <;> decide) (by constructor <;> decide))
  have HI := Lib.hid (show Ints (fun _ => True) W (some ⟨w.heap.size + 1 + 1 + 1 + 1 + 1 + 1, 0, none⟩) 2 2 [2, 1] by rw [← hW]; exact ints_lit (by repeat (first | exact alloc_at _ _ _ (by simp) | refine alloc_below _ _ _ _ (by simp <;> omega) ?_ | fail)) rfl (by decide))
  clear hW
  refine Calls.mono (forced11_R (S := fun _ => True) (S1 := fun _ => True) (S2 := fun _ => True) _ _ _ _ _ _ _ _ _ lO bO _ _ _ _ _ _ HD.out HB.out HI.out (by decide) for1 rfl) ?_
  rintro e w' ⟨fo1, fc1, rfl, ⟨x1, rfl⟩, hf⟩
  have HF1 := Lib.hid hf
  clear hf HI
  go_wp2_with (first | (go_at_call 11; fail) | (go_at_call 13; fail) | (go_at_call 15; fail) | (go_at_call 17; fail) | (go_at_call 19; fail) | (go_at_call 21; fail) | (go_at_call 23; fail) | (go_at_call 24; fail))
  refine Calls.mono (forced11_R (S := fun _ => True) (S1 := fun _ => True) (S2 := fun _ => True) _ _ _ _ _ _ _ _ _ lO bO _ _ _ _ _ _ ?_ ?_ ?_ (by decide) for2 rfl) ?_
  · exact HD.out.exts (by repeat (first | exact Exts.refl _ | apply Exts.andR | apply Exts.alloc | apply Exts.wext | apply Exts.drew | apply Exts.drewN))
  · exact HB.out.exts (by repeat (first | exact Exts.refl _ | apply Exts.andR | apply Exts.alloc | apply Exts.wext | apply Exts.drew | apply Exts.drewN))
  · exact ints_lit (by repeat (first | exact alloc_at _ _ _ (by simp) | refine alloc_below _ _ _ _ (by simp <;> omega) ?_ | fail)) rfl (by decide)
  rintro e w' ⟨fo2, fc2, rfl, ⟨x2, rfl⟩, hf⟩
  (try simp only [wext_and] at hf)
  have HF2 := Lib.hid hf
  clear hf
  go_wp2_with (first | (go_at_call 11; fail) | (go_at_call 13; fail) | (go_at_call 15; fail) | (go_at_call 17; fail) | (go_at_call 19; fail) | (go_at_call 21; fail) | (go_at_call 23; fail) | (go_at_call 24; fail))
  refine Calls.mono (forced11_R (S := fun _ => True) (S1 := fun _ => True) (S2 := fun _ => True) _ _ _ _ _ _ _ _ _ lO bO _ _ _ _ _ _ ?_ ?_ ?_ (by decide) for3 rfl) ?_
  · exact HD.out.exts (by repeat (first | exact Exts.refl _ | apply Exts.andR | apply Exts.alloc | apply Exts.wext | apply Exts.drew | apply Exts.drewN))
  · exact HB.out.exts (by repeat (first | exact Exts.refl _ | apply Exts.andR | apply Exts.alloc | apply Exts.wext | apply Exts.drew | apply Exts.drewN))
  · exact ints_lit (by repeat (first | exact alloc_at _ _ _ (by simp) | refine alloc_below _ _ _ _ (by simp <;> omega) ?_ | fail)) rfl (by decide)
  rintro e w' ⟨fo3, fc3, rfl, ⟨x3, rfl⟩, hf⟩
  (try simp only [wext_and] at hf)
  have HF3 := Lib.hid hf
  clear hf
  go_wp2_with (first | (go_at_call 11; fail) | (go_at_call 13; fail) | (go_at_call 15; fail) | (go_at_call 17; fail) | (go_at_call 19; fail) | (go_at_call 21; fail) | (go_at_call 23; fail) | (go_at_call 24; fail))
  refine Calls.mono (forced11_R (S := fun _ => True) (S1 := fun _ => True) (S2 := fun _ => True) _ _ _ _ _ _ _ _ _ lO bO _ _ _ _ _ _ ?_ ?_ ?_ (by decide) for4 rfl) ?_
  · exact HD.out.exts (by repeat (first | exact Exts.refl _ | apply Exts.andR | apply Exts.alloc | apply Exts.wext | apply Exts.drew | apply Exts.drewN))
  · exact HB.out.exts (by repeat (first | exact Exts.refl _ | apply Exts.andR | apply Exts.alloc | apply Exts.wext | apply Exts.drew | apply Exts.drewN))
  · exact ints_lit (by repeat (first | exact alloc_at _ _ _ (by simp) | refine alloc_below _ _ _ _ (by simp <;> omega) ?_ | fail)) rfl (by decide)
  rintro e w' ⟨fo4, fc4, rfl, ⟨x4, rfl⟩, hf⟩
  (try simp only [wext_and] at hf)
  have HF4 := Lib.hid hf
  clear hf
  go_wp2_with (first | (go_at_call 11; fail) | (go_at_call 13; fail) | (go_at_call 15; fail) | (go_at_call 17; fail) | (go_at_call 19; fail) | (go_at_call 21; fail) | (go_at_call 23; fail) | (go_at_call 24; fail))
  refine Calls.mono (add15_R (S := fun _ => True) (S1 := fun _ => True) (S2 := fun _ => True) _ _ _ _ _ _ _ _ _ lO bO _ _ _ _ _ _ _ ?_ ?_ ?_ (by decide) (by constructor <;> decide) add1 rfl) ?_
  · exact HD.out.exts (by repeat (first | exact Exts.refl _ | apply Exts.andR | apply Exts.alloc | apply Exts.wext | apply Exts.drew | apply Exts.drewN))
  · exact HB.out.exts (by repeat (first | exact Exts.refl _ | apply Exts.andR | apply Exts.alloc | apply Exts.wext | apply Exts.drew | apply Exts.drewN))
  · exact ints_lit (by repeat (first | exact alloc_at _ _ _ (by simp) | refine alloc_below _ _ _ _ (by simp <;> omega) ?_ | fail)) rfl (by decide)
  rintro e w' ⟨fo5, fc5, rfl, ⟨x5, rfl⟩, hf⟩
  (try simp only [wext_and] at hf)
  have HF5 := Lib.hid hf
  clear hf
  go_wp2_with (first | (go_at_call 11; fail) | (go_at_call 13; fail) | (go_at_call 15; fail) | (go_at_call 17; fail) | (go_at_call 19; fail) | (go_at_call 21; fail) | (go_at_call 23; fail) | (go_at_call 24; fail))
  refine Calls.mono (add15_R (S := fun _ => True) (S1 := fun _ => True) (S2 := fun _ => True) _ _ _ _ _ _ _ _ _ lO bO _ _ _ _ _ _ _ ?_ ?_ ?_ (by decide) (by constructor <;> decide) add2 rfl) ?_
  · exact HD.out.exts (by repeat (first | exact Exts.refl _ | apply Exts.andR | apply Exts.alloc | apply Exts.wext | apply Exts.drew | apply Exts.drewN))
  · exact HB.out.exts (by repeat (first | exact Exts.refl _ | apply Exts.andR | apply Exts.alloc | apply Exts.wext | apply Exts.drew | apply Exts.drewN))
  · exact ints_lit (by repeat (first | exact alloc_at _ _ _ (by simp) | refine alloc_below _ _ _ _ (by simp <;> omega) ?_ | fail)) rfl (by decide)
  rintro e w' ⟨fo6, fc6, rfl, ⟨x6, rfl⟩, hf⟩
  (try simp only [wext_and] at hf)
  have HF6 := Lib.hid hf
  clear hf
  go_wp2_with (first | (go_at_call 11; fail) | (go_at_call 13; fail) | (go_at_call 15; fail) | (go_at_call 17; fail) | (go_at_call 19; fail) | (go_at_call 21; fail) | (go_at_call 23; fail) | (go_at_call 24; fail))
  refine Calls.mono (dist17_R (S := fun _ => True) (S1 := fun _ => True) (S2 := fun _ => True) _ _ _ _ _ _ _ _ _ lO bO _ _ _ _ _ _ ?_ ?_ ?_ (by decide) dist1 rfl) ?_
  · exact HD.out.exts (by repeat (first | exact Exts.refl _ | apply Exts.andR | apply Exts.alloc | apply Exts.wext | apply Exts.drew | apply Exts.drewN))
  · exact HB.out.exts (by repeat (first | exact Exts.refl _ | apply Exts.andR | apply Exts.alloc | apply Exts.wext | apply Exts.drew | apply Exts.drewN))
  · exact ints_lit (by repeat (first | exact alloc_at _ _ _ (by simp) | refine alloc_below _ _ _ _ (by simp <;> omega) ?_ | fail)) rfl (by decide)
  rintro e w' ⟨fo7, fc7, rfl, ⟨x7, rfl⟩, hf⟩
  (try simp only [wext_and] at hf)
  have HF7 := Lib.hid hf
  clear hf
  go_wp2_with (first | (go_at_call 11; fail) | (go_at_call 13; fail) | (go_at_call 15; fail) | (go_at_call 17; fail) | (go_at_call 19; fail) | (go_at_call 21; fail) | (go_at_call 23; fail) | (go_at_call 24; fail))
  refine Calls.mono (dist17_R (S := fun _ => True) (S1 := fun _ => True) (S2 := fun _ => True) _ _ _ _ _ _ _ _ _ lO bO _ _ _ _ _ _ ?_ ?_ ?_ (by decide) dist2 rfl) ?_
  · exact HD.out.exts (by repeat (first | exact Exts.refl _ | apply Exts.andR | apply Exts.alloc | apply Exts.wext | apply Exts.drew | apply Exts.drewN))
  · exact HB.out.exts (by repeat (first | exact Exts.refl _ | apply Exts.andR | apply Exts.alloc | apply Exts.wext | apply Exts.drew | apply Exts.drewN))
  · exact ints_lit (by repeat (first | exact alloc_at _ _ _ (by simp) | refine alloc_below _ _ _ _ (by simp <;> omega) ?_ | fail)) rfl (by decide)
  rintro e w' ⟨fo8, fc8, rfl, ⟨x8, rfl⟩, hf⟩
  (try simp only [wext_and] at hf)
  have HF8 := Lib.hid hf
  clear hf
  generalize hW2 : wext _ x8 = W2
  have EW2 := Lib.hid (show Exts W W2 by rw [← hW2]; exact (by repeat (first | exact Exts.refl _ | apply Exts.andR | apply Exts.alloc | apply Exts.wext | apply Exts.drew | apply Exts.drewN)))
  have HX := Lib.hid (HX.out.trans EW2.out)
  have HD := Lib.hid (HD.out.exts EW2.out)
  have HB := Lib.hid (HB.out.exts EW2.out)
  have HF1 := Lib.hid (show Ints (fun _ => True) W2 _ _ _ _ from RowF.mono (RowF.exts HF1.out (show Exts _ W2 by rw [← hW2]; exact (by repeat (first | exact Exts.refl _ | apply Exts.andR | apply Exts.alloc | apply Exts.wext | apply Exts.drew | apply Exts.drewN)))) fun _ _ => trivial)
  have HF2 := Lib.hid (show Ints (fun _ => True) W2 _ _ _ _ from RowF.mono (RowF.exts HF2.out (show Exts _ W2 by rw [← hW2]; exact (by repeat (first | exact Exts.refl _ | apply Exts.andR | apply Exts.alloc | apply Exts.wext | apply Exts.drew | apply Exts.drewN)))) fun _ _ => trivial)
  have HF6 := Lib.hid (HF6.out.exts (show Exts _ W2 by rw [← hW2]; exact (by repeat (first | exact Exts.refl _ | apply Exts.andR | apply Exts.alloc | apply Exts.wext | apply Exts.drew | apply Exts.drewN))))
  have HF7 := Lib.hid (HF7.out.exts (show Exts _ W2 by rw [← hW2]; exact (by repeat (first | exact Exts.refl _ | apply Exts.andR | apply Exts.alloc | apply Exts.wext | apply Exts.drew | apply Exts.drewN))))
  have HF8 := Lib.hid (HF8.out.exts (show Exts _ W2 by rw [← hW2]; exact (by repeat (first | exact Exts.refl _ | apply Exts.andR | apply Exts.alloc | apply Exts.wext | apply Exts.drew | apply Exts.drewN))))
  clear hW2
  obtain ⟨xs, hxs⟩ : ∃ xs, RowF (fun _ => True) 3 W2 (.slice (some ⟨w.heap.size + 1 + 1 + 1 + 1 + 1, 0, none⟩) 2 2) 2 xs ∧ (∀ u ∈ xs, u.oneCell' = true) ∧ (∀ (i : Nat) (d : Cs), bO[i]? = some d → ∃ v, xs[i * 3]? = some (.int .i64 d.id) ∧ xs[i * 3 + 1]? = some v ∧ xs[i * 3 + 2]? = some (.bool d.grant) ∧ IntsV W2 v d.vals) := let ⟨q1, q2, xs, q3, q4⟩ := HB.out; ⟨xs, q3, Cases.ones q1 (RowF.len q3) q4, q4⟩
  have HR := Lib.hid hxs.1
  have HONE := Lib.hid hxs.2.1
  have H3 := Lib.hid hxs.2.2
  have HLX := Lib.hid (RowF.len hxs.1)
  clear hxs
  go_wp2_with (first | (at_builtin; refine wpList_append_row rfl (.tmp 110) (.tmp 111) 23 rfl W2.heap.size 33 i0 _ 3 40 Try.underlying23 hi hz0 hz1 hz2 rfl (by decide) _ 0 [] rfl (World.ownsRow_made W2 #[] 0 (Nat.le_refl _) (by decide) rfl) (some ⟨w.heap.size + 1 + 1 + 1 + 1 + 1, 0, none⟩) 2 2 xs rfl (RowF.exts HR.out (by repeat (first | exact Exts.refl _ | apply Exts.andR | apply Exts.alloc | apply Exts.wext | apply Exts.drew | apply Exts.drewN))) HONE.out (by unfold maxLen; omega) (by omega) (by simp <;> omega) ?_; intro ao1 c1 w1 hown1 hg1; simp only [Nat.zero_add, List.nil_append] at hown1; (have HO1 := Lib.hid hown1); (have HX1 := Lib.hid (exts_of_grown (W := W2) (by repeat (first | exact Exts.refl _ | apply Exts.andR | apply Exts.alloc | apply Exts.wext | apply Exts.drew | apply Exts.drewN)) hg1 (fun b hb => by cases hb; simp <;> omega))); clear hown1 hg1) | (at_builtin; refine wpList_append_lies _ rfl (.tmp 112) (.tmp 115) 23 rfl W2.heap.size 33 i0 _ 3 40 Try.underlying23 hi hz0 hz1 hz2 rfl (by decide) (.slice ao1 2 c1) 2 xs rfl (ownsRow_exts HO1.out (by repeat (first | exact Exts.refl _ | apply Exts.andR | apply Exts.alloc | apply Exts.wext | apply Exts.drew | apply Exts.drewN))) ⟨_, 0, none⟩ 1 1 [.int .i64 3, .slice (some ⟨w1.heap.size, 0, none⟩) 2 2, .bool true] rfl rfl (by intro j u hj; match j, hj with | 0, hj => (simp at hj; subst hj; simp [go_sem]) | 1, hj => (simp at hj; subst hj; simp [go_sem]) | 2, hj => (simp at hj; subst hj; simp [go_sem])) (three_one _ _ _ rfl) (by decide) (by unfold maxLen; omega) (by omega) (by have := HX1.out.below.size; simp; omega) _ rfl ?_; intro g2 cg2 w9 hown' hgrow hat hlt') | (go_at_call 13; fail))
  have hE : Exts W2 w9 := exts_of_grown (W := W2) (HX1.out.trans (by repeat (first | exact Exts.refl _ | apply Exts.andR | apply Exts.alloc | apply Exts.wext | apply Exts.drew | apply Exts.drewN))) hgrow (fun b hb => owns_base HO1.out hb)
  have hIV : IntsV w9 (.slice (some ⟨w1.heap.size, 0, none⟩) 2 2) [0, 0] := by
    refine IntsV.grown (e := 33) ?_ ?_ hgrow (TypedBy.of_owns (ownsRow_exts HO1.out (by repeat (first | exact Exts.refl _ | apply Exts.andR | apply Exts.alloc | apply Exts.wext | apply Exts.drew | apply Exts.drewN)))) (by decide)
    · exact intsV_lit (by repeat (first | exact alloc_at _ _ _ (by simp) | refine alloc_below _ _ _ _ (by simp <;> omega) ?_ | fail)) rfl (by decide)
    · exact typed_lit (by repeat (first | exact alloc_at _ _ _ (by simp) | refine alloc_below _ _ _ _ (by simp <;> omega) ?_ | fail))
  have HC := Lib.hid (Cases.snoc (d := ⟨3, [0, 0], true⟩) rfl HB.out.2.1 HLX.out (fun i d hd => let ⟨v, e1, e2, e3, e4⟩ := H3.out i d hd; ⟨v, e1, e2, e3, e4.exts hE⟩) (Exts.refl w9) hIV (by constructor <;> decide) (RowF.of_owns hown'))
  have HE := Lib.hid hE
  clear hE hIV hown' hgrow hat hlt' HO1 HX1 HR HONE H3 HLX
  refine Calls.mono (cons13_R (S := fun _ => True) (S1 := fun b => W2.heap.size ≤ b) _ _ _ _ _ _ lO _ _ _ _ _ ?_ HC.out (by decide) cons1) ?_
  · exact HD.out.exts HE.out
  rintro e w' ⟨rfl, x9, rfl⟩
  generalize hW3 : wext w9 x9 = W3
  have EW3 := Lib.hid (show Exts W2 W3 by rw [← hW3]; exact HE.out.trans (by repeat (first | exact Exts.refl _ | apply Exts.andR | apply Exts.alloc | apply Exts.wext | apply Exts.drew | apply Exts.drewN)))
  have HX := Lib.hid (HX.out.trans EW3.out)
  have HD := Lib.hid (HD.out.exts EW3.out)
  have HB := Lib.hid (HB.out.exts EW3.out)
  have HF1 := Lib.hid (RowF.exts HF1.out EW3.out)
  have HF2 := Lib.hid (RowF.exts HF2.out EW3.out)
  have HF6 := Lib.hid (HF6.out.exts EW3.out)
  have HF7 := Lib.hid (HF7.out.exts EW3.out)
  have HF8 := Lib.hid (HF8.out.exts EW3.out)
  clear hW3 HC HE EW2
  obtain ⟨xs, hxs⟩ : ∃ xs, RowF (fun _ => True) 3 W3 (.slice (some ⟨w.heap.size + 1 + 1 + 1 + 1 + 1, 0, none⟩) 2 2) 2 xs ∧ (∀ u ∈ xs, u.oneCell' = true) ∧ (∀ (i : Nat) (d : Cs), bO[i]? = some d → ∃ v, xs[i * 3]? = some (.int .i64 d.id) ∧ xs[i * 3 + 1]? = some v ∧ xs[i * 3 + 2]? = some (.bool d.grant) ∧ IntsV W3 v d.vals) := let ⟨q1, q2, xs, q3, q4⟩ := HB.out; ⟨xs, q3, Cases.ones q1 (RowF.len q3) q4, q4⟩
  have HR := Lib.hid hxs.1
  have HONE := Lib.hid hxs.2.1
  have H3 := Lib.hid hxs.2.2
  have HLX := Lib.hid (RowF.len hxs.1)
  clear hxs
  go_wp2_with (first | (at_builtin; refine wpList_append_row rfl (.tmp 123) (.tmp 124) 23 rfl W3.heap.size 33 i0 _ 3 40 Try.underlying23 hi hz0 hz1 hz2 rfl (by decide) _ 0 [] rfl (World.ownsRow_made W3 #[] 0 (Nat.le_refl _) (by decide) rfl) (some ⟨w.heap.size + 1 + 1 + 1 + 1 + 1, 0, none⟩) 2 2 xs rfl (RowF.exts HR.out (by repeat (first | exact Exts.refl _ | apply Exts.andR | apply Exts.alloc | apply Exts.wext | apply Exts.drew | apply Exts.drewN))) HONE.out (by unfold maxLen; omega) (by omega) (by simp <;> omega) ?_; intro ao1 c1 w1 hown1 hg1; simp only [Nat.zero_add, List.nil_append] at hown1; (have HO1 := Lib.hid hown1); (have HX1 := Lib.hid (exts_of_grown (W := W3) (by repeat (first | exact Exts.refl _ | apply Exts.andR | apply Exts.alloc | apply Exts.wext | apply Exts.drew | apply Exts.drewN)) hg1 (fun b hb => by cases hb; simp <;> omega))); clear hown1 hg1) | (at_builtin; refine wpList_append_lies _ rfl (.tmp 125) (.tmp 128) 23 rfl W3.heap.size 33 i0 _ 3 40 Try.underlying23 hi hz0 hz1 hz2 rfl (by decide) (.slice ao1 2 c1) 2 xs rfl (ownsRow_exts HO1.out (by repeat (first | exact Exts.refl _ | apply Exts.andR | apply Exts.alloc | apply Exts.wext | apply Exts.drew | apply Exts.drewN))) ⟨_, 0, none⟩ 1 1 [.int .i64 3, .slice (some ⟨w1.heap.size, 0, none⟩) 2 2, .bool true] rfl rfl (by intro j u hj; match j, hj with | 0, hj => (simp at hj; subst hj; simp [go_sem]) | 1, hj => (simp at hj; subst hj; simp [go_sem]) | 2, hj => (simp at hj; subst hj; simp [go_sem])) (three_one _ _ _ rfl) (by decide) (by unfold maxLen; omega) (by omega) (by have := HX1.out.below.size; simp; omega) _ rfl ?_; intro g2 cg2 w9 hown' hgrow hat hlt') | (go_at_call 19; fail))
  have hE : Exts W3 w9 := exts_of_grown (W := W3) (HX1.out.trans (by repeat (first | exact Exts.refl _ | apply Exts.andR | apply Exts.alloc | apply Exts.wext | apply Exts.drew | apply Exts.drewN))) hgrow (fun b hb => owns_base HO1.out hb)
  have hIV : IntsV w9 (.slice (some ⟨w1.heap.size, 0, none⟩) 2 2) [2, 2] := by
    refine IntsV.grown (e := 33) ?_ ?_ hgrow (TypedBy.of_owns (ownsRow_exts HO1.out (by repeat (first | exact Exts.refl _ | apply Exts.andR | apply Exts.alloc | apply Exts.wext | apply Exts.drew | apply Exts.drewN)))) (by decide)
    · exact intsV_lit (by repeat (first | exact alloc_at _ _ _ (by simp) | refine alloc_below _ _ _ _ (by simp <;> omega) ?_ | fail)) rfl (by decide)
    · exact typed_lit (by repeat (first | exact alloc_at _ _ _ (by simp) | refine alloc_below _ _ _ _ (by simp <;> omega) ?_ | fail))
  have HC := Lib.hid (Cases.snoc (d := ⟨3, [2, 2], true⟩) rfl HB.out.2.1 HLX.out (fun i d hd => let ⟨v, e1, e2, e3, e4⟩ := H3.out i d hd; ⟨v, e1, e2, e3, e4.exts hE⟩) (Exts.refl w9) hIV (by constructor <;> decide) (RowF.of_owns hown'))
  have HE := Lib.hid hE
  clear hE hIV hown' hgrow hat hlt' HO1 HX1 HR HONE H3 HLX
  refine Calls.mono (over19_R (S := fun _ => True) (S1 := fun b => W3.heap.size ≤ b) _ _ _ _ _ _ lO _ 0 _ _ _ _ ?_ HC.out (by decide) ovr1 rfl) ?_
  · exact HD.out.exts HE.out
  rintro e w' ⟨fo10, fc10, rfl, ⟨x10, rfl⟩, hf⟩
  generalize hW4 : wext w9 x10 = W4
  rw [hW4] at hf
  have HF10 := Lib.hid (show Ints (fun _ => True) W4 _ _ _ _ from RowF.mono hf fun _ _ => trivial)
  have EW4 := Lib.hid (show Exts W3 W4 by rw [← hW4]; exact HE.out.trans (by repeat (first | exact Exts.refl _ | apply Exts.andR | apply Exts.alloc | apply Exts.wext | apply Exts.drew | apply Exts.drewN)))
  have HX := Lib.hid (HX.out.trans EW4.out)
  have HD := Lib.hid (HD.out.exts EW4.out)
  have HB := Lib.hid (HB.out.exts EW4.out)
  have HF1 := Lib.hid (RowF.exts HF1.out EW4.out)
  have HF2 := Lib.hid (RowF.exts HF2.out EW4.out)
  have HF6 := Lib.hid (HF6.out.exts EW4.out)
  have HF7 := Lib.hid (HF7.out.exts EW4.out)
  have HF8 := Lib.hid (HF8.out.exts EW4.out)
  clear hW4 hf HC HE EW3
  go_wp2_with (first | (go_at_call 11; fail) | (go_at_call 13; fail) | (go_at_call 15; fail) | (go_at_call 17; fail) | (go_at_call 19; fail) | (go_at_call 21; fail) | (go_at_call 23; fail) | (go_at_call 24; fail))
  refine Calls.mono (cons13_R (S := fun _ => True) (S1 := fun _ => True) _ _ _ _ _ _ lO _ _ _ _ _ ?_ ?_ (by decide) cons2) ?_
  · exact HD.out.exts (by repeat (first | exact Exts.refl _ | apply Exts.andR | apply Exts.alloc | apply Exts.wext | apply Exts.drew | apply Exts.drewN))
  · exact HB.out.exts (by repeat (first | exact Exts.refl _ | apply Exts.andR | apply Exts.alloc | apply Exts.wext | apply Exts.drew | apply Exts.drewN))
  rintro e w' ⟨rfl, x11, rfl⟩
  go_wp2_with (first | (go_at_call 11; fail) | (go_at_call 13; fail) | (go_at_call 15; fail) | (go_at_call 17; fail) | (go_at_call 19; fail) | (go_at_call 21; fail) | (go_at_call 23; fail) | (go_at_call 24; fail))
  refine Calls.mono (ints21_D (S1 := fun _ => True) (S2 := fun _ => True) _ _ _ _ _ _ [0] [0] true _ ?_ ?_ (by decide)) ?_
  · exact RowF.exts HF1.out (by repeat (first | exact Exts.refl _ | apply Exts.andR | apply Exts.alloc | apply Exts.wext | apply Exts.drew | apply Exts.drewN))
  · exact ints_lit (by repeat (first | exact alloc_at _ _ _ (by simp) | refine alloc_below _ _ _ _ (by simp <;> omega) ?_ | fail)) rfl (by decide)
  rintro e w' ⟨rfl, x12, rfl⟩
  go_wp2_with (first | (go_at_call 11; fail) | (go_at_call 13; fail) | (go_at_call 15; fail) | (go_at_call 17; fail) | (go_at_call 19; fail) | (go_at_call 21; fail) | (go_at_call 23; fail) | (go_at_call 24; fail))
  refine Calls.mono (ints21_D (S1 := fun _ => True) (S2 := fun _ => True) _ _ _ _ _ _ [1] [1] true _ ?_ ?_ (by decide)) ?_
  · exact RowF.exts HF2.out (by repeat (first | exact Exts.refl _ | apply Exts.andR | apply Exts.alloc | apply Exts.wext | apply Exts.drew | apply Exts.drewN))
  · exact ints_lit (by repeat (first | exact alloc_at _ _ _ (by simp) | refine alloc_below _ _ _ _ (by simp <;> omega) ?_ | fail)) rfl (by decide)
  rintro e w' ⟨rfl, x13, rfl⟩
  go_wp2_with (first | (go_at_call 11; fail) | (go_at_call 13; fail) | (go_at_call 15; fail) | (go_at_call 17; fail) | (go_at_call 19; fail) | (go_at_call 21; fail) | (go_at_call 23; fail) | (go_at_call 24; fail))
  refine Calls.mono (sameLists23 _ _ _ _ _ [[1]] _ ?_ ?_) ?_
  · exact HF7.out.exts (by repeat (first | exact Exts.refl _ | apply Exts.andR | apply Exts.alloc | apply Exts.wext | apply Exts.drew | apply Exts.drewN))
  · exact lists_one (by repeat (first | exact alloc_at _ _ _ (by simp) | refine alloc_below _ _ _ _ (by simp <;> omega) ?_ | fail)) (intsV_lit (by repeat (first | exact alloc_at _ _ _ (by simp) | refine alloc_below _ _ _ _ (by simp <;> omega) ?_ | fail)) rfl (by decide)) (typed_lit (by repeat (first | exact alloc_at _ _ _ (by simp) | refine alloc_below _ _ _ _ (by simp <;> omega) ?_ | fail)))
  rintro e w' ⟨rfl, x14, rfl⟩
  go_wp2_with (first | (go_at_call 11; fail) | (go_at_call 13; fail) | (go_at_call 15; fail) | (go_at_call 17; fail) | (go_at_call 19; fail) | (go_at_call 21; fail) | (go_at_call 23; fail) | (go_at_call 24; fail))
  refine Calls.mono (sameLists23 _ _ _ _ _ [[0]] _ ?_ ?_) ?_
  · exact HF8.out.exts (by repeat (first | exact Exts.refl _ | apply Exts.andR | apply Exts.alloc | apply Exts.wext | apply Exts.drew | apply Exts.drewN))
  · exact lists_one (by repeat (first | exact alloc_at _ _ _ (by simp) | refine alloc_below _ _ _ _ (by simp <;> omega) ?_ | fail)) (intsV_lit (by repeat (first | exact alloc_at _ _ _ (by simp) | refine alloc_below _ _ _ _ (by simp <;> omega) ?_ | fail)) rfl (by decide)) (typed_lit (by repeat (first | exact alloc_at _ _ _ (by simp) | refine alloc_below _ _ _ _ (by simp <;> omega) ?_ | fail)))
  rintro e w' ⟨rfl, x15, rfl⟩
  go_wp2_with (first | (go_at_call 11; fail) | (go_at_call 13; fail) | (go_at_call 15; fail) | (go_at_call 17; fail) | (go_at_call 19; fail) | (go_at_call 21; fail) | (go_at_call 23; fail) | (go_at_call 24; fail))
  refine Calls.mono (ints21_D (S1 := fun _ => True) (S2 := fun _ => True) _ _ _ _ _ _ [2] [2] true _ ?_ ?_ (by decide)) ?_
  · exact RowF.exts HF10.out (by repeat (first | exact Exts.refl _ | apply Exts.andR | apply Exts.alloc | apply Exts.wext | apply Exts.drew | apply Exts.drewN))
  · exact ints_lit (by repeat (first | exact alloc_at _ _ _ (by simp) | refine alloc_below _ _ _ _ (by simp <;> omega) ?_ | fail)) rfl (by decide)
  rintro e w' ⟨rfl, x16, rfl⟩
  go_wp2_with (first | (go_at_call 11; fail) | (go_at_call 13; fail) | (go_at_call 15; fail) | (go_at_call 17; fail) | (go_at_call 19; fail) | (go_at_call 21; fail) | (go_at_call 23; fail) | (go_at_call 24; fail))
  refine Calls.mono (right24 (S := fun _ => True) (S1 := fun _ => True) _ _ _ _ _ _ lO bO true _ ?_ ?_ (by decide) chkO) ?_
  · exact HD.out.exts (by repeat (first | exact Exts.refl _ | apply Exts.andR | apply Exts.alloc | apply Exts.wext | apply Exts.drew | apply Exts.drewN))
  · exact HB.out.exts (by repeat (first | exact Exts.refl _ | apply Exts.andR | apply Exts.alloc | apply Exts.wext | apply Exts.drew | apply Exts.drewN))
  rintro e w' ⟨rfl, x17, rfl⟩
  go_wp2_with (first | (go_at_call 11; fail) | (go_at_call 13; fail) | (go_at_call 15; fail) | (go_at_call 17; fail) | (go_at_call 19; fail) | (go_at_call 21; fail) | (go_at_call 23; fail) | (go_at_call 24; fail))
  refine Calls.mono (right24 (S := fun _ => True) (S1 := fun _ => True) _ _ _ _ _ _ lO [⟨0, [1], false⟩] false _ ?_ ?_ (by decide) chkX) ?_
  · exact HD.out.exts (by repeat (first | exact Exts.refl _ | apply Exts.andR | apply Exts.alloc | apply Exts.wext | apply Exts.drew | apply Exts.drewN))
  · exact cases_one (by repeat (first | exact alloc_at _ _ _ (by simp) | refine alloc_below _ _ _ _ (by simp <;> omega) ?_ | fail)) (intsV_lit (by repeat (first | exact alloc_at _ _ _ (by simp) | refine alloc_below _ _ _ _ (by simp <;> omega) ?_ | fail)) rfl (by decide)) (by constructor <;> decide)
  rintro e w' ⟨rfl, x18, rfl⟩
  go_wp2
  go_ret
  exact ⟨rfl, HX.out.trans (by repeat (first | exact Exts.refl _ | apply Exts.andR | apply Exts.alloc | apply Exts.wext | apply Exts.drew | apply Exts.drewN))⟩
end Go.Proofs.Ytodgohilfbggjaa

/- cases and Add of the reference of chapter 39. No condition but at most 100 cases. -/
namespace Go.Proofs.Ytodgohilfbggjaa
open Go.RowKit Go.Maps
set_option linter.unusedSimpArgs false
set_option linter.unusedVariables false
set_option maxRecDepth 100000
set_option maxHeartbeats 4000000
theorem cases46 {S : Nat → Prop} (bo : Option Addr) (n c : Nat) (B : List Cs) (w : World) (hb : Cases S w bo n c B) (hv : ∀ x ∈ B, x.vals.length ≤ 1000) (hn : n ≤ 101) :
    Calls Try.prog 46 #[.slice bo n c] w fun e w' => ∃ ro rc, e = .returned (.slice ro n rc) ∧ Exts w w' ∧ Cases (fun b => w.heap.size ≤ b) w' ro n rc B := by
  obtain ⟨i0, hi, hz0, hz1, hz2⟩ := info_parts info33
  obtain ⟨i1, hi1, hy0, hy1, hy2⟩ := info_parts info3
  have HL := Lib.hid hb.1
  have HI := Lib.hid hb.2.1
  have HB := Lib.hid hb
  have HV := Lib.hid hv
  clear hb hv
  go_enter Try.func46, Try.ntmps46
  go_wp2
  go_loopw [3, 4] (fun o i wr => ∃ (k : Nat) (xs : List Value), k ≤ n ∧ i = .int .i64 k ∧ Exts w wr ∧ wr.ownsRow w.heap.size 33 3 o k xs ∧ CasesIn wr xs (B.take k)) (fun _ i _ => n - (intOf i).toNat)
  case atStart => exact ⟨0, [], by omega, rfl, Exts.refl _, World.ownsRow_nil _ _ _ _, ⟨by simp, fun i d hd => by simp at hd⟩⟩
  case round =>
    obtain ⟨k, xs, hk, rfl, hx, hown, hci⟩ := hrel
    have HX2 := Lib.hid hx
    have HBS := Lib.hid (show w.heap.size ≤ wr.heap.size from hx.below.size)
    have HO := Lib.hid hown
    have HCI := Lib.hid hci
    obtain ⟨oo, oc, rfl⟩ := owns_shape hown
    by_cases hlt : k < n
    · obtain ⟨b, off, id, vs, gr, vo, vc, rfl, lb, hc, e0, e1, e2, hvs, hid⟩ := (HB.out.exts hx).get hlt
      have hvs0 := hvs.nle
      have HVS := Lib.hid hvs
      have G0 := Lib.hid e0
      have G1 := Lib.hid e1
      have G2 := Lib.hid e2
      have HBW := Lib.hid (show b < w.heap.size from by
        obtain ⟨b', _, _, _, _, _, _, h1, h2, _⟩ := HB.out.get hlt
        cases h1
        exact h2)
      have HC := Lib.hid hc
      have hvl : vs.length ≤ 1000 := HV.out _ (List.mem_of_getElem? hc)
      clear hvs hc hid hx hown hci e0 e1 e2
      have hk0 : (0 : Int) ≤ (k : Int) := by omega
      have hk1 : (k : Int) < (n : Int) := by omega
      go_wp2
      have NE := Lib.hid (show some b ≠ (Value.slice oo k oc).ownBlock from fun h => by
        have h1 := (HO.out.lt b h.symm).1
        have h2 := HBW.out
        omega)
      go_region_held3 (fun w' => w'.cell? ⟨b, off + k * 3, none⟩ = some (.int .i64 id) ∧ w'.cell? ⟨b, off + k * 3 + 1, none⟩ = some (.slice vo vs.length vc) ∧ w'.cell? ⟨b, off + k * 3 + 2, none⟩ = some (.bool gr)) (first | exact ⟨World.grownBy.cell hgrow (Exts.cell (by repeat (first | exact Exts.refl _ | apply Exts.andR | apply Exts.alloc | apply Exts.wext | apply Exts.drew | apply Exts.drewN)) G0.out) NE.out, World.grownBy.cell hgrow (Exts.cell (by repeat (first | exact Exts.refl _ | apply Exts.andR | apply Exts.alloc | apply Exts.wext | apply Exts.drew | apply Exts.drewN)) G1.out) NE.out, World.grownBy.cell hgrow (Exts.cell (by repeat (first | exact Exts.refl _ | apply Exts.andR | apply Exts.alloc | apply Exts.wext | apply Exts.drew | apply Exts.drewN)) G2.out) NE.out⟩ | exact ⟨Exts.cell (by repeat (first | exact Exts.refl _ | apply Exts.andR | apply Exts.alloc | apply Exts.wext | apply Exts.drew | apply Exts.drewN)) G0.out, Exts.cell (by repeat (first | exact Exts.refl _ | apply Exts.andR | apply Exts.alloc | apply Exts.wext | apply Exts.drew | apply Exts.drewN)) G1.out, Exts.cell (by repeat (first | exact Exts.refl _ | apply Exts.andR | apply Exts.alloc | apply Exts.wext | apply Exts.drew | apply Exts.drewN)) G2.out⟩) ((first | (refine step_append_empty rfl (.tmp 17) (.tmp 22) 24 rfl 3 i1 _ 1 8 Try.underlying24 hi1 hy0 hy1 hy2 rfl (by decide) _ rfl vo vs.length vc (intsC vs) rfl (RowF.exts HVS.out (by repeat (first | exact Exts.refl _ | apply Exts.andR | apply Exts.alloc | apply Exts.wext | apply Exts.drew | apply Exts.drewN))) (int_all vs) (by unfold maxLen; omega) (by omega) ?_; rintro va na w' ⟨xa, rfl⟩ ra ta) | (refine step_append_lies _ rfl (.tmp 11) (.tmp 30) 23 rfl w.heap.size 33 i0 _ 3 40 Try.underlying23 hi hz0 hz1 hz2 rfl (by decide) (.slice oo k oc) k xs rfl (ownsRow_exts HO.out (by repeat (first | exact Exts.refl _ | apply Exts.andR | apply Exts.alloc | apply Exts.wext | apply Exts.drew | apply Exts.drewN))) ⟨_, 0, none⟩ 1 1 [.int .i64 id, .slice va vs.length na, .bool gr] rfl rfl (by intro j u hj; match j, hj with | 0, hj => (simp at hj; subst hj; simp [go_sem]) | 1, hj => (simp at hj; subst hj; simp [go_sem]) | 2, hj => (simp at hj; subst hj; simp [go_sem])) (three_one _ _ _ rfl) (by decide) (by unfold maxLen; omega) (by omega) (by have := HBS.out; simp; omega) _ rfl ?_; intro g2 cg2 w9 hown' hgrow hat hlt')))
      all_goals
        go_wp2
        simp only [wext_and, wext_of_drew] at ra ta
        refine ⟨⟨k + 1, _, by omega, by go_num, exts_of_grown (W := w) (HX2.out.trans (by repeat (first | exact Exts.refl _ | apply Exts.andR | apply Exts.alloc | apply Exts.wext | apply Exts.drew | apply Exts.drewN))) hgrow (fun b hb => owns_base HO.out hb), hown', ?_⟩, ?_⟩
        · have := HCI.out.step (c := ⟨id, vs, gr⟩) HO.out (V := _) ?_ (RowF.exts ra (by repeat (first | exact Exts.refl _ | apply Exts.andR | apply Exts.alloc | apply Exts.wext | apply Exts.drew | apply Exts.drewN))) rfl (ta.symm.imp (fun h => TypedBy.exts (e := 3) h (by repeat (first | exact Exts.refl _ | apply Exts.andR | apply Exts.alloc | apply Exts.wext | apply Exts.drew | apply Exts.drewN))) fun h => List.eq_nil_of_length_eq_zero h) hgrow
          · rw [List.take_add_one, HC.out]
            exact this
          · exact (by repeat (first | exact Exts.refl _ | apply Exts.andR | apply Exts.alloc | apply Exts.wext | apply Exts.drew | apply Exts.drewN))
        · simp [intOf]; omega
    · obtain rfl : k = n := by omega
      have htk : B.take k = B := List.take_of_length_le (by rw [HL.out]; exact Nat.le_refl _)
      rw [htk] at hci
      have HCI2 := Lib.hid hci
      clear htk hx hown hci
      go_wp2
      go_ret
      refine ⟨oo, oc, rfl, HX2.out, ?_⟩
      exact HCI2.out.cases HO.out HL.out HI.out
end Go.Proofs.Ytodgohilfbggjaa
