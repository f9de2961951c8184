/- Lemmas that the laws of this seat share, 4 texts in one: HearI, HearJ, HearK, HearL. No condition of their own. -/
import Derived.Test.YtgmjcgjbbogefaaGreatM4
import Derived.Test.YtgmjcgjbbogefaaGreatM13
/- parcel.clone, Find, Near on the two lots of the example. -/
namespace Go.Proofs.YtgmjcgjbbogefaaGreat
open Go.RowKit Go.Maps
set_option linter.unusedSimpArgs false
set_option linter.unusedVariables false
set_option maxRecDepth 100000
set_option maxHeartbeats 4000000
theorem clone117 {S : Nat → Prop} (ao : Option Addr) (c : Nat) (x0 x1 : Int) (w : World) (h : RowF S 4 w (.slice ao 1 c) 1 (recV x0 x1)) :
    Calls Tryz.prog 117 #[.slice ao 1 c] w fun e w' => ∃ ao' c', e = .returned (.slice ao' 1 c') ∧ Exts w w' ∧ RowF (fun b => w.heap.size ≤ b) 4 w' (.slice ao' 1 c') 1 (recV x0 x1) := by
  obtain ⟨i0, hi, hz0, hz1, hz2⟩ := info_parts info41
  obtain ⟨b, off, rfl, lb, hc⟩ := rowF_at h
  have e := fun w => Lib.run_eql_slice_nil (P := Tryz.prog) w 42 41 (some ⟨b, off, none⟩) 1 c 0 0 Tryz.underlying42
  have hx : ∀ j u, (recV x0 x1)[j]? = some u → (w.alloc (.cells #[] 41)).cell? (Addr.add ⟨b, off, none⟩ j) = some u := by
    intro j u hj
    rw [Addr.add_lit, World.cell?_alloc_lt _ _ _ lb]
    exact hc j u hj
  clear hc h
  go_enter Tryz.func117, Tryz.ntmps117
  go_wp2_with (at_builtin; refine wpList_append_own _ rfl _ _ 42 rfl w.heap.size 41 i0 _ 4 32 Tryz.underlying42 hi hz0 hz1 hz2 rfl (by decide) _ 0 [] rfl (World.ownsRow_made w #[] 0 (Nat.le_refl _) (by decide) rfl) ⟨b, off, none⟩ 1 c (recV x0 x1) rfl rfl hx (rect_one _ _) (by unfold maxLen; omega) (by omega) (by simp) ?_; intro v' w1 hown hgrow hnil)
  go_ret
  simp only [Nat.zero_add, List.nil_append] at hown
  have hrow := RowF.of_owns hown
  obtain ⟨_, ao', c', rfl, _⟩ := id hrow
  exact ⟨ao', c', rfl, exts_of_grown ((Exts.refl w).alloc _) hgrow (fun b hb => by cases hb; exact Nat.le_refl _), hrow⟩
theorem clone82 {S : Nat → Prop} (id ow : Int) (ao : Option Addr) (c : Nat) (x0 x1 : Int) (w : World) (h : RowF S 4 w (.slice ao 1 c) 1 (recV x0 x1)) :
    Calls Tryz.prog 82 #[.agg #[.int .i64 id, .int .i64 ow, .slice ao 1 c, .slice none 0 0]] w fun e w' => ∃ ao' c' fo fc, e = .returned (.agg #[.int .i64 id, .int .i64 ow, .slice ao' 1 c', .slice fo 0 fc]) ∧ Exts w w' ∧ RowF (fun b => w.heap.size ≤ b) 4 w' (.slice ao' 1 c') 1 (recV x0 x1) := by
  have HR := Lib.hid h
  clear h
  go_enter Tryz.func82, Tryz.ntmps82
  go_wp2_with (first | (go_at_call 117; fail))
  go_region_with (first | (go_at_call 117; ((with_reducible refine (clone117 _ _ x0 x1 _ (RowF.exts HR.out (by repeat (first | exact Exts.refl _ | apply Exts.andR | apply Exts.alloc | apply Exts.wext | apply Exts.drew | apply Exts.drewN)))).mono ?_); rintro e w' ⟨ao1, cc1, rfl, ⟨y1, rfl⟩, ho⟩; (have HO := Lib.hid ho); clear ho)) | (go_at_call 20; ((with_reducible refine (clone56 _ 0 [] _ (RowF.nil (fun _ => True) 1 _) (by simp) (by omega)).mono ?_); rintro e w' ⟨ao2, cc2, rfl, ⟨y2, rfl⟩, ho2, ht2⟩; clear ho2 ht2)))
  all_goals (
    have HO2 := HO.out.keeps (w' := wext ((w.alloc (.cells #[.int .i64 id, .int .i64 ow, .slice ao1 1 cc1, .slice ao2 0 cc2] 44)).alloc (.cells #[.int .i64 id, .int .i64 ow, .slice ao1 1 cc1, .slice ao2 0 cc2] 44)) y1) (Keeps.base rfl (by simp))
    have HO3 := Lib.hid (RowF.exts (w' := wext ((w.alloc (.cells #[.int .i64 id, .int .i64 ow, .slice ao1 1 cc1, .slice ao2 0 cc2] 44)).alloc (.cells #[.int .i64 id, .int .i64 ow, .slice ao1 1 cc1, .slice ao2 0 cc2] 44)) (y1.and y2)) (RowF.up (HO2) (show w.heap.size ≤ _ by simp <;> omega)) (by repeat (first | exact Exts.refl _ | apply Exts.andR | apply Exts.alloc | apply Exts.wext | apply Exts.drew | apply Exts.drewN)))
    clear HO2
    go_wp2
    refine bodyPost_ret (v := .agg #[.int .i64 id, .int .i64 ow, .slice ao1 1 cc1, .slice ao2 0 cc2]) (by simp [results, go_sem]) rfl ⟨ao1, cc1, ao2, cc2, rfl, (by repeat (first | exact Exts.refl _ | apply Exts.andR | apply Exts.alloc | apply Exts.wext | apply Exts.drew | apply Exts.drewN)), ?_⟩
    exact HO3.out)
def landC (a1 a2 : Nat) : List Value := [.int .i64 1, .int .i64 1, .slice (some ⟨a1, 0, none⟩) 1 1, .slice none 0 0, .int .i64 2, .int .i64 2, .slice (some ⟨a2, 0, none⟩) 1 1, .slice none 0 0]
/-- The land of the example. -/
def LandW (w : World) (lb a1 a2 : Nat) : Prop := (∀ i v, (landC a1 a2)[i]? = some v → w.cell? ⟨lb, i, none⟩ = some v) ∧ RowF (fun _ => True) 4 w (.slice (some ⟨a1, 0, none⟩) 1 1) 1 (recV 0 4) ∧ RowF (fun _ => True) 4 w (.slice (some ⟨a2, 0, none⟩) 1 1) 1 (recV 4 8)
theorem LandW.exts {w w' : World} {lb a1 a2 : Nat} (h : LandW w lb a1 a2) (he : Exts w w') : LandW w' lb a1 a2 :=
  ⟨fun i v hi => Exts.cell he (h.1 i v hi), h.2.1.exts he, h.2.2.exts he⟩
theorem find55_1 (lb a1 a2 : Nat) (w : World) (h : LandW w lb a1 a2) :
    Calls Tryz.prog 55 #[.slice (some ⟨lb, 0, none⟩) 2 2, .int .i64 1] w fun e w' => ∃ ao c fo fc, e = .returned (.tuple #[.agg #[.int .i64 1, .int .i64 1, .slice ao 1 c, .slice fo 0 fc], .bool true]) ∧ Exts w w' ∧ RowF (fun _ => True) 4 w' (.slice ao 1 c) 1 (recV 0 4) := by
  have c0 := h.1 0 _ rfl
  have c1 := h.1 1 _ rfl
  have c2 := h.1 2 _ rfl
  have c3 := h.1 3 _ rfl
  have l : lb < w.heap.size := World.block_lt_of_cell? w _ c0
  have H1 := Lib.hid h.2.1
  clear h
  go_enter Tryz.func55, Tryz.ntmps55
  go_wp2_with (first | (refine wp_loop_rounds 6 ?_; rw [rounds_succ]) | (rw [rounds_succ]) | (go_at_call 82; ((with_reducible refine (clone82 _ _ _ _ 0 4 _ (RowF.exts H1.out (by repeat (first | exact Exts.refl _ | apply Exts.andR | apply Exts.alloc | apply Exts.wext | apply Exts.drew | apply Exts.drewN)))).mono ?_); rintro e w' ⟨ao, c, fo, fc, rfl, ⟨y1, rfl⟩, ho⟩; (have HO := Lib.hid ho); clear ho)))
  refine bodyPost_ret (v := .tuple #[.agg #[.int .i64 1, .int .i64 1, .slice ao 1 c, .slice fo 0 fc], .bool true]) (by simp [results, go_sem]) rfl ⟨ao, c, fo, fc, rfl, (by repeat (first | exact Exts.refl _ | apply Exts.andR | apply Exts.alloc | apply Exts.wext | apply Exts.drew | apply Exts.drewN)), ?_⟩
  refine RowF.mono (RowF.keeps HO.out (Keeps.base (by simp) (by simp))) fun _ _ => trivial
theorem find55_2 (lb a1 a2 : Nat) (w : World) (h : LandW w lb a1 a2) :
    Calls Tryz.prog 55 #[.slice (some ⟨lb, 0, none⟩) 2 2, .int .i64 2] w fun e w' => ∃ ao c fo fc, e = .returned (.tuple #[.agg #[.int .i64 2, .int .i64 2, .slice ao 1 c, .slice fo 0 fc], .bool true]) ∧ Exts w w' ∧ RowF (fun _ => True) 4 w' (.slice ao 1 c) 1 (recV 4 8) := by
  have c0 := h.1 0 _ rfl
  have c1 := h.1 1 _ rfl
  have c2 := h.1 2 _ rfl
  have c3 := h.1 3 _ rfl
  have c4 := h.1 4 _ rfl
  have c5 := h.1 5 _ rfl
  have c6 := h.1 6 _ rfl
  have c7 := h.1 7 _ rfl
  have l : lb < w.heap.size := World.block_lt_of_cell? w _ c0
  have H1 := Lib.hid h.2.2
  clear h
  go_enter Tryz.func55, Tryz.ntmps55
  go_wp2_with (first | (refine wp_loop_rounds 6 ?_; rw [rounds_succ]) | (rw [rounds_succ]) | (go_at_call 82; ((with_reducible refine (clone82 _ _ _ _ 4 8 _ (RowF.exts H1.out (by repeat (first | exact Exts.refl _ | apply Exts.andR | apply Exts.alloc | apply Exts.wext | apply Exts.drew | apply Exts.drewN)))).mono ?_); rintro e w' ⟨ao, c, fo, fc, rfl, ⟨y1, rfl⟩, ho⟩; (have HO := Lib.hid ho); clear ho)))
  refine bodyPost_ret (v := .tuple #[.agg #[.int .i64 2, .int .i64 2, .slice ao 1 c, .slice fo 0 fc], .bool true]) (by simp [results, go_sem]) rfl ⟨ao, c, fo, fc, rfl, (by repeat (first | exact Exts.refl _ | apply Exts.andR | apply Exts.alloc | apply Exts.wext | apply Exts.drew | apply Exts.drewN)), ?_⟩
  refine RowF.mono (RowF.keeps HO.out (Keeps.base (by simp) (by simp))) fun _ _ => trivial
end Go.Proofs.YtgmjcgjbbogefaaGreat

/- notice: row, Days, Distance at a plan without tables. -/
namespace Go.Proofs.YtgmjcgjbbogefaaGreat
open Go.RowKit Go.Maps
set_option linter.unusedSimpArgs false
set_option linter.unusedVariables false
set_option maxRecDepth 100000
set_option maxHeartbeats 4000000
theorem index113 (f : Value) (w : World) : Calls Tryz.prog 113 #[.slice none 0 0, f] w fun e w' => e = .returned (.int .i64 (-1)) ∧ Exts w w' := by
  go_enter Tryz.func113, Tryz.ntmps113
  go_wp2_with (first | (refine wp_loop_rounds 6 ?_; rw [rounds_succ]) | (rw [rounds_succ]))
  go_ret
  exact ⟨rfl, (by repeat (first | exact Exts.refl _ | apply Exts.andR | apply Exts.alloc | apply Exts.wext | apply Exts.drew | apply Exts.drewN))⟩
theorem row81 (s : ByteArray) (w : World) : Calls Tryz.prog 81 #[.agg #[.slice none 0 0, .slice none 0 0, .slice none 0 0, .slice none 0 0, .slice none 0 0, .slice none 0 0, .slice none 0 0, .int .i64 0], .string s] w fun e w' => e = .returned (.int .i64 0) ∧ Exts w w' := by
  go_enter Tryz.func81, Tryz.ntmps81
  go_wp2_with (first | (go_at_call 113; ((with_reducible refine (index113 _ _).mono ?_); rintro e w' ⟨rfl, y1, rfl⟩)))
  go_ret
  exact ⟨rfl, (by repeat (first | exact Exts.refl _ | apply Exts.andR | apply Exts.alloc | apply Exts.wext | apply Exts.drew | apply Exts.drewN))⟩
theorem days54 (w : World) : Calls Tryz.prog 54 #[.agg #[.slice none 0 0, .slice none 0 0, .slice none 0 0, .slice none 0 0, .slice none 0 0, .slice none 0 0, .slice none 0 0, .int .i64 0]] w fun e w' => e = .returned (.int .i64 0) ∧ Exts w w' := by
  go_enter Tryz.func54, Tryz.ntmps54
  go_wp2_with (first | (go_at_call 81; ((with_reducible refine (row81 _ _).mono ?_); rintro e w' ⟨rfl, y1, rfl⟩)))
  go_ret
  exact ⟨rfl, (by repeat (first | exact Exts.refl _ | apply Exts.andR | apply Exts.alloc | apply Exts.wext | apply Exts.drew | apply Exts.drewN))⟩
def volC : List Value := [.int .i64 1, .int .i64 1, .int .i64 3, .int .i64 3, .int .i64 0, .int .i64 3, .int .i64 1, .int .i64 0, .bool false]
/-- The drawing of the example. -/
def HouseW (w : World) (pb vb : Nat) : Prop := (∀ i v, ([.slice (some ⟨vb, 0, none⟩) 1 1, .slice none 0 0] : List Value)[i]? = some v → w.cell? ⟨pb, i, none⟩ = some v) ∧ ∀ i v, volC[i]? = some v → w.cell? ⟨vb, i, none⟩ = some v
theorem HouseW.exts {w w' : World} {pb vb : Nat} (h : HouseW w pb vb) (he : Exts w w') : HouseW w' pb vb := ⟨fun i v hi => Exts.cell he (h.1 i v hi), fun i v hi => Exts.cell he (h.2 i v hi)⟩
theorem distance119 (pb vb : Nat) (w : World) (h : HouseW w pb vb) : Calls Tryz.prog 119 #[.agg #[.slice none 0 0, .slice none 0 0, .slice none 0 0, .slice none 0 0, .slice none 0 0, .slice none 0 0, .slice none 0 0, .int .i64 0], .agg #[.int .i64 1, .slice (some ⟨pb, 0, none⟩) 1 1]] w fun e w' => e = .returned (.int .i64 0) ∧ Exts w w' := by
  have p0 := h.1 0 _ rfl
  have p1 := h.1 1 _ rfl
  have v0 := h.2 0 _ rfl
  have v1 := h.2 1 _ rfl
  have v2 := h.2 2 _ rfl
  have v3 := h.2 3 _ rfl
  have v4 := h.2 4 _ rfl
  have v5 := h.2 5 _ rfl
  have v6 := h.2 6 _ rfl
  have v7 := h.2 7 _ rfl
  have v8 := h.2 8 _ rfl
  have lp : pb < w.heap.size := World.block_lt_of_cell? w _ p0
  have lv : vb < w.heap.size := World.block_lt_of_cell? w _ v0
  clear h
  go_enter Tryz.func119, Tryz.ntmps119
  go_wp2_with (first | (refine wp_loop_rounds 6 ?_; rw [rounds_succ]) | (rw [rounds_succ]) | (go_at_call 81; ((with_reducible refine (row81 _ _).mono ?_); rintro e w' ⟨rfl, y1, rfl⟩)))
  first | refine wp_region_ext_lit2 (by kernel_rfl) (by kernel_rfl) ?_ | refine wp_region_ext_lit (by kernel_rfl) (by kernel_rfl) ?_
  repeat (go_big_quiet_step (((first | (go_at_call 81; exact Calls.ext_of (row81 _ _))))))
  refine wpQuiet_nil ?_
  intro _ hwq'
  obtain ⟨xq, hwq''⟩ := hwq'
  subst hwq''
  go_wp2_with (first | (refine wp_loop_rounds 6 ?_; rw [rounds_succ]) | (rw [rounds_succ]))
  go_ret
  exact ⟨rfl, (by repeat (first | exact Exts.refl _ | apply Exts.andR | apply Exts.alloc | apply Exts.wext | apply Exts.drew | apply Exts.drewN))⟩
end Go.Proofs.YtgmjcgjbbogefaaGreat

/- parcel.Near on the two lots of the example. -/
namespace Go.Proofs.YtgmjcgjbbogefaaGreat
open Go.RowKit Go.Maps
set_option linter.unusedSimpArgs false
set_option linter.unusedVariables false
set_option maxRecDepth 100000
set_option maxHeartbeats 8000000
theorem info42 : (Tryz.prog.info? 42).map (fun i => (i.zero, i.size, i.bytes)) = some (some (.slice none 0 0), 1, 24) := by kernel_rfl
theorem near118 (lb a1 a2 : Nat) (w : World) (h : LandW w lb a1 a2) :
    Calls Tryz.prog 118 #[.slice (some ⟨lb, 0, none⟩) 2 2, .int .i64 1, .int .i64 0] w fun e w' => ∃ ao c, e = .returned (.slice ao 1 c) ∧ Exts w w' ∧ RowF (fun _ => True) 1 w' (.slice ao 1 c) 1 [.int .i64 2] := by
  obtain ⟨i0, hi, hz0, hz1, hz2⟩ := info_parts info42
  have c0 := h.1 0 _ rfl
  have c1 := h.1 1 _ rfl
  have c2 := h.1 2 _ rfl
  have c3 := h.1 3 _ rfl
  have c4 := h.1 4 _ rfl
  have c5 := h.1 5 _ rfl
  have c6 := h.1 6 _ rfl
  have c7 := h.1 7 _ rfl
  have l : lb < w.heap.size := World.block_lt_of_cell? w _ c0
  have H := Lib.hid h
  have HK1 := Lib.hid (show RecOk 0 4 from .inl ⟨rfl, rfl⟩)
  have HK2 := Lib.hid (show RecOk 4 8 from .inr ⟨rfl, rfl⟩)
  clear h
  go_enter Tryz.func118, Tryz.ntmps118
  go_wp2_with (first | (refine wp_loop_rounds 6 ?_; rw [rounds_succ]) | (rw [rounds_succ]) | (go_at_call 55; ((with_reducible refine (find55_1 lb a1 a2 _ (H.out.exts (by repeat (first | exact Exts.refl _ | apply Exts.andR | apply Exts.alloc | apply Exts.wext | apply Exts.drew | apply Exts.drewN)))).mono ?_); rintro e w' ⟨ao, c, fo, fc, rfl, ⟨y1, rfl⟩, ho⟩; (have HO := Lib.hid ho); clear ho)) | (at_builtin; refine wpList_append_lies _ rfl _ _ 246 rfl w.heap.size 42 i0 _ 1 24 Tryz.underlying246 hi hz0 hz1 hz2 rfl (by decide) (.slice none 0 0) 0 [] rfl (World.ownsRow_nil _ _ _ _) ⟨_, 0, none⟩ 1 1 [.slice (some ⟨a1, 0, none⟩) 1 1] rfl rfl (by intro j u hj; match j, hj with | 0, hj => (simp at hj; subst hj; simp [go_sem])) (by simp [Value.oneCell']) (by decide) (by unfold maxLen; omega) (by omega) (by simp <;> omega) _ rfl ?_; intro g1 cg1 w1 hown1 hgrow1 hat1 hlt1; (have hE1 := exts_of_grown (W := w) (by repeat (first | exact Exts.refl _ | apply Exts.andR | apply Exts.alloc | apply Exts.wext | apply Exts.drew | apply Exts.drewN)) hgrow1 (fun b hb => by cases hb)); (have d0 := Exts.cell hE1 c0); (have d1 := Exts.cell hE1 c1); (have d2 := Exts.cell hE1 c2); (have d3 := Exts.cell hE1 c3); (have d4 := Exts.cell hE1 c4); (have d5 := Exts.cell hE1 c5); (have d6 := Exts.cell hE1 c6); (have d7 := Exts.cell hE1 c7); (have l1 : lb < w1.heap.size := World.block_lt_of_cell? w1 _ d0); (have b2 : w1.cell? ⟨w.heap.size + y1.bs.size, 2, none⟩ = some (.slice ao 1 c) := World.grownBy.cell hgrow1 (by simp [go_sem]) (fun h => by cases h)); (have lt2 : w.heap.size + y1.bs.size < w1.heap.size := World.block_lt_of_cell? w1 _ b2); (have hg1 := hat1.resolve_left (fun h => by cases h)); (have n2 : w.heap.size + y1.bs.size < g1 := by rw [hg1]; simp <;> omega); (have n1 : lb < g1 := by omega); (simp only [Nat.zero_add, List.nil_append] at hown1); (have HY1 := Lib.hid (exts_of_grown (W := wext w y1) (by repeat (first | exact Exts.refl _ | apply Exts.andR | apply Exts.alloc | apply Exts.wext | apply Exts.drew | apply Exts.drewN)) hgrow1 (fun b hb => by cases hb))); (have HE1 := Lib.hid hE1); (have HO1 := Lib.hid hown1); (have HG1 := Lib.hid (show w.heap.size ≤ g1 by omega)); clear hE1 hown1 hgrow1 hat1 hlt1 hg1) | (at_builtin; refine wpList_append_lies _ rfl _ _ 246 rfl w.heap.size 42 i0 _ 1 24 Tryz.underlying246 hi hz0 hz1 hz2 rfl (by decide) (.slice (some ⟨g1, 0, none⟩) 1 cg1) 1 [.slice (some ⟨a1, 0, none⟩) 1 1] rfl (ownsRow_exts HO1.out (by repeat (first | exact Exts.refl _ | apply Exts.andR | apply Exts.alloc | apply Exts.wext | apply Exts.drew | apply Exts.drewN))) ⟨_, 0, none⟩ 1 1 [.slice (some ⟨a2, 0, none⟩) 1 1] rfl rfl (by intro j u hj; match j, hj with | 0, hj => (simp at hj; subst hj; simp [go_sem])) (by simp [Value.oneCell']) (by decide) (by unfold maxLen; omega) (by omega) (by have := HE1.out.below.size; simp <;> omega) _ rfl ?_; intro g2 cg2 w2 hown2 hgrow2 hat2 hlt2; (have hE2 := exts_of_grown (W := w) (HE1.out.trans (by repeat (first | exact Exts.refl _ | apply Exts.andR | apply Exts.alloc | apply Exts.wext | apply Exts.drew | apply Exts.drewN))) hgrow2 (fun b hb => by cases hb; exact HG1.out)); (have f0 := Exts.cell hE2 c0); (have f1 := Exts.cell hE2 c1); (have f2 := Exts.cell hE2 c2); (have f3 := Exts.cell hE2 c3); (have f4 := Exts.cell hE2 c4); (have f5 := Exts.cell hE2 c5); (have f6 := Exts.cell hE2 c6); (have f7 := Exts.cell hE2 c7); (have l2 : lb < w2.heap.size := World.block_lt_of_cell? w2 _ f0); (have b3 : w2.cell? ⟨w.heap.size + y1.bs.size, 2, none⟩ = some (.slice ao 1 c) := World.grownBy.cell hgrow2 (Exts.cell (w := w1) (by repeat (first | exact Exts.refl _ | apply Exts.andR | apply Exts.alloc | apply Exts.wext | apply Exts.drew | apply Exts.drewN)) b2) (fun h => absurd (Option.some.inj h) (Nat.ne_of_lt n2))); (have lt3 : w.heap.size + y1.bs.size < w2.heap.size := World.block_lt_of_cell? w2 _ b3); (simp only [List.cons_append, List.nil_append] at hown2); (have HY2 := Lib.hid (exts_of_grown (W := wext w y1) (HY1.out.trans (by repeat (first | exact Exts.refl _ | apply Exts.andR | apply Exts.alloc | apply Exts.wext | apply Exts.drew | apply Exts.drewN))) hgrow2 (fun b hb => by cases hb; simp; omega))); (have HAR := Lib.hid (RowF.exts HO.out HY2.out)); (have HL1 := Lib.hid (H.out.exts hE2).2.1); (have HL2 := Lib.hid (H.out.exts hE2).2.2); (have HE2 := Lib.hid hE2); (have HO2 := Lib.hid hown2); (have k0 := own_cell' hown2 (j := 0) rfl); (have k1 := own_cell' hown2 (j := 1) rfl); (have lg2 : g2 < w2.heap.size := World.block_lt_of_cell? w2 _ k0); clear hE2 hown2 hgrow2 hat2 hlt2) | (go_at_call 155; ((with_reducible refine (gap155 _ (some ⟨a1, 0, none⟩) _ _ 0 4 HK1.out _ (RowF.exts HAR.out (by repeat (first | exact Exts.refl _ | apply Exts.andR | apply Exts.alloc | apply Exts.wext | apply Exts.drew | apply Exts.drewN))) (RowF.exts HL1.out (by repeat (first | exact Exts.refl _ | apply Exts.andR | apply Exts.alloc | apply Exts.wext | apply Exts.drew | apply Exts.drewN)))).mono ?_); rintro e w' ⟨rfl, y2, rfl⟩)) | (go_at_call 155; ((with_reducible refine (gap155 _ (some ⟨a2, 0, none⟩) _ _ 4 8 HK2.out _ (RowF.exts HAR.out (by repeat (first | exact Exts.refl _ | apply Exts.andR | apply Exts.alloc | apply Exts.wext | apply Exts.drew | apply Exts.drewN))) (RowF.exts HL2.out (by repeat (first | exact Exts.refl _ | apply Exts.andR | apply Exts.alloc | apply Exts.wext | apply Exts.drew | apply Exts.drewN)))).mono ?_); rintro e w' ⟨rfl, y3, rfl⟩)) | (go_at_call 85; ((with_reducible refine (sort85_1 _ _ _).mono ?_); rintro e w' ⟨rfl, y4, rfl⟩)) | (go_at_call 86; ((with_reducible refine (compact86_1 _ _ _).mono ?_); rintro e w' ⟨rfl, y5, rfl⟩)))
  go_ret
  refine ⟨_, _, rfl, HE2.out.trans (by repeat (first | exact Exts.refl _ | apply Exts.andR | apply Exts.alloc | apply Exts.wext | apply Exts.drew | apply Exts.drewN)), rowF_cells rfl (cut_ge _ _ _ _) (cut_le _ _ _ _ (by unfold maxLen; omega)) (by simp <;> omega) fun t v ht => ?_⟩
  match t, ht with
  | 0, ht => (simp at ht; subst ht; simp [go_sem])
end Go.Proofs.YtgmjcgjbbogefaaGreat

/- notice: Lots, Owners, May on the example. -/
namespace Go.Proofs.YtgmjcgjbbogefaaGreat
open Go.RowKit Go.Maps
set_option linter.unusedSimpArgs false
set_option linter.unusedVariables false
set_option maxRecDepth 100000
set_option maxHeartbeats 8000000
theorem lots84 (lb a1 a2 pb vb : Nat) (w : World) (h : LandW w lb a1 a2) (hh : HouseW w pb vb) :
    Calls Tryz.prog 84 #[.agg #[.slice none 0 0, .slice none 0 0, .slice none 0 0, .slice none 0 0, .slice none 0 0, .slice none 0 0, .slice none 0 0, .int .i64 0, .slice (some ⟨lb, 0, none⟩) 2 2, .slice none 0 0, .slice none 0 0, .slice none 0 0, .slice none 0 0], .agg #[.int .i64 1, .slice (some ⟨pb, 0, none⟩) 1 1]] w fun e w' => ∃ ao c, e = .returned (.slice ao 1 c) ∧ Exts w w' ∧ RowF (fun _ => True) 1 w' (.slice ao 1 c) 1 [.int .i64 2] := by
  have H := Lib.hid h
  have HH := Lib.hid hh
  clear h hh
  go_enter Tryz.func84, Tryz.ntmps84
  go_wp2_with (first | (go_at_call 119; fail))
  refine wp_name ?_
  intro W3 hW3
  have HX3 := Lib.hid (show Exts w W3 by rw [hW3]; exact (by repeat (first | exact Exts.refl _ | apply Exts.andR | apply Exts.alloc | apply Exts.wext | apply Exts.drew | apply Exts.drewN)))
  have T0 : ∀ w', Exts W3 w' → w'.cell? ⟨w.heap.size, 0, none⟩ = some (.slice none 0 0) := all_at (Exts.refl W3) (by rw [hW3]; simp [go_sem])
  have T1 : ∀ w', Exts W3 w' → w'.cell? ⟨w.heap.size, 1, none⟩ = some (.slice none 0 0) := all_at (Exts.refl W3) (by rw [hW3]; simp [go_sem])
  have T2 : ∀ w', Exts W3 w' → w'.cell? ⟨w.heap.size, 2, none⟩ = some (.slice none 0 0) := all_at (Exts.refl W3) (by rw [hW3]; simp [go_sem])
  have T3 : ∀ w', Exts W3 w' → w'.cell? ⟨w.heap.size, 3, none⟩ = some (.slice none 0 0) := all_at (Exts.refl W3) (by rw [hW3]; simp [go_sem])
  have T4 : ∀ w', Exts W3 w' → w'.cell? ⟨w.heap.size, 4, none⟩ = some (.slice none 0 0) := all_at (Exts.refl W3) (by rw [hW3]; simp [go_sem])
  have T5 : ∀ w', Exts W3 w' → w'.cell? ⟨w.heap.size, 5, none⟩ = some (.slice none 0 0) := all_at (Exts.refl W3) (by rw [hW3]; simp [go_sem])
  have T6 : ∀ w', Exts W3 w' → w'.cell? ⟨w.heap.size, 6, none⟩ = some (.slice none 0 0) := all_at (Exts.refl W3) (by rw [hW3]; simp [go_sem])
  have T7 : ∀ w', Exts W3 w' → w'.cell? ⟨w.heap.size, 7, none⟩ = some (.int .i64 0) := all_at (Exts.refl W3) (by rw [hW3]; simp [go_sem])
  have T8 : ∀ w', Exts W3 w' → w'.cell? ⟨w.heap.size, 8, none⟩ = some (.slice (some ⟨lb, 0, none⟩) 2 2) := all_at (Exts.refl W3) (by rw [hW3]; simp [go_sem])
  have T9 : ∀ w', Exts W3 w' → w'.cell? ⟨w.heap.size, 9, none⟩ = some (.slice none 0 0) := all_at (Exts.refl W3) (by rw [hW3]; simp [go_sem])
  have T10 : ∀ w', Exts W3 w' → w'.cell? ⟨w.heap.size, 10, none⟩ = some (.slice none 0 0) := all_at (Exts.refl W3) (by rw [hW3]; simp [go_sem])
  have T11 : ∀ w', Exts W3 w' → w'.cell? ⟨w.heap.size, 11, none⟩ = some (.slice none 0 0) := all_at (Exts.refl W3) (by rw [hW3]; simp [go_sem])
  have T12 : ∀ w', Exts W3 w' → w'.cell? ⟨w.heap.size, 12, none⟩ = some (.slice none 0 0) := all_at (Exts.refl W3) (by rw [hW3]; simp [go_sem])
  have U0 : ∀ w', Exts W3 w' → w'.cell? ⟨w.heap.size + 1, 0, none⟩ = some (.int .i64 1) := all_at (Exts.refl W3) (by rw [hW3]; simp [go_sem])
  have U1 : ∀ w', Exts W3 w' → w'.cell? ⟨w.heap.size + 1, 1, none⟩ = some (.slice (some ⟨pb, 0, none⟩) 1 1) := all_at (Exts.refl W3) (by rw [hW3]; simp [go_sem])
  clear hW3
  go_region_held3 (fun w' => Exts W3 w') (first | assumption | exact (Exts.refl _).drew | exact (by repeat (first | exact Exts.refl _ | apply Exts.andR | apply Exts.alloc | apply Exts.wext | apply Exts.drew | apply Exts.drewN))) ((first | (go_at_call 119; ((with_reducible refine (distance119 pb vb _ (HH.out.exts (HX3.out.trans (by first | assumption | exact (by repeat (first | exact Exts.refl _ | apply Exts.andR | apply Exts.alloc | apply Exts.wext | apply Exts.drew | apply Exts.drewN)))))).mono ?_); rintro e w' ⟨rfl, y1, rfl⟩)) | (go_at_call 118; ((with_reducible refine (near118 lb a1 a2 _ (H.out.exts (HX3.out.trans (by first | assumption | exact (by repeat (first | exact Exts.refl _ | apply Exts.andR | apply Exts.alloc | apply Exts.wext | apply Exts.drew | apply Exts.drewN)))))).mono ?_); rintro e w' ⟨ao, c, rfl, ⟨y2, rfl⟩, hr⟩; (have HR := Lib.hid hr); clear hr))))
  all_goals (
    go_wp2
    go_ret
    have hr2 := HR.out
    (try simp only [wext_and] at hr2)
    refine ⟨ao, c, rfl, HX3.out.trans (by repeat (first | exact Exts.refl _ | apply Exts.andR | apply Exts.alloc | apply Exts.wext | apply Exts.drew | apply Exts.drewN)), ?_⟩
    exact hr2)
end Go.Proofs.YtgmjcgjbbogefaaGreat
