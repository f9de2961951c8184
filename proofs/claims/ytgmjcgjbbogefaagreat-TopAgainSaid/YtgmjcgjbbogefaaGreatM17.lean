/- Lemmas that the laws of this seat share, 3 texts in one: HearT, HearU, HearV. No condition of their own. -/
import Derived.Test.YtgmjcgjbbogefaaGreatM16
/- hearing: Counts at the two hearings of the example: all claims count. -/
namespace Go.Proofs.YtgmjcgjbbogefaaGreat
open Go.RowKit Go.Maps Go.Instr
set_option linter.unusedSimpArgs false
set_option linter.unusedVariables false
set_option maxRecDepth 100000
set_option maxHeartbeats 8000000
/-- The claims of the example, cell by cell; s: the empty name. -/
def claimC (s : ByteArray) (p : Int) (a : Value) : List Value := [.int .i64 p, .int .i64 0, a, .int .i64 0, .string s, .int .i64 0]
def ClaimsW (w : World) (s : ByteArray) (cb n b1 b2 : Nat) : Prop := (∀ i v, (claimC s 1 (.slice none 0 0) ++ (claimC s 2 (.slice (some ⟨b1, 0, none⟩) 1 1) ++ if n = 3 then claimC s 1 (.slice (some ⟨b2, 0, none⟩) 1 1) else []))[i]? = some v → w.cell? ⟨cb, i, none⟩ = some v) ∧ w.cell? ⟨b1, 0, none⟩ = some (.int .i64 0) ∧ (n = 3 → w.cell? ⟨b2, 0, none⟩ = some (.int .i64 1))
theorem ClaimsW.exts {w w' : World} {s : ByteArray} {cb n b1 b2 : Nat} (h : ClaimsW w s cb n b1 b2) (he : Exts w w') : ClaimsW w' s cb n b1 b2 := ⟨fun i v hi => Exts.cell he (h.1 i v hi), Exts.cell he h.2.1, fun hn => Exts.cell he (h.2.2 hn)⟩
theorem counts23_2 (s : ByteArray) (lb a1 a2 pb vb cb b1 b2 c : Nat) (w : World) (h : LandW w lb a1 a2) (hh : HouseW w pb vb) (hc : ClaimsW w s cb 2 b1 b2) :
    Calls Tryz.prog 23 #[.agg #[.slice none 0 0, .slice none 0 0, .slice none 0 0, .slice none 0 0, .slice none 0 0, .slice none 0 0, .slice none 0 0, .int .i64 0, .slice (some ⟨lb, 0, none⟩) 2 2, .slice none 0 0, .slice none 0 0, .slice none 0 0, .slice none 0 0, .int .i64 1, .slice (some ⟨pb, 0, none⟩) 1 1, .int .i64 0, .int .i64 1, .int .i64 0, .slice none 0 0, .slice none 0 0, .slice none 0 0, .slice (some ⟨cb, 0, none⟩) 2 c]] w fun e w' => ∃ g, e = .returned (.slice (some ⟨g, 0, none⟩) 2 2) ∧ Exts w w' ∧ ∀ i v, ([.bool true, .bool true] : List Value)[i]? = some v → w'.cell? ⟨g, i, none⟩ = some v := by
  have c0 := hc.1 0 _ rfl
  have c1 := hc.1 1 _ rfl
  have c2 := hc.1 2 _ rfl
  have c3 := hc.1 3 _ rfl
  have c4 := hc.1 4 _ rfl
  have c5 := hc.1 5 _ rfl
  have c6 := hc.1 6 _ rfl
  have c7 := hc.1 7 _ rfl
  have c8 := hc.1 8 _ rfl
  have c9 := hc.1 9 _ rfl
  have c10 := hc.1 10 _ rfl
  have c11 := hc.1 11 _ rfl
  have l0 : cb < w.heap.size := World.block_lt_of_cell? w _ c0
  have B1 := Lib.hid hc.2.1
  have P0 := Lib.hid (show (0:Int) ≤ 0 by decide)
  have P1 := Lib.hid (show (0:Int) < ((2:Nat):Int) by decide)
  have H := Lib.hid h
  have HH := Lib.hid hh
  clear h hh hc
  go_enter Tryz.func23, Tryz.ntmps23
  go_wp2_with (first | (go_at_call 22; ((with_reducible refine (judged22 _ _ _ _ _ (by decide) (by decide) _).mono ?_); rintro e w' ⟨rfl, y1, rfl⟩)))
  refine wp_loop_rounds 6 ?_
  rw [rounds_succ]
  go_wp2
  rw [rounds_succ]
  go_wp2_with (first | (go_at_call 36; ((with_reducible refine (timely36 _ _ _ _ _ _).mono ?_); rintro e w' ⟨rfl, y2, rfl⟩)) | (go_at_call 37; ((with_reducible refine (party37_2 _ a1 a2 _ vb _ _ _ _ (H.out.exts (by repeat (first | exact Exts.refl _ | apply Exts.andR | apply Exts.alloc | apply Exts.wext | apply Exts.drew | apply Exts.drewN))) (HH.out.exts (by repeat (first | exact Exts.refl _ | apply Exts.andR | apply Exts.alloc | apply Exts.wext | apply Exts.drew | apply Exts.drewN)))).mono ?_); rintro e w' ⟨rfl, y3, rfl⟩)) | (go_at_call 38; ((with_reducible refine (formed38_1 _ _ _ _ _ _ _ _ _ 0 _ _ (Exts.cell (by repeat (first | exact Exts.refl _ | apply Exts.andR | apply Exts.alloc | apply Exts.wext | apply Exts.drew | apply Exts.drewN)) B1.out) P0.out P1.out).mono ?_); rintro e w' ⟨rfl, y4, rfl⟩)) | (go_at_call 39; ((with_reducible refine (true39 _ _ _ _ _ _ _ _ _ _ _).mono ?_); rintro e w' ⟨rfl, y5, rfl⟩)))
  rw [rounds_succ]
  go_wp2
  go_ret
  refine ⟨_, rfl, (by repeat (first | exact Exts.refl _ | apply Exts.andR | apply Exts.alloc | apply Exts.wext | apply Exts.drew | apply Exts.drewN)), fun t v ht => ?_⟩
  match t, ht with
  | 0, ht => (simp at ht; subst ht; simp [go_sem])
  | 1, ht => (simp at ht; subst ht; simp [go_sem])
theorem counts23_3 (s : ByteArray) (lb a1 a2 pb vb cb b1 b2 c : Nat) (w : World) (h : LandW w lb a1 a2) (hh : HouseW w pb vb) (hc : ClaimsW w s cb 3 b1 b2) :
    Calls Tryz.prog 23 #[.agg #[.slice none 0 0, .slice none 0 0, .slice none 0 0, .slice none 0 0, .slice none 0 0, .slice none 0 0, .slice none 0 0, .int .i64 0, .slice (some ⟨lb, 0, none⟩) 2 2, .slice none 0 0, .slice none 0 0, .slice none 0 0, .slice none 0 0, .int .i64 1, .slice (some ⟨pb, 0, none⟩) 1 1, .int .i64 0, .int .i64 1, .int .i64 0, .slice none 0 0, .slice none 0 0, .slice none 0 0, .slice (some ⟨cb, 0, none⟩) 3 c]] w fun e w' => ∃ g, e = .returned (.slice (some ⟨g, 0, none⟩) 3 3) ∧ Exts w w' ∧ ∀ i v, ([.bool true, .bool true, .bool true] : List Value)[i]? = some v → w'.cell? ⟨g, i, none⟩ = some v := by
  have c0 := hc.1 0 _ rfl
  have c1 := hc.1 1 _ rfl
  have c2 := hc.1 2 _ rfl
  have c3 := hc.1 3 _ rfl
  have c4 := hc.1 4 _ rfl
  have c5 := hc.1 5 _ rfl
  have c6 := hc.1 6 _ rfl
  have c7 := hc.1 7 _ rfl
  have c8 := hc.1 8 _ rfl
  have c9 := hc.1 9 _ rfl
  have c10 := hc.1 10 _ rfl
  have c11 := hc.1 11 _ rfl
  have c12 := hc.1 12 _ rfl
  have c13 := hc.1 13 _ rfl
  have c14 := hc.1 14 _ rfl
  have c15 := hc.1 15 _ rfl
  have c16 := hc.1 16 _ rfl
  have c17 := hc.1 17 _ rfl
  have l0 : cb < w.heap.size := World.block_lt_of_cell? w _ c0
  have B1 := Lib.hid hc.2.1
  have B2 := Lib.hid (hc.2.2 rfl)
  have P2 := Lib.hid (show (0:Int) ≤ 1 by decide)
  have P3 := Lib.hid (show (1:Int) < ((3:Nat):Int) by decide)
  have P0 := Lib.hid (show (0:Int) ≤ 0 by decide)
  have P1 := Lib.hid (show (0:Int) < ((3:Nat):Int) by decide)
  have H := Lib.hid h
  have HH := Lib.hid hh
  clear h hh hc
  go_enter Tryz.func23, Tryz.ntmps23
  go_wp2_with (first | (go_at_call 22; ((with_reducible refine (judged22 _ _ _ _ _ (by decide) (by decide) _).mono ?_); rintro e w' ⟨rfl, y1, rfl⟩)))
  refine wp_loop_rounds 6 ?_
  rw [rounds_succ]
  go_wp2
  rw [rounds_succ]
  go_wp2_with (first | (go_at_call 36; ((with_reducible refine (timely36 _ _ _ _ _ _).mono ?_); rintro e w' ⟨rfl, y2, rfl⟩)) | (go_at_call 37; ((with_reducible refine (party37_1 _ _ _ _ _ _).mono ?_); rintro e w' ⟨rfl, y3, rfl⟩)) | (go_at_call 37; ((with_reducible refine (party37_2 _ a1 a2 _ vb _ _ _ _ (H.out.exts (by repeat (first | exact Exts.refl _ | apply Exts.andR | apply Exts.alloc | apply Exts.wext | apply Exts.drew | apply Exts.drewN))) (HH.out.exts (by repeat (first | exact Exts.refl _ | apply Exts.andR | apply Exts.alloc | apply Exts.wext | apply Exts.drew | apply Exts.drewN)))).mono ?_); rintro e w' ⟨rfl, y3, rfl⟩)) | (go_at_call 38; ((with_reducible refine (formed38_1 _ _ _ _ _ _ _ _ _ 0 _ _ (Exts.cell (by repeat (first | exact Exts.refl _ | apply Exts.andR | apply Exts.alloc | apply Exts.wext | apply Exts.drew | apply Exts.drewN)) B1.out) P0.out P1.out).mono ?_); rintro e w' ⟨rfl, y4, rfl⟩)) | (go_at_call 38; ((with_reducible refine (formed38_1 _ _ _ _ _ _ _ _ _ 1 _ _ (Exts.cell (by repeat (first | exact Exts.refl _ | apply Exts.andR | apply Exts.alloc | apply Exts.wext | apply Exts.drew | apply Exts.drewN)) B2.out) P2.out P3.out).mono ?_); rintro e w' ⟨rfl, y4, rfl⟩)) | (go_at_call 39; ((with_reducible refine (true39 _ _ _ _ _ _ _ _ _ _ _).mono ?_); rintro e w' ⟨rfl, y5, rfl⟩)))
  rw [rounds_succ]
  go_wp2_with (first | (go_at_call 36; ((with_reducible refine (timely36 _ _ _ _ _ _).mono ?_); rintro e w' ⟨rfl, y2, rfl⟩)) | (go_at_call 37; ((with_reducible refine (party37_1 _ _ _ _ _ _).mono ?_); rintro e w' ⟨rfl, y3, rfl⟩)) | (go_at_call 37; ((with_reducible refine (party37_2 _ a1 a2 _ vb _ _ _ _ (H.out.exts (by repeat (first | exact Exts.refl _ | apply Exts.andR | apply Exts.alloc | apply Exts.wext | apply Exts.drew | apply Exts.drewN))) (HH.out.exts (by repeat (first | exact Exts.refl _ | apply Exts.andR | apply Exts.alloc | apply Exts.wext | apply Exts.drew | apply Exts.drewN)))).mono ?_); rintro e w' ⟨rfl, y3, rfl⟩)) | (go_at_call 38; ((with_reducible refine (formed38_1 _ _ _ _ _ _ _ _ _ 0 _ _ (Exts.cell (by repeat (first | exact Exts.refl _ | apply Exts.andR | apply Exts.alloc | apply Exts.wext | apply Exts.drew | apply Exts.drewN)) B1.out) P0.out P1.out).mono ?_); rintro e w' ⟨rfl, y4, rfl⟩)) | (go_at_call 38; ((with_reducible refine (formed38_1 _ _ _ _ _ _ _ _ _ 1 _ _ (Exts.cell (by repeat (first | exact Exts.refl _ | apply Exts.andR | apply Exts.alloc | apply Exts.wext | apply Exts.drew | apply Exts.drewN)) B2.out) P2.out P3.out).mono ?_); rintro e w' ⟨rfl, y4, rfl⟩)) | (go_at_call 39; ((with_reducible refine (true39 _ _ _ _ _ _ _ _ _ _ _).mono ?_); rintro e w' ⟨rfl, y5, rfl⟩)))
  rw [rounds_succ]
  go_wp2
  go_ret
  refine ⟨_, rfl, (by repeat (first | exact Exts.refl _ | apply Exts.andR | apply Exts.alloc | apply Exts.wext | apply Exts.drew | apply Exts.drewN)), fun t v ht => ?_⟩
  match t, ht with
  | 0, ht => (simp at ht; subst ht; simp [go_sem])
  | 1, ht => (simp at ht; subst ht; simp [go_sem])
  | 2, ht => (simp at ht; subst ht; simp [go_sem])
end Go.Proofs.YtgmjcgjbbogefaaGreat

/- argue: Right, graphOf, Grounded at the two cases of the example. (printed by gen_u.py) -/
namespace Go.Proofs.YtgmjcgjbbogefaaGreat
open Go.RowKit Go.Maps Go.Instr
set_option linter.unusedSimpArgs false
set_option linter.unusedVariables false
set_option maxRecDepth 100000
set_option maxHeartbeats 8000000
/-- The claims that are argued out: only what they attack. -/
def attC (a : Value) : List Value := [.int .i64 0, .int .i64 0, a, .int .i64 0, .string ByteArray.empty, .int .i64 0]
def AttW (w : World) (lb n b1 b2 : Nat) : Prop := (∀ i v, (attC (.slice none 0 0) ++ (attC (.slice (some ⟨b1, 0, none⟩) 1 1) ++ if n = 3 then attC (.slice (some ⟨b2, 0, none⟩) 1 1) else []))[i]? = some v → w.cell? ⟨lb, i, none⟩ = some v) ∧ w.cell? ⟨b1, 0, none⟩ = some (.int .i64 0) ∧ (n = 3 → w.cell? ⟨b2, 0, none⟩ = some (.int .i64 1))
theorem AttW.exts {w w' : World} {lb n b1 b2 : Nat} (h : AttW w lb n b1 b2) (he : Exts w w') : AttW w' lb n b1 b2 := ⟨fun i v hi => Exts.cell he (h.1 i v hi), Exts.cell he h.2.1, fun hn => Exts.cell he (h.2.2 hn)⟩
theorem right40_2 (lb b1 b2 : Nat) (w : World) (h : AttW w lb 2 b1 b2) : Calls Tryz.prog 40 #[.slice (some ⟨lb, 0, none⟩) 2 2] w fun e w' => e = .returned (.bool true) ∧ Exts w w' := by
  have c0 := h.1 0 _ rfl
  have c1 := h.1 1 _ rfl
  have c2 := h.1 2 _ rfl
  have c3 := h.1 3 _ rfl
  have c4 := h.1 4 _ rfl
  have c5 := h.1 5 _ rfl
  have c6 := h.1 6 _ rfl
  have c7 := h.1 7 _ rfl
  have c8 := h.1 8 _ rfl
  have c9 := h.1 9 _ rfl
  have c10 := h.1 10 _ rfl
  have c11 := h.1 11 _ rfl
  have l0 : lb < w.heap.size := World.block_lt_of_cell? w _ c0
  have d1 := h.2.1
  have l1 : b1 < w.heap.size := World.block_lt_of_cell? w _ d1
  clear h
  go_enter Tryz.func40, Tryz.ntmps40
  go_wp2_with (first | (refine wp_loop_rounds 6 ?_; rw [rounds_succ]) | (rw [rounds_succ]))
  go_ret
  exact ⟨rfl, (by repeat (first | exact Exts.refl _ | apply Exts.andR | apply Exts.alloc | apply Exts.wext | apply Exts.drew | apply Exts.drewN))⟩
theorem graph41_2 (lb b1 b2 : Nat) (w : World) (h : AttW w lb 2 b1 b2) : Calls Tryz.prog 41 #[.slice (some ⟨lb, 0, none⟩) 2 2] w fun e w' => ∃ g g1 e1, e = .returned (.slice (some ⟨g, 0, none⟩) 2 2) ∧ Exts w w' ∧ (∀ i v, ([.slice (some ⟨g1, 0, none⟩) 1 e1, .slice none 0 0] : List Value)[i]? = some v → w'.cell? ⟨g, i, none⟩ = some v) ∧ w'.cell? ⟨g1, 0, none⟩ = some (.int .i64 1) := by
  have c0 := h.1 0 _ rfl
  have c1 := h.1 1 _ rfl
  have c2 := h.1 2 _ rfl
  have c3 := h.1 3 _ rfl
  have c4 := h.1 4 _ rfl
  have c5 := h.1 5 _ rfl
  have c6 := h.1 6 _ rfl
  have c7 := h.1 7 _ rfl
  have c8 := h.1 8 _ rfl
  have c9 := h.1 9 _ rfl
  have c10 := h.1 10 _ rfl
  have c11 := h.1 11 _ rfl
  have l0 : lb < w.heap.size := World.block_lt_of_cell? w _ c0
  have d1 := h.2.1
  have l1 : b1 < w.heap.size := World.block_lt_of_cell? w _ d1
  clear h
  go_enter Tryz.func41, Tryz.ntmps41
  go_wp2_with (first | (refine wp_loop_rounds 6 ?_; rw [rounds_succ]) | (rw [rounds_succ]))
  go_ret
  refine ⟨_, w.heap.size + 1 + 1 + 1 + 1, (Question.appendCap 1 0 3).cut (w.tape w.drawn (Question.appendCap 1 0 3)), rfl, (by repeat (first | exact Exts.refl _ | apply Exts.andR | apply Exts.alloc | apply Exts.wext | apply Exts.drew | apply Exts.drewN)), fun t v ht => ?_, by simp [go_sem]⟩
  match t, ht with
  | 0, ht => (simp at ht; subst ht; simp [go_sem])
  | 1, ht => (simp at ht; subst ht; simp [go_sem])
theorem grounded25_2 (lb b1 b2 : Nat) (w : World) (h : AttW w lb 2 b1 b2) : Calls Tryz.prog 25 #[.slice (some ⟨lb, 0, none⟩) 2 2] w fun e w' => ∃ g r, e = .returned (.tuple #[.slice (some ⟨g, 0, none⟩) 2 2, r, .int .i64 0]) ∧ Exts w w' ∧ (∀ i v, ([.int .i64 2, .int .i64 1] : List Value)[i]? = some v → w'.cell? ⟨g, i, none⟩ = some v) := by
  have H := Lib.hid h
  have c0 := h.1 0 _ rfl
  have c1 := h.1 1 _ rfl
  have c2 := h.1 2 _ rfl
  have c3 := h.1 3 _ rfl
  have c4 := h.1 4 _ rfl
  have c5 := h.1 5 _ rfl
  have c6 := h.1 6 _ rfl
  have c7 := h.1 7 _ rfl
  have c8 := h.1 8 _ rfl
  have c9 := h.1 9 _ rfl
  have c10 := h.1 10 _ rfl
  have c11 := h.1 11 _ rfl
  have l0 : lb < w.heap.size := World.block_lt_of_cell? w _ c0
  have d1 := h.2.1
  have l1 : b1 < w.heap.size := World.block_lt_of_cell? w _ d1
  clear h
  go_enter Tryz.func25, Tryz.ntmps25
  go_wp2_with (first | (go_at_call 40; ((with_reducible refine (right40_2 lb b1 b2 _ (H.out.exts (by repeat (first | exact Exts.refl _ | apply Exts.andR | apply Exts.alloc | apply Exts.wext | apply Exts.drew | apply Exts.drewN)))).mono ?_); rintro e w' ⟨rfl, y1, rfl⟩)) | (go_at_call 41; ((with_reducible refine (graph41_2 lb b1 b2 _ (H.out.exts (by repeat (first | exact Exts.refl _ | apply Exts.andR | apply Exts.alloc | apply Exts.wext | apply Exts.drew | apply Exts.drewN)))).mono ?_); rintro e w' ⟨g, g1, e1, rfl, ⟨y2, rfl⟩, hg, hg1⟩; (try simp only [wext_and] at hg hg1))))
  refine wp_name ?_
  intro W hW
  have HX := Lib.hid (show Exts w W by rw [hW]; exact (by repeat (first | exact Exts.refl _ | apply Exts.andR | apply Exts.alloc | apply Exts.wext | apply Exts.drew | apply Exts.drewN)))
  rw [← hW] at hg hg1
  have C0 : W.cell? ⟨lb, 0, none⟩ = some _ := Exts.cell HX.out c0
  have C1 : W.cell? ⟨lb, 1, none⟩ = some _ := Exts.cell HX.out c1
  have C2 : W.cell? ⟨lb, 2, none⟩ = some _ := Exts.cell HX.out c2
  have C3 : W.cell? ⟨lb, 3, none⟩ = some _ := Exts.cell HX.out c3
  have C4 : W.cell? ⟨lb, 4, none⟩ = some _ := Exts.cell HX.out c4
  have C5 : W.cell? ⟨lb, 5, none⟩ = some _ := Exts.cell HX.out c5
  have C6 : W.cell? ⟨lb, 6, none⟩ = some _ := Exts.cell HX.out c6
  have C7 : W.cell? ⟨lb, 7, none⟩ = some _ := Exts.cell HX.out c7
  have C8 : W.cell? ⟨lb, 8, none⟩ = some _ := Exts.cell HX.out c8
  have C9 : W.cell? ⟨lb, 9, none⟩ = some _ := Exts.cell HX.out c9
  have C10 : W.cell? ⟨lb, 10, none⟩ = some _ := Exts.cell HX.out c10
  have C11 : W.cell? ⟨lb, 11, none⟩ = some _ := Exts.cell HX.out c11
  clear c0 c1 c2 c3 c4 c5 c6 c7 c8 c9 c10 c11
  have L0 : lb < W.heap.size := World.block_lt_of_cell? W _ C0
  have D1 : W.cell? ⟨b1, 0, none⟩ = some _ := Exts.cell HX.out d1
  have L1 : b1 < W.heap.size := World.block_lt_of_cell? W _ D1
  clear d1 l1 l0
  have hG0 := hg 0 _ rfl
  have hG1 := hg 1 _ rfl
  have lg := World.block_lt_of_cell? _ _ hG0
  have lg1 := World.block_lt_of_cell? _ _ hg1
  clear hW H hg
  go_region
  all_goals (
    go_wp2_with (first | (refine wp_loop_rounds 6 ?_; rw [rounds_succ]) | (rw [rounds_succ]))
    go_ret3
    refine ⟨_, ⟨_, rfl⟩, HX.out.trans (by repeat (first | exact Exts.refl _ | apply Exts.andR | apply Exts.alloc | apply Exts.wext | apply Exts.drew | apply Exts.drewN)), fun t v ht => ?_⟩
    match t, ht with
    | 0, ht => (simp at ht; subst ht; simp [go_sem])
    | 1, ht => (simp at ht; subst ht; simp [go_sem]))
theorem right40_3 (lb b1 b2 : Nat) (w : World) (h : AttW w lb 3 b1 b2) : Calls Tryz.prog 40 #[.slice (some ⟨lb, 0, none⟩) 3 3] w fun e w' => e = .returned (.bool true) ∧ Exts w w' := by
  have c0 := h.1 0 _ rfl
  have c1 := h.1 1 _ rfl
  have c2 := h.1 2 _ rfl
  have c3 := h.1 3 _ rfl
  have c4 := h.1 4 _ rfl
  have c5 := h.1 5 _ rfl
  have c6 := h.1 6 _ rfl
  have c7 := h.1 7 _ rfl
  have c8 := h.1 8 _ rfl
  have c9 := h.1 9 _ rfl
  have c10 := h.1 10 _ rfl
  have c11 := h.1 11 _ rfl
  have c12 := h.1 12 _ rfl
  have c13 := h.1 13 _ rfl
  have c14 := h.1 14 _ rfl
  have c15 := h.1 15 _ rfl
  have c16 := h.1 16 _ rfl
  have c17 := h.1 17 _ rfl
  have l0 : lb < w.heap.size := World.block_lt_of_cell? w _ c0
  have d1 := h.2.1
  have l1 : b1 < w.heap.size := World.block_lt_of_cell? w _ d1
  have d2 := h.2.2 rfl
  have l2 : b2 < w.heap.size := World.block_lt_of_cell? w _ d2
  clear h
  go_enter Tryz.func40, Tryz.ntmps40
  go_wp2_with (first | (refine wp_loop_rounds 6 ?_; rw [rounds_succ]) | (rw [rounds_succ]))
  go_ret
  exact ⟨rfl, (by repeat (first | exact Exts.refl _ | apply Exts.andR | apply Exts.alloc | apply Exts.wext | apply Exts.drew | apply Exts.drewN))⟩
theorem graph41_3 (lb b1 b2 : Nat) (w : World) (h : AttW w lb 3 b1 b2) : Calls Tryz.prog 41 #[.slice (some ⟨lb, 0, none⟩) 3 3] w fun e w' => ∃ g g1 e1 g2 e2, e = .returned (.slice (some ⟨g, 0, none⟩) 3 3) ∧ Exts w w' ∧ (∀ i v, ([.slice (some ⟨g1, 0, none⟩) 1 e1, .slice (some ⟨g2, 0, none⟩) 1 e2, .slice none 0 0] : List Value)[i]? = some v → w'.cell? ⟨g, i, none⟩ = some v) ∧ w'.cell? ⟨g1, 0, none⟩ = some (.int .i64 1) ∧ w'.cell? ⟨g2, 0, none⟩ = some (.int .i64 2) := by
  have c0 := h.1 0 _ rfl
  have c1 := h.1 1 _ rfl
  have c2 := h.1 2 _ rfl
  have c3 := h.1 3 _ rfl
  have c4 := h.1 4 _ rfl
  have c5 := h.1 5 _ rfl
  have c6 := h.1 6 _ rfl
  have c7 := h.1 7 _ rfl
  have c8 := h.1 8 _ rfl
  have c9 := h.1 9 _ rfl
  have c10 := h.1 10 _ rfl
  have c11 := h.1 11 _ rfl
  have c12 := h.1 12 _ rfl
  have c13 := h.1 13 _ rfl
  have c14 := h.1 14 _ rfl
  have c15 := h.1 15 _ rfl
  have c16 := h.1 16 _ rfl
  have c17 := h.1 17 _ rfl
  have l0 : lb < w.heap.size := World.block_lt_of_cell? w _ c0
  have d1 := h.2.1
  have l1 : b1 < w.heap.size := World.block_lt_of_cell? w _ d1
  have d2 := h.2.2 rfl
  have l2 : b2 < w.heap.size := World.block_lt_of_cell? w _ d2
  clear h
  go_enter Tryz.func41, Tryz.ntmps41
  go_wp2_with (first | (refine wp_loop_rounds 6 ?_; rw [rounds_succ]) | (rw [rounds_succ]))
  go_ret
  refine ⟨_, w.heap.size + 1 + 1 + 1 + 1, (Question.appendCap 1 0 3).cut (w.tape w.drawn (Question.appendCap 1 0 3)), w.heap.size + 1 + 1 + 1 + 1 + 1 + 1 + 1, (Question.appendCap 1 0 3).cut (w.tape (w.drawn + 1) (Question.appendCap 1 0 3)), rfl, (by repeat (first | exact Exts.refl _ | apply Exts.andR | apply Exts.alloc | apply Exts.wext | apply Exts.drew | apply Exts.drewN)), fun t v ht => ?_, by simp [go_sem], by simp [go_sem]⟩
  match t, ht with
  | 0, ht => (simp at ht; subst ht; simp [go_sem])
  | 1, ht => (simp at ht; subst ht; simp [go_sem])
  | 2, ht => (simp at ht; subst ht; simp [go_sem])
theorem grounded25_3 (lb b1 b2 : Nat) (w : World) (h : AttW w lb 3 b1 b2) : Calls Tryz.prog 25 #[.slice (some ⟨lb, 0, none⟩) 3 3] w fun e w' => ∃ g r, e = .returned (.tuple #[.slice (some ⟨g, 0, none⟩) 3 3, r, .int .i64 0]) ∧ Exts w w' ∧ (∀ i v, ([.int .i64 1, .int .i64 2, .int .i64 1] : List Value)[i]? = some v → w'.cell? ⟨g, i, none⟩ = some v) := by
  have H := Lib.hid h
  have c0 := h.1 0 _ rfl
  have c1 := h.1 1 _ rfl
  have c2 := h.1 2 _ rfl
  have c3 := h.1 3 _ rfl
  have c4 := h.1 4 _ rfl
  have c5 := h.1 5 _ rfl
  have c6 := h.1 6 _ rfl
  have c7 := h.1 7 _ rfl
  have c8 := h.1 8 _ rfl
  have c9 := h.1 9 _ rfl
  have c10 := h.1 10 _ rfl
  have c11 := h.1 11 _ rfl
  have c12 := h.1 12 _ rfl
  have c13 := h.1 13 _ rfl
  have c14 := h.1 14 _ rfl
  have c15 := h.1 15 _ rfl
  have c16 := h.1 16 _ rfl
  have c17 := h.1 17 _ rfl
  have l0 : lb < w.heap.size := World.block_lt_of_cell? w _ c0
  have d1 := h.2.1
  have l1 : b1 < w.heap.size := World.block_lt_of_cell? w _ d1
  have d2 := h.2.2 rfl
  have l2 : b2 < w.heap.size := World.block_lt_of_cell? w _ d2
  clear h
  go_enter Tryz.func25, Tryz.ntmps25
  go_wp2_with (first | (go_at_call 40; ((with_reducible refine (right40_3 lb b1 b2 _ (H.out.exts (by repeat (first | exact Exts.refl _ | apply Exts.andR | apply Exts.alloc | apply Exts.wext | apply Exts.drew | apply Exts.drewN)))).mono ?_); rintro e w' ⟨rfl, y1, rfl⟩)) | (go_at_call 41; ((with_reducible refine (graph41_3 lb b1 b2 _ (H.out.exts (by repeat (first | exact Exts.refl _ | apply Exts.andR | apply Exts.alloc | apply Exts.wext | apply Exts.drew | apply Exts.drewN)))).mono ?_); rintro e w' ⟨g, g1, e1, g2, e2, rfl, ⟨y2, rfl⟩, hg, hg1, hg2⟩; (try simp only [wext_and] at hg hg1 hg2))))
  refine wp_name ?_
  intro W hW
  have HX := Lib.hid (show Exts w W by rw [hW]; exact (by repeat (first | exact Exts.refl _ | apply Exts.andR | apply Exts.alloc | apply Exts.wext | apply Exts.drew | apply Exts.drewN)))
  rw [← hW] at hg hg1 hg2
  have C0 : W.cell? ⟨lb, 0, none⟩ = some _ := Exts.cell HX.out c0
  have C1 : W.cell? ⟨lb, 1, none⟩ = some _ := Exts.cell HX.out c1
  have C2 : W.cell? ⟨lb, 2, none⟩ = some _ := Exts.cell HX.out c2
  have C3 : W.cell? ⟨lb, 3, none⟩ = some _ := Exts.cell HX.out c3
  have C4 : W.cell? ⟨lb, 4, none⟩ = some _ := Exts.cell HX.out c4
  have C5 : W.cell? ⟨lb, 5, none⟩ = some _ := Exts.cell HX.out c5
  have C6 : W.cell? ⟨lb, 6, none⟩ = some _ := Exts.cell HX.out c6
  have C7 : W.cell? ⟨lb, 7, none⟩ = some _ := Exts.cell HX.out c7
  have C8 : W.cell? ⟨lb, 8, none⟩ = some _ := Exts.cell HX.out c8
  have C9 : W.cell? ⟨lb, 9, none⟩ = some _ := Exts.cell HX.out c9
  have C10 : W.cell? ⟨lb, 10, none⟩ = some _ := Exts.cell HX.out c10
  have C11 : W.cell? ⟨lb, 11, none⟩ = some _ := Exts.cell HX.out c11
  have C12 : W.cell? ⟨lb, 12, none⟩ = some _ := Exts.cell HX.out c12
  have C13 : W.cell? ⟨lb, 13, none⟩ = some _ := Exts.cell HX.out c13
  have C14 : W.cell? ⟨lb, 14, none⟩ = some _ := Exts.cell HX.out c14
  have C15 : W.cell? ⟨lb, 15, none⟩ = some _ := Exts.cell HX.out c15
  have C16 : W.cell? ⟨lb, 16, none⟩ = some _ := Exts.cell HX.out c16
  have C17 : W.cell? ⟨lb, 17, none⟩ = some _ := Exts.cell HX.out c17
  clear c0 c1 c2 c3 c4 c5 c6 c7 c8 c9 c10 c11 c12 c13 c14 c15 c16 c17
  have L0 : lb < W.heap.size := World.block_lt_of_cell? W _ C0
  have D1 : W.cell? ⟨b1, 0, none⟩ = some _ := Exts.cell HX.out d1
  have L1 : b1 < W.heap.size := World.block_lt_of_cell? W _ D1
  have D2 : W.cell? ⟨b2, 0, none⟩ = some _ := Exts.cell HX.out d2
  have L2 : b2 < W.heap.size := World.block_lt_of_cell? W _ D2
  clear d2 l2
  clear d1 l1 l0
  have hG0 := hg 0 _ rfl
  have hG1 := hg 1 _ rfl
  have hG2 := hg 2 _ rfl
  have lg := World.block_lt_of_cell? _ _ hG0
  have lg1 := World.block_lt_of_cell? _ _ hg1
  have lg2 := World.block_lt_of_cell? _ _ hg2
  clear hW H hg
  go_region
  all_goals (
    go_wp2_with (first | (refine wp_loop_rounds 6 ?_; rw [rounds_succ]) | (rw [rounds_succ]))
    go_ret3
    refine ⟨_, ⟨_, rfl⟩, HX.out.trans (by repeat (first | exact Exts.refl _ | apply Exts.andR | apply Exts.alloc | apply Exts.wext | apply Exts.drew | apply Exts.drewN)), fun t v ht => ?_⟩
    match t, ht with
    | 0, ht => (simp at ht; subst ht; simp [go_sem])
    | 1, ht => (simp at ht; subst ht; simp [go_sem])
    | 2, ht => (simp at ht; subst ht; simp [go_sem]))
end Go.Proofs.YtgmjcgjbbogefaaGreat

/- hearing.Outcome at the two hearings of the example. (printed by gen_v.py) -/
namespace Go.Proofs.YtgmjcgjbbogefaaGreat
open Go.RowKit Go.Maps Go.Instr
set_option linter.unusedSimpArgs false
set_option linter.unusedVariables false
set_option maxRecDepth 100000
set_option maxHeartbeats 8000000
theorem outcome11_2 (s : ByteArray) (lb a1 a2 pb vb cb b1 b2 c : Nat) (w : World) (h : LandW w lb a1 a2) (hh : HouseW w pb vb) (hc : ClaimsW w s cb 2 b1 b2) :
    Calls Tryz.prog 11 #[.agg #[.slice none 0 0, .slice none 0 0, .slice none 0 0, .slice none 0 0, .slice none 0 0, .slice none 0 0, .slice none 0 0, .int .i64 0, .slice (some ⟨lb, 0, none⟩) 2 2, .slice none 0 0, .slice none 0 0, .slice none 0 0, .slice none 0 0, .int .i64 1, .slice (some ⟨pb, 0, none⟩) 1 1, .int .i64 0, .int .i64 1, .int .i64 0, .slice none 0 0, .slice none 0 0, .slice none 0 0, .slice (some ⟨cb, 0, none⟩) 2 c]] w fun e w' => ∃ r, e = .returned (.tuple #[r, .bool false]) ∧ Exts w w' := by
  have c0 := hc.1 0 _ rfl
  have c1 := hc.1 1 _ rfl
  have c2 := hc.1 2 _ rfl
  have c3 := hc.1 3 _ rfl
  have c4 := hc.1 4 _ rfl
  have c5 := hc.1 5 _ rfl
  have c6 := hc.1 6 _ rfl
  have c7 := hc.1 7 _ rfl
  have c8 := hc.1 8 _ rfl
  have c9 := hc.1 9 _ rfl
  have c10 := hc.1 10 _ rfl
  have c11 := hc.1 11 _ rfl
  have l0 : cb < w.heap.size := World.block_lt_of_cell? w _ c0
  have B1 := Lib.hid hc.2.1
  have lb1 : b1 < w.heap.size := World.block_lt_of_cell? w _ hc.2.1
  have P0 := Lib.hid (show (0:Int) ≤ 0 by decide)
  have P1 := Lib.hid (show (0:Int) < (2:Int) by decide)
  have H := Lib.hid h
  have HH := Lib.hid hh
  have HC := Lib.hid hc
  clear h hh hc
  go_enter Tryz.func11, Tryz.ntmps11
  go_wp2_with (first | (go_at_call 22; ((with_reducible refine (judged22 _ _ _ _ _ (by decide) (by decide) _).mono ?_); rintro e w' ⟨rfl, y1, rfl⟩)) | (go_at_call 23; fail))
  refine Calls.mono (counts23_2 s lb a1 a2 pb vb cb b1 b2 _ _ (H.out.exts (by repeat (first | exact Exts.refl _ | apply Exts.andR | apply Exts.alloc | apply Exts.wext | apply Exts.drew | apply Exts.drewN))) (HH.out.exts (by repeat (first | exact Exts.refl _ | apply Exts.andR | apply Exts.alloc | apply Exts.wext | apply Exts.drew | apply Exts.drewN))) (HC.out.exts (by repeat (first | exact Exts.refl _ | apply Exts.andR | apply Exts.alloc | apply Exts.wext | apply Exts.drew | apply Exts.drewN)))) ?_
  rintro e W ⟨g, rfl, hx, hg⟩
  have HX := Lib.hid (show Exts w W from Exts.trans (by repeat (first | exact Exts.refl _ | apply Exts.andR | apply Exts.alloc | apply Exts.wext | apply Exts.drew | apply Exts.drewN)) hx)
  have T21 : W.cell? ⟨w.heap.size, 21, none⟩ = some (.slice (some ⟨cb, 0, none⟩) 2 c) := Exts.cell hx (by simp [go_sem])
  have LT := World.block_lt_of_cell? _ _ T21
  have hG0 := hg 0 _ rfl
  have hG1 := hg 1 _ rfl
  have C0 : W.cell? ⟨cb, 0, none⟩ = some _ := Exts.cell HX.out c0
  have C1 : W.cell? ⟨cb, 1, none⟩ = some _ := Exts.cell HX.out c1
  have C2 : W.cell? ⟨cb, 2, none⟩ = some _ := Exts.cell HX.out c2
  have C3 : W.cell? ⟨cb, 3, none⟩ = some _ := Exts.cell HX.out c3
  have C4 : W.cell? ⟨cb, 4, none⟩ = some _ := Exts.cell HX.out c4
  have C5 : W.cell? ⟨cb, 5, none⟩ = some _ := Exts.cell HX.out c5
  have C6 : W.cell? ⟨cb, 6, none⟩ = some _ := Exts.cell HX.out c6
  have C7 : W.cell? ⟨cb, 7, none⟩ = some _ := Exts.cell HX.out c7
  have C8 : W.cell? ⟨cb, 8, none⟩ = some _ := Exts.cell HX.out c8
  have C9 : W.cell? ⟨cb, 9, none⟩ = some _ := Exts.cell HX.out c9
  have C10 : W.cell? ⟨cb, 10, none⟩ = some _ := Exts.cell HX.out c10
  have C11 : W.cell? ⟨cb, 11, none⟩ = some _ := Exts.cell HX.out c11
  clear c0 c1 c2 c3 c4 c5 c6 c7 c8 c9 c10 c11
  have lg := World.block_lt_of_cell? _ _ hG0
  clear hx hg l0 lb1
  have LC := World.block_lt_of_cell? _ _ C0
  go_wp2_with (first | (refine wp_loop_rounds 6 ?_; rw [rounds_succ]) | (rw [rounds_succ]) | (go_at_call 24; ((with_reducible refine (attacks24_0 _ _).mono ?_); rintro e w' ⟨rfl, y3, rfl⟩)) | (go_at_call 24; ((with_reducible refine (attacks24_1 b1 0 _ _ (Exts.cell (HX.out.trans (by repeat (first | exact Exts.refl _ | apply Exts.andR | apply Exts.alloc | apply Exts.wext | apply Exts.drew | apply Exts.drewN))) B1.out) P0.out P1.out).mono ?_); rintro e w' ⟨rfl, y3, rfl⟩)) | (go_at_call 25; fail))
  refine Calls.mono (grounded25_2 W.heap.size b1 b2 _ ?_) ?_
  · refine ⟨fun i v hi => ?_, Exts.cell (HX.out.trans (by repeat (first | exact Exts.refl _ | apply Exts.andR | apply Exts.alloc | apply Exts.wext | apply Exts.drew | apply Exts.drewN))) B1.out, fun hn => by cases hn⟩
    match i, hi with
    | 0, hi => (simp [attC] at hi; subst hi; simp [go_sem])
    | 1, hi => (simp [attC] at hi; subst hi; simp [go_sem])
    | 2, hi => (simp [attC] at hi; subst hi; simp [go_sem])
    | 3, hi => (simp [attC] at hi; subst hi; simp [go_sem])
    | 4, hi => (simp [attC] at hi; subst hi; simp [go_sem])
    | 5, hi => (simp [attC] at hi; subst hi; simp [go_sem])
    | 6, hi => (simp [attC] at hi; subst hi; simp [go_sem])
    | 7, hi => (simp [attC] at hi; subst hi; simp [go_sem])
    | 8, hi => (simp [attC] at hi; subst hi; simp [go_sem])
    | 9, hi => (simp [attC] at hi; subst hi; simp [go_sem])
    | 10, hi => (simp [attC] at hi; subst hi; simp [go_sem])
    | 11, hi => (simp [attC] at hi; subst hi; simp [go_sem])
    | k + 12, hi => (simp [attC] at hi)
  rintro e W4 ⟨gl, r, rfl, hx4, hl⟩
  have HX4 := Lib.hid (show Exts W W4 from Exts.trans (by repeat (first | exact Exts.refl _ | apply Exts.andR | apply Exts.alloc | apply Exts.wext | apply Exts.drew | apply Exts.drewN)) hx4)
  have D0 : W4.cell? ⟨g, 0, none⟩ = some _ := Exts.cell HX4.out hG0
  have E0 := hl 0 _ rfl
  have D1 : W4.cell? ⟨g, 1, none⟩ = some _ := Exts.cell HX4.out hG1
  have E1 := hl 1 _ rfl
  have lg4 := World.block_lt_of_cell? _ _ D0
  have ll4 := World.block_lt_of_cell? _ _ E0
  clear hx4 hl lg LC LT C0 T21 hG0
  go_wp2_with (first | (refine wp_loop_rounds 6 ?_; rw [rounds_succ]) | (rw [rounds_succ]))
  first | refine wp_region_ext_lit2 (by kernel_rfl) (by kernel_rfl) ?_ | refine wp_region_ext_lit (by kernel_rfl) (by kernel_rfl) ?_
  repeat (go_big_quiet_step (fail))
  refine wpQuiet_nil ?_
  intro _ hwq'
  obtain ⟨xq, hwq''⟩ := hwq'
  subst hwq''
  go_wp2
  go_ret2
  exact ⟨_, rfl, HX.out.trans (HX4.out.trans (by repeat (first | exact Exts.refl _ | apply Exts.andR | apply Exts.alloc | apply Exts.wext | apply Exts.drew | apply Exts.drewN)))⟩
theorem outcome11_3 (s : ByteArray) (lb a1 a2 pb vb cb b1 b2 c : Nat) (w : World) (h : LandW w lb a1 a2) (hh : HouseW w pb vb) (hc : ClaimsW w s cb 3 b1 b2) :
    Calls Tryz.prog 11 #[.agg #[.slice none 0 0, .slice none 0 0, .slice none 0 0, .slice none 0 0, .slice none 0 0, .slice none 0 0, .slice none 0 0, .int .i64 0, .slice (some ⟨lb, 0, none⟩) 2 2, .slice none 0 0, .slice none 0 0, .slice none 0 0, .slice none 0 0, .int .i64 1, .slice (some ⟨pb, 0, none⟩) 1 1, .int .i64 0, .int .i64 1, .int .i64 0, .slice none 0 0, .slice none 0 0, .slice none 0 0, .slice (some ⟨cb, 0, none⟩) 3 c]] w fun e w' => ∃ r, e = .returned (.tuple #[r, .bool true]) ∧ Exts w w' := by
  have c0 := hc.1 0 _ rfl
  have c1 := hc.1 1 _ rfl
  have c2 := hc.1 2 _ rfl
  have c3 := hc.1 3 _ rfl
  have c4 := hc.1 4 _ rfl
  have c5 := hc.1 5 _ rfl
  have c6 := hc.1 6 _ rfl
  have c7 := hc.1 7 _ rfl
  have c8 := hc.1 8 _ rfl
  have c9 := hc.1 9 _ rfl
  have c10 := hc.1 10 _ rfl
  have c11 := hc.1 11 _ rfl
  have c12 := hc.1 12 _ rfl
  have c13 := hc.1 13 _ rfl
  have c14 := hc.1 14 _ rfl
  have c15 := hc.1 15 _ rfl
  have c16 := hc.1 16 _ rfl
  have c17 := hc.1 17 _ rfl
  have l0 : cb < w.heap.size := World.block_lt_of_cell? w _ c0
  have B1 := Lib.hid hc.2.1
  have lb1 : b1 < w.heap.size := World.block_lt_of_cell? w _ hc.2.1
  have B2 := Lib.hid (hc.2.2 rfl)
  have lb2 : b2 < w.heap.size := World.block_lt_of_cell? w _ (hc.2.2 rfl)
  have P2 := Lib.hid (show (0:Int) ≤ 1 by decide)
  have P3 := Lib.hid (show (1:Int) < (3:Int) by decide)
  have P0 := Lib.hid (show (0:Int) ≤ 0 by decide)
  have P1 := Lib.hid (show (0:Int) < (3:Int) by decide)
  have H := Lib.hid h
  have HH := Lib.hid hh
  have HC := Lib.hid hc
  clear h hh hc
  go_enter Tryz.func11, Tryz.ntmps11
  go_wp2_with (first | (go_at_call 22; ((with_reducible refine (judged22 _ _ _ _ _ (by decide) (by decide) _).mono ?_); rintro e w' ⟨rfl, y1, rfl⟩)) | (go_at_call 23; fail))
  refine Calls.mono (counts23_3 s lb a1 a2 pb vb cb b1 b2 _ _ (H.out.exts (by repeat (first | exact Exts.refl _ | apply Exts.andR | apply Exts.alloc | apply Exts.wext | apply Exts.drew | apply Exts.drewN))) (HH.out.exts (by repeat (first | exact Exts.refl _ | apply Exts.andR | apply Exts.alloc | apply Exts.wext | apply Exts.drew | apply Exts.drewN))) (HC.out.exts (by repeat (first | exact Exts.refl _ | apply Exts.andR | apply Exts.alloc | apply Exts.wext | apply Exts.drew | apply Exts.drewN)))) ?_
  rintro e W ⟨g, rfl, hx, hg⟩
  have HX := Lib.hid (show Exts w W from Exts.trans (by repeat (first | exact Exts.refl _ | apply Exts.andR | apply Exts.alloc | apply Exts.wext | apply Exts.drew | apply Exts.drewN)) hx)
  have T21 : W.cell? ⟨w.heap.size, 21, none⟩ = some (.slice (some ⟨cb, 0, none⟩) 3 c) := Exts.cell hx (by simp [go_sem])
  have LT := World.block_lt_of_cell? _ _ T21
  have hG0 := hg 0 _ rfl
  have hG1 := hg 1 _ rfl
  have hG2 := hg 2 _ rfl
  have C0 : W.cell? ⟨cb, 0, none⟩ = some _ := Exts.cell HX.out c0
  have C1 : W.cell? ⟨cb, 1, none⟩ = some _ := Exts.cell HX.out c1
  have C2 : W.cell? ⟨cb, 2, none⟩ = some _ := Exts.cell HX.out c2
  have C3 : W.cell? ⟨cb, 3, none⟩ = some _ := Exts.cell HX.out c3
  have C4 : W.cell? ⟨cb, 4, none⟩ = some _ := Exts.cell HX.out c4
  have C5 : W.cell? ⟨cb, 5, none⟩ = some _ := Exts.cell HX.out c5
  have C6 : W.cell? ⟨cb, 6, none⟩ = some _ := Exts.cell HX.out c6
  have C7 : W.cell? ⟨cb, 7, none⟩ = some _ := Exts.cell HX.out c7
  have C8 : W.cell? ⟨cb, 8, none⟩ = some _ := Exts.cell HX.out c8
  have C9 : W.cell? ⟨cb, 9, none⟩ = some _ := Exts.cell HX.out c9
  have C10 : W.cell? ⟨cb, 10, none⟩ = some _ := Exts.cell HX.out c10
  have C11 : W.cell? ⟨cb, 11, none⟩ = some _ := Exts.cell HX.out c11
  have C12 : W.cell? ⟨cb, 12, none⟩ = some _ := Exts.cell HX.out c12
  have C13 : W.cell? ⟨cb, 13, none⟩ = some _ := Exts.cell HX.out c13
  have C14 : W.cell? ⟨cb, 14, none⟩ = some _ := Exts.cell HX.out c14
  have C15 : W.cell? ⟨cb, 15, none⟩ = some _ := Exts.cell HX.out c15
  have C16 : W.cell? ⟨cb, 16, none⟩ = some _ := Exts.cell HX.out c16
  have C17 : W.cell? ⟨cb, 17, none⟩ = some _ := Exts.cell HX.out c17
  clear c0 c1 c2 c3 c4 c5 c6 c7 c8 c9 c10 c11 c12 c13 c14 c15 c16 c17 lb2
  have lg := World.block_lt_of_cell? _ _ hG0
  clear hx hg l0 lb1
  have LC := World.block_lt_of_cell? _ _ C0
  go_wp2_with (first | (refine wp_loop_rounds 6 ?_; rw [rounds_succ]) | (rw [rounds_succ]) | (go_at_call 24; ((with_reducible refine (attacks24_0 _ _).mono ?_); rintro e w' ⟨rfl, y3, rfl⟩)) | (go_at_call 24; ((with_reducible refine (attacks24_1 b1 0 _ _ (Exts.cell (HX.out.trans (by repeat (first | exact Exts.refl _ | apply Exts.andR | apply Exts.alloc | apply Exts.wext | apply Exts.drew | apply Exts.drewN))) B1.out) P0.out P1.out).mono ?_); rintro e w' ⟨rfl, y3, rfl⟩)) | (go_at_call 24; ((with_reducible refine (attacks24_1 b2 1 _ _ (Exts.cell (HX.out.trans (by repeat (first | exact Exts.refl _ | apply Exts.andR | apply Exts.alloc | apply Exts.wext | apply Exts.drew | apply Exts.drewN))) B2.out) P2.out P3.out).mono ?_); rintro e w' ⟨rfl, y3, rfl⟩)) | (go_at_call 25; fail))
  refine Calls.mono (grounded25_3 W.heap.size b1 b2 _ ?_) ?_
  · refine ⟨fun i v hi => ?_, Exts.cell (HX.out.trans (by repeat (first | exact Exts.refl _ | apply Exts.andR | apply Exts.alloc | apply Exts.wext | apply Exts.drew | apply Exts.drewN))) B1.out, fun hn => Exts.cell (HX.out.trans (by repeat (first | exact Exts.refl _ | apply Exts.andR | apply Exts.alloc | apply Exts.wext | apply Exts.drew | apply Exts.drewN))) B2.out⟩
    match i, hi with
    | 0, hi => (simp [attC] at hi; subst hi; simp [go_sem])
    | 1, hi => (simp [attC] at hi; subst hi; simp [go_sem])
    | 2, hi => (simp [attC] at hi; subst hi; simp [go_sem])
    | 3, hi => (simp [attC] at hi; subst hi; simp [go_sem])
    | 4, hi => (simp [attC] at hi; subst hi; simp [go_sem])
    | 5, hi => (simp [attC] at hi; subst hi; simp [go_sem])
    | 6, hi => (simp [attC] at hi; subst hi; simp [go_sem])
    | 7, hi => (simp [attC] at hi; subst hi; simp [go_sem])
    | 8, hi => (simp [attC] at hi; subst hi; simp [go_sem])
    | 9, hi => (simp [attC] at hi; subst hi; simp [go_sem])
    | 10, hi => (simp [attC] at hi; subst hi; simp [go_sem])
    | 11, hi => (simp [attC] at hi; subst hi; simp [go_sem])
    | 12, hi => (simp [attC] at hi; subst hi; simp [go_sem])
    | 13, hi => (simp [attC] at hi; subst hi; simp [go_sem])
    | 14, hi => (simp [attC] at hi; subst hi; simp [go_sem])
    | 15, hi => (simp [attC] at hi; subst hi; simp [go_sem])
    | 16, hi => (simp [attC] at hi; subst hi; simp [go_sem])
    | 17, hi => (simp [attC] at hi; subst hi; simp [go_sem])
    | k + 18, hi => (simp [attC] at hi)
  rintro e W4 ⟨gl, r, rfl, hx4, hl⟩
  have HX4 := Lib.hid (show Exts W W4 from Exts.trans (by repeat (first | exact Exts.refl _ | apply Exts.andR | apply Exts.alloc | apply Exts.wext | apply Exts.drew | apply Exts.drewN)) hx4)
  have D0 : W4.cell? ⟨g, 0, none⟩ = some _ := Exts.cell HX4.out hG0
  have E0 := hl 0 _ rfl
  have D1 : W4.cell? ⟨g, 1, none⟩ = some _ := Exts.cell HX4.out hG1
  have E1 := hl 1 _ rfl
  have D2 : W4.cell? ⟨g, 2, none⟩ = some _ := Exts.cell HX4.out hG2
  have E2 := hl 2 _ rfl
  have lg4 := World.block_lt_of_cell? _ _ D0
  have ll4 := World.block_lt_of_cell? _ _ E0
  clear hx4 hl lg LC LT C0 T21 hG0
  go_wp2_with (first | (refine wp_loop_rounds 6 ?_; rw [rounds_succ]) | (rw [rounds_succ]))
  first | refine wp_region_ext_lit2 (by kernel_rfl) (by kernel_rfl) ?_ | refine wp_region_ext_lit (by kernel_rfl) (by kernel_rfl) ?_
  repeat (go_big_quiet_step (fail))
  refine wpQuiet_nil ?_
  intro _ hwq'
  obtain ⟨xq, hwq''⟩ := hwq'
  subst hwq''
  go_wp2
  go_ret2
  exact ⟨_, rfl, HX.out.trans (HX4.out.trans (by repeat (first | exact Exts.refl _ | apply Exts.andR | apply Exts.alloc | apply Exts.wext | apply Exts.drew | apply Exts.drewN)))⟩
end Go.Proofs.YtgmjcgjbbogefaaGreat
