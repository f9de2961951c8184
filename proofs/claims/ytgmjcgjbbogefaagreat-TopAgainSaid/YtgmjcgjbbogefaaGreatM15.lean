/- Lemmas that the laws of this seat share, 4 texts in one: HearM, HearN, HearO, HearP. No condition of their own. -/
import Derived.Test.YtgmjcgjbbogefaaGreatM14
/- notice: Owners on the example. -/
namespace Go.Proofs.YtgmjcgjbbogefaaGreat
open Go.RowKit Go.Maps
set_option linter.unusedSimpArgs false
set_option linter.unusedVariables false
set_option maxRecDepth 100000
set_option maxHeartbeats 8000000
theorem owners57 (lb a1 a2 pb vb : Nat) (w : World) (h : LandW w lb a1 a2) (hh : HouseW w pb vb) :
    Calls Tryz.prog 57 #[.agg #[.slice none 0 0, .slice none 0 0, .slice none 0 0, .slice none 0 0, .slice none 0 0, .slice none 0 0, .slice none 0 0, .int .i64 0, .slice (some ⟨lb, 0, none⟩) 2 2, .slice none 0 0, .slice none 0 0, .slice none 0 0, .slice none 0 0], .agg #[.int .i64 1, .slice (some ⟨pb, 0, none⟩) 1 1]] w fun e w' => ∃ ao c, e = .returned (.slice ao 1 c) ∧ Exts w w' ∧ RowF (fun _ => True) 1 w' (.slice ao 1 c) 1 [.int .i64 2] := by
  have H := Lib.hid h
  have HH := Lib.hid hh
  clear h hh
  go_enter Tryz.func57, Tryz.ntmps57
  go_wp2_with (first | (go_at_call 84; fail))
  refine Calls.mono (lots84 lb a1 a2 pb vb _ (H.out.exts (by repeat (first | exact Exts.refl _ | apply Exts.andR | apply Exts.alloc | apply Exts.wext | apply Exts.drew | apply Exts.drewN))) (HH.out.exts (by repeat (first | exact Exts.refl _ | apply Exts.andR | apply Exts.alloc | apply Exts.wext | apply Exts.drew | apply Exts.drewN)))) ?_
  rintro e w' ⟨ao, c, rfl, ⟨y1, rfl⟩, hr⟩
  obtain ⟨b, off, rfl, lb', hc⟩ := rowF_at hr
  have c0 := hc 0 _ rfl
  rw [Nat.add_zero] at c0
  clear hc hr
  go_wp2_with (first | (refine wp_loop_rounds 6 ?_; rw [rounds_succ]) | (rw [rounds_succ]) | (go_at_call 55; ((with_reducible refine (find55_2 lb a1 a2 _ (H.out.exts (by repeat (first | exact Exts.refl _ | apply Exts.andR | apply Exts.alloc | apply Exts.wext | apply Exts.drew | apply Exts.drewN)))).mono ?_); rintro e w' ⟨ao2, c2, fo, fc, rfl, ⟨y2, rfl⟩, ho⟩; clear ho)) | (go_at_call 85; ((with_reducible refine (sort85_1 _ _ _).mono ?_); rintro e w' ⟨rfl, y4, rfl⟩)) | (go_at_call 86; ((with_reducible refine (compact86_1 _ _ _).mono ?_); rintro e w' ⟨rfl, y5, rfl⟩)))
  go_ret
  refine ⟨_, _, rfl, (by repeat (first | exact Exts.refl _ | apply Exts.andR | apply Exts.alloc | apply Exts.wext | apply Exts.drew | apply Exts.drewN)), rowF_cells rfl (cut_ge _ _ _ _) (cut_le _ _ _ _ (by unfold maxLen; omega)) (by simp <;> omega) fun t v ht => ?_⟩
  match t, ht with
  | 0, ht => (simp at ht; subst ht; simp [go_sem])
end Go.Proofs.YtgmjcgjbbogefaaGreat

/- notice: May on the example. -/
namespace Go.Proofs.YtgmjcgjbbogefaaGreat
open Go.RowKit Go.Maps
set_option linter.unusedSimpArgs false
set_option linter.unusedVariables false
set_option maxRecDepth 100000
set_option maxHeartbeats 8000000
theorem may46 (lb a1 a2 pb vb : Nat) (w : World) (h : LandW w lb a1 a2) (hh : HouseW w pb vb) :
    Calls Tryz.prog 46 #[.agg #[.slice none 0 0, .slice none 0 0, .slice none 0 0, .slice none 0 0, .slice none 0 0, .slice none 0 0, .slice none 0 0, .int .i64 0, .slice (some ⟨lb, 0, none⟩) 2 2, .slice none 0 0, .slice none 0 0, .slice none 0 0, .slice none 0 0], .agg #[.int .i64 1, .slice (some ⟨pb, 0, none⟩) 1 1], .int .i64 2] w fun e w' => e = .returned (.bool true) ∧ Exts w w' := by
  have H := Lib.hid h
  have HH := Lib.hid hh
  clear h hh
  go_enter Tryz.func46, Tryz.ntmps46
  go_wp2_with (first | (go_at_call 55; ((with_reducible refine (find55_1 lb a1 a2 _ (H.out.exts (by repeat (first | exact Exts.refl _ | apply Exts.andR | apply Exts.alloc | apply Exts.wext | apply Exts.drew | apply Exts.drewN)))).mono ?_); rintro e w' ⟨ao2, c2, fo, fc, rfl, ⟨y2, rfl⟩, ho⟩; clear ho)) | (go_at_call 57; fail))
  refine Calls.mono (owners57 lb a1 a2 pb vb _ (H.out.exts (by repeat (first | exact Exts.refl _ | apply Exts.andR | apply Exts.alloc | apply Exts.wext | apply Exts.drew | apply Exts.drewN))) (HH.out.exts (by repeat (first | exact Exts.refl _ | apply Exts.andR | apply Exts.alloc | apply Exts.wext | apply Exts.drew | apply Exts.drewN)))) ?_
  rintro e w' ⟨ao, c, rfl, ⟨y1, rfl⟩, hr⟩
  obtain ⟨b, off, rfl, lb', hc⟩ := rowF_at hr
  have c0 := hc 0 _ rfl
  rw [Nat.add_zero] at c0
  clear hc hr
  go_wp2_with (first | (go_at_call 56; ((with_reducible refine (contains56_1 b off c 2 _ (Exts.cell (by repeat (first | exact Exts.refl _ | apply Exts.andR | apply Exts.alloc | apply Exts.wext | apply Exts.drew | apply Exts.drewN)) c0)).mono ?_); rintro e w' ⟨rfl, y3, rfl⟩)))
  go_ret
  exact ⟨rfl, (by repeat (first | exact Exts.refl _ | apply Exts.andR | apply Exts.alloc | apply Exts.wext | apply Exts.drew | apply Exts.drewN))⟩
end Go.Proofs.YtgmjcgjbbogefaaGreat

/- calendar: Deadline where there are no holidays and no stays, and no days to wait. -/
namespace Go.Proofs.YtgmjcgjbbogefaaGreat
open Go.RowKit Go.Maps
set_option linter.unusedSimpArgs false
set_option linter.unusedVariables false
set_option maxRecDepth 100000
set_option maxHeartbeats 8000000
theorem clone109 (w : World) : Calls Tryz.prog 109 #[.slice none 0 0] w fun e w' => e = .returned (.slice none 0 0) ∧ Exts w w' := by
  have e := fun w => Lib.run_eql_slice_nil (P := Tryz.prog) w 68 200 none 0 0 0 0 Tryz.underlying68
  go_enter Tryz.func109, Tryz.ntmps109
  go_wp2
  go_ret
  exact ⟨rfl, (by repeat (first | exact Exts.refl _ | apply Exts.andR | apply Exts.alloc | apply Exts.wext | apply Exts.drew | apply Exts.drewN))⟩
theorem isort200_0 (v f : Value) (w : World) : Calls Tryz.prog 200 #[v, .int .i64 0, .int .i64 0, f] w fun e w' => e = .returned (.tuple #[]) ∧ Exts w w' := by
  go_enter Tryz.func200, Tryz.ntmps200
  go_wp2_with (first | (refine wp_loop_rounds 6 ?_; rw [rounds_succ]) | (rw [rounds_succ]))
  go_end0
  exact ⟨rfl, (by repeat (first | exact Exts.refl _ | apply Exts.andR | apply Exts.alloc | apply Exts.wext | apply Exts.drew | apply Exts.drewN))⟩
theorem pdq154_0 (v f : Value) (k : Int) (w : World) : Calls Tryz.prog 154 #[v, .int .i64 0, .int .i64 0, .int .i64 k, f] w fun e w' => e = .returned (.tuple #[]) ∧ Exts w w' := by
  go_enter Tryz.func154, Tryz.ntmps154
  go_wp2_with (first | (refine wp_loop_rounds 6 ?_; rw [rounds_succ]) | (rw [rounds_succ]) | (go_at_call 200; ((with_reducible refine (isort200_0 _ _ _).mono ?_); rintro e w' ⟨rfl, xl, rfl⟩)))
  refine bodyPost_ret (results_none rfl _ _ _) rfl ?_
  exact ⟨rfl, (by repeat (first | exact Exts.refl _ | apply Exts.andR | apply Exts.alloc | apply Exts.wext | apply Exts.drew | apply Exts.drewN))⟩
theorem sortF110_0 (f : Value) (w : World) : Calls Tryz.prog 110 #[.slice none 0 0, f] w fun e w' => e = .returned (.tuple #[]) ∧ Exts w w' := by
  go_enter Tryz.func110, Tryz.ntmps110
  go_wp2_with (first | (go_at_call 121; ((with_reducible refine (len121_0 _).mono ?_); rintro e w' ⟨rfl, xl, rfl⟩)) | (go_at_call 154; ((with_reducible refine (pdq154_0 _ _ _ _).mono ?_); rintro e w' ⟨rfl, xp, rfl⟩)))
  go_end0
  exact ⟨rfl, (by repeat (first | exact Exts.refl _ | apply Exts.andR | apply Exts.alloc | apply Exts.wext | apply Exts.drew | apply Exts.drewN))⟩
theorem calm75 (w : World) : Calls Tryz.prog 75 #[.slice none 0 0] w fun e w' => e = .returned (.tuple #[.slice none 0 0, .bool true]) ∧ Exts w w' := by
  go_enter Tryz.func75, Tryz.ntmps75
  go_wp2_with (first | (refine wp_loop_rounds 6 ?_; rw [rounds_succ]) | (rw [rounds_succ]) | (go_at_call 109; ((with_reducible refine (clone109 _).mono ?_); rintro e w' ⟨rfl, y1, rfl⟩)) | (go_at_call 110; ((with_reducible refine (sortF110_0 _ _).mono ?_); rintro e w' ⟨rfl, y2, rfl⟩)))
  go_ret2
  exact ⟨rfl, (by repeat (first | exact Exts.refl _ | apply Exts.andR | apply Exts.alloc | apply Exts.wext | apply Exts.drew | apply Exts.drewN))⟩
theorem deadline53 (w : World) : Calls Tryz.prog 53 #[.slice none 0 0, .slice none 0 0, .int .i64 0, .int .i64 0] w fun e w' => e = .returned (.tuple #[.int .i64 0, .int .i64 0]) ∧ Exts w w' := by
  go_enter Tryz.func53, Tryz.ntmps53
  go_wp2_with (first | (go_at_call 75; ((with_reducible refine (calm75 _).mono ?_); rintro e w' ⟨rfl, y1, rfl⟩)) | (go_at_call 76; ((with_reducible refine (right76 _).mono ?_); rintro e w' ⟨rfl, y2, rfl⟩)) | (go_at_call 77; ((with_reducible refine (isDay77 _).mono ?_); rintro e w' ⟨rfl, y3, rfl⟩)))
  go_ret2
  exact ⟨rfl, (by repeat (first | exact Exts.refl _ | apply Exts.andR | apply Exts.alloc | apply Exts.wext | apply Exts.drew | apply Exts.drewN))⟩
end Go.Proofs.YtgmjcgjbbogefaaGreat

/- hearing: Deadline, timely, judged at the example. -/
namespace Go.Proofs.YtgmjcgjbbogefaaGreat
open Go.RowKit Go.Maps
set_option linter.unusedSimpArgs false
set_option linter.unusedVariables false
set_option maxRecDepth 100000
set_option maxHeartbeats 8000000
theorem judged22 (lb pb : Nat) (co : Option Addr) (n c : Nat) (hn : 1 ≤ n) (hn2 : n ≤ 3) (w : World) : Calls Tryz.prog 22 #[.agg #[.slice none 0 0, .slice none 0 0, .slice none 0 0, .slice none 0 0, .slice none 0 0, .slice none 0 0, .slice none 0 0, .int .i64 0, .slice (some ⟨lb, 0, none⟩) 2 2, .slice none 0 0, .slice none 0 0, .slice none 0 0, .slice none 0 0, .int .i64 1, .slice (some ⟨pb, 0, none⟩) 1 1, .int .i64 0, .int .i64 1, .int .i64 0, .slice none 0 0, .slice none 0 0, .slice none 0 0, .slice co n c]] w fun e w' => e = .returned (.bool true) ∧ Exts w w' := by
  have q1 : decide ((1 : Int) ≤ (n : Int)) = true := by simp; omega
  have q2 : decide ((n : Int) ≤ 300) = true := by simp; omega
  clear hn hn2
  go_enter Tryz.func22, Tryz.ntmps22
  go_wp2
  go_ret
  exact ⟨by simp, (by repeat (first | exact Exts.refl _ | apply Exts.andR | apply Exts.alloc | apply Exts.wext | apply Exts.drew | apply Exts.drewN))⟩
end Go.Proofs.YtgmjcgjbbogefaaGreat
