/- casesSmall returns true. -/
import Derived.Test.YtgmjcgjbbogefaaGreatM22
namespace Go.Proofs.YtgmjcgjbbogefaaGreat
open Go.RowKit Go.Maps Go.Instr
set_option linter.unusedSimpArgs false
set_option linter.unusedVariables false
set_option maxRecDepth 100000
set_option maxHeartbeats 8000000
theorem dims_one {w : World} {b pb : Nat} (c0 : w.cell? ⟨b, 0, none⟩ = some (.int .i64 3)) (c1 : w.cell? ⟨b, 1, none⟩ = some (.slice (some ⟨pb, 0, none⟩) 2 2)) (hp : Prs (fun _ => True) w (some ⟨pb, 0, none⟩) 2 2 dmO) : Dims (fun _ => True) w (some ⟨b, 0, none⟩) 1 1 d1 := by
  refine ⟨rfl, [.int .i64 3, .slice (some ⟨pb, 0, none⟩) 2 2], rowF_cells rfl (by decide) (by unfold maxLen; decide) (World.block_lt_of_cell? w _ c0) (fun t v ht => ?_), fun i d hd => ?_⟩
  · match t, ht with
    | 0, ht => (simp at ht; subst ht; exact c0)
    | 1, ht => (simp at ht; subst ht; exact c1)
  · match i, hd with
    | 0, hd => (simp [d1] at hd; subst hd; exact ⟨_, rfl, rfl, _, _, rfl, hp⟩)
theorem ints_one {w : World} {b : Nat} {x : Int} (c0 : w.cell? ⟨b, 0, none⟩ = some (.int .i64 x)) : Ints (fun _ => True) w (some ⟨b, 0, none⟩) 1 1 [x] := by
  refine rowF_cells rfl (by decide) (by unfold maxLen; decide) (World.block_lt_of_cell? w _ c0) (fun t v ht => ?_)
  match t, ht with
  | 0, ht => (simp at ht; subst ht; exact c0)
theorem cases_none (w : World) : Cases (fun _ => True) w none 0 0 [] := ⟨rfl, by simp, [], RowF.nil _ _ _, by simp⟩
theorem land_new (w : World) : LandW (((w.alloc (.cells #[.int .i64 0, .int .i64 0, .int .i64 4, .int .i64 4] 41)).alloc (.cells #[.int .i64 4, .int .i64 0, .int .i64 8, .int .i64 4] 41)).alloc (.cells #[.int .i64 1, .int .i64 1, .slice (some ⟨w.heap.size, 0, none⟩) 1 1, .slice none 0 0, .int .i64 2, .int .i64 2, .slice (some ⟨w.heap.size + 1, 0, none⟩) 1 1, .slice none 0 0] 44)) (w.heap.size + 1 + 1) w.heap.size (w.heap.size + 1) := by
  refine ⟨fun i v hi => ?_, rowF_cells rfl (by decide) (by unfold maxLen; decide) (by simp <;> omega) (fun t v ht => ?_), rowF_cells rfl (by decide) (by unfold maxLen; decide) (by simp <;> omega) (fun t v ht => ?_)⟩
  · match i, hi with
    | 0, hi => (simp [landC] at hi; subst hi; simp [go_sem])
    | 1, hi => (simp [landC] at hi; subst hi; simp [go_sem])
    | 2, hi => (simp [landC] at hi; subst hi; simp [go_sem])
    | 3, hi => (simp [landC] at hi; subst hi; simp [go_sem])
    | 4, hi => (simp [landC] at hi; subst hi; simp [go_sem])
    | 5, hi => (simp [landC] at hi; subst hi; simp [go_sem])
    | 6, hi => (simp [landC] at hi; subst hi; simp [go_sem])
    | 7, hi => (simp [landC] at hi; subst hi; simp [go_sem])
  · match t, ht with
    | 0, ht => (simp [recV] at ht; subst ht; simp [go_sem])
    | 1, ht => (simp [recV] at ht; subst ht; simp [go_sem])
    | 2, ht => (simp [recV] at ht; subst ht; simp [go_sem])
    | 3, ht => (simp [recV] at ht; subst ht; simp [go_sem])
  · match t, ht with
    | 0, ht => (simp [recV] at ht; subst ht; simp [go_sem])
    | 1, ht => (simp [recV] at ht; subst ht; simp [go_sem])
    | 2, ht => (simp [recV] at ht; subst ht; simp [go_sem])
    | 3, ht => (simp [recV] at ht; subst ht; simp [go_sem])
/-- A whole hearing is stored at once. -/
def stV (t : TypeId) (a : Addr) (v : Value) : Sem Unit := storeVar t a v
@[go_sem ↓] theorem storeVar70 (a : Addr) (v : Value) : storeVar 70 a v = stV 70 a v := rfl
@[go_sem] theorem store70 (w : World) (b lb pb cb n c : Nat) (h : isRow w b 22) : (stV 70 ⟨b, 0, none⟩ (.agg #[.slice none 0 0, .slice none 0 0, .slice none 0 0, .slice none 0 0, .slice none 0 0, .slice none 0 0, .slice none 0 0, .int .i64 0, .slice (some ⟨lb, 0, none⟩) 2 2, .slice none 0 0, .slice none 0 0, .slice none 0 0, .slice none 0 0, .int .i64 1, .slice (some ⟨pb, 0, none⟩) 1 1, .int .i64 0, .int .i64 1, .int .i64 0, .slice none 0 0, .slice none 0 0, .slice none 0 0, .slice (some ⟨cb, 0, none⟩) n c])).run Tryz.prog w = .ok () (w.setRow b #[.slice none 0 0, .slice none 0 0, .slice none 0 0, .slice none 0 0, .slice none 0 0, .slice none 0 0, .slice none 0 0, .int .i64 0, .slice (some ⟨lb, 0, none⟩) 2 2, .slice none 0 0, .slice none 0 0, .slice none 0 0, .slice none 0 0, .int .i64 1, .slice (some ⟨pb, 0, none⟩) 1 1, .int .i64 0, .int .i64 1, .int .i64 0, .slice none 0 0, .slice none 0 0, .slice none 0 0, .slice (some ⟨cb, 0, none⟩) n c]) := by
  obtain ⟨c0, t, hb, hc⟩ := h
  exact run_storeVar_row w b t 70 c0 _ hb info70 hc (by simp [Value.oneCell'])
theorem claims_new (w : World) : ClaimsW ((w.alloc (.cells #[.int .i64 0] 3)).alloc (.cells #[.int .i64 1, .int .i64 0, .slice none 0 0, .int .i64 0, .string ⟨#[]⟩, .int .i64 0, .int .i64 2, .int .i64 0, .slice (some ⟨w.heap.size, 0, none⟩) 1 1, .int .i64 0, .string ⟨#[]⟩, .int .i64 0] 66)) ⟨#[]⟩ (w.heap.size + 1) 2 w.heap.size 0 := by
  refine ⟨fun i v hi => ?_, by simp [go_sem], fun hn => by cases hn⟩
  match i, hi with
  | 0, hi => (simp [claimC] at hi; subst hi; simp [go_sem])
  | 1, hi => (simp [claimC] at hi; subst hi; simp [go_sem])
  | 2, hi => (simp [claimC] at hi; subst hi; simp [go_sem])
  | 3, hi => (simp [claimC] at hi; subst hi; simp [go_sem])
  | 4, hi => (simp [claimC] at hi; subst hi; simp [go_sem])
  | 5, hi => (simp [claimC] at hi; subst hi; simp [go_sem])
  | 6, hi => (simp [claimC] at hi; subst hi; simp [go_sem])
  | 7, hi => (simp [claimC] at hi; subst hi; simp [go_sem])
  | 8, hi => (simp [claimC] at hi; subst hi; simp [go_sem])
  | 9, hi => (simp [claimC] at hi; subst hi; simp [go_sem])
  | 10, hi => (simp [claimC] at hi; subst hi; simp [go_sem])
  | 11, hi => (simp [claimC] at hi; subst hi; simp [go_sem])
  | k + 12, hi => (simp [claimC] at hi)
theorem claims_of {w : World} {cb b1 b2 : Nat} (q0 : w.cell? ⟨cb, 0, none⟩ = some (.int .i64 1)) (q1 : w.cell? ⟨cb, 1, none⟩ = some (.int .i64 0)) (q2 : w.cell? ⟨cb, 2, none⟩ = some (.slice none 0 0)) (q3 : w.cell? ⟨cb, 3, none⟩ = some (.int .i64 0)) (q4 : w.cell? ⟨cb, 4, none⟩ = some (.string ⟨#[]⟩)) (q5 : w.cell? ⟨cb, 5, none⟩ = some (.int .i64 0)) (q6 : w.cell? ⟨cb, 6, none⟩ = some (.int .i64 2)) (q7 : w.cell? ⟨cb, 7, none⟩ = some (.int .i64 0)) (q8 : w.cell? ⟨cb, 8, none⟩ = some (.slice (some ⟨b1, 0, none⟩) 1 1)) (q9 : w.cell? ⟨cb, 9, none⟩ = some (.int .i64 0)) (q10 : w.cell? ⟨cb, 10, none⟩ = some (.string ⟨#[]⟩)) (q11 : w.cell? ⟨cb, 11, none⟩ = some (.int .i64 0)) (q12 : w.cell? ⟨cb, 12, none⟩ = some (.int .i64 1)) (q13 : w.cell? ⟨cb, 13, none⟩ = some (.int .i64 0)) (q14 : w.cell? ⟨cb, 14, none⟩ = some (.slice (some ⟨b2, 0, none⟩) 1 1)) (q15 : w.cell? ⟨cb, 15, none⟩ = some (.int .i64 0)) (q16 : w.cell? ⟨cb, 16, none⟩ = some (.string ⟨#[]⟩)) (q17 : w.cell? ⟨cb, 17, none⟩ = some (.int .i64 0)) (d1 : w.cell? ⟨b1, 0, none⟩ = some (.int .i64 0)) (d2 : w.cell? ⟨b2, 0, none⟩ = some (.int .i64 1)) : ClaimsW w ⟨#[]⟩ cb 3 b1 b2 := by
  refine ⟨fun i v hi => ?_, d1, fun _ => d2⟩
  match i, hi with
  | 0, hi => (simp [claimC] at hi; subst hi; exact q0)
  | 1, hi => (simp [claimC] at hi; subst hi; exact q1)
  | 2, hi => (simp [claimC] at hi; subst hi; exact q2)
  | 3, hi => (simp [claimC] at hi; subst hi; exact q3)
  | 4, hi => (simp [claimC] at hi; subst hi; exact q4)
  | 5, hi => (simp [claimC] at hi; subst hi; exact q5)
  | 6, hi => (simp [claimC] at hi; subst hi; exact q6)
  | 7, hi => (simp [claimC] at hi; subst hi; exact q7)
  | 8, hi => (simp [claimC] at hi; subst hi; exact q8)
  | 9, hi => (simp [claimC] at hi; subst hi; exact q9)
  | 10, hi => (simp [claimC] at hi; subst hi; exact q10)
  | 11, hi => (simp [claimC] at hi; subst hi; exact q11)
  | 12, hi => (simp [claimC] at hi; subst hi; exact q12)
  | 13, hi => (simp [claimC] at hi; subst hi; exact q13)
  | 14, hi => (simp [claimC] at hi; subst hi; exact q14)
  | 15, hi => (simp [claimC] at hi; subst hi; exact q15)
  | 16, hi => (simp [claimC] at hi; subst hi; exact q16)
  | 17, hi => (simp [claimC] at hi; subst hi; exact q17)
  | k + 18, hi => (simp [claimC] at hi)
theorem calls_name {P : Program} {f : FuncId} {args : Array Value} {w : World} {R : Ending → World → Prop} (h : ∀ W, W = w → Calls P f args W R) : Calls P f args w R := h w rfl
theorem small4 (w : World) : Calls Tryz.prog 4 #[] w fun e w' => e = .returned (.bool true) ∧ Exts w w' := by
  go_enter Tryz.func4, Tryz.ntmps4
  go_wp2_with (first | (go_at_call 9; ((with_reducible refine (chain9 _).mono ?_); rintro e w' ⟨pb, rfl, ⟨y1, rfl⟩, hp⟩; (try simp only [wext_and] at hp); (have HP := Lib.hid hp); clear hp)) | (go_at_call 7; fail) | (go_at_call 10; fail) | (go_at_call 11; fail))
  refine Calls.mono (decide7_0 (S := fun _ => True) (S1 := fun _ => True) (S2 := fun _ => True) _ _ _ _ _ _ _ _ _ d1 [] [1] _ _ _ b1 1 _ (dims_one (b := w.heap.size + y1.bs.size) (pb := pb) (by simp [go_sem]) (by simp [go_sem]) (RowF.exts HP.out (by repeat (first | exact Exts.refl _ | apply Exts.andR | apply Exts.alloc | apply Exts.wext | apply Exts.drew | apply Exts.drewN)))) (cases_none _) (ints_one (b := w.heap.size + y1.bs.size + 1) (by simp [go_sem])) (by decide) (by decide) (by constructor <;> decide) (by simp) dec1 rfl) ?_
  rintro e W1 ⟨ro, rc, rfl, hx1, hc1⟩
  have HX1 := Lib.hid (show Exts w W1 from Exts.trans (by repeat (first | exact Exts.refl _ | apply Exts.andR | apply Exts.alloc | apply Exts.wext | apply Exts.drew | apply Exts.drewN)) hx1)
  have HD1 := Lib.hid (show Dims (fun _ => True) W1 (some ⟨w.heap.size + y1.bs.size, 0, none⟩) 1 1 d1 from Dims.exts (dims_one (b := w.heap.size + y1.bs.size) (pb := pb) (by simp [go_sem]) (by simp [go_sem]) (RowF.exts HP.out (by repeat (first | exact Exts.refl _ | apply Exts.andR | apply Exts.alloc | apply Exts.wext | apply Exts.drew | apply Exts.drewN)))) hx1)
  have HC1 := Lib.hid hc1
  clear hx1 hc1 HP
  go_wp2_with (first | (go_at_call 9; ((with_reducible refine (chain9 _).mono ?_); rintro e w' ⟨pb, rfl, ⟨y1, rfl⟩, hp⟩; (try simp only [wext_and] at hp); (have HP := Lib.hid hp); clear hp)) | (go_at_call 7; fail) | (go_at_call 10; fail) | (go_at_call 11; fail))
  refine Calls.mono (decide7_0 (S := fun _ => True) (S1 := fun _ => True) (S2 := fun _ => True) _ _ _ _ _ _ _ _ _ d1 b1 [2] _ _ _ (b1 ++ [⟨2, [2], true⟩]) 2 _ (HD1.out.exts (by repeat (first | exact Exts.refl _ | apply Exts.andR | apply Exts.alloc | apply Exts.wext | apply Exts.drew | apply Exts.drewN))) (HC1.out.exts (by repeat (first | exact Exts.refl _ | apply Exts.andR | apply Exts.alloc | apply Exts.wext | apply Exts.drew | apply Exts.drewN))) (ints_one (b := W1.heap.size) (by simp [go_sem])) (by decide) (by decide) (by constructor <;> decide) (by simp [b1]) dec2 rfl) ?_
  rintro e W2 ⟨ro2, rc2, rfl, hx2, hc2⟩
  have HX2 := Lib.hid (show Exts W1 W2 from Exts.trans (by repeat (first | exact Exts.refl _ | apply Exts.andR | apply Exts.alloc | apply Exts.wext | apply Exts.drew | apply Exts.drewN)) hx2)
  have HD2 := Lib.hid (HD1.out.exts HX2.out)
  have HC2 := Lib.hid (HC1.out.exts HX2.out)
  clear hx2 hc2 HC1 HD1
  go_wp2_with (first | (go_at_call 9; ((with_reducible refine (chain9 _).mono ?_); rintro e w' ⟨pb, rfl, ⟨y1, rfl⟩, hp⟩; (try simp only [wext_and] at hp); (have HP := Lib.hid hp); clear hp)) | (go_at_call 7; fail) | (go_at_call 10; fail) | (go_at_call 11; fail))
  refine Calls.mono (decide7_0 (S := fun _ => True) (S1 := fun _ => True) (S2 := fun _ => True) _ _ _ _ _ _ _ _ _ d1 b1 [0] _ _ _ (b1 ++ [⟨3, [0], false⟩]) 2 _ (HD2.out.exts (by repeat (first | exact Exts.refl _ | apply Exts.andR | apply Exts.alloc | apply Exts.wext | apply Exts.drew | apply Exts.drewN))) (HC2.out.exts (by repeat (first | exact Exts.refl _ | apply Exts.andR | apply Exts.alloc | apply Exts.wext | apply Exts.drew | apply Exts.drewN))) (ints_one (b := W2.heap.size) (by simp [go_sem])) (by decide) (by decide) (by constructor <;> decide) (by simp [b1]) dec3 rfl) ?_
  rintro e W3 ⟨ro3, rc3, rfl, hx3, hc3⟩
  have HX3 := Lib.hid (show Exts W2 W3 from Exts.trans (by repeat (first | exact Exts.refl _ | apply Exts.andR | apply Exts.alloc | apply Exts.wext | apply Exts.drew | apply Exts.drewN)) hx3)
  clear hx3 hc3 HC2 HD2
  go_wp2_with (first | (go_at_call 9; ((with_reducible refine (chain9 _).mono ?_); rintro e w' ⟨pb, rfl, ⟨y1, rfl⟩, hp⟩; (try simp only [wext_and] at hp); (have HP := Lib.hid hp); clear hp)) | (go_at_call 7; fail) | (go_at_call 10; fail) | (go_at_call 11; fail))
  refine Calls.mono (house10 _) ?_
  rintro e W4 ⟨pb2, vb, rfl, hx4, hh⟩
  have HX4 := Lib.hid (show Exts W3 W4 from Exts.trans (by repeat (first | exact Exts.refl _ | apply Exts.andR | apply Exts.alloc | apply Exts.wext | apply Exts.drew | apply Exts.drewN)) hx4)
  have HH := Lib.hid hh
  have HL := Lib.hid (show LandW W4 (W3.heap.size + 1 + 1) W3.heap.size (W3.heap.size + 1) from LandW.exts (land_new W3) (Exts.trans (by repeat (first | exact Exts.refl _ | apply Exts.andR | apply Exts.alloc | apply Exts.wext | apply Exts.drew | apply Exts.drewN)) hx4))
  clear hx4 hh
  go_wp2_with (first | (go_at_call 9; ((with_reducible refine (chain9 _).mono ?_); rintro e w' ⟨pb, rfl, ⟨y1, rfl⟩, hp⟩; (try simp only [wext_and] at hp); (have HP := Lib.hid hp); clear hp)) | (go_at_call 7; fail) | (go_at_call 10; fail) | (go_at_call 11; fail))
  refine Calls.mono (outcome11_2 ⟨#[]⟩ (W3.heap.size + 1 + 1) W3.heap.size (W3.heap.size + 1) pb2 vb (W4.heap.size + 1) W4.heap.size 0 2 _ (HL.out.exts (by repeat (first | exact Exts.refl _ | apply Exts.andR | apply Exts.alloc | apply Exts.wext | apply Exts.drew | apply Exts.drewN))) (HH.out.exts (by repeat (first | exact Exts.refl _ | apply Exts.andR | apply Exts.alloc | apply Exts.wext | apply Exts.drew | apply Exts.drewN))) (ClaimsW.exts (claims_new W4) (by repeat (first | exact Exts.refl _ | apply Exts.andR | apply Exts.alloc | apply Exts.wext | apply Exts.drew | apply Exts.drewN)))) ?_
  rintro e w' ⟨r5, rfl, x5, rfl⟩
  go_wp2_with (first | (go_at_call 9; ((with_reducible refine (chain9 _).mono ?_); rintro e w' ⟨pb, rfl, ⟨y1, rfl⟩, hp⟩; (try simp only [wext_and] at hp); (have HP := Lib.hid hp); clear hp)) | (go_at_call 7; fail) | (go_at_call 10; fail) | (go_at_call 11; fail))
  refine calls_name ?_
  intro W6 hW6
  have HX6 := Lib.hid (show Exts W4 W6 by rw [hW6]; exact (by repeat (first | exact Exts.refl _ | apply Exts.andR | apply Exts.alloc | apply Exts.wext | apply Exts.drew | apply Exts.drewN)))
  have HC6 := Lib.hid (show ClaimsW W6 ⟨#[]⟩ (W4.heap.size + 1 + 1 + 1 + x5.bs.size + 1 + 1) 3 W4.heap.size (W4.heap.size + 1 + 1 + 1 + x5.bs.size) by
    refine claims_of ?_ ?_ ?_ ?_ ?_ ?_ ?_ ?_ ?_ ?_ ?_ ?_ ?_ ?_ ?_ ?_ ?_ ?_ ?_ ?_ <;> first | (rw [hW6]; simp [go_sem]; done) | (rw [hW6]; simp [go_sem, Array.getElem?_append]; done))
  clear hW6
  refine Calls.mono (outcome11_3 ⟨#[]⟩ (W3.heap.size + 1 + 1) W3.heap.size (W3.heap.size + 1) pb2 vb (W4.heap.size + 1 + 1 + 1 + x5.bs.size + 1 + 1) W4.heap.size (W4.heap.size + 1 + 1 + 1 + x5.bs.size) _ _ (HL.out.exts HX6.out) (HH.out.exts HX6.out) HC6.out) ?_
  rintro e w' ⟨r7, rfl, x7, rfl⟩
  go_wp2_with (first | (go_at_call 9; ((with_reducible refine (chain9 _).mono ?_); rintro e w' ⟨pb, rfl, ⟨y1, rfl⟩, hp⟩; (try simp only [wext_and] at hp); (have HP := Lib.hid hp); clear hp)) | (go_at_call 7; fail) | (go_at_call 10; fail) | (go_at_call 11; fail))
  go_ret
  exact ⟨rfl, HX1.out.trans (HX2.out.trans (HX3.out.trans (HX4.out.trans (HX6.out.trans (by repeat (first | exact Exts.refl _ | apply Exts.andR | apply Exts.alloc | apply Exts.wext | apply Exts.drew | apply Exts.drewN))))))⟩
end Go.Proofs.YtgmjcgjbbogefaaGreat
