/- FactorJoins returns true. No condition. -/
import Derived.Test.YtbafcfbchbjgfaaLawPlain
import Derived.Test.YtbafcfbchbjgfaaSmall8
import Derived.Test.YtbafcfbchbjgfaaOrders
namespace Go.Proofs.Ytbafcfbchbjgfaa
open Go.RowKit
set_option linter.unusedSimpArgs false
set_option linter.unusedVariables false

set_option maxRecDepth 100000
set_option maxHeartbeats 2000000
theorem joins7_none {S S1 S2 S3 : Nat → Prop} (lo ao bo co : Option Addr) (n c na ca nb cb nc cc : Nat) (D : List Dm) (al bl cl : List Int) (w : World) (h : Dims S w lo n c D) (ha : Ints S1 w ao na ca al) (hb : Ints S2 w bo nb cb bl) (hc : Ints S3 w co nc cc cl) (f1 : fewD D = true) (f2 : rightD D = true) (f3 : inD D al = true) (f4 : inD D bl = true) (f5 : inD D cl = true) (f6 : belowD D al bl = false) (js : List Int) (f7 : joinsD D al bl = (js, false)) (f8 : joinsD D bl al = (js, false)) (f9 : js.length = 0) :
    Calls Try.prog 7 #[.slice lo n c, .slice ao na ca, .slice bo nb cb, .slice co nc cc] w fun e w' => e = .returned (.bool true) ∧ Exts w w' := by
  have hm := h.nle
  unfold maxLen at hm
  have H := Lib.hid h
  have HA := Lib.hid ha
  have HB := Lib.hid hb
  have HC := Lib.hid hc
  clear h ha hb hc
  have HFW := Lib.hid f1
  have HRD := Lib.hid f2
  have HVA := Lib.hid f3
  have HVB := Lib.hid f4
  have HVC := Lib.hid f5
  have HAB := Lib.hid f6
  have HJ1 := Lib.hid f7
  have HJ2 := Lib.hid f8
  have HLN := Lib.hid f9
  clear f1 f2 f3 f4 f5 f6 f7 f8 f9
  go_enter Try.func7, Try.ntmps7
  go_wp2_with (first | (go_at_call 8; ((with_reducible refine (small8 _).mono ?_); rintro e w' ⟨rfl, x0, rfl⟩)) | (go_at_call 9; ((with_reducible refine (few9_D _ _ _ D _ _ (H.out.exts (by repeat (first | exact Exts.refl _ | apply Exts.andR | apply Exts.alloc | apply Exts.wext | apply Exts.drew | apply Exts.drewN))) HFW.out).mono ?_); rintro e w' ⟨rfl, x1, rfl⟩)) | (go_at_call 19; ((with_reducible refine (right19_D _ _ _ D _ _ (H.out.exts (by repeat (first | exact Exts.refl _ | apply Exts.andR | apply Exts.alloc | apply Exts.wext | apply Exts.drew | apply Exts.drewN))) HRD.out).mono ?_); rintro e w' ⟨rfl, x2, rfl⟩)) | (go_at_call 29; ((with_reducible refine (vector29_D lo ao _ _ _ _ D al _ _ (H.out.exts (by repeat (first | exact Exts.refl _ | apply Exts.andR | apply Exts.alloc | apply Exts.wext | apply Exts.drew | apply Exts.drewN))) (RowF.exts HA.out (by repeat (first | exact Exts.refl _ | apply Exts.andR | apply Exts.alloc | apply Exts.wext | apply Exts.drew | apply Exts.drewN))) HVA.out).mono ?_); rintro e w' ⟨rfl, x3, rfl⟩)) | (go_at_call 29; ((with_reducible refine (vector29_D lo bo _ _ _ _ D bl _ _ (H.out.exts (by repeat (first | exact Exts.refl _ | apply Exts.andR | apply Exts.alloc | apply Exts.wext | apply Exts.drew | apply Exts.drewN))) (RowF.exts HB.out (by repeat (first | exact Exts.refl _ | apply Exts.andR | apply Exts.alloc | apply Exts.wext | apply Exts.drew | apply Exts.drewN))) HVB.out).mono ?_); rintro e w' ⟨rfl, x4, rfl⟩)) | (go_at_call 29; ((with_reducible refine (vector29_D lo co _ _ _ _ D cl _ _ (H.out.exts (by repeat (first | exact Exts.refl _ | apply Exts.andR | apply Exts.alloc | apply Exts.wext | apply Exts.drew | apply Exts.drewN))) (RowF.exts HC.out (by repeat (first | exact Exts.refl _ | apply Exts.andR | apply Exts.alloc | apply Exts.wext | apply Exts.drew | apply Exts.drewN))) HVC.out).mono ?_); rintro e w' ⟨rfl, x5, rfl⟩)) | (go_at_call 23; ((with_reducible refine (below23_D lo ao bo _ _ _ _ _ _ D al bl _ _ (H.out.exts (by repeat (first | exact Exts.refl _ | apply Exts.andR | apply Exts.alloc | apply Exts.wext | apply Exts.drew | apply Exts.drewN))) (RowF.exts HA.out (by repeat (first | exact Exts.refl _ | apply Exts.andR | apply Exts.alloc | apply Exts.wext | apply Exts.drew | apply Exts.drewN))) (RowF.exts HB.out (by repeat (first | exact Exts.refl _ | apply Exts.andR | apply Exts.alloc | apply Exts.wext | apply Exts.drew | apply Exts.drewN))) HAB.out).mono ?_); rintro e w' ⟨rfl, x6, rfl⟩)) | (go_at_call 17; ((with_reducible refine (joins17_D lo ao bo _ _ _ _ _ _ D al bl js _ _ _ (H.out.exts (by repeat (first | exact Exts.refl _ | apply Exts.andR | apply Exts.alloc | apply Exts.wext | apply Exts.drew | apply Exts.drewN))) (RowF.exts HA.out (by repeat (first | exact Exts.refl _ | apply Exts.andR | apply Exts.alloc | apply Exts.wext | apply Exts.drew | apply Exts.drewN))) (RowF.exts HB.out (by repeat (first | exact Exts.refl _ | apply Exts.andR | apply Exts.alloc | apply Exts.wext | apply Exts.drew | apply Exts.drewN))) HJ1.out HLN.out).mono ?_); rintro e w' ⟨jo, jc, rfl, ⟨x12, rfl⟩, hj⟩; (try simp only [wext_and] at hj); (have HJ := Lib.hid (RowF.mono (S' := fun _ => True) hj fun _ _ => trivial)); clear hj)) | (go_at_call 17; ((with_reducible refine (joins17_D lo bo ao _ _ _ _ _ _ D bl al js _ _ _ (H.out.exts (by repeat (first | exact Exts.refl _ | apply Exts.andR | apply Exts.alloc | apply Exts.wext | apply Exts.drew | apply Exts.drewN))) (RowF.exts HB.out (by repeat (first | exact Exts.refl _ | apply Exts.andR | apply Exts.alloc | apply Exts.wext | apply Exts.drew | apply Exts.drewN))) (RowF.exts HA.out (by repeat (first | exact Exts.refl _ | apply Exts.andR | apply Exts.alloc | apply Exts.wext | apply Exts.drew | apply Exts.drewN))) HJ2.out HLN.out).mono ?_); rintro e w' ⟨ko, kc, rfl, ⟨x13, rfl⟩, hk⟩; (try simp only [wext_and] at hk); (have HK := Lib.hid (RowF.mono (S' := fun _ => True) hk fun _ _ => trivial)); clear hk)) | (go_at_call 12; ((with_reducible refine (ints12_D jo ko _ _ _ _ js js _ _ (RowF.exts HJ.out (by repeat (first | exact Exts.refl _ | apply Exts.andR | apply Exts.alloc | apply Exts.wext | apply Exts.drew | apply Exts.drewN))) (RowF.exts HK.out (by repeat (first | exact Exts.refl _ | apply Exts.andR | apply Exts.alloc | apply Exts.wext | apply Exts.drew | apply Exts.drewN))) (decide_eq_true rfl)).mono ?_); rintro e w' ⟨rfl, x14, rfl⟩)))
  go_ret
  exact ⟨rfl, (by repeat (first | exact Exts.refl _ | apply Exts.andR | apply Exts.alloc | apply Exts.wext | apply Exts.drew | apply Exts.drewN))⟩
theorem joins7_some {S S1 S2 S3 : Nat → Prop} (lo ao bo co : Option Addr) (n c na ca nb cb nc cc : Nat) (D : List Dm) (al bl cl : List Int) (w : World) (h : Dims S w lo n c D) (ha : Ints S1 w ao na ca al) (hb : Ints S2 w bo nb cb bl) (hc : Ints S3 w co nc cc cl) (f1 : fewD D = true) (f2 : rightD D = true) (f3 : inD D al = true) (f4 : inD D bl = true) (f5 : inD D cl = true) (ab ac bc jb : Bool) (f6 : belowD D al bl = ab) (js : List Int) (f7 : joinsD D al bl = (js, true)) (f8 : joinsD D bl al = (js, true)) (len : Nat) (f9 : js.length = len) (f10 : belowD D al cl = ac) (f11 : belowD D bl cl = bc) (f12 : belowD D al js = true) (f13 : belowD D bl js = true) (jc' : Bool) (f14 : belowD D js cl = jc') (f15 : decide (js = bl) = jb)
    (hcase : (ab = false ∨ ab = true ∧ jb = true) ∧ (ac = false ∨ ac = true ∧ bc = false ∨ ac = true ∧ bc = true ∧ jc' = true)) :
    Calls Try.prog 7 #[.slice lo n c, .slice ao na ca, .slice bo nb cb, .slice co nc cc] w fun e w' => e = .returned (.bool true) ∧ Exts w w' := by
  have hm := h.nle
  unfold maxLen at hm
  have H := Lib.hid h
  have HA := Lib.hid ha
  have HB := Lib.hid hb
  have HC := Lib.hid hc
  clear h ha hb hc
  have HFW := Lib.hid f1
  have HRD := Lib.hid f2
  have HVA := Lib.hid f3
  have HVB := Lib.hid f4
  have HVC := Lib.hid f5
  have HAB := Lib.hid f6
  have HJ1 := Lib.hid f7
  have HJ2 := Lib.hid f8
  have HLN := Lib.hid f9
  have HAC := Lib.hid f10
  have HBC := Lib.hid f11
  have HAJ := Lib.hid f12
  have HBJ := Lib.hid f13
  have HJC := Lib.hid f14
  have HJB := Lib.hid f15
  clear f1 f2 f3 f4 f5 f6 f7 f8 f9 f10 f11 f12 f13 f14 f15
  rcases hcase with ⟨rfl | ⟨rfl, rfl⟩, rfl | ⟨rfl, rfl⟩ | ⟨rfl, rfl, rfl⟩⟩
  all_goals
    go_enter Try.func7, Try.ntmps7
    go_wp2_with (first | (go_at_call 8; ((with_reducible refine (small8 _).mono ?_); rintro e w' ⟨rfl, x0, rfl⟩)) | (go_at_call 9; ((with_reducible refine (few9_D _ _ _ D _ _ (H.out.exts (by repeat (first | exact Exts.refl _ | apply Exts.andR | apply Exts.alloc | apply Exts.wext | apply Exts.drew | apply Exts.drewN))) HFW.out).mono ?_); rintro e w' ⟨rfl, x1, rfl⟩)) | (go_at_call 19; ((with_reducible refine (right19_D _ _ _ D _ _ (H.out.exts (by repeat (first | exact Exts.refl _ | apply Exts.andR | apply Exts.alloc | apply Exts.wext | apply Exts.drew | apply Exts.drewN))) HRD.out).mono ?_); rintro e w' ⟨rfl, x2, rfl⟩)) | (go_at_call 29; ((with_reducible refine (vector29_D lo ao _ _ _ _ D al _ _ (H.out.exts (by repeat (first | exact Exts.refl _ | apply Exts.andR | apply Exts.alloc | apply Exts.wext | apply Exts.drew | apply Exts.drewN))) (RowF.exts HA.out (by repeat (first | exact Exts.refl _ | apply Exts.andR | apply Exts.alloc | apply Exts.wext | apply Exts.drew | apply Exts.drewN))) HVA.out).mono ?_); rintro e w' ⟨rfl, x3, rfl⟩)) | (go_at_call 29; ((with_reducible refine (vector29_D lo bo _ _ _ _ D bl _ _ (H.out.exts (by repeat (first | exact Exts.refl _ | apply Exts.andR | apply Exts.alloc | apply Exts.wext | apply Exts.drew | apply Exts.drewN))) (RowF.exts HB.out (by repeat (first | exact Exts.refl _ | apply Exts.andR | apply Exts.alloc | apply Exts.wext | apply Exts.drew | apply Exts.drewN))) HVB.out).mono ?_); rintro e w' ⟨rfl, x4, rfl⟩)) | (go_at_call 29; ((with_reducible refine (vector29_D lo co _ _ _ _ D cl _ _ (H.out.exts (by repeat (first | exact Exts.refl _ | apply Exts.andR | apply Exts.alloc | apply Exts.wext | apply Exts.drew | apply Exts.drewN))) (RowF.exts HC.out (by repeat (first | exact Exts.refl _ | apply Exts.andR | apply Exts.alloc | apply Exts.wext | apply Exts.drew | apply Exts.drewN))) HVC.out).mono ?_); rintro e w' ⟨rfl, x5, rfl⟩)) | (go_at_call 23; ((with_reducible refine (below23_D lo ao bo _ _ _ _ _ _ D al bl _ _ (H.out.exts (by repeat (first | exact Exts.refl _ | apply Exts.andR | apply Exts.alloc | apply Exts.wext | apply Exts.drew | apply Exts.drewN))) (RowF.exts HA.out (by repeat (first | exact Exts.refl _ | apply Exts.andR | apply Exts.alloc | apply Exts.wext | apply Exts.drew | apply Exts.drewN))) (RowF.exts HB.out (by repeat (first | exact Exts.refl _ | apply Exts.andR | apply Exts.alloc | apply Exts.wext | apply Exts.drew | apply Exts.drewN))) HAB.out).mono ?_); rintro e w' ⟨rfl, x6, rfl⟩)) | (go_at_call 17; ((with_reducible refine (joins17_D lo ao bo _ _ _ _ _ _ D al bl js _ _ _ (H.out.exts (by repeat (first | exact Exts.refl _ | apply Exts.andR | apply Exts.alloc | apply Exts.wext | apply Exts.drew | apply Exts.drewN))) (RowF.exts HA.out (by repeat (first | exact Exts.refl _ | apply Exts.andR | apply Exts.alloc | apply Exts.wext | apply Exts.drew | apply Exts.drewN))) (RowF.exts HB.out (by repeat (first | exact Exts.refl _ | apply Exts.andR | apply Exts.alloc | apply Exts.wext | apply Exts.drew | apply Exts.drewN))) HJ1.out HLN.out).mono ?_); rintro e w' ⟨jo, jc, rfl, ⟨x12, rfl⟩, hj⟩; (try simp only [wext_and] at hj); (have HJ := Lib.hid (RowF.mono (S' := fun _ => True) hj fun _ _ => trivial)); clear hj)) | (go_at_call 17; ((with_reducible refine (joins17_D lo bo ao _ _ _ _ _ _ D bl al js _ _ _ (H.out.exts (by repeat (first | exact Exts.refl _ | apply Exts.andR | apply Exts.alloc | apply Exts.wext | apply Exts.drew | apply Exts.drewN))) (RowF.exts HB.out (by repeat (first | exact Exts.refl _ | apply Exts.andR | apply Exts.alloc | apply Exts.wext | apply Exts.drew | apply Exts.drewN))) (RowF.exts HA.out (by repeat (first | exact Exts.refl _ | apply Exts.andR | apply Exts.alloc | apply Exts.wext | apply Exts.drew | apply Exts.drewN))) HJ2.out HLN.out).mono ?_); rintro e w' ⟨ko, kc, rfl, ⟨x13, rfl⟩, hk⟩; (try simp only [wext_and] at hk); (have HK := Lib.hid (RowF.mono (S' := fun _ => True) hk fun _ _ => trivial)); clear hk)) | (go_at_call 12; ((with_reducible refine (ints12_D jo ko _ _ _ _ js js _ _ (RowF.exts HJ.out (by repeat (first | exact Exts.refl _ | apply Exts.andR | apply Exts.alloc | apply Exts.wext | apply Exts.drew | apply Exts.drewN))) (RowF.exts HK.out (by repeat (first | exact Exts.refl _ | apply Exts.andR | apply Exts.alloc | apply Exts.wext | apply Exts.drew | apply Exts.drewN))) (decide_eq_true rfl)).mono ?_); rintro e w' ⟨rfl, x14, rfl⟩)) | (go_at_call 12; ((with_reducible refine (ints12_D jo bo _ _ _ _ js bl _ _ (RowF.exts HJ.out (by repeat (first | exact Exts.refl _ | apply Exts.andR | apply Exts.alloc | apply Exts.wext | apply Exts.drew | apply Exts.drewN))) (RowF.exts HB.out (by repeat (first | exact Exts.refl _ | apply Exts.andR | apply Exts.alloc | apply Exts.wext | apply Exts.drew | apply Exts.drewN))) HJB.out).mono ?_); rintro e w' ⟨rfl, x15, rfl⟩)) | (go_at_call 23; ((with_reducible refine (below23_D lo ao co _ _ _ _ _ _ D al cl _ _ (H.out.exts (by repeat (first | exact Exts.refl _ | apply Exts.andR | apply Exts.alloc | apply Exts.wext | apply Exts.drew | apply Exts.drewN))) (RowF.exts HA.out (by repeat (first | exact Exts.refl _ | apply Exts.andR | apply Exts.alloc | apply Exts.wext | apply Exts.drew | apply Exts.drewN))) (RowF.exts HC.out (by repeat (first | exact Exts.refl _ | apply Exts.andR | apply Exts.alloc | apply Exts.wext | apply Exts.drew | apply Exts.drewN))) HAC.out).mono ?_); rintro e w' ⟨rfl, x11, rfl⟩)) | (go_at_call 23; ((with_reducible refine (below23_D lo bo co _ _ _ _ _ _ D bl cl _ _ (H.out.exts (by repeat (first | exact Exts.refl _ | apply Exts.andR | apply Exts.alloc | apply Exts.wext | apply Exts.drew | apply Exts.drewN))) (RowF.exts HB.out (by repeat (first | exact Exts.refl _ | apply Exts.andR | apply Exts.alloc | apply Exts.wext | apply Exts.drew | apply Exts.drewN))) (RowF.exts HC.out (by repeat (first | exact Exts.refl _ | apply Exts.andR | apply Exts.alloc | apply Exts.wext | apply Exts.drew | apply Exts.drewN))) HBC.out).mono ?_); rintro e w' ⟨rfl, x10, rfl⟩)) | (go_at_call 23; ((with_reducible refine (below23_D lo ao jo _ _ _ _ _ _ D al js _ _ (H.out.exts (by repeat (first | exact Exts.refl _ | apply Exts.andR | apply Exts.alloc | apply Exts.wext | apply Exts.drew | apply Exts.drewN))) (RowF.exts HA.out (by repeat (first | exact Exts.refl _ | apply Exts.andR | apply Exts.alloc | apply Exts.wext | apply Exts.drew | apply Exts.drewN))) (RowF.exts HJ.out (by repeat (first | exact Exts.refl _ | apply Exts.andR | apply Exts.alloc | apply Exts.wext | apply Exts.drew | apply Exts.drewN))) HAJ.out).mono ?_); rintro e w' ⟨rfl, x16, rfl⟩)) | (go_at_call 23; ((with_reducible refine (below23_D lo bo jo _ _ _ _ _ _ D bl js _ _ (H.out.exts (by repeat (first | exact Exts.refl _ | apply Exts.andR | apply Exts.alloc | apply Exts.wext | apply Exts.drew | apply Exts.drewN))) (RowF.exts HB.out (by repeat (first | exact Exts.refl _ | apply Exts.andR | apply Exts.alloc | apply Exts.wext | apply Exts.drew | apply Exts.drewN))) (RowF.exts HJ.out (by repeat (first | exact Exts.refl _ | apply Exts.andR | apply Exts.alloc | apply Exts.wext | apply Exts.drew | apply Exts.drewN))) HBJ.out).mono ?_); rintro e w' ⟨rfl, x17, rfl⟩)) | (go_at_call 23; ((with_reducible refine (below23_D lo jo co _ _ _ _ _ _ D js cl _ _ (H.out.exts (by repeat (first | exact Exts.refl _ | apply Exts.andR | apply Exts.alloc | apply Exts.wext | apply Exts.drew | apply Exts.drewN))) (RowF.exts HJ.out (by repeat (first | exact Exts.refl _ | apply Exts.andR | apply Exts.alloc | apply Exts.wext | apply Exts.drew | apply Exts.drewN))) (RowF.exts HC.out (by repeat (first | exact Exts.refl _ | apply Exts.andR | apply Exts.alloc | apply Exts.wext | apply Exts.drew | apply Exts.drewN))) HJC.out).mono ?_); rintro e w' ⟨rfl, x18, rfl⟩)))
    go_ret
    exact ⟨rfl, (by repeat (first | exact Exts.refl _ | apply Exts.andR | apply Exts.alloc | apply Exts.wext | apply Exts.drew | apply Exts.drewN))⟩
theorem joins_no7 {S S1 S2 S3 : Nat → Prop} (lo ao bo co : Option Addr) (n c na ca nb cb nc cc : Nat) (D : List Dm) (al bl cl : List Int) (w : World) (h : Dims S w lo n c D) (ha : Ints S1 w ao na ca al) (hb : Ints S2 w bo nb cb bl) (hc : Ints S3 w co nc cc cl) (f1 : fewD D = false ∨ fewD D = true ∧ rightD D = false ∨ fewD D = true ∧ rightD D = true ∧ inD D al = false ∨ fewD D = true ∧ rightD D = true ∧ inD D al = true ∧ inD D bl = false ∨ fewD D = true ∧ rightD D = true ∧ inD D al = true ∧ inD D bl = true ∧ inD D cl = false) :
    Calls Try.prog 7 #[.slice lo n c, .slice ao na ca, .slice bo nb cb, .slice co nc cc] w fun e w' => e = .returned (.bool true) ∧ Exts w w' := by
  have hm := h.nle
  unfold maxLen at hm
  have H := Lib.hid h
  have HA := Lib.hid ha
  have HB := Lib.hid hb
  have HC := Lib.hid hc
  clear h ha hb hc
  rcases f1 with f1 | ⟨f1, f2⟩ | ⟨f1, f2, f3⟩ | ⟨f1, f2, f3, f4⟩ | ⟨f1, f2, f3, f4, f5⟩
  · have HFW := Lib.hid f1
    clear f1
    go_enter Try.func7, Try.ntmps7
    go_wp2_with (first | (go_at_call 8; ((with_reducible refine (small8 _).mono ?_); rintro e w' ⟨rfl, x0, rfl⟩)) | (go_at_call 9; ((with_reducible refine (few9_D _ _ _ D _ _ (H.out.exts (by repeat (first | exact Exts.refl _ | apply Exts.andR | apply Exts.alloc | apply Exts.wext | apply Exts.drew | apply Exts.drewN))) HFW.out).mono ?_); rintro e w' ⟨rfl, x1, rfl⟩)))
    go_ret
    exact ⟨rfl, (by repeat (first | exact Exts.refl _ | apply Exts.andR | apply Exts.alloc | apply Exts.wext | apply Exts.drew | apply Exts.drewN))⟩
  · have HFW := Lib.hid f1; have HRD := Lib.hid f2
    clear f1 f2
    go_enter Try.func7, Try.ntmps7
    go_wp2_with (first | (go_at_call 8; ((with_reducible refine (small8 _).mono ?_); rintro e w' ⟨rfl, x0, rfl⟩)) | (go_at_call 9; ((with_reducible refine (few9_D _ _ _ D _ _ (H.out.exts (by repeat (first | exact Exts.refl _ | apply Exts.andR | apply Exts.alloc | apply Exts.wext | apply Exts.drew | apply Exts.drewN))) HFW.out).mono ?_); rintro e w' ⟨rfl, x1, rfl⟩)) | (go_at_call 19; ((with_reducible refine (right19_D _ _ _ D _ _ (H.out.exts (by repeat (first | exact Exts.refl _ | apply Exts.andR | apply Exts.alloc | apply Exts.wext | apply Exts.drew | apply Exts.drewN))) HRD.out).mono ?_); rintro e w' ⟨rfl, x2, rfl⟩)))
    go_ret
    exact ⟨rfl, (by repeat (first | exact Exts.refl _ | apply Exts.andR | apply Exts.alloc | apply Exts.wext | apply Exts.drew | apply Exts.drewN))⟩
  · have HFW := Lib.hid f1; have HRD := Lib.hid f2; have HVA := Lib.hid f3
    clear f1 f2 f3
    go_enter Try.func7, Try.ntmps7
    go_wp2_with (first | (go_at_call 8; ((with_reducible refine (small8 _).mono ?_); rintro e w' ⟨rfl, x0, rfl⟩)) | (go_at_call 9; ((with_reducible refine (few9_D _ _ _ D _ _ (H.out.exts (by repeat (first | exact Exts.refl _ | apply Exts.andR | apply Exts.alloc | apply Exts.wext | apply Exts.drew | apply Exts.drewN))) HFW.out).mono ?_); rintro e w' ⟨rfl, x1, rfl⟩)) | (go_at_call 19; ((with_reducible refine (right19_D _ _ _ D _ _ (H.out.exts (by repeat (first | exact Exts.refl _ | apply Exts.andR | apply Exts.alloc | apply Exts.wext | apply Exts.drew | apply Exts.drewN))) HRD.out).mono ?_); rintro e w' ⟨rfl, x2, rfl⟩)) | (go_at_call 29; ((with_reducible refine (vector29_D lo ao _ _ _ _ D al _ _ (H.out.exts (by repeat (first | exact Exts.refl _ | apply Exts.andR | apply Exts.alloc | apply Exts.wext | apply Exts.drew | apply Exts.drewN))) (RowF.exts HA.out (by repeat (first | exact Exts.refl _ | apply Exts.andR | apply Exts.alloc | apply Exts.wext | apply Exts.drew | apply Exts.drewN))) HVA.out).mono ?_); rintro e w' ⟨rfl, x3, rfl⟩)))
    go_ret
    exact ⟨rfl, (by repeat (first | exact Exts.refl _ | apply Exts.andR | apply Exts.alloc | apply Exts.wext | apply Exts.drew | apply Exts.drewN))⟩
  · have HFW := Lib.hid f1; have HRD := Lib.hid f2; have HVA := Lib.hid f3; have HVB := Lib.hid f4
    clear f1 f2 f3 f4
    go_enter Try.func7, Try.ntmps7
    go_wp2_with (first | (go_at_call 8; ((with_reducible refine (small8 _).mono ?_); rintro e w' ⟨rfl, x0, rfl⟩)) | (go_at_call 9; ((with_reducible refine (few9_D _ _ _ D _ _ (H.out.exts (by repeat (first | exact Exts.refl _ | apply Exts.andR | apply Exts.alloc | apply Exts.wext | apply Exts.drew | apply Exts.drewN))) HFW.out).mono ?_); rintro e w' ⟨rfl, x1, rfl⟩)) | (go_at_call 19; ((with_reducible refine (right19_D _ _ _ D _ _ (H.out.exts (by repeat (first | exact Exts.refl _ | apply Exts.andR | apply Exts.alloc | apply Exts.wext | apply Exts.drew | apply Exts.drewN))) HRD.out).mono ?_); rintro e w' ⟨rfl, x2, rfl⟩)) | (go_at_call 29; ((with_reducible refine (vector29_D lo ao _ _ _ _ D al _ _ (H.out.exts (by repeat (first | exact Exts.refl _ | apply Exts.andR | apply Exts.alloc | apply Exts.wext | apply Exts.drew | apply Exts.drewN))) (RowF.exts HA.out (by repeat (first | exact Exts.refl _ | apply Exts.andR | apply Exts.alloc | apply Exts.wext | apply Exts.drew | apply Exts.drewN))) HVA.out).mono ?_); rintro e w' ⟨rfl, x3, rfl⟩)) | (go_at_call 29; ((with_reducible refine (vector29_D lo bo _ _ _ _ D bl _ _ (H.out.exts (by repeat (first | exact Exts.refl _ | apply Exts.andR | apply Exts.alloc | apply Exts.wext | apply Exts.drew | apply Exts.drewN))) (RowF.exts HB.out (by repeat (first | exact Exts.refl _ | apply Exts.andR | apply Exts.alloc | apply Exts.wext | apply Exts.drew | apply Exts.drewN))) HVB.out).mono ?_); rintro e w' ⟨rfl, x4, rfl⟩)))
    go_ret
    exact ⟨rfl, (by repeat (first | exact Exts.refl _ | apply Exts.andR | apply Exts.alloc | apply Exts.wext | apply Exts.drew | apply Exts.drewN))⟩
  · have HFW := Lib.hid f1; have HRD := Lib.hid f2; have HVA := Lib.hid f3; have HVB := Lib.hid f4; have HVC := Lib.hid f5
    clear f1 f2 f3 f4 f5
    go_enter Try.func7, Try.ntmps7
    go_wp2_with (first | (go_at_call 8; ((with_reducible refine (small8 _).mono ?_); rintro e w' ⟨rfl, x0, rfl⟩)) | (go_at_call 9; ((with_reducible refine (few9_D _ _ _ D _ _ (H.out.exts (by repeat (first | exact Exts.refl _ | apply Exts.andR | apply Exts.alloc | apply Exts.wext | apply Exts.drew | apply Exts.drewN))) HFW.out).mono ?_); rintro e w' ⟨rfl, x1, rfl⟩)) | (go_at_call 19; ((with_reducible refine (right19_D _ _ _ D _ _ (H.out.exts (by repeat (first | exact Exts.refl _ | apply Exts.andR | apply Exts.alloc | apply Exts.wext | apply Exts.drew | apply Exts.drewN))) HRD.out).mono ?_); rintro e w' ⟨rfl, x2, rfl⟩)) | (go_at_call 29; ((with_reducible refine (vector29_D lo ao _ _ _ _ D al _ _ (H.out.exts (by repeat (first | exact Exts.refl _ | apply Exts.andR | apply Exts.alloc | apply Exts.wext | apply Exts.drew | apply Exts.drewN))) (RowF.exts HA.out (by repeat (first | exact Exts.refl _ | apply Exts.andR | apply Exts.alloc | apply Exts.wext | apply Exts.drew | apply Exts.drewN))) HVA.out).mono ?_); rintro e w' ⟨rfl, x3, rfl⟩)) | (go_at_call 29; ((with_reducible refine (vector29_D lo bo _ _ _ _ D bl _ _ (H.out.exts (by repeat (first | exact Exts.refl _ | apply Exts.andR | apply Exts.alloc | apply Exts.wext | apply Exts.drew | apply Exts.drewN))) (RowF.exts HB.out (by repeat (first | exact Exts.refl _ | apply Exts.andR | apply Exts.alloc | apply Exts.wext | apply Exts.drew | apply Exts.drewN))) HVB.out).mono ?_); rintro e w' ⟨rfl, x4, rfl⟩)) | (go_at_call 29; ((with_reducible refine (vector29_D lo co _ _ _ _ D cl _ _ (H.out.exts (by repeat (first | exact Exts.refl _ | apply Exts.andR | apply Exts.alloc | apply Exts.wext | apply Exts.drew | apply Exts.drewN))) (RowF.exts HC.out (by repeat (first | exact Exts.refl _ | apply Exts.andR | apply Exts.alloc | apply Exts.wext | apply Exts.drew | apply Exts.drewN))) HVC.out).mono ?_); rintro e w' ⟨rfl, x5, rfl⟩)))
    go_ret
    exact ⟨rfl, (by repeat (first | exact Exts.refl _ | apply Exts.andR | apply Exts.alloc | apply Exts.wext | apply Exts.drew | apply Exts.drewN))⟩
theorem joins7 {S S1 S2 S3 : Nat → Prop} (lo ao bo co : Option Addr) (n c na ca nb cb nc cc : Nat) (D : List Dm) (al bl cl : List Int) (w : World) (h : Dims S w lo n c D) (ha : Ints S1 w ao na ca al) (hb : Ints S2 w bo nb cb bl) (hc : Ints S3 w co nc cc cl) :
    Calls Try.prog 7 #[.slice lo n c, .slice ao na ca, .slice bo nb cb, .slice co nc cc] w fun e w' => e = .returned (.bool true) ∧ Exts w w' := by
  by_cases f1 : fewD D = true
  · by_cases f2 : rightD D = true
    · by_cases f3 : inD D al = true
      · by_cases f4 : inD D bl = true
        · by_cases f5 : inD D cl = true
          · obtain ⟨js, ok, hj⟩ : ∃ js ok, joinsD D al bl = (js, ok) := ⟨_, _, rfl⟩
            have hj2 : joinsD D bl al = (js, ok) := (joins_comm ..).trans hj
            cases ok
            · have hab : belowD D al bl = false := Bool.eq_false_iff.2 fun hc => by
                rw [joins_le f2 f3 f4 hc] at hj
                simp at hj
              exact joins7_none lo ao bo co n c na ca nb cb nc cc D al bl cl w h ha hb hc f1 f2 f3 f4 f5 hab js hj hj2 (by rw [joins_nil hj]; rfl)
            · obtain ⟨h1, h2⟩ := joins_above f2 f3 f4 hj
              refine joins7_some lo ao bo co n c na ca nb cb nc cc D al bl cl w h ha hb hc f1 f2 f3 f4 f5 _ _ _ _ rfl js hj hj2 _ rfl rfl rfl h1 h2 _ rfl rfl ⟨?_, ?_⟩
              · cases hab : belowD D al bl
                · exact .inl rfl
                · refine .inr ⟨rfl, decide_eq_true ?_⟩
                  rw [joins_le f2 f3 f4 hab] at hj
                  simp only [Prod.mk.injEq, and_true] at hj
                  exact hj.symm
              · cases h3 : belowD D al cl
                · exact .inl rfl
                · cases h4 : belowD D bl cl
                  · exact .inr (.inl ⟨rfl, rfl⟩)
                  · exact .inr (.inr ⟨rfl, rfl, joins_least f2 f3 f4 f5 hj h3 h4⟩)
          · exact joins_no7 lo ao bo co n c na ca nb cb nc cc D al bl cl w h ha hb hc (.inr (.inr (.inr (.inr ⟨f1, f2, f3, f4, by simpa using f5⟩))))
        · exact joins_no7 lo ao bo co n c na ca nb cb nc cc D al bl cl w h ha hb hc (.inr (.inr (.inr (.inl ⟨f1, f2, f3, by simpa using f4⟩))))
      · exact joins_no7 lo ao bo co n c na ca nb cb nc cc D al bl cl w h ha hb hc (.inr (.inr (.inl ⟨f1, f2, by simpa using f3⟩)))
    · exact joins_no7 lo ao bo co n c na ca nb cb nc cc D al bl cl w h ha hb hc (.inr (.inl ⟨f1, by simpa using f2⟩))
  · exact joins_no7 lo ao bo co n c na ca nb cb nc cc D al bl cl w h ha hb hc (.inl (by simpa using f1))
end Go.Proofs.Ytbafcfbchbjgfaa
