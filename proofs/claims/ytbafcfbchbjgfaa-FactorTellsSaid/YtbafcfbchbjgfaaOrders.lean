/- FactorOrders returns true. No condition. -/
import Derived.Test.YtbafcfbchbjgfaaLawPlain
import Derived.Test.YtbafcfbchbjgfaaSmall8
namespace Go.Proofs.Ytbafcfbchbjgfaa
open Go.RowKit
set_option linter.unusedSimpArgs false
set_option linter.unusedVariables false

theorem few9_D {S : Nat → Prop} (lo : Option Addr) (n c : Nat) (D : List Dm) (r : Bool) (w : World) (h : Dims S w lo n c D) (hD : fewD D = r) :
    Calls Try.prog 9 #[.slice lo n c] w fun e w' => e = .returned (.bool r) ∧ Exts w w' := by
  subst hD
  exact few9 lo n c D w h
theorem vector29_D {S S1 : Nat → Prop} (lo ao : Option Addr) (n c na ca : Nat) (D : List Dm) (al : List Int) (r : Bool) (w : World) (h : Dims S w lo n c D) (ha : Ints S1 w ao na ca al) (hD : inD D al = r) :
    Calls Try.prog 29 #[.slice lo n c, .slice ao na ca] w fun e w' => e = .returned (.bool r) ∧ Exts w w' := by
  subst hD
  exact vector29 lo ao n c na ca D al w h ha
theorem ints12_D {S1 S2 : Nat → Prop} (ao bo : Option Addr) (na ca nb cb : Nat) (al bl : List Int) (r : Bool) (w : World) (ha : Ints S1 w ao na ca al) (hb : Ints S2 w bo nb cb bl) (hD : decide (al = bl) = r) :
    Calls Try.prog 12 #[.slice ao na ca, .slice bo nb cb] w fun e w' => e = .returned (.bool r) ∧ Exts w w' := by
  subst hD
  exact ints12 ao bo na ca nb cb al bl w ha hb
theorem len_zero {l : List Int} (h : l.isEmpty = true) : l.length = 0 := by
  rw [List.isEmpty_iff.1 h]; rfl
theorem len_succ {l : List Int} (h : l.isEmpty = false) : ∃ j, l.length = j + 1 := by
  cases l with
  | nil => cases h
  | cons x l => exact ⟨l.length, rfl⟩
set_option maxRecDepth 100000
set_option maxHeartbeats 2000000
theorem orders6_yes {S S1 S2 S3 : Nat → Prop} (lo ao bo co : Option Addr) (n c na ca nb cb nc cc : Nat) (D : List Dm) (al bl cl : List Int) (w : World) (h : Dims S w lo n c D) (ha : Ints S1 w ao na ca al) (hb : Ints S2 w bo nb cb bl) (hc : Ints S3 w co nc cc cl) (ab ba same bc ac : Bool) (k m : Int) (ks : List Int) (len : Nat) (f1 : fewD D = true) (f2 : rightD D = true) (f3 : inD D al = true) (f4 : inD D bl = true) (f5 : inD D cl = true) (f6 : belowD D al bl = ab) (f7 : belowD D bl al = ba) (f8 : decide (al = bl) = same) (f9 : belowD D al al = true) (f10 : belowD D bl cl = bc) (f11 : belowD D al cl = ac) (f12 : cmpD D al bl = (k, 0)) (f13 : cmpD D bl al = (m, 0)) (f14 : blocksD D al bl = ks) (f15 : ks.length = len)
    (hcase : (ab = true ∧ ba = true ∧ same = true ∧ k = 0 ∧ m = 0 ∧ len = 0 ∧ (bc = false ∨ bc = true ∧ ac = true)) ∨ (ab = true ∧ ba = false ∧ same = false ∧ k = 1 ∧ m = 2 ∧ len = 0 ∧ (bc = false ∨ bc = true ∧ ac = true)) ∨ (ab = false ∧ ba = true ∧ same = false ∧ k = 2 ∧ m = 1 ∧ ∃ j, len = j + 1) ∨ (ab = false ∧ ba = false ∧ same = false ∧ k = 3 ∧ m = 3 ∧ ∃ j, len = j + 1)) :
    Calls Try.prog 6 #[.slice lo n c, .slice ao na ca, .slice bo nb cb, .slice co nc cc] w fun e w' => e = .returned (.bool true) ∧ Exts w w' := by
  have hm := h.nle
  unfold maxLen at hm
  have H := Lib.hid h
  have HA := Lib.hid ha
  have HB := Lib.hid hb
  have HC := Lib.hid hc
  clear h ha hb hc
  have HFW := Lib.hid f1
  have HRD := Lib.hid f2
  have HVA := Lib.hid f3
  have HVB := Lib.hid f4
  have HVC := Lib.hid f5
  have HAB := Lib.hid f6
  have HBA := Lib.hid f7
  have HSM := Lib.hid f8
  have HRE := Lib.hid f9
  have HBC := Lib.hid f10
  have HAC := Lib.hid f11
  have HCAB := Lib.hid f12
  have HCBA := Lib.hid f13
  have HBL := Lib.hid f14
  have HLN := Lib.hid f15
  clear f1 f2 f3 f4 f5 f6 f7 f8 f9 f10 f11 f12 f13 f14 f15
  rcases hcase with ⟨rfl, rfl, rfl, rfl, rfl, rfl, rfl | ⟨rfl, rfl⟩⟩ | ⟨rfl, rfl, rfl, rfl, rfl, rfl, rfl | ⟨rfl, rfl⟩⟩ | ⟨rfl, rfl, rfl, rfl, rfl, j, rfl⟩ | ⟨rfl, rfl, rfl, rfl, rfl, j, rfl⟩
  all_goals
    go_enter Try.func6, Try.ntmps6
    go_wp2_with (first | (go_at_call 8; ((with_reducible refine (small8 _).mono ?_); rintro e w' ⟨rfl, x0, rfl⟩)) | (go_at_call 9; ((with_reducible refine (few9_D _ _ _ D _ _ (H.out.exts (by repeat (first | exact Exts.refl _ | apply Exts.andR | apply Exts.alloc | apply Exts.wext | apply Exts.drew | apply Exts.drewN))) HFW.out).mono ?_); rintro e w' ⟨rfl, x1, rfl⟩)) | (go_at_call 19; ((with_reducible refine (right19_D _ _ _ D _ _ (H.out.exts (by repeat (first | exact Exts.refl _ | apply Exts.andR | apply Exts.alloc | apply Exts.wext | apply Exts.drew | apply Exts.drewN))) HRD.out).mono ?_); rintro e w' ⟨rfl, x2, rfl⟩)) | (go_at_call 29; ((with_reducible refine (vector29_D lo ao _ _ _ _ D al _ _ (H.out.exts (by repeat (first | exact Exts.refl _ | apply Exts.andR | apply Exts.alloc | apply Exts.wext | apply Exts.drew | apply Exts.drewN))) (RowF.exts HA.out (by repeat (first | exact Exts.refl _ | apply Exts.andR | apply Exts.alloc | apply Exts.wext | apply Exts.drew | apply Exts.drewN))) HVA.out).mono ?_); rintro e w' ⟨rfl, x3, rfl⟩)) | (go_at_call 29; ((with_reducible refine (vector29_D lo bo _ _ _ _ D bl _ _ (H.out.exts (by repeat (first | exact Exts.refl _ | apply Exts.andR | apply Exts.alloc | apply Exts.wext | apply Exts.drew | apply Exts.drewN))) (RowF.exts HB.out (by repeat (first | exact Exts.refl _ | apply Exts.andR | apply Exts.alloc | apply Exts.wext | apply Exts.drew | apply Exts.drewN))) HVB.out).mono ?_); rintro e w' ⟨rfl, x4, rfl⟩)) | (go_at_call 29; ((with_reducible refine (vector29_D lo co _ _ _ _ D cl _ _ (H.out.exts (by repeat (first | exact Exts.refl _ | apply Exts.andR | apply Exts.alloc | apply Exts.wext | apply Exts.drew | apply Exts.drewN))) (RowF.exts HC.out (by repeat (first | exact Exts.refl _ | apply Exts.andR | apply Exts.alloc | apply Exts.wext | apply Exts.drew | apply Exts.drewN))) HVC.out).mono ?_); rintro e w' ⟨rfl, x5, rfl⟩)) | (go_at_call 23; ((with_reducible refine (below23_D lo ao bo _ _ _ _ _ _ D al bl _ _ (H.out.exts (by repeat (first | exact Exts.refl _ | apply Exts.andR | apply Exts.alloc | apply Exts.wext | apply Exts.drew | apply Exts.drewN))) (RowF.exts HA.out (by repeat (first | exact Exts.refl _ | apply Exts.andR | apply Exts.alloc | apply Exts.wext | apply Exts.drew | apply Exts.drewN))) (RowF.exts HB.out (by repeat (first | exact Exts.refl _ | apply Exts.andR | apply Exts.alloc | apply Exts.wext | apply Exts.drew | apply Exts.drewN))) HAB.out).mono ?_); rintro e w' ⟨rfl, x6, rfl⟩)) | (go_at_call 23; ((with_reducible refine (below23_D lo bo ao _ _ _ _ _ _ D bl al _ _ (H.out.exts (by repeat (first | exact Exts.refl _ | apply Exts.andR | apply Exts.alloc | apply Exts.wext | apply Exts.drew | apply Exts.drewN))) (RowF.exts HB.out (by repeat (first | exact Exts.refl _ | apply Exts.andR | apply Exts.alloc | apply Exts.wext | apply Exts.drew | apply Exts.drewN))) (RowF.exts HA.out (by repeat (first | exact Exts.refl _ | apply Exts.andR | apply Exts.alloc | apply Exts.wext | apply Exts.drew | apply Exts.drewN))) HBA.out).mono ?_); rintro e w' ⟨rfl, x7, rfl⟩)) | (go_at_call 23; ((with_reducible refine (below23_D lo ao ao _ _ _ _ _ _ D al al _ _ (H.out.exts (by repeat (first | exact Exts.refl _ | apply Exts.andR | apply Exts.alloc | apply Exts.wext | apply Exts.drew | apply Exts.drewN))) (RowF.exts HA.out (by repeat (first | exact Exts.refl _ | apply Exts.andR | apply Exts.alloc | apply Exts.wext | apply Exts.drew | apply Exts.drewN))) (RowF.exts HA.out (by repeat (first | exact Exts.refl _ | apply Exts.andR | apply Exts.alloc | apply Exts.wext | apply Exts.drew | apply Exts.drewN))) HRE.out).mono ?_); rintro e w' ⟨rfl, x9, rfl⟩)) | (go_at_call 23; ((with_reducible refine (below23_D lo bo co _ _ _ _ _ _ D bl cl _ _ (H.out.exts (by repeat (first | exact Exts.refl _ | apply Exts.andR | apply Exts.alloc | apply Exts.wext | apply Exts.drew | apply Exts.drewN))) (RowF.exts HB.out (by repeat (first | exact Exts.refl _ | apply Exts.andR | apply Exts.alloc | apply Exts.wext | apply Exts.drew | apply Exts.drewN))) (RowF.exts HC.out (by repeat (first | exact Exts.refl _ | apply Exts.andR | apply Exts.alloc | apply Exts.wext | apply Exts.drew | apply Exts.drewN))) HBC.out).mono ?_); rintro e w' ⟨rfl, x10, rfl⟩)) | (go_at_call 23; ((with_reducible refine (below23_D lo ao co _ _ _ _ _ _ D al cl _ _ (H.out.exts (by repeat (first | exact Exts.refl _ | apply Exts.andR | apply Exts.alloc | apply Exts.wext | apply Exts.drew | apply Exts.drewN))) (RowF.exts HA.out (by repeat (first | exact Exts.refl _ | apply Exts.andR | apply Exts.alloc | apply Exts.wext | apply Exts.drew | apply Exts.drewN))) (RowF.exts HC.out (by repeat (first | exact Exts.refl _ | apply Exts.andR | apply Exts.alloc | apply Exts.wext | apply Exts.drew | apply Exts.drewN))) HAC.out).mono ?_); rintro e w' ⟨rfl, x11, rfl⟩)) | (go_at_call 12; ((with_reducible refine (ints12_D ao bo _ _ _ _ al bl _ _ (RowF.exts HA.out (by repeat (first | exact Exts.refl _ | apply Exts.andR | apply Exts.alloc | apply Exts.wext | apply Exts.drew | apply Exts.drewN))) (RowF.exts HB.out (by repeat (first | exact Exts.refl _ | apply Exts.andR | apply Exts.alloc | apply Exts.wext | apply Exts.drew | apply Exts.drewN))) HSM.out).mono ?_); rintro e w' ⟨rfl, x8, rfl⟩)) | (go_at_call 15; ((with_reducible refine (compare15_D lo ao bo _ _ _ _ _ _ D al bl _ _ _ (H.out.exts (by repeat (first | exact Exts.refl _ | apply Exts.andR | apply Exts.alloc | apply Exts.wext | apply Exts.drew | apply Exts.drewN))) (RowF.exts HA.out (by repeat (first | exact Exts.refl _ | apply Exts.andR | apply Exts.alloc | apply Exts.wext | apply Exts.drew | apply Exts.drewN))) (RowF.exts HB.out (by repeat (first | exact Exts.refl _ | apply Exts.andR | apply Exts.alloc | apply Exts.wext | apply Exts.drew | apply Exts.drewN))) HCAB.out).mono ?_); rintro e w' ⟨rfl, x12, rfl⟩)) | (go_at_call 15; ((with_reducible refine (compare15_D lo bo ao _ _ _ _ _ _ D bl al _ _ _ (H.out.exts (by repeat (first | exact Exts.refl _ | apply Exts.andR | apply Exts.alloc | apply Exts.wext | apply Exts.drew | apply Exts.drewN))) (RowF.exts HB.out (by repeat (first | exact Exts.refl _ | apply Exts.andR | apply Exts.alloc | apply Exts.wext | apply Exts.drew | apply Exts.drewN))) (RowF.exts HA.out (by repeat (first | exact Exts.refl _ | apply Exts.andR | apply Exts.alloc | apply Exts.wext | apply Exts.drew | apply Exts.drewN))) HCBA.out).mono ?_); rintro e w' ⟨rfl, x13, rfl⟩)) | (go_at_call 25; ((with_reducible refine (blocks25_N lo ao bo _ _ _ _ _ _ D al bl ks _ _ (H.out.exts (by repeat (first | exact Exts.refl _ | apply Exts.andR | apply Exts.alloc | apply Exts.wext | apply Exts.drew | apply Exts.drewN))) (RowF.exts HA.out (by repeat (first | exact Exts.refl _ | apply Exts.andR | apply Exts.alloc | apply Exts.wext | apply Exts.drew | apply Exts.drewN))) (RowF.exts HB.out (by repeat (first | exact Exts.refl _ | apply Exts.andR | apply Exts.alloc | apply Exts.wext | apply Exts.drew | apply Exts.drewN))) HBL.out HLN.out).mono ?_); rintro e w' ⟨ro, rc, rfl, ⟨x14, rfl⟩, -⟩)))
    go_ret
    exact ⟨rfl, (by repeat (first | exact Exts.refl _ | apply Exts.andR | apply Exts.alloc | apply Exts.wext | apply Exts.drew | apply Exts.drewN))⟩
theorem orders_no {S S1 S2 S3 : Nat → Prop} (lo ao bo co : Option Addr) (n c na ca nb cb nc cc : Nat) (D : List Dm) (al bl cl : List Int) (w : World) (h : Dims S w lo n c D) (ha : Ints S1 w ao na ca al) (hb : Ints S2 w bo nb cb bl) (hc : Ints S3 w co nc cc cl) (f1 : fewD D = false ∨ fewD D = true ∧ rightD D = false ∨ fewD D = true ∧ rightD D = true ∧ inD D al = false ∨ fewD D = true ∧ rightD D = true ∧ inD D al = true ∧ inD D bl = false ∨ fewD D = true ∧ rightD D = true ∧ inD D al = true ∧ inD D bl = true ∧ inD D cl = false) :
    Calls Try.prog 6 #[.slice lo n c, .slice ao na ca, .slice bo nb cb, .slice co nc cc] w fun e w' => e = .returned (.bool true) ∧ Exts w w' := by
  have hm := h.nle
  unfold maxLen at hm
  have H := Lib.hid h
  have HA := Lib.hid ha
  have HB := Lib.hid hb
  have HC := Lib.hid hc
  clear h ha hb hc
  rcases f1 with f1 | ⟨f1, f2⟩ | ⟨f1, f2, f3⟩ | ⟨f1, f2, f3, f4⟩ | ⟨f1, f2, f3, f4, f5⟩
  · have HFW := Lib.hid f1
    clear f1
    go_enter Try.func6, Try.ntmps6
    go_wp2_with (first | (go_at_call 8; ((with_reducible refine (small8 _).mono ?_); rintro e w' ⟨rfl, x0, rfl⟩)) | (go_at_call 9; ((with_reducible refine (few9_D _ _ _ D _ _ (H.out.exts (by repeat (first | exact Exts.refl _ | apply Exts.andR | apply Exts.alloc | apply Exts.wext | apply Exts.drew | apply Exts.drewN))) HFW.out).mono ?_); rintro e w' ⟨rfl, x1, rfl⟩)))
    go_ret
    exact ⟨rfl, (by repeat (first | exact Exts.refl _ | apply Exts.andR | apply Exts.alloc | apply Exts.wext | apply Exts.drew | apply Exts.drewN))⟩
  · have HFW := Lib.hid f1; have HRD := Lib.hid f2
    clear f1 f2
    go_enter Try.func6, Try.ntmps6
    go_wp2_with (first | (go_at_call 8; ((with_reducible refine (small8 _).mono ?_); rintro e w' ⟨rfl, x0, rfl⟩)) | (go_at_call 9; ((with_reducible refine (few9_D _ _ _ D _ _ (H.out.exts (by repeat (first | exact Exts.refl _ | apply Exts.andR | apply Exts.alloc | apply Exts.wext | apply Exts.drew | apply Exts.drewN))) HFW.out).mono ?_); rintro e w' ⟨rfl, x1, rfl⟩)) | (go_at_call 19; ((with_reducible refine (right19_D _ _ _ D _ _ (H.out.exts (by repeat (first | exact Exts.refl _ | apply Exts.andR | apply Exts.alloc | apply Exts.wext | apply Exts.drew | apply Exts.drewN))) HRD.out).mono ?_); rintro e w' ⟨rfl, x2, rfl⟩)))
    go_ret
    exact ⟨rfl, (by repeat (first | exact Exts.refl _ | apply Exts.andR | apply Exts.alloc | apply Exts.wext | apply Exts.drew | apply Exts.drewN))⟩
  · have HFW := Lib.hid f1; have HRD := Lib.hid f2; have HVA := Lib.hid f3
    clear f1 f2 f3
    go_enter Try.func6, Try.ntmps6
    go_wp2_with (first | (go_at_call 8; ((with_reducible refine (small8 _).mono ?_); rintro e w' ⟨rfl, x0, rfl⟩)) | (go_at_call 9; ((with_reducible refine (few9_D _ _ _ D _ _ (H.out.exts (by repeat (first | exact Exts.refl _ | apply Exts.andR | apply Exts.alloc | apply Exts.wext | apply Exts.drew | apply Exts.drewN))) HFW.out).mono ?_); rintro e w' ⟨rfl, x1, rfl⟩)) | (go_at_call 19; ((with_reducible refine (right19_D _ _ _ D _ _ (H.out.exts (by repeat (first | exact Exts.refl _ | apply Exts.andR | apply Exts.alloc | apply Exts.wext | apply Exts.drew | apply Exts.drewN))) HRD.out).mono ?_); rintro e w' ⟨rfl, x2, rfl⟩)) | (go_at_call 29; ((with_reducible refine (vector29_D lo ao _ _ _ _ D al _ _ (H.out.exts (by repeat (first | exact Exts.refl _ | apply Exts.andR | apply Exts.alloc | apply Exts.wext | apply Exts.drew | apply Exts.drewN))) (RowF.exts HA.out (by repeat (first | exact Exts.refl _ | apply Exts.andR | apply Exts.alloc | apply Exts.wext | apply Exts.drew | apply Exts.drewN))) HVA.out).mono ?_); rintro e w' ⟨rfl, x3, rfl⟩)))
    go_ret
    exact ⟨rfl, (by repeat (first | exact Exts.refl _ | apply Exts.andR | apply Exts.alloc | apply Exts.wext | apply Exts.drew | apply Exts.drewN))⟩
  · have HFW := Lib.hid f1; have HRD := Lib.hid f2; have HVA := Lib.hid f3; have HVB := Lib.hid f4
    clear f1 f2 f3 f4
    go_enter Try.func6, Try.ntmps6
    go_wp2_with (first | (go_at_call 8; ((with_reducible refine (small8 _).mono ?_); rintro e w' ⟨rfl, x0, rfl⟩)) | (go_at_call 9; ((with_reducible refine (few9_D _ _ _ D _ _ (H.out.exts (by repeat (first | exact Exts.refl _ | apply Exts.andR | apply Exts.alloc | apply Exts.wext | apply Exts.drew | apply Exts.drewN))) HFW.out).mono ?_); rintro e w' ⟨rfl, x1, rfl⟩)) | (go_at_call 19; ((with_reducible refine (right19_D _ _ _ D _ _ (H.out.exts (by repeat (first | exact Exts.refl _ | apply Exts.andR | apply Exts.alloc | apply Exts.wext | apply Exts.drew | apply Exts.drewN))) HRD.out).mono ?_); rintro e w' ⟨rfl, x2, rfl⟩)) | (go_at_call 29; ((with_reducible refine (vector29_D lo ao _ _ _ _ D al _ _ (H.out.exts (by repeat (first | exact Exts.refl _ | apply Exts.andR | apply Exts.alloc | apply Exts.wext | apply Exts.drew | apply Exts.drewN))) (RowF.exts HA.out (by repeat (first | exact Exts.refl _ | apply Exts.andR | apply Exts.alloc | apply Exts.wext | apply Exts.drew | apply Exts.drewN))) HVA.out).mono ?_); rintro e w' ⟨rfl, x3, rfl⟩)) | (go_at_call 29; ((with_reducible refine (vector29_D lo bo _ _ _ _ D bl _ _ (H.out.exts (by repeat (first | exact Exts.refl _ | apply Exts.andR | apply Exts.alloc | apply Exts.wext | apply Exts.drew | apply Exts.drewN))) (RowF.exts HB.out (by repeat (first | exact Exts.refl _ | apply Exts.andR | apply Exts.alloc | apply Exts.wext | apply Exts.drew | apply Exts.drewN))) HVB.out).mono ?_); rintro e w' ⟨rfl, x4, rfl⟩)))
    go_ret
    exact ⟨rfl, (by repeat (first | exact Exts.refl _ | apply Exts.andR | apply Exts.alloc | apply Exts.wext | apply Exts.drew | apply Exts.drewN))⟩
  · have HFW := Lib.hid f1; have HRD := Lib.hid f2; have HVA := Lib.hid f3; have HVB := Lib.hid f4; have HVC := Lib.hid f5
    clear f1 f2 f3 f4 f5
    go_enter Try.func6, Try.ntmps6
    go_wp2_with (first | (go_at_call 8; ((with_reducible refine (small8 _).mono ?_); rintro e w' ⟨rfl, x0, rfl⟩)) | (go_at_call 9; ((with_reducible refine (few9_D _ _ _ D _ _ (H.out.exts (by repeat (first | exact Exts.refl _ | apply Exts.andR | apply Exts.alloc | apply Exts.wext | apply Exts.drew | apply Exts.drewN))) HFW.out).mono ?_); rintro e w' ⟨rfl, x1, rfl⟩)) | (go_at_call 19; ((with_reducible refine (right19_D _ _ _ D _ _ (H.out.exts (by repeat (first | exact Exts.refl _ | apply Exts.andR | apply Exts.alloc | apply Exts.wext | apply Exts.drew | apply Exts.drewN))) HRD.out).mono ?_); rintro e w' ⟨rfl, x2, rfl⟩)) | (go_at_call 29; ((with_reducible refine (vector29_D lo ao _ _ _ _ D al _ _ (H.out.exts (by repeat (first | exact Exts.refl _ | apply Exts.andR | apply Exts.alloc | apply Exts.wext | apply Exts.drew | apply Exts.drewN))) (RowF.exts HA.out (by repeat (first | exact Exts.refl _ | apply Exts.andR | apply Exts.alloc | apply Exts.wext | apply Exts.drew | apply Exts.drewN))) HVA.out).mono ?_); rintro e w' ⟨rfl, x3, rfl⟩)) | (go_at_call 29; ((with_reducible refine (vector29_D lo bo _ _ _ _ D bl _ _ (H.out.exts (by repeat (first | exact Exts.refl _ | apply Exts.andR | apply Exts.alloc | apply Exts.wext | apply Exts.drew | apply Exts.drewN))) (RowF.exts HB.out (by repeat (first | exact Exts.refl _ | apply Exts.andR | apply Exts.alloc | apply Exts.wext | apply Exts.drew | apply Exts.drewN))) HVB.out).mono ?_); rintro e w' ⟨rfl, x4, rfl⟩)) | (go_at_call 29; ((with_reducible refine (vector29_D lo co _ _ _ _ D cl _ _ (H.out.exts (by repeat (first | exact Exts.refl _ | apply Exts.andR | apply Exts.alloc | apply Exts.wext | apply Exts.drew | apply Exts.drewN))) (RowF.exts HC.out (by repeat (first | exact Exts.refl _ | apply Exts.andR | apply Exts.alloc | apply Exts.wext | apply Exts.drew | apply Exts.drewN))) HVC.out).mono ?_); rintro e w' ⟨rfl, x5, rfl⟩)))
    go_ret
    exact ⟨rfl, (by repeat (first | exact Exts.refl _ | apply Exts.andR | apply Exts.alloc | apply Exts.wext | apply Exts.drew | apply Exts.drewN))⟩
theorem orders6 {S S1 S2 S3 : Nat → Prop} (lo ao bo co : Option Addr) (n c na ca nb cb nc cc : Nat) (D : List Dm) (al bl cl : List Int) (w : World) (h : Dims S w lo n c D) (ha : Ints S1 w ao na ca al) (hb : Ints S2 w bo nb cb bl) (hc : Ints S3 w co nc cc cl) :
    Calls Try.prog 6 #[.slice lo n c, .slice ao na ca, .slice bo nb cb, .slice co nc cc] w fun e w' => e = .returned (.bool true) ∧ Exts w w' := by
  by_cases f1 : fewD D = true
  · by_cases f2 : rightD D = true
    · by_cases f3 : inD D al = true
      · by_cases f4 : inD D bl = true
        · by_cases f5 : inD D cl = true
          · have hv := vec_of f2 f3 f4
            have hv2 := vec_of f2 f4 f3
            have e1 := below_refl f2 f3
            have ht := below_trans f2 f3 f4 f5
            have hbl := fun r h => below_blocks f2 f3 f4 (r := r) h
            have hac : belowD D al bl = true → (belowD D bl cl = false ∨ belowD D bl cl = true ∧ belowD D al cl = true) := fun h1 => by
              cases h2 : belowD D bl cl
              · exact .inl rfl
              · exact .inr ⟨rfl, ht h1 h2⟩
            cases h1 : belowD D al bl <;> cases h2 : belowD D bl al
            · have hne : decide (al = bl) = false := decide_eq_false fun hc => by subst hc; rw [e1] at h1; cases h1
              refine orders6_yes lo ao bo co n c na ca nb cb nc cc D al bl cl w h ha hb hc _ _ _ _ _ _ _ f1 f2 f3 f4 f5 h1 h2 hne e1 rfl rfl (k := 3) (m := 3) (by unfold cmpD; rw [if_pos hv, h1, h2]; rfl) (by unfold cmpD; rw [if_pos hv2, h1, h2]; rfl) rfl rfl (.inr (.inr (.inr ⟨rfl, rfl, rfl, rfl, rfl, len_succ (hbl _ h1)⟩)))
            · have hne : decide (al = bl) = false := decide_eq_false fun hc => by subst hc; rw [e1] at h1; cases h1
              refine orders6_yes lo ao bo co n c na ca nb cb nc cc D al bl cl w h ha hb hc _ _ _ _ _ _ _ f1 f2 f3 f4 f5 h1 h2 hne e1 rfl rfl (k := 2) (m := 1) (by unfold cmpD; rw [if_pos hv, h1, h2]; rfl) (by unfold cmpD; rw [if_pos hv2, h1, h2]; rfl) rfl rfl (.inr (.inr (.inl ⟨rfl, rfl, rfl, rfl, rfl, len_succ (hbl _ h1)⟩)))
            · have hne : decide (al = bl) = false := decide_eq_false fun hc => by subst hc; rw [e1] at h2; cases h2
              refine orders6_yes lo ao bo co n c na ca nb cb nc cc D al bl cl w h ha hb hc _ _ _ _ _ _ _ f1 f2 f3 f4 f5 h1 h2 hne e1 rfl rfl (k := 1) (m := 2) (by unfold cmpD; rw [if_pos hv, h1, h2]; rfl) (by unfold cmpD; rw [if_pos hv2, h1, h2]; rfl) rfl rfl (.inr (.inl ⟨rfl, rfl, rfl, rfl, rfl, len_zero (hbl _ h1), hac h1⟩))
            · have hne : decide (al = bl) = true := decide_eq_true (below_anti f2 f3 f4 h1 h2)
              refine orders6_yes lo ao bo co n c na ca nb cb nc cc D al bl cl w h ha hb hc _ _ _ _ _ _ _ f1 f2 f3 f4 f5 h1 h2 hne e1 rfl rfl (k := 0) (m := 0) (by unfold cmpD; rw [if_pos hv, h1, h2]; rfl) (by unfold cmpD; rw [if_pos hv2, h1, h2]; rfl) rfl rfl (.inl ⟨rfl, rfl, rfl, rfl, rfl, len_zero (hbl _ h1), hac h1⟩)
          · exact orders_no lo ao bo co n c na ca nb cb nc cc D al bl cl w h ha hb hc (.inr (.inr (.inr (.inr ⟨f1, f2, f3, f4, by simpa using f5⟩))))
        · exact orders_no lo ao bo co n c na ca nb cb nc cc D al bl cl w h ha hb hc (.inr (.inr (.inr (.inl ⟨f1, f2, f3, by simpa using f4⟩))))
      · exact orders_no lo ao bo co n c na ca nb cb nc cc D al bl cl w h ha hb hc (.inr (.inr (.inl ⟨f1, f2, by simpa using f3⟩)))
    · exact orders_no lo ao bo co n c na ca nb cb nc cc D al bl cl w h ha hb hc (.inr (.inl ⟨f1, by simpa using f2⟩))
  · exact orders_no lo ao bo co n c na ca nb cb nc cc D al bl cl w h ha hb hc (.inl (by simpa using f1))
end Go.Proofs.Ytbafcfbchbjgfaa
