/- Below, Compare and Joins of the reference of chapter 38. No condition but the contract of Join. -/
import Derived.Test.YtbafcfbchbjgfaaRefLists
import Derived.Test.YtbafcfbchbjgfaaJoins
namespace Go.Proofs.Ytbafcfbchbjgfaa
open Go.RowKit
set_option linter.unusedSimpArgs false
set_option linter.unusedVariables false

theorem blocks26_N {S S1 S2 : Nat → Prop} (lo ao bo : Option Addr) (n c na ca nb cb : Nat) (D : List Dm) (al bl ks : List Int) (m : Nat) (w : World) (h : Dims S w lo n c D) (ha : Ints S1 w ao na ca al) (hb : Ints S2 w bo nb cb bl) (hD : blocksD D al bl = ks) (hm : ks.length = m) :
    Calls Try.prog 26 #[.slice lo n c, .slice ao na ca, .slice bo nb cb] w fun e w' => ∃ ro rc, e = .returned (.slice ro m rc) ∧ Exts w w' ∧ Ints (fun b => w.heap.size ≤ b) w' ro m rc ks := by
  subst hD hm
  exact blocks26 lo ao bo n c na ca nb cb D al bl w h ha hb
set_option maxRecDepth 100000
set_option maxHeartbeats 2000000
theorem below24 {S S1 S2 : Nat → Prop} (lo ao bo : Option Addr) (n c na ca nb cb : Nat) (D : List Dm) (al bl : List Int) (w : World) (h : Dims S w lo n c D) (ha : Ints S1 w ao na ca al) (hb : Ints S2 w bo nb cb bl) :
    Calls Try.prog 24 #[.slice lo n c, .slice ao na ca, .slice bo nb cb] w fun e w' => e = .returned (.bool (belowD D al bl)) ∧ Exts w w' := by
  have HL := Lib.hid h.1
  have HLA := Lib.hid (ints_len ha)
  have HLB := Lib.hid (ints_len hb)
  obtain ⟨r1, hr1⟩ : ∃ r, rightD D = r := ⟨_, rfl⟩
  obtain ⟨r2, hr2⟩ : ∃ r, inD D al = r := ⟨_, rfl⟩
  obtain ⟨r3, hr3⟩ : ∃ r, inD D bl = r := ⟨_, rfl⟩
  have hr : vecD D al bl = (r1 && (r2 && r3)) := by unfold vecD; rw [hr1, hr2, hr3]
  have hm := h.nle
  unfold maxLen at hm
  have hma := RowF.nle ha
  have hmb := RowF.nle hb
  unfold maxLen at hma hmb
  have H := Lib.hid h
  have HAA := Lib.hid ha
  have HBB := Lib.hid hb
  have HRT := Lib.hid hr1
  have HIA := Lib.hid hr2
  have HIB := Lib.hid hr3
  have HVD := Lib.hid hr
  clear h ha hb hr hr1 hr2 hr3
  obtain ⟨ks, hks⟩ : ∃ ks, blocksD D al bl = ks := ⟨_, rfl⟩
  obtain ⟨m, hkm⟩ : ∃ m, ks.length = m := ⟨_, rfl⟩
  have HBD := Lib.hid hks
  have HM := Lib.hid hkm
  have hmax : m ≤ n := by
    have h1 := blkK_len D al bl D.length
    have h2 := HL.out
    unfold blocksD at hks
    split at hks
    · rw [hks] at h1; omega
    · rw [← hkm, ← hks]; simp
  have HR := Lib.hid (show belowD D al bl = ((r1 && (r2 && r3)) && decide (m = 0)) by
    unfold belowD
    rw [HVD.out, hks]
    congr 1
    cases ks with
    | nil => simp at hkm; simp [← hkm]
    | cons a l => simp at hkm; simp [← hkm])
  clear hks hkm
  cases r1 with
  | false =>
    have HR0 := Lib.hid (HR.out.trans (show (false && decide (m = 0)) = false from rfl))
    go_enter Try.func24, Try.ntmps24
    go_wp2_with (first | (go_at_call 20; ((with_reducible refine (right20_D _ _ _ D _ _ (H.out.exts (by repeat (first | exact Exts.refl _ | apply Exts.andR | apply Exts.alloc | apply Exts.wext | apply Exts.drew | apply Exts.drewN))) HRT.out).mono ?_); rintro e w' ⟨rfl, x0, rfl⟩)) | (go_at_call 29; ((with_reducible refine (vector29_D lo ao _ _ _ _ D al _ _ (H.out.exts (by repeat (first | exact Exts.refl _ | apply Exts.andR | apply Exts.alloc | apply Exts.wext | apply Exts.drew | apply Exts.drewN))) (RowF.exts HAA.out (by repeat (first | exact Exts.refl _ | apply Exts.andR | apply Exts.alloc | apply Exts.wext | apply Exts.drew | apply Exts.drewN))) HIA.out).mono ?_); rintro e w' ⟨rfl, x1, rfl⟩)) | (go_at_call 29; ((with_reducible refine (vector29_D lo bo _ _ _ _ D bl _ _ (H.out.exts (by repeat (first | exact Exts.refl _ | apply Exts.andR | apply Exts.alloc | apply Exts.wext | apply Exts.drew | apply Exts.drewN))) (RowF.exts HBB.out (by repeat (first | exact Exts.refl _ | apply Exts.andR | apply Exts.alloc | apply Exts.wext | apply Exts.drew | apply Exts.drewN))) HIB.out).mono ?_); rintro e w' ⟨rfl, x2, rfl⟩)) | (go_at_call 26; ((with_reducible refine (blocks26_N _ _ _ _ _ _ _ _ _ D al bl _ _ _ (H.out.exts (by repeat (first | exact Exts.refl _ | apply Exts.andR | apply Exts.alloc | apply Exts.wext | apply Exts.drew | apply Exts.drewN))) (RowF.exts HAA.out (by repeat (first | exact Exts.refl _ | apply Exts.andR | apply Exts.alloc | apply Exts.wext | apply Exts.drew | apply Exts.drewN))) (RowF.exts HBB.out (by repeat (first | exact Exts.refl _ | apply Exts.andR | apply Exts.alloc | apply Exts.wext | apply Exts.drew | apply Exts.drewN))) HBD.out HM.out).mono ?_); rintro e w' ⟨ro, rc, rfl, ⟨x3, rfl⟩, hbr⟩; clear hbr)))
    go_ret
    exact ⟨by rw [HR0.out]; rfl, (by repeat (first | exact Exts.refl _ | apply Exts.andR | apply Exts.alloc | apply Exts.wext | apply Exts.drew | apply Exts.drewN))⟩
  | true =>
    cases r2 with
    | false =>
      have HR0 := Lib.hid (HR.out.trans (show (false && decide (m = 0)) = false from rfl))
      go_enter Try.func24, Try.ntmps24
      go_wp2_with (first | (go_at_call 20; ((with_reducible refine (right20_D _ _ _ D _ _ (H.out.exts (by repeat (first | exact Exts.refl _ | apply Exts.andR | apply Exts.alloc | apply Exts.wext | apply Exts.drew | apply Exts.drewN))) HRT.out).mono ?_); rintro e w' ⟨rfl, x0, rfl⟩)) | (go_at_call 29; ((with_reducible refine (vector29_D lo ao _ _ _ _ D al _ _ (H.out.exts (by repeat (first | exact Exts.refl _ | apply Exts.andR | apply Exts.alloc | apply Exts.wext | apply Exts.drew | apply Exts.drewN))) (RowF.exts HAA.out (by repeat (first | exact Exts.refl _ | apply Exts.andR | apply Exts.alloc | apply Exts.wext | apply Exts.drew | apply Exts.drewN))) HIA.out).mono ?_); rintro e w' ⟨rfl, x1, rfl⟩)) | (go_at_call 29; ((with_reducible refine (vector29_D lo bo _ _ _ _ D bl _ _ (H.out.exts (by repeat (first | exact Exts.refl _ | apply Exts.andR | apply Exts.alloc | apply Exts.wext | apply Exts.drew | apply Exts.drewN))) (RowF.exts HBB.out (by repeat (first | exact Exts.refl _ | apply Exts.andR | apply Exts.alloc | apply Exts.wext | apply Exts.drew | apply Exts.drewN))) HIB.out).mono ?_); rintro e w' ⟨rfl, x2, rfl⟩)) | (go_at_call 26; ((with_reducible refine (blocks26_N _ _ _ _ _ _ _ _ _ D al bl _ _ _ (H.out.exts (by repeat (first | exact Exts.refl _ | apply Exts.andR | apply Exts.alloc | apply Exts.wext | apply Exts.drew | apply Exts.drewN))) (RowF.exts HAA.out (by repeat (first | exact Exts.refl _ | apply Exts.andR | apply Exts.alloc | apply Exts.wext | apply Exts.drew | apply Exts.drewN))) (RowF.exts HBB.out (by repeat (first | exact Exts.refl _ | apply Exts.andR | apply Exts.alloc | apply Exts.wext | apply Exts.drew | apply Exts.drewN))) HBD.out HM.out).mono ?_); rintro e w' ⟨ro, rc, rfl, ⟨x3, rfl⟩, hbr⟩; clear hbr)))
      go_ret
      exact ⟨by rw [HR0.out]; rfl, (by repeat (first | exact Exts.refl _ | apply Exts.andR | apply Exts.alloc | apply Exts.wext | apply Exts.drew | apply Exts.drewN))⟩
    | true =>
      cases r3 with
      | false =>
        have HR0 := Lib.hid (HR.out.trans (show (false && decide (m = 0)) = false from rfl))
        go_enter Try.func24, Try.ntmps24
        go_wp2_with (first | (go_at_call 20; ((with_reducible refine (right20_D _ _ _ D _ _ (H.out.exts (by repeat (first | exact Exts.refl _ | apply Exts.andR | apply Exts.alloc | apply Exts.wext | apply Exts.drew | apply Exts.drewN))) HRT.out).mono ?_); rintro e w' ⟨rfl, x0, rfl⟩)) | (go_at_call 29; ((with_reducible refine (vector29_D lo ao _ _ _ _ D al _ _ (H.out.exts (by repeat (first | exact Exts.refl _ | apply Exts.andR | apply Exts.alloc | apply Exts.wext | apply Exts.drew | apply Exts.drewN))) (RowF.exts HAA.out (by repeat (first | exact Exts.refl _ | apply Exts.andR | apply Exts.alloc | apply Exts.wext | apply Exts.drew | apply Exts.drewN))) HIA.out).mono ?_); rintro e w' ⟨rfl, x1, rfl⟩)) | (go_at_call 29; ((with_reducible refine (vector29_D lo bo _ _ _ _ D bl _ _ (H.out.exts (by repeat (first | exact Exts.refl _ | apply Exts.andR | apply Exts.alloc | apply Exts.wext | apply Exts.drew | apply Exts.drewN))) (RowF.exts HBB.out (by repeat (first | exact Exts.refl _ | apply Exts.andR | apply Exts.alloc | apply Exts.wext | apply Exts.drew | apply Exts.drewN))) HIB.out).mono ?_); rintro e w' ⟨rfl, x2, rfl⟩)) | (go_at_call 26; ((with_reducible refine (blocks26_N _ _ _ _ _ _ _ _ _ D al bl _ _ _ (H.out.exts (by repeat (first | exact Exts.refl _ | apply Exts.andR | apply Exts.alloc | apply Exts.wext | apply Exts.drew | apply Exts.drewN))) (RowF.exts HAA.out (by repeat (first | exact Exts.refl _ | apply Exts.andR | apply Exts.alloc | apply Exts.wext | apply Exts.drew | apply Exts.drewN))) (RowF.exts HBB.out (by repeat (first | exact Exts.refl _ | apply Exts.andR | apply Exts.alloc | apply Exts.wext | apply Exts.drew | apply Exts.drewN))) HBD.out HM.out).mono ?_); rintro e w' ⟨ro, rc, rfl, ⟨x3, rfl⟩, hbr⟩; clear hbr)))
        go_ret
        exact ⟨by rw [HR0.out]; rfl, (by repeat (first | exact Exts.refl _ | apply Exts.andR | apply Exts.alloc | apply Exts.wext | apply Exts.drew | apply Exts.drewN))⟩
      | true =>
        by_cases h0 : m = 0
        · subst h0
          go_enter Try.func24, Try.ntmps24
          go_wp2_with (first | (go_at_call 20; ((with_reducible refine (right20_D _ _ _ D _ _ (H.out.exts (by repeat (first | exact Exts.refl _ | apply Exts.andR | apply Exts.alloc | apply Exts.wext | apply Exts.drew | apply Exts.drewN))) HRT.out).mono ?_); rintro e w' ⟨rfl, x0, rfl⟩)) | (go_at_call 29; ((with_reducible refine (vector29_D lo ao _ _ _ _ D al _ _ (H.out.exts (by repeat (first | exact Exts.refl _ | apply Exts.andR | apply Exts.alloc | apply Exts.wext | apply Exts.drew | apply Exts.drewN))) (RowF.exts HAA.out (by repeat (first | exact Exts.refl _ | apply Exts.andR | apply Exts.alloc | apply Exts.wext | apply Exts.drew | apply Exts.drewN))) HIA.out).mono ?_); rintro e w' ⟨rfl, x1, rfl⟩)) | (go_at_call 29; ((with_reducible refine (vector29_D lo bo _ _ _ _ D bl _ _ (H.out.exts (by repeat (first | exact Exts.refl _ | apply Exts.andR | apply Exts.alloc | apply Exts.wext | apply Exts.drew | apply Exts.drewN))) (RowF.exts HBB.out (by repeat (first | exact Exts.refl _ | apply Exts.andR | apply Exts.alloc | apply Exts.wext | apply Exts.drew | apply Exts.drewN))) HIB.out).mono ?_); rintro e w' ⟨rfl, x2, rfl⟩)) | (go_at_call 26; ((with_reducible refine (blocks26_N _ _ _ _ _ _ _ _ _ D al bl _ _ _ (H.out.exts (by repeat (first | exact Exts.refl _ | apply Exts.andR | apply Exts.alloc | apply Exts.wext | apply Exts.drew | apply Exts.drewN))) (RowF.exts HAA.out (by repeat (first | exact Exts.refl _ | apply Exts.andR | apply Exts.alloc | apply Exts.wext | apply Exts.drew | apply Exts.drewN))) (RowF.exts HBB.out (by repeat (first | exact Exts.refl _ | apply Exts.andR | apply Exts.alloc | apply Exts.wext | apply Exts.drew | apply Exts.drewN))) HBD.out HM.out).mono ?_); rintro e w' ⟨ro, rc, rfl, ⟨x3, rfl⟩, hbr⟩; clear hbr)))
          go_ret
          exact ⟨by rw [HR.out]; rfl, (by repeat (first | exact Exts.refl _ | apply Exts.andR | apply Exts.alloc | apply Exts.wext | apply Exts.drew | apply Exts.drewN))⟩
        · have q1 : ((m : Int) == 0) = false := by simp; omega
          have q2 : (m == 0) = false := by simpa using h0
          have HR' := Lib.hid (HR.out.trans (show (true && decide (m = 0)) = false by simp [h0]))
          go_enter Try.func24, Try.ntmps24
          go_wp2_with (first | (go_at_call 20; ((with_reducible refine (right20_D _ _ _ D _ _ (H.out.exts (by repeat (first | exact Exts.refl _ | apply Exts.andR | apply Exts.alloc | apply Exts.wext | apply Exts.drew | apply Exts.drewN))) HRT.out).mono ?_); rintro e w' ⟨rfl, x0, rfl⟩)) | (go_at_call 29; ((with_reducible refine (vector29_D lo ao _ _ _ _ D al _ _ (H.out.exts (by repeat (first | exact Exts.refl _ | apply Exts.andR | apply Exts.alloc | apply Exts.wext | apply Exts.drew | apply Exts.drewN))) (RowF.exts HAA.out (by repeat (first | exact Exts.refl _ | apply Exts.andR | apply Exts.alloc | apply Exts.wext | apply Exts.drew | apply Exts.drewN))) HIA.out).mono ?_); rintro e w' ⟨rfl, x1, rfl⟩)) | (go_at_call 29; ((with_reducible refine (vector29_D lo bo _ _ _ _ D bl _ _ (H.out.exts (by repeat (first | exact Exts.refl _ | apply Exts.andR | apply Exts.alloc | apply Exts.wext | apply Exts.drew | apply Exts.drewN))) (RowF.exts HBB.out (by repeat (first | exact Exts.refl _ | apply Exts.andR | apply Exts.alloc | apply Exts.wext | apply Exts.drew | apply Exts.drewN))) HIB.out).mono ?_); rintro e w' ⟨rfl, x2, rfl⟩)) | (go_at_call 26; ((with_reducible refine (blocks26_N _ _ _ _ _ _ _ _ _ D al bl _ _ _ (H.out.exts (by repeat (first | exact Exts.refl _ | apply Exts.andR | apply Exts.alloc | apply Exts.wext | apply Exts.drew | apply Exts.drewN))) (RowF.exts HAA.out (by repeat (first | exact Exts.refl _ | apply Exts.andR | apply Exts.alloc | apply Exts.wext | apply Exts.drew | apply Exts.drewN))) (RowF.exts HBB.out (by repeat (first | exact Exts.refl _ | apply Exts.andR | apply Exts.alloc | apply Exts.wext | apply Exts.drew | apply Exts.drewN))) HBD.out HM.out).mono ?_); rintro e w' ⟨ro, rc, rfl, ⟨x3, rfl⟩, hbr⟩; clear hbr)))
          go_ret
          exact ⟨by rw [HR'.out]; rfl, (by repeat (first | exact Exts.refl _ | apply Exts.andR | apply Exts.alloc | apply Exts.wext | apply Exts.drew | apply Exts.drewN))⟩
theorem below24_D {S S1 S2 : Nat → Prop} (lo ao bo : Option Addr) (n c na ca nb cb : Nat) (D : List Dm) (al bl : List Int) (r : Bool) (w : World) (h : Dims S w lo n c D) (ha : Ints S1 w ao na ca al) (hb : Ints S2 w bo nb cb bl) (hD : belowD D al bl = r) :
    Calls Try.prog 24 #[.slice lo n c, .slice ao na ca, .slice bo nb cb] w fun e w' => e = .returned (.bool r) ∧ Exts w w' := by
  subst hD
  exact below24 lo ao bo n c na ca nb cb D al bl w h ha hb
theorem compare16 {S S1 S2 : Nat → Prop} (lo ao bo : Option Addr) (n c na ca nb cb : Nat) (D : List Dm) (al bl : List Int) (w : World) (h : Dims S w lo n c D) (ha : Ints S1 w ao na ca al) (hb : Ints S2 w bo nb cb bl) :
    Calls Try.prog 16 #[.slice lo n c, .slice ao na ca, .slice bo nb cb] w fun e w' => e = .returned (.tuple #[.int .i64 (cmpD D al bl).1, .int .i64 (cmpD D al bl).2]) ∧ Exts w w' := by
  have HL := Lib.hid h.1
  have HLA := Lib.hid (ints_len ha)
  have HLB := Lib.hid (ints_len hb)
  obtain ⟨r1, hr1⟩ : ∃ r, rightD D = r := ⟨_, rfl⟩
  obtain ⟨r2, hr2⟩ : ∃ r, inD D al = r := ⟨_, rfl⟩
  obtain ⟨r3, hr3⟩ : ∃ r, inD D bl = r := ⟨_, rfl⟩
  have hr : vecD D al bl = (r1 && (r2 && r3)) := by unfold vecD; rw [hr1, hr2, hr3]
  have hm := h.nle
  unfold maxLen at hm
  have hma := RowF.nle ha
  have hmb := RowF.nle hb
  unfold maxLen at hma hmb
  have H := Lib.hid h
  have HAA := Lib.hid ha
  have HBB := Lib.hid hb
  have HRT := Lib.hid hr1
  have HIA := Lib.hid hr2
  have HIB := Lib.hid hr3
  have HVD := Lib.hid hr
  clear h ha hb hr hr1 hr2 hr3
  obtain ⟨up, hup⟩ : ∃ r, belowD D al bl = r := ⟨_, rfl⟩
  obtain ⟨dn, hdn⟩ : ∃ r, belowD D bl al = r := ⟨_, rfl⟩
  have HUP := Lib.hid hup
  have HDN := Lib.hid hdn
  clear hup hdn
  cases r1 with
  | false =>
    have HR := Lib.hid (show cmpD D al bl = (0, 1) by simp [cmpD, HVD.out])
    go_enter Try.func16, Try.ntmps16
    go_wp2_with (first | (go_at_call 20; ((with_reducible refine (right20_D _ _ _ D _ _ (H.out.exts (by repeat (first | exact Exts.refl _ | apply Exts.andR | apply Exts.alloc | apply Exts.wext | apply Exts.drew | apply Exts.drewN))) HRT.out).mono ?_); rintro e w' ⟨rfl, x0, rfl⟩)) | (go_at_call 29; ((with_reducible refine (vector29_D lo ao _ _ _ _ D al _ _ (H.out.exts (by repeat (first | exact Exts.refl _ | apply Exts.andR | apply Exts.alloc | apply Exts.wext | apply Exts.drew | apply Exts.drewN))) (RowF.exts HAA.out (by repeat (first | exact Exts.refl _ | apply Exts.andR | apply Exts.alloc | apply Exts.wext | apply Exts.drew | apply Exts.drewN))) HIA.out).mono ?_); rintro e w' ⟨rfl, x1, rfl⟩)) | (go_at_call 29; ((with_reducible refine (vector29_D lo bo _ _ _ _ D bl _ _ (H.out.exts (by repeat (first | exact Exts.refl _ | apply Exts.andR | apply Exts.alloc | apply Exts.wext | apply Exts.drew | apply Exts.drewN))) (RowF.exts HBB.out (by repeat (first | exact Exts.refl _ | apply Exts.andR | apply Exts.alloc | apply Exts.wext | apply Exts.drew | apply Exts.drewN))) HIB.out).mono ?_); rintro e w' ⟨rfl, x2, rfl⟩)) | (go_at_call 24; ((with_reducible refine (below24_D lo ao bo _ _ _ _ _ _ D al bl _ _ (H.out.exts (by repeat (first | exact Exts.refl _ | apply Exts.andR | apply Exts.alloc | apply Exts.wext | apply Exts.drew | apply Exts.drewN))) (RowF.exts HAA.out (by repeat (first | exact Exts.refl _ | apply Exts.andR | apply Exts.alloc | apply Exts.wext | apply Exts.drew | apply Exts.drewN))) (RowF.exts HBB.out (by repeat (first | exact Exts.refl _ | apply Exts.andR | apply Exts.alloc | apply Exts.wext | apply Exts.drew | apply Exts.drewN))) HUP.out).mono ?_); rintro e w' ⟨rfl, x3, rfl⟩)) | (go_at_call 24; ((with_reducible refine (below24_D lo bo ao _ _ _ _ _ _ D bl al _ _ (H.out.exts (by repeat (first | exact Exts.refl _ | apply Exts.andR | apply Exts.alloc | apply Exts.wext | apply Exts.drew | apply Exts.drewN))) (RowF.exts HBB.out (by repeat (first | exact Exts.refl _ | apply Exts.andR | apply Exts.alloc | apply Exts.wext | apply Exts.drew | apply Exts.drewN))) (RowF.exts HAA.out (by repeat (first | exact Exts.refl _ | apply Exts.andR | apply Exts.alloc | apply Exts.wext | apply Exts.drew | apply Exts.drewN))) HDN.out).mono ?_); rintro e w' ⟨rfl, x4, rfl⟩)))
    go_ret2
    exact ⟨by rw [HR.out]; rfl, (by repeat (first | exact Exts.refl _ | apply Exts.andR | apply Exts.alloc | apply Exts.wext | apply Exts.drew | apply Exts.drewN))⟩
  | true =>
    cases r2 with
    | false =>
      have HR := Lib.hid (show cmpD D al bl = (0, 1) by simp [cmpD, HVD.out])
      go_enter Try.func16, Try.ntmps16
      go_wp2_with (first | (go_at_call 20; ((with_reducible refine (right20_D _ _ _ D _ _ (H.out.exts (by repeat (first | exact Exts.refl _ | apply Exts.andR | apply Exts.alloc | apply Exts.wext | apply Exts.drew | apply Exts.drewN))) HRT.out).mono ?_); rintro e w' ⟨rfl, x0, rfl⟩)) | (go_at_call 29; ((with_reducible refine (vector29_D lo ao _ _ _ _ D al _ _ (H.out.exts (by repeat (first | exact Exts.refl _ | apply Exts.andR | apply Exts.alloc | apply Exts.wext | apply Exts.drew | apply Exts.drewN))) (RowF.exts HAA.out (by repeat (first | exact Exts.refl _ | apply Exts.andR | apply Exts.alloc | apply Exts.wext | apply Exts.drew | apply Exts.drewN))) HIA.out).mono ?_); rintro e w' ⟨rfl, x1, rfl⟩)) | (go_at_call 29; ((with_reducible refine (vector29_D lo bo _ _ _ _ D bl _ _ (H.out.exts (by repeat (first | exact Exts.refl _ | apply Exts.andR | apply Exts.alloc | apply Exts.wext | apply Exts.drew | apply Exts.drewN))) (RowF.exts HBB.out (by repeat (first | exact Exts.refl _ | apply Exts.andR | apply Exts.alloc | apply Exts.wext | apply Exts.drew | apply Exts.drewN))) HIB.out).mono ?_); rintro e w' ⟨rfl, x2, rfl⟩)) | (go_at_call 24; ((with_reducible refine (below24_D lo ao bo _ _ _ _ _ _ D al bl _ _ (H.out.exts (by repeat (first | exact Exts.refl _ | apply Exts.andR | apply Exts.alloc | apply Exts.wext | apply Exts.drew | apply Exts.drewN))) (RowF.exts HAA.out (by repeat (first | exact Exts.refl _ | apply Exts.andR | apply Exts.alloc | apply Exts.wext | apply Exts.drew | apply Exts.drewN))) (RowF.exts HBB.out (by repeat (first | exact Exts.refl _ | apply Exts.andR | apply Exts.alloc | apply Exts.wext | apply Exts.drew | apply Exts.drewN))) HUP.out).mono ?_); rintro e w' ⟨rfl, x3, rfl⟩)) | (go_at_call 24; ((with_reducible refine (below24_D lo bo ao _ _ _ _ _ _ D bl al _ _ (H.out.exts (by repeat (first | exact Exts.refl _ | apply Exts.andR | apply Exts.alloc | apply Exts.wext | apply Exts.drew | apply Exts.drewN))) (RowF.exts HBB.out (by repeat (first | exact Exts.refl _ | apply Exts.andR | apply Exts.alloc | apply Exts.wext | apply Exts.drew | apply Exts.drewN))) (RowF.exts HAA.out (by repeat (first | exact Exts.refl _ | apply Exts.andR | apply Exts.alloc | apply Exts.wext | apply Exts.drew | apply Exts.drewN))) HDN.out).mono ?_); rintro e w' ⟨rfl, x4, rfl⟩)))
      go_ret2
      exact ⟨by rw [HR.out]; rfl, (by repeat (first | exact Exts.refl _ | apply Exts.andR | apply Exts.alloc | apply Exts.wext | apply Exts.drew | apply Exts.drewN))⟩
    | true =>
      cases r3 with
      | false =>
        have HR := Lib.hid (show cmpD D al bl = (0, 1) by simp [cmpD, HVD.out])
        go_enter Try.func16, Try.ntmps16
        go_wp2_with (first | (go_at_call 20; ((with_reducible refine (right20_D _ _ _ D _ _ (H.out.exts (by repeat (first | exact Exts.refl _ | apply Exts.andR | apply Exts.alloc | apply Exts.wext | apply Exts.drew | apply Exts.drewN))) HRT.out).mono ?_); rintro e w' ⟨rfl, x0, rfl⟩)) | (go_at_call 29; ((with_reducible refine (vector29_D lo ao _ _ _ _ D al _ _ (H.out.exts (by repeat (first | exact Exts.refl _ | apply Exts.andR | apply Exts.alloc | apply Exts.wext | apply Exts.drew | apply Exts.drewN))) (RowF.exts HAA.out (by repeat (first | exact Exts.refl _ | apply Exts.andR | apply Exts.alloc | apply Exts.wext | apply Exts.drew | apply Exts.drewN))) HIA.out).mono ?_); rintro e w' ⟨rfl, x1, rfl⟩)) | (go_at_call 29; ((with_reducible refine (vector29_D lo bo _ _ _ _ D bl _ _ (H.out.exts (by repeat (first | exact Exts.refl _ | apply Exts.andR | apply Exts.alloc | apply Exts.wext | apply Exts.drew | apply Exts.drewN))) (RowF.exts HBB.out (by repeat (first | exact Exts.refl _ | apply Exts.andR | apply Exts.alloc | apply Exts.wext | apply Exts.drew | apply Exts.drewN))) HIB.out).mono ?_); rintro e w' ⟨rfl, x2, rfl⟩)) | (go_at_call 24; ((with_reducible refine (below24_D lo ao bo _ _ _ _ _ _ D al bl _ _ (H.out.exts (by repeat (first | exact Exts.refl _ | apply Exts.andR | apply Exts.alloc | apply Exts.wext | apply Exts.drew | apply Exts.drewN))) (RowF.exts HAA.out (by repeat (first | exact Exts.refl _ | apply Exts.andR | apply Exts.alloc | apply Exts.wext | apply Exts.drew | apply Exts.drewN))) (RowF.exts HBB.out (by repeat (first | exact Exts.refl _ | apply Exts.andR | apply Exts.alloc | apply Exts.wext | apply Exts.drew | apply Exts.drewN))) HUP.out).mono ?_); rintro e w' ⟨rfl, x3, rfl⟩)) | (go_at_call 24; ((with_reducible refine (below24_D lo bo ao _ _ _ _ _ _ D bl al _ _ (H.out.exts (by repeat (first | exact Exts.refl _ | apply Exts.andR | apply Exts.alloc | apply Exts.wext | apply Exts.drew | apply Exts.drewN))) (RowF.exts HBB.out (by repeat (first | exact Exts.refl _ | apply Exts.andR | apply Exts.alloc | apply Exts.wext | apply Exts.drew | apply Exts.drewN))) (RowF.exts HAA.out (by repeat (first | exact Exts.refl _ | apply Exts.andR | apply Exts.alloc | apply Exts.wext | apply Exts.drew | apply Exts.drewN))) HDN.out).mono ?_); rintro e w' ⟨rfl, x4, rfl⟩)))
        go_ret2
        exact ⟨by rw [HR.out]; rfl, (by repeat (first | exact Exts.refl _ | apply Exts.andR | apply Exts.alloc | apply Exts.wext | apply Exts.drew | apply Exts.drewN))⟩
      | true =>
        cases up <;> cases dn
        · have HR := Lib.hid (show cmpD D al bl = (3, 0) by simp [cmpD, HVD.out, HUP.out, HDN.out])
          go_enter Try.func16, Try.ntmps16
          go_wp2_with (first | (go_at_call 20; ((with_reducible refine (right20_D _ _ _ D _ _ (H.out.exts (by repeat (first | exact Exts.refl _ | apply Exts.andR | apply Exts.alloc | apply Exts.wext | apply Exts.drew | apply Exts.drewN))) HRT.out).mono ?_); rintro e w' ⟨rfl, x0, rfl⟩)) | (go_at_call 29; ((with_reducible refine (vector29_D lo ao _ _ _ _ D al _ _ (H.out.exts (by repeat (first | exact Exts.refl _ | apply Exts.andR | apply Exts.alloc | apply Exts.wext | apply Exts.drew | apply Exts.drewN))) (RowF.exts HAA.out (by repeat (first | exact Exts.refl _ | apply Exts.andR | apply Exts.alloc | apply Exts.wext | apply Exts.drew | apply Exts.drewN))) HIA.out).mono ?_); rintro e w' ⟨rfl, x1, rfl⟩)) | (go_at_call 29; ((with_reducible refine (vector29_D lo bo _ _ _ _ D bl _ _ (H.out.exts (by repeat (first | exact Exts.refl _ | apply Exts.andR | apply Exts.alloc | apply Exts.wext | apply Exts.drew | apply Exts.drewN))) (RowF.exts HBB.out (by repeat (first | exact Exts.refl _ | apply Exts.andR | apply Exts.alloc | apply Exts.wext | apply Exts.drew | apply Exts.drewN))) HIB.out).mono ?_); rintro e w' ⟨rfl, x2, rfl⟩)) | (go_at_call 24; ((with_reducible refine (below24_D lo ao bo _ _ _ _ _ _ D al bl _ _ (H.out.exts (by repeat (first | exact Exts.refl _ | apply Exts.andR | apply Exts.alloc | apply Exts.wext | apply Exts.drew | apply Exts.drewN))) (RowF.exts HAA.out (by repeat (first | exact Exts.refl _ | apply Exts.andR | apply Exts.alloc | apply Exts.wext | apply Exts.drew | apply Exts.drewN))) (RowF.exts HBB.out (by repeat (first | exact Exts.refl _ | apply Exts.andR | apply Exts.alloc | apply Exts.wext | apply Exts.drew | apply Exts.drewN))) HUP.out).mono ?_); rintro e w' ⟨rfl, x3, rfl⟩)) | (go_at_call 24; ((with_reducible refine (below24_D lo bo ao _ _ _ _ _ _ D bl al _ _ (H.out.exts (by repeat (first | exact Exts.refl _ | apply Exts.andR | apply Exts.alloc | apply Exts.wext | apply Exts.drew | apply Exts.drewN))) (RowF.exts HBB.out (by repeat (first | exact Exts.refl _ | apply Exts.andR | apply Exts.alloc | apply Exts.wext | apply Exts.drew | apply Exts.drewN))) (RowF.exts HAA.out (by repeat (first | exact Exts.refl _ | apply Exts.andR | apply Exts.alloc | apply Exts.wext | apply Exts.drew | apply Exts.drewN))) HDN.out).mono ?_); rintro e w' ⟨rfl, x4, rfl⟩)))
          go_ret2
          exact ⟨by rw [HR.out]; rfl, (by repeat (first | exact Exts.refl _ | apply Exts.andR | apply Exts.alloc | apply Exts.wext | apply Exts.drew | apply Exts.drewN))⟩
        · have HR := Lib.hid (show cmpD D al bl = (2, 0) by simp [cmpD, HVD.out, HUP.out, HDN.out])
          go_enter Try.func16, Try.ntmps16
          go_wp2_with (first | (go_at_call 20; ((with_reducible refine (right20_D _ _ _ D _ _ (H.out.exts (by repeat (first | exact Exts.refl _ | apply Exts.andR | apply Exts.alloc | apply Exts.wext | apply Exts.drew | apply Exts.drewN))) HRT.out).mono ?_); rintro e w' ⟨rfl, x0, rfl⟩)) | (go_at_call 29; ((with_reducible refine (vector29_D lo ao _ _ _ _ D al _ _ (H.out.exts (by repeat (first | exact Exts.refl _ | apply Exts.andR | apply Exts.alloc | apply Exts.wext | apply Exts.drew | apply Exts.drewN))) (RowF.exts HAA.out (by repeat (first | exact Exts.refl _ | apply Exts.andR | apply Exts.alloc | apply Exts.wext | apply Exts.drew | apply Exts.drewN))) HIA.out).mono ?_); rintro e w' ⟨rfl, x1, rfl⟩)) | (go_at_call 29; ((with_reducible refine (vector29_D lo bo _ _ _ _ D bl _ _ (H.out.exts (by repeat (first | exact Exts.refl _ | apply Exts.andR | apply Exts.alloc | apply Exts.wext | apply Exts.drew | apply Exts.drewN))) (RowF.exts HBB.out (by repeat (first | exact Exts.refl _ | apply Exts.andR | apply Exts.alloc | apply Exts.wext | apply Exts.drew | apply Exts.drewN))) HIB.out).mono ?_); rintro e w' ⟨rfl, x2, rfl⟩)) | (go_at_call 24; ((with_reducible refine (below24_D lo ao bo _ _ _ _ _ _ D al bl _ _ (H.out.exts (by repeat (first | exact Exts.refl _ | apply Exts.andR | apply Exts.alloc | apply Exts.wext | apply Exts.drew | apply Exts.drewN))) (RowF.exts HAA.out (by repeat (first | exact Exts.refl _ | apply Exts.andR | apply Exts.alloc | apply Exts.wext | apply Exts.drew | apply Exts.drewN))) (RowF.exts HBB.out (by repeat (first | exact Exts.refl _ | apply Exts.andR | apply Exts.alloc | apply Exts.wext | apply Exts.drew | apply Exts.drewN))) HUP.out).mono ?_); rintro e w' ⟨rfl, x3, rfl⟩)) | (go_at_call 24; ((with_reducible refine (below24_D lo bo ao _ _ _ _ _ _ D bl al _ _ (H.out.exts (by repeat (first | exact Exts.refl _ | apply Exts.andR | apply Exts.alloc | apply Exts.wext | apply Exts.drew | apply Exts.drewN))) (RowF.exts HBB.out (by repeat (first | exact Exts.refl _ | apply Exts.andR | apply Exts.alloc | apply Exts.wext | apply Exts.drew | apply Exts.drewN))) (RowF.exts HAA.out (by repeat (first | exact Exts.refl _ | apply Exts.andR | apply Exts.alloc | apply Exts.wext | apply Exts.drew | apply Exts.drewN))) HDN.out).mono ?_); rintro e w' ⟨rfl, x4, rfl⟩)))
          go_ret2
          exact ⟨by rw [HR.out]; rfl, (by repeat (first | exact Exts.refl _ | apply Exts.andR | apply Exts.alloc | apply Exts.wext | apply Exts.drew | apply Exts.drewN))⟩
        · have HR := Lib.hid (show cmpD D al bl = (1, 0) by simp [cmpD, HVD.out, HUP.out, HDN.out])
          go_enter Try.func16, Try.ntmps16
          go_wp2_with (first | (go_at_call 20; ((with_reducible refine (right20_D _ _ _ D _ _ (H.out.exts (by repeat (first | exact Exts.refl _ | apply Exts.andR | apply Exts.alloc | apply Exts.wext | apply Exts.drew | apply Exts.drewN))) HRT.out).mono ?_); rintro e w' ⟨rfl, x0, rfl⟩)) | (go_at_call 29; ((with_reducible refine (vector29_D lo ao _ _ _ _ D al _ _ (H.out.exts (by repeat (first | exact Exts.refl _ | apply Exts.andR | apply Exts.alloc | apply Exts.wext | apply Exts.drew | apply Exts.drewN))) (RowF.exts HAA.out (by repeat (first | exact Exts.refl _ | apply Exts.andR | apply Exts.alloc | apply Exts.wext | apply Exts.drew | apply Exts.drewN))) HIA.out).mono ?_); rintro e w' ⟨rfl, x1, rfl⟩)) | (go_at_call 29; ((with_reducible refine (vector29_D lo bo _ _ _ _ D bl _ _ (H.out.exts (by repeat (first | exact Exts.refl _ | apply Exts.andR | apply Exts.alloc | apply Exts.wext | apply Exts.drew | apply Exts.drewN))) (RowF.exts HBB.out (by repeat (first | exact Exts.refl _ | apply Exts.andR | apply Exts.alloc | apply Exts.wext | apply Exts.drew | apply Exts.drewN))) HIB.out).mono ?_); rintro e w' ⟨rfl, x2, rfl⟩)) | (go_at_call 24; ((with_reducible refine (below24_D lo ao bo _ _ _ _ _ _ D al bl _ _ (H.out.exts (by repeat (first | exact Exts.refl _ | apply Exts.andR | apply Exts.alloc | apply Exts.wext | apply Exts.drew | apply Exts.drewN))) (RowF.exts HAA.out (by repeat (first | exact Exts.refl _ | apply Exts.andR | apply Exts.alloc | apply Exts.wext | apply Exts.drew | apply Exts.drewN))) (RowF.exts HBB.out (by repeat (first | exact Exts.refl _ | apply Exts.andR | apply Exts.alloc | apply Exts.wext | apply Exts.drew | apply Exts.drewN))) HUP.out).mono ?_); rintro e w' ⟨rfl, x3, rfl⟩)) | (go_at_call 24; ((with_reducible refine (below24_D lo bo ao _ _ _ _ _ _ D bl al _ _ (H.out.exts (by repeat (first | exact Exts.refl _ | apply Exts.andR | apply Exts.alloc | apply Exts.wext | apply Exts.drew | apply Exts.drewN))) (RowF.exts HBB.out (by repeat (first | exact Exts.refl _ | apply Exts.andR | apply Exts.alloc | apply Exts.wext | apply Exts.drew | apply Exts.drewN))) (RowF.exts HAA.out (by repeat (first | exact Exts.refl _ | apply Exts.andR | apply Exts.alloc | apply Exts.wext | apply Exts.drew | apply Exts.drewN))) HDN.out).mono ?_); rintro e w' ⟨rfl, x4, rfl⟩)))
          go_ret2
          exact ⟨by rw [HR.out]; rfl, (by repeat (first | exact Exts.refl _ | apply Exts.andR | apply Exts.alloc | apply Exts.wext | apply Exts.drew | apply Exts.drewN))⟩
        · have HR := Lib.hid (show cmpD D al bl = (0, 0) by simp [cmpD, HVD.out, HUP.out, HDN.out])
          go_enter Try.func16, Try.ntmps16
          go_wp2_with (first | (go_at_call 20; ((with_reducible refine (right20_D _ _ _ D _ _ (H.out.exts (by repeat (first | exact Exts.refl _ | apply Exts.andR | apply Exts.alloc | apply Exts.wext | apply Exts.drew | apply Exts.drewN))) HRT.out).mono ?_); rintro e w' ⟨rfl, x0, rfl⟩)) | (go_at_call 29; ((with_reducible refine (vector29_D lo ao _ _ _ _ D al _ _ (H.out.exts (by repeat (first | exact Exts.refl _ | apply Exts.andR | apply Exts.alloc | apply Exts.wext | apply Exts.drew | apply Exts.drewN))) (RowF.exts HAA.out (by repeat (first | exact Exts.refl _ | apply Exts.andR | apply Exts.alloc | apply Exts.wext | apply Exts.drew | apply Exts.drewN))) HIA.out).mono ?_); rintro e w' ⟨rfl, x1, rfl⟩)) | (go_at_call 29; ((with_reducible refine (vector29_D lo bo _ _ _ _ D bl _ _ (H.out.exts (by repeat (first | exact Exts.refl _ | apply Exts.andR | apply Exts.alloc | apply Exts.wext | apply Exts.drew | apply Exts.drewN))) (RowF.exts HBB.out (by repeat (first | exact Exts.refl _ | apply Exts.andR | apply Exts.alloc | apply Exts.wext | apply Exts.drew | apply Exts.drewN))) HIB.out).mono ?_); rintro e w' ⟨rfl, x2, rfl⟩)) | (go_at_call 24; ((with_reducible refine (below24_D lo ao bo _ _ _ _ _ _ D al bl _ _ (H.out.exts (by repeat (first | exact Exts.refl _ | apply Exts.andR | apply Exts.alloc | apply Exts.wext | apply Exts.drew | apply Exts.drewN))) (RowF.exts HAA.out (by repeat (first | exact Exts.refl _ | apply Exts.andR | apply Exts.alloc | apply Exts.wext | apply Exts.drew | apply Exts.drewN))) (RowF.exts HBB.out (by repeat (first | exact Exts.refl _ | apply Exts.andR | apply Exts.alloc | apply Exts.wext | apply Exts.drew | apply Exts.drewN))) HUP.out).mono ?_); rintro e w' ⟨rfl, x3, rfl⟩)) | (go_at_call 24; ((with_reducible refine (below24_D lo bo ao _ _ _ _ _ _ D bl al _ _ (H.out.exts (by repeat (first | exact Exts.refl _ | apply Exts.andR | apply Exts.alloc | apply Exts.wext | apply Exts.drew | apply Exts.drewN))) (RowF.exts HBB.out (by repeat (first | exact Exts.refl _ | apply Exts.andR | apply Exts.alloc | apply Exts.wext | apply Exts.drew | apply Exts.drewN))) (RowF.exts HAA.out (by repeat (first | exact Exts.refl _ | apply Exts.andR | apply Exts.alloc | apply Exts.wext | apply Exts.drew | apply Exts.drewN))) HDN.out).mono ?_); rintro e w' ⟨rfl, x4, rfl⟩)))
          go_ret2
          exact ⟨by rw [HR.out]; rfl, (by repeat (first | exact Exts.refl _ | apply Exts.andR | apply Exts.alloc | apply Exts.wext | apply Exts.drew | apply Exts.drewN))⟩
end Go.Proofs.Ytbafcfbchbjgfaa
