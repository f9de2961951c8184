/- TopAgain returns true, if casesSmall does. -/
import Derived.Test.YtgmjcgjbbogefaaGreatM22
namespace Go.Proofs.YtgmjcgjbbogefaaGreat
open Go.RowKit Go.Maps
set_option linter.unusedSimpArgs false
set_option linter.unusedVariables false
set_option maxRecDepth 100000
set_option maxHeartbeats 8000000
theorem top3 (small4 : ∀ w, Calls Tryz.prog 4 #[] w fun e w' => e = .returned (.bool true) ∧ Exts w w') {S S1 S2 S3 S4 : Nat → Prop} (lo bo vo to wo : Option Addr) (n1 c1 n c nv cv nt ct nw cw : Nat) (D : List Dm) (B : List Cs) (vl tl wl : List Int) (b1 b2 : Bool) (w : World) (hd : Dims S w lo n1 c1 D) (hb : Cases S1 w bo n c B) (hv : Ints S2 w vo nv cv vl) (ht : Ints S3 w to nt ct tl) (hw : Ints S4 w wo nw cw wl) :
    Calls Tryz.prog 3 #[.slice lo n1 c1, .slice bo n c, .slice vo nv cv, .slice to nt ct, .slice wo nw cw, .bool b1, .bool b2] w fun e w' => e = .returned (.bool true) ∧ Exts w w' := by
  have HL := Lib.hid hb.1
  have HD := Lib.hid hd
  have HB := Lib.hid hb
  have HV := Lib.hid hv
  have HT := Lib.hid ht
  have HW := Lib.hid hw
  have HLV := Lib.hid (ints_len hv)
  have HLT := Lib.hid (ints_len ht)
  clear hd hb hv ht hw
  cases hfew : fewBD D B with
  | false =>
    have HFEW := Lib.hid hfew
    clear hfew
    go_enter Tryz.func3, Tryz.ntmps3
    go_wp2_with (first | (go_at_call 4; ((with_reducible refine (small4 _).mono ?_); rintro e w' ⟨rfl, x0, rfl⟩)) | (go_at_call 5; ((with_reducible refine (refFew10 _ _ _ _ _ _ D B _ _ (HD.out.exts (by repeat (first | exact Exts.refl _ | apply Exts.andR | apply Exts.alloc | apply Exts.wext | apply Exts.drew | apply Exts.drewN))) (HB.out.exts (by repeat (first | exact Exts.refl _ | apply Exts.andR | apply Exts.alloc | apply Exts.wext | apply Exts.drew | apply Exts.drewN))) HFEW.out).mono ?_); rintro e w' ⟨rfl, x1, rfl⟩)))
    go_ret
    exact ⟨rfl, (by repeat (first | exact Exts.refl _ | apply Exts.andR | apply Exts.alloc | apply Exts.wext | apply Exts.drew | apply Exts.drewN))⟩
  | true =>
    have HFEW := Lib.hid hfew
    obtain ⟨_, hn16, hsh⟩ := few_le hfew
    rw [HL.out] at hn16
    have HSH := Lib.hid hsh
    clear hfew hsh
    by_cases h8 : 8 < nv
    · have q1 : decide ((8 : Int) < (nv : Int)) = true := by simp; omega
      clear h8
      go_enter Tryz.func3, Tryz.ntmps3
      go_wp2_with (first | (go_at_call 4; ((with_reducible refine (small4 _).mono ?_); rintro e w' ⟨rfl, x0, rfl⟩)) | (go_at_call 5; ((with_reducible refine (refFew10 _ _ _ _ _ _ D B _ _ (HD.out.exts (by repeat (first | exact Exts.refl _ | apply Exts.andR | apply Exts.alloc | apply Exts.wext | apply Exts.drew | apply Exts.drewN))) (HB.out.exts (by repeat (first | exact Exts.refl _ | apply Exts.andR | apply Exts.alloc | apply Exts.wext | apply Exts.drew | apply Exts.drewN))) HFEW.out).mono ?_); rintro e w' ⟨rfl, x1, rfl⟩)))
      go_ret
      exact ⟨rfl, (by repeat (first | exact Exts.refl _ | apply Exts.andR | apply Exts.alloc | apply Exts.wext | apply Exts.drew | apply Exts.drewN))⟩
    · have q1 : decide ((8 : Int) < (nv : Int)) = false := by simp; omega
      have hnv : nv ≤ 1000 := by omega
      clear h8
      by_cases h9 : 8 < nt
      · have q2 : decide ((8 : Int) < (nt : Int)) = true := by simp; omega
        clear h9
        go_enter Tryz.func3, Tryz.ntmps3
        go_wp2_with (first | (go_at_call 4; ((with_reducible refine (small4 _).mono ?_); rintro e w' ⟨rfl, x0, rfl⟩)) | (go_at_call 5; ((with_reducible refine (refFew10 _ _ _ _ _ _ D B _ _ (HD.out.exts (by repeat (first | exact Exts.refl _ | apply Exts.andR | apply Exts.alloc | apply Exts.wext | apply Exts.drew | apply Exts.drewN))) (HB.out.exts (by repeat (first | exact Exts.refl _ | apply Exts.andR | apply Exts.alloc | apply Exts.wext | apply Exts.drew | apply Exts.drewN))) HFEW.out).mono ?_); rintro e w' ⟨rfl, x1, rfl⟩)))
        go_ret
        exact ⟨rfl, (by repeat (first | exact Exts.refl _ | apply Exts.andR | apply Exts.alloc | apply Exts.wext | apply Exts.drew | apply Exts.drewN))⟩
      · have q2 : decide ((8 : Int) < (nt : Int)) = false := by simp; omega
        have hnt : nt ≤ 1000 := by omega
        clear h9
        by_cases h10 : 8 < nw
        · have q3 : decide ((8 : Int) < (nw : Int)) = true := by simp; omega
          clear h10
          go_enter Tryz.func3, Tryz.ntmps3
          go_wp2_with (first | (go_at_call 4; ((with_reducible refine (small4 _).mono ?_); rintro e w' ⟨rfl, x0, rfl⟩)) | (go_at_call 5; ((with_reducible refine (refFew10 _ _ _ _ _ _ D B _ _ (HD.out.exts (by repeat (first | exact Exts.refl _ | apply Exts.andR | apply Exts.alloc | apply Exts.wext | apply Exts.drew | apply Exts.drewN))) (HB.out.exts (by repeat (first | exact Exts.refl _ | apply Exts.andR | apply Exts.alloc | apply Exts.wext | apply Exts.drew | apply Exts.drewN))) HFEW.out).mono ?_); rintro e w' ⟨rfl, x1, rfl⟩)))
          go_ret
          exact ⟨rfl, (by repeat (first | exact Exts.refl _ | apply Exts.andR | apply Exts.alloc | apply Exts.wext | apply Exts.drew | apply Exts.drewN))⟩
        · have q3 : decide ((8 : Int) < (nw : Int)) = false := by simp; omega
          have hnw : nw ≤ 1000 := by omega
          clear h10
          have hn1 : n ≤ 100 := by omega
          have hn2 : n ≤ 2000 := by omega
          go_enter Tryz.func3, Tryz.ntmps3
          go_wp2_with (first | (go_at_call 4; ((with_reducible refine (small4 _).mono ?_); rintro e w' ⟨rfl, x0, rfl⟩)) | (go_at_call 5; ((with_reducible refine (refFew10 _ _ _ _ _ _ D B _ _ (HD.out.exts (by repeat (first | exact Exts.refl _ | apply Exts.andR | apply Exts.alloc | apply Exts.wext | apply Exts.drew | apply Exts.drewN))) (HB.out.exts (by repeat (first | exact Exts.refl _ | apply Exts.andR | apply Exts.alloc | apply Exts.wext | apply Exts.drew | apply Exts.drewN))) HFEW.out).mono ?_); rintro e w' ⟨rfl, x1, rfl⟩)))
          refine wp_name ?_
          intro W hW
          have HX := Lib.hid (show Exts w W by rw [hW]; exact (by repeat (first | exact Exts.refl _ | apply Exts.andR | apply Exts.alloc | apply Exts.wext | apply Exts.drew | apply Exts.drewN)))
          have HDW := Lib.hid (HD.out.exts HX.out)
          have HBW := Lib.hid (HB.out.exts HX.out)
          have HVW := Lib.hid (RowF.exts HV.out HX.out)
          have HTW := Lib.hid (RowF.exts HT.out HX.out)
          have HWW := Lib.hid (RowF.exts HW.out HX.out)
          clear hW HD HB HV HT HW
          go_loopw [16, 17] (fun m i wr => ∃ (k : Nat), k ≤ n ∧ i = .int .i64 k ∧ m = .int .i64 (topId B k) ∧ Exts W wr ∧ ∀ x ∈ B.take k, x.id ≤ 1000000) (fun _ i _ => n - (intOf i).toNat)
          case atStart => exact ⟨0, by omega, rfl, rfl, Exts.refl _, by simp⟩
          case round =>
            obtain ⟨k, hk, rfl, rfl, hx, hids⟩ := hrel
            have HX2 := Lib.hid hx
            have HI := Lib.hid hids
            by_cases hlt : k < n
            · obtain ⟨b, off, id, vs, gr, vo', vc, rfl, lb, hc, e0, e1, e2, hvs, hid⟩ := (HBW.out.exts hx).get hlt
              have HC := Lib.hid hc
              have HE := Lib.hid (show topId B (k + 1) = max (topId B k) (id + 1) by show (match B[k]? with | some c => _ | none => _) = _; rw [hc])
              clear hc hvs hx
              by_cases hid6 : (1000000 : Int) < id
              · have q4 : decide ((1000000 : Int) < id) = true := by simpa using hid6
                clear hid6 hid hids
                go_wp2
                go_ret
                exact ⟨rfl, HX.out.trans (HX2.out.trans (by repeat (first | exact Exts.refl _ | apply Exts.andR | apply Exts.alloc | apply Exts.wext | apply Exts.drew | apply Exts.drewN)))⟩
              · have q4 : decide ((1000000 : Int) < id) = false := by simpa using hid6
                have hwr : IntKind.i64.wrap (id + 1) = id + 1 := by
                  obtain ⟨i1, i2⟩ := hid
                  rw [IntKind.wrap_i64] <;> omega
                have HC2 := Lib.hid (show id ≤ 1000000 by omega)
                clear hid6 hid hids
                go_wp2
                refine ⟨⟨k + 1, by omega, by go_num, ?_, HX2.out.trans (by repeat (first | exact Exts.refl _ | apply Exts.andR | apply Exts.alloc | apply Exts.wext | apply Exts.drew | apply Exts.drewN)), fun x hx => ?_⟩, ?_⟩
                · rw [HE.out]
                  exact congrArg _ (by simp only [Int.max_def]; (repeat' split) <;> omega)
                · rw [List.take_add_one, HC.out] at hx
                  rcases List.mem_append.1 hx with hx | hx
                  · exact HI.out x hx
                  · simp at hx; rw [hx]; exact HC2.out
                · simp [intOf]; omega
            · obtain rfl : k = n := by omega
              rw [List.take_of_length_le (by rw [HL.out]; exact Nat.le_refl _)] at hids
              have HD := Lib.hid (HDW.out.exts hx)
              have HB := Lib.hid (HBW.out.exts hx)
              have HV := Lib.hid (RowF.exts HVW.out hx)
              have HT := Lib.hid (RowF.exts HTW.out hx)
              have HW := Lib.hid (RowF.exts HWW.out hx)
              have hle := topId_le hids k
              have hfresh : ∀ i, topId B k ≤ i → (B.any fun d => d.id == i) = false := fun i hi => topId_new (by rw [HL.out]; exact hi)
              obtain ⟨id, hid⟩ : ∃ i, topId B k = i := ⟨_, rfl⟩
              rw [hid] at hle hfresh ⊢
              obtain ⟨⟨cx, cy, is⟩, hC⟩ : ∃ r, consD D B = r := ⟨_, rfl⟩
              have HC := Lib.hid hC
              have HI0 := Lib.hid (show I64 id from ⟨by omega, by omega⟩)
              have HI1 := Lib.hid (show I64 (id + 1) from ⟨by omega, by omega⟩)
              have HI2 := Lib.hid (show I64 (id + 2) from ⟨by omega, by omega⟩)
              have HS := Lib.hid (show ∀ d ∈ B, d.vals.length ≤ 1000 from fun d hd => Nat.le_trans (HSH.out d hd) (by decide))
              have HLE := Lib.hid hle
              clear hids hx hid HDW HBW HVW HTW HWW HI
              cases is with
              | false =>
                obtain ⟨⟨gr, L, e0⟩, hR1⟩ : ∃ r, decD D B id vl b1 = r := ⟨_, rfl⟩
                have HR1 := Lib.hid hR1
                clear hR1 hC hfresh hle
                go_wp2_with (first | (go_at_call 6; ((with_reducible refine (cons13_R _ _ _ _ _ _ D B _ _ _ _ (HD.out.exts (by repeat (first | exact Exts.refl _ | apply Exts.andR | apply Exts.alloc | apply Exts.wext | apply Exts.drew | apply Exts.drewN))) (HB.out.exts (by repeat (first | exact Exts.refl _ | apply Exts.andR | apply Exts.alloc | apply Exts.wext | apply Exts.drew | apply Exts.drewN))) hn2 HC.out).mono ?_); rintro e w' ⟨rfl, x2, rfl⟩)) | (go_at_call 7; ((with_reducible refine (decide7_R _ _ _ _ _ _ _ _ _ D B vl _ _ _ _ _ _ (HD.out.exts (by repeat (first | exact Exts.refl _ | apply Exts.andR | apply Exts.alloc | apply Exts.wext | apply Exts.drew | apply Exts.drewN))) (HB.out.exts (by repeat (first | exact Exts.refl _ | apply Exts.andR | apply Exts.alloc | apply Exts.wext | apply Exts.drew | apply Exts.drewN))) (RowF.exts HV.out (by repeat (first | exact Exts.refl _ | apply Exts.andR | apply Exts.alloc | apply Exts.wext | apply Exts.drew | apply Exts.drewN))) hn1 hnv HI0.out HS.out HR1.out).mono ?_); rintro e w' ⟨ro3, m3, rc3, rfl, ⟨x3, rfl⟩, hc3⟩; clear hc3)))
                go_ret
                exact ⟨rfl, HX.out.trans (HX2.out.trans (by repeat (first | exact Exts.refl _ | apply Exts.andR | apply Exts.alloc | apply Exts.wext | apply Exts.drew | apply Exts.drewN)))⟩
              | true =>
                have hcons : (consD D B).2.2 = true := by rw [hC]
                cases hin : inD D vl with
                | false =>
                  have HR1 := Lib.hid (dec_no (B := B) (id := id) b1 hin)
                  clear hC hfresh hle hcons hin
                  go_wp2_with (first | (go_at_call 6; ((with_reducible refine (cons13_R _ _ _ _ _ _ D B _ _ _ _ (HD.out.exts (by repeat (first | exact Exts.refl _ | apply Exts.andR | apply Exts.alloc | apply Exts.wext | apply Exts.drew | apply Exts.drewN))) (HB.out.exts (by repeat (first | exact Exts.refl _ | apply Exts.andR | apply Exts.alloc | apply Exts.wext | apply Exts.drew | apply Exts.drewN))) hn2 HC.out).mono ?_); rintro e w' ⟨rfl, x2, rfl⟩)) | (go_at_call 7; ((with_reducible refine (decide7_R _ _ _ _ _ _ _ _ _ D B vl _ _ _ _ _ _ (HD.out.exts (by repeat (first | exact Exts.refl _ | apply Exts.andR | apply Exts.alloc | apply Exts.wext | apply Exts.drew | apply Exts.drewN))) (HB.out.exts (by repeat (first | exact Exts.refl _ | apply Exts.andR | apply Exts.alloc | apply Exts.wext | apply Exts.drew | apply Exts.drewN))) (RowF.exts HV.out (by repeat (first | exact Exts.refl _ | apply Exts.andR | apply Exts.alloc | apply Exts.wext | apply Exts.drew | apply Exts.drewN))) hn1 hnv HI0.out HS.out HR1.out).mono ?_); rintro e w' ⟨ro3, m3, rc3, rfl, ⟨x3, rfl⟩, hc3⟩; clear hc3)))
                  go_ret
                  exact ⟨rfl, HX.out.trans (HX2.out.trans (by repeat (first | exact Exts.refl _ | apply Exts.andR | apply Exts.alloc | apply Exts.wext | apply Exts.drew | apply Exts.drewN)))⟩
                | true =>
                  obtain ⟨g, hR1, hK1, _, _⟩ := dec_ok (id := id) b1 hcons hin (hfresh id (by omega))
                  obtain ⟨B1, hB1⟩ : ∃ B1, B ++ [(⟨id, vl, g⟩ : Cs)] = B1 := ⟨_, rfl⟩
                  rw [hB1] at hR1 hK1
                  have HR1 := Lib.hid hR1
                  have HK1 := Lib.hid hK1
                  have HM1 := Lib.hid (show B1.length = k + 1 by rw [← hB1]; simp [HL.out])
                  have HIN1 := Lib.hid (show (⟨id, vl, g⟩ : Cs) ∈ B1 by rw [← hB1]; simp)
                  have HS1 := Lib.hid (show ∀ d ∈ B1, d.vals.length ≤ 1000 by
                    intro d hd
                    rw [← hB1] at hd
                    rcases List.mem_append.1 hd with hd | hd
                    · exact HS.out d hd
                    · simp at hd; rw [hd]; simp only []; rw [HLV.out]; exact hnv)
                  have hfr1 : ∀ i, id < i → (B1.any fun d => d.id == i) = false := fun i hi => by
                    rw [← hB1, List.any_append, hfresh i (by omega)]
                    simp
                    omega
                  have HF1 := Lib.hid (hfr1 (id + 1) (by omega))
                  have hn3 : k + 1 ≤ 100 := by omega
                  cases hin2 : inD D tl with
                  | false =>
                    have HR2 := Lib.hid (dec_no (B := B1) (id := id + 1) b2 hin2)
                    clear hC hfresh hle hcons hin hR1 hK1 hB1 hfr1 hin2
                    obtain ⟨hle1, hle2⟩ := HLE.out
                    go_wp2_with (first | (go_at_call 6; ((with_reducible refine (cons13_R _ _ _ _ _ _ D B _ _ _ _ (HD.out.exts (by repeat (first | exact Exts.refl _ | apply Exts.andR | apply Exts.alloc | apply Exts.wext | apply Exts.drew | apply Exts.drewN))) (HB.out.exts (by repeat (first | exact Exts.refl _ | apply Exts.andR | apply Exts.alloc | apply Exts.wext | apply Exts.drew | apply Exts.drewN))) hn2 HC.out).mono ?_); rintro e w' ⟨rfl, x2, rfl⟩)) | (go_at_call 7; ((with_reducible refine (decide7_0 _ _ _ _ _ _ _ _ _ D B vl _ _ _ _ _ _ (HD.out.exts (by repeat (first | exact Exts.refl _ | apply Exts.andR | apply Exts.alloc | apply Exts.wext | apply Exts.drew | apply Exts.drewN))) (HB.out.exts (by repeat (first | exact Exts.refl _ | apply Exts.andR | apply Exts.alloc | apply Exts.wext | apply Exts.drew | apply Exts.drewN))) (RowF.exts HV.out (by repeat (first | exact Exts.refl _ | apply Exts.andR | apply Exts.alloc | apply Exts.wext | apply Exts.drew | apply Exts.drewN))) hn1 hnv HI0.out HS.out HR1.out HM1.out).mono ?_); rintro e w' ⟨ro3, rc3, rfl, ⟨x3, rfl⟩, hc3⟩; (try simp only [wext_and] at hc3); (have HC3 := Lib.hid hc3); clear hc3)) | (go_at_call 7; ((with_reducible refine (decide7_1 _ _ _ _ _ _ _ _ _ D B1 tl _ _ _ _ _ (HD.out.exts (by repeat (first | exact Exts.refl _ | apply Exts.andR | apply Exts.alloc | apply Exts.wext | apply Exts.drew | apply Exts.drewN))) (HC3.out.exts (by repeat (first | exact Exts.refl _ | apply Exts.andR | apply Exts.alloc | apply Exts.wext | apply Exts.drew | apply Exts.drewN))) (RowF.exts HT.out (by repeat (first | exact Exts.refl _ | apply Exts.andR | apply Exts.alloc | apply Exts.wext | apply Exts.drew | apply Exts.drewN))) hn3 hnt HI1.out HS1.out HR2.out).mono ?_); rintro e w' ⟨ro4, m4, rc4, rfl, ⟨x4, rfl⟩⟩)) | (go_at_call 8; ((with_reducible refine (again8 _ _ _ _ _ _ _ _ _ _ _ _ D B1 vl wl _ _ g _ (HD.out.exts (by repeat (first | exact Exts.refl _ | apply Exts.andR | apply Exts.alloc | apply Exts.wext | apply Exts.drew | apply Exts.drewN))) (HC3.out.exts (by repeat (first | exact Exts.refl _ | apply Exts.andR | apply Exts.alloc | apply Exts.wext | apply Exts.drew | apply Exts.drewN))) (RowF.exts HV.out (by repeat (first | exact Exts.refl _ | apply Exts.andR | apply Exts.alloc | apply Exts.wext | apply Exts.drew | apply Exts.drewN))) (RowF.exts HW.out (by repeat (first | exact Exts.refl _ | apply Exts.andR | apply Exts.alloc | apply Exts.wext | apply Exts.drew | apply Exts.drewN))) hn3 hnw HI1.out HS1.out HK1.out HIN1.out HF1.out).mono ?_); rintro e w' ⟨rfl, x5, rfl⟩)))
                    go_ret
                    exact ⟨by first | rfl | simp, HX.out.trans (HX2.out.trans (by repeat (first | exact Exts.refl _ | apply Exts.andR | apply Exts.alloc | apply Exts.wext | apply Exts.drew | apply Exts.drewN)))⟩
                  | true =>
                    obtain ⟨g2, hR2, hK2, _, _⟩ := dec_ok (id := id + 1) b2 hK1 hin2 HF1.out
                    obtain ⟨B2, hB2⟩ : ∃ B2, B1 ++ [(⟨id + 1, tl, g2⟩ : Cs)] = B2 := ⟨_, rfl⟩
                    rw [hB2] at hR2 hK2
                    have HR2 := Lib.hid hR2
                    have HK2 := Lib.hid hK2
                    have HM2 := Lib.hid (show B2.length = k + 2 by rw [← hB2]; simp [HM1.out])
                    have HIN2 := Lib.hid (show (⟨id, vl, g⟩ : Cs) ∈ B2 by rw [← hB2]; exact List.mem_append_left _ HIN1.out)
                    have HS2 := Lib.hid (show ∀ d ∈ B2, d.vals.length ≤ 1000 by
                      intro d hd
                      rw [← hB2] at hd
                      rcases List.mem_append.1 hd with hd | hd
                      · exact HS1.out d hd
                      · simp at hd; rw [hd]; simp only []; rw [HLT.out]; exact hnt)
                    have HF2 := Lib.hid (show (B2.any fun d => d.id == id + 2) = false by
                      rw [← hB2, List.any_append, hfr1 (id + 2) (by omega)]
                      simp)
                    have hn4 : k + 2 ≤ 100 := by omega
                    have hn5 : k + 2 ≤ 2000 := by omega
                    obtain ⟨⟨ax, ay, az⟩, hCB⟩ : ∃ r, consD D B2 = r := ⟨_, rfl⟩
                    obtain rfl : az = true := by rw [hCB] at hK2; exact hK2
                    have HCB := Lib.hid hCB
                    clear hC hfresh hle hcons hin hR1 hK1 hB1 hfr1 hin2 hR2 hK2 hB2 hCB
                    obtain ⟨hle1, hle2⟩ := HLE.out
                    go_wp2_with (first | (go_at_call 6; ((with_reducible refine (cons13_R _ _ _ _ _ _ D B _ _ _ _ (HD.out.exts (by repeat (first | exact Exts.refl _ | apply Exts.andR | apply Exts.alloc | apply Exts.wext | apply Exts.drew | apply Exts.drewN))) (HB.out.exts (by repeat (first | exact Exts.refl _ | apply Exts.andR | apply Exts.alloc | apply Exts.wext | apply Exts.drew | apply Exts.drewN))) hn2 HC.out).mono ?_); rintro e w' ⟨rfl, x2, rfl⟩)) | (go_at_call 7; ((with_reducible refine (decide7_0 _ _ _ _ _ _ _ _ _ D B vl _ _ _ _ _ _ (HD.out.exts (by repeat (first | exact Exts.refl _ | apply Exts.andR | apply Exts.alloc | apply Exts.wext | apply Exts.drew | apply Exts.drewN))) (HB.out.exts (by repeat (first | exact Exts.refl _ | apply Exts.andR | apply Exts.alloc | apply Exts.wext | apply Exts.drew | apply Exts.drewN))) (RowF.exts HV.out (by repeat (first | exact Exts.refl _ | apply Exts.andR | apply Exts.alloc | apply Exts.wext | apply Exts.drew | apply Exts.drewN))) hn1 hnv HI0.out HS.out HR1.out HM1.out).mono ?_); rintro e w' ⟨ro3, rc3, rfl, ⟨x3, rfl⟩, hc3⟩; (try simp only [wext_and] at hc3); (have HC3 := Lib.hid hc3); clear hc3)) | (go_at_call 7; ((with_reducible refine (decide7_0 _ _ _ _ _ _ _ _ _ D B1 tl _ _ _ _ _ _ (HD.out.exts (by repeat (first | exact Exts.refl _ | apply Exts.andR | apply Exts.alloc | apply Exts.wext | apply Exts.drew | apply Exts.drewN))) (HC3.out.exts (by repeat (first | exact Exts.refl _ | apply Exts.andR | apply Exts.alloc | apply Exts.wext | apply Exts.drew | apply Exts.drewN))) (RowF.exts HT.out (by repeat (first | exact Exts.refl _ | apply Exts.andR | apply Exts.alloc | apply Exts.wext | apply Exts.drew | apply Exts.drewN))) hn3 hnt HI1.out HS1.out HR2.out HM2.out).mono ?_); rintro e w' ⟨ro4, rc4, rfl, ⟨x4, rfl⟩, hc4⟩; (try simp only [wext_and] at hc4); (have HC4 := Lib.hid hc4); clear hc4)) | (go_at_call 6; ((with_reducible refine (cons13_R _ _ _ _ _ _ D B2 _ _ _ _ (HD.out.exts (by repeat (first | exact Exts.refl _ | apply Exts.andR | apply Exts.alloc | apply Exts.wext | apply Exts.drew | apply Exts.drewN))) (HC4.out.exts (by repeat (first | exact Exts.refl _ | apply Exts.andR | apply Exts.alloc | apply Exts.wext | apply Exts.drew | apply Exts.drewN))) hn5 HCB.out).mono ?_); rintro e w' ⟨rfl, x6, rfl⟩)) | (go_at_call 8; ((with_reducible refine (again8 _ _ _ _ _ _ _ _ _ _ _ _ D B2 vl wl _ _ g _ (HD.out.exts (by repeat (first | exact Exts.refl _ | apply Exts.andR | apply Exts.alloc | apply Exts.wext | apply Exts.drew | apply Exts.drewN))) (HC4.out.exts (by repeat (first | exact Exts.refl _ | apply Exts.andR | apply Exts.alloc | apply Exts.wext | apply Exts.drew | apply Exts.drewN))) (RowF.exts HV.out (by repeat (first | exact Exts.refl _ | apply Exts.andR | apply Exts.alloc | apply Exts.wext | apply Exts.drew | apply Exts.drewN))) (RowF.exts HW.out (by repeat (first | exact Exts.refl _ | apply Exts.andR | apply Exts.alloc | apply Exts.wext | apply Exts.drew | apply Exts.drewN))) hn4 hnw HI2.out HS2.out HK2.out HIN2.out HF2.out).mono ?_); rintro e w' ⟨rfl, x5, rfl⟩)))
                    go_ret
                    exact ⟨by first | rfl | simp, HX.out.trans (HX2.out.trans (by repeat (first | exact Exts.refl _ | apply Exts.andR | apply Exts.alloc | apply Exts.wext | apply Exts.drew | apply Exts.drewN)))⟩
end Go.Proofs.YtgmjcgjbbogefaaGreat
