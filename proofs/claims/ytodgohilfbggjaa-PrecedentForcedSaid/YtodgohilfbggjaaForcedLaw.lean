/- PrecedentForced returns true. No condition. -/
import Derived.Test.YtodgohilfbggjaaM19
import Derived.Test.YtodgohilfbggjaaM21
namespace Go.Proofs.Ytodgohilfbggjaa
open Go.RowKit
set_option linter.unusedSimpArgs false
set_option linter.unusedVariables false
set_option maxRecDepth 100000
set_option maxHeartbeats 4000000
theorem forced4 {S S1 S2 : Nat → Prop} (lo bo ao : Option Addr) (n1 c1 n c na ca : Nat) (D : List Dm) (B : List Cs) (al : List Int) (w : World) (hd : Dims S w lo n1 c1 D) (hb : Cases S1 w bo n c B) (ha : Ints S2 w ao na ca al) :
    Calls Try.prog 4 #[.slice lo n1 c1, .slice bo n c, .slice ao na ca] w fun e w' => e = .returned (.bool true) ∧ Exts w w' := by
  have HL := Lib.hid hb.1
  have HD := Lib.hid hd
  have HB := Lib.hid hb
  have HA := Lib.hid ha
  clear hd hb ha
  cases hfew : fewBD D B with
  | false =>
    have HFEW := Lib.hid hfew
    clear hfew
    go_enter Try.func4, Try.ntmps4
    go_wp2_with (first | (go_at_call 9; ((with_reducible refine (small9 _).mono ?_); rintro e w' ⟨rfl, x0, rfl⟩)) | (go_at_call 10; ((with_reducible refine (refFew10 _ _ _ _ _ _ D B _ _ (HD.out.exts (by repeat (first | exact Exts.refl _ | apply Exts.andR | apply Exts.alloc | apply Exts.wext | apply Exts.drew | apply Exts.drewN))) (HB.out.exts (by repeat (first | exact Exts.refl _ | apply Exts.andR | apply Exts.alloc | apply Exts.wext | apply Exts.drew | apply Exts.drewN))) HFEW.out).mono ?_); rintro e w' ⟨rfl, x1, rfl⟩)))
    go_ret
    exact ⟨rfl, (by repeat (first | exact Exts.refl _ | apply Exts.andR | apply Exts.alloc | apply Exts.wext | apply Exts.drew | apply Exts.drewN))⟩
  | true =>
    have HFEW := Lib.hid hfew
    have hn16 : n ≤ 16 := by have := (few_le hfew).2.1; rw [HL.out] at this; exact this
    clear hfew
    by_cases h8 : 8 < na
    · have q1 : decide ((8 : Int) < (na : Int)) = true := by simp; omega
      clear h8
      go_enter Try.func4, Try.ntmps4
      go_wp2_with (first | (go_at_call 9; ((with_reducible refine (small9 _).mono ?_); rintro e w' ⟨rfl, x0, rfl⟩)) | (go_at_call 10; ((with_reducible refine (refFew10 _ _ _ _ _ _ D B _ _ (HD.out.exts (by repeat (first | exact Exts.refl _ | apply Exts.andR | apply Exts.alloc | apply Exts.wext | apply Exts.drew | apply Exts.drewN))) (HB.out.exts (by repeat (first | exact Exts.refl _ | apply Exts.andR | apply Exts.alloc | apply Exts.wext | apply Exts.drew | apply Exts.drewN))) HFEW.out).mono ?_); rintro e w' ⟨rfl, x1, rfl⟩)))
      go_ret
      exact ⟨rfl, (by repeat (first | exact Exts.refl _ | apply Exts.andR | apply Exts.alloc | apply Exts.wext | apply Exts.drew | apply Exts.drewN))⟩
    · have q1 : decide ((8 : Int) < (na : Int)) = false := by simp; omega
      have hn : n ≤ 2000 := by omega
      have hn1 : n ≤ 100 := by omega
      have hn2 : n + 1 ≤ 2000 := by omega
      clear h8
      go_enter Try.func4, Try.ntmps4
      go_wp2_with (first | (go_at_call 9; ((with_reducible refine (small9 _).mono ?_); rintro e w' ⟨rfl, x0, rfl⟩)) | (go_at_call 10; ((with_reducible refine (refFew10 _ _ _ _ _ _ D B _ _ (HD.out.exts (by repeat (first | exact Exts.refl _ | apply Exts.andR | apply Exts.alloc | apply Exts.wext | apply Exts.drew | apply Exts.drewN))) (HB.out.exts (by repeat (first | exact Exts.refl _ | apply Exts.andR | apply Exts.alloc | apply Exts.wext | apply Exts.drew | apply Exts.drewN))) HFEW.out).mono ?_); rintro e w' ⟨rfl, x1, rfl⟩)))
      refine wp_name ?_
      intro W hW
      have HX := Lib.hid (show Exts w W by rw [hW]; exact (by repeat (first | exact Exts.refl _ | apply Exts.andR | apply Exts.alloc | apply Exts.wext | apply Exts.drew | apply Exts.drewN)))
      have HDW := Lib.hid (HD.out.exts HX.out)
      have HBW := Lib.hid (HB.out.exts HX.out)
      have HAW := Lib.hid (RowF.exts HA.out HX.out)
      clear hW HD HB HA
      go_loopw [8] (fun i wr => ∃ (k : Nat), k ≤ n ∧ i = .int .i64 k ∧ Exts W wr ∧ ∀ x ∈ B.take k, x.id ≤ 1000000) (fun i _ => n - (intOf i).toNat)
      case atStart => exact ⟨0, by omega, rfl, Exts.refl _, by simp⟩
      case round =>
        obtain ⟨k, hk, rfl, hx, hids⟩ := hrel
        have HX2 := Lib.hid hx
        have HI := Lib.hid hids
        clear hids
        by_cases hlt : k < n
        · obtain ⟨b, off, id, vs, gr, vo, vc, rfl, lb, hc, e0, e1, e2, hvs, hid⟩ := (HBW.out.exts hx).get hlt
          have HC := Lib.hid hc
          clear hc hvs hx hid
          by_cases hid6 : (1000000 : Int) < id
          · have q2 : decide ((1000000 : Int) < id) = true := by simpa using hid6
            clear hid6
            go_wp2
            go_ret
            exact ⟨rfl, HX.out.trans (HX2.out.trans (by repeat (first | exact Exts.refl _ | apply Exts.andR | apply Exts.alloc | apply Exts.wext | apply Exts.drew | apply Exts.drewN)))⟩
          · have q2 : decide ((1000000 : Int) < id) = false := by simpa using hid6
            have HC2 := Lib.hid (show id ≤ 1000000 by omega)
            clear hid6
            go_wp2
            refine ⟨⟨k + 1, by omega, by go_num, HX2.out.trans (by repeat (first | exact Exts.refl _ | apply Exts.andR | apply Exts.alloc | apply Exts.wext | apply Exts.drew | apply Exts.drewN)), fun x hx => ?_⟩, ?_⟩
            · rw [List.take_add_one, HC.out] at hx
              rcases List.mem_append.1 hx with hx | hx
              · exact HI.out x hx
              · simp at hx; rw [hx]; exact HC2.out
            · simp [intOf]; omega
        · obtain rfl : k = n := by omega
          have hids := HI.out
          rw [List.take_of_length_le (by rw [HL.out]; exact Nat.le_refl _)] at hids
          have HD := Lib.hid (HDW.out.exts hx)
          have HB := Lib.hid (HBW.out.exts hx)
          have HA := Lib.hid (RowF.exts HAW.out hx)
          obtain ⟨⟨cx, cy, is⟩, hR2⟩ : ∃ r, consD D B = r := ⟨_, rfl⟩
          obtain ⟨⟨wh, by1, e1⟩, hR1⟩ : ∃ r, forD D B al = r := ⟨_, rfl⟩
          obtain ⟨m1, hm1⟩ : ∃ m, by1.length = m := ⟨_, rfl⟩
          have HR1 := Lib.hid hR1
          have HR2 := Lib.hid hR2
          have HM1 := Lib.hid hm1
          cases is with
          | false =>
            clear hids hx hR1 hR2 hm1
            go_wp2_with (first | (go_at_call 13; ((with_reducible refine (cons13_R lo bo _ _ _ _ D B _ _ _ _ (HD.out.exts (by repeat (first | exact Exts.refl _ | apply Exts.andR | apply Exts.alloc | apply Exts.wext | apply Exts.drew | apply Exts.drewN))) (HB.out.exts (by repeat (first | exact Exts.refl _ | apply Exts.andR | apply Exts.alloc | apply Exts.wext | apply Exts.drew | apply Exts.drewN))) hn HR2.out).mono ?_); rintro e w' ⟨rfl, x4, rfl⟩)) | (go_at_call 11; ((with_reducible refine (forced11_R _ _ _ _ _ _ _ _ _ D B al _ _ _ _ _ (HD.out.exts (by repeat (first | exact Exts.refl _ | apply Exts.andR | apply Exts.alloc | apply Exts.wext | apply Exts.drew | apply Exts.drewN))) (HB.out.exts (by repeat (first | exact Exts.refl _ | apply Exts.andR | apply Exts.alloc | apply Exts.wext | apply Exts.drew | apply Exts.drewN))) (RowF.exts HA.out (by repeat (first | exact Exts.refl _ | apply Exts.andR | apply Exts.alloc | apply Exts.wext | apply Exts.drew | apply Exts.drewN))) hn HR1.out HM1.out).mono ?_); rintro e w' ⟨fo1, fc1, rfl, ⟨x2, rfl⟩, hf⟩; clear hf)))
            go_ret
            exact ⟨rfl, HX.out.trans (HX2.out.trans (by repeat (first | exact Exts.refl _ | apply Exts.andR | apply Exts.alloc | apply Exts.wext | apply Exts.drew | apply Exts.drewN)))⟩
          | true =>
            by_cases he1 : e1 = 0
            · subst he1
              have his : (consD D B).2.2 = true := by rw [hR2]
              have hck := consD_chk his
              have hin : inD D al = true := by
                unfold forD at hR1
                rw [hck, Bool.true_and] at hR1
                cases h : inD D al with
                | true => rfl
                | false =>
                  rw [h] at hR1
                  cases hR1
              have hby : whatD D B al = wh ∧ byK D B al B.length = by1 := by
                unfold forD at hR1
                rw [hck, hin] at hR1
                simp only [Bool.and_self, if_true, Prod.mk.injEq, and_true] at hR1
                exact hR1
              obtain ⟨hw1, hb1⟩ := hby
              obtain ⟨hg, hf⟩ := cons_with his hin (maxId_new hids)
              rw [HL.out] at hg hf
              obtain ⟨⟨gx, gy, gg⟩, hG⟩ : ∃ r, consD D (B ++ [⟨maxId B k, al, true⟩]) = r := ⟨_, rfl⟩
              obtain ⟨⟨fx, fy, ff⟩, hF⟩ : ∃ r, consD D (B ++ [⟨maxId B k, al, false⟩]) = r := ⟨_, rfl⟩
              have HG := Lib.hid hG
              have HF := Lib.hid hF
              rw [hG] at hg
              rw [hF] at hf
              simp only [] at hg hf
              have hno := fun h1 h2 => (consD_is hck).1 his (side_conf hck hin h1 h2)
              have hsT := @by_some D B al true
              have hsF := @by_some D B al false
              have hnil := @by_nil D B al
              rw [hb1] at hsT hsF hnil
              unfold whatD at hw1
              obtain ⟨sT, hT⟩ : ∃ s, sideB D B al true = s := ⟨_, rfl⟩
              obtain ⟨sF, hFF⟩ : ∃ s, sideB D B al false = s := ⟨_, rfl⟩
              rw [hT, hFF] at hno hnil hw1
              rw [hFF] at hg hsF
              rw [hT] at hf hsT
              rw [hm1] at hsT hsF
              clear hR1 hR2 hG hF his hck hin hb1 hT hFF hids hx
              cases sT with
              | true =>
                cases sF with
                | true => exact absurd rfl (hno rfl)
                | false =>
                  obtain rfl : wh = 1 := hw1.symm
                  have hm0 := hsT rfl
                  have q3 : decide ((0 : Int) < (m1 : Int)) = true := by simp; omega
                  subst hg hf
                  clear hno hsT hsF hnil hw1 hm1
                  go_wp2_with (first | (go_at_call 13; ((with_reducible refine (cons13_R lo bo _ _ _ _ D B _ _ _ _ (HD.out.exts (by repeat (first | exact Exts.refl _ | apply Exts.andR | apply Exts.alloc | apply Exts.wext | apply Exts.drew | apply Exts.drewN))) (HB.out.exts (by repeat (first | exact Exts.refl _ | apply Exts.andR | apply Exts.alloc | apply Exts.wext | apply Exts.drew | apply Exts.drewN))) hn HR2.out).mono ?_); rintro e w' ⟨rfl, x4, rfl⟩)) | (go_at_call 11; ((with_reducible refine (forced11_R _ _ _ _ _ _ _ _ _ D B al _ _ _ _ _ (HD.out.exts (by repeat (first | exact Exts.refl _ | apply Exts.andR | apply Exts.alloc | apply Exts.wext | apply Exts.drew | apply Exts.drewN))) (HB.out.exts (by repeat (first | exact Exts.refl _ | apply Exts.andR | apply Exts.alloc | apply Exts.wext | apply Exts.drew | apply Exts.drewN))) (RowF.exts HA.out (by repeat (first | exact Exts.refl _ | apply Exts.andR | apply Exts.alloc | apply Exts.wext | apply Exts.drew | apply Exts.drewN))) hn HR1.out HM1.out).mono ?_); rintro e w' ⟨fo1, fc1, rfl, ⟨x2, rfl⟩, hf⟩; clear hf)) | (go_at_call 26; ((with_reducible refine (with26 _ _ _ _ _ _ B al true _ (HB.out.exts (by repeat (first | exact Exts.refl _ | apply Exts.andR | apply Exts.alloc | apply Exts.wext | apply Exts.drew | apply Exts.drewN))) (RowF.exts HA.out (by repeat (first | exact Exts.refl _ | apply Exts.andR | apply Exts.alloc | apply Exts.wext | apply Exts.drew | apply Exts.drewN))) hn1).mono ?_); rintro e w' ⟨ro1, rc1, rfl, ⟨x5, rfl⟩, hw1⟩; (try simp only [wext_and] at hw1); (have HW1 := Lib.hid hw1); clear hw1)) | (go_at_call 26; ((with_reducible refine (with26 _ _ _ _ _ _ B al false _ (HB.out.exts (by repeat (first | exact Exts.refl _ | apply Exts.andR | apply Exts.alloc | apply Exts.wext | apply Exts.drew | apply Exts.drewN))) (RowF.exts HA.out (by repeat (first | exact Exts.refl _ | apply Exts.andR | apply Exts.alloc | apply Exts.wext | apply Exts.drew | apply Exts.drewN))) hn1).mono ?_); rintro e w' ⟨ro2, rc2, rfl, ⟨x6, rfl⟩, hw2⟩; (try simp only [wext_and] at hw2); (have HW2 := Lib.hid hw2); clear hw2)) | (go_at_call 13; ((with_reducible refine (cons13_R lo ro1 _ _ _ rc1 D _ _ _ _ _ (HD.out.exts (by repeat (first | exact Exts.refl _ | apply Exts.andR | apply Exts.alloc | apply Exts.wext | apply Exts.drew | apply Exts.drewN))) (HW1.out.exts (by repeat (first | exact Exts.refl _ | apply Exts.andR | apply Exts.alloc | apply Exts.wext | apply Exts.drew | apply Exts.drewN))) hn2 HG.out).mono ?_); rintro e w' ⟨rfl, x7, rfl⟩)) | (go_at_call 13; ((with_reducible refine (cons13_R lo ro2 _ _ _ rc2 D _ _ _ _ _ (HD.out.exts (by repeat (first | exact Exts.refl _ | apply Exts.andR | apply Exts.alloc | apply Exts.wext | apply Exts.drew | apply Exts.drewN))) (HW2.out.exts (by repeat (first | exact Exts.refl _ | apply Exts.andR | apply Exts.alloc | apply Exts.wext | apply Exts.drew | apply Exts.drewN))) hn2 HF.out).mono ?_); rintro e w' ⟨rfl, x8, rfl⟩)))
                  go_ret
                  exact ⟨rfl, HX.out.trans (HX2.out.trans (by repeat (first | exact Exts.refl _ | apply Exts.andR | apply Exts.alloc | apply Exts.wext | apply Exts.drew | apply Exts.drewN)))⟩
              | false =>
                cases sF with
                | true =>
                  obtain rfl : wh = 2 := hw1.symm
                  have hm0 := hsF rfl
                  have q3 : decide ((0 : Int) < (m1 : Int)) = true := by simp; omega
                  subst hg hf
                  clear hno hsT hsF hnil hw1 hm1
                  go_wp2_with (first | (go_at_call 13; ((with_reducible refine (cons13_R lo bo _ _ _ _ D B _ _ _ _ (HD.out.exts (by repeat (first | exact Exts.refl _ | apply Exts.andR | apply Exts.alloc | apply Exts.wext | apply Exts.drew | apply Exts.drewN))) (HB.out.exts (by repeat (first | exact Exts.refl _ | apply Exts.andR | apply Exts.alloc | apply Exts.wext | apply Exts.drew | apply Exts.drewN))) hn HR2.out).mono ?_); rintro e w' ⟨rfl, x4, rfl⟩)) | (go_at_call 11; ((with_reducible refine (forced11_R _ _ _ _ _ _ _ _ _ D B al _ _ _ _ _ (HD.out.exts (by repeat (first | exact Exts.refl _ | apply Exts.andR | apply Exts.alloc | apply Exts.wext | apply Exts.drew | apply Exts.drewN))) (HB.out.exts (by repeat (first | exact Exts.refl _ | apply Exts.andR | apply Exts.alloc | apply Exts.wext | apply Exts.drew | apply Exts.drewN))) (RowF.exts HA.out (by repeat (first | exact Exts.refl _ | apply Exts.andR | apply Exts.alloc | apply Exts.wext | apply Exts.drew | apply Exts.drewN))) hn HR1.out HM1.out).mono ?_); rintro e w' ⟨fo1, fc1, rfl, ⟨x2, rfl⟩, hf⟩; clear hf)) | (go_at_call 26; ((with_reducible refine (with26 _ _ _ _ _ _ B al true _ (HB.out.exts (by repeat (first | exact Exts.refl _ | apply Exts.andR | apply Exts.alloc | apply Exts.wext | apply Exts.drew | apply Exts.drewN))) (RowF.exts HA.out (by repeat (first | exact Exts.refl _ | apply Exts.andR | apply Exts.alloc | apply Exts.wext | apply Exts.drew | apply Exts.drewN))) hn1).mono ?_); rintro e w' ⟨ro1, rc1, rfl, ⟨x5, rfl⟩, hw1⟩; (try simp only [wext_and] at hw1); (have HW1 := Lib.hid hw1); clear hw1)) | (go_at_call 26; ((with_reducible refine (with26 _ _ _ _ _ _ B al false _ (HB.out.exts (by repeat (first | exact Exts.refl _ | apply Exts.andR | apply Exts.alloc | apply Exts.wext | apply Exts.drew | apply Exts.drewN))) (RowF.exts HA.out (by repeat (first | exact Exts.refl _ | apply Exts.andR | apply Exts.alloc | apply Exts.wext | apply Exts.drew | apply Exts.drewN))) hn1).mono ?_); rintro e w' ⟨ro2, rc2, rfl, ⟨x6, rfl⟩, hw2⟩; (try simp only [wext_and] at hw2); (have HW2 := Lib.hid hw2); clear hw2)) | (go_at_call 13; ((with_reducible refine (cons13_R lo ro1 _ _ _ rc1 D _ _ _ _ _ (HD.out.exts (by repeat (first | exact Exts.refl _ | apply Exts.andR | apply Exts.alloc | apply Exts.wext | apply Exts.drew | apply Exts.drewN))) (HW1.out.exts (by repeat (first | exact Exts.refl _ | apply Exts.andR | apply Exts.alloc | apply Exts.wext | apply Exts.drew | apply Exts.drewN))) hn2 HG.out).mono ?_); rintro e w' ⟨rfl, x7, rfl⟩)) | (go_at_call 13; ((with_reducible refine (cons13_R lo ro2 _ _ _ rc2 D _ _ _ _ _ (HD.out.exts (by repeat (first | exact Exts.refl _ | apply Exts.andR | apply Exts.alloc | apply Exts.wext | apply Exts.drew | apply Exts.drewN))) (HW2.out.exts (by repeat (first | exact Exts.refl _ | apply Exts.andR | apply Exts.alloc | apply Exts.wext | apply Exts.drew | apply Exts.drewN))) hn2 HF.out).mono ?_); rintro e w' ⟨rfl, x8, rfl⟩)))
                  go_ret
                  exact ⟨rfl, HX.out.trans (HX2.out.trans (by repeat (first | exact Exts.refl _ | apply Exts.andR | apply Exts.alloc | apply Exts.wext | apply Exts.drew | apply Exts.drewN)))⟩
                | false =>
                  obtain rfl : wh = 0 := hw1.symm
                  have hm0 : by1 = [] := hnil rfl rfl
                  subst hm0
                  obtain rfl : m1 = 0 := hm1.symm
                  subst hg hf
                  clear hno hsT hsF hnil hw1 hm1
                  go_wp2_with (first | (go_at_call 13; ((with_reducible refine (cons13_R lo bo _ _ _ _ D B _ _ _ _ (HD.out.exts (by repeat (first | exact Exts.refl _ | apply Exts.andR | apply Exts.alloc | apply Exts.wext | apply Exts.drew | apply Exts.drewN))) (HB.out.exts (by repeat (first | exact Exts.refl _ | apply Exts.andR | apply Exts.alloc | apply Exts.wext | apply Exts.drew | apply Exts.drewN))) hn HR2.out).mono ?_); rintro e w' ⟨rfl, x4, rfl⟩)) | (go_at_call 11; ((with_reducible refine (forced11_R _ _ _ _ _ _ _ _ _ D B al _ _ _ _ _ (HD.out.exts (by repeat (first | exact Exts.refl _ | apply Exts.andR | apply Exts.alloc | apply Exts.wext | apply Exts.drew | apply Exts.drewN))) (HB.out.exts (by repeat (first | exact Exts.refl _ | apply Exts.andR | apply Exts.alloc | apply Exts.wext | apply Exts.drew | apply Exts.drewN))) (RowF.exts HA.out (by repeat (first | exact Exts.refl _ | apply Exts.andR | apply Exts.alloc | apply Exts.wext | apply Exts.drew | apply Exts.drewN))) hn HR1.out HM1.out).mono ?_); rintro e w' ⟨fo1, fc1, rfl, ⟨x2, rfl⟩, hf⟩; clear hf)) | (go_at_call 26; ((with_reducible refine (with26 _ _ _ _ _ _ B al true _ (HB.out.exts (by repeat (first | exact Exts.refl _ | apply Exts.andR | apply Exts.alloc | apply Exts.wext | apply Exts.drew | apply Exts.drewN))) (RowF.exts HA.out (by repeat (first | exact Exts.refl _ | apply Exts.andR | apply Exts.alloc | apply Exts.wext | apply Exts.drew | apply Exts.drewN))) hn1).mono ?_); rintro e w' ⟨ro1, rc1, rfl, ⟨x5, rfl⟩, hw1⟩; (try simp only [wext_and] at hw1); (have HW1 := Lib.hid hw1); clear hw1)) | (go_at_call 26; ((with_reducible refine (with26 _ _ _ _ _ _ B al false _ (HB.out.exts (by repeat (first | exact Exts.refl _ | apply Exts.andR | apply Exts.alloc | apply Exts.wext | apply Exts.drew | apply Exts.drewN))) (RowF.exts HA.out (by repeat (first | exact Exts.refl _ | apply Exts.andR | apply Exts.alloc | apply Exts.wext | apply Exts.drew | apply Exts.drewN))) hn1).mono ?_); rintro e w' ⟨ro2, rc2, rfl, ⟨x6, rfl⟩, hw2⟩; (try simp only [wext_and] at hw2); (have HW2 := Lib.hid hw2); clear hw2)) | (go_at_call 13; ((with_reducible refine (cons13_R lo ro1 _ _ _ rc1 D _ _ _ _ _ (HD.out.exts (by repeat (first | exact Exts.refl _ | apply Exts.andR | apply Exts.alloc | apply Exts.wext | apply Exts.drew | apply Exts.drewN))) (HW1.out.exts (by repeat (first | exact Exts.refl _ | apply Exts.andR | apply Exts.alloc | apply Exts.wext | apply Exts.drew | apply Exts.drewN))) hn2 HG.out).mono ?_); rintro e w' ⟨rfl, x7, rfl⟩)) | (go_at_call 13; ((with_reducible refine (cons13_R lo ro2 _ _ _ rc2 D _ _ _ _ _ (HD.out.exts (by repeat (first | exact Exts.refl _ | apply Exts.andR | apply Exts.alloc | apply Exts.wext | apply Exts.drew | apply Exts.drewN))) (HW2.out.exts (by repeat (first | exact Exts.refl _ | apply Exts.andR | apply Exts.alloc | apply Exts.wext | apply Exts.drew | apply Exts.drewN))) hn2 HF.out).mono ?_); rintro e w' ⟨rfl, x8, rfl⟩)))
                  go_ret
                  exact ⟨rfl, HX.out.trans (HX2.out.trans (by repeat (first | exact Exts.refl _ | apply Exts.andR | apply Exts.alloc | apply Exts.wext | apply Exts.drew | apply Exts.drewN)))⟩
            · have q3 : (e1 == 0) = false := by simpa using he1
              have q4 : (e1 != 0) = true := by simpa using he1
              clear hids hx hR1 hR2 hm1 he1
              go_wp2_with (first | (go_at_call 13; ((with_reducible refine (cons13_R lo bo _ _ _ _ D B _ _ _ _ (HD.out.exts (by repeat (first | exact Exts.refl _ | apply Exts.andR | apply Exts.alloc | apply Exts.wext | apply Exts.drew | apply Exts.drewN))) (HB.out.exts (by repeat (first | exact Exts.refl _ | apply Exts.andR | apply Exts.alloc | apply Exts.wext | apply Exts.drew | apply Exts.drewN))) hn HR2.out).mono ?_); rintro e w' ⟨rfl, x4, rfl⟩)) | (go_at_call 11; ((with_reducible refine (forced11_R _ _ _ _ _ _ _ _ _ D B al _ _ _ _ _ (HD.out.exts (by repeat (first | exact Exts.refl _ | apply Exts.andR | apply Exts.alloc | apply Exts.wext | apply Exts.drew | apply Exts.drewN))) (HB.out.exts (by repeat (first | exact Exts.refl _ | apply Exts.andR | apply Exts.alloc | apply Exts.wext | apply Exts.drew | apply Exts.drewN))) (RowF.exts HA.out (by repeat (first | exact Exts.refl _ | apply Exts.andR | apply Exts.alloc | apply Exts.wext | apply Exts.drew | apply Exts.drewN))) hn HR1.out HM1.out).mono ?_); rintro e w' ⟨fo1, fc1, rfl, ⟨x2, rfl⟩, hf⟩; clear hf)))
              go_ret
              exact ⟨rfl, HX.out.trans (HX2.out.trans (by repeat (first | exact Exts.refl _ | apply Exts.andR | apply Exts.alloc | apply Exts.wext | apply Exts.drew | apply Exts.drewN)))⟩
end Go.Proofs.Ytodgohilfbggjaa
