/- Lemmas that the laws of this seat share, 4 texts in one: Over, RefForT, RefOverPlain, RefOver. No condition of their own. -/
import Derived.Test.YtodgohilfbggjaaM14
import Derived.Test.YtodgohilfbggjaaM13
/- Overrule of package precedent. No condition but at most 100 cases. -/
namespace Go.Proofs.Ytodgohilfbggjaa
open Go.RowKit Go.Maps
set_option linter.unusedSimpArgs false
set_option linter.unusedVariables false
theorem RowF.caps {S : Nat → Prop} {k n cap : Nat} {w : World} {ao : Option Addr} {xs : List Value} (h : RowF S k w (.slice ao n cap) n xs) : n ≤ cap ∧ cap ≤ maxLen := by
  obtain ⟨_, ao2, cap2, hv, q1, q2, _, _⟩ := h
  simp only [Value.slice.injEq, true_and] at hv
  obtain ⟨rfl, rfl⟩ := hv
  exact ⟨q1, q2⟩
theorem Cases.ones {w : World} {n : Nat} {B : List Cs} {xs : List Value} (h1 : B.length = n) (h2 : xs.length = n * 3) (h3 : ∀ (i : Nat) (d : Cs), B[i]? = some d → ∃ v, xs[i * 3]? = some (.int .i64 d.id) ∧ xs[i * 3 + 1]? = some v ∧ xs[i * 3 + 2]? = some (.bool d.grant) ∧ IntsV w v d.vals) : ∀ u ∈ xs, u.oneCell' = true := by
  intro u hu
  obtain ⟨t, ht⟩ := List.getElem?_of_mem hu
  have hlt := (List.getElem?_eq_some_iff.1 ht).1
  have hd : B[t / 3]? = some B[t / 3] := List.getElem?_eq_getElem (by omega)
  obtain ⟨v, e1, e2, e3, vo, vc, rfl, _⟩ := h3 _ _ hd
  have hc : t = t / 3 * 3 ∨ t = t / 3 * 3 + 1 ∨ t = t / 3 * 3 + 2 := by omega
  rcases hc with hc | hc | hc <;> rw [hc] at ht
  · rw [e1] at ht; cases ht; rfl
  · rw [e2] at ht; cases ht; rfl
  · rw [e3] at ht; cases ht; rfl
set_option maxRecDepth 100000
set_option maxHeartbeats 4000000
theorem overrule19_no {S S1 : Nat → Prop} (lo bo : Option Addr) (n1 c1 n c : Nat) (D : List Dm) (B : List Cs) (at' : Int) (w : World) (hd : Dims S w lo n1 c1 D) (hb : Cases S1 w bo n c B) (hn : n ≤ 2000) (hck : (checkD D B && (decide (0 ≤ at') && decide (at' < (B.length : Int)))) = false) :
    Calls Try.prog 19 #[.slice lo n1 c1, .slice bo n c, .int .i64 at'] w fun e w' => e = .returned (.tuple #[.slice none 0 0, .int .i64 1]) ∧ Exts w w' := by
  have HD := Lib.hid hd
  have HB := Lib.hid hb
  rw [hb.1] at hck
  clear hd hb
  cases h1 : checkD D B with
  | false =>
    have HCK := Lib.hid h1
    clear h1 hck
    go_enter Try.func19, Try.ntmps19
    go_wp2_with (first | (go_at_call 31; ((with_reducible refine (check31 _ _ _ _ _ _ D B _ _ (HD.out.exts (by repeat (first | exact Exts.refl _ | apply Exts.andR | apply Exts.alloc | apply Exts.wext | apply Exts.drew | apply Exts.drewN))) (HB.out.exts (by repeat (first | exact Exts.refl _ | apply Exts.andR | apply Exts.alloc | apply Exts.wext | apply Exts.drew | apply Exts.drewN))) hn HCK.out).mono ?_); rintro e w' ⟨mo, N, mc, rfl, ⟨x1, rfl⟩, hm⟩; (try simp only [wext_and] at hm); (have HM := Lib.hid hm); clear hm)))
    go_ret2
    exact ⟨rfl, (by repeat (first | exact Exts.refl _ | apply Exts.andR | apply Exts.alloc | apply Exts.wext | apply Exts.drew | apply Exts.drewN))⟩
  | true =>
    rw [h1, Bool.true_and] at hck
    have HCK := Lib.hid h1
    clear h1
    by_cases h0 : at' < 0
    · have q0 : decide (at' < 0) = true := by simpa using h0
      clear h0 hck
      go_enter Try.func19, Try.ntmps19
      go_wp2_with (first | (go_at_call 31; ((with_reducible refine (check31_ok _ _ _ _ _ _ D B _ (HD.out.exts (by repeat (first | exact Exts.refl _ | apply Exts.andR | apply Exts.alloc | apply Exts.wext | apply Exts.drew | apply Exts.drewN))) (HB.out.exts (by repeat (first | exact Exts.refl _ | apply Exts.andR | apply Exts.alloc | apply Exts.wext | apply Exts.drew | apply Exts.drewN))) hn HCK.out).mono ?_); rintro e w' ⟨mo, mc, rfl, ⟨x1, rfl⟩, hm⟩; (try simp only [wext_and] at hm); (have HM := Lib.hid hm); clear hm)))
      go_ret2
      exact ⟨rfl, (by repeat (first | exact Exts.refl _ | apply Exts.andR | apply Exts.alloc | apply Exts.wext | apply Exts.drew | apply Exts.drewN))⟩
    · have q0 : decide (at' < 0) = false := by simpa using h0
      have q1 : decide ((n : Int) ≤ at') = true := by
        simp only [Bool.and_eq_false_iff, decide_eq_false_iff_not] at hck
        simp
        omega
      clear h0 hck
      go_enter Try.func19, Try.ntmps19
      go_wp2_with (first | (go_at_call 31; ((with_reducible refine (check31_ok _ _ _ _ _ _ D B _ (HD.out.exts (by repeat (first | exact Exts.refl _ | apply Exts.andR | apply Exts.alloc | apply Exts.wext | apply Exts.drew | apply Exts.drewN))) (HB.out.exts (by repeat (first | exact Exts.refl _ | apply Exts.andR | apply Exts.alloc | apply Exts.wext | apply Exts.drew | apply Exts.drewN))) hn HCK.out).mono ?_); rintro e w' ⟨mo, mc, rfl, ⟨x1, rfl⟩, hm⟩; (try simp only [wext_and] at hm); (have HM := Lib.hid hm); clear hm)))
      go_ret2
      exact ⟨rfl, (by repeat (first | exact Exts.refl _ | apply Exts.andR | apply Exts.alloc | apply Exts.wext | apply Exts.drew | apply Exts.drewN))⟩
theorem overrule19_go {S S1 : Nat → Prop} (lo bo : Option Addr) (n1 c1 n c i : Nat) (D : List Dm) (B : List Cs) (w : World) (hd : Dims S w lo n1 c1 D) (hb : Cases S1 w bo n c B) (hn100 : n ≤ 100) (hck : checkD D B = true) (hin : i < n) :
    Calls Try.prog 19 #[.slice lo n1 c1, .slice bo n c, .int .i64 i] w fun e w' => ∃ ro rc, e = .returned (.tuple #[.slice ro (ovrK D B i n).length rc, .int .i64 0]) ∧ Exts w w' ∧ Ints (fun b => w.heap.size ≤ b) w' ro (ovrK D B i n).length rc (ovrK D B i n) := by
  obtain ⟨i0, hi, hz0, hz1, hz2⟩ := info_parts info3
  have hn : n ≤ 2000 := by omega
  have hn0 : 0 < n := by omega
  have q0 : decide ((i : Int) < 0) = false := by simp
  have q1 : decide ((n : Int) ≤ (i : Int)) = false := by simp; omega
  have hwr : IntKind.i64.wrap ((i : Int) + 1) = (i : Int) + 1 := by rw [IntKind.wrap_i64]; omega
  obtain ⟨hB1, hB0, xs, hB2, hB3⟩ := id hb
  have HONE := Lib.hid (show ∀ u ∈ xs, u.oneCell' = true from Cases.ones hB1 (RowF.len hB2) hB3)
  have HXS := Lib.hid hB2
  have HLEN := Lib.hid (RowF.len hB2)
  have HB3 := Lib.hid hB3
  have HB1 := Lib.hid hB1
  have HB0 := Lib.hid hB0
  have HD := Lib.hid hd
  have HB := Lib.hid hb
  have HCK := Lib.hid hck
  have HV := Lib.hid (check_vecs hck)
  have HRT := Lib.hid (check_right hck)
  clear hd hb hck hB1 hB0 hB2 hB3
  go_enter Try.func19, Try.ntmps19
  go_wp2_with (first | (go_at_call 31; ((with_reducible refine (check31_ok _ _ _ _ _ _ D B _ (HD.out.exts (by repeat (first | exact Exts.refl _ | apply Exts.andR | apply Exts.alloc | apply Exts.wext | apply Exts.drew | apply Exts.drewN))) (HB.out.exts (by repeat (first | exact Exts.refl _ | apply Exts.andR | apply Exts.alloc | apply Exts.wext | apply Exts.drew | apply Exts.drewN))) hn HCK.out).mono ?_); rintro e w' ⟨mo, mc, rfl, ⟨x1, rfl⟩, hm⟩; (try simp only [wext_and] at hm); (have HM := Lib.hid hm); clear hm)) | (go_at_call 48; ((with_reducible refine (clone48 _ n xs _ (RowF.exts HXS.out (by repeat (first | exact Exts.refl _ | apply Exts.andR | apply Exts.alloc | apply Exts.wext | apply Exts.drew | apply Exts.drewN))) HONE.out (by omega)).mono ?_); rintro e w' ⟨ao', c', rfl, ⟨x2, rfl⟩, hown⟩; (try simp only [wext_and] at hown); (obtain ⟨g, rfl, hgb⟩ := owns_some hown hn0); (have HO := Lib.hid hown); clear hown)) | (go_at_call 47; ((with_reducible refine (delete47 _ g n _ i xs _ (ownsRow_exts HO.out (by repeat (first | exact Exts.refl _ | apply Exts.andR | apply Exts.alloc | apply Exts.wext | apply Exts.drew | apply Exts.drewN))) HONE.out hin hn100).mono ?_); rintro e w9 ⟨rfl, hown9, hgrow9⟩; (have HO9 := Lib.hid hown9); (have HG9 := Lib.hid hgrow9); clear hown9 hgrow9)))
  refine wp_name ?_
  intro W hW
  have hX : Exts w W := by rw [hW]; exact exts_of_grown (W := w) (by repeat (first | exact Exts.refl _ | apply Exts.andR | apply Exts.alloc | apply Exts.wext | apply Exts.drew | apply Exts.drewN)) HG9.out (fun b hb => by cases hb; exact Nat.le_trans (Below.size (Exts.below (by repeat (first | exact Exts.refl _ | apply Exts.andR | apply Exts.alloc | apply Exts.wext | apply Exts.drew | apply Exts.drewN)))) hgb)
  have HX := Lib.hid hX
  have HL := Lib.hid (show Cases (fun b => (wext w x1).heap.size ≤ b) W (some ⟨g, 0, none⟩) (n - 1) c' (B.eraseIdx i) from Cases.less HB1.out HB0.out HLEN.out HB3.out hin hX (by rw [hW]; exact RowF.of_owns HO9.out))
  have HMW := Lib.hid (show Ords W mo n1 mc D by rw [hW]; exact HM.out.exts (exts_of_grown (W := wext w x1) (by repeat (first | exact Exts.refl _ | apply Exts.andR | apply Exts.alloc | apply Exts.wext | apply Exts.drew | apply Exts.drewN)) HG9.out (fun b hb => by cases hb; exact hgb)))
  have HBW := Lib.hid (HB.out.exts hX)
  have hcc := (RowF.caps HXS.out)
  have hcc2 := (RowF.caps (RowF.of_owns HO9.out))
  unfold maxLen at hcc hcc2
  obtain ⟨hcc1, hcc4⟩ := hcc
  obtain ⟨hcc3, hcc5⟩ := hcc2
  clear hW hX HM HB HD HO HO9 HG9 HXS HLEN HB3 HB0 HONE
  go_loopw [11, 12] (fun o j wr => ∃ (k m : Nat), i < k ∧ k ≤ n ∧ j = .int .i64 k ∧ (ovrK D B i k).length = m ∧ Exts W wr ∧ wr.ownsRow W.heap.size 3 1 o m (intsC (ovrK D B i k))) (fun _ j _ => n - (intOf j).toNat)
  case atStart => exact ⟨i + 1, 0, by omega, by omega, by go_num, by rw [ovrK_start]; rfl, Exts.refl _, by rw [ovrK_start]; exact World.ownsRow_nil _ _ _ _⟩
  case round =>
    obtain ⟨k, m, hik, hk, rfl, hmk, hx, hown⟩ := hrel
    have HX2 := Lib.hid hx
    have HBS := Lib.hid (show W.heap.size ≤ wr.heap.size from hx.below.size)
    have HO := Lib.hid hown
    have HMK := Lib.hid hmk
    have hmle := ovrK_len D B i k
    rw [hmk] at hmle
    obtain ⟨oo, oc, rfl⟩ := owns_shape hown
    by_cases hlt : k < n
    · obtain ⟨b, off, id, vs, gr, vo, vc, rfl, lb, hc, e0, e1, e2, hvs, hid⟩ := (HBW.out.exts hx).get hlt
      have HC := Lib.hid hc
      have HVS := Lib.hid hvs
      have HIV := Lib.hid (show inD D vs = true from HV.out _ (List.mem_of_getElem? hc))
      have HVT := Lib.hid (show ∀ c ∈ B.take k, inD D c.vals = true from fun c hc => HV.out c (List.mem_of_mem_take hc))
      have HVE := Lib.hid (show ∀ c ∈ (B.take k).eraseIdx i, inD D c.vals = true from fun c hc => HV.out c (List.mem_of_mem_take (List.mem_of_mem_eraseIdx hc)))
      have KM := Lib.hid (HMW.out.exts hx)
      have KB := Lib.hid ((HBW.out.exts hx).take hk)
      have KL := Lib.hid (show Cases _ wr (some ⟨g, 0, none⟩) (k - 1) c' ((B.take k).eraseIdx i) by rw [← erase_take B hik]; exact (HL.out.exts hx).take (by omega))
      obtain ⟨wh1, hw1⟩ : ∃ x, whatD D (B.take k) vs = x := ⟨_, rfl⟩
      obtain ⟨wh2, hw2⟩ : ∃ x, whatD D ((B.take k).eraseIdx i) vs = x := ⟨_, rfl⟩
      obtain ⟨by1, hy1⟩ : ∃ x, byK D (B.take k) vs k = x := ⟨_, rfl⟩
      obtain ⟨by2, hy2⟩ : ∃ x, byK D ((B.take k).eraseIdx i) vs (k - 1) = x := ⟨_, rfl⟩
      obtain ⟨bm1, hb1⟩ : ∃ x, by1.length = x := ⟨_, rfl⟩
      obtain ⟨bm2, hb2⟩ : ∃ x, by2.length = x := ⟨_, rfl⟩
      have HN := Lib.hid (ovrK_next (D := D) hik hc)
      have HLO := Lib.hid (show lostC D B i k ⟨id, vs, gr⟩ = ((wh1 == wantC gr) && !(wh2 == wantC gr)) by unfold lostC; rw [← hw1, ← hw2])
      have HW1 := Lib.hid hw1
      have HW2 := Lib.hid hw2
      have HY1 := Lib.hid hy1
      have HY2 := Lib.hid hy2
      have HM1 := Lib.hid hb1
      have HM2 := Lib.hid hb2
      have i1 : (0 : Int) ≤ (k : Int) := by omega
      have i2 : (k : Int) < (n : Int) := by omega
      have i3 : (k : Int) ≤ (c : Int) := by omega
      have i4 : IntKind.i64.wrap ((k : Int) - 1) = ((k - 1 : Nat) : Int) := by rw [IntKind.wrap_i64] <;> omega
      have i5 : ((k - 1 : Nat) : Int) ≤ (c' : Int) := by omega
      have i6 : (0 : Int) ≤ ((k - 1 : Nat) : Int) := by omega
      have hk2 : k ≤ 2000 := by omega
      have hk3 : k - 1 ≤ 2000 := by omega
      have r0 : ∀ w', Exts wr w' → w'.cell? ⟨b, off + k * 3 + 1, none⟩ = some (.slice vo vs.length vc) := all_at (Exts.refl _) e1
      clear hc hvs hid hw1 hw2 hy1 hy2 hb1 hb2 hx hown hmk
      cases gr with
      | true =>
        obtain ⟨r1, hr1⟩ : ∃ r, (wh1 == (1 : Int)) = r := ⟨_, rfl⟩
        obtain ⟨r2, hr2⟩ : ∃ r, (wh2 == (1 : Int)) = r := ⟨_, rfl⟩
        have hr3 : (wh2 != (1 : Int)) = !r2 := by rw [← hr2]; rfl
        cases r1 with
        | false =>
          have HS := Lib.hid (show ovrK D B i (k + 1) = ovrK D B i k by rw [HN.out, HLO.out]; simp [wantC, hr1])
          go_wp2
          go_region_held3 (fun w' => Exts wr w') (first | assumption | exact (Exts.refl _).drew | exact (by repeat (first | exact Exts.refl _ | apply Exts.andR | apply Exts.alloc | apply Exts.wext | apply Exts.drew | apply Exts.drewN))) ((first | (go_at_call 33; (with_reducible refine (forced33_D _ _ _ _ _ _ _ _ _ D (B.take k) vs wh1 by1 bm1 _ (KM.out.exts (by assumption)) (KB.out.exts (by assumption)) (RowF.exts HVS.out (by assumption)) hk2 HVT.out HIV.out HW1.out HY1.out HM1.out).mono ?_); rintro e w' ⟨ro, rc, rfl, ⟨x5, rfl⟩, hks⟩; clear hks)))

          all_goals
            go_wp2
            refine wp_name ?_
            intro W3 hW3
            have e13 : Exts wr W3 := by rw [hW3]; exact (by repeat (first | exact Exts.refl _ | apply Exts.andR | apply Exts.alloc | apply Exts.wext | apply Exts.drew | apply Exts.drewN))
            have KM3 := Lib.hid (KM.out.exts e13)
            have KL3 := Lib.hid (KL.out.exts e13)
            have HVS3 := Lib.hid (RowF.exts HVS.out e13)
            have r3 : ∀ w', Exts W3 w' → w'.cell? ⟨b, off + k * 3 + 1, none⟩ = some (.slice vo vs.length vc) := all_at e13 e1
            have EX := Lib.hid e13
            clear hW3 e13 r0
            go_region_held3 (fun w' => Exts W3 w') (first | assumption | exact (Exts.refl _).drew | exact (by repeat (first | exact Exts.refl _ | apply Exts.andR | apply Exts.alloc | apply Exts.wext | apply Exts.drew | apply Exts.drewN))) ((first | (go_at_call 33; (with_reducible refine (forced33_D _ _ _ _ _ _ _ _ _ D ((B.take k).eraseIdx i) vs wh2 by2 bm2 _ (KM3.out.exts (by assumption)) (KL3.out.exts (by assumption)) (RowF.exts HVS3.out (by assumption)) hk3 HVE.out HIV.out HW2.out HY2.out HM2.out).mono ?_); rintro e w' ⟨ro2, rc2, rfl, ⟨x7, rfl⟩, hks⟩; clear hks)))

          all_goals
            go_wp2
            refine ⟨⟨k + 1, m, by omega, by omega, by go_num, by rw [HS.out]; exact HMK.out, HX2.out.trans (EX.out.trans (by repeat (first | exact Exts.refl _ | apply Exts.andR | apply Exts.alloc | apply Exts.wext | apply Exts.drew | apply Exts.drewN))), by rw [HS.out]; exact ownsRow_exts HO.out (EX.out.trans (by repeat (first | exact Exts.refl _ | apply Exts.andR | apply Exts.alloc | apply Exts.wext | apply Exts.drew | apply Exts.drewN)))⟩, ?_⟩
            simp [intOf]; omega
        | true =>
          cases r2 with
          | true =>
            have HS := Lib.hid (show ovrK D B i (k + 1) = ovrK D B i k by rw [HN.out, HLO.out]; simp [wantC, hr1, hr2])
            go_wp2
            go_region_held3 (fun w' => Exts wr w') (first | assumption | exact (Exts.refl _).drew | exact (by repeat (first | exact Exts.refl _ | apply Exts.andR | apply Exts.alloc | apply Exts.wext | apply Exts.drew | apply Exts.drewN))) ((first | (go_at_call 33; (with_reducible refine (forced33_D _ _ _ _ _ _ _ _ _ D (B.take k) vs wh1 by1 bm1 _ (KM.out.exts (by assumption)) (KB.out.exts (by assumption)) (RowF.exts HVS.out (by assumption)) hk2 HVT.out HIV.out HW1.out HY1.out HM1.out).mono ?_); rintro e w' ⟨ro, rc, rfl, ⟨x5, rfl⟩, hks⟩; clear hks)))

            all_goals
              go_wp2
              refine wp_name ?_
              intro W3 hW3
              have e13 : Exts wr W3 := by rw [hW3]; exact (by repeat (first | exact Exts.refl _ | apply Exts.andR | apply Exts.alloc | apply Exts.wext | apply Exts.drew | apply Exts.drewN))
              have KM3 := Lib.hid (KM.out.exts e13)
              have KL3 := Lib.hid (KL.out.exts e13)
              have HVS3 := Lib.hid (RowF.exts HVS.out e13)
              have r3 : ∀ w', Exts W3 w' → w'.cell? ⟨b, off + k * 3 + 1, none⟩ = some (.slice vo vs.length vc) := all_at e13 e1
              have EX := Lib.hid e13
              clear hW3 e13 r0
              go_region_held3 (fun w' => Exts W3 w') (first | assumption | exact (Exts.refl _).drew | exact (by repeat (first | exact Exts.refl _ | apply Exts.andR | apply Exts.alloc | apply Exts.wext | apply Exts.drew | apply Exts.drewN))) ((first | (go_at_call 33; (with_reducible refine (forced33_D _ _ _ _ _ _ _ _ _ D ((B.take k).eraseIdx i) vs wh2 by2 bm2 _ (KM3.out.exts (by assumption)) (KL3.out.exts (by assumption)) (RowF.exts HVS3.out (by assumption)) hk3 HVE.out HIV.out HW2.out HY2.out HM2.out).mono ?_); rintro e w' ⟨ro2, rc2, rfl, ⟨x7, rfl⟩, hks⟩; clear hks)))

            all_goals
              go_wp2
              refine ⟨⟨k + 1, m, by omega, by omega, by go_num, by rw [HS.out]; exact HMK.out, HX2.out.trans (EX.out.trans (by repeat (first | exact Exts.refl _ | apply Exts.andR | apply Exts.alloc | apply Exts.wext | apply Exts.drew | apply Exts.drewN))), by rw [HS.out]; exact ownsRow_exts HO.out (EX.out.trans (by repeat (first | exact Exts.refl _ | apply Exts.andR | apply Exts.alloc | apply Exts.wext | apply Exts.drew | apply Exts.drewN)))⟩, ?_⟩
              simp [intOf]; omega
          | false =>
            have HS := Lib.hid (show ovrK D B i (k + 1) = ovrK D B i k ++ [(k : Int)] by rw [HN.out, HLO.out]; simp [wantC, hr1, hr2])
            go_wp2
            go_region_held3 (fun w' => Exts wr w') (first | assumption | exact (Exts.refl _).drew | exact (by repeat (first | exact Exts.refl _ | apply Exts.andR | apply Exts.alloc | apply Exts.wext | apply Exts.drew | apply Exts.drewN))) ((first | (go_at_call 33; (with_reducible refine (forced33_D _ _ _ _ _ _ _ _ _ D (B.take k) vs wh1 by1 bm1 _ (KM.out.exts (by assumption)) (KB.out.exts (by assumption)) (RowF.exts HVS.out (by assumption)) hk2 HVT.out HIV.out HW1.out HY1.out HM1.out).mono ?_); rintro e w' ⟨ro, rc, rfl, ⟨x5, rfl⟩, hks⟩; clear hks)))

            all_goals
              go_wp2
              refine wp_name ?_
              intro W3 hW3
              have e13 : Exts wr W3 := by rw [hW3]; exact (by repeat (first | exact Exts.refl _ | apply Exts.andR | apply Exts.alloc | apply Exts.wext | apply Exts.drew | apply Exts.drewN))
              have KM3 := Lib.hid (KM.out.exts e13)
              have KL3 := Lib.hid (KL.out.exts e13)
              have HVS3 := Lib.hid (RowF.exts HVS.out e13)
              have r3 : ∀ w', Exts W3 w' → w'.cell? ⟨b, off + k * 3 + 1, none⟩ = some (.slice vo vs.length vc) := all_at e13 e1
              have EX := Lib.hid e13
              clear hW3 e13 r0
              go_region_held3 (fun w' => Exts W3 w') (first | assumption | exact (Exts.refl _).drew | exact (by repeat (first | exact Exts.refl _ | apply Exts.andR | apply Exts.alloc | apply Exts.wext | apply Exts.drew | apply Exts.drewN))) ((first | (go_at_call 33; (with_reducible refine (forced33_D _ _ _ _ _ _ _ _ _ D ((B.take k).eraseIdx i) vs wh2 by2 bm2 _ (KM3.out.exts (by assumption)) (KL3.out.exts (by assumption)) (RowF.exts HVS3.out (by assumption)) hk3 HVE.out HIV.out HW2.out HY2.out HM2.out).mono ?_); rintro e w' ⟨ro2, rc2, rfl, ⟨x7, rfl⟩, hks⟩; clear hks)))

            all_goals
              go_wp2_with (at_builtin; refine wpList_append_lies _ rfl (.tmp 90) (.tmp 92) 24 rfl W.heap.size 3 i0 _ 1 8 Try.underlying24 hi hz0 hz1 hz2 rfl (by decide) (.slice oo m oc) m (intsC (ovrK D B i k)) rfl (ownsRow_exts HO.out (EX.out.trans (by repeat (first | exact Exts.refl _ | apply Exts.andR | apply Exts.alloc | apply Exts.wext | apply Exts.drew | apply Exts.drewN)))) ⟨_, 0, none⟩ 1 1 [.int .i64 k] rfl rfl (by intro j u hj; match j, hj with | 0, hj => (simp at hj; subst hj; simp [go_sem])) (int_one _) (by decide) (by unfold maxLen; omega) (by omega) (by have := HBS.out; have := EX.out.below.size; simp; omega) _ rfl ?_; intro g2 cg w9 hown' hgrow hat hlt')
              refine ⟨⟨k + 1, m + 1, by omega, by omega, by go_num, by rw [HS.out, List.length_append, HMK.out]; rfl, exts_of_grown (W := W) (HX2.out.trans (EX.out.trans (by repeat (first | exact Exts.refl _ | apply Exts.andR | apply Exts.alloc | apply Exts.wext | apply Exts.drew | apply Exts.drewN)))) hgrow (fun b hb => owns_base HO.out hb), by rw [HS.out, intsC_snoc]; exact hown'⟩, ?_⟩
              simp [intOf]; omega
      | false =>
        obtain ⟨r1, hr1⟩ : ∃ r, (wh1 == (2 : Int)) = r := ⟨_, rfl⟩
        obtain ⟨r2, hr2⟩ : ∃ r, (wh2 == (2 : Int)) = r := ⟨_, rfl⟩
        have hr3 : (wh2 != (2 : Int)) = !r2 := by rw [← hr2]; rfl
        cases r1 with
        | false =>
          have HS := Lib.hid (show ovrK D B i (k + 1) = ovrK D B i k by rw [HN.out, HLO.out]; simp [wantC, hr1])
          go_wp2
          go_region_held3 (fun w' => Exts wr w') (first | assumption | exact (Exts.refl _).drew | exact (by repeat (first | exact Exts.refl _ | apply Exts.andR | apply Exts.alloc | apply Exts.wext | apply Exts.drew | apply Exts.drewN))) ((first | (go_at_call 33; (with_reducible refine (forced33_D _ _ _ _ _ _ _ _ _ D (B.take k) vs wh1 by1 bm1 _ (KM.out.exts (by assumption)) (KB.out.exts (by assumption)) (RowF.exts HVS.out (by assumption)) hk2 HVT.out HIV.out HW1.out HY1.out HM1.out).mono ?_); rintro e w' ⟨ro, rc, rfl, ⟨x5, rfl⟩, hks⟩; clear hks)))

          all_goals
            go_wp2
            refine wp_name ?_
            intro W3 hW3
            have e13 : Exts wr W3 := by rw [hW3]; exact (by repeat (first | exact Exts.refl _ | apply Exts.andR | apply Exts.alloc | apply Exts.wext | apply Exts.drew | apply Exts.drewN))
            have KM3 := Lib.hid (KM.out.exts e13)
            have KL3 := Lib.hid (KL.out.exts e13)
            have HVS3 := Lib.hid (RowF.exts HVS.out e13)
            have r3 : ∀ w', Exts W3 w' → w'.cell? ⟨b, off + k * 3 + 1, none⟩ = some (.slice vo vs.length vc) := all_at e13 e1
            have EX := Lib.hid e13
            clear hW3 e13 r0
            go_region_held3 (fun w' => Exts W3 w') (first | assumption | exact (Exts.refl _).drew | exact (by repeat (first | exact Exts.refl _ | apply Exts.andR | apply Exts.alloc | apply Exts.wext | apply Exts.drew | apply Exts.drewN))) ((first | (go_at_call 33; (with_reducible refine (forced33_D _ _ _ _ _ _ _ _ _ D ((B.take k).eraseIdx i) vs wh2 by2 bm2 _ (KM3.out.exts (by assumption)) (KL3.out.exts (by assumption)) (RowF.exts HVS3.out (by assumption)) hk3 HVE.out HIV.out HW2.out HY2.out HM2.out).mono ?_); rintro e w' ⟨ro2, rc2, rfl, ⟨x7, rfl⟩, hks⟩; clear hks)))

          all_goals
            go_wp2
            refine ⟨⟨k + 1, m, by omega, by omega, by go_num, by rw [HS.out]; exact HMK.out, HX2.out.trans (EX.out.trans (by repeat (first | exact Exts.refl _ | apply Exts.andR | apply Exts.alloc | apply Exts.wext | apply Exts.drew | apply Exts.drewN))), by rw [HS.out]; exact ownsRow_exts HO.out (EX.out.trans (by repeat (first | exact Exts.refl _ | apply Exts.andR | apply Exts.alloc | apply Exts.wext | apply Exts.drew | apply Exts.drewN)))⟩, ?_⟩
            simp [intOf]; omega
        | true =>
          cases r2 with
          | true =>
            have HS := Lib.hid (show ovrK D B i (k + 1) = ovrK D B i k by rw [HN.out, HLO.out]; simp [wantC, hr1, hr2])
            go_wp2
            go_region_held3 (fun w' => Exts wr w') (first | assumption | exact (Exts.refl _).drew | exact (by repeat (first | exact Exts.refl _ | apply Exts.andR | apply Exts.alloc | apply Exts.wext | apply Exts.drew | apply Exts.drewN))) ((first | (go_at_call 33; (with_reducible refine (forced33_D _ _ _ _ _ _ _ _ _ D (B.take k) vs wh1 by1 bm1 _ (KM.out.exts (by assumption)) (KB.out.exts (by assumption)) (RowF.exts HVS.out (by assumption)) hk2 HVT.out HIV.out HW1.out HY1.out HM1.out).mono ?_); rintro e w' ⟨ro, rc, rfl, ⟨x5, rfl⟩, hks⟩; clear hks)))

            all_goals
              go_wp2
              refine wp_name ?_
              intro W3 hW3
              have e13 : Exts wr W3 := by rw [hW3]; exact (by repeat (first | exact Exts.refl _ | apply Exts.andR | apply Exts.alloc | apply Exts.wext | apply Exts.drew | apply Exts.drewN))
              have KM3 := Lib.hid (KM.out.exts e13)
              have KL3 := Lib.hid (KL.out.exts e13)
              have HVS3 := Lib.hid (RowF.exts HVS.out e13)
              have r3 : ∀ w', Exts W3 w' → w'.cell? ⟨b, off + k * 3 + 1, none⟩ = some (.slice vo vs.length vc) := all_at e13 e1
              have EX := Lib.hid e13
              clear hW3 e13 r0
              go_region_held3 (fun w' => Exts W3 w') (first | assumption | exact (Exts.refl _).drew | exact (by repeat (first | exact Exts.refl _ | apply Exts.andR | apply Exts.alloc | apply Exts.wext | apply Exts.drew | apply Exts.drewN))) ((first | (go_at_call 33; (with_reducible refine (forced33_D _ _ _ _ _ _ _ _ _ D ((B.take k).eraseIdx i) vs wh2 by2 bm2 _ (KM3.out.exts (by assumption)) (KL3.out.exts (by assumption)) (RowF.exts HVS3.out (by assumption)) hk3 HVE.out HIV.out HW2.out HY2.out HM2.out).mono ?_); rintro e w' ⟨ro2, rc2, rfl, ⟨x7, rfl⟩, hks⟩; clear hks)))

            all_goals
              go_wp2
              refine ⟨⟨k + 1, m, by omega, by omega, by go_num, by rw [HS.out]; exact HMK.out, HX2.out.trans (EX.out.trans (by repeat (first | exact Exts.refl _ | apply Exts.andR | apply Exts.alloc | apply Exts.wext | apply Exts.drew | apply Exts.drewN))), by rw [HS.out]; exact ownsRow_exts HO.out (EX.out.trans (by repeat (first | exact Exts.refl _ | apply Exts.andR | apply Exts.alloc | apply Exts.wext | apply Exts.drew | apply Exts.drewN)))⟩, ?_⟩
              simp [intOf]; omega
          | false =>
            have HS := Lib.hid (show ovrK D B i (k + 1) = ovrK D B i k ++ [(k : Int)] by rw [HN.out, HLO.out]; simp [wantC, hr1, hr2])
            go_wp2
            go_region_held3 (fun w' => Exts wr w') (first | assumption | exact (Exts.refl _).drew | exact (by repeat (first | exact Exts.refl _ | apply Exts.andR | apply Exts.alloc | apply Exts.wext | apply Exts.drew | apply Exts.drewN))) ((first | (go_at_call 33; (with_reducible refine (forced33_D _ _ _ _ _ _ _ _ _ D (B.take k) vs wh1 by1 bm1 _ (KM.out.exts (by assumption)) (KB.out.exts (by assumption)) (RowF.exts HVS.out (by assumption)) hk2 HVT.out HIV.out HW1.out HY1.out HM1.out).mono ?_); rintro e w' ⟨ro, rc, rfl, ⟨x5, rfl⟩, hks⟩; clear hks)))

            all_goals
              go_wp2
              refine wp_name ?_
              intro W3 hW3
              have e13 : Exts wr W3 := by rw [hW3]; exact (by repeat (first | exact Exts.refl _ | apply Exts.andR | apply Exts.alloc | apply Exts.wext | apply Exts.drew | apply Exts.drewN))
              have KM3 := Lib.hid (KM.out.exts e13)
              have KL3 := Lib.hid (KL.out.exts e13)
              have HVS3 := Lib.hid (RowF.exts HVS.out e13)
              have r3 : ∀ w', Exts W3 w' → w'.cell? ⟨b, off + k * 3 + 1, none⟩ = some (.slice vo vs.length vc) := all_at e13 e1
              have EX := Lib.hid e13
              clear hW3 e13 r0
              go_region_held3 (fun w' => Exts W3 w') (first | assumption | exact (Exts.refl _).drew | exact (by repeat (first | exact Exts.refl _ | apply Exts.andR | apply Exts.alloc | apply Exts.wext | apply Exts.drew | apply Exts.drewN))) ((first | (go_at_call 33; (with_reducible refine (forced33_D _ _ _ _ _ _ _ _ _ D ((B.take k).eraseIdx i) vs wh2 by2 bm2 _ (KM3.out.exts (by assumption)) (KL3.out.exts (by assumption)) (RowF.exts HVS3.out (by assumption)) hk3 HVE.out HIV.out HW2.out HY2.out HM2.out).mono ?_); rintro e w' ⟨ro2, rc2, rfl, ⟨x7, rfl⟩, hks⟩; clear hks)))

            all_goals
              go_wp2_with (at_builtin; refine wpList_append_lies _ rfl (.tmp 90) (.tmp 92) 24 rfl W.heap.size 3 i0 _ 1 8 Try.underlying24 hi hz0 hz1 hz2 rfl (by decide) (.slice oo m oc) m (intsC (ovrK D B i k)) rfl (ownsRow_exts HO.out (EX.out.trans (by repeat (first | exact Exts.refl _ | apply Exts.andR | apply Exts.alloc | apply Exts.wext | apply Exts.drew | apply Exts.drewN)))) ⟨_, 0, none⟩ 1 1 [.int .i64 k] rfl rfl (by intro j u hj; match j, hj with | 0, hj => (simp at hj; subst hj; simp [go_sem])) (int_one _) (by decide) (by unfold maxLen; omega) (by omega) (by have := HBS.out; have := EX.out.below.size; simp; omega) _ rfl ?_; intro g2 cg w9 hown' hgrow hat hlt')
              refine ⟨⟨k + 1, m + 1, by omega, by omega, by go_num, by rw [HS.out, List.length_append, HMK.out]; rfl, exts_of_grown (W := W) (HX2.out.trans (EX.out.trans (by repeat (first | exact Exts.refl _ | apply Exts.andR | apply Exts.alloc | apply Exts.wext | apply Exts.drew | apply Exts.drewN)))) hgrow (fun b hb => owns_base HO.out hb), by rw [HS.out, intsC_snoc]; exact hown'⟩, ?_⟩
              simp [intOf]; omega
    · obtain rfl : k = n := by omega
      clear hx hown hmk
      go_wp2
      go_ret2
      refine ⟨oo, oc, by rw [HMK.out]; rfl, HX.out.trans (HX2.out.trans (by repeat (first | exact Exts.refl _ | apply Exts.andR | apply Exts.alloc | apply Exts.wext | apply Exts.drew | apply Exts.drewN))), ?_⟩
      rw [HMK.out]
      exact (RowF.exts (RowF.of_owns HO.out) (by repeat (first | exact Exts.refl _ | apply Exts.andR | apply Exts.alloc | apply Exts.wext | apply Exts.drew | apply Exts.drewN))).up HX.out.below.size
end Go.Proofs.Ytodgohilfbggjaa

/- Forced of the reference of chapter 39. No condition but at most 2000 cases. -/
namespace Go.Proofs.Ytodgohilfbggjaa
open Go.RowKit Go.Maps
set_option linter.unusedSimpArgs false
set_option linter.unusedVariables false
theorem refForced35_D {S S1 : Nat → Prop} (mo bo ao : Option Addr) (n1 mc n c na ca : Nat) (D : List Dm) (B : List Cs) (al : List Int) (but : Int) (wh : Int) (by' : List Int) (bm : Nat) (w : World) (h : Ords w mo n1 mc D) (hb : Cases S w bo n c B) (ha : Ints S1 w ao na ca al) (hn : n ≤ 2000) (hv : ∀ c ∈ B, inD D c.vals = true) (hia : inD D al = true) (hw : whatBD D B al but n = wh) (hby : byBK D B al but n = by') (hbm : by'.length = bm) :
    Calls Try.prog 35 #[.slice mo n1 mc, .slice bo n c, .slice ao na ca, .int .i64 but] w fun e w' => ∃ ro rc, e = .returned (.tuple #[.int .i64 wh, .slice ro bm rc]) ∧ Exts w w' ∧ Ints (fun b => w.heap.size ≤ b) w' ro bm rc by' := by
  subst hw hby hbm
  exact refForced35 mo bo ao n1 mc n c na ca D B al but w h hb ha hn hv hia
set_option maxRecDepth 100000
set_option maxHeartbeats 2000000
theorem refForced12 {S S1 S2 : Nat → Prop} (lo bo ao : Option Addr) (n1 c1 n c na ca : Nat) (D : List Dm) (B : List Cs) (al : List Int) (w : World) (hd : Dims S w lo n1 c1 D) (hb : Cases S1 w bo n c B) (ha : Ints S2 w ao na ca al) (hn : n ≤ 2000) :
    Calls Try.prog 12 #[.slice lo n1 c1, .slice bo n c, .slice ao na ca] w fun e w' => ∃ ro rc, e = .returned (.tuple #[.int .i64 (forD D B al).1, .slice ro (forD D B al).2.1.length rc, .int .i64 (forD D B al).2.2]) ∧ Exts w w' ∧ Ints (fun b => w.heap.size ≤ b) w' ro (forD D B al).2.1.length rc (forD D B al).2.1 := by
  have hl := hb.1
  have HD := Lib.hid hd
  have HB := Lib.hid hb
  have HA := Lib.hid ha
  clear hd hb ha
  cases hck : checkD D B with
  | false =>
    have HCK := Lib.hid hck
    have HR := Lib.hid (show forD D B al = (0, [], 1) by unfold forD; rw [hck]; rfl)
    clear hck hl
    go_enter Try.func12, Try.ntmps12
    go_wp2_with (first | (go_at_call 25; ((with_reducible refine (refRight25 _ _ _ _ _ _ D B _ _ (HD.out.exts (by repeat (first | exact Exts.refl _ | apply Exts.andR | apply Exts.alloc | apply Exts.wext | apply Exts.drew | apply Exts.drewN))) (HB.out.exts (by repeat (first | exact Exts.refl _ | apply Exts.andR | apply Exts.alloc | apply Exts.wext | apply Exts.drew | apply Exts.drewN))) hn HCK.out).mono ?_); rintro e w' ⟨rfl, x1, rfl⟩)))
    go_ret3
    exact ⟨none, 0, by rw [HR.out]; rfl, (by repeat (first | exact Exts.refl _ | apply Exts.andR | apply Exts.alloc | apply Exts.wext | apply Exts.drew | apply Exts.drewN)), by rw [HR.out]; exact RowF.nil _ _ _⟩
  | true =>
    have HCK := Lib.hid hck
    have HV := Lib.hid (check_vecs hck)
    have HRT := Lib.hid (check_right hck)
    cases hin : inD D al with
    | false =>
      have HIN := Lib.hid hin
      have HR := Lib.hid (show forD D B al = (0, [], 1) by unfold forD; rw [hck, hin]; rfl)
      clear hck hin hl
      go_enter Try.func12, Try.ntmps12
      go_wp2_with (first | (go_at_call 25; ((with_reducible refine (refRight25 _ _ _ _ _ _ D B _ _ (HD.out.exts (by repeat (first | exact Exts.refl _ | apply Exts.andR | apply Exts.alloc | apply Exts.wext | apply Exts.drew | apply Exts.drewN))) (HB.out.exts (by repeat (first | exact Exts.refl _ | apply Exts.andR | apply Exts.alloc | apply Exts.wext | apply Exts.drew | apply Exts.drewN))) hn HCK.out).mono ?_); rintro e w' ⟨rfl, x1, rfl⟩)) | (go_at_call 34; ((with_reducible refine (vector34_D _ _ _ _ _ _ D al _ _ (HD.out.exts (by repeat (first | exact Exts.refl _ | apply Exts.andR | apply Exts.alloc | apply Exts.wext | apply Exts.drew | apply Exts.drewN))) (RowF.exts HA.out (by repeat (first | exact Exts.refl _ | apply Exts.andR | apply Exts.alloc | apply Exts.wext | apply Exts.drew | apply Exts.drewN))) HIN.out).mono ?_); rintro e w' ⟨rfl, x2, rfl⟩)))
      go_ret3
      exact ⟨none, 0, by rw [HR.out]; rfl, (by repeat (first | exact Exts.refl _ | apply Exts.andR | apply Exts.alloc | apply Exts.wext | apply Exts.drew | apply Exts.drewN)), by rw [HR.out]; exact RowF.nil _ _ _⟩
    | true =>
      have HIN := Lib.hid hin
      obtain ⟨wh, hwh⟩ : ∃ wh, whatBD D B al (-1) n = wh := ⟨_, rfl⟩
      obtain ⟨by', hby⟩ : ∃ b, byBK D B al (-1) n = b := ⟨_, rfl⟩
      obtain ⟨bm, hbm⟩ : ∃ b, by'.length = b := ⟨_, rfl⟩
      have HR := Lib.hid (show forD D B al = (wh, by', 0) by unfold forD; rw [hck, hin, ← whatBD_all, ← byBK_all, hl, hwh, hby]; rfl)
      have HWH := Lib.hid hwh
      have HBY := Lib.hid hby
      have HBM := Lib.hid hbm
      clear hck hin hwh hby hbm hl
      go_enter Try.func12, Try.ntmps12
      go_wp2_with (first | (go_at_call 25; ((with_reducible refine (refRight25 _ _ _ _ _ _ D B _ _ (HD.out.exts (by repeat (first | exact Exts.refl _ | apply Exts.andR | apply Exts.alloc | apply Exts.wext | apply Exts.drew | apply Exts.drewN))) (HB.out.exts (by repeat (first | exact Exts.refl _ | apply Exts.andR | apply Exts.alloc | apply Exts.wext | apply Exts.drew | apply Exts.drewN))) hn HCK.out).mono ?_); rintro e w' ⟨rfl, x1, rfl⟩)) | (go_at_call 34; ((with_reducible refine (vector34_D _ _ _ _ _ _ D al _ _ (HD.out.exts (by repeat (first | exact Exts.refl _ | apply Exts.andR | apply Exts.alloc | apply Exts.wext | apply Exts.drew | apply Exts.drewN))) (RowF.exts HA.out (by repeat (first | exact Exts.refl _ | apply Exts.andR | apply Exts.alloc | apply Exts.wext | apply Exts.drew | apply Exts.drewN))) HIN.out).mono ?_); rintro e w' ⟨rfl, x2, rfl⟩)) | (go_at_call 36; ((with_reducible refine (closures36 _ _ _ D _ (HD.out.exts (by repeat (first | exact Exts.refl _ | apply Exts.andR | apply Exts.alloc | apply Exts.wext | apply Exts.drew | apply Exts.drewN))) HRT.out).mono ?_); rintro e w' ⟨mo, mc, rfl, ⟨x3, rfl⟩, hm⟩; (try simp only [wext_and] at hm); (have HM := Lib.hid hm); clear hm)) | (go_at_call 35; ((with_reducible refine (refForced35_D _ _ _ _ _ _ _ _ _ D B al _ wh by' bm _ (HM.out.exts (by repeat (first | exact Exts.refl _ | apply Exts.andR | apply Exts.alloc | apply Exts.wext | apply Exts.drew | apply Exts.drewN))) (HB.out.exts (by repeat (first | exact Exts.refl _ | apply Exts.andR | apply Exts.alloc | apply Exts.wext | apply Exts.drew | apply Exts.drewN))) (RowF.exts HA.out (by repeat (first | exact Exts.refl _ | apply Exts.andR | apply Exts.alloc | apply Exts.wext | apply Exts.drew | apply Exts.drewN))) hn HV.out HIN.out HWH.out HBY.out HBM.out).mono ?_); rintro e w' ⟨ro, rc, rfl, ⟨x4, rfl⟩, hby⟩; (try simp only [wext_and] at hby); (have HBR := Lib.hid hby); clear hby)))
      go_ret3
      exact ⟨ro, rc, by rw [HR.out, ← HBM.out]; rfl, (by repeat (first | exact Exts.refl _ | apply Exts.andR | apply Exts.alloc | apply Exts.wext | apply Exts.drew | apply Exts.drewN)), by rw [HR.out, HBM.out]; exact (RowF.exts HBR.out (by repeat (first | exact Exts.refl _ | apply Exts.andR | apply Exts.alloc | apply Exts.wext | apply Exts.drew | apply Exts.drewN))).up (by simp <;> omega)⟩
end Go.Proofs.Ytodgohilfbggjaa

/- Overrule of the reference: plain. -/
namespace Go.Proofs.Ytodgohilfbggjaa
open Go.RowKit
set_option linter.unusedSimpArgs false
set_option linter.unusedVariables false

theorem whatBD_of {D : List Dm} {B B' : List Cs} {l : List Int} {but : Int} {n : Nat} (side : ∀ s, sideB D B' l s = true ↔ ∃ i, i < n ∧ forB D B l but i = true ∧ grantI B i = s) : whatBD D B l but n = whatD D B' l := by
  have hgr : grK D B l but n = ((List.range n).filter fun i => forB D B l but i && grantI B i).length := rfl
  have hlen : (byBK D B l but n).length = ((List.range n).filter fun i => forB D B l but i).length := by
    unfold byBK
    rw [List.length_map]
  unfold whatBD whatD
  rw [hlen, hgr]
  by_cases h0 : ((List.range n).filter fun i => forB D B l but i).length = 0
  · rw [if_pos h0]
    have hno : ∀ s, sideB D B' l s = false := fun s => by
      refine Bool.eq_false_iff.2 fun hc => ?_
      obtain ⟨i, hi, h1, _⟩ := (side s).1 hc
      have : i ∈ (List.range n).filter fun i => forB D B l but i := by rw [List.mem_filter]; exact ⟨List.mem_range.2 hi, h1⟩
      rw [List.eq_nil_of_length_eq_zero h0] at this
      cases this
    rw [hno, hno]
    rfl
  · rw [if_neg h0]
    obtain ⟨i, hi⟩ : ∃ i, i ∈ (List.range n).filter fun i => forB D B l but i := by
      cases hL : (List.range n).filter fun i => forB D B l but i with
      | nil => rw [hL] at h0; simp at h0
      | cons a L => exact ⟨a, by simp⟩
    rw [List.mem_filter, List.mem_range] at hi
    by_cases h1 : ((List.range n).filter fun i => forB D B l but i && grantI B i).length = ((List.range n).filter fun i => forB D B l but i).length
    · rw [if_pos h1]
      have hall := filter_full h1
      have st : sideB D B' l true = true := (side true).2 ⟨i, hi.1, hi.2, hall i (List.mem_range.2 hi.1) hi.2⟩
      have sf : sideB D B' l false = false := by
        refine Bool.eq_false_iff.2 fun hc => ?_
        obtain ⟨j, hj, q1, q2⟩ := (side false).1 hc
        have := hall j (List.mem_range.2 hj) q1
        rw [q2] at this; cases this
      rw [st, sf]
      rfl
    · rw [if_neg h1]
      have sf : sideB D B' l false = true := by
        refine Classical.byContradiction fun hc => h1 ?_
        congr 1
        apply List.filter_congr
        intro j hj
        cases hf : forB D B l but j with
        | false => rfl
        | true =>
          cases hg : grantI B j with
          | true => rfl
          | false => exact absurd ((side false).2 ⟨j, List.mem_range.1 hj, hf, hg⟩) hc
      by_cases h2 : ((List.range n).filter fun i => forB D B l but i && grantI B i).length = 0
      · rw [if_pos h2]
        have hnone := filter_none h2
        have st : sideB D B' l true = false := by
          refine Bool.eq_false_iff.2 fun hc => ?_
          obtain ⟨j, hj, q1, q2⟩ := (side true).1 hc
          have := hnone j (List.mem_range.2 hj) q1
          rw [q2] at this; cases this
        rw [st, sf]
        rfl
      · rw [if_neg h2]
        obtain ⟨j, hj⟩ : ∃ j, j ∈ (List.range n).filter fun i => forB D B l but i && grantI B i := by
          cases hL : (List.range n).filter fun i => forB D B l but i && grantI B i with
          | nil => rw [hL] at h2; simp at h2
          | cons a L => exact ⟨a, by simp⟩
        rw [List.mem_filter, List.mem_range, Bool.and_eq_true] at hj
        have st : sideB D B' l true = true := (side true).2 ⟨j, hj.1, hj.2.1, hj.2.2⟩
        rw [st, sf]
        rfl
theorem whatBD_erase {D : List Dm} {B : List Cs} {l : List Int} {i n : Nat} (hn : B.length = n) (hi : i < n) : whatBD D B l (i : Int) n = whatD D (B.eraseIdx i) l := by
  refine whatBD_of fun s => ?_
  simp only [sideB, List.any_eq_true, Bool.and_eq_true, beq_iff_eq]
  constructor
  · rintro ⟨c, hc, h1, h2⟩
    obtain ⟨j, hj⟩ := List.getElem?_of_mem hc
    rw [List.getElem?_eraseIdx] at hj
    by_cases hji : j < i
    · rw [if_pos hji] at hj
      refine ⟨j, by omega, ?_, by unfold grantI; rw [hj]; exact h1⟩
      unfold forB
      rw [forI_of hj, h2]
      have : ¬ (j : Int) = (i : Int) := by omega
      simp [this] <;> omega
    · rw [if_neg hji] at hj
      have hlt := (List.getElem?_eq_some_iff.1 hj).1
      refine ⟨j + 1, by omega, ?_, by unfold grantI; rw [hj]; exact h1⟩
      unfold forB
      rw [forI_of hj, h2]
      have : ¬ ((j + 1 : Nat) : Int) = (i : Int) := by omega
      simp [this] <;> omega
  · rintro ⟨j, hj, h1, h2⟩
    have hc : B[j]? = some B[j] := List.getElem?_eq_getElem (by omega)
    unfold forB at h1
    rw [Bool.and_eq_true, forI_of hc] at h1
    obtain ⟨h0, h1⟩ := h1
    have hne : ¬ j = i := by
      intro hq
      rw [hq] at h0
      simp at h0
    unfold grantI at h2
    rw [hc] at h2
    refine ⟨B[j], ?_, h2, h1⟩
    rw [List.mem_iff_getElem?]
    by_cases hji : j < i
    · exact ⟨j, by rw [List.getElem?_eraseIdx, if_pos hji]; exact hc⟩
    · exact ⟨j - 1, by rw [List.getElem?_eraseIdx, if_neg (by omega), show j - 1 + 1 = j by omega]; exact hc⟩
end Go.Proofs.Ytodgohilfbggjaa

/- Overrule of the reference of chapter 39. No condition but at most 100 cases. -/
namespace Go.Proofs.Ytodgohilfbggjaa
open Go.RowKit Go.Maps
set_option linter.unusedSimpArgs false
set_option linter.unusedVariables false
set_option maxRecDepth 100000
set_option maxHeartbeats 4000000
theorem outcome49 (g : Bool) (wt : Int) (w : World) (h : wantC g = wt) : Calls Try.prog 49 #[.bool g] w fun e w' => e = .returned (.int .i64 wt) ∧ Exts w w' := by
  subst h
  cases g with
  | true =>
    go_enter Try.func49, Try.ntmps49
    go_wp2
    go_ret
    exact ⟨rfl, (by repeat (first | exact Exts.refl _ | apply Exts.andR | apply Exts.alloc | apply Exts.wext | apply Exts.drew | apply Exts.drewN))⟩
  | false =>
    go_enter Try.func49, Try.ntmps49
    go_wp2
    go_ret
    exact ⟨rfl, (by repeat (first | exact Exts.refl _ | apply Exts.andR | apply Exts.alloc | apply Exts.wext | apply Exts.drew | apply Exts.drewN))⟩
theorem refOverrule20_no {S S1 : Nat → Prop} (lo bo : Option Addr) (n1 c1 n c : Nat) (D : List Dm) (B : List Cs) (at' : Int) (w : World) (hd : Dims S w lo n1 c1 D) (hb : Cases S1 w bo n c B) (hn : n ≤ 2000) (hck : (checkD D B && (decide (0 ≤ at') && decide (at' < (B.length : Int)))) = false) :
    Calls Try.prog 20 #[.slice lo n1 c1, .slice bo n c, .int .i64 at'] w fun e w' => e = .returned (.tuple #[.slice none 0 0, .int .i64 1]) ∧ Exts w w' := by
  have HD := Lib.hid hd
  have HB := Lib.hid hb
  rw [hb.1] at hck
  clear hd hb
  cases h1 : checkD D B with
  | false =>
    have HCK := Lib.hid h1
    clear h1 hck
    go_enter Try.func20, Try.ntmps20
    go_wp2_with (first | (go_at_call 25; ((with_reducible refine (refRight25 _ _ _ _ _ _ D B _ _ (HD.out.exts (by repeat (first | exact Exts.refl _ | apply Exts.andR | apply Exts.alloc | apply Exts.wext | apply Exts.drew | apply Exts.drewN))) (HB.out.exts (by repeat (first | exact Exts.refl _ | apply Exts.andR | apply Exts.alloc | apply Exts.wext | apply Exts.drew | apply Exts.drewN))) hn HCK.out).mono ?_); rintro e w' ⟨rfl, x1, rfl⟩)))
    go_ret2
    exact ⟨rfl, (by repeat (first | exact Exts.refl _ | apply Exts.andR | apply Exts.alloc | apply Exts.wext | apply Exts.drew | apply Exts.drewN))⟩
  | true =>
    rw [h1, Bool.true_and] at hck
    have HCK := Lib.hid h1
    clear h1
    by_cases h0 : at' < 0
    · have q0 : decide (at' < 0) = true := by simpa using h0
      clear h0 hck
      go_enter Try.func20, Try.ntmps20
      go_wp2_with (first | (go_at_call 25; ((with_reducible refine (refRight25 _ _ _ _ _ _ D B _ _ (HD.out.exts (by repeat (first | exact Exts.refl _ | apply Exts.andR | apply Exts.alloc | apply Exts.wext | apply Exts.drew | apply Exts.drewN))) (HB.out.exts (by repeat (first | exact Exts.refl _ | apply Exts.andR | apply Exts.alloc | apply Exts.wext | apply Exts.drew | apply Exts.drewN))) hn HCK.out).mono ?_); rintro e w' ⟨rfl, x1, rfl⟩)))
      go_ret2
      exact ⟨rfl, (by repeat (first | exact Exts.refl _ | apply Exts.andR | apply Exts.alloc | apply Exts.wext | apply Exts.drew | apply Exts.drewN))⟩
    · have q0 : decide (at' < 0) = false := by simpa using h0
      have q1 : decide ((n : Int) ≤ at') = true := by
        simp only [Bool.and_eq_false_iff, decide_eq_false_iff_not] at hck
        simp
        omega
      clear h0 hck
      go_enter Try.func20, Try.ntmps20
      go_wp2_with (first | (go_at_call 25; ((with_reducible refine (refRight25 _ _ _ _ _ _ D B _ _ (HD.out.exts (by repeat (first | exact Exts.refl _ | apply Exts.andR | apply Exts.alloc | apply Exts.wext | apply Exts.drew | apply Exts.drewN))) (HB.out.exts (by repeat (first | exact Exts.refl _ | apply Exts.andR | apply Exts.alloc | apply Exts.wext | apply Exts.drew | apply Exts.drewN))) hn HCK.out).mono ?_); rintro e w' ⟨rfl, x1, rfl⟩)))
      go_ret2
      exact ⟨rfl, (by repeat (first | exact Exts.refl _ | apply Exts.andR | apply Exts.alloc | apply Exts.wext | apply Exts.drew | apply Exts.drewN))⟩
theorem refOverrule20_go {S S1 : Nat → Prop} (lo bo : Option Addr) (n1 c1 n c i : Nat) (D : List Dm) (B : List Cs) (w : World) (hd : Dims S w lo n1 c1 D) (hb : Cases S1 w bo n c B) (hn100 : n ≤ 100) (hck : checkD D B = true) (hin : i < n) :
    Calls Try.prog 20 #[.slice lo n1 c1, .slice bo n c, .int .i64 i] w fun e w' => ∃ ro rc, e = .returned (.tuple #[.slice ro (ovrK D B i n).length rc, .int .i64 0]) ∧ Exts w w' ∧ Ints (fun b => w.heap.size ≤ b) w' ro (ovrK D B i n).length rc (ovrK D B i n) := by
  obtain ⟨i0, hi, hz0, hz1, hz2⟩ := info_parts info3
  have hn : n ≤ 2000 := by omega
  have q0 : decide ((i : Int) < 0) = false := by simp
  have q1 : decide ((n : Int) ≤ (i : Int)) = false := by simp; omega
  have HB1 := Lib.hid hb.1
  have hcc := (RowF.caps hb.2.2.choose_spec.1)
  unfold maxLen at hcc
  obtain ⟨hcc1, hcc4⟩ := hcc
  have HD := Lib.hid hd
  have HB := Lib.hid hb
  have HCK := Lib.hid hck
  have HV := Lib.hid (check_vecs hck)
  have HRT := Lib.hid (check_right hck)
  clear hd hb hck
  go_enter Try.func20, Try.ntmps20
  go_wp2_with (first | (go_at_call 25; ((with_reducible refine (refRight25 _ _ _ _ _ _ D B _ _ (HD.out.exts (by repeat (first | exact Exts.refl _ | apply Exts.andR | apply Exts.alloc | apply Exts.wext | apply Exts.drew | apply Exts.drewN))) (HB.out.exts (by repeat (first | exact Exts.refl _ | apply Exts.andR | apply Exts.alloc | apply Exts.wext | apply Exts.drew | apply Exts.drewN))) hn HCK.out).mono ?_); rintro e w' ⟨rfl, x1, rfl⟩)) | (go_at_call 36; ((with_reducible refine (closures36 _ _ _ D _ (HD.out.exts (by repeat (first | exact Exts.refl _ | apply Exts.andR | apply Exts.alloc | apply Exts.wext | apply Exts.drew | apply Exts.drewN))) HRT.out).mono ?_); rintro e w' ⟨mo, mc, rfl, ⟨x3, rfl⟩, hm⟩; (try simp only [wext_and] at hm); (have HM := Lib.hid hm); clear hm)))
  refine wp_name ?_
  intro W hW
  have hX : Exts w W := by rw [hW]; exact (by repeat (first | exact Exts.refl _ | apply Exts.andR | apply Exts.alloc | apply Exts.wext | apply Exts.drew | apply Exts.drewN))
  have HX := Lib.hid hX
  have HMW := Lib.hid (show Ords W mo n1 mc D by rw [hW]; exact HM.out.exts (by repeat (first | exact Exts.refl _ | apply Exts.andR | apply Exts.alloc | apply Exts.wext | apply Exts.drew | apply Exts.drewN)))
  have HBW := Lib.hid (HB.out.exts hX)
  clear hW hX HM HB HD
  go_loopw [9, 10] (fun o j wr => ∃ (k m : Nat), i < k ∧ k ≤ n ∧ j = .int .i64 k ∧ (ovrK D B i k).length = m ∧ Exts W wr ∧ wr.ownsRow W.heap.size 3 1 o m (intsC (ovrK D B i k))) (fun _ j _ => n - (intOf j).toNat)
  case atStart => exact ⟨i + 1, 0, by omega, by omega, by go_num, by rw [ovrK_start]; rfl, Exts.refl _, by rw [ovrK_start]; exact World.ownsRow_nil _ _ _ _⟩
  case round =>
    obtain ⟨k, m, hik, hk, rfl, hmk, hx, hown⟩ := hrel
    have HX2 := Lib.hid hx
    have HBS := Lib.hid (show W.heap.size ≤ wr.heap.size from hx.below.size)
    have HO := Lib.hid hown
    have HMK := Lib.hid hmk
    have hmle := ovrK_len D B i k
    rw [hmk] at hmle
    obtain ⟨oo, oc, rfl⟩ := owns_shape hown
    by_cases hlt : k < n
    · obtain ⟨b, off, id, vs, gr, vo, vc, rfl, lb, hc, e0, e1, e2, hvs, hid⟩ := (HBW.out.exts hx).get hlt
      have HC := Lib.hid hc
      have HVS := Lib.hid hvs
      have HIV := Lib.hid (show inD D vs = true from HV.out _ (List.mem_of_getElem? hc))
      have HVT := Lib.hid (show ∀ c ∈ B.take k, inD D c.vals = true from fun c hc => HV.out c (List.mem_of_mem_take hc))
      have KM := Lib.hid (HMW.out.exts hx)
      have KB := Lib.hid ((HBW.out.exts hx).take hk)
      have htl : (B.take k).length = k := by rw [List.length_take, HB1.out]; omega
      have hq := @whatBD_all D (B.take k) vs
      rw [htl] at hq
      obtain ⟨wh1, hw1⟩ : ∃ x, whatBD D (B.take k) vs (-1) k = x := ⟨_, rfl⟩
      obtain ⟨wh2, hw2⟩ : ∃ x, whatBD D (B.take k) vs i k = x := ⟨_, rfl⟩
      obtain ⟨by1, hy1⟩ : ∃ x, byBK D (B.take k) vs (-1) k = x := ⟨_, rfl⟩
      obtain ⟨by2, hy2⟩ : ∃ x, byBK D (B.take k) vs i k = x := ⟨_, rfl⟩
      obtain ⟨bm1, hb1⟩ : ∃ x, by1.length = x := ⟨_, rfl⟩
      obtain ⟨bm2, hb2⟩ : ∃ x, by2.length = x := ⟨_, rfl⟩
      obtain ⟨wt, hwt⟩ : ∃ x, wantC gr = x := ⟨_, rfl⟩
      have HN := Lib.hid (ovrK_next (D := D) hik hc)
      have HLO := Lib.hid (show lostC D B i k ⟨id, vs, gr⟩ = ((wh1 == wt) && !(wh2 == wt)) by unfold lostC; rw [← hw1, ← hw2, ← hwt, hq, whatBD_erase htl hik])
      have HWT := Lib.hid hwt
      have HW1 := Lib.hid hw1
      have HW2 := Lib.hid hw2
      have HY1 := Lib.hid hy1
      have HY2 := Lib.hid hy2
      have HM1 := Lib.hid hb1
      have HM2 := Lib.hid hb2
      have i1 : (0 : Int) ≤ (k : Int) := by omega
      have i2 : (k : Int) < (n : Int) := by omega
      have i3 : (k : Int) ≤ (c : Int) := by omega
      have hk2 : k ≤ 2000 := by omega
      have r0 : ∀ w', Exts wr w' → w'.cell? ⟨b, off + k * 3 + 1, none⟩ = some (.slice vo vs.length vc) := all_at (Exts.refl _) e1
      clear hc hvs hid hw1 hw2 hy1 hy2 hb1 hb2 hx hown hmk hq htl hwt
      obtain ⟨r1, hr1⟩ : ∃ r, (wh1 == wt) = r := ⟨_, rfl⟩
      obtain ⟨r2, hr2⟩ : ∃ r, (wh2 == wh1) = r := ⟨_, rfl⟩
      have hr3 : (wh2 != wh1) = !r2 := by rw [← hr2]; rfl
      cases r1 with
      | false =>
        have HS := Lib.hid (show ovrK D B i (k + 1) = ovrK D B i k by rw [HN.out, HLO.out]; simp [hr1])
        go_wp2
        go_region_held3 (fun w' => Exts wr w') (first | assumption | exact (Exts.refl _).drew | exact (by repeat (first | exact Exts.refl _ | apply Exts.andR | apply Exts.alloc | apply Exts.wext | apply Exts.drew | apply Exts.drewN))) ((first | (go_at_call 35; (with_reducible refine (refForced35_D _ _ _ _ _ _ _ _ _ D (B.take k) vs _ wh1 by1 bm1 _ (KM.out.exts (by assumption)) (KB.out.exts (by assumption)) (RowF.exts HVS.out (by assumption)) hk2 HVT.out HIV.out HW1.out HY1.out HM1.out).mono ?_); rintro e w' ⟨ro, rc, rfl, ⟨x5, rfl⟩, hks⟩; clear hks)))

        all_goals
          go_wp2
          refine wp_name ?_
          intro W3 hW3
          have e13 : Exts wr W3 := by rw [hW3]; exact (by repeat (first | exact Exts.refl _ | apply Exts.andR | apply Exts.alloc | apply Exts.wext | apply Exts.drew | apply Exts.drewN))
          have KM3 := Lib.hid (KM.out.exts e13)
          have KB3 := Lib.hid (KB.out.exts e13)
          have HVS3 := Lib.hid (RowF.exts HVS.out e13)
          have r3 : ∀ w', Exts W3 w' → w'.cell? ⟨b, off + k * 3 + 1, none⟩ = some (.slice vo vs.length vc) := all_at e13 e1
          have EX := Lib.hid e13
          have e24 := Exts.cell e13 e2
          have lb3 : b < W3.heap.size := Nat.lt_of_lt_of_le lb e13.below.size
          clear hW3 e13 r0
          go_region_held3 (fun w' => Exts W3 w') (first | assumption | exact (Exts.refl _).drew | exact (by repeat (first | exact Exts.refl _ | apply Exts.andR | apply Exts.alloc | apply Exts.wext | apply Exts.drew | apply Exts.drewN))) ((first | (go_at_call 35; (with_reducible refine (refForced35_D _ _ _ _ _ _ _ _ _ D (B.take k) vs _ wh2 by2 bm2 _ (KM3.out.exts (by assumption)) (KB3.out.exts (by assumption)) (RowF.exts HVS3.out (by assumption)) hk2 HVT.out HIV.out HW2.out HY2.out HM2.out).mono ?_); rintro e w' ⟨ro2, rc2, rfl, ⟨x7, rfl⟩, hks⟩; clear hks)))

        all_goals
          go_wp2_with (first | (go_at_call 49; ((with_reducible refine (outcome49 _ wt _ HWT.out).mono ?_); rintro e w' ⟨rfl, x8, rfl⟩)))
          refine ⟨⟨k + 1, m, by omega, by omega, by go_num, by rw [HS.out]; exact HMK.out, HX2.out.trans (EX.out.trans (by repeat (first | exact Exts.refl _ | apply Exts.andR | apply Exts.alloc | apply Exts.wext | apply Exts.drew | apply Exts.drewN))), by rw [HS.out]; exact ownsRow_exts HO.out (EX.out.trans (by repeat (first | exact Exts.refl _ | apply Exts.andR | apply Exts.alloc | apply Exts.wext | apply Exts.drew | apply Exts.drewN)))⟩, ?_⟩
          simp [intOf]; omega
      | true =>
        have hwe : wh1 = wt := by simpa using hr1
        cases r2 with
        | true =>
          have HS := Lib.hid (show ovrK D B i (k + 1) = ovrK D B i k by rw [HN.out, HLO.out, ← hwe, hr2]; simp)
          clear hwe
          go_wp2
          go_region_held3 (fun w' => Exts wr w') (first | assumption | exact (Exts.refl _).drew | exact (by repeat (first | exact Exts.refl _ | apply Exts.andR | apply Exts.alloc | apply Exts.wext | apply Exts.drew | apply Exts.drewN))) ((first | (go_at_call 35; (with_reducible refine (refForced35_D _ _ _ _ _ _ _ _ _ D (B.take k) vs _ wh1 by1 bm1 _ (KM.out.exts (by assumption)) (KB.out.exts (by assumption)) (RowF.exts HVS.out (by assumption)) hk2 HVT.out HIV.out HW1.out HY1.out HM1.out).mono ?_); rintro e w' ⟨ro, rc, rfl, ⟨x5, rfl⟩, hks⟩; clear hks)))

          all_goals
            go_wp2
            refine wp_name ?_
            intro W3 hW3
            have e13 : Exts wr W3 := by rw [hW3]; exact (by repeat (first | exact Exts.refl _ | apply Exts.andR | apply Exts.alloc | apply Exts.wext | apply Exts.drew | apply Exts.drewN))
            have KM3 := Lib.hid (KM.out.exts e13)
            have KB3 := Lib.hid (KB.out.exts e13)
            have HVS3 := Lib.hid (RowF.exts HVS.out e13)
            have r3 : ∀ w', Exts W3 w' → w'.cell? ⟨b, off + k * 3 + 1, none⟩ = some (.slice vo vs.length vc) := all_at e13 e1
            have EX := Lib.hid e13
            have e24 := Exts.cell e13 e2
            have lb3 : b < W3.heap.size := Nat.lt_of_lt_of_le lb e13.below.size
            clear hW3 e13 r0
            go_region_held3 (fun w' => Exts W3 w') (first | assumption | exact (Exts.refl _).drew | exact (by repeat (first | exact Exts.refl _ | apply Exts.andR | apply Exts.alloc | apply Exts.wext | apply Exts.drew | apply Exts.drewN))) ((first | (go_at_call 35; (with_reducible refine (refForced35_D _ _ _ _ _ _ _ _ _ D (B.take k) vs _ wh2 by2 bm2 _ (KM3.out.exts (by assumption)) (KB3.out.exts (by assumption)) (RowF.exts HVS3.out (by assumption)) hk2 HVT.out HIV.out HW2.out HY2.out HM2.out).mono ?_); rintro e w' ⟨ro2, rc2, rfl, ⟨x7, rfl⟩, hks⟩; clear hks)))

          all_goals
            go_wp2_with (first | (go_at_call 49; ((with_reducible refine (outcome49 _ wt _ HWT.out).mono ?_); rintro e w' ⟨rfl, x8, rfl⟩)))
            refine ⟨⟨k + 1, m, by omega, by omega, by go_num, by rw [HS.out]; exact HMK.out, HX2.out.trans (EX.out.trans (by repeat (first | exact Exts.refl _ | apply Exts.andR | apply Exts.alloc | apply Exts.wext | apply Exts.drew | apply Exts.drewN))), by rw [HS.out]; exact ownsRow_exts HO.out (EX.out.trans (by repeat (first | exact Exts.refl _ | apply Exts.andR | apply Exts.alloc | apply Exts.wext | apply Exts.drew | apply Exts.drewN)))⟩, ?_⟩
            simp [intOf]; omega
        | false =>
          have HS := Lib.hid (show ovrK D B i (k + 1) = ovrK D B i k ++ [(k : Int)] by rw [HN.out, HLO.out, ← hwe, hr2]; simp)
          clear hwe
          go_wp2
          go_region_held3 (fun w' => Exts wr w') (first | assumption | exact (Exts.refl _).drew | exact (by repeat (first | exact Exts.refl _ | apply Exts.andR | apply Exts.alloc | apply Exts.wext | apply Exts.drew | apply Exts.drewN))) ((first | (go_at_call 35; (with_reducible refine (refForced35_D _ _ _ _ _ _ _ _ _ D (B.take k) vs _ wh1 by1 bm1 _ (KM.out.exts (by assumption)) (KB.out.exts (by assumption)) (RowF.exts HVS.out (by assumption)) hk2 HVT.out HIV.out HW1.out HY1.out HM1.out).mono ?_); rintro e w' ⟨ro, rc, rfl, ⟨x5, rfl⟩, hks⟩; clear hks)))

          all_goals
            go_wp2
            refine wp_name ?_
            intro W3 hW3
            have e13 : Exts wr W3 := by rw [hW3]; exact (by repeat (first | exact Exts.refl _ | apply Exts.andR | apply Exts.alloc | apply Exts.wext | apply Exts.drew | apply Exts.drewN))
            have KM3 := Lib.hid (KM.out.exts e13)
            have KB3 := Lib.hid (KB.out.exts e13)
            have HVS3 := Lib.hid (RowF.exts HVS.out e13)
            have r3 : ∀ w', Exts W3 w' → w'.cell? ⟨b, off + k * 3 + 1, none⟩ = some (.slice vo vs.length vc) := all_at e13 e1
            have EX := Lib.hid e13
            have e24 := Exts.cell e13 e2
            have lb3 : b < W3.heap.size := Nat.lt_of_lt_of_le lb e13.below.size
            clear hW3 e13 r0
            go_region_held3 (fun w' => Exts W3 w') (first | assumption | exact (Exts.refl _).drew | exact (by repeat (first | exact Exts.refl _ | apply Exts.andR | apply Exts.alloc | apply Exts.wext | apply Exts.drew | apply Exts.drewN))) ((first | (go_at_call 35; (with_reducible refine (refForced35_D _ _ _ _ _ _ _ _ _ D (B.take k) vs _ wh2 by2 bm2 _ (KM3.out.exts (by assumption)) (KB3.out.exts (by assumption)) (RowF.exts HVS3.out (by assumption)) hk2 HVT.out HIV.out HW2.out HY2.out HM2.out).mono ?_); rintro e w' ⟨ro2, rc2, rfl, ⟨x7, rfl⟩, hks⟩; clear hks)))

          all_goals
            go_wp2_with (first | (go_at_call 49; ((with_reducible refine (outcome49 _ wt _ HWT.out).mono ?_); rintro e w' ⟨rfl, x8, rfl⟩)) | (at_builtin; refine wpList_append_lies _ rfl (.tmp 79) (.tmp 81) 24 rfl W.heap.size 3 i0 _ 1 8 Try.underlying24 hi hz0 hz1 hz2 rfl (by decide) (.slice oo m oc) m (intsC (ovrK D B i k)) rfl (ownsRow_exts HO.out (EX.out.trans (by repeat (first | exact Exts.refl _ | apply Exts.andR | apply Exts.alloc | apply Exts.wext | apply Exts.drew | apply Exts.drewN)))) ⟨_, 0, none⟩ 1 1 [.int .i64 k] rfl rfl (by intro j u hj; match j, hj with | 0, hj => (simp at hj; subst hj; simp [go_sem])) (int_one _) (by decide) (by unfold maxLen; omega) (by omega) (by have := HBS.out; have := EX.out.below.size; simp; omega) _ rfl ?_; intro g2 cg w9 hown' hgrow hat hlt'))
            refine ⟨⟨k + 1, m + 1, by omega, by omega, by go_num, by rw [HS.out, List.length_append, HMK.out]; rfl, exts_of_grown (W := W) (HX2.out.trans (EX.out.trans (by repeat (first | exact Exts.refl _ | apply Exts.andR | apply Exts.alloc | apply Exts.wext | apply Exts.drew | apply Exts.drewN)))) hgrow (fun b hb => owns_base HO.out hb), by rw [HS.out, intsC_snoc]; exact hown'⟩, ?_⟩
            simp [intOf]; omega
    · obtain rfl : k = n := by omega
      clear hx hown hmk
      go_wp2
      go_ret2
      refine ⟨oo, oc, by rw [HMK.out]; rfl, HX.out.trans (HX2.out.trans (by repeat (first | exact Exts.refl _ | apply Exts.andR | apply Exts.alloc | apply Exts.wext | apply Exts.drew | apply Exts.drewN))), ?_⟩
      rw [HMK.out]
      exact (RowF.exts (RowF.of_owns HO.out) (by repeat (first | exact Exts.refl _ | apply Exts.andR | apply Exts.alloc | apply Exts.wext | apply Exts.drew | apply Exts.drewN))).up HX.out.below.size
end Go.Proofs.Ytodgohilfbggjaa
