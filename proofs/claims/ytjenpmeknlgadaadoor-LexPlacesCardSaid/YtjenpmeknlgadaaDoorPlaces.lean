/- LexPlaces returns true. Condition: the table of signs is as the program lays it. -/
import Derived.Test.YtjenpmeknlgadaaDoorPlacesPlain
import Derived.Test.YtjenpmeknlgadaaDoorBack
namespace Go.Proofs.YtjenpmeknlgadaaDoor
open Go.RowKit
set_option linter.unusedSimpArgs false
set_option linter.unusedVariables false

set_option maxRecDepth 100000
set_option maxHeartbeats 1000000
theorem places5_no (s : ByteArray) (w : World) (hs : s.size ≤ 9223372036854775807) (h : Signs w) (ts : List TP) (at' c : Int) (hD : lexS (s.data.toList.take 3000) = (ts, at', c)) (hc : c ≠ 0) :
    Calls Tryd.prog 5 #[.string s] w fun e w' => e = .returned (.bool true) ∧ Exts w w' := by
  have HS := Lib.hid h
  obtain ⟨rfl, m, rfl, hm⟩ := places_bad (by rw [List.length_take]; omega) hD hc
  have HD := Lib.hid hD
  have HM := Lib.hid hm
  have q1 : (c == 0) = false := by simpa using hc
  have q2 : (c != 0) = true := by simpa using hc
  clear h hD hc hm
  go_enter Tryd.func5, Tryd.ntmps5
  go_wp2_with (first | (go_at_call 9; refine (small9 _ (HS.out.exts (by repeat (first | exact Exts.refl _ | apply Exts.andR | apply Exts.alloc | apply Exts.wext | apply Exts.drew | apply Exts.drewN)))).mono ?_; rintro e w' ⟨rfl, x1, rfl⟩) | (go_at_call 10; refine (cut10 _ _ hs).mono ?_; rintro e w' ⟨t, rfl, ht, rfl⟩; (have hts : t.size ≤ 3000 := by rw [← data_len t, ht, List.length_take]; omega); (have HT := Lib.hid ht); (have HTL := Lib.hid ((data_len t).symm.trans (congrArg List.length ht))); clear ht) | (go_at_call 11; refine (lex11_N _ _ _ _ _ 0 _ HT.out HD.out rfl (by omega) (HS.out.exts (by repeat (first | exact Exts.refl _ | apply Exts.andR | apply Exts.alloc | apply Exts.wext | apply Exts.drew | apply Exts.drewN)))).mono ?_; rintro e w' ⟨ao, k, rfl, ⟨x2, rfl⟩, hr⟩; (have hmt : decide (m < t.size) = true := by (have h1 := HM.out; have h2 := HTL.out; simp; omega)); clear hr))
  go_ret
  exact ⟨rfl, (by repeat (first | exact Exts.refl _ | apply Exts.andR | apply Exts.alloc | apply Exts.wext | apply Exts.drew | apply Exts.drewN))⟩
set_option maxHeartbeats 4000000 in
theorem places5_ok (s : ByteArray) (w : World) (hs : s.size ≤ 9223372036854775807) (h : Signs w) (ts : List TP) (at' : Int) (hD : lexS (s.data.toList.take 3000) = (ts, at', 0)) :
    Calls Tryd.prog 5 #[.string s] w fun e w' => e = .returned (.bool true) ∧ Exts w w' := by
  have HS := Lib.hid h
  obtain ⟨rfl, hpl, hne, hn3⟩ := places_ok (by rw [List.length_take]; omega) hD
  have HD := Lib.hid hD
  obtain ⟨n, hn⟩ : ∃ n, ts.length = n := ⟨_, rfl⟩
  have hn0 : 0 < n := by rw [← hn]; exact List.length_pos_iff.2 hne
  rw [hn] at hn3
  have HN := Lib.hid hn
  have HP := Lib.hid hpl
  clear h hD hn hne hpl
  go_enter Tryd.func5, Tryd.ntmps5
  go_wp2_with (first | (go_at_call 9; refine (small9 _ (HS.out.exts (by repeat (first | exact Exts.refl _ | apply Exts.andR | apply Exts.alloc | apply Exts.wext | apply Exts.drew | apply Exts.drewN)))).mono ?_; rintro e w' ⟨rfl, x1, rfl⟩) | (go_at_call 10; refine (cut10 _ _ hs).mono ?_; rintro e w' ⟨t, rfl, ht, rfl⟩; (have hts : t.size ≤ 3000 := by rw [← data_len t, ht, List.length_take]; omega); (have HT := Lib.hid ht); (have HTL := Lib.hid ((data_len t).symm.trans (congrArg List.length ht))); clear ht) | (go_at_call 11; ((with_reducible refine (lex11_N _ _ ts 0 0 n _ HT.out HD.out HN.out (by omega) (HS.out.exts (by repeat (first | exact Exts.refl _ | apply Exts.andR | apply Exts.alloc | apply Exts.wext | apply Exts.drew | apply Exts.drewN)))).mono ?_); rintro e w' ⟨ao, k, rfl, ⟨x2, rfl⟩, hr⟩; (try simp only [wext_and] at hr); (have H1 := Lib.hid hr); clear hr)))
  go_loopw [8, 9] (fun e i wr => ∃ (k p : Nat), k ≤ n ∧ e = .int .i64 p ∧ i = .int .i64 k ∧ Placed (s.data.toList.take 3000) (ts.drop k) p ∧ Exts (wext w (x1.and x2)) wr) (fun _ i _ => n - (intOf i).toNat)
  case atStart => exact ⟨0, 0, by omega, rfl, rfl, HP.out, Exts.refl _⟩
  case round =>
    obtain ⟨k, p, hk, rfl, rfl, hpl, x, rfl⟩ := hrel
    by_cases hlt : k < n
    · obtain ⟨⟨kd, tx, tn, tp⟩, ht⟩ : ∃ t, ts[k]? = some t := ⟨ts[k]'(by rw [HN.out]; exact hlt), List.getElem?_eq_getElem (by rw [HN.out]; exact hlt)⟩
      obtain ⟨b0, o0, rfl, hb0, f0, f1, f2, f3⟩ := Toks.get (RowF.exts H1.out (show Exts (wext w (x1.and x2)) (wext (wext w (x1.and x2)) x) from ⟨x, rfl⟩)) ht
      simp only [wext_and] at hb0 f0 f1 f2 f3
      have hdr : ts.drop k = ⟨kd, tx, tn, tp⟩ :: ts.drop (k + 1) := by
        rw [List.getElem?_eq_some_iff] at ht
        obtain ⟨h1, h2⟩ := ht
        rw [List.drop_eq_getElem_cons h1, h2]
      rw [hdr] at hpl
      obtain ⟨q, ⟨rfl, z1, z2, z3, z4, z5, z6, z7⟩, hpr⟩ := hpl
      simp only at z1 z2 z3 z4 z5 z6 z7 hpr
      have HPR := Lib.hid hpr
      have HBL := Lib.hid z4
      have HTX := Lib.hid z3
      have hlast : (ts.drop (k + 1)).isEmpty = decide (k + 1 = n) := by
        rw [Bool.eq_iff_iff, List.isEmpty_iff, decide_eq_true_eq, List.drop_eq_nil_iff, HN.out]
        omega
      rw [hlast] at z5 z6
      have hq : q + tx.length ≤ t.size := by rw [HTL.out]; exact z2
      have g1 : decide (q < p) = false := by simp; omega
      have g2 : decide ((t.size : Int) - (tx.length : Int) < (q : Int)) = false := by simp; omega
      have g6 : t.extract q (q + tx.length) = ⟨tx.toArray⟩ := by
        have h1 := Lib.extract_data t q (q + tx.length)
        rw [HT.out, show q + tx.length - q = tx.length by omega, z3] at h1
        exact congrArg ByteArray.mk (Array.toList_inj.1 (h1 : _ = tx.toArray.toList))
      clear hpr z3 z4 hdr ht hlast z2
      have HX0 := Lib.hid (show Exts (wext w (x1.and x2)) (wext w ((x1.and x2).and x)) from ⟨x, (wext_and ..).symm⟩)
      have hjt : ∀ j, p ≤ j → j < q → ∃ h : j < t.size, blankI (t[j].toNat : Int) = true := by
        intro j h1 h2
        obtain ⟨c, hc, hb⟩ := HBL.out j h1 h2
        rw [← HT.out] at hc
        refine ⟨by omega, ?_⟩
        have hc2 : t.data.toList[j]? = some t[j] := by rw [List.getElem?_eq_getElem (by simpa using (by omega : j < t.size))]; rfl
        rw [hc] at hc2
        cases hc2
        exact hb
      have HJT := Lib.hid hjt
      clear hjt
      have hkd : decide (k + 1 = n) = false ∨ decide (k + 1 = n) = true := by cases decide (k + 1 = n) <;> simp
      rcases hkd with hl | hl
      · rw [hl] at z5 z6
        have hl' : k + 1 ≠ n := by simpa using hl
        have z6' : kd ≠ 3 := by simpa using z6
        have g5 : tx.isEmpty = false := by cases tx with | nil => simp at z5 | cons _ _ => rfl
        have g3 : ((k : Int) == (n : Int) - 1) = false := by simp; omega
        have g4 : (kd == 3) = false := by simpa using z6'
        by_cases h1 : kd = 1
        · have g7 : (kd != 1) = false := by simpa using h1
          clear hl z6 z6' z7 hl' z5 h1
          go_wp2
          first | refine wp_region_ext_lit2 (by kernel_rfl) (by kernel_rfl) ?_ | refine wp_region_ext_lit (by kernel_rfl) (by kernel_rfl) ?_
          repeat (go_big_quiet_step (fail))
          refine wpQuiet_nil ?_
          intro _ hwq'
          obtain ⟨xq, hwq''⟩ := hwq'
          subst hwq''
          go_wp2
          clear g6
          go_loopw [11] (fun i wr => ∃ (j : Nat) (y : Ex), p ≤ j ∧ j ≤ q ∧ i = .int .i64 j ∧ wr = wext ((wext w ((x1.and x2).and x)).alloc (.cells #[.int .i64 kd, .string ⟨tx.toArray⟩, .int .i64 tn, .int .i64 q] 25)) y) (fun i _ => q - (intOf i).toNat)
          case atStart => exact ⟨p, _, by omega, z1, rfl, rfl⟩
          case round =>
            obtain ⟨j, y, hj1, hj2, rfl, rfl⟩ := hrel
            by_cases hjq : j < q
            · obtain ⟨hjt, hb⟩ := HJT.out j hj1 hjq
              have HB := Lib.hid hb
              clear hb
              go_wp2_with (go_at_call 21; refine (refBlank21 _ _).mono ?_; rintro e w' ⟨rfl, rfl⟩; rw [HB.out])
              refine ⟨⟨j + 1, y, by omega, by omega, by go_num, rfl⟩, ?_⟩
              simp [intOf]; omega
            · go_wp2
              refine ⟨⟨k + 1, q + tx.length, by omega, by go_num, by go_num, HPR.out, (by repeat (first | exact HX0.out | apply Exts.alloc | apply Exts.wext | apply Exts.drew | apply Exts.drewN))⟩, ?_⟩
              simp [intOf]; omega
        · have g7 : (kd != 1) = true := by simpa using h1
          have g8 : (tn != 0) = false := by simpa using z7 h1
          clear hl z6 z6' z7 hl' z5 h1
          go_wp2
          first | refine wp_region_ext_lit2 (by kernel_rfl) (by kernel_rfl) ?_ | refine wp_region_ext_lit (by kernel_rfl) (by kernel_rfl) ?_
          repeat (go_big_quiet_step (fail))
          refine wpQuiet_nil ?_
          intro _ hwq'
          obtain ⟨xq, hwq''⟩ := hwq'
          subst hwq''
          go_wp2
          clear g6
          go_loopw [11] (fun i wr => ∃ (j : Nat) (y : Ex), p ≤ j ∧ j ≤ q ∧ i = .int .i64 j ∧ wr = wext ((wext w ((x1.and x2).and x)).alloc (.cells #[.int .i64 kd, .string ⟨tx.toArray⟩, .int .i64 tn, .int .i64 q] 25)) y) (fun i _ => q - (intOf i).toNat)
          case atStart => exact ⟨p, _, by omega, z1, rfl, rfl⟩
          case round =>
            obtain ⟨j, y, hj1, hj2, rfl, rfl⟩ := hrel
            by_cases hjq : j < q
            · obtain ⟨hjt, hb⟩ := HJT.out j hj1 hjq
              have HB := Lib.hid hb
              clear hb
              go_wp2_with (go_at_call 21; refine (refBlank21 _ _).mono ?_; rintro e w' ⟨rfl, rfl⟩; rw [HB.out])
              refine ⟨⟨j + 1, y, by omega, by omega, by go_num, rfl⟩, ?_⟩
              simp [intOf]; omega
            · go_wp2
              refine ⟨⟨k + 1, q + tx.length, by omega, by go_num, by go_num, HPR.out, (by repeat (first | exact HX0.out | apply Exts.alloc | apply Exts.wext | apply Exts.drew | apply Exts.drewN))⟩, ?_⟩
              simp [intOf]; omega
      · rw [hl] at z5 z6
        have hl' : k + 1 = n := by simpa using hl
        have z6' : kd = 3 := by simpa using z6
        have g5 : tx.isEmpty = true := by cases tx with | nil => rfl | cons _ _ => simp at z5
        have g3 : ((k : Int) == (n : Int) - 1) = true := by simp; omega
        have g4 : (kd == 3) = true := by simpa using z6'
        have g7 : (kd != 1) = true := by rw [z6']; rfl
        have g8 : (tn != 0) = false := by simpa using z7 (by rw [z6']; decide)
        clear hl z6 z6' z7 hl' z5
        go_wp2
        first | refine wp_region_ext_lit2 (by kernel_rfl) (by kernel_rfl) ?_ | refine wp_region_ext_lit (by kernel_rfl) (by kernel_rfl) ?_
        repeat (go_big_quiet_step (fail))
        refine wpQuiet_nil ?_
        intro _ hwq'
        obtain ⟨xq, hwq''⟩ := hwq'
        subst hwq''
        go_wp2
        clear g6
        go_loopw [11] (fun i wr => ∃ (j : Nat) (y : Ex), p ≤ j ∧ j ≤ q ∧ i = .int .i64 j ∧ wr = wext ((wext w ((x1.and x2).and x)).alloc (.cells #[.int .i64 kd, .string ⟨tx.toArray⟩, .int .i64 tn, .int .i64 q] 25)) y) (fun i _ => q - (intOf i).toNat)
        case atStart => exact ⟨p, _, by omega, z1, rfl, rfl⟩
        case round =>
          obtain ⟨j, y, hj1, hj2, rfl, rfl⟩ := hrel
          by_cases hjq : j < q
          · obtain ⟨hjt, hb⟩ := HJT.out j hj1 hjq
            have HB := Lib.hid hb
            clear hb
            go_wp2_with (go_at_call 21; refine (refBlank21 _ _).mono ?_; rintro e w' ⟨rfl, rfl⟩; rw [HB.out])
            refine ⟨⟨j + 1, y, by omega, by omega, by go_num, rfl⟩, ?_⟩
            simp [intOf]; omega
          · go_wp2
            refine ⟨⟨k + 1, q + tx.length, by omega, by go_num, by go_num, HPR.out, (by repeat (first | exact HX0.out | apply Exts.alloc | apply Exts.wext | apply Exts.drew | apply Exts.drewN))⟩, ?_⟩
            simp [intOf]; omega
    · obtain rfl : k = n := by omega
      have hnil : ts.drop k = [] := List.drop_eq_nil_of_le (by rw [HN.out]; omega)
      rw [hnil] at hpl
      have hpt : p = t.size := by rw [HTL.out]; exact hpl
      subst hpt
      clear hnil hpl
      go_wp2
      go_ret
      exact ⟨rfl, (by repeat (first | exact Exts.refl _ | apply Exts.andR | apply Exts.alloc | apply Exts.wext | apply Exts.drew | apply Exts.drewN))⟩
theorem places5 (s : ByteArray) (w : World) (hs : s.size ≤ 9223372036854775807) (h : Signs w) : Calls Tryd.prog 5 #[.string s] w fun e w' => e = .returned (.bool true) ∧ Exts w w' := by
  obtain ⟨⟨ts, at', c⟩, hD⟩ : ∃ D, lexS (s.data.toList.take 3000) = D := ⟨_, rfl⟩
  by_cases hc : c = 0
  · subst hc
    exact places5_ok s w hs h ts at' hD
  · exact places5_no s w hs h ts at' c hD hc
end Go.Proofs.YtjenpmeknlgadaaDoor
