/- Circle of the reference of chapter 38. No condition but a valid dimension. -/
import Derived.Test.YtbafcfbchbjgfaaRefCircPlain
import Derived.Test.YtbafcfbchbjgfaaWay
import Derived.Deep.LoopGhost
namespace Go.Proofs.Ytbafcfbchbjgfaa
open Go.RowKit
set_option linter.unusedSimpArgs false
set_option linter.unusedVariables false

theorem way42_D {S : Nat → Prop} (m : Nat) (po : Option Addr) (n c : Nat) (ps : List Pr) (a b lo r : Nat) (w : World) (h : Prs S w po n c ps) (hm12 : m ≤ 12) (hin : ∀ p ∈ ps, 0 ≤ p.1 ∧ p.1 < (m : Int) ∧ 0 ≤ p.2 ∧ p.2 < (m : Int)) (ha : a < m) (hlo : lo ≤ m) (hr : wayN (pairRel ps) m lo a b = r) :
    Calls Try.prog 42 #[.agg #[.int .i64 m, .slice po n c], .int .i64 a, .int .i64 b, .int .i64 lo] w fun e w' => e = .returned (.int .i64 r) ∧ Exts w w' := by
  subst hr
  exact way42 m po n c ps a b lo w h hm12 hin ha hlo
set_option maxRecDepth 100000
set_option maxHeartbeats 4000000
theorem circle36 {S' : Nat → Prop} (m : Nat) (po : Option Addr) (n c : Nat) (ps : List Pr) (w : World) (h : Prs S' w po n c ps) (hm12 : m ≤ 12) (hin : ∀ p ∈ ps, 0 ≤ p.1 ∧ p.1 < (m : Int) ∧ 0 ≤ p.2 ∧ p.2 < (m : Int)) :
    Calls Try.prog 36 #[.agg #[.int .i64 m, .slice po n c]] w fun e w' => ∃ (C : List Nat) (ro : Option Addr) (rc : Nat), e = .returned (.slice ro C.length rc) ∧ IsCirc (pairRel ps) C ∧ Exts w w' ∧ Ints (fun b => w.heap.size ≤ b) w' ro C.length rc (C.map Int.ofNat) := by
  have hm := RowF.nle h
  unfold maxLen at hm
  have hpin : ∀ x y, pairRel ps x y = true → x < m ∧ y < m := fun x y h => by
    simp only [pairRel, List.any_eq_true, Bool.and_eq_true, beq_iff_eq] at h
    obtain ⟨p, hp, h1, h2⟩ := h
    have := hin p hp
    omega
  have HPI := Lib.hid hpin
  have HIN := Lib.hid hin
  have H := Lib.hid h
  obtain ⟨i0, hi, hz0, hz1, hz2⟩ := info_parts info3b
  clear h hpin hin
  obtain ⟨f, hf⟩ : ∃ f, pairRel ps = f := ⟨_, rfl⟩
  go_enter Try.func36, Try.ntmps36
  rw [hf] at HPI ⊢
  have HF := Lib.hid hf
  clear hf
  go_wp2
  obtain ⟨w1, hw1⟩ : ∃ w1, w.alloc (.cells #[.int .i64 m, .slice po n c] 24) = w1 := ⟨_, rfl⟩
  have HX := Lib.hid (show Exts w w1 by rw [← hw1]; exact (Exts.refl w).alloc _)
  have HP := Lib.hid (show Prs S' w1 po n c ps from RowF.exts H.out HX.out)
  have cO0 : w1.cell? ⟨w.heap.size, 0, none⟩ = some (.int .i64 m) := by rw [← hw1]; simp [go_sem]
  have cO1 : w1.cell? ⟨w.heap.size, 1, none⟩ = some (.slice po n c) := by rw [← hw1]; simp [go_sem]
  have lO : w1.heap.size = w.heap.size + 1 := by rw [← hw1]; simp
  rw [hw1]
  clear hw1 H
  go_loopw [3, 4, 5] (fun b a i wr => ∃ (s best at' : Nat), s ≤ m ∧ i = .int .i64 s ∧ b = .int .i64 best ∧ a = .int .i64 at' ∧ BestR f m s best at' ∧ Exts w1 wr) (fun _ _ i _ => m - (intOf i).toNat)
  case atStart => exact ⟨0, 0, 0, by omega, rfl, rfl, rfl, BestR.start f m, Exts.refl _⟩
  case round =>
    obtain ⟨s, best, at', hs, rfl, rfl, rfl, hb, x, rfl⟩ := hrel
    have HB := Lib.hid hb
    clear hb
    by_cases hlt : s < m
    · obtain ⟨r, hr⟩ : ∃ r, wayN f m s s s = r := ⟨_, rfl⟩
      have hr12 : r ≤ m := by rw [← hr]; exact wayN_le _ _ _ _ _
      have HR := Lib.hid (show wayN (pairRel ps) m s s s = r by rw [HF.out]; exact hr)
      have HR2 := Lib.hid hr
      clear hr
      by_cases hr0 : r = 0
      · have HN := Lib.hid (HB.out.no (.inl (HR2.out.trans hr0)))
        have q1 : decide ((0 : Int) < (r : Int)) = false := by simp; omega
        have q2 : decide (0 < r) = false := by simp; omega
        clear hr0
        go_wp2_with (first | (go_at_call 42; ((with_reducible refine (way42_D _ _ _ _ ps _ _ _ r _ (RowF.exts HP.out (by repeat (first | exact Exts.refl _ | apply Exts.andR | apply Exts.alloc | apply Exts.wext | apply Exts.drew | apply Exts.drewN))) hm12 HIN.out hlt (Nat.le_of_lt hlt) HR.out).mono ?_); rintro e w' ⟨rfl, x1, rfl⟩)))
        refine ⟨⟨s + 1, best, at', by omega, by go_num, rfl, rfl, HN.out, (by repeat (first | exact Exts.refl _ | apply Exts.andR | apply Exts.alloc | apply Exts.wext | apply Exts.drew | apply Exts.drewN))⟩, ?_⟩
        simp [intOf]; omega

      · have q1 : decide ((0 : Int) < (r : Int)) = true := by simp; omega
        have q2 : decide (0 < r) = true := by simp; omega
        by_cases hb0 : best = 0
        · have HN := Lib.hid (HB.out.yes (by rw [HR2.out]; omega) (.inl hb0))
          rw [HR2.out] at HN
          subst hb0
          clear hr0
          go_wp2_with (first | (go_at_call 42; ((with_reducible refine (way42_D _ _ _ _ ps _ _ _ r _ (RowF.exts HP.out (by repeat (first | exact Exts.refl _ | apply Exts.andR | apply Exts.alloc | apply Exts.wext | apply Exts.drew | apply Exts.drewN))) hm12 HIN.out hlt (Nat.le_of_lt hlt) HR.out).mono ?_); rintro e w' ⟨rfl, x1, rfl⟩)))
          refine ⟨⟨s + 1, r, s, by omega, by go_num, rfl, rfl, HN.out, (by repeat (first | exact Exts.refl _ | apply Exts.andR | apply Exts.alloc | apply Exts.wext | apply Exts.drew | apply Exts.drewN))⟩, ?_⟩
          simp [intOf]; omega

        · have q3 : ((best : Int) == 0) = false := by simp; omega
          have q4 : (best == 0) = false := by simpa using hb0
          by_cases hrb : r < best
          · have HN := Lib.hid (HB.out.yes (by rw [HR2.out]; omega) (.inr (by rw [HR2.out]; exact hrb)))
            rw [HR2.out] at HN
            have q5 : decide ((r : Int) < (best : Int)) = true := by simp; omega
            have q6 : decide (r < best) = true := by simp; omega
            clear hr0 hb0 hrb
            go_wp2_with (first | (go_at_call 42; ((with_reducible refine (way42_D _ _ _ _ ps _ _ _ r _ (RowF.exts HP.out (by repeat (first | exact Exts.refl _ | apply Exts.andR | apply Exts.alloc | apply Exts.wext | apply Exts.drew | apply Exts.drewN))) hm12 HIN.out hlt (Nat.le_of_lt hlt) HR.out).mono ?_); rintro e w' ⟨rfl, x1, rfl⟩)))
            refine ⟨⟨s + 1, r, s, by omega, by go_num, rfl, rfl, HN.out, (by repeat (first | exact Exts.refl _ | apply Exts.andR | apply Exts.alloc | apply Exts.wext | apply Exts.drew | apply Exts.drewN))⟩, ?_⟩
            simp [intOf]; omega

          · have HN := Lib.hid (HB.out.no (.inr ⟨hb0, by rw [HR2.out]; omega⟩))
            have q5 : decide ((r : Int) < (best : Int)) = false := by simp; omega
            have q6 : decide (r < best) = false := by simp; omega
            clear hr0 hb0 hrb
            go_wp2_with (first | (go_at_call 42; ((with_reducible refine (way42_D _ _ _ _ ps _ _ _ r _ (RowF.exts HP.out (by repeat (first | exact Exts.refl _ | apply Exts.andR | apply Exts.alloc | apply Exts.wext | apply Exts.drew | apply Exts.drewN))) hm12 HIN.out hlt (Nat.le_of_lt hlt) HR.out).mono ?_); rintro e w' ⟨rfl, x1, rfl⟩)))
            refine ⟨⟨s + 1, best, at', by omega, by go_num, rfl, rfl, HN.out, (by repeat (first | exact Exts.refl _ | apply Exts.andR | apply Exts.alloc | apply Exts.wext | apply Exts.drew | apply Exts.drewN))⟩, ?_⟩
            simp [intOf]; omega

    · obtain rfl : m = s := by omega
      by_cases hb0 : best = 0
      · subst hb0
        have HR := Lib.hid (HB.out.none HPI.out)
        go_wp2
        go_ret
        exact ⟨[], none, 0, rfl, .inl ⟨rfl, HR.out⟩, HX.out.trans (by repeat (first | exact Exts.refl _ | apply Exts.andR | apply Exts.alloc | apply Exts.wext | apply Exts.drew | apply Exts.drewN)), RowF.nil _ _ _⟩
      · have hle := HB.out.le
        have hmin := HB.out.min hb0 hm12 HPI.out
        have HM := Lib.hid hmin
        have hat : at' < m := (HB.out.pos hb0).1
        have hpos := hmin.pos
        have q1 : ((best : Int) == 0) = false := by simp; omega
        have q2 : (best == 0) = false := by simpa using hb0
        clear hmin hb0
        obtain ⟨d, hd⟩ := isDist_ex f at'
        have HD := Lib.hid hd
        clear hd
        go_wp2
        go_loopg [7] best (fun k o wr => ∃ (C : List Nat) (last : Nat), CirPre f best at' d C last ∧ best - C.length ≤ k ∧ Exts w1 wr ∧ wr.ownsRow w1.heap.size 3 1 o C.length (intsC (C.map Int.ofNat)))
        case atStart =>
          refine ⟨[at'], at', CirPre.start HM.out, by simp, (by repeat (first | exact Exts.refl _ | apply Exts.andR | apply Exts.alloc | apply Exts.wext | apply Exts.drew | apply Exts.drewN)), ⟨by simp, .inr ⟨w1.heap.size + x.bs.size, 1, #[.int .i64 at'], by simp [lO], by omega, ?_, Nat.le_refl _, by decide, rfl, rfl⟩⟩⟩
          rw [heap_alloc_if, if_neg (by simp), if_pos (by simp)]
        case round =>
          obtain ⟨C, last, hcp, hk, hwr, hown⟩ := hrel
          obtain ⟨q, hq⟩ : ∃ q, C.length = q + 1 := ⟨C.length - 1, by have := hcp.len; omega⟩
          obtain ⟨_, ⟨h1, _⟩ | ⟨g, cap, cur, rfl, hgb, hg, hcap, hmax, hcs, htk⟩⟩ := id hown
          · omega
          · have HCP := Lib.hid hcp
            have HO := Lib.hid hown
            have HWR := Lib.hid hwr
            have HQ := Lib.hid hq
            have hl12 := hcp.lt
            have hle := hcp.le
            have HK := Lib.hid hk
            have cl : wr.cell? ⟨g, q, none⟩ = some (.int .i64 last) := by
              have h2 := hcp.lst
              rw [hq, Nat.add_sub_cancel] at h2
              have h3 : (intsC (C.map Int.ofNat))[q]? = some (.int .i64 last) := by simp [intsC, h2]
              rw [← htk, List.getElem?_take_of_lt (by omega)] at h3
              rw [cell_of_row wr g q cur 3 (0, 0) hg]
              simpa using h3
            have lg : g < wr.heap.size := (Array.getElem?_eq_some_iff.1 hg).1
            have lm : w.heap.size < wr.heap.size := by have := hwr.below.size; omega
            have cO0' := Exts.cell hwr cO0
            have cO1' := Exts.cell hwr cO1
            have HPw := Lib.hid (show Prs S' wr po n c ps from RowF.exts HP.out hwr)
            have HGB := Lib.hid hgb
            have HBAS := Lib.hid (show w1.heap.size ≤ wr.heap.size from hwr.below.size)
            rw [hq] at hle ⊢
            clear hcp hown hwr hq hg hcs htk hk
            by_cases hlt : q + 1 < best
            · obtain ⟨c', hc1, hc2, hc3, hc4⟩ := HCP.out.ex HM.out HD.out (by rw [HQ.out]; exact hlt)
              rw [HQ.out] at hc4
              have hcm := (HPI.out _ _ hc3).2
              have hlm := (HPI.out _ _ hc3).1
              have hca : at' + 1 ≤ c' := by
                by_cases he : c' = at'
                · rw [he, HD.out.zero] at hc4; omega
                · omega
              have qlt : decide ((q : Int) + 1 < (best : Int)) = true := by simp; omega
              have HC3 := Lib.hid hc3
              have HC4 := Lib.hid hc4
              clear hc3 hc4
              go_wp2
              go_loopg [7, 9] 12 (fun k o i wr2 => ∃ v, at' + 1 ≤ v ∧ v ≤ c' ∧ i = .int .i64 v ∧ o = .slice (some ⟨g, 0, none⟩) (q + 1) cap ∧ Exts wr wr2 ∧ 12 - v ≤ k ∧ ∀ z, at' ≤ z → z < v → ¬ (f last z = true ∧ d z = best - (q + 1)))
              case atStart =>
                refine ⟨at' + 1, Nat.le_refl _, hca, by go_num, rfl, Exts.refl _, by omega, fun z h1 h2 => ?_⟩
                obtain rfl : z = at' := by omega
                rw [HD.out.zero]
                omega
              case round =>
                obtain ⟨v, hv1, hv2, rfl, rfl, ⟨y, rfl⟩, hvk, hinz⟩ := hrel
                have HI := Lib.hid hinz
                clear hinz
                have hvm : v < m := by omega
                have hne : v ≠ at' := by omega
                have HNE := Lib.hid hne
                clear hne
                cases hfv : f last v with
                | false =>
                  have HFV := Lib.hid hfv
                  have HR := Lib.hid (show pairRel ps last v = false by rw [HF.out]; exact hfv)
                  clear hfv
                  go_wp2_with (first | (go_at_call 43; ((with_reducible refine (has43_D _ _ _ _ ps _ _ _ _ (RowF.exts HPw.out (by repeat (first | exact Exts.refl _ | apply Exts.andR | apply Exts.alloc | apply Exts.wext | apply Exts.drew | apply Exts.drewN))) HR.out).mono ?_); rintro e w' ⟨rfl, x1, rfl⟩)))
                  go_roundg (12 - (v + 1))
                  case measure => omega
                  case rel =>
                    refine ⟨v + 1, by omega, ?_, by go_num, rfl, (by repeat (first | exact Exts.refl _ | apply Exts.andR | apply Exts.alloc | apply Exts.wext | apply Exts.drew | apply Exts.drewN)), Nat.le_refl _, fun z h1 h2 => ?_⟩
                    · by_cases hvc : v = c'
                      · have := HC3.out
                        rw [← hvc, HFV.out] at this
                        cases this
                      · omega
                    · by_cases hz : z = v
                      · rw [hz]
                        rintro ⟨h3, h4⟩
                        rw [HFV.out] at h3; cases h3
                      · exact HI.out z h1 (by omega)
                | true =>
                  have HFV := Lib.hid hfv
                  have HR := Lib.hid (show pairRel ps last v = true by rw [HF.out]; exact hfv)
                  clear hfv
                  obtain ⟨r, hr⟩ : ∃ r, wayN f m at' v at' = r := ⟨_, rfl⟩
                  have hr12 : r ≤ m := by rw [← hr]; exact wayN_le _ _ _ _ _
                  have HRW := Lib.hid (show wayN (pairRel ps) m at' v at' = r by rw [HF.out]; exact hr)
                  have HWD := Lib.hid (show r = best - (q + 1) ↔ d v = best - (q + 1) by rw [← hr]; exact way_dist HD.out (by omega) (by omega) HNE.out hm12 (by omega) (by omega))
                  clear hr
                  by_cases he : r = best - (q + 1)
                  · have q3 : ((r : Int) == (best : Int) - ((q : Int) + 1)) = true := by simp; omega
                    have HN := Lib.hid (HCP.out.snoc HM.out HD.out (by rw [HQ.out]; exact hlt) ⟨by omega, by omega, HFV.out, by rw [HQ.out]; exact HWD.out.1 he, by rw [HQ.out]; exact HI.out⟩)
                    clear he
                    go_wp2_with (first | (go_at_call 43; ((with_reducible refine (has43_D _ _ _ _ ps _ _ _ _ (RowF.exts HPw.out (by repeat (first | exact Exts.refl _ | apply Exts.andR | apply Exts.alloc | apply Exts.wext | apply Exts.drew | apply Exts.drewN))) HR.out).mono ?_); rintro e w' ⟨rfl, x1, rfl⟩)) | (go_at_call 42; ((with_reducible refine (way42_D _ _ _ _ ps _ _ _ r _ (RowF.exts HPw.out (by repeat (first | exact Exts.refl _ | apply Exts.andR | apply Exts.alloc | apply Exts.wext | apply Exts.drew | apply Exts.drewN))) hm12 HIN.out hvm (by omega) HRW.out).mono ?_); rintro e w' ⟨rfl, x2, rfl⟩)) | (at_builtin; refine wpList_append_lies _ rfl (.tmp 72) (.tmp 74) 26 rfl w1.heap.size 3 i0 _ 1 8 Try.underlying26 hi hz0 hz1 hz2 rfl (by decide) (.slice (some ⟨g, 0, none⟩) (q + 1) cap) (q + 1) (intsC (C.map Int.ofNat)) rfl (ownsRow_exts (HQ.out ▸ HO.out) (by repeat (first | exact Exts.refl _ | apply Exts.andR | apply Exts.alloc | apply Exts.wext | apply Exts.drew | apply Exts.drewN))) ⟨_, 0, none⟩ 1 1 [.int .i64 v] rfl rfl (by intro j u hj; match j, hj with | 0, hj => (simp at hj; subst hj; simp [go_sem])) (int_one _) (by decide) (by unfold maxLen; omega) (by omega) (by have := HBAS.out; simp; omega) _ rfl ?_; intro g2 cg w9 hown' hgrow hat9 hlt'))
                    go_roundg (best - (q + 2))
                    case measure =>
                      have h1 := HK.out
                      rw [HQ.out] at h1
                      omega
                    case rel =>
                      have hlen : (C ++ [v]).length = q + 1 + 1 := by rw [List.length_append, HQ.out]; rfl
                      refine ⟨C ++ [v], v, HN.out, by rw [hlen]; omega, exts_of_grown (W := w1) (HWR.out.trans (by repeat (first | exact Exts.refl _ | apply Exts.andR | apply Exts.alloc | apply Exts.wext | apply Exts.drew | apply Exts.drewN))) hgrow (fun b hb => by cases hb; exact HGB.out), by rw [hlen, List.map_append, show intsC (List.map Int.ofNat C ++ List.map Int.ofNat [v]) = intsC (List.map Int.ofNat C) ++ [.int .i64 (v : Int)] by simp [intsC]]; exact hown'⟩
                  · have q3 : ((r : Int) == (best : Int) - ((q : Int) + 1)) = false := by simp; omega
                    have HE := Lib.hid (show ¬ d v = best - (q + 1) from fun hc => he (HWD.out.2 hc))
                    clear he
                    go_wp2_with (first | (go_at_call 43; ((with_reducible refine (has43_D _ _ _ _ ps _ _ _ _ (RowF.exts HPw.out (by repeat (first | exact Exts.refl _ | apply Exts.andR | apply Exts.alloc | apply Exts.wext | apply Exts.drew | apply Exts.drewN))) HR.out).mono ?_); rintro e w' ⟨rfl, x1, rfl⟩)) | (go_at_call 42; ((with_reducible refine (way42_D _ _ _ _ ps _ _ _ r _ (RowF.exts HPw.out (by repeat (first | exact Exts.refl _ | apply Exts.andR | apply Exts.alloc | apply Exts.wext | apply Exts.drew | apply Exts.drewN))) hm12 HIN.out hvm (by omega) HRW.out).mono ?_); rintro e w' ⟨rfl, x2, rfl⟩)))
                    go_roundg (12 - (v + 1))
                    case measure => omega
                    case rel =>
                      refine ⟨v + 1, by omega, ?_, by go_num, rfl, (by repeat (first | exact Exts.refl _ | apply Exts.andR | apply Exts.alloc | apply Exts.wext | apply Exts.drew | apply Exts.drewN)), Nat.le_refl _, fun z h1 h2 => ?_⟩
                      · by_cases hvc : v = c'
                        · exact absurd (hvc ▸ HC4.out) HE.out
                        · omega
                      · by_cases hz : z = v
                        · rw [hz]
                          rintro ⟨h3, h4⟩
                          exact HE.out h4
                        · exact HI.out z h1 (by omega)
            · have hqb : q + 1 = best := by omega
              go_wp2
              go_ret
              exact ⟨C, some ⟨g, 0, none⟩, cap, by rw [HQ.out]; rfl, .inr ⟨best, at', d, last, HM.out, HD.out, by rw [HQ.out]; exact hqb, HCP.out⟩, HX.out.trans HWR.out, (RowF.of_owns HO.out).mono fun b hb => by omega⟩
end Go.Proofs.Ytbafcfbchbjgfaa
