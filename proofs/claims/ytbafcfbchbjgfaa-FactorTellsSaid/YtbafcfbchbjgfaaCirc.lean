/- circle of package factor. -/
import Derived.Test.YtbafcfbchbjgfaaCircPlain
import Derived.Test.YtbafcfbchbjgfaaHome
import Derived.Test.YtbafcfbchbjgfaaBlocks
import Derived.Deep.LoopGhost
namespace Go.Proofs.Ytbafcfbchbjgfaa
open Go.RowKit
set_option linter.unusedSimpArgs false
set_option linter.unusedVariables false

set_option maxRecDepth 100000
set_option maxHeartbeats 2000000
theorem circle33 (f : Rel) (w : World) : Calls Try.prog 33 #[.agg (matC f)] w fun e w' => ∃ (C : List Nat) (ro : Option Addr) (rc : Nat), e = .returned (.slice ro C.length rc) ∧ IsCirc f C ∧ Exts w w' ∧ Ints (fun b => w.heap.size ≤ b) w' ro C.length rc (C.map Int.ofNat) := by
  obtain ⟨i0, hi, hz0, hz1, hz2⟩ := info_parts info3
  go_enter Try.func33, Try.ntmps33
  go_wp2
  go_loopw [3, 4, 11] (fun b a i wr => ∃ (s best at' : Nat), s ≤ 12 ∧ i = .int .i64 s ∧ b = .int .i64 best ∧ a = .int .i64 at' ∧ Best f s s best at' ∧ Exts (w.alloc (.cells (matC f) 52)) wr) (fun _ _ i _ => 12 - (intOf i).toNat)
  case atStart => exact ⟨0, 13, 0, by omega, rfl, rfl, rfl, Best.start f, Exts.refl _⟩
  case round =>
    obtain ⟨s, best, at', hs, rfl, rfl, rfl, hb, x, rfl⟩ := hrel
    have HB := Lib.hid hb
    clear hb
    by_cases hlt : s < 12
    · go_wp2_with (first | (go_at_call 41; ((with_reducible refine (home41 f s hlt _).mono ?_); rintro e w' ⟨d, rfl, hd, x1, rfl⟩; (have HD := Lib.hid hd); clear hd)))
      go_loopw [3, 4, 7] (fun b a i wr => ∃ (v best at' : Nat), s ≤ v ∧ v ≤ 12 ∧ i = .int .i64 v ∧ b = .int .i64 best ∧ a = .int .i64 at' ∧ Best f s v best at' ∧ Exts ((wext (w.alloc (.cells (matC f) 52)) (x.and x1)).alloc (.cells (arrC d) 60)) wr) (fun _ _ i _ => 12 - (intOf i).toNat)
      case atStart => exact ⟨s, best, at', by omega, by omega, rfl, rfl, rfl, HB.out, Exts.refl _⟩
      case round =>
        clear HB
        obtain ⟨v, best, at', hsv, hv, rfl, rfl, rfl, hb, y, rfl⟩ := hrel
        have hb13 := hb.le
        have HB := Lib.hid hb
        clear hb
        by_cases hvlt : v < 12
        · have hdv := HD.out.le v hvlt
          cases hf : f s v with
          | false =>
            have HN := Lib.hid (HB.out.no HD.out hsv hvlt (.inl hf))
            go_wp2
            refine ⟨⟨v + 1, best, at', by omega, by omega, by go_num, rfl, rfl, HN.out, (by repeat (first | exact Exts.refl _ | apply Exts.andR | apply Exts.alloc | apply Exts.wext | apply Exts.drew | apply Exts.drewN))⟩, ?_⟩
            simp [intOf]; omega
          | true =>
            by_cases hm : d v + 1 < best
            · have hm' : decide ((d v : Int) + 1 < (best : Int)) = true := by simp; omega
              have HN := Lib.hid (HB.out.yes HD.out hsv hvlt hf hm)
              clear hm
              go_wp2
              refine ⟨⟨v + 1, d v + 1, s, by omega, by omega, by go_num, by go_num, rfl, HN.out, (by repeat (first | exact Exts.refl _ | apply Exts.andR | apply Exts.alloc | apply Exts.wext | apply Exts.drew | apply Exts.drewN))⟩, ?_⟩
              simp [intOf]; omega
            · have hm' : decide ((d v : Int) + 1 < (best : Int)) = false := by simp; omega
              have HN := Lib.hid (HB.out.no HD.out hsv hvlt (.inr hm))
              clear hm
              go_wp2
              refine ⟨⟨v + 1, best, at', by omega, by omega, by go_num, rfl, rfl, HN.out, (by repeat (first | exact Exts.refl _ | apply Exts.andR | apply Exts.alloc | apply Exts.wext | apply Exts.drew | apply Exts.drewN))⟩, ?_⟩
              simp [intOf]; omega
        · obtain rfl : v = 12 := by omega
          have HN := Lib.hid HB.out.row
          go_wp2
          refine ⟨⟨s + 1, best, at', by omega, by go_num, rfl, rfl, HN.out, (by repeat (first | exact Exts.refl _ | apply Exts.andR | apply Exts.alloc | apply Exts.wext | apply Exts.drew | apply Exts.drewN))⟩, ?_⟩
          simp [intOf]; omega
    · obtain rfl : s = 12 := by omega
      by_cases hb13 : best = 13
      · subst hb13
        have HR := Lib.hid HB.out.none
        go_wp2
        go_ret
        exact ⟨[], none, 0, rfl, .inl ⟨rfl, HR.out⟩, (by repeat (first | exact Exts.refl _ | apply Exts.andR | apply Exts.alloc | apply Exts.wext | apply Exts.drew | apply Exts.drewN)), RowF.nil _ _ _⟩
      · have hle := HB.out.le
        have hm := HB.out.min (by omega)
        have HM := Lib.hid hm
        have ha12 := hm.lt
        have hb12 := hm.le
        have q1 : ((best : Int) == 13) = false := by simp; omega
        have q2 : (best == 13) = false := by simpa using hb13
        clear hm
        go_wp2_with (first | (go_at_call 41; ((with_reducible refine (home41 f at' ha12 _).mono ?_); rintro e w' ⟨d, rfl, hd, x1, rfl⟩; (have HD := Lib.hid hd); clear hd)))
        go_loopg [9] best (fun k o wr => ∃ (C : List Nat) (last : Nat), CirPre f best at' d C last ∧ best - C.length ≤ k ∧ Exts w wr ∧ wr.ownsRow w.heap.size 3 1 o C.length (intsC (C.map Int.ofNat)) ∧ wr.heap[w.heap.size]? = some (.cells (matC f) 52 (0, 0)) ∧ wr.heap[w.heap.size + 1 + x.bs.size + x1.bs.size + 1]? = some (.cells (arrC d) 60 (0, 0)))
        case atStart =>
          refine ⟨[at'], at', CirPre.start HM.out, by simp, (by repeat (first | exact Exts.refl _ | apply Exts.andR | apply Exts.alloc | apply Exts.wext | apply Exts.drew | apply Exts.drewN)), ⟨by simp, .inr ⟨w.heap.size + 1 + x.bs.size + x1.bs.size, 1, #[.int .i64 at'], rfl, by omega, ?_, Nat.le_refl _, by decide, rfl, rfl⟩⟩, ?_, ?_⟩
          · rw [heap_alloc_if, if_pos (by simp), heap_alloc_if, if_neg (by simp), if_pos (by simp)]
          · rw [heap_alloc_if, if_pos (by simp; omega), heap_alloc_if, if_pos (by simp; omega), wext_heap_old _ _ _ (by simp), heap_alloc_if, if_neg (by omega), if_pos rfl]
          · rw [heap_alloc_if, if_neg (by simp), if_pos (by simp)]
        case round =>
          obtain ⟨C, last, hcp, hk, hwr, hown, hm0, hd0⟩ := hrel
          obtain ⟨q, hq⟩ : ∃ q, C.length = q + 1 := ⟨C.length - 1, by have := hcp.len; omega⟩
          obtain ⟨_, ⟨h1, _⟩ | ⟨g, cap, cur, rfl, hgb, hg, hcap, hmax, hcs, htk⟩⟩ := id hown
          · omega
          · have HCP := Lib.hid hcp
            have HO := Lib.hid hown
            have HWR := Lib.hid hwr
            have HQ := Lib.hid hq
            have hl12 := hcp.lt
            have hle := hcp.le
            have HK := Lib.hid hk
            have cl : wr.cell? ⟨g, q, none⟩ = some (.int .i64 last) := by
              have h2 := hcp.lst
              rw [hq, Nat.add_sub_cancel] at h2
              have h3 : (intsC (C.map Int.ofNat))[q]? = some (.int .i64 last) := by simp [intsC, h2]
              rw [← htk, List.getElem?_take_of_lt (by omega)] at h3
              rw [cell_of_row wr g q cur 3 (0, 0) hg]
              simpa using h3
            have lg : g < wr.heap.size := (Array.getElem?_eq_some_iff.1 hg).1
            have lm : w.heap.size < wr.heap.size := (Array.getElem?_eq_some_iff.1 hm0).1
            have ld : w.heap.size + 1 + x.bs.size + x1.bs.size + 1 < wr.heap.size := (Array.getElem?_eq_some_iff.1 hd0).1
            have HG := Lib.hid hg
            have HM0 := Lib.hid hm0
            have HGB := Lib.hid hgb
            have HD0 := Lib.hid hd0
            rw [hq] at hle ⊢
            clear hcp hown hwr hq hm0 hd0 hg hcs htk hk
            by_cases hlt : q + 1 < best
            · obtain ⟨c, hc1, hc2, hc3, hc4⟩ := HCP.out.ex HM.out HD.out (by rw [HQ.out]; exact hlt)
              rw [HQ.out] at hc4
              have HC3 := Lib.hid hc3
              have HC4 := Lib.hid hc4
              clear hc3 hc4
              go_wp2
              go_loopg [9, 10] 12 (fun k o i wr2 => ∃ v, at' ≤ v ∧ v ≤ c ∧ i = .int .i64 v ∧ o = .slice (some ⟨g, 0, none⟩) (q + 1) cap ∧ wr2 = wr ∧ 12 - v ≤ k ∧ ∀ z, at' ≤ z → z < v → ¬ (f last z = true ∧ d z = best - (q + 1)))
              case atStart => exact ⟨at', Nat.le_refl _, hc1, rfl, rfl, rfl, by omega, fun z h1 h2 => by omega⟩
              case round =>
                rename_i gk0 _ _ _ _ gk1 _ _ _ _ _ _
                obtain ⟨v, hv1, hv2, rfl, rfl, rfl, hvk, hin⟩ := hrel
                have HI := Lib.hid hin
                clear hin
                have hv12 : v < 12 := by omega
                have c1 : wr.cell? ⟨w.heap.size, last * 12 + v, none⟩ = some (.bool (f last v)) := by rw [cell_of_row _ _ _ _ _ _ HM0.out]; exact matC_get f last v hl12 hv12
                have c2 : wr.cell? ⟨w.heap.size + 1 + x.bs.size + x1.bs.size + 1, v, none⟩ = some (.int .i64 (d v)) := by rw [cell_of_row _ _ _ _ _ _ HD0.out]; exact arrC_get d v hv12
                cases hf : f last v with
                | false =>
                  have HF := Lib.hid hf
                  rw [hf] at c1
                  clear hf
                  go_wp2
                  go_roundg (12 - (v + 1))
                  case measure => omega
                  case rel =>
                    refine ⟨v + 1, by omega, ?_, by go_num, rfl, rfl, Nat.le_refl _, fun z h1 h2 => ?_⟩
                    · by_cases hvc : v = c
                      · rw [hvc, HC3.out] at HF
                        exact absurd HF.out (by simp)
                      · omega
                    · by_cases hz : z = v
                      · rw [hz]
                        rintro ⟨h3, h4⟩
                        rw [HF.out] at h3; cases h3
                      · exact HI.out z h1 (by omega)
                | true =>
                  have HF := Lib.hid hf
                  rw [hf] at c1
                  clear hf
                  by_cases he : d v = best - (q + 1)
                  · have q3 : ((d v : Int) == (best : Int) - ((q : Int) + 1)) = true := by simp; omega
                    have HN := Lib.hid (HCP.out.snoc HM.out HD.out (by rw [HQ.out]; exact hlt) ⟨hv1, hv12, HF.out, by rw [HQ.out]; exact he, by rw [HQ.out]; exact HI.out⟩)
                    clear he
                    go_wp2_with (at_builtin; refine wpList_append_lies _ rfl (.tmp 75) (.tmp 77) 26 rfl w.heap.size 3 i0 _ 1 8 Try.underlying26 hi hz0 hz1 hz2 rfl (by decide) (.slice (some ⟨g, 0, none⟩) (q + 1) cap) (q + 1) (intsC (C.map Int.ofNat)) rfl (ownsRow_exts (HQ.out ▸ HO.out) (by repeat (first | exact Exts.refl _ | apply Exts.andR | apply Exts.alloc | apply Exts.wext | apply Exts.drew | apply Exts.drewN))) ⟨_, 0, none⟩ 1 1 [.int .i64 v] rfl rfl (by intro j u hj; match j, hj with | 0, hj => (simp at hj; subst hj; simp [go_sem])) (int_one _) (by decide) (by unfold maxLen; omega) (by omega) (by simp; omega) _ rfl ?_; intro g2 cg w1 hown' hgrow hat hlt')
                    go_roundg (best - (q + 2))
                    case measure =>
                      have h1 := HK.out
                      rw [HQ.out] at h1
                      omega
                    case rel =>
                      have hlen : (C ++ [v]).length = q + 1 + 1 := by rw [List.length_append, HQ.out]; rfl
                      have hgm : g ≠ w.heap.size := fun hc => by
                        have h1 := HG.out
                        rw [hc, HM0.out] at h1
                        simp at h1
                      have hgd : g ≠ w.heap.size + 1 + x.bs.size + x1.bs.size + 1 := fun hc => by
                        have h1 := HG.out
                        rw [hc, HD0.out] at h1
                        simp at h1
                      refine ⟨C ++ [v], v, HN.out, by rw [hlen]; omega, exts_of_grown (W := w) (HWR.out.alloc _) hgrow (fun b hb => by cases hb; exact HGB.out), by rw [hlen, List.map_append, show intsC (List.map Int.ofNat C ++ List.map Int.ofNat [v]) = intsC (List.map Int.ofNat C) ++ [.int .i64 (v : Int)] by simp [intsC]]; exact hown', ?_, ?_⟩
                      · rw [hgrow.block _ (by simp; omega) (fun hc => by cases hc; exact hgm rfl), heap_alloc_if, if_pos lm]
                        exact HM0.out
                      · rw [hgrow.block _ (by simp; omega) (fun hc => by cases hc; exact hgd rfl), heap_alloc_if, if_pos ld]
                        exact HD0.out
                  · have q3 : ((d v : Int) == (best : Int) - ((q : Int) + 1)) = false := by simp; omega
                    have HE := Lib.hid he
                    clear he
                    go_wp2
                    go_roundg (12 - (v + 1))
                    case measure => omega
                    case rel =>
                      refine ⟨v + 1, by omega, ?_, by go_num, rfl, rfl, Nat.le_refl _, fun z h1 h2 => ?_⟩
                      · by_cases hvc : v = c
                        · rw [hvc, HC4.out] at HE
                          exact absurd rfl HE.out
                        · omega
                      · by_cases hz : z = v
                        · rw [hz]
                          rintro ⟨h3, h4⟩
                          exact HE.out h4
                        · exact HI.out z h1 (by omega)
            · have hqb : q + 1 = best := by omega
              go_wp2
              go_ret
              exact ⟨C, some ⟨g, 0, none⟩, cap, by rw [HQ.out]; rfl, .inr ⟨best, at', d, last, HM.out, HD.out, by rw [HQ.out]; exact hqb, HCP.out⟩, HWR.out, RowF.of_owns HO.out⟩
end Go.Proofs.Ytbafcfbchbjgfaa
