/- PrecedentDistinguish returns true. No condition. -/
import Derived.Test.YtodgohilfbggjaaM19
import Derived.Test.YtodgohilfbggjaaM21
namespace Go.Proofs.Ytodgohilfbggjaa
open Go.RowKit
set_option linter.unusedSimpArgs false
set_option linter.unusedVariables false
theorem distK_prefix (D : List Dm) (B : List Cs) (al : List Int) (s : Bool) {k n : Nat} (h : k ≤ n) : distK D B al s k <+: distK D B al s n := by
  unfold distK
  refine List.IsPrefix.map _ (List.IsPrefix.filter _ ?_)
  exact List.take_prefix_take_left h
theorem distK_at {D : List Dm} {B : List Cs} {al : List Int} {s : Bool} {k n : Nat} {ks : List Int} (h : k < n) (hs : distK D B al s (k + 1) = distK D B al s k ++ [ks]) : (distK D B al s n)[(distK D B al s k).length]? = some ks := by
  have h2 := distK_prefix D B al s (show k + 1 ≤ n from h)
  rw [hs] at h2
  obtain ⟨t, ht⟩ := h2
  rw [← ht, List.append_assoc, List.getElem?_append_right (Nat.le_refl _), Nat.sub_self]
  rfl
theorem blkK_prefix (D : List Dm) (a b : List Int) {k n : Nat} (h : k ≤ n) : blkK D a b k <+: blkK D a b n := by
  unfold blkK
  refine List.IsPrefix.map _ ?_
  obtain ⟨d, rfl⟩ := Nat.exists_eq_add_of_le h
  rw [List.range_add, List.filter_append]
  exact List.prefix_append _ _
theorem blkK_at {D : List Dm} {a b : List Int} {k n : Nat} (h : k < n) (hs : atI D a b k = false) : (blkK D a b n)[(blkK D a b k).length]? = some (k : Int) := by
  have h2 := blkK_prefix D a b (show k + 1 ≤ n from h)
  rw [blkK_next, if_pos hs] at h2
  obtain ⟨t, ht⟩ := h2
  rw [← ht, List.append_assoc, List.getElem?_append_right (Nat.le_refl _), Nat.sub_self]
  rfl
theorem byK_any {D : List Dm} {B : List Cs} {l : List Int} {i n : Nat} (h : i < n) : ((byK D B l n).any fun v => v == (i : Int)) = forI D B l i := by
  rw [Bool.eq_iff_iff]
  unfold byK
  simp only [List.any_eq_true, List.mem_map, List.mem_filter, List.mem_range, beq_iff_eq]
  constructor
  · rintro ⟨v, ⟨j, ⟨hj, hf⟩, rfl⟩, he⟩
    have : j = i := by have h2 : (j : Int) = (i : Int) := he; omega
    rw [← this]; exact hf
  · intro hf
    exact ⟨(i : Int), ⟨i, ⟨h, hf⟩, rfl⟩, rfl⟩
/-- The two vectors that are compared for a precedent. -/
def firstV (g : Bool) (vs al : List Int) : List Int := if g = true then vs else al
def secondV (g : Bool) (vs al : List Int) : List Int := if g = true then al else vs
theorem keeps_two (D : List Dm) (id : Int) (vs al : List Int) (g : Bool) : keepsD D ⟨id, vs, g⟩ al = blkK D (firstV g vs al) (secondV g vs al) D.length := by
  cases g <;> rfl
set_option maxRecDepth 100000
set_option maxHeartbeats 16000000
theorem distinguish7 {S S1 S2 : Nat → Prop} (lo bo ao : Option Addr) (n1 c1 n c na ca : Nat) (D : List Dm) (B : List Cs) (al : List Int) (s : Bool) (w : World) (hd : Dims S w lo n1 c1 D) (hb : Cases S1 w bo n c B) (ha : Ints S2 w ao na ca al) :
    Calls Try.prog 7 #[.slice lo n1 c1, .slice bo n c, .slice ao na ca, .bool s] w fun e w' => e = .returned (.bool true) ∧ Exts w w' := by
  have HL := Lib.hid hb.1
  have HLD := Lib.hid hd.1
  have HLA := Lib.hid (ints_len ha)
  have HD := Lib.hid hd
  have HB := Lib.hid hb
  have HA := Lib.hid ha
  clear hd hb ha
  cases hfew : fewBD D B with
  | false =>
    have HFEW := Lib.hid hfew
    clear hfew
    go_enter Try.func7, Try.ntmps7
    go_wp2_with (first | (go_at_call 9; ((with_reducible refine (small9 _).mono ?_); rintro e w' ⟨rfl, x0, rfl⟩)) | (go_at_call 10; ((with_reducible refine (refFew10 _ _ _ _ _ _ D B _ _ (HD.out.exts (by repeat (first | exact Exts.refl _ | apply Exts.andR | apply Exts.alloc | apply Exts.wext | apply Exts.drew | apply Exts.drewN))) (HB.out.exts (by repeat (first | exact Exts.refl _ | apply Exts.andR | apply Exts.alloc | apply Exts.wext | apply Exts.drew | apply Exts.drewN))) HFEW.out).mono ?_); rintro e w' ⟨rfl, x1, rfl⟩)))
    go_ret
    exact ⟨rfl, (by repeat (first | exact Exts.refl _ | apply Exts.andR | apply Exts.alloc | apply Exts.wext | apply Exts.drew | apply Exts.drewN))⟩
  | true =>
    have HFEW := Lib.hid hfew
    have hn16 : n ≤ 16 := by have := (few_le hfew).2.1; rw [HL.out] at this; exact this
    have hn : n ≤ 2000 := by omega
    clear hfew
    by_cases h8 : 8 < na
    · have q1 : decide ((8 : Int) < (na : Int)) = true := by simp; omega
      clear h8
      go_enter Try.func7, Try.ntmps7
      go_wp2_with (first | (go_at_call 9; ((with_reducible refine (small9 _).mono ?_); rintro e w' ⟨rfl, x0, rfl⟩)) | (go_at_call 10; ((with_reducible refine (refFew10 _ _ _ _ _ _ D B _ _ (HD.out.exts (by repeat (first | exact Exts.refl _ | apply Exts.andR | apply Exts.alloc | apply Exts.wext | apply Exts.drew | apply Exts.drewN))) (HB.out.exts (by repeat (first | exact Exts.refl _ | apply Exts.andR | apply Exts.alloc | apply Exts.wext | apply Exts.drew | apply Exts.drewN))) HFEW.out).mono ?_); rintro e w' ⟨rfl, x1, rfl⟩)))
      go_ret
      exact ⟨rfl, (by repeat (first | exact Exts.refl _ | apply Exts.andR | apply Exts.alloc | apply Exts.wext | apply Exts.drew | apply Exts.drewN))⟩
    · have q1 : decide ((8 : Int) < (na : Int)) = false := by simp; omega
      cases hok : (checkD D B && inD D al) with
      | false =>
        have HR1 := Lib.hid (show forD D B al = (0, [], 1) by unfold forD; rw [hok]; rfl)
        have HM1 := Lib.hid (show ([] : List Int).length = 0 from rfl)
        have HR4 := Lib.hid (show distD D B al s = ([], 1) by unfold distD; rw [hok]; rfl)
        have HM4 := Lib.hid (show ([] : List (List Int)).length = 0 from rfl)
        clear hok h8
        go_enter Try.func7, Try.ntmps7
        go_wp2_with (first | (go_at_call 9; ((with_reducible refine (small9 _).mono ?_); rintro e w' ⟨rfl, x0, rfl⟩)) | (go_at_call 10; ((with_reducible refine (refFew10 _ _ _ _ _ _ D B _ _ (HD.out.exts (by repeat (first | exact Exts.refl _ | apply Exts.andR | apply Exts.alloc | apply Exts.wext | apply Exts.drew | apply Exts.drewN))) (HB.out.exts (by repeat (first | exact Exts.refl _ | apply Exts.andR | apply Exts.alloc | apply Exts.wext | apply Exts.drew | apply Exts.drewN))) HFEW.out).mono ?_); rintro e w' ⟨rfl, x1, rfl⟩)) | (go_at_call 17; ((with_reducible refine (dist17_R _ _ _ _ _ _ _ _ _ D B al _ _ _ _ _ (HD.out.exts (by repeat (first | exact Exts.refl _ | apply Exts.andR | apply Exts.alloc | apply Exts.wext | apply Exts.drew | apply Exts.drewN))) (HB.out.exts (by repeat (first | exact Exts.refl _ | apply Exts.andR | apply Exts.alloc | apply Exts.wext | apply Exts.drew | apply Exts.drewN))) (RowF.exts HA.out (by repeat (first | exact Exts.refl _ | apply Exts.andR | apply Exts.alloc | apply Exts.wext | apply Exts.drew | apply Exts.drewN))) hn HR4.out HM4.out).mono ?_); rintro e w' ⟨fo5, fc5, rfl, ⟨x8, rfl⟩, hf⟩; (try simp only [wext_and] at hf); (have HF5 := Lib.hid hf); clear hf)) | (go_at_call 11; ((with_reducible refine (forced11_R _ _ _ _ _ _ _ _ _ D B al _ _ _ _ _ (HD.out.exts (by repeat (first | exact Exts.refl _ | apply Exts.andR | apply Exts.alloc | apply Exts.wext | apply Exts.drew | apply Exts.drewN))) (HB.out.exts (by repeat (first | exact Exts.refl _ | apply Exts.andR | apply Exts.alloc | apply Exts.wext | apply Exts.drew | apply Exts.drewN))) (RowF.exts HA.out (by repeat (first | exact Exts.refl _ | apply Exts.andR | apply Exts.alloc | apply Exts.wext | apply Exts.drew | apply Exts.drewN))) hn HR1.out HM1.out).mono ?_); rintro e w' ⟨fo1, fc1, rfl, ⟨x2, rfl⟩, hf⟩; (try simp only [wext_and] at hf); (have HF1 := Lib.hid hf); clear hf)))
        go_ret
        exact ⟨rfl, (by repeat (first | exact Exts.refl _ | apply Exts.andR | apply Exts.alloc | apply Exts.wext | apply Exts.drew | apply Exts.drewN))⟩
      | true =>
        have hok2 := hok
        rw [Bool.and_eq_true] at hok
        obtain ⟨hck, hin⟩ := hok
        obtain ⟨wh, hwh⟩ : ∃ x, whatD D B al = x := ⟨_, rfl⟩
        obtain ⟨by1, hby⟩ : ∃ x, byK D B al n = x := ⟨_, rfl⟩
        obtain ⟨m1, hm1⟩ : ∃ x, by1.length = x := ⟨_, rfl⟩
        obtain ⟨LL, hLL⟩ : ∃ x, distK D B al s n = x := ⟨_, rfl⟩
        obtain ⟨m4, hm4⟩ : ∃ x, LL.length = x := ⟨_, rfl⟩
        have HR1 := Lib.hid (show forD D B al = (wh, by1, 0) by rw [forD_ok hck hin, hwh, HL.out, hby])
        have HR4 := Lib.hid (show distD D B al s = (LL, 0) by unfold distD; rw [hok2, HL.out, hLL]; rfl)
        have HM1 := Lib.hid hm1
        have HM4 := Lib.hid hm4
        have HLL := Lib.hid hLL
        have HBY := Lib.hid hby
        have hm1n : m1 ≤ n := by rw [← hm1, ← hby]; exact byK_len _ _ _ _
        have hm4n : m4 ≤ n := by rw [← hm4, ← hLL]; exact distK_len _ _ _ _ _
        have HV := Lib.hid (check_vecs hck)
        have HIN := Lib.hid hin
        have hna : na = n1 := by rw [← HLA.out, ← HLD.out]; exact (inD_iff.1 hin).1
        subst hna
        have hna8 : na ≤ 8 := by omega
        clear hok2 hck hin hwh hby hm1 hLL hm4 h8
        go_enter Try.func7, Try.ntmps7
        go_wp2_with (first | (go_at_call 9; ((with_reducible refine (small9 _).mono ?_); rintro e w' ⟨rfl, x0, rfl⟩)) | (go_at_call 10; ((with_reducible refine (refFew10 _ _ _ _ _ _ D B _ _ (HD.out.exts (by repeat (first | exact Exts.refl _ | apply Exts.andR | apply Exts.alloc | apply Exts.wext | apply Exts.drew | apply Exts.drewN))) (HB.out.exts (by repeat (first | exact Exts.refl _ | apply Exts.andR | apply Exts.alloc | apply Exts.wext | apply Exts.drew | apply Exts.drewN))) HFEW.out).mono ?_); rintro e w' ⟨rfl, x1, rfl⟩)) | (go_at_call 17; ((with_reducible refine (dist17_R _ _ _ _ _ _ _ _ _ D B al _ _ _ _ _ (HD.out.exts (by repeat (first | exact Exts.refl _ | apply Exts.andR | apply Exts.alloc | apply Exts.wext | apply Exts.drew | apply Exts.drewN))) (HB.out.exts (by repeat (first | exact Exts.refl _ | apply Exts.andR | apply Exts.alloc | apply Exts.wext | apply Exts.drew | apply Exts.drewN))) (RowF.exts HA.out (by repeat (first | exact Exts.refl _ | apply Exts.andR | apply Exts.alloc | apply Exts.wext | apply Exts.drew | apply Exts.drewN))) hn HR4.out HM4.out).mono ?_); rintro e w' ⟨fo5, fc5, rfl, ⟨x8, rfl⟩, hf⟩; (try simp only [wext_and] at hf); (have HF5 := Lib.hid hf); clear hf)) | (go_at_call 11; ((with_reducible refine (forced11_R _ _ _ _ _ _ _ _ _ D B al _ _ _ _ _ (HD.out.exts (by repeat (first | exact Exts.refl _ | apply Exts.andR | apply Exts.alloc | apply Exts.wext | apply Exts.drew | apply Exts.drewN))) (HB.out.exts (by repeat (first | exact Exts.refl _ | apply Exts.andR | apply Exts.alloc | apply Exts.wext | apply Exts.drew | apply Exts.drewN))) (RowF.exts HA.out (by repeat (first | exact Exts.refl _ | apply Exts.andR | apply Exts.alloc | apply Exts.wext | apply Exts.drew | apply Exts.drewN))) hn HR1.out HM1.out).mono ?_); rintro e w' ⟨fo1, fc1, rfl, ⟨x2, rfl⟩, hf⟩; (try simp only [wext_and] at hf); (have HF1 := Lib.hid hf); clear hf)))
        refine wp_name ?_
        intro W hW
        have hX : Exts w W := by rw [hW]; exact (by repeat (first | exact Exts.refl _ | apply Exts.andR | apply Exts.alloc | apply Exts.wext | apply Exts.drew | apply Exts.drewN))
        have HX := Lib.hid hX
        have HDW := Lib.hid (HD.out.exts hX)
        have HBW := Lib.hid (HB.out.exts hX)
        have HAW := Lib.hid (RowF.exts HA.out hX)
        have HFW := Lib.hid (show Ints (fun _ => True) W fo1 m1 fc1 by1 by rw [hW]; exact RowF.exts (RowF.mono HF1.out fun _ _ => trivial) (by repeat (first | exact Exts.refl _ | apply Exts.andR | apply Exts.alloc | apply Exts.wext | apply Exts.drew | apply Exts.drewN)))
        have HLW := Lib.hid (show Lists W fo5 m4 fc5 LL by rw [hW]; exact HF5.out.exts (by repeat (first | exact Exts.refl _ | apply Exts.andR | apply Exts.alloc | apply Exts.wext | apply Exts.drew | apply Exts.drewN)))
        clear hW hX HF1 HF5 HB HD HA
        go_loopw [15, 16] (fun o j wr => ∃ (k m : Nat), k ≤ n ∧ j = .int .i64 k ∧ o = .int .i64 m ∧ (distK D B al s k).length = m ∧ Exts W wr) (fun _ j _ => n - (intOf j).toNat)
        case atStart => exact ⟨0, 0, by omega, rfl, rfl, rfl, Exts.refl _⟩
        case round =>
          obtain ⟨k, m, hk, rfl, rfl, hmk, hx⟩ := hrel
          have HX2 := Lib.hid hx
          have HMK := Lib.hid hmk
          have hmle := distK_len D B al s k
          rw [hmk] at hmle
          by_cases hlt : k < n
          · obtain ⟨b, off, id, vs, gr, vo, vc, rfl, lb, hc, e0, e1, e2, hvs, hid⟩ := (HBW.out.exts hx).get hlt
            have HVS := Lib.hid hvs
            have hiv := HV.out _ (List.mem_of_getElem? hc)
            have HN := Lib.hid (distK_next (D := D) (al := al) (s := s) hc)
            by_cases hg : gr = s
            · have q2 : (gr == s) = true := by simpa using hg
              have HE := Lib.hid (show distK D B al s (k + 1) = distK D B al s k by rw [HN.out]; simp [hg])
              clear hg hc hvs hid hmk hiv
              go_wp2
              refine ⟨⟨k + 1, m, by omega, by go_num, rfl, by rw [HE.out]; exact HMK.out, HX2.out.trans (by repeat (first | exact Exts.refl _ | apply Exts.andR | apply Exts.alloc | apply Exts.wext | apply Exts.drew | apply Exts.drewN))⟩, ?_⟩
              simp [intOf]; omega
            · have q2 : (gr == s) = false := by simpa using hg
              have q3 : (gr != s) = true := by simpa using hg
              obtain ⟨ks, hks⟩ : ∃ x, keepsD D ⟨id, vs, gr⟩ al = x := ⟨_, rfl⟩
              have hs : distK D B al s (k + 1) = distK D B al s k ++ [ks] := by rw [HN.out, if_pos q3, hks]
              have HE := Lib.hid hs
              have hat := distK_at hlt hs
              rw [HMK.out, HLL.out] at hat
              have hmm : m < m4 := by rw [← HM4.out]; exact (List.getElem?_eq_some_iff.1 hat).1
              have hvl : vs.length = na := by rw [← HLD.out]; exact (inD_iff.1 hiv).1
              obtain ⟨p, hp⟩ : ∃ x, firstV gr vs al = x := ⟨_, rfl⟩
              obtain ⟨q, hq⟩ : ∃ x, secondV gr vs al = x := ⟨_, rfl⟩
              have HP := Lib.hid hp
              have HQ := Lib.hid hq
              have HKS := Lib.hid (show blkK D p q na = ks by rw [← hks, keeps_two, hp, hq, HLD.out])
              have HFI := Lib.hid (show forI D B al k = ks.isEmpty by rw [forI_of hc, forcesD, hks])
              obtain ⟨lb5, lo5, l5, vo5, vc5, rfl, ll5, g5, c5, i5⟩ := (HLW.out.exts hx).get hmm
              rw [hat] at g5
              have g5 := Option.some.inj g5
              subst g5
              have HI5 := Lib.hid i5
              have q4 : decide ((m4 : Int) ≤ (m : Int)) = false := by simp; omega
              have q5 : (m : Int) < (m4 : Int) := by omega
              have q6 : ((vs.length : Int) != (na : Int)) = false := by simp [hvl]
              have HC := Lib.hid hc
              clear hg hc hvs hid hmk hiv hks hs hat hp hq i5 q3
              go_wp2
              refine wp_name ?_
              intro V hV
              have hX3 : Exts wr V := by rw [hV]; exact (by repeat (first | exact Exts.refl _ | apply Exts.andR | apply Exts.alloc | apply Exts.wext | apply Exts.drew | apply Exts.drewN))
              have HX3 := Lib.hid hX3
              have HFV := Lib.hid (RowF.exts HFW.out (HX2.out.trans hX3))
              have HDV := Lib.hid (HDW.out.exts (HX2.out.trans hX3))
              have HAV := Lib.hid (RowF.exts HAW.out (HX2.out.trans hX3))
              have HVV := Lib.hid (RowF.exts HVS.out hX3)
              have HIV := Lib.hid (RowF.exts HI5.out hX3)
              have lbV : b < V.heap.size := by have := hX3.below.size; omega
              have e1V := Exts.cell hX3 e1
              have e2V := Exts.cell hX3 e2
              have llV : lb5 < V.heap.size := by have := hX3.below.size; omega
              have c5V := Exts.cell hX3 c5
              clear hV hX3 HVS HI5 lb ll5 e0 e1 e2 c5 hx
              go_loopw [17, 18] (fun o j wr' => ∃ (i : Nat), i ≤ m1 ∧ j = .int .i64 i ∧ o = .bool ((by1.take i).any fun v => v == (k : Int)) ∧ Exts V wr') (fun _ j _ => m1 - (intOf j).toNat)
              case atStart => exact ⟨0, by omega, rfl, rfl, Exts.refl _⟩
              case round =>
                obtain ⟨i, hi, rfl, rfl, hx⟩ := hrel
                have HX4 := Lib.hid hx
                by_cases hlt2 : i < m1
                · obtain ⟨b1, o1, v1, rfl, l1, g1, c1'⟩ := ints_get (RowF.exts HFV.out hx) hlt2
                  obtain ⟨r, hr⟩ : ∃ r, (v1 == (k : Int)) = r := ⟨_, rfl⟩
                  obtain ⟨kn, hkn⟩ : ∃ r, ((by1.take i).any fun v => v == (k : Int)) = r := ⟨_, rfl⟩
                  have HKN := Lib.hid (show ((by1.take (i + 1)).any fun v => v == (k : Int)) = (kn || r) by rw [List.take_add_one, g1, List.any_append, hkn]; simp [hr])
                  rw [hkn]
                  clear hx g1 hkn
                  cases kn with
                  | true =>
                    go_wp2
                    refine ⟨⟨i + 1, by omega, by go_num, by rw [HKN.out]; rfl, HX4.out.trans (by repeat (first | exact Exts.refl _ | apply Exts.andR | apply Exts.alloc | apply Exts.wext | apply Exts.drew | apply Exts.drewN))⟩, ?_⟩
                    simp [intOf]; omega
                  | false =>
                    go_wp2
                    refine ⟨⟨i + 1, by omega, by go_num, by rw [HKN.out]; rfl, HX4.out.trans (by repeat (first | exact Exts.refl _ | apply Exts.andR | apply Exts.alloc | apply Exts.wext | apply Exts.drew | apply Exts.drewN))⟩, ?_⟩
                    simp [intOf]; omega
                · obtain rfl : i = m1 := by omega
                  have hta : ((by1.take i).any fun v => v == (k : Int)) = ks.isEmpty := by
                    rw [List.take_of_length_le (Nat.le_of_eq HM1.out), ← HBY.out, byK_any hlt, HFI.out]
                  rw [hta]
                  obtain ⟨em, hem⟩ : ∃ r, ks.isEmpty = r := ⟨_, rfl⟩
                  have HEM := Lib.hid hem
                  rw [hem]
                  obtain ⟨lk, hlk⟩ : ∃ r, ks.length = r := ⟨_, rfl⟩
                  have HLK := Lib.hid hlk
                  have HKM := Lib.hid (show (blkK D p q na).length = lk by rw [HKS.out, hlk])
                  rw [hlk] at c5V
                  have HIL := Lib.hid (show Ints (fun _ => True) V vo5 lk vc5 ks by rw [← hlk]; exact HIV.out)
                  have hlk12 : lk ≤ na := by rw [← HKM.out]; exact blkK_len _ _ _ _
                  obtain ⟨x0, hx0⟩ := HX4.out
                  subst hx0
                  clear hx hta hem hlk
                  go_wp2
                  go_loopw [19, 20] (fun o j wr' => ∃ (i : Nat), i ≤ na ∧ j = .int .i64 i ∧ o = .int .i64 (blkK D p q i).length ∧ Exts V wr') (fun _ j _ => na - (intOf j).toNat)
                  case atStart => exact ⟨0, by omega, rfl, rfl, (by repeat (first | exact Exts.refl _ | apply Exts.andR | apply Exts.alloc | apply Exts.wext | apply Exts.drew | apply Exts.drewN))⟩
                  case round =>
                    obtain ⟨i, hi, rfl, rfl, ⟨x, rfl⟩⟩ := hrel
                    obtain ⟨at', hat⟩ : ∃ r, (blkK D p q i).length = r := ⟨_, rfl⟩
                    have HAT := Lib.hid hat
                    have hai := blkK_len D p q i
                    rw [hat] at hai ⊢
                    clear hat
                    by_cases hlt3 : i < na
                    · obtain ⟨b6, o6, DV, ps, po, pc, rfl, hb6, hd6, f0, f1, hps⟩ := HDV.out.get hlt3
                      obtain ⟨b7, o7, xa, rfl, hb7, hxa, f7⟩ := ints_get HAV.out hlt3
                      obtain ⟨b8, o8, xv, rfl, hb8, hxv, f8⟩ := ints_get HVV.out (show i < vs.length by omega)
                      obtain ⟨r0, hr0⟩ : ∃ r, atD DV ps xa xv = r := ⟨_, rfl⟩
                      obtain ⟨r1, hr1⟩ : ∃ r, atD DV ps xv xa = r := ⟨_, rfl⟩
                      have HPS := Lib.hid hps
                      have HR0 := Lib.hid hr0
                      have HR1 := Lib.hid hr1
                      have HNX := Lib.hid (blkK_next D p q i)
                      have i1 : (i : Int) < (vs.length : Int) := by omega
                      cases gr with
                      | true =>
                        have hati : atI D p q i = r1 := by rw [← HP.out, ← HQ.out, ← hr1]; exact atI_of hd6 hxv hxa
                        have HATI := Lib.hid hati
                        clear hd6 hxa hxv hr0 hr1 hps hati
                        cases r1 with
                        | true =>
                          go_wp2
                          first | refine wp_region_ext_lit2 (by kernel_rfl) (by kernel_rfl) ?_ | refine wp_region_ext_lit (by kernel_rfl) (by kernel_rfl) ?_
                          repeat (go_big_quiet_step (((first | (go_at_call 28; exact Calls.ext_of (atleast21_D _ _ _ _ ps _ _ _ _ (RowF.exts HPS.out (by repeat (first | exact Exts.refl _ | apply Exts.andR | apply Exts.alloc | apply Exts.wext | apply Exts.drew | apply Exts.drewN))) HR0.out))))))
                          refine wpQuiet_nil ?_
                          intro _ hwq'
                          obtain ⟨xq, hwq''⟩ := hwq'
                          subst hwq''
                          go_wp2
                          first | refine wp_region_ext_lit2 (by kernel_rfl) (by kernel_rfl) ?_ | refine wp_region_ext_lit (by kernel_rfl) (by kernel_rfl) ?_
                          repeat (go_big_quiet_step (((first | (go_at_call 28; exact Calls.ext_of (atleast21_D _ _ _ _ ps _ _ _ _ (RowF.exts HPS.out (by repeat (first | exact Exts.refl _ | apply Exts.andR | apply Exts.alloc | apply Exts.wext | apply Exts.drew | apply Exts.drewN))) HR1.out))))))
                          refine wpQuiet_nil ?_
                          intro _ hwq'
                          obtain ⟨xq, hwq''⟩ := hwq'
                          subst hwq''
                          go_wp2
                          refine ⟨⟨i + 1, by omega, by go_num, by rw [HNX.out, HATI.out, if_neg (by decide), HAT.out], (by repeat (first | exact Exts.refl _ | apply Exts.andR | apply Exts.alloc | apply Exts.wext | apply Exts.drew | apply Exts.drewN))⟩, ?_⟩
                          simp [intOf]; omega
                        | false =>
                          have hat := blkK_at hlt3 HATI.out
                          rw [HAT.out, HKS.out] at hat
                          have hal : at' < lk := by rw [← HLK.out]; exact (List.getElem?_eq_some_iff.1 hat).1
                          obtain ⟨b9, o9, x9, rfl, hb9, hx9, f9⟩ := ints_get HIL.out hal
                          rw [hat] at hx9
                          cases hx9
                          have q7 : decide ((lk : Int) ≤ (at' : Int)) = false := by simp; omega
                          have q8 : (at' : Int) < (lk : Int) := by omega
                          clear hat
                          go_wp2
                          first | refine wp_region_ext_lit2 (by kernel_rfl) (by kernel_rfl) ?_ | refine wp_region_ext_lit (by kernel_rfl) (by kernel_rfl) ?_
                          repeat (go_big_quiet_step (((first | (go_at_call 28; exact Calls.ext_of (atleast21_D _ _ _ _ ps _ _ _ _ (RowF.exts HPS.out (by repeat (first | exact Exts.refl _ | apply Exts.andR | apply Exts.alloc | apply Exts.wext | apply Exts.drew | apply Exts.drewN))) HR0.out))))))
                          refine wpQuiet_nil ?_
                          intro _ hwq'
                          obtain ⟨xq, hwq''⟩ := hwq'
                          subst hwq''
                          go_wp2
                          first | refine wp_region_ext_lit2 (by kernel_rfl) (by kernel_rfl) ?_ | refine wp_region_ext_lit (by kernel_rfl) (by kernel_rfl) ?_
                          repeat (go_big_quiet_step (((first | (go_at_call 28; exact Calls.ext_of (atleast21_D _ _ _ _ ps _ _ _ _ (RowF.exts HPS.out (by repeat (first | exact Exts.refl _ | apply Exts.andR | apply Exts.alloc | apply Exts.wext | apply Exts.drew | apply Exts.drewN))) HR1.out))))))
                          refine wpQuiet_nil ?_
                          intro _ hwq'
                          obtain ⟨xq, hwq''⟩ := hwq'
                          subst hwq''
                          go_wp2
                          refine ⟨⟨i + 1, by omega, by go_num, by rw [HNX.out, HATI.out, if_pos rfl, List.length_append, HAT.out]; go_num, (by repeat (first | exact Exts.refl _ | apply Exts.andR | apply Exts.alloc | apply Exts.wext | apply Exts.drew | apply Exts.drewN))⟩, ?_⟩
                          simp [intOf]; omega
                      | false =>
                        have hati : atI D p q i = r0 := by rw [← HP.out, ← HQ.out, ← hr0]; exact atI_of hd6 hxa hxv
                        have HATI := Lib.hid hati
                        clear hd6 hxa hxv hr0 hr1 hps hati
                        cases r0 with
                        | true =>
                          go_wp2
                          first | refine wp_region_ext_lit2 (by kernel_rfl) (by kernel_rfl) ?_ | refine wp_region_ext_lit (by kernel_rfl) (by kernel_rfl) ?_
                          repeat (go_big_quiet_step (((first | (go_at_call 28; exact Calls.ext_of (atleast21_D _ _ _ _ ps _ _ _ _ (RowF.exts HPS.out (by repeat (first | exact Exts.refl _ | apply Exts.andR | apply Exts.alloc | apply Exts.wext | apply Exts.drew | apply Exts.drewN))) HR0.out))))))
                          refine wpQuiet_nil ?_
                          intro _ hwq'
                          obtain ⟨xq, hwq''⟩ := hwq'
                          subst hwq''
                          go_wp2
                          refine ⟨⟨i + 1, by omega, by go_num, by rw [HNX.out, HATI.out, if_neg (by decide), HAT.out], (by repeat (first | exact Exts.refl _ | apply Exts.andR | apply Exts.alloc | apply Exts.wext | apply Exts.drew | apply Exts.drewN))⟩, ?_⟩
                          simp [intOf]; omega
                        | false =>
                          have hat := blkK_at hlt3 HATI.out
                          rw [HAT.out, HKS.out] at hat
                          have hal : at' < lk := by rw [← HLK.out]; exact (List.getElem?_eq_some_iff.1 hat).1
                          obtain ⟨b9, o9, x9, rfl, hb9, hx9, f9⟩ := ints_get HIL.out hal
                          rw [hat] at hx9
                          cases hx9
                          have q7 : decide ((lk : Int) ≤ (at' : Int)) = false := by simp; omega
                          have q8 : (at' : Int) < (lk : Int) := by omega
                          clear hat
                          go_wp2
                          first | refine wp_region_ext_lit2 (by kernel_rfl) (by kernel_rfl) ?_ | refine wp_region_ext_lit (by kernel_rfl) (by kernel_rfl) ?_
                          repeat (go_big_quiet_step (((first | (go_at_call 28; exact Calls.ext_of (atleast21_D _ _ _ _ ps _ _ _ _ (RowF.exts HPS.out (by repeat (first | exact Exts.refl _ | apply Exts.andR | apply Exts.alloc | apply Exts.wext | apply Exts.drew | apply Exts.drewN))) HR0.out))))))
                          refine wpQuiet_nil ?_
                          intro _ hwq'
                          obtain ⟨xq, hwq''⟩ := hwq'
                          subst hwq''
                          go_wp2
                          refine ⟨⟨i + 1, by omega, by go_num, by rw [HNX.out, HATI.out, if_pos rfl, List.length_append, HAT.out]; go_num, (by repeat (first | exact Exts.refl _ | apply Exts.andR | apply Exts.alloc | apply Exts.wext | apply Exts.drew | apply Exts.drewN))⟩, ?_⟩
                          simp [intOf]; omega
                    · obtain rfl : i = na := by omega
                      have h3 : lk = at' := by rw [← HAT.out, HKM.out]
                      subst h3
                      have hq0 : ((lk : Int) == 0) = em := by
                        rw [← HEM.out, ← HLK.out]
                        cases ks <;> simp
                        omega
                      clear hlt3
                      go_wp2
                      refine ⟨⟨k + 1, m + 1, by omega, by go_num, by go_num, by rw [HE.out, List.length_append, HMK.out]; rfl, HX2.out.trans (HX3.out.trans (by repeat (first | exact Exts.refl _ | apply Exts.andR | apply Exts.alloc | apply Exts.wext | apply Exts.drew | apply Exts.drewN)))⟩, ?_⟩
                      simp [intOf]; omega
          · obtain rfl : k = n := by omega
            have h2 : m = m4 := by rw [← HMK.out, ← HM4.out, HLL.out]
            subst h2
            clear hx hmk
            go_wp2
            go_ret
            exact ⟨rfl, HX.out.trans (HX2.out.trans (by repeat (first | exact Exts.refl _ | apply Exts.andR | apply Exts.alloc | apply Exts.wext | apply Exts.drew | apply Exts.drewN)))⟩
end Go.Proofs.Ytodgohilfbggjaa
