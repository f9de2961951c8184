/- FactorCircles returns true. No condition. -/
import Derived.Test.YtbafcfbchbjgfaaBackPlain
import Derived.Test.YtbafcfbchbjgfaaCirclesPlain
import Derived.Test.YtbafcfbchbjgfaaSmall8
import Derived.Test.YtbafcfbchbjgfaaPair
import Derived.Test.YtbafcfbchbjgfaaRead
import Derived.Deep.OwnRows
import Derived.BigRegion
namespace Go.Proofs.Ytbafcfbchbjgfaa
open Go.RowKit Go.Deep
set_option linter.unusedSimpArgs false
set_option linter.unusedVariables false

/-- What Closure says of a valid dimension, as FactorCircles looks at it. -/
def CirD (ps : List Pr) (w' : World) (co : Option Addr) (cn cc : Nat) (code : Int) : Prop :=
  (code = 0 ∧ cn = 0 ∧ cycB (clR (pairRel ps)) = false) ∨
  (code = 16 ∧ cycB (clR (pairRel ps)) = true ∧ ∃ C, IsCirc (pairRel ps) C ∧ C.length = cn ∧ Ints (fun _ => True) w' co cn cc (C.map Int.ofNat))
theorem closure10_cir {S : Nat → Prop} (V : Int) (po : Option Addr) (n c : Nat) (ps : List Pr) (w : World) (h : Prs S w po n c ps) (hv : validB V ps = true) :
    Calls Try.prog 10 #[.agg #[.int .i64 V, .slice po n c]] w fun e w' => ∃ ro rn rc co cn cc code, e = .returned (.tuple #[.slice ro rn rc, .slice co cn cc, .int .i64 code]) ∧ Exts w w' ∧ CirD ps w' co cn cc code := by
  refine (closure10 V po n c ps w h).mono ?_
  rintro e w' ⟨ro, rn, rc, co, cn, cc, code, rfl, hx, hc⟩
  refine ⟨ro, rn, rc, co, cn, cc, code, rfl, hx, ?_⟩
  rcases hc with ⟨h1, _⟩ | ⟨_, h2, rfl, rfl, C, hC, hl, hI⟩ | ⟨h1, h2, rfl, rfl, _⟩
  · rw [hv] at h1; cases h1
  · refine .inr ⟨rfl, ?_, C, hC, hl, RowF.mono hI fun _ _ => trivial⟩
    cases hy : cycB (clR (pairRel ps)) with
    | true => rfl
    | false => rw [closed_yes hv hy] at h2; cases h2
  · refine .inl ⟨rfl, rfl, ?_⟩
    obtain ⟨g, hg⟩ := closed_ok h1
    exact (closed_valid hg).2.1

theorem pair28_yes {S : Nat → Prop} (V : Int) (po : Option Addr) (n c : Nat) (ps : List Pr) (a b : Int) (w : World) (h : Prs S w po n c ps) (hp : hasP ps a b = true) :
    Calls Try.prog 28 #[.agg #[.int .i64 V, .slice po n c], .int .i64 a, .int .i64 b] w fun e w' => e = .returned (.bool true) ∧ Exts w w' := by
  rw [← hp]
  exact pair28 V po n c ps a b w h
set_option maxRecDepth 100000
set_option maxHeartbeats 2000000
theorem circles5_no {S : Nat → Prop} (V : Int) (po : Option Addr) (n c : Nat) (ps : List Pr) (w : World) (h : Prs S w po n c ps) (hcd : validB V ps = false ∨ 40 < n) :
    Calls Try.prog 5 #[.agg #[.int .i64 V, .slice po n c]] w fun e w' => e = .returned (.bool true) ∧ Exts w w' := by
  have hm := RowF.nle h
  unfold maxLen at hm
  have H := Lib.hid h
  by_cases h40 : 40 < n
  · have q1 : decide ((40 : Int) < (n : Int)) = true := by simp; omega
    clear h hcd
    go_enter Try.func5, Try.ntmps5
    go_wp2_with (first | (go_at_call 8; ((with_reducible refine (small8 _).mono ?_); rintro e w' ⟨rfl, x0, rfl⟩)))
    go_ret
    exact ⟨rfl, (by repeat (first | exact Exts.refl _ | apply Exts.andR | apply Exts.alloc | apply Exts.wext | apply Exts.drew | apply Exts.drewN))⟩
  · have q1 : decide ((40 : Int) < (n : Int)) = false := by simp; omega
    have HV := Lib.hid (hcd.resolve_right h40)
    clear h hcd
    go_enter Try.func5, Try.ntmps5
    go_wp2_with (first | (go_at_call 8; ((with_reducible refine (small8 _).mono ?_); rintro e w' ⟨rfl, x0, rfl⟩)) | (go_at_call 27; ((with_reducible refine (refValid27 _ _ _ _ ps _ (RowF.exts H.out (by repeat (first | exact Exts.refl _ | apply Exts.andR | apply Exts.alloc | apply Exts.wext | apply Exts.drew | apply Exts.drewN)))).mono ?_); rintro e w' ⟨rfl, x1, rfl⟩; rw [HV.out])))
    go_ret
    exact ⟨rfl, (by repeat (first | exact Exts.refl _ | apply Exts.andR | apply Exts.alloc | apply Exts.wext | apply Exts.drew | apply Exts.drewN))⟩
set_option maxHeartbeats 16000000 in
theorem circles5_go {S : Nat → Prop} (m : Nat) (po : Option Addr) (n c : Nat) (ps : List Pr) (w : World) (h : Prs S w po n c ps) (hv : validB (m : Int) ps = true) (h40 : ¬ 40 < n) :
    Calls Try.prog 5 #[.agg #[.int .i64 m, .slice po n c]] w fun e w' => e = .returned (.bool true) ∧ Exts w w' := by
  have hm := RowF.nle h
  unfold maxLen at hm
  have hl := Prs.len h
  obtain ⟨⟨v1, v2⟩, _, hin⟩ := valid_in hv
  have hm1 : 1 ≤ m := by omega
  have hm12 : m ≤ 12 := by omega
  clear v1 v2
  have HIN := Lib.hid hin
  have HV := Lib.hid hv
  have H := Lib.hid h
  have HL := Lib.hid hl
  have hmk := run_make_row' (P := Try.prog) 34 4 (.bool false) 1 Try.underlying34 info4b rfl .i64 .i64 m (by omega) (by omega)
  rw [made_bools] at hmk
  clear h hl hv hin
  have q1 : decide ((40 : Int) < (n : Int)) = false := by simp; omega
  go_enter Try.func5, Try.ntmps5
  go_wp2_with (first | (go_at_call 8; ((with_reducible refine (small8 _).mono ?_); rintro e w' ⟨rfl, x0, rfl⟩)) | (go_at_call 27; ((with_reducible refine (refValid27 _ _ _ _ ps _ (RowF.exts H.out (by repeat (first | exact Exts.refl _ | apply Exts.andR | apply Exts.alloc | apply Exts.wext | apply Exts.drew | apply Exts.drewN)))).mono ?_); rintro e w' ⟨rfl, x1, rfl⟩; rw [HV.out])) | (go_at_call 10; ((with_reducible refine (closure10_cir _ _ _ _ ps _ (RowF.exts H.out (by repeat (first | exact Exts.refl _ | apply Exts.andR | apply Exts.alloc | apply Exts.wext | apply Exts.drew | apply Exts.drewN))) HV.out).mono ?_); rintro e w' ⟨ro, rn, rc, co, cn, cc, code, rfl, ⟨x2, rfl⟩, hb⟩; (try simp only [wext_and] at hb); (have HB := Lib.hid hb); clear hb)))
  obtain ⟨W, hW⟩ : ∃ W, wext (w.alloc (.cells #[.int .i64 m, .slice po n c] 24)) ((x0.and x1).and x2) = W := ⟨_, rfl⟩
  have HX := Lib.hid (show Exts w W by rw [← hW]; exact (by repeat (first | exact Exts.refl _ | apply Exts.andR | apply Exts.alloc | apply Exts.wext | apply Exts.drew | apply Exts.drewN)))
  have HP := Lib.hid (show Prs S W po n c ps from RowF.exts H.out HX.out)
  have cO0 : W.cell? ⟨w.heap.size, 0, none⟩ = some (.int .i64 m) := by rw [← hW]; simp [go_sem]
  have cO1 : W.cell? ⟨w.heap.size, 1, none⟩ = some (.slice po n c) := by rw [← hW]; simp [go_sem]
  have lO : w.heap.size < W.heap.size := by rw [← hW]; simp; omega
  rw [hW] at HB ⊢
  clear hW H
  go_loopw [7, 8] (fun bk i wr => ∃ (k b : Nat), k ≤ m ∧ i = .int .i64 k ∧ bk = .int .i64 b ∧ Exts W wr ∧ BackTo (pairRel ps) m k 1 b) (fun _ i _ => m - (intOf i).toNat)
  case atStart => exact ⟨0, 0, by omega, rfl, rfl, Exts.refl _, back_start _ _⟩
  case round =>
    obtain ⟨k, b, hk, rfl, rfl, ⟨x, rfl⟩, hbk⟩ := hrel
    have HBK := Lib.hid hbk
    clear hbk
    by_cases hlt : k < m
    · go_wp2
      go_loopw [7, 9, 10] (fun bk nw i wr => ∃ (j nb b : Nat), 1 ≤ j ∧ j ≤ m + 1 ∧ i = .int .i64 j ∧ nw = .slice (some ⟨nb, 0, none⟩) m m ∧ bk = .int .i64 b ∧ Exts W wr ∧ wr.heap[nb]? = some (.cells (boolC (nowN (pairRel ps) k (j - 1)) m) 4 (0, 0)) ∧ BackTo (pairRel ps) m k j b) (fun _ _ i _ => m + 1 - (intOf i).toNat)
      case atStart =>
        refine ⟨1, _, b, Nat.le_refl _, by omega, rfl, rfl, rfl, (by repeat (first | exact Exts.refl _ | apply Exts.andR | apply Exts.alloc | apply Exts.wext | apply Exts.drew | apply Exts.drewN)), ?_, HBK.out⟩
        rw [heap_alloc_if, if_neg (by simp), if_pos (by simp)]
        exact congrArg (fun c => some (Obj.cells c 4 (0, 0))) (now_start _ k m)
      case round =>
        obtain ⟨j, nb, b, hj1, hjm, rfl, rfl, rfl, hx, hnb, hbk⟩ := hrel
        have HX2 := Lib.hid hx
        have HNB := Lib.hid hnb
        have HBK := Lib.hid hbk
        have cO0' := Exts.cell hx cO0
        have cO1' := Exts.cell hx cO1
        have lO' : w.heap.size < wr.heap.size := Nat.lt_of_lt_of_le lO hx.below.size
        have lNB : nb < wr.heap.size := (Array.getElem?_eq_some_iff.1 hnb).1
        clear hx hnb hbk
        by_cases hj : j ≤ m
        · have b1 : decide ((j : Int) ≤ (m : Int)) = true := by simp; omega
          go_wp2
          go_loopw [12] (fun i wr2 => ∃ (q : Nat), q ≤ n ∧ i = .int .i64 q ∧ Exts (wr.alloc (.cells (boolC (nextK ps (nowN (pairRel ps) k (j - 1)) q) m) 4)) wr2) (fun i _ => n - (intOf i).toNat)
          case atStart => exact ⟨0, by omega, rfl, by rw [next_start ps (nowN (pairRel ps) k (j - 1)) m]; exact Exts.refl _⟩
          case round =>
            obtain ⟨q, hq, rfl, y, rfl⟩ := hrel
            by_cases hlq : q < n
            · obtain ⟨pb, off, ⟨p1, p2⟩, rfl, hb, hp, e0, e1⟩ := Prs.get (show Prs S wr po n c ps from RowF.exts HP.out HX2.out) hlq
              simp only at e0 e1
              have hpi := HIN.out _ (List.mem_of_getElem? hp)
              simp only at hpi
              obtain ⟨u, rfl⟩ : ∃ u : Nat, p1 = u := ⟨p1.toNat, by omega⟩
              obtain ⟨v, rfl⟩ : ∃ v : Nat, p2 = v := ⟨p2.toNat, by omega⟩
              obtain ⟨_, hu, _, hv⟩ := hpi
              have hu : u < m := by omega
              have hv : v < m := by omega
              have HQ := Lib.hid hp
              clear hp
              have cn1 : wr.cell? ⟨nb, u, none⟩ = some (.bool (nowN (pairRel ps) k (j - 1) u)) := by rw [cell_of_row _ _ _ _ _ _ HNB.out]; exact boolC_get _ _ _ hu
              cases hN : nextK ps (nowN (pairRel ps) k (j - 1)) q v with
              | true =>
                have HN := Lib.hid hN
                go_wp2
                go_region
                go_wp2
                refine ⟨⟨q + 1, by omega, by go_num, by rw [← next_step ps _ m q u v HQ.out]; simp only [HN.out, Bool.true_or]; exact (by repeat (first | exact Exts.refl _ | apply Exts.andR | apply Exts.alloc | apply Exts.wext | apply Exts.drew | apply Exts.drewN))⟩, ?_⟩
                simp [intOf]; omega
              | false =>
                have HN := Lib.hid hN
                cases hU : nowN (pairRel ps) k (j - 1) u with
                | true =>
                  have HU := Lib.hid hU
                  rw [hU] at cn1
                  clear hU
                  go_wp2
                  go_region
                  go_wp2
                  refine ⟨⟨q + 1, by omega, by go_num, by rw [← next_step ps _ m q u v HQ.out]; simp only [HN.out, HU.out, Bool.false_or]; exact (by repeat (first | exact Exts.refl _ | apply Exts.andR | apply Exts.alloc | apply Exts.wext | apply Exts.drew | apply Exts.drewN))⟩, ?_⟩
                  simp [intOf]; omega
                | false =>
                  have HU := Lib.hid hU
                  rw [hU] at cn1
                  clear hU
                  go_wp2
                  go_region
                  go_wp2
                  refine ⟨⟨q + 1, by omega, by go_num, by rw [← next_step ps _ m q u v HQ.out]; simp only [HN.out, HU.out, Bool.false_or]; exact (by repeat (first | exact Exts.refl _ | apply Exts.andR | apply Exts.alloc | apply Exts.wext | apply Exts.drew | apply Exts.drewN))⟩, ?_⟩
                  simp [intOf]; omega
            · obtain rfl : q = n := by omega
              have hall : boolC (nextK ps (nowN (pairRel ps) k (j - 1)) q) m = boolC (nowN (pairRel ps) k j) m := by
                have := next_end ps k (j - 1) m (fun p hp => by have := HIN.out p hp; omega)
                rw [HL.out, Nat.sub_add_cancel hj1] at this
                exact this
              rw [hall]
              clear hall
              cases hw : nowN (pairRel ps) k j k with
              | false =>
                have HW := Lib.hid hw
                go_wp2
                (try (go_region; go_wp2))
                refine ⟨⟨j + 1, _, b, by omega, by omega, by go_num, rfl, rfl, HX2.out.trans (by repeat (first | exact Exts.refl _ | apply Exts.andR | apply Exts.alloc | apply Exts.wext | apply Exts.drew | apply Exts.drewN)), ?_, back_keep HBK.out (.inl HW.out)⟩, ?_⟩
                · rw [wext_heap_old _ _ _ (by simp), heap_alloc_if, if_neg (by simp), if_pos rfl, Nat.add_sub_cancel]
                · simp [intOf]; omega
              | true =>
                have HW := Lib.hid hw
                by_cases hb0 : b = 0
                · subst hb0
                  go_wp2
                  (try (go_region; go_wp2))
                  refine ⟨⟨j + 1, _, j, by omega, by omega, by go_num, rfl, rfl, HX2.out.trans (by repeat (first | exact Exts.refl _ | apply Exts.andR | apply Exts.alloc | apply Exts.wext | apply Exts.drew | apply Exts.drewN)), ?_, back_set HBK.out hlt hj hj1 HW.out (.inl rfl)⟩, ?_⟩
                  · rw [wext_heap_old _ _ _ (by simp), heap_alloc_if, if_neg (by simp), if_pos rfl, Nat.add_sub_cancel]
                  · simp [intOf]; omega
                · have c1 : ((b : Int) == 0) = false := by simp; omega
                  have c2 : (b == 0) = false := by simpa using hb0
                  by_cases hjb : j < b
                  · have c3 : decide ((j : Int) < (b : Int)) = true := by simp; omega
                    go_wp2
                    (try (go_region; go_wp2))
                    refine ⟨⟨j + 1, _, j, by omega, by omega, by go_num, rfl, rfl, HX2.out.trans (by repeat (first | exact Exts.refl _ | apply Exts.andR | apply Exts.alloc | apply Exts.wext | apply Exts.drew | apply Exts.drewN)), ?_, back_set HBK.out hlt hj hj1 HW.out (.inr hjb)⟩, ?_⟩
                    · rw [wext_heap_old _ _ _ (by simp), heap_alloc_if, if_neg (by simp), if_pos rfl, Nat.add_sub_cancel]
                    · simp [intOf]; omega
                  · have c3 : decide ((j : Int) < (b : Int)) = false := by simp; omega
                    go_wp2
                    (try (go_region; go_wp2))
                    refine ⟨⟨j + 1, _, b, by omega, by omega, by go_num, rfl, rfl, HX2.out.trans (by repeat (first | exact Exts.refl _ | apply Exts.andR | apply Exts.alloc | apply Exts.wext | apply Exts.drew | apply Exts.drewN)), ?_, back_keep HBK.out (.inr ⟨hb0, by omega⟩)⟩, ?_⟩
                    · rw [wext_heap_old _ _ _ (by simp), heap_alloc_if, if_neg (by simp), if_pos rfl, Nat.add_sub_cancel]
                    · simp [intOf]; omega
        · have b1 : decide ((j : Int) ≤ (m : Int)) = false := by simp; omega
          obtain rfl : j = m + 1 := by omega
          go_wp2
          refine ⟨⟨k + 1, b, by omega, by go_num, rfl, HX2.out, back_next HBK.out⟩, ?_⟩
          simp [intOf]; omega
    · obtain rfl : m = k := by omega
      rcases HB.out with ⟨rfl, rfl, hcy⟩ | ⟨rfl, hcy, C, hC, rfl, hI⟩
      · have h0 := nocirc_law hcy hm12 (back_end HBK.out)
        subst h0
        go_wp2
        go_ret
        exact ⟨rfl, HX.out.trans (by repeat (first | exact Exts.refl _ | apply Exts.andR | apply Exts.alloc | apply Exts.wext | apply Exts.drew | apply Exts.drewN))⟩
      · obtain ⟨g1, g2, g3, g4, g5, g6⟩ := circ_law (m := m) (fun a b h => by
          simp only [pairRel, List.any_eq_true, Bool.and_eq_true, beq_iff_eq] at h
          obtain ⟨p, hp, h1, h2⟩ := h
          have := HIN.out p hp
          omega) hcy (back_end HBK.out) hC
        subst g1
        have HG3 := Lib.hid g3
        have HG4 := Lib.hid g4
        have HG5 := Lib.hid g5
        have HI := Lib.hid hI
        have HL0 := Lib.hid g2
        clear g3 g4 g5 hI
        have hlen12 : C.length ≤ 12 := by
          have := HBK.out.le
          omega
        obtain ⟨cb, coff, _, rfl, lC, _⟩ := ints_get HI.out (i := 0) (by omega)
        have HC := Lib.hid (show ∀ (i u : Nat), C[i]? = some u → W.cell? ⟨cb, coff + i, none⟩ = some (.int .i64 u) from fun i u hu => by
          have hi := (List.getElem?_eq_some_iff.1 hu).1
          obtain ⟨b', o', x', e1, _, e2, e3⟩ := ints_get HI.out hi
          cases e1
          rw [List.getElem?_map, hu] at e2
          simp at e2
          rw [e3, ← e2])
        have HM := Lib.hid (show ∀ (i : Nat), i < C.length → ∃ u, C[i]? = some u ∧ u < m from fun i hi => ⟨C[i], List.getElem?_eq_getElem hi, g6 _ (List.getElem_mem hi)⟩)
        obtain ⟨z, hz⟩ : ∃ z, C[0]? = some z := ⟨C[0]'(by omega), List.getElem?_eq_getElem (by omega)⟩
        have HZ := Lib.hid hz
        have cz := HC.out 0 z hz
        rw [Nat.add_zero] at cz
        obtain ⟨L, hL⟩ : ∃ L, C.length = L := ⟨_, rfl⟩
        rw [hL] at g2 hlen12 ⊢
        have HL2 := Lib.hid hL
        clear g6 hz hL
        go_wp2
        go_loopw [13] (fun i wr => ∃ (k : Nat), k ≤ L ∧ i = .int .i64 k ∧ Exts W wr) (fun i _ => L - (intOf i).toNat)
        case atStart => exact ⟨0, by omega, rfl, (by repeat (first | exact Exts.refl _ | apply Exts.andR | apply Exts.alloc | apply Exts.wext | apply Exts.drew | apply Exts.drewN))⟩
        case round =>
          obtain ⟨k, hk, rfl, y, rfl⟩ := hrel
          by_cases hlt : k < L
          · obtain ⟨u, hu, hum⟩ := HM.out k (by rw [HL2.out]; exact hlt)
            have hk2 : (k + 1) % L < L := Nat.mod_lt _ (by omega)
            obtain ⟨v, hv, hvm⟩ := HM.out ((k + 1) % L) (by rw [HL2.out]; exact hk2)
            have cu := HC.out k u hu
            have cv := HC.out _ v hv
            have HU := Lib.hid hu
            have HPR := Lib.hid (show hasP ps (u : Int) (v : Int) = true from HG3.out k u v hu (by rw [HL2.out]; exact hv))
            have HK2 := Lib.hid hk2
            have er : Int.tmod ((k : Int) + 1) (L : Int) = (((k + 1) % L : Nat) : Int) := by rw [Int.tmod_eq_emod_of_nonneg (by omega), Int.natCast_emod, Int.natCast_add]; rfl
            have er2 : ((k : Int) + 1) % (L : Int) = (((k + 1) % L : Nat) : Int) := by rw [Int.natCast_emod, Int.natCast_add]; rfl
            obtain ⟨r, hr⟩ : ∃ r, (k + 1) % L = r := ⟨_, rfl⟩
            rw [hr] at er er2 cv hk2
            clear hu hv hr
            by_cases hk0 : k = 0
            · have k1 : decide ((0 : Int) < (k : Int)) = false := by simp; omega
              have k2 : decide (0 < k) = false := by simp; omega
              clear hk0
              go_wp2
              first | refine wp_region_ext_lit2 (by kernel_rfl) (by kernel_rfl) ?_ | refine wp_region_ext_lit (by kernel_rfl) (by kernel_rfl) ?_
              repeat (go_big_quiet_step (((first | (go_at_call 28; exact Calls.ext_of (pair28_yes _ _ _ _ ps _ _ _ (RowF.exts HP.out (by repeat (first | exact Exts.refl _ | apply Exts.andR | apply Exts.alloc | apply Exts.wext | apply Exts.drew | apply Exts.drewN))) HPR.out))))))
              refine wpQuiet_nil ?_
              intro _ hwq'
              obtain ⟨xq, hwq''⟩ := hwq'
              subst hwq''
              go_wp2
              go_loopw [14] (fun i wr => ∃ (q : Nat), q ≤ k ∧ i = .int .i64 q ∧ Exts W wr) (fun i _ => k - (intOf i).toNat)
              case atStart => exact ⟨0, by omega, rfl, (by repeat (first | exact Exts.refl _ | apply Exts.andR | apply Exts.alloc | apply Exts.wext | apply Exts.drew | apply Exts.drewN))⟩
              case round =>
                obtain ⟨q, hq, rfl, y2, rfl⟩ := hrel
                by_cases hql : q < k
                · obtain ⟨t, ht, htm⟩ := HM.out q (by rw [HL2.out]; omega)
                  have ct := HC.out q t ht
                  have hne : t ≠ u := fun hc => HG5.out q k u hql (by rw [← hc]; exact ht) HU.out
                  have n1 : ((t : Int) == (u : Int)) = false := by simp; omega
                  have n2 : (t == u) = false := by simpa using hne
                  clear ht hne
                  have hqL : q < L := by omega
                  go_wp2
                  first | refine wp_region_ext_lit2 (by kernel_rfl) (by kernel_rfl) ?_ | refine wp_region_ext_lit (by kernel_rfl) (by kernel_rfl) ?_
                  repeat (go_big_quiet_step (fail))
                  refine wpQuiet_nil ?_
                  intro _ hwq'
                  obtain ⟨xq, hwq''⟩ := hwq'
                  subst hwq''
                  go_wp2
                  refine ⟨⟨q + 1, by omega, by go_num, (by repeat (first | exact Exts.refl _ | apply Exts.andR | apply Exts.alloc | apply Exts.wext | apply Exts.drew | apply Exts.drewN))⟩, ?_⟩
                  simp [intOf]; omega
                · obtain rfl : q = k := by omega
                  go_wp2
                  refine ⟨⟨q + 1, by omega, by go_num, (by repeat (first | exact Exts.refl _ | apply Exts.andR | apply Exts.alloc | apply Exts.wext | apply Exts.drew | apply Exts.drewN))⟩, ?_⟩
                  simp [intOf]; omega

            · have k1 : decide ((0 : Int) < (k : Int)) = true := by simp; omega
              have k2 : decide (0 < k) = true := by simp; omega
              have huz := HG4.out k u z (by omega) HU.out HZ.out
              have k3 : decide ((u : Int) ≤ (z : Int)) = false := by simp; omega
              clear hk0
              go_wp2
              first | refine wp_region_ext_lit2 (by kernel_rfl) (by kernel_rfl) ?_ | refine wp_region_ext_lit (by kernel_rfl) (by kernel_rfl) ?_
              repeat (go_big_quiet_step (((first | (go_at_call 28; exact Calls.ext_of (pair28_yes _ _ _ _ ps _ _ _ (RowF.exts HP.out (by repeat (first | exact Exts.refl _ | apply Exts.andR | apply Exts.alloc | apply Exts.wext | apply Exts.drew | apply Exts.drewN))) HPR.out))))))
              refine wpQuiet_nil ?_
              intro _ hwq'
              obtain ⟨xq, hwq''⟩ := hwq'
              subst hwq''
              go_wp2
              go_loopw [14] (fun i wr => ∃ (q : Nat), q ≤ k ∧ i = .int .i64 q ∧ Exts W wr) (fun i _ => k - (intOf i).toNat)
              case atStart => exact ⟨0, by omega, rfl, (by repeat (first | exact Exts.refl _ | apply Exts.andR | apply Exts.alloc | apply Exts.wext | apply Exts.drew | apply Exts.drewN))⟩
              case round =>
                obtain ⟨q, hq, rfl, y2, rfl⟩ := hrel
                by_cases hql : q < k
                · obtain ⟨t, ht, htm⟩ := HM.out q (by rw [HL2.out]; omega)
                  have ct := HC.out q t ht
                  have hne : t ≠ u := fun hc => HG5.out q k u hql (by rw [← hc]; exact ht) HU.out
                  have n1 : ((t : Int) == (u : Int)) = false := by simp; omega
                  have n2 : (t == u) = false := by simpa using hne
                  clear ht hne
                  have hqL : q < L := by omega
                  go_wp2
                  first | refine wp_region_ext_lit2 (by kernel_rfl) (by kernel_rfl) ?_ | refine wp_region_ext_lit (by kernel_rfl) (by kernel_rfl) ?_
                  repeat (go_big_quiet_step (fail))
                  refine wpQuiet_nil ?_
                  intro _ hwq'
                  obtain ⟨xq, hwq''⟩ := hwq'
                  subst hwq''
                  go_wp2
                  refine ⟨⟨q + 1, by omega, by go_num, (by repeat (first | exact Exts.refl _ | apply Exts.andR | apply Exts.alloc | apply Exts.wext | apply Exts.drew | apply Exts.drewN))⟩, ?_⟩
                  simp [intOf]; omega
                · obtain rfl : q = k := by omega
                  go_wp2
                  refine ⟨⟨q + 1, by omega, by go_num, (by repeat (first | exact Exts.refl _ | apply Exts.andR | apply Exts.alloc | apply Exts.wext | apply Exts.drew | apply Exts.drewN))⟩, ?_⟩
                  simp [intOf]; omega

          · obtain rfl : L = k := by omega
            go_wp2
            go_ret
            exact ⟨rfl, HX.out.trans (by repeat (first | exact Exts.refl _ | apply Exts.andR | apply Exts.alloc | apply Exts.wext | apply Exts.drew | apply Exts.drewN))⟩
theorem circles5 {S : Nat → Prop} (V : Int) (po : Option Addr) (n c : Nat) (ps : List Pr) (w : World) (h : Prs S w po n c ps) :
    Calls Try.prog 5 #[.agg #[.int .i64 V, .slice po n c]] w fun e w' => e = .returned (.bool true) ∧ Exts w w' := by
  cases hv : validB V ps with
  | false => exact circles5_no V po n c ps w h (.inl hv)
  | true =>
    by_cases h40 : 40 < n
    · exact circles5_no V po n c ps w h (.inr h40)
    · obtain ⟨⟨v1, v2⟩, _⟩ := valid_in hv
      obtain ⟨m, rfl⟩ : ∃ m : Nat, V = m := ⟨V.toNat, by omega⟩
      exact circles5_go m po n c ps w h hv h40
end Go.Proofs.Ytbafcfbchbjgfaa
