/- Closure of the reference of chapter 38. No condition. -/
import Derived.Test.YtbafcfbchbjgfaaRefStrong
import Derived.Test.YtbafcfbchbjgfaaClo
import Derived.Test.YtbafcfbchbjgfaaWay
import Derived.Deep.AppendLies
namespace Go.Proofs.Ytbafcfbchbjgfaa
open Go.RowKit
set_option linter.unusedSimpArgs false
set_option linter.unusedVariables false
/-- Circle, of a valid dimension, all of it. -/
theorem circle36_V {S' : Nat → Prop} (V : Int) (po : Option Addr) (n c : Nat) (ps : List Pr) (r : Bool) (w : World) (h : Prs S' w po n c ps) (hv : validB V ps = true) (hr : cycB (clR (pairRel ps)) = r) :
    Calls Try.prog 36 #[.agg #[.int .i64 V, .slice po n c]] w fun e w' => ∃ (L : Nat) (C : List Nat) (ro : Option Addr) (rc : Nat), e = .returned (.slice ro L rc) ∧ Exts w w' ∧ decide ((0 : Int) < (L : Int)) = r ∧ decide (0 < L) = r ∧ C.length = L ∧ IsCirc (pairRel ps) C ∧ Ints (fun b => w.heap.size ≤ b) w' ro C.length rc (C.map Int.ofNat) := by
  obtain ⟨⟨h1, h2⟩, _, h3⟩ := valid_in hv
  obtain ⟨m, rfl⟩ : ∃ m : Nat, V = m := ⟨V.toNat, by omega⟩
  refine (circle36 m po n c ps w h (by omega) h3).mono ?_
  rintro e w' ⟨C, ro, rc, rfl, hc, hx, hI⟩
  have hn := circ_nil hc
  rw [hr] at hn
  exact ⟨C.length, C, ro, rc, rfl, hx, by rw [hn]; simp, hn.symm, rfl, hc, hI⟩
set_option maxRecDepth 100000
set_option maxHeartbeats 4000000
theorem closure11_inv {S : Nat → Prop} (V : Int) (po : Option Addr) (n c : Nat) (ps : List Pr) (w : World) (h : Prs S w po n c ps) (hv : validB V ps = false) :
    Calls Try.prog 11 #[.agg #[.int .i64 V, .slice po n c]] w fun e w' => ∃ ro rn rc co cn cc code, e = .returned (.tuple #[.slice ro rn rc, .slice co cn cc, .int .i64 code]) ∧ Exts w w' ∧ CloRes V ps w w' ro rn rc co cn cc code := by
  have HV := Lib.hid hv
  have H := Lib.hid h
  clear h hv
  go_enter Try.func11, Try.ntmps11
  go_wp2_with (first | (go_at_call 27; ((with_reducible refine (refValid27_D _ _ _ _ ps _ _ (RowF.exts H.out (by repeat (first | exact Exts.refl _ | apply Exts.andR | apply Exts.alloc | apply Exts.wext | apply Exts.drew | apply Exts.drewN))) HV.out).mono ?_); rintro e w' ⟨rfl, x1, rfl⟩)))
  go_ret3
  exact ⟨none, 0, 0, none, 0, 0, 1, rfl, (by repeat (first | exact Exts.refl _ | apply Exts.andR | apply Exts.alloc | apply Exts.wext | apply Exts.drew | apply Exts.drewN)), .inl ⟨HV.out, rfl, rfl, rfl⟩⟩
theorem closure11_cir {S : Nat → Prop} (V : Int) (po : Option Addr) (n c : Nat) (ps : List Pr) (w : World) (h : Prs S w po n c ps) (hv : validB V ps = true) (hy : cycB (clR (pairRel ps)) = true) :
    Calls Try.prog 11 #[.agg #[.int .i64 V, .slice po n c]] w fun e w' => ∃ ro rn rc co cn cc code, e = .returned (.tuple #[.slice ro rn rc, .slice co cn cc, .int .i64 code]) ∧ Exts w w' ∧ CloRes V ps w w' ro rn rc co cn cc code := by
  have HV := Lib.hid hv
  have HY := Lib.hid hy
  have HG := Lib.hid (closed_no (V := V) (.inr hy))
  have H := Lib.hid h
  clear h hv hy
  go_enter Try.func11, Try.ntmps11
  go_wp2_with (first | (go_at_call 27; ((with_reducible refine (refValid27_D _ _ _ _ ps _ _ (RowF.exts H.out (by repeat (first | exact Exts.refl _ | apply Exts.andR | apply Exts.alloc | apply Exts.wext | apply Exts.drew | apply Exts.drewN))) HV.out).mono ?_); rintro e w' ⟨rfl, x1, rfl⟩)) | (go_at_call 36; ((with_reducible refine (circle36_V _ _ _ _ ps _ _ (RowF.exts H.out (by repeat (first | exact Exts.refl _ | apply Exts.andR | apply Exts.alloc | apply Exts.wext | apply Exts.drew | apply Exts.drewN))) HV.out HY.out).mono ?_); rintro e w' ⟨L, C, ro, rc, rfl, ⟨x2, rfl⟩, hL, hL2, hl, hc, hI⟩; (have HLN := Lib.hid hl); (have HC := Lib.hid hc); (try simp only [wext_and] at hI); (have HI := Lib.hid (RowF.mono (S' := fun b => w.heap.size ≤ b) hI fun b hb => Nat.le_trans (by simp; omega) hb)); clear hl hc hI)))
  go_ret3
  exact ⟨none, 0, 0, ro, C.length, rc, 16, by rw [HLN.out]; rfl, (by repeat (first | exact Exts.refl _ | apply Exts.andR | apply Exts.alloc | apply Exts.wext | apply Exts.drew | apply Exts.drewN)), .inr (.inl ⟨HV.out, by rw [HG.out], rfl, rfl, C, HC.out, rfl, RowF.exts HI.out (by repeat (first | exact Exts.refl _ | apply Exts.andR | apply Exts.alloc | apply Exts.wext | apply Exts.drew | apply Exts.drewN))⟩)⟩
theorem bools_next (g : Rel) (a k : Nat) : bools g a (k + 1) = bools g a k ++ [.bool (g a k)] := by simp [bools, List.range_succ]
theorem bool_one (b : Bool) : ∀ u ∈ [Value.bool b], u.oneCell' = true := by
  intro u hu
  simp at hu
  subst hu
  rfl
theorem info4c : (Try.prog.info? 4).map (fun i => (i.zero, i.size, i.bytes)) = some (some (.bool false), 1, 1) := by kernel_rfl
theorem closure11_ok {S' : Nat → Prop} (m : Nat) (po : Option Addr) (n c : Nat) (ps : List Pr) (g : Rel) (w : World) (h : Prs S' w po n c ps) (hv : validB (m : Int) ps = true) (hy : cycB (clR (pairRel ps)) = false) (hg : closedD (m : Int) ps = (g, true)) :
    Calls Try.prog 11 #[.agg #[.int .i64 m, .slice po n c]] w fun e w' => ∃ ro rn rc co cn cc code, e = .returned (.tuple #[.slice ro rn rc, .slice co cn cc, .int .i64 code]) ∧ Exts w w' ∧ CloRes (m : Int) ps w w' ro rn rc co cn cc code := by
  obtain ⟨i0, hi, hz0, hz1, hz2⟩ := info_parts info34
  obtain ⟨i4, hi4, hz40, hz41, hz42⟩ := info_parts info4c
  obtain ⟨⟨v1, v2⟩, _⟩ := valid_in hv
  have hm12 : m ≤ 12 := by omega
  have HV := Lib.hid hv
  have HY := Lib.hid hy
  have HG := Lib.hid hg
  have H := Lib.hid h
  clear h hv hy hg v1 v2
  go_enter Try.func11, Try.ntmps11
  go_wp2_with (first | (go_at_call 27; ((with_reducible refine (refValid27_D _ _ _ _ ps _ _ (RowF.exts H.out (by repeat (first | exact Exts.refl _ | apply Exts.andR | apply Exts.alloc | apply Exts.wext | apply Exts.drew | apply Exts.drewN))) HV.out).mono ?_); rintro e w' ⟨rfl, x1, rfl⟩)) | (go_at_call 36; ((with_reducible refine (circle36_V _ _ _ _ ps _ _ (RowF.exts H.out (by repeat (first | exact Exts.refl _ | apply Exts.andR | apply Exts.alloc | apply Exts.wext | apply Exts.drew | apply Exts.drewN))) HV.out HY.out).mono ?_); rintro e w' ⟨L, C, ro, rc, rfl, ⟨x2, rfl⟩, hL, hL2, hl, hc, hI⟩; (have HLN := Lib.hid hl); (have HC := Lib.hid hc); (try simp only [wext_and] at hI); (have HI := Lib.hid (RowF.mono (S' := fun b => w.heap.size ≤ b) hI fun b hb => Nat.le_trans (by simp; omega) hb)); clear hl hc hI)))
  clear HLN HC HI
  obtain ⟨w1, hw1⟩ : ∃ w1, wext (w.alloc (.cells #[.int .i64 m, .slice po n c] 24)) (x1.and x2) = w1 := ⟨_, rfl⟩
  have HX := Lib.hid (show Exts w w1 by rw [← hw1]; exact (by repeat (first | exact Exts.refl _ | apply Exts.andR | apply Exts.alloc | apply Exts.wext | apply Exts.drew | apply Exts.drewN)))
  have HP := Lib.hid (show Prs S' w1 po n c ps from RowF.exts H.out HX.out)
  have cO0 : w1.cell? ⟨w.heap.size, 0, none⟩ = some (.int .i64 m) := by rw [← hw1]; simp [go_sem]
  have cO1 : w1.cell? ⟨w.heap.size, 1, none⟩ = some (.slice po n c) := by rw [← hw1]; simp [go_sem]
  have lO : w.heap.size < w1.heap.size := by rw [← hw1]; simp; omega
  rw [hw1]
  clear hw1 H
  go_loopw [6, 7] (fun o i wr => ∃ (a : Nat) (rows : List Value), a ≤ m ∧ i = .int .i64 a ∧ Exts w1 wr ∧ wr.ownsRow w1.heap.size 34 1 o a rows ∧ RowsIn wr a m g rows) (fun _ i _ => m - (intOf i).toNat)
  case atStart => exact ⟨0, [], by omega, rfl, Exts.refl _, World.ownsRow_nil _ _ _ _, fun a ha => by omega⟩
  case round =>
    obtain ⟨a, rows, ha, rfl, hx, hown, hin⟩ := hrel
    have HX2 := Lib.hid hx
    have HO := Lib.hid hown
    have HIN := Lib.hid hin
    have cO0' := Exts.cell hx cO0
    have cO1' := Exts.cell hx cO1
    have lO' : w.heap.size < wr.heap.size := Nat.lt_of_lt_of_le lO hx.below.size
    have HBS := Lib.hid (show w1.heap.size ≤ wr.heap.size from hx.below.size)
    have HP2 := Lib.hid (show Prs S' wr po n c ps from RowF.exts HP.out hx)
    obtain ⟨oo, oc, rfl⟩ := owns_shape hown
    clear hx hown hin
    by_cases hla : a < m
    · obtain ⟨W, hW⟩ : ∃ W, wr = W := ⟨_, rfl⟩
      rw [hW] at HX2 HO HIN cO0' cO1' lO' HBS HP2 ⊢
      clear hW
      go_wp2
      go_loopw [8, 9] (fun o i wr => ∃ (k : Nat), k ≤ m ∧ i = .int .i64 k ∧ Exts W wr ∧ wr.ownsRow W.heap.size 4 1 o k (bools g a k)) (fun _ i _ => m - (intOf i).toNat)
      case atStart => exact ⟨0, by omega, rfl, Exts.refl _, World.ownsRow_nil _ _ _ _⟩
      case round =>
        obtain ⟨k, hk, rfl, hx, hown⟩ := hrel
        have HX3 := Lib.hid hx
        have HO3 := Lib.hid hown
        have cO0'' := Exts.cell hx cO0'
        have cO1'' := Exts.cell hx cO1'
        have lO'' : w.heap.size < wr.heap.size := Nat.lt_of_lt_of_le lO' hx.below.size
        have HB3 := Lib.hid (show W.heap.size ≤ wr.heap.size from hx.below.size)
        have HP3 := Lib.hid (show Prs S' wr po n c ps from RowF.exts HP2.out hx)
        obtain ⟨ro2, rc2, rfl⟩ := owns_shape hown
        clear hx hown
        by_cases hlk : k < m
        · obtain ⟨t, ht⟩ : ∃ t, g a k = t := ⟨_, rfl⟩
          have HT := Lib.hid ht
          have HE := Lib.hid (bools_next g a k)
          clear ht
          go_wp2_with (first | (go_at_call 37; ((with_reducible refine (strong37_D _ _ _ _ ps a k g _ _ (RowF.exts HP3.out (by repeat (first | exact Exts.refl _ | apply Exts.andR | apply Exts.alloc | apply Exts.wext | apply Exts.drew | apply Exts.drewN))) HG.out hla HT.out).mono ?_); rintro e w' ⟨rfl, x5, rfl⟩)) | (at_builtin; refine wpList_append_lies _ rfl (.tmp 31) (.tmp 36) 34 rfl W.heap.size 4 i4 _ 1 1 Try.underlying34 hi4 hz40 hz41 hz42 rfl (by decide) (.slice ro2 k rc2) k (bools g a k) rfl (ownsRow_exts HO3.out (by repeat (first | exact Exts.refl _ | apply Exts.andR | apply Exts.alloc | apply Exts.wext | apply Exts.drew | apply Exts.drewN))) ⟨_, 0, none⟩ 1 1 [.bool t] rfl rfl (by intro j u hj; match j, hj with | 0, hj => (simp at hj; subst hj; simp [go_sem])) (bool_one _) (by decide) (by unfold maxLen; omega) (by omega) (by have := HB3.out; simp; omega) _ rfl ?_; intro g2 cg w9 hown' hgrow hat hlt'))
          refine ⟨⟨k + 1, by omega, by go_num, exts_of_grown (W := W) (HX3.out.trans (by repeat (first | exact Exts.refl _ | apply Exts.andR | apply Exts.alloc | apply Exts.wext | apply Exts.drew | apply Exts.drewN))) hgrow (fun b hb => owns_base HO3.out hb), by rw [HE.out, HT.out]; exact hown'⟩, ?_⟩
          simp [intOf]; omega
        · obtain rfl : m = k := by omega
          have hra := Lib.hid (show RowF (fun _ => True) 1 wr (.slice ro2 m rc2) m (bools g a m) from (RowF.of_owns HO3.out).mono fun _ _ => trivial)
          have hta := Lib.hid (TypedBy.of_owns HO3.out)
          go_wp2_with (at_builtin; refine wpList_append_lies _ rfl (.tmp 38) (.tmp 40) 29 rfl w1.heap.size 34 i0 _ 1 24 Try.underlying29 hi hz0 hz1 hz2 rfl (by decide) (.slice oo a oc) a rows rfl (ownsRow_exts (ownsRow_exts HO.out HX3.out) (by repeat (first | exact Exts.refl _ | apply Exts.andR | apply Exts.alloc | apply Exts.wext | apply Exts.drew | apply Exts.drewN))) ⟨_, 0, none⟩ 1 1 [.slice ro2 m rc2] rfl rfl (by intro j u hj; match j, hj with | 0, hj => (simp at hj; subst hj; simp [go_sem])) (by intro u hu; simp at hu; subst hu; rfl) (by decide) (by unfold maxLen; omega) (by omega) (by have := HBS.out; have := HB3.out; simp; omega) _ rfl ?_; intro g2 cg w9 hown' hgrow hat hlt')
          refine ⟨⟨a + 1, rows ++ [.slice ro2 m rc2], by omega, by go_num, exts_of_grown (W := w1) (HX2.out.trans (HX3.out.trans (by repeat (first | exact Exts.refl _ | apply Exts.andR | apply Exts.alloc | apply Exts.wext | apply Exts.drew | apply Exts.drewN)))) hgrow (fun b hb => owns_base HO.out hb), hown', rows_round (w := wr.alloc (.cells #[.slice ro2 m rc2] 34)) HO.out HIN.out (HX3.out.trans (by repeat (first | exact Exts.refl _ | apply Exts.andR | apply Exts.alloc | apply Exts.wext | apply Exts.drew | apply Exts.drewN))) (RowF.exts hra.out (by repeat (first | exact Exts.refl _ | apply Exts.andR | apply Exts.alloc | apply Exts.wext | apply Exts.drew | apply Exts.drewN))) (TypedBy.exts hta.out (by repeat (first | exact Exts.refl _ | apply Exts.andR | apply Exts.alloc | apply Exts.wext | apply Exts.drew | apply Exts.drewN))) hgrow⟩, ?_⟩
          simp [intOf]; omega
    · obtain rfl : m = a := by omega
      have HR := Lib.hid (show BRows wr oo m m oc g from ⟨rows, (RowF.of_owns HO.out).mono fun _ _ => trivial, fun a ha => let ⟨bo, bc, h1, h2, _⟩ := HIN.out a ha; ⟨bo, bc, h1, h2⟩⟩)
      go_wp2
      go_ret3
      exact ⟨oo, m, oc, none, 0, 0, 0, rfl, HX.out.trans HX2.out, .inr (.inr ⟨by rw [HG.out], rfl, rfl, rfl, by rw [HG.out]; exact HR.out⟩)⟩
theorem closure11 {S : Nat → Prop} (V : Int) (po : Option Addr) (n c : Nat) (ps : List Pr) (w : World) (h : Prs S w po n c ps) :
    Calls Try.prog 11 #[.agg #[.int .i64 V, .slice po n c]] w fun e w' => ∃ ro rn rc co cn cc code, e = .returned (.tuple #[.slice ro rn rc, .slice co cn cc, .int .i64 code]) ∧ Exts w w' ∧ CloRes V ps w w' ro rn rc co cn cc code := by
  cases hv : validB V ps with
  | false => exact closure11_inv V po n c ps w h hv
  | true =>
    cases hy : cycB (clR (pairRel ps)) with
    | true => exact closure11_cir V po n c ps w h hv hy
    | false =>
      obtain ⟨⟨v1, _⟩, _⟩ := valid_in hv
      obtain ⟨m, rfl⟩ : ∃ m : Nat, V = m := ⟨V.toNat, by omega⟩
      have hg := closed_yes hv hy
      exact closure11_ok m po n c ps _ w h hv hy hg
/-! What Closure hands back, as functions of the dimension. -/
open Classical in
noncomputable def circL (f : Rel) : List Int := if h : ∃ C, IsCirc f C then (Classical.choose h).map Int.ofNat else []
theorem circL_eq {f : Rel} {C : List Nat} (h : IsCirc f C) : circL f = C.map Int.ofNat := by
  have hx : ∃ C, IsCirc f C := ⟨C, h⟩
  unfold circL
  rw [dif_pos hx, circ_one (Classical.choose_spec hx) h]
noncomputable def cloE (V : Int) (ps : List Pr) : Int := if validB V ps = true then (if (closedD V ps).2 = true then 0 else 16) else 1
noncomputable def cloN (V : Int) (ps : List Pr) : Nat := if (closedD V ps).2 = true then V.toNat else 0
noncomputable def cloL (V : Int) (ps : List Pr) : List Int := if validB V ps = true ∧ (closedD V ps).2 = false then circL (pairRel ps) else []
theorem clo_res {V : Int} {ps : List Pr} {w w' : World} {ro co : Option Addr} {rn rc cn cc : Nat} {code : Int} (h : CloRes V ps w w' ro rn rc co cn cc code) : code = cloE V ps ∧ rn = cloN V ps ∧ cn = (cloL V ps).length ∧ (0 < rn → BRows w' ro rn rn rc (closedD V ps).1) ∧ (0 < cn → Ints (fun _ => True) w' co cn cc (cloL V ps)) := by
  rcases h with ⟨h1, rfl, rfl, rfl⟩ | ⟨h1, h2, rfl, rfl, C, hC, rfl, hI⟩ | ⟨h1, h2, rfl, rfl, h3⟩
  · have h2 : (closedD V ps).2 = false := by rw [closed_no (.inl h1)]
    refine ⟨by simp [cloE, h1], by simp [cloN, h2], by simp [cloL, h1], fun h => by omega, fun h => by omega⟩
  · have e : cloL V ps = C.map Int.ofNat := by unfold cloL; rw [if_pos ⟨h1, h2⟩, circL_eq hC]
    refine ⟨by simp [cloE, h1, h2], by simp [cloN, h2], by rw [e, List.length_map], fun h => by omega, fun _ => ?_⟩
    rw [e]
    exact RowF.mono hI fun _ _ => trivial
  · have hv : validB V ps = true := by
      obtain ⟨g, hg⟩ := closed_ok h1
      exact (closed_valid hg).1
    refine ⟨by simp [cloE, hv, h1], by simp [cloN, h1]; omega, by simp [cloL, h1], fun _ => h3, fun h => by omega⟩
end Go.Proofs.Ytbafcfbchbjgfaa
