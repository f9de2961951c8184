/- Right, strong, in and Atleast of the reference of chapter 38. No condition. -/
import Derived.Test.YtbafcfbchbjgfaaRefCirc
import Derived.Test.YtbafcfbchbjgfaaRefValid
import Derived.Deep.RegionHeld3
namespace Go.Proofs.Ytbafcfbchbjgfaa
open Go.RowKit
set_option linter.unusedSimpArgs false
set_option linter.unusedVariables false
theorem refValid27_D {S : Nat → Prop} (V : Int) (po : Option Addr) (n c : Nat) (ps : List Pr) (r : Bool) (w : World) (h : Prs S w po n c ps) (hr : validB V ps = r) :
    Calls Try.prog 27 #[.agg #[.int .i64 V, .slice po n c]] w fun e w' => e = .returned (.bool r) ∧ Exts w w' := by
  subst hr
  exact refValid27 V po n c ps w h
/-- Circle, of a valid dimension: is there one? -/
theorem circle36_B {S' : Nat → Prop} (V : Int) (po : Option Addr) (n c : Nat) (ps : List Pr) (r : Bool) (w : World) (h : Prs S' w po n c ps) (hv : validB V ps = true) (hr : cycB (clR (pairRel ps)) = r) :
    Calls Try.prog 36 #[.agg #[.int .i64 V, .slice po n c]] w fun e w' => ∃ (L : Nat) (ro : Option Addr) (rc : Nat), e = .returned (.slice ro L rc) ∧ Exts w w' ∧ decide ((0 : Int) < (L : Int)) = r ∧ decide (0 < L) = r := by
  obtain ⟨⟨h1, h2⟩, _, h3⟩ := valid_in hv
  obtain ⟨m, rfl⟩ : ∃ m : Nat, V = m := ⟨V.toNat, by omega⟩
  refine (circle36 m po n c ps w h (by omega) h3).mono ?_
  rintro e w' ⟨C, ro, rc, rfl, hc, hx, _⟩
  have hn := circ_nil hc
  rw [hr] at hn
  exact ⟨C.length, ro, rc, rfl, hx, by rw [hn]; simp, hn.symm⟩
theorem closed_snd {V : Int} {ps : List Pr} : (closedD V ps).2 = (validB V ps && !cycB (clR (pairRel ps))) := by
  cases hv : validB V ps with
  | false => rw [closed_no (.inl hv)]; rfl
  | true =>
    cases hc : cycB (clR (pairRel ps)) with
    | true => rw [closed_no (.inr hc)]; rfl
    | false => rw [closed_yes hv hc]; rfl
set_option maxRecDepth 100000
set_option maxHeartbeats 2000000
theorem right20 {S : Nat → Prop} (lo : Option Addr) (n c : Nat) (D : List Dm) (w : World) (h : Dims S w lo n c D) :
    Calls Try.prog 20 #[.slice lo n c] w fun e w' => e = .returned (.bool (rightD D)) ∧ Exts w w' := by
  have hm := h.nle
  unfold maxLen at hm
  have hl := h.1
  have H := Lib.hid h
  have HL := Lib.hid hl
  clear h hl
  go_enter Try.func20, Try.ntmps20
  go_wp2
  go_loopw [3] (fun i wr => ∃ (k : Nat), k ≤ n ∧ i = .int .i64 k ∧ Exts w wr ∧ ∀ d ∈ D.take k, (closedD d.1 d.2).2 = true) (fun i _ => n - (intOf i).toNat)
  case atStart => exact ⟨0, by omega, rfl, Exts.refl _, by simp⟩
  case round =>
    obtain ⟨k, hk, rfl, ⟨x, rfl⟩, hin⟩ := hrel
    have HI := Lib.hid hin
    clear hin
    by_cases hlt : k < n
    · obtain ⟨b, off, V, ps, po, pc, rfl, hb, hd, e0, e1, hp⟩ := H.out.get hlt
      have HP := Lib.hid hp
      have HD := Lib.hid hd
      clear hp hd
      cases hv : validB V ps with
      | false =>
        have HV := Lib.hid hv
        have HR := Lib.hid (show rightD D = false by
          refine Bool.eq_false_iff.2 fun hc => ?_
          simp only [rightD, Bool.and_eq_true, List.all_eq_true] at hc
          have := hc.1 (V, ps) (List.mem_of_getElem? HD.out)
          simp only [closed_snd, HV.out] at this
          cases this)
        clear hv
        go_wp2_with (first | (go_at_call 27; ((with_reducible refine (refValid27_D _ _ _ _ ps _ _ (RowF.exts HP.out (by repeat (first | exact Exts.refl _ | apply Exts.andR | apply Exts.alloc | apply Exts.wext | apply Exts.drew | apply Exts.drewN))) HV.out).mono ?_); rintro e w' ⟨rfl, x1, rfl⟩)))
        go_ret
        exact ⟨by rw [HR.out]; rfl, (by repeat (first | exact Exts.refl _ | apply Exts.andR | apply Exts.alloc | apply Exts.wext | apply Exts.drew | apply Exts.drewN))⟩
      | true =>
        have HV := Lib.hid hv
        clear hv
        cases hy : cycB (clR (pairRel ps)) with
        | true =>
          have HY := Lib.hid hy
          have HR := Lib.hid (show rightD D = false by
            refine Bool.eq_false_iff.2 fun hc => ?_
            simp only [rightD, Bool.and_eq_true, List.all_eq_true] at hc
            have := hc.1 (V, ps) (List.mem_of_getElem? HD.out)
            simp only [closed_snd, HV.out, HY.out] at this
            cases this)
          clear hy
          go_wp2_with (first | (go_at_call 27; ((with_reducible refine (refValid27_D _ _ _ _ ps _ _ (RowF.exts HP.out (by repeat (first | exact Exts.refl _ | apply Exts.andR | apply Exts.alloc | apply Exts.wext | apply Exts.drew | apply Exts.drewN))) HV.out).mono ?_); rintro e w' ⟨rfl, x1, rfl⟩)) | (go_at_call 36; ((with_reducible refine (circle36_B _ _ _ _ ps _ _ (RowF.exts HP.out (by repeat (first | exact Exts.refl _ | apply Exts.andR | apply Exts.alloc | apply Exts.wext | apply Exts.drew | apply Exts.drewN))) HV.out HY.out).mono ?_); rintro e w' ⟨L, ro, rc, rfl, ⟨x2, rfl⟩, hL, hL2⟩)))
          go_ret
          exact ⟨by rw [HR.out]; rfl, (by repeat (first | exact Exts.refl _ | apply Exts.andR | apply Exts.alloc | apply Exts.wext | apply Exts.drew | apply Exts.drewN))⟩
        | false =>
          have HY := Lib.hid hy
          clear hy
          go_wp2_with (first | (go_at_call 27; ((with_reducible refine (refValid27_D _ _ _ _ ps _ _ (RowF.exts HP.out (by repeat (first | exact Exts.refl _ | apply Exts.andR | apply Exts.alloc | apply Exts.wext | apply Exts.drew | apply Exts.drewN))) HV.out).mono ?_); rintro e w' ⟨rfl, x1, rfl⟩)) | (go_at_call 36; ((with_reducible refine (circle36_B _ _ _ _ ps _ _ (RowF.exts HP.out (by repeat (first | exact Exts.refl _ | apply Exts.andR | apply Exts.alloc | apply Exts.wext | apply Exts.drew | apply Exts.drewN))) HV.out HY.out).mono ?_); rintro e w' ⟨L, ro, rc, rfl, ⟨x2, rfl⟩, hL, hL2⟩)))
          refine ⟨⟨k + 1, by omega, by go_num, (by repeat (first | exact Exts.refl _ | apply Exts.andR | apply Exts.alloc | apply Exts.wext | apply Exts.drew | apply Exts.drewN)), fun q hq => ?_⟩, ?_⟩
          · rw [List.take_add_one, HD.out, List.mem_append] at hq
            rcases hq with hq | hq
            · exact HI.out q hq
            · simp at hq
              rw [hq]
              show (closedD V ps).2 = true
              rw [closed_snd, HV.out, HY.out]
              rfl
          · simp [intOf]; omega
    · obtain rfl : k = n := by omega
      have htk : D.take k = D := List.take_of_length_le (by rw [HL.out]; exact Nat.le_refl _)
      have HR := Lib.hid (show rightD D = decide ((k : Int) ≤ 12) by
        have := HI.out
        rw [htk] at this
        simp only [rightD, HL.out, List.all_eq_true.2 this, Bool.true_and]
        rw [decide_eq_decide]
        omega)
      clear htk
      go_wp2
      go_ret
      exact ⟨by rw [HR.out]; first | rfl | (simp; done), (by repeat (first | exact Exts.refl _ | apply Exts.andR | apply Exts.alloc | apply Exts.wext | apply Exts.drew | apply Exts.drewN))⟩
end Go.Proofs.Ytbafcfbchbjgfaa
