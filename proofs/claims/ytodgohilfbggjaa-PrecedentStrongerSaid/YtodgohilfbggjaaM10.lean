/- Lemmas that the laws of this seat share, 4 texts in one: RefRight, RefStrong, RefClo, Cases. No condition of their own. -/
import Derived.Test.YtodgohilfbggjaaM9
import Derived.Test.YtodgohilfbggjaaM8
import Derived.Deep.RegionHeld3
import Derived.Test.YtodgohilfbggjaaM4
import Derived.Test.YtodgohilfbggjaaM6
import Derived.Deep.AppendLies
import Derived.Test.YtodgohilfbggjaaM7
/- Right, strong, in and Atleast of the reference of chapter 38. No condition. -/
namespace Go.Proofs.Ytodgohilfbggjaa
open Go.RowKit
set_option linter.unusedSimpArgs false
set_option linter.unusedVariables false
theorem refValid27_D {S : Nat → Prop} (V : Int) (po : Option Addr) (n c : Nat) (ps : List Pr) (r : Bool) (w : World) (h : Prs S w po n c ps) (hr : validB V ps = r) :
    Calls Try.prog 57 #[.agg #[.int .i64 V, .slice po n c]] w fun e w' => e = .returned (.bool r) ∧ Exts w w' := by
  subst hr
  exact refValid27 V po n c ps w h
/-- Circle, of a valid dimension: is there one? -/
theorem circle36_B {S' : Nat → Prop} (V : Int) (po : Option Addr) (n c : Nat) (ps : List Pr) (r : Bool) (w : World) (h : Prs S' w po n c ps) (hv : validB V ps = true) (hr : cycB (clR (pairRel ps)) = r) :
    Calls Try.prog 58 #[.agg #[.int .i64 V, .slice po n c]] w fun e w' => ∃ (L : Nat) (ro : Option Addr) (rc : Nat), e = .returned (.slice ro L rc) ∧ Exts w w' ∧ decide ((0 : Int) < (L : Int)) = r ∧ decide (0 < L) = r := by
  obtain ⟨⟨h1, h2⟩, _, h3⟩ := valid_in hv
  obtain ⟨m, rfl⟩ : ∃ m : Nat, V = m := ⟨V.toNat, by omega⟩
  refine (circle36 m po n c ps w h (by omega) h3).mono ?_
  rintro e w' ⟨C, ro, rc, rfl, hc, hx, _⟩
  have hn := circ_nil hc
  rw [hr] at hn
  exact ⟨C.length, ro, rc, rfl, hx, by rw [hn]; simp, hn.symm⟩
theorem closed_snd {V : Int} {ps : List Pr} : (closedD V ps).2 = (validB V ps && !cycB (clR (pairRel ps))) := by
  cases hv : validB V ps with
  | false => rw [closed_no (.inl hv)]; rfl
  | true =>
    cases hc : cycB (clR (pairRel ps)) with
    | true => rw [closed_no (.inr hc)]; rfl
    | false => rw [closed_yes hv hc]; rfl
set_option maxRecDepth 100000
set_option maxHeartbeats 2000000
theorem right20 {S : Nat → Prop} (lo : Option Addr) (n c : Nat) (D : List Dm) (w : World) (h : Dims S w lo n c D) :
    Calls Try.prog 50 #[.slice lo n c] w fun e w' => e = .returned (.bool (rightD D)) ∧ Exts w w' := by
  have hm := h.nle
  unfold maxLen at hm
  have hl := h.1
  have H := Lib.hid h
  have HL := Lib.hid hl
  clear h hl
  go_enter Try.func50, Try.ntmps50
  go_wp2
  go_loopw [3] (fun i wr => ∃ (k : Nat), k ≤ n ∧ i = .int .i64 k ∧ Exts w wr ∧ ∀ d ∈ D.take k, (closedD d.1 d.2).2 = true) (fun i _ => n - (intOf i).toNat)
  case atStart => exact ⟨0, by omega, rfl, Exts.refl _, by simp⟩
  case round =>
    obtain ⟨k, hk, rfl, ⟨x, rfl⟩, hin⟩ := hrel
    have HI := Lib.hid hin
    clear hin
    by_cases hlt : k < n
    · obtain ⟨b, off, V, ps, po, pc, rfl, hb, hd, e0, e1, hp⟩ := H.out.get hlt
      have HP := Lib.hid hp
      have HD := Lib.hid hd
      clear hp hd
      cases hv : validB V ps with
      | false =>
        have HV := Lib.hid hv
        have HR := Lib.hid (show rightD D = false by
          refine Bool.eq_false_iff.2 fun hc => ?_
          simp only [rightD, Bool.and_eq_true, List.all_eq_true] at hc
          have := hc.1 (V, ps) (List.mem_of_getElem? HD.out)
          simp only [closed_snd, HV.out] at this
          cases this)
        clear hv
        go_wp2_with (first | (go_at_call 57; ((with_reducible refine (refValid27_D _ _ _ _ ps _ _ (RowF.exts HP.out (by repeat (first | exact Exts.refl _ | apply Exts.andR | apply Exts.alloc | apply Exts.wext | apply Exts.drew | apply Exts.drewN))) HV.out).mono ?_); rintro e w' ⟨rfl, x1, rfl⟩)))
        go_ret
        exact ⟨by rw [HR.out]; rfl, (by repeat (first | exact Exts.refl _ | apply Exts.andR | apply Exts.alloc | apply Exts.wext | apply Exts.drew | apply Exts.drewN))⟩
      | true =>
        have HV := Lib.hid hv
        clear hv
        cases hy : cycB (clR (pairRel ps)) with
        | true =>
          have HY := Lib.hid hy
          have HR := Lib.hid (show rightD D = false by
            refine Bool.eq_false_iff.2 fun hc => ?_
            simp only [rightD, Bool.and_eq_true, List.all_eq_true] at hc
            have := hc.1 (V, ps) (List.mem_of_getElem? HD.out)
            simp only [closed_snd, HV.out, HY.out] at this
            cases this)
          clear hy
          go_wp2_with (first | (go_at_call 57; ((with_reducible refine (refValid27_D _ _ _ _ ps _ _ (RowF.exts HP.out (by repeat (first | exact Exts.refl _ | apply Exts.andR | apply Exts.alloc | apply Exts.wext | apply Exts.drew | apply Exts.drewN))) HV.out).mono ?_); rintro e w' ⟨rfl, x1, rfl⟩)) | (go_at_call 58; ((with_reducible refine (circle36_B _ _ _ _ ps _ _ (RowF.exts HP.out (by repeat (first | exact Exts.refl _ | apply Exts.andR | apply Exts.alloc | apply Exts.wext | apply Exts.drew | apply Exts.drewN))) HV.out HY.out).mono ?_); rintro e w' ⟨L, ro, rc, rfl, ⟨x2, rfl⟩, hL, hL2⟩)))
          go_ret
          exact ⟨by rw [HR.out]; rfl, (by repeat (first | exact Exts.refl _ | apply Exts.andR | apply Exts.alloc | apply Exts.wext | apply Exts.drew | apply Exts.drewN))⟩
        | false =>
          have HY := Lib.hid hy
          clear hy
          go_wp2_with (first | (go_at_call 57; ((with_reducible refine (refValid27_D _ _ _ _ ps _ _ (RowF.exts HP.out (by repeat (first | exact Exts.refl _ | apply Exts.andR | apply Exts.alloc | apply Exts.wext | apply Exts.drew | apply Exts.drewN))) HV.out).mono ?_); rintro e w' ⟨rfl, x1, rfl⟩)) | (go_at_call 58; ((with_reducible refine (circle36_B _ _ _ _ ps _ _ (RowF.exts HP.out (by repeat (first | exact Exts.refl _ | apply Exts.andR | apply Exts.alloc | apply Exts.wext | apply Exts.drew | apply Exts.drewN))) HV.out HY.out).mono ?_); rintro e w' ⟨L, ro, rc, rfl, ⟨x2, rfl⟩, hL, hL2⟩)))
          refine ⟨⟨k + 1, by omega, by go_num, (by repeat (first | exact Exts.refl _ | apply Exts.andR | apply Exts.alloc | apply Exts.wext | apply Exts.drew | apply Exts.drewN)), fun q hq => ?_⟩, ?_⟩
          · rw [List.take_add_one, HD.out, List.mem_append] at hq
            rcases hq with hq | hq
            · exact HI.out q hq
            · simp at hq
              rw [hq]
              show (closedD V ps).2 = true
              rw [closed_snd, HV.out, HY.out]
              rfl
          · simp [intOf]; omega
    · obtain rfl : k = n := by omega
      have htk : D.take k = D := List.take_of_length_le (by rw [HL.out]; exact Nat.le_refl _)
      have HR := Lib.hid (show rightD D = decide ((k : Int) ≤ 12) by
        have := HI.out
        rw [htk] at this
        simp only [rightD, HL.out, List.all_eq_true.2 this, Bool.true_and]
        rw [decide_eq_decide]
        omega)
      clear htk
      go_wp2
      go_ret
      exact ⟨by rw [HR.out]; first | rfl | (simp; done), (by repeat (first | exact Exts.refl _ | apply Exts.andR | apply Exts.alloc | apply Exts.wext | apply Exts.drew | apply Exts.drewN))⟩
end Go.Proofs.Ytodgohilfbggjaa

/- strong, in and Atleast of the reference of chapter 38. No condition. -/
namespace Go.Proofs.Ytodgohilfbggjaa
open Go.RowKit
set_option linter.unusedSimpArgs false
set_option linter.unusedVariables false
theorem right20_D {S : Nat → Prop} (lo : Option Addr) (n c : Nat) (D : List Dm) (r : Bool) (w : World) (h : Dims S w lo n c D) (hr : rightD D = r) :
    Calls Try.prog 50 #[.slice lo n c] w fun e w' => e = .returned (.bool r) ∧ Exts w w' := by
  subst hr
  exact right20 lo n c D w h
theorem right_one (V : Int) (ps : List Pr) : rightD [(V, ps)] = (closedD V ps).2 := by simp [rightD]
theorem rel_in {m : Nat} {ps : List Pr} (hin : ∀ p ∈ ps, 0 ≤ p.1 ∧ p.1 < (m : Int) ∧ 0 ≤ p.2 ∧ p.2 < (m : Int)) : ∀ x y, pairRel ps x y = true → x < m ∧ y < m := fun x y h => by
  simp only [pairRel, List.any_eq_true, Bool.and_eq_true, beq_iff_eq] at h
  obtain ⟨p, hp, h1, h2⟩ := h
  have := hin p hp
  omega
theorem way42_0 {S : Nat → Prop} (m : Nat) (po : Option Addr) (n c : Nat) (ps : List Pr) (a b r : Nat) (w : World) (h : Prs S w po n c ps) (hm12 : m ≤ 12) (hin : ∀ p ∈ ps, 0 ≤ p.1 ∧ p.1 < (m : Int) ∧ 0 ≤ p.2 ∧ p.2 < (m : Int)) (ha : a < m) (hr : wayN (pairRel ps) m 0 a b = r) :
    Calls Try.prog 65 #[.agg #[.int .i64 m, .slice po n c], .int .i64 a, .int .i64 b, .int .i64 0] w fun e w' => e = .returned (.int .i64 r) ∧ Exts w w' := way42_D m po n c ps a b 0 r w h hm12 hin ha (Nat.zero_le _) hr
set_option maxRecDepth 100000
set_option maxHeartbeats 2000000
theorem strong37 {S : Nat → Prop} (m : Nat) (po : Option Addr) (n c : Nat) (ps : List Pr) (a b : Nat) (w : World) (h : Prs S w po n c ps) (hm12 : m ≤ 12) (hin : ∀ p ∈ ps, 0 ≤ p.1 ∧ p.1 < (m : Int) ∧ 0 ≤ p.2 ∧ p.2 < (m : Int)) (ha : a < m) :
    Calls Try.prog 64 #[.agg #[.int .i64 m, .slice po n c], .int .i64 a, .int .i64 b] w fun e w' => e = .returned (.bool (diagR (clR (pairRel ps)) m a b)) ∧ Exts w w' := by
  have hs := strong_rel (b := b) (rel_in hin) ha
  have H := Lib.hid h
  have HIN := Lib.hid hin
  obtain ⟨r, hr⟩ : ∃ r, wayN (pairRel ps) m 0 a b = r := ⟨_, rfl⟩
  have hr12 : r ≤ m := by rw [← hr]; exact wayN_le _ _ _ _ _
  rw [hr] at hs
  rw [← hs]
  have HW := Lib.hid hr
  clear h hin hr hs
  by_cases hab : a = b
  · subst hab
    go_enter Try.func64, Try.ntmps64
    go_wp2_with (first | (go_at_call 65; ((with_reducible refine (way42_0 _ _ _ _ ps _ _ r _ (RowF.exts H.out (by repeat (first | exact Exts.refl _ | apply Exts.andR | apply Exts.alloc | apply Exts.wext | apply Exts.drew | apply Exts.drewN))) hm12 HIN.out ha HW.out).mono ?_); rintro e w' ⟨rfl, x1, rfl⟩)))
    go_ret
    exact ⟨by simp, (by repeat (first | exact Exts.refl _ | apply Exts.andR | apply Exts.alloc | apply Exts.wext | apply Exts.drew | apply Exts.drewN))⟩
  · have q1 : ((a : Int) == (b : Int)) = false := by simp; omega
    have q2 : (a == b) = false := by simpa using hab
    rw [q2, Bool.false_or]
    clear hab
    by_cases hr0 : 0 < r
    · have q3 : decide ((0 : Int) < (r : Int)) = true := by simp; omega
      have q4 : decide (0 < r) = true := by simp; omega
      have HQ := Lib.hid q4
      clear hr0
      go_enter Try.func64, Try.ntmps64
      go_wp2_with (first | (go_at_call 65; ((with_reducible refine (way42_0 _ _ _ _ ps _ _ r _ (RowF.exts H.out (by repeat (first | exact Exts.refl _ | apply Exts.andR | apply Exts.alloc | apply Exts.wext | apply Exts.drew | apply Exts.drewN))) hm12 HIN.out ha HW.out).mono ?_); rintro e w' ⟨rfl, x1, rfl⟩)))
      go_ret
      exact ⟨by simp [HQ.out], (by repeat (first | exact Exts.refl _ | apply Exts.andR | apply Exts.alloc | apply Exts.wext | apply Exts.drew | apply Exts.drewN))⟩
    · have q3 : decide ((0 : Int) < (r : Int)) = false := by simp; omega
      have q4 : decide (0 < r) = false := by simp; omega
      have HQ := Lib.hid q4
      clear hr0
      go_enter Try.func64, Try.ntmps64
      go_wp2_with (first | (go_at_call 65; ((with_reducible refine (way42_0 _ _ _ _ ps _ _ r _ (RowF.exts H.out (by repeat (first | exact Exts.refl _ | apply Exts.andR | apply Exts.alloc | apply Exts.wext | apply Exts.drew | apply Exts.drewN))) hm12 HIN.out ha HW.out).mono ?_); rintro e w' ⟨rfl, x1, rfl⟩)))
      go_ret
      exact ⟨by simp [HQ.out], (by repeat (first | exact Exts.refl _ | apply Exts.andR | apply Exts.alloc | apply Exts.wext | apply Exts.drew | apply Exts.drewN))⟩
theorem strong37_D {S : Nat → Prop} (m : Nat) (po : Option Addr) (n c : Nat) (ps : List Pr) (a b : Nat) (g : Rel) (r : Bool) (w : World) (h : Prs S w po n c ps) (hg : closedD (m : Int) ps = (g, true)) (ha : a < m) (hr : g a b = r) :
    Calls Try.prog 64 #[.agg #[.int .i64 m, .slice po n c], .int .i64 a, .int .i64 b] w fun e w' => e = .returned (.bool r) ∧ Exts w w' := by
  subst hr
  obtain ⟨hv, _, rfl⟩ := closed_valid hg
  obtain ⟨⟨h1, h2⟩, _, h3⟩ := valid_in hv
  exact strong37 m po n c ps a b w h (by omega) h3 ha
end Go.Proofs.Ytodgohilfbggjaa

/- Closure of the reference of chapter 38. No condition. -/
namespace Go.Proofs.Ytodgohilfbggjaa
open Go.RowKit
set_option linter.unusedSimpArgs false
set_option linter.unusedVariables false
/-- Circle, of a valid dimension, all of it. -/
theorem circle36_V {S' : Nat → Prop} (V : Int) (po : Option Addr) (n c : Nat) (ps : List Pr) (r : Bool) (w : World) (h : Prs S' w po n c ps) (hv : validB V ps = true) (hr : cycB (clR (pairRel ps)) = r) :
    Calls Try.prog 58 #[.agg #[.int .i64 V, .slice po n c]] w fun e w' => ∃ (L : Nat) (C : List Nat) (ro : Option Addr) (rc : Nat), e = .returned (.slice ro L rc) ∧ Exts w w' ∧ decide ((0 : Int) < (L : Int)) = r ∧ decide (0 < L) = r ∧ C.length = L ∧ IsCirc (pairRel ps) C ∧ Ints (fun b => w.heap.size ≤ b) w' ro C.length rc (C.map Int.ofNat) := by
  obtain ⟨⟨h1, h2⟩, _, h3⟩ := valid_in hv
  obtain ⟨m, rfl⟩ : ∃ m : Nat, V = m := ⟨V.toNat, by omega⟩
  refine (circle36 m po n c ps w h (by omega) h3).mono ?_
  rintro e w' ⟨C, ro, rc, rfl, hc, hx, hI⟩
  have hn := circ_nil hc
  rw [hr] at hn
  exact ⟨C.length, C, ro, rc, rfl, hx, by rw [hn]; simp, hn.symm, rfl, hc, hI⟩
set_option maxRecDepth 100000
set_option maxHeartbeats 4000000
theorem closure11_inv {S : Nat → Prop} (V : Int) (po : Option Addr) (n c : Nat) (ps : List Pr) (w : World) (h : Prs S w po n c ps) (hv : validB V ps = false) :
    Calls Try.prog 55 #[.agg #[.int .i64 V, .slice po n c]] w fun e w' => ∃ ro rn rc co cn cc code, e = .returned (.tuple #[.slice ro rn rc, .slice co cn cc, .int .i64 code]) ∧ Exts w w' ∧ CloRes V ps w w' ro rn rc co cn cc code := by
  have HV := Lib.hid hv
  have H := Lib.hid h
  clear h hv
  go_enter Try.func55, Try.ntmps55
  go_wp2_with (first | (go_at_call 57; ((with_reducible refine (refValid27_D _ _ _ _ ps _ _ (RowF.exts H.out (by repeat (first | exact Exts.refl _ | apply Exts.andR | apply Exts.alloc | apply Exts.wext | apply Exts.drew | apply Exts.drewN))) HV.out).mono ?_); rintro e w' ⟨rfl, x1, rfl⟩)))
  go_ret3
  exact ⟨none, 0, 0, none, 0, 0, 1, rfl, (by repeat (first | exact Exts.refl _ | apply Exts.andR | apply Exts.alloc | apply Exts.wext | apply Exts.drew | apply Exts.drewN)), .inl ⟨HV.out, rfl, rfl, rfl⟩⟩
theorem closure11_cir {S : Nat → Prop} (V : Int) (po : Option Addr) (n c : Nat) (ps : List Pr) (w : World) (h : Prs S w po n c ps) (hv : validB V ps = true) (hy : cycB (clR (pairRel ps)) = true) :
    Calls Try.prog 55 #[.agg #[.int .i64 V, .slice po n c]] w fun e w' => ∃ ro rn rc co cn cc code, e = .returned (.tuple #[.slice ro rn rc, .slice co cn cc, .int .i64 code]) ∧ Exts w w' ∧ CloRes V ps w w' ro rn rc co cn cc code := by
  have HV := Lib.hid hv
  have HY := Lib.hid hy
  have HG := Lib.hid (closed_no (V := V) (.inr hy))
  have H := Lib.hid h
  clear h hv hy
  go_enter Try.func55, Try.ntmps55
  go_wp2_with (first | (go_at_call 57; ((with_reducible refine (refValid27_D _ _ _ _ ps _ _ (RowF.exts H.out (by repeat (first | exact Exts.refl _ | apply Exts.andR | apply Exts.alloc | apply Exts.wext | apply Exts.drew | apply Exts.drewN))) HV.out).mono ?_); rintro e w' ⟨rfl, x1, rfl⟩)) | (go_at_call 58; ((with_reducible refine (circle36_V _ _ _ _ ps _ _ (RowF.exts H.out (by repeat (first | exact Exts.refl _ | apply Exts.andR | apply Exts.alloc | apply Exts.wext | apply Exts.drew | apply Exts.drewN))) HV.out HY.out).mono ?_); rintro e w' ⟨L, C, ro, rc, rfl, ⟨x2, rfl⟩, hL, hL2, hl, hc, hI⟩; (have HLN := Lib.hid hl); (have HC := Lib.hid hc); (try simp only [wext_and] at hI); (have HI := Lib.hid (RowF.mono (S' := fun b => w.heap.size ≤ b) hI fun b hb => Nat.le_trans (by simp; omega) hb)); clear hl hc hI)))
  go_ret3
  exact ⟨none, 0, 0, ro, C.length, rc, 16, by rw [HLN.out]; rfl, (by repeat (first | exact Exts.refl _ | apply Exts.andR | apply Exts.alloc | apply Exts.wext | apply Exts.drew | apply Exts.drewN)), .inr (.inl ⟨HV.out, by rw [HG.out], rfl, rfl, C, HC.out, rfl, RowF.exts HI.out (by repeat (first | exact Exts.refl _ | apply Exts.andR | apply Exts.alloc | apply Exts.wext | apply Exts.drew | apply Exts.drewN))⟩)⟩
theorem bools_next (g : Rel) (a k : Nat) : bools g a (k + 1) = bools g a k ++ [.bool (g a k)] := by simp [bools, List.range_succ]
theorem bool_one (b : Bool) : ∀ u ∈ [Value.bool b], u.oneCell' = true := by
  intro u hu
  simp at hu
  subst hu
  rfl
theorem info4c : (Try.prog.info? 4).map (fun i => (i.zero, i.size, i.bytes)) = some (some (.bool false), 1, 1) := by kernel_rfl
theorem closure11_ok {S' : Nat → Prop} (m : Nat) (po : Option Addr) (n c : Nat) (ps : List Pr) (g : Rel) (w : World) (h : Prs S' w po n c ps) (hv : validB (m : Int) ps = true) (hy : cycB (clR (pairRel ps)) = false) (hg : closedD (m : Int) ps = (g, true)) :
    Calls Try.prog 55 #[.agg #[.int .i64 m, .slice po n c]] w fun e w' => ∃ ro rn rc co cn cc code, e = .returned (.tuple #[.slice ro rn rc, .slice co cn cc, .int .i64 code]) ∧ Exts w w' ∧ CloRes (m : Int) ps w w' ro rn rc co cn cc code := by
  obtain ⟨i0, hi, hz0, hz1, hz2⟩ := info_parts info34
  obtain ⟨i4, hi4, hz40, hz41, hz42⟩ := info_parts info4c
  obtain ⟨⟨v1, v2⟩, _⟩ := valid_in hv
  have hm12 : m ≤ 12 := by omega
  have HV := Lib.hid hv
  have HY := Lib.hid hy
  have HG := Lib.hid hg
  have H := Lib.hid h
  clear h hv hy hg v1 v2
  go_enter Try.func55, Try.ntmps55
  go_wp2_with (first | (go_at_call 57; ((with_reducible refine (refValid27_D _ _ _ _ ps _ _ (RowF.exts H.out (by repeat (first | exact Exts.refl _ | apply Exts.andR | apply Exts.alloc | apply Exts.wext | apply Exts.drew | apply Exts.drewN))) HV.out).mono ?_); rintro e w' ⟨rfl, x1, rfl⟩)) | (go_at_call 58; ((with_reducible refine (circle36_V _ _ _ _ ps _ _ (RowF.exts H.out (by repeat (first | exact Exts.refl _ | apply Exts.andR | apply Exts.alloc | apply Exts.wext | apply Exts.drew | apply Exts.drewN))) HV.out HY.out).mono ?_); rintro e w' ⟨L, C, ro, rc, rfl, ⟨x2, rfl⟩, hL, hL2, hl, hc, hI⟩; (have HLN := Lib.hid hl); (have HC := Lib.hid hc); (try simp only [wext_and] at hI); (have HI := Lib.hid (RowF.mono (S' := fun b => w.heap.size ≤ b) hI fun b hb => Nat.le_trans (by simp; omega) hb)); clear hl hc hI)))
  clear HLN HC HI
  obtain ⟨w1, hw1⟩ : ∃ w1, wext (w.alloc (.cells #[.int .i64 m, .slice po n c] 52)) (x1.and x2) = w1 := ⟨_, rfl⟩
  have HX := Lib.hid (show Exts w w1 by rw [← hw1]; exact (by repeat (first | exact Exts.refl _ | apply Exts.andR | apply Exts.alloc | apply Exts.wext | apply Exts.drew | apply Exts.drewN)))
  have HP := Lib.hid (show Prs S' w1 po n c ps from RowF.exts H.out HX.out)
  have cO0 : w1.cell? ⟨w.heap.size, 0, none⟩ = some (.int .i64 m) := by rw [← hw1]; simp [go_sem]
  have cO1 : w1.cell? ⟨w.heap.size, 1, none⟩ = some (.slice po n c) := by rw [← hw1]; simp [go_sem]
  have lO : w.heap.size < w1.heap.size := by rw [← hw1]; simp; omega
  rw [hw1]
  clear hw1 H
  go_loopw [6, 7] (fun o i wr => ∃ (a : Nat) (rows : List Value), a ≤ m ∧ i = .int .i64 a ∧ Exts w1 wr ∧ wr.ownsRow w1.heap.size 91 1 o a rows ∧ RowsIn wr a m g rows) (fun _ i _ => m - (intOf i).toNat)
  case atStart => exact ⟨0, [], by omega, rfl, Exts.refl _, World.ownsRow_nil _ _ _ _, fun a ha => by omega⟩
  case round =>
    obtain ⟨a, rows, ha, rfl, hx, hown, hin⟩ := hrel
    have HX2 := Lib.hid hx
    have HO := Lib.hid hown
    have HIN := Lib.hid hin
    have cO0' := Exts.cell hx cO0
    have cO1' := Exts.cell hx cO1
    have lO' : w.heap.size < wr.heap.size := Nat.lt_of_lt_of_le lO hx.below.size
    have HBS := Lib.hid (show w1.heap.size ≤ wr.heap.size from hx.below.size)
    have HP2 := Lib.hid (show Prs S' wr po n c ps from RowF.exts HP.out hx)
    obtain ⟨oo, oc, rfl⟩ := owns_shape hown
    clear hx hown hin
    by_cases hla : a < m
    · obtain ⟨W, hW⟩ : ∃ W, wr = W := ⟨_, rfl⟩
      rw [hW] at HX2 HO HIN cO0' cO1' lO' HBS HP2 ⊢
      clear hW
      go_wp2
      go_loopw [8, 9] (fun o i wr => ∃ (k : Nat), k ≤ m ∧ i = .int .i64 k ∧ Exts W wr ∧ wr.ownsRow W.heap.size 4 1 o k (bools g a k)) (fun _ i _ => m - (intOf i).toNat)
      case atStart => exact ⟨0, by omega, rfl, Exts.refl _, World.ownsRow_nil _ _ _ _⟩
      case round =>
        obtain ⟨k, hk, rfl, hx, hown⟩ := hrel
        have HX3 := Lib.hid hx
        have HO3 := Lib.hid hown
        have cO0'' := Exts.cell hx cO0'
        have cO1'' := Exts.cell hx cO1'
        have lO'' : w.heap.size < wr.heap.size := Nat.lt_of_lt_of_le lO' hx.below.size
        have HB3 := Lib.hid (show W.heap.size ≤ wr.heap.size from hx.below.size)
        have HP3 := Lib.hid (show Prs S' wr po n c ps from RowF.exts HP2.out hx)
        obtain ⟨ro2, rc2, rfl⟩ := owns_shape hown
        clear hx hown
        by_cases hlk : k < m
        · obtain ⟨t, ht⟩ : ∃ t, g a k = t := ⟨_, rfl⟩
          have HT := Lib.hid ht
          have HE := Lib.hid (bools_next g a k)
          clear ht
          go_wp2_with (first | (go_at_call 64; ((with_reducible refine (strong37_D _ _ _ _ ps a k g _ _ (RowF.exts HP3.out (by repeat (first | exact Exts.refl _ | apply Exts.andR | apply Exts.alloc | apply Exts.wext | apply Exts.drew | apply Exts.drewN))) HG.out hla HT.out).mono ?_); rintro e w' ⟨rfl, x5, rfl⟩)) | (at_builtin; refine wpList_append_lies _ rfl (.tmp 31) (.tmp 36) 91 rfl W.heap.size 4 i4 _ 1 1 Try.underlying91 hi4 hz40 hz41 hz42 rfl (by decide) (.slice ro2 k rc2) k (bools g a k) rfl (ownsRow_exts HO3.out (by repeat (first | exact Exts.refl _ | apply Exts.andR | apply Exts.alloc | apply Exts.wext | apply Exts.drew | apply Exts.drewN))) ⟨_, 0, none⟩ 1 1 [.bool t] rfl rfl (by intro j u hj; match j, hj with | 0, hj => (simp at hj; subst hj; simp [go_sem])) (bool_one _) (by decide) (by unfold maxLen; omega) (by omega) (by have := HB3.out; simp; omega) _ rfl ?_; intro g2 cg w9 hown' hgrow hat hlt'))
          refine ⟨⟨k + 1, by omega, by go_num, exts_of_grown (W := W) (HX3.out.trans (by repeat (first | exact Exts.refl _ | apply Exts.andR | apply Exts.alloc | apply Exts.wext | apply Exts.drew | apply Exts.drewN))) hgrow (fun b hb => owns_base HO3.out hb), by rw [HE.out, HT.out]; exact hown'⟩, ?_⟩
          simp [intOf]; omega
        · obtain rfl : m = k := by omega
          have hra := Lib.hid (show RowF (fun _ => True) 1 wr (.slice ro2 m rc2) m (bools g a m) from (RowF.of_owns HO3.out).mono fun _ _ => trivial)
          have hta := Lib.hid (TypedBy.of_owns HO3.out)
          go_wp2_with (at_builtin; refine wpList_append_lies _ rfl (.tmp 38) (.tmp 40) 87 rfl w1.heap.size 91 i0 _ 1 24 Try.underlying87 hi hz0 hz1 hz2 rfl (by decide) (.slice oo a oc) a rows rfl (ownsRow_exts (ownsRow_exts HO.out HX3.out) (by repeat (first | exact Exts.refl _ | apply Exts.andR | apply Exts.alloc | apply Exts.wext | apply Exts.drew | apply Exts.drewN))) ⟨_, 0, none⟩ 1 1 [.slice ro2 m rc2] rfl rfl (by intro j u hj; match j, hj with | 0, hj => (simp at hj; subst hj; simp [go_sem])) (by intro u hu; simp at hu; subst hu; rfl) (by decide) (by unfold maxLen; omega) (by omega) (by have := HBS.out; have := HB3.out; simp; omega) _ rfl ?_; intro g2 cg w9 hown' hgrow hat hlt')
          refine ⟨⟨a + 1, rows ++ [.slice ro2 m rc2], by omega, by go_num, exts_of_grown (W := w1) (HX2.out.trans (HX3.out.trans (by repeat (first | exact Exts.refl _ | apply Exts.andR | apply Exts.alloc | apply Exts.wext | apply Exts.drew | apply Exts.drewN)))) hgrow (fun b hb => owns_base HO.out hb), hown', rows_round (w := wr.alloc (.cells #[.slice ro2 m rc2] 91)) HO.out HIN.out (HX3.out.trans (by repeat (first | exact Exts.refl _ | apply Exts.andR | apply Exts.alloc | apply Exts.wext | apply Exts.drew | apply Exts.drewN))) (RowF.exts hra.out (by repeat (first | exact Exts.refl _ | apply Exts.andR | apply Exts.alloc | apply Exts.wext | apply Exts.drew | apply Exts.drewN))) (TypedBy.exts hta.out (by repeat (first | exact Exts.refl _ | apply Exts.andR | apply Exts.alloc | apply Exts.wext | apply Exts.drew | apply Exts.drewN))) hgrow⟩, ?_⟩
          simp [intOf]; omega
    · obtain rfl : m = a := by omega
      have HR := Lib.hid (show BRows wr oo m m oc g from ⟨TypedBy.of_owns HO.out, rows, (RowF.of_owns HO.out).mono fun _ _ => trivial, fun a ha => HIN.out a ha⟩)
      go_wp2
      go_ret3
      exact ⟨oo, m, oc, none, 0, 0, 0, rfl, HX.out.trans HX2.out, .inr (.inr ⟨by rw [HG.out], rfl, rfl, rfl, by rw [HG.out]; exact HR.out⟩)⟩
theorem closure11 {S : Nat → Prop} (V : Int) (po : Option Addr) (n c : Nat) (ps : List Pr) (w : World) (h : Prs S w po n c ps) :
    Calls Try.prog 55 #[.agg #[.int .i64 V, .slice po n c]] w fun e w' => ∃ ro rn rc co cn cc code, e = .returned (.tuple #[.slice ro rn rc, .slice co cn cc, .int .i64 code]) ∧ Exts w w' ∧ CloRes V ps w w' ro rn rc co cn cc code := by
  cases hv : validB V ps with
  | false => exact closure11_inv V po n c ps w h hv
  | true =>
    cases hy : cycB (clR (pairRel ps)) with
    | true => exact closure11_cir V po n c ps w h hv hy
    | false =>
      obtain ⟨⟨v1, _⟩, _⟩ := valid_in hv
      obtain ⟨m, rfl⟩ : ∃ m : Nat, V = m := ⟨V.toNat, by omega⟩
      have hg := closed_yes hv hy
      exact closure11_ok m po n c ps _ w h hv hy hg
/-! What Closure hands back, as functions of the dimension. -/
open Classical in
noncomputable def circL (f : Rel) : List Int := if h : ∃ C, IsCirc f C then (Classical.choose h).map Int.ofNat else []
theorem circL_eq {f : Rel} {C : List Nat} (h : IsCirc f C) : circL f = C.map Int.ofNat := by
  have hx : ∃ C, IsCirc f C := ⟨C, h⟩
  unfold circL
  rw [dif_pos hx, circ_one (Classical.choose_spec hx) h]
noncomputable def cloE (V : Int) (ps : List Pr) : Int := if validB V ps = true then (if (closedD V ps).2 = true then 0 else 16) else 1
noncomputable def cloN (V : Int) (ps : List Pr) : Nat := if (closedD V ps).2 = true then V.toNat else 0
noncomputable def cloL (V : Int) (ps : List Pr) : List Int := if validB V ps = true ∧ (closedD V ps).2 = false then circL (pairRel ps) else []
theorem clo_res {V : Int} {ps : List Pr} {w w' : World} {ro co : Option Addr} {rn rc cn cc : Nat} {code : Int} (h : CloRes V ps w w' ro rn rc co cn cc code) : code = cloE V ps ∧ rn = cloN V ps ∧ cn = (cloL V ps).length ∧ (0 < rn → BRows w' ro rn rn rc (closedD V ps).1) ∧ (0 < cn → Ints (fun _ => True) w' co cn cc (cloL V ps)) := by
  rcases h with ⟨h1, rfl, rfl, rfl⟩ | ⟨h1, h2, rfl, rfl, C, hC, rfl, hI⟩ | ⟨h1, h2, rfl, rfl, h3⟩
  · have h2 : (closedD V ps).2 = false := by rw [closed_no (.inl h1)]
    refine ⟨by simp [cloE, h1], by simp [cloN, h2], by simp [cloL, h1], fun h => by omega, fun h => by omega⟩
  · have e : cloL V ps = C.map Int.ofNat := by unfold cloL; rw [if_pos ⟨h1, h2⟩, circL_eq hC]
    refine ⟨by simp [cloE, h1, h2], by simp [cloN, h2], by rw [e, List.length_map], fun h => by omega, fun _ => ?_⟩
    rw [e]
    exact RowF.mono hI fun _ _ => trivial
  · have hv : validB V ps = true := by
      obtain ⟨g, hg⟩ := closed_ok h1
      exact (closed_valid hg).1
    refine ⟨by simp [cloE, hv, h1], by simp [cloN, h1]; omega, by simp [cloL, h1], fun _ => h3, fun h => by omega⟩
end Go.Proofs.Ytodgohilfbggjaa

/- Lists of cases, and the closures of a list of dimensions, as they lie in memory. -/
namespace Go.Proofs.Ytodgohilfbggjaa
open Go.RowKit
set_option linter.unusedSimpArgs false
set_option linter.unusedVariables false

structure Cs where
  id : Int
  vals : List Int
  grant : Bool
def IntsV (w : World) (v : Value) (l : List Int) : Prop := ∃ ao c, v = .slice ao l.length c ∧ Ints (fun _ => True) w ao l.length c l
theorem IntsV.exts {w w' : World} {v : Value} {l : List Int} (h : IntsV w v l) (he : Exts w w') : IntsV w' v l := by
  obtain ⟨ao, c, h1, h2⟩ := h
  exact ⟨ao, c, h1, RowF.exts h2 he⟩
def Cases (S : Nat → Prop) (w : World) (bo : Option Addr) (n c : Nat) (B : List Cs) : Prop :=
  B.length = n ∧ (∀ x ∈ B, I64 x.id) ∧ ∃ xs, RowF S 3 w (.slice bo n c) n xs ∧ ∀ (i : Nat) (d : Cs), B[i]? = some d → ∃ v, xs[i * 3]? = some (.int .i64 d.id) ∧ xs[i * 3 + 1]? = some v ∧ xs[i * 3 + 2]? = some (.bool d.grant) ∧ IntsV w v d.vals
theorem Cases.exts {S : Nat → Prop} {w w' : World} {bo : Option Addr} {n c : Nat} {B : List Cs} (h : Cases S w bo n c B) (he : Exts w w') : Cases S w' bo n c B := by
  obtain ⟨h1, h0, xs, h2, h3⟩ := h
  exact ⟨h1, h0, xs, h2.exts he, fun i d hd => let ⟨v, e1, e2, e3, e4⟩ := h3 i d hd; ⟨v, e1, e2, e3, e4.exts he⟩⟩
theorem Cases.nle {S : Nat → Prop} {w : World} {bo : Option Addr} {n c : Nat} {B : List Cs} (h : Cases S w bo n c B) : n ≤ maxLen := by
  obtain ⟨_, _, xs, h2, _⟩ := h
  exact RowF.nle h2
theorem Cases.get {S : Nat → Prop} {w : World} {bo : Option Addr} {n c : Nat} {B : List Cs} (h : Cases S w bo n c B) {i : Nat} (hi : i < n) :
    ∃ b off id vs gr vo vc, bo = some ⟨b, off, none⟩ ∧ b < w.heap.size ∧ B[i]? = some ⟨id, vs, gr⟩ ∧ w.cell? ⟨b, off + i * 3, none⟩ = some (.int .i64 id) ∧ w.cell? ⟨b, off + i * 3 + 1, none⟩ = some (.slice vo vs.length vc) ∧ w.cell? ⟨b, off + i * 3 + 2, none⟩ = some (.bool gr) ∧ Ints (fun _ => True) w vo vs.length vc vs ∧ I64 id := by
  obtain ⟨h1, h0, xs, h2, h3⟩ := h
  have hp : B[i]? = some B[i] := List.getElem?_eq_getElem (by omega)
  obtain ⟨v, e1, e2, e3, vo, vc, rfl, e4⟩ := h3 i _ hp
  obtain ⟨q1, ao2, cap2, hv, q2, q3, q4, q5⟩ := h2
  simp only [Value.slice.injEq, true_and] at hv
  obtain ⟨rfl, rfl⟩ := hv
  obtain ⟨b, off, rfl, _, hb, hc⟩ := q5 (by omega)
  refine ⟨b, off, B[i].id, B[i].vals, B[i].grant, vo, vc, rfl, hb, hp, hc _ _ e1, ?_, ?_, e4, h0 _ (List.getElem_mem _)⟩
  · rw [Nat.add_assoc]
    exact hc _ _ e2
  · rw [Nat.add_assoc]
    exact hc _ _ e3
/-- The closures of a right list of dimensions. -/
def Ords (w : World) (mo : Option Addr) (n mc : Nat) (D : List Dm) : Prop :=
  D.length = n ∧ rightD D = true ∧ ∃ rows, RowF (fun _ => True) 1 w (.slice mo n mc) n rows ∧ ∀ (i : Nat) (V : Int) (ps : List Pr), D[i]? = some (V, ps) → ∃ (ro : Option Addr) (m rc : Nat) (g : Rel), rows[i]? = some (.slice ro m rc) ∧ V = m ∧ closedD (m : Int) ps = (g, true) ∧ BRows w ro m m rc g
theorem Ords.exts {w w' : World} {mo : Option Addr} {n mc : Nat} {D : List Dm} (h : Ords w mo n mc D) (he : Exts w w') : Ords w' mo n mc D := by
  obtain ⟨h1, h0, rows, h2, h3⟩ := h
  exact ⟨h1, h0, rows, h2.exts he, fun i V ps hd => let ⟨ro, m, rc, g, e1, e2, e3, e4⟩ := h3 i V ps hd; ⟨ro, m, rc, g, e1, e2, e3, e4.exts he⟩⟩
theorem Ords.nle {w : World} {mo : Option Addr} {n mc : Nat} {D : List Dm} (h : Ords w mo n mc D) : n ≤ maxLen := by
  obtain ⟨_, _, xs, h2, _⟩ := h
  exact RowF.nle h2
theorem Ords.le12 {w : World} {mo : Option Addr} {n mc : Nat} {D : List Dm} (h : Ords w mo n mc D) : n ≤ 12 := by
  have := h.2.1
  simp only [rightD, Bool.and_eq_true, decide_eq_true_eq] at this
  have := h.1
  omega
theorem closed_pos {m : Nat} {ps : List Pr} {g : Rel} (h : closedD (m : Int) ps = (g, true)) : 1 ≤ m ∧ m ≤ 12 := by
  obtain ⟨⟨h1, h2⟩, _⟩ := valid_in (closed_valid h).1
  omega
theorem Ords.get {w : World} {mo : Option Addr} {n mc : Nat} {D : List Dm} (h : Ords w mo n mc D) {i : Nat} (hi : i < n) :
    ∃ (b off m : Nat) (ps : List Pr) (g : Rel) (b2 o2 rc : Nat) (rb rof rcap : Nat → Nat), mo = some ⟨b, off, none⟩ ∧ b < w.heap.size ∧ D[i]? = some ((m : Int), ps) ∧ closedD (m : Int) ps = (g, true) ∧ w.cell? ⟨b, off + i, none⟩ = some (.slice (some ⟨b2, o2, none⟩) m rc) ∧ b2 < w.heap.size ∧ (∀ a, a < m → w.cell? ⟨b2, o2 + a, none⟩ = some (.slice (some ⟨rb a, rof a, none⟩) m (rcap a))) ∧ (∀ a, a < m → rb a < w.heap.size) ∧ ∀ a j, a < m → j < m → w.cell? ⟨rb a, rof a + j, none⟩ = some (.bool (g a j)) := by
  obtain ⟨h1, _, rows, h2, h3⟩ := h
  obtain ⟨⟨V, ps⟩, hp⟩ : ∃ q, D[i]? = some q := ⟨_, List.getElem?_eq_getElem (by omega)⟩
  obtain ⟨ro, m, rc, g, e1, rfl, e3, e4⟩ := h3 i _ _ hp
  obtain ⟨q1, ao2, cap2, hv, q2, q3, q4, q5⟩ := h2
  simp only [Value.slice.injEq, true_and] at hv
  obtain ⟨rfl, rfl⟩ := hv
  obtain ⟨b, off, rfl, _, hb, hc⟩ := q5 (by omega)
  obtain ⟨b2, o2, rb, rof, rcap, rfl, l1, l2, l3, _, l4⟩ := rows_at e4 (by have := closed_pos e3; omega)
  exact ⟨b, off, m, ps, g, b2, o2, rc, rb, rof, rcap, rfl, hb, hp, e3, hc _ _ e1, l1, l2, l3, l4⟩
end Go.Proofs.Ytodgohilfbggjaa
