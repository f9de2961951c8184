/- FactorTells returns true. No condition. -/
import Derived.Test.YtbafcfbchbjgfaaRefClo
import Derived.Test.YtbafcfbchbjgfaaRefBelow
import Derived.Test.YtbafcfbchbjgfaaRefJoins
import Derived.Test.YtbafcfbchbjgfaaRowsAt
import Derived.Test.YtbafcfbchbjgfaaSmall8
import Derived.Test.YtbafcfbchbjgfaaRead
import Derived.BigRegion
import Derived.Deep.RegionHeld3
namespace Go.Proofs.Ytbafcfbchbjgfaa
open Go.RowKit Go.Deep
set_option linter.unusedSimpArgs false
set_option linter.unusedVariables false

theorem closure10_F {S : Nat → Prop} (V : Int) (po : Option Addr) (n c : Nat) (ps : List Pr) (E : Int) (N : Nat) (cl : List Int) (M : Nat) (w : World) (h : Prs S w po n c ps) (hE : cloE V ps = E) (hN : cloN V ps = N) (hL : cloL V ps = cl) (hM : cl.length = M) :
    Calls Try.prog 10 #[.agg #[.int .i64 V, .slice po n c]] w fun e w' => ∃ ro rc co cc, e = .returned (.tuple #[.slice ro N rc, .slice co M cc, .int .i64 E]) ∧ Exts w w' ∧ (0 < N → BRows w' ro N N rc (closedD V ps).1) ∧ (0 < M → Ints (fun _ => True) w' co M cc cl) := by
  subst hE hN hL hM
  refine (closure10 V po n c ps w h).mono ?_
  rintro e w' ⟨ro, rn, rc, co, cn, cc, code, rfl, hx, hc⟩
  obtain ⟨rfl, rfl, rfl, h1, h2⟩ := clo_res hc
  exact ⟨ro, rc, co, cc, rfl, hx, h1, h2⟩
theorem closure11_F {S : Nat → Prop} (V : Int) (po : Option Addr) (n c : Nat) (ps : List Pr) (E : Int) (N : Nat) (cl : List Int) (M : Nat) (w : World) (h : Prs S w po n c ps) (hE : cloE V ps = E) (hN : cloN V ps = N) (hL : cloL V ps = cl) (hM : cl.length = M) :
    Calls Try.prog 11 #[.agg #[.int .i64 V, .slice po n c]] w fun e w' => ∃ ro rc co cc, e = .returned (.tuple #[.slice ro N rc, .slice co M cc, .int .i64 E]) ∧ Exts w w' ∧ (0 < N → BRows w' ro N N rc (closedD V ps).1) ∧ (0 < M → Ints (fun _ => True) w' co M cc cl) := by
  subst hE hN hL hM
  refine (closure11 V po n c ps w h).mono ?_
  rintro e w' ⟨ro, rn, rc, co, cn, cc, code, rfl, hx, hc⟩
  obtain ⟨rfl, rfl, rfl, h1, h2⟩ := clo_res hc
  exact ⟨ro, rc, co, cc, rfl, hx, h1, h2⟩
theorem ints12_zero (ao bo : Option Addr) (ca cb : Nat) (w : World) : Calls Try.prog 12 #[.slice ao 0 ca, .slice bo 0 cb] w fun e w' => e = .returned (.bool true) ∧ Exts w w' := by
  go_enter Try.func12, Try.ntmps12
  go_wp2
  go_loopw [5] (fun i wr => i = .int .i64 0 ∧ Exts w wr) (fun i _ => 0)
  case atStart => exact ⟨rfl, Exts.refl _⟩
  case round =>
    obtain ⟨rfl, x, rfl⟩ := hrel
    go_wp2
    go_ret
    exact ⟨rfl, (by repeat (first | exact Exts.refl _ | apply Exts.andR | apply Exts.alloc | apply Exts.wext | apply Exts.drew | apply Exts.drewN))⟩
/-- Two lists that are the same, wherever they lie; of empty ones nothing is asked. -/
theorem ints12_E {S1 S2 : Nat → Prop} (ao bo : Option Addr) (n ca cb : Nat) (l : List Int) (w : World) (ha : 0 < n → Ints S1 w ao n ca l) (hb : 0 < n → Ints S2 w bo n cb l) :
    Calls Try.prog 12 #[.slice ao n ca, .slice bo n cb] w fun e w' => e = .returned (.bool true) ∧ Exts w w' := by
  by_cases hn : n = 0
  · subst hn
    exact ints12_zero ao bo ca cb w
  · exact ints12_D ao bo n ca n cb l l true w (ha (by omega)) (hb (by omega)) (by simp)
theorem joins18_D {S S1 S2 : Nat → Prop} (lo ao bo : Option Addr) (n c na ca nb cb : Nat) (D : List Dm) (al bl js : List Int) (o : Bool) (m : Nat) (w : World) (h : Dims S w lo n c D) (ha : Ints S1 w ao na ca al) (hb : Ints S2 w bo nb cb bl) (hD : joinsD D al bl = (js, o)) (hm : js.length = m) :
    Calls Try.prog 18 #[.slice lo n c, .slice ao na ca, .slice bo nb cb] w fun e w' => ∃ ro rc, e = .returned (.tuple #[.slice ro m rc, .bool o]) ∧ Exts w w' ∧ Ints (fun b => w.heap.size ≤ b) w' ro m rc js := by
  have := joins18 lo ao bo n c na ca nb cb D al bl w h ha hb
  rw [hD, hm] at this
  exact this
theorem compare16_D {S S1 S2 : Nat → Prop} (lo ao bo : Option Addr) (n c na ca nb cb : Nat) (D : List Dm) (al bl : List Int) (x e : Int) (w : World) (h : Dims S w lo n c D) (ha : Ints S1 w ao na ca al) (hb : Ints S2 w bo nb cb bl) (hD : cmpD D al bl = (x, e)) :
    Calls Try.prog 16 #[.slice lo n c, .slice ao na ca, .slice bo nb cb] w fun r w' => r = .returned (.tuple #[.int .i64 x, .int .i64 e]) ∧ Exts w w' := by
  have := compare16 lo ao bo n c na ca nb cb D al bl w h ha hb
  rw [hD] at this
  exact this
theorem atleast22_D {S : Nat → Prop} (V : Int) (po : Option Addr) (n c : Nat) (ps : List Pr) (aa bb : Int) (r : Bool) (w : World) (h : Prs S w po n c ps) (hD : atD V ps aa bb = r) :
    Calls Try.prog 22 #[.agg #[.int .i64 V, .slice po n c], .int .i64 aa, .int .i64 bb] w fun e w' => e = .returned (.bool r) ∧ Exts w w' := by
  subst hD
  exact atleast22 V po n c ps aa bb w h
theorem BRows.exts {w w' : World} {ro : Option Addr} {m n rc : Nat} {g : Rel} (h : BRows w ro m n rc g) (he : Exts w w') : BRows w' ro m n rc g := by
  obtain ⟨rows, h1, h2⟩ := h
  exact ⟨rows, h1.exts he, fun a ha => let ⟨bo, bc, e1, e2⟩ := h2 a ha; ⟨bo, bc, e1, e2.exts he⟩⟩
set_option maxRecDepth 100000
set_option maxHeartbeats 4000000
theorem tells3_no {S S1 S2 S3 : Nat → Prop} (V : Int) (po : Option Addr) (n c : Nat) (ps : List Pr) (lo ao bo : Option Addr) (n1 c1 na ca nb cb : Nat) (D : List Dm) (al bl : List Int) (vv ww : Int) (w : World) (hp : Prs S w po n c ps) (hd : Dims S1 w lo n1 c1 D) (ha : Ints S2 w ao na ca al) (hb : Ints S3 w bo nb cb bl) (f1 f2 : Bool) (h1 : fewD [(V, ps)] = f1) (h2 : fewD D = f2) (hc : f1 = false ∨ f2 = false ∨ 6 < na ∨ 6 < nb) : Calls Try.prog 3 #[.agg #[.int .i64 V, .slice po n c], .slice lo n1 c1, .slice ao na ca, .slice bo nb cb, .int .i64 vv, .int .i64 ww] w fun e w' => e = .returned (.bool true) ∧ Exts w w' := by
  have hm := RowF.nle hp
  have hm1 := hd.nle
  have hma := RowF.nle ha
  have hmb := RowF.nle hb
  unfold maxLen at hm hm1 hma hmb
  have HP := Lib.hid hp
  have HD := Lib.hid hd
  have HA := Lib.hid ha
  have HB := Lib.hid hb
  clear hp hd ha hb
  have HF1 := Lib.hid h1
  have HF2 := Lib.hid h2
  clear h1 h2
  cases f1 with
  | false =>
    clear hc
    go_enter Try.func3, Try.ntmps3
    go_wp2_with (first | (go_at_call 8; ((with_reducible refine (small8 _).mono ?_); rintro e w' ⟨rfl, x0, rfl⟩)) | (go_at_call 9; ((with_reducible refine (few9_D _ _ _ [(V, ps)] _ _ (dims_lit (by simp [wext_size]) (RowF.exts HP.out (by repeat (first | exact Exts.refl _ | apply Exts.andR | apply Exts.alloc | apply Exts.wext | apply Exts.drew | apply Exts.drewN)))) HF1.out).mono ?_); rintro e w' ⟨rfl, x1, rfl⟩)) | (go_at_call 9; ((with_reducible refine (few9_D lo _ _ D _ _ (HD.out.exts (by repeat (first | exact Exts.refl _ | apply Exts.andR | apply Exts.alloc | apply Exts.wext | apply Exts.drew | apply Exts.drewN))) HF2.out).mono ?_); rintro e w' ⟨rfl, x2, rfl⟩)))
    go_ret
    exact ⟨rfl, (by repeat (first | exact Exts.refl _ | apply Exts.andR | apply Exts.alloc | apply Exts.wext | apply Exts.drew | apply Exts.drewN))⟩
  | true =>
    cases f2 with
    | false =>
      clear hc
      go_enter Try.func3, Try.ntmps3
      go_wp2_with (first | (go_at_call 8; ((with_reducible refine (small8 _).mono ?_); rintro e w' ⟨rfl, x0, rfl⟩)) | (go_at_call 9; ((with_reducible refine (few9_D _ _ _ [(V, ps)] _ _ (dims_lit (by simp [wext_size]) (RowF.exts HP.out (by repeat (first | exact Exts.refl _ | apply Exts.andR | apply Exts.alloc | apply Exts.wext | apply Exts.drew | apply Exts.drewN)))) HF1.out).mono ?_); rintro e w' ⟨rfl, x1, rfl⟩)) | (go_at_call 9; ((with_reducible refine (few9_D lo _ _ D _ _ (HD.out.exts (by repeat (first | exact Exts.refl _ | apply Exts.andR | apply Exts.alloc | apply Exts.wext | apply Exts.drew | apply Exts.drewN))) HF2.out).mono ?_); rintro e w' ⟨rfl, x2, rfl⟩)))
      go_ret
      exact ⟨rfl, (by repeat (first | exact Exts.refl _ | apply Exts.andR | apply Exts.alloc | apply Exts.wext | apply Exts.drew | apply Exts.drewN))⟩
    | true =>
      by_cases h6 : 6 < na
      · have q1 : decide ((6 : Int) < (na : Int)) = true := by simp; omega
        clear hc h6
        go_enter Try.func3, Try.ntmps3
        go_wp2_with (first | (go_at_call 8; ((with_reducible refine (small8 _).mono ?_); rintro e w' ⟨rfl, x0, rfl⟩)) | (go_at_call 9; ((with_reducible refine (few9_D _ _ _ [(V, ps)] _ _ (dims_lit (by simp [wext_size]) (RowF.exts HP.out (by repeat (first | exact Exts.refl _ | apply Exts.andR | apply Exts.alloc | apply Exts.wext | apply Exts.drew | apply Exts.drewN)))) HF1.out).mono ?_); rintro e w' ⟨rfl, x1, rfl⟩)) | (go_at_call 9; ((with_reducible refine (few9_D lo _ _ D _ _ (HD.out.exts (by repeat (first | exact Exts.refl _ | apply Exts.andR | apply Exts.alloc | apply Exts.wext | apply Exts.drew | apply Exts.drewN))) HF2.out).mono ?_); rintro e w' ⟨rfl, x2, rfl⟩)))
        go_ret
        exact ⟨rfl, (by repeat (first | exact Exts.refl _ | apply Exts.andR | apply Exts.alloc | apply Exts.wext | apply Exts.drew | apply Exts.drewN))⟩
      · have q1 : decide ((6 : Int) < (na : Int)) = false := by simp; omega
        have q2 : decide ((6 : Int) < (nb : Int)) = true := by
          simp at hc
          simp
          omega
        clear hc h6
        go_enter Try.func3, Try.ntmps3
        go_wp2_with (first | (go_at_call 8; ((with_reducible refine (small8 _).mono ?_); rintro e w' ⟨rfl, x0, rfl⟩)) | (go_at_call 9; ((with_reducible refine (few9_D _ _ _ [(V, ps)] _ _ (dims_lit (by simp [wext_size]) (RowF.exts HP.out (by repeat (first | exact Exts.refl _ | apply Exts.andR | apply Exts.alloc | apply Exts.wext | apply Exts.drew | apply Exts.drewN)))) HF1.out).mono ?_); rintro e w' ⟨rfl, x1, rfl⟩)) | (go_at_call 9; ((with_reducible refine (few9_D lo _ _ D _ _ (HD.out.exts (by repeat (first | exact Exts.refl _ | apply Exts.andR | apply Exts.alloc | apply Exts.wext | apply Exts.drew | apply Exts.drewN))) HF2.out).mono ?_); rintro e w' ⟨rfl, x2, rfl⟩)))
        go_ret
        exact ⟨rfl, (by repeat (first | exact Exts.refl _ | apply Exts.andR | apply Exts.alloc | apply Exts.wext | apply Exts.drew | apply Exts.drewN))⟩
theorem tells3_go {S S1 S2 S3 : Nat → Prop} (V : Int) (po : Option Addr) (n c : Nat) (ps : List Pr) (lo ao bo : Option Addr) (n1 c1 na ca nb cb : Nat) (D : List Dm) (al bl : List Int) (vv ww : Int) (w : World) (hp : Prs S w po n c ps) (hd : Dims S1 w lo n1 c1 D) (ha : Ints S2 w ao na ca al) (hb : Ints S3 w bo nb cb bl) (h1 : fewD [(V, ps)] = true) (h2 : fewD D = true) (h6 : na ≤ 6) (h7 : nb ≤ 6) : Calls Try.prog 3 #[.agg #[.int .i64 V, .slice po n c], .slice lo n1 c1, .slice ao na ca, .slice bo nb cb, .int .i64 vv, .int .i64 ww] w fun e w' => e = .returned (.bool true) ∧ Exts w w' := by
  have hm := RowF.nle hp
  have hm1 := hd.nle
  have hma := RowF.nle ha
  have hmb := RowF.nle hb
  unfold maxLen at hm hm1 hma hmb
  have HP := Lib.hid hp
  have HD := Lib.hid hd
  have HA := Lib.hid ha
  have HB := Lib.hid hb
  clear hp hd ha hb
  have HF1 := Lib.hid h1
  have HF2 := Lib.hid h2
  have q1 : decide ((6 : Int) < (na : Int)) = false := by simp; omega
  have q2 : decide ((6 : Int) < (nb : Int)) = false := by simp; omega
  obtain ⟨E, hE⟩ : ∃ E, cloE V ps = E := ⟨_, rfl⟩
  obtain ⟨N, hN⟩ : ∃ N, cloN V ps = N := ⟨_, rfl⟩
  obtain ⟨cl, hCL⟩ : ∃ cl, cloL V ps = cl := ⟨_, rfl⟩
  obtain ⟨M, hM⟩ : ∃ M, cl.length = M := ⟨_, rfl⟩
  have HE := Lib.hid hE
  have HN := Lib.hid hN
  have HCL := Lib.hid hCL
  have HM := Lib.hid hM
  clear h1 h2 h6 h7 hE hN hCL hM
  go_enter Try.func3, Try.ntmps3
  go_wp2_with (first | (go_at_call 8; ((with_reducible refine (small8 _).mono ?_); rintro e w' ⟨rfl, x0, rfl⟩)) | (go_at_call 9; ((with_reducible refine (few9_D _ _ _ [(V, ps)] _ _ (dims_lit (by simp [wext_size]) (RowF.exts HP.out (by repeat (first | exact Exts.refl _ | apply Exts.andR | apply Exts.alloc | apply Exts.wext | apply Exts.drew | apply Exts.drewN)))) HF1.out).mono ?_); rintro e w' ⟨rfl, x1, rfl⟩)) | (go_at_call 9; ((with_reducible refine (few9_D lo _ _ D _ _ (HD.out.exts (by repeat (first | exact Exts.refl _ | apply Exts.andR | apply Exts.alloc | apply Exts.wext | apply Exts.drew | apply Exts.drewN))) HF2.out).mono ?_); rintro e w' ⟨rfl, x2, rfl⟩)) | (go_at_call 10; ((with_reducible refine (closure10_F _ _ _ _ ps _ _ _ _ _ (RowF.exts HP.out (by repeat (first | exact Exts.refl _ | apply Exts.andR | apply Exts.alloc | apply Exts.wext | apply Exts.drew | apply Exts.drewN))) HE.out HN.out HCL.out HM.out).mono ?_); rintro e w' ⟨ro, rc, co, cc, rfl, ⟨x3, rfl⟩, hb1, hc1⟩; (try simp only [wext_and] at hb1 hc1); (have HB1 := Lib.hid hb1); (have HC1 := Lib.hid hc1); clear hb1 hc1)) | (go_at_call 11; ((with_reducible refine (closure11_F _ _ _ _ ps _ _ _ _ _ (RowF.exts HP.out (by repeat (first | exact Exts.refl _ | apply Exts.andR | apply Exts.alloc | apply Exts.wext | apply Exts.drew | apply Exts.drewN))) HE.out HN.out HCL.out HM.out).mono ?_); rintro e w' ⟨ro2, rc2, co2, cc2, rfl, ⟨x4, rfl⟩, hb2, hc2⟩; (try simp only [wext_and] at hb2 hc2); (have HB2 := Lib.hid hb2); (have HC2 := Lib.hid hc2); clear hb2 hc2)) | (go_at_call 12; ((with_reducible refine (ints12_E _ _ _ _ _ cl _ (fun hm => RowF.exts (HC1.out hm) (by repeat (first | exact Exts.refl _ | apply Exts.andR | apply Exts.alloc | apply Exts.wext | apply Exts.drew | apply Exts.drewN))) (fun hm => RowF.exts (HC2.out hm) (by repeat (first | exact Exts.refl _ | apply Exts.andR | apply Exts.alloc | apply Exts.wext | apply Exts.drew | apply Exts.drewN)))).mono ?_); rintro e w' ⟨rfl, x5, rfl⟩)))
  refine wp_name ?_
  intro W hW
  have HX := Lib.hid (show Exts w W by rw [hW]; exact (by repeat (first | exact Exts.refl _ | apply Exts.andR | apply Exts.alloc | apply Exts.wext | apply Exts.drew | apply Exts.drewN)))
  have HPW := Lib.hid (show Prs S W po n c ps from RowF.exts HP.out HX.out)
  have HDW := Lib.hid (HD.out.exts HX.out)
  have HAW := Lib.hid (RowF.exts HA.out HX.out)
  have HBW := Lib.hid (RowF.exts HB.out HX.out)
  have cO0 : W.cell? ⟨w.heap.size, 0, none⟩ = some (.int .i64 V) := by rw [hW]; simp [go_sem]
  have cO1 : W.cell? ⟨w.heap.size, 1, none⟩ = some (.slice po n c) := by rw [hW]; simp [go_sem]
  have lO : w.heap.size < W.heap.size := by rw [hW]; simp; omega
  have HR1 := Lib.hid (show 0 < N → BRows W ro N N rc (closedD V ps).1 from fun h => by rw [hW]; exact (HB1.out h).exts (by repeat (first | exact Exts.refl _ | apply Exts.andR | apply Exts.alloc | apply Exts.wext | apply Exts.drew | apply Exts.drewN)))
  have HR2 := Lib.hid (show 0 < N → BRows W ro2 N N rc2 (closedD V ps).1 from fun h => by rw [hW]; exact (HB2.out h).exts (by repeat (first | exact Exts.refl _ | apply Exts.andR | apply Exts.alloc | apply Exts.wext | apply Exts.drew | apply Exts.drewN)))
  clear hW HP HD HA HB HB1 HB2 HC1 HC2 HF1 HF2 HE HCL
  have hN12 : N ≤ 12 := by
    rw [← HN.out]
    unfold cloN
    split
    · rename_i hc
      obtain ⟨g, hg⟩ := closed_ok hc
      obtain ⟨⟨g1, g2⟩, _⟩ := valid_in (closed_valid hg).1
      omega
    · omega
  go_loopw [20] (fun i wr => ∃ (a : Nat), a ≤ N ∧ i = .int .i64 a ∧ Exts W wr) (fun i _ => N - (intOf i).toNat)
  case atStart => exact ⟨0, by omega, rfl, Exts.refl _⟩
  case round =>
    obtain ⟨a, ha, rfl, x, rfl⟩ := hrel
    by_cases hla : a < N
    · obtain ⟨b1, o1, rb1, rof1, rcap1, rfl, l1, hrow1, lrow1, hcap1, hcell1⟩ := rows_at (HR1.out (by omega)) (by omega)
      obtain ⟨b2, o2, rb2, rof2, rcap2, rfl, l2, hrow2, lrow2, hcap2, hcell2⟩ := rows_at (HR2.out (by omega)) (by omega)
      have c1 := hrow1 a hla
      have c2 := hrow2 a hla
      have lr1 := lrow1 a hla
      have lr2 := lrow2 a hla
      have HC1 := Lib.hid (fun k hk => hcell1 a k hla hk)
      have HC2 := Lib.hid (fun k hk => hcell2 a k hla hk)
      clear hrow1 hrow2 lrow1 lrow2 hcap1 hcap2 hcell1 hcell2
      go_wp2
      (try (go_region; go_wp2))
      go_loopw [21] (fun i wr => ∃ (k : Nat), k ≤ N ∧ i = .int .i64 k ∧ Exts W wr) (fun i _ => N - (intOf i).toNat)
      case atStart => exact ⟨0, by omega, rfl, (by repeat (first | exact Exts.refl _ | apply Exts.andR | apply Exts.alloc | apply Exts.wext | apply Exts.drew | apply Exts.drewN))⟩
      case round =>
        obtain ⟨k, hk, rfl, y, rfl⟩ := hrel
        by_cases hlk : k < N
        · have c3 := HC1.out k hlk
          have c4 := HC2.out k hlk
          go_wp2
          first | refine wp_region_ext_lit2 (by kernel_rfl) (by kernel_rfl) ?_ | refine wp_region_ext_lit (by kernel_rfl) (by kernel_rfl) ?_
          repeat (go_big_quiet_step (fail))
          refine wpQuiet_nil ?_
          intro _ hwq'
          obtain ⟨xq, hwq''⟩ := hwq'
          subst hwq''
          go_wp2
          refine ⟨⟨k + 1, by omega, by go_num, (by repeat (first | exact Exts.refl _ | apply Exts.andR | apply Exts.alloc | apply Exts.wext | apply Exts.drew | apply Exts.drewN))⟩, ?_⟩
          simp [intOf]; omega
        · obtain rfl : N = k := by omega
          go_wp2
          refine ⟨⟨a + 1, by omega, by go_num, (by repeat (first | exact Exts.refl _ | apply Exts.andR | apply Exts.alloc | apply Exts.wext | apply Exts.drew | apply Exts.drewN))⟩, ?_⟩
          simp [intOf]; omega
    · obtain rfl : N = a := by omega
      obtain ⟨⟨jx, jo⟩, hjn⟩ : ∃ q, joinD V ps vv ww = q := ⟨_, rfl⟩
      obtain ⟨⟨cx, ce⟩, hcm⟩ : ∃ q, cmpD D al bl = q := ⟨_, rfl⟩
      obtain ⟨⟨js, jso⟩, hjs⟩ : ∃ q, joinsD D al bl = q := ⟨_, rfl⟩
      obtain ⟨jm, hjm⟩ : ∃ q, js.length = q := ⟨_, rfl⟩
      obtain ⟨ks, hks⟩ : ∃ q, blocksD D al bl = q := ⟨_, rfl⟩
      obtain ⟨km, hkm⟩ : ∃ q, ks.length = q := ⟨_, rfl⟩
      obtain ⟨rr, hrt⟩ : ∃ q, rightD D = q := ⟨_, rfl⟩
      obtain ⟨tt, hat⟩ : ∃ q, atD V ps vv ww = q := ⟨_, rfl⟩
      obtain ⟨bb, hbl⟩ : ∃ q, belowD D al bl = q := ⟨_, rfl⟩
      have HJN := Lib.hid hjn
      have HCM := Lib.hid hcm
      have HJS := Lib.hid hjs
      have HJM := Lib.hid hjm
      have HKS := Lib.hid hks
      have HKM := Lib.hid hkm
      have HRT := Lib.hid hrt
      have HAT := Lib.hid hat
      have HBL := Lib.hid hbl
      clear hjn hcm hjs hjm hks hkm hrt hat hbl
      go_wp2_with (first | (go_at_call 13; ((with_reducible refine (join13_D _ _ _ _ ps _ _ jx jo _ (RowF.exts HPW.out (by repeat (first | exact Exts.refl _ | apply Exts.andR | apply Exts.alloc | apply Exts.wext | apply Exts.drew | apply Exts.drewN))) HJN.out).mono ?_); rintro e w' ⟨rfl, y1, rfl⟩)) | (go_at_call 14; ((with_reducible refine (join14_D _ _ _ _ ps _ _ jx jo _ (RowF.exts HPW.out (by repeat (first | exact Exts.refl _ | apply Exts.andR | apply Exts.alloc | apply Exts.wext | apply Exts.drew | apply Exts.drewN))) HJN.out).mono ?_); rintro e w' ⟨rfl, y2, rfl⟩)) | (go_at_call 15; ((with_reducible refine (compare15_D lo ao bo _ _ _ _ _ _ D al bl cx ce _ (HDW.out.exts (by repeat (first | exact Exts.refl _ | apply Exts.andR | apply Exts.alloc | apply Exts.wext | apply Exts.drew | apply Exts.drewN))) (RowF.exts HAW.out (by repeat (first | exact Exts.refl _ | apply Exts.andR | apply Exts.alloc | apply Exts.wext | apply Exts.drew | apply Exts.drewN))) (RowF.exts HBW.out (by repeat (first | exact Exts.refl _ | apply Exts.andR | apply Exts.alloc | apply Exts.wext | apply Exts.drew | apply Exts.drewN))) HCM.out).mono ?_); rintro e w' ⟨rfl, y3, rfl⟩)) | (go_at_call 16; ((with_reducible refine (compare16_D lo ao bo _ _ _ _ _ _ D al bl cx ce _ (HDW.out.exts (by repeat (first | exact Exts.refl _ | apply Exts.andR | apply Exts.alloc | apply Exts.wext | apply Exts.drew | apply Exts.drewN))) (RowF.exts HAW.out (by repeat (first | exact Exts.refl _ | apply Exts.andR | apply Exts.alloc | apply Exts.wext | apply Exts.drew | apply Exts.drewN))) (RowF.exts HBW.out (by repeat (first | exact Exts.refl _ | apply Exts.andR | apply Exts.alloc | apply Exts.wext | apply Exts.drew | apply Exts.drewN))) HCM.out).mono ?_); rintro e w' ⟨rfl, y4, rfl⟩)) | (go_at_call 17; ((with_reducible refine (joins17_D lo ao bo _ _ _ _ _ _ D al bl js jso jm _ (HDW.out.exts (by repeat (first | exact Exts.refl _ | apply Exts.andR | apply Exts.alloc | apply Exts.wext | apply Exts.drew | apply Exts.drewN))) (RowF.exts HAW.out (by repeat (first | exact Exts.refl _ | apply Exts.andR | apply Exts.alloc | apply Exts.wext | apply Exts.drew | apply Exts.drewN))) (RowF.exts HBW.out (by repeat (first | exact Exts.refl _ | apply Exts.andR | apply Exts.alloc | apply Exts.wext | apply Exts.drew | apply Exts.drewN))) HJS.out HJM.out).mono ?_); rintro e w' ⟨sa, sc, rfl, ⟨y5, rfl⟩, hj1⟩; (try simp only [wext_and] at hj1); (have HJ1 := Lib.hid hj1); clear hj1)) | (go_at_call 18; ((with_reducible refine (joins18_D lo ao bo _ _ _ _ _ _ D al bl js jso jm _ (HDW.out.exts (by repeat (first | exact Exts.refl _ | apply Exts.andR | apply Exts.alloc | apply Exts.wext | apply Exts.drew | apply Exts.drewN))) (RowF.exts HAW.out (by repeat (first | exact Exts.refl _ | apply Exts.andR | apply Exts.alloc | apply Exts.wext | apply Exts.drew | apply Exts.drewN))) (RowF.exts HBW.out (by repeat (first | exact Exts.refl _ | apply Exts.andR | apply Exts.alloc | apply Exts.wext | apply Exts.drew | apply Exts.drewN))) HJS.out HJM.out).mono ?_); rintro e w' ⟨ta, tc, rfl, ⟨y6, rfl⟩, hj2⟩; (try simp only [wext_and] at hj2); (have HJ2 := Lib.hid hj2); clear hj2)) | (go_at_call 12; ((with_reducible refine (ints12_E sa ta jm sc tc js _ (fun _ => RowF.exts HJ1.out (by repeat (first | exact Exts.refl _ | apply Exts.andR | apply Exts.alloc | apply Exts.wext | apply Exts.drew | apply Exts.drewN))) (fun _ => RowF.exts HJ2.out (by repeat (first | exact Exts.refl _ | apply Exts.andR | apply Exts.alloc | apply Exts.wext | apply Exts.drew | apply Exts.drewN)))).mono ?_); rintro e w' ⟨rfl, y7, rfl⟩)))
      refine wp_name ?_
      intro W1 hW1
      have e1 : Exts W W1 := by rw [hW1]; exact (by repeat (first | exact Exts.refl _ | apply Exts.andR | apply Exts.alloc | apply Exts.wext | apply Exts.drew | apply Exts.drewN))
      have r0 : ∀ w', Exts W1 w' → w'.cell? ⟨w.heap.size, 0, none⟩ = some (.int .i64 V) := all_at e1 cO0
      have r1 : ∀ w', Exts W1 w' → w'.cell? ⟨w.heap.size, 1, none⟩ = some (.slice po n c) := all_at e1 cO1
      have KP := Lib.hid (show Prs S W1 po n c ps from RowF.exts HPW.out e1)
      have KD := Lib.hid (HDW.out.exts e1)
      have KA := Lib.hid (RowF.exts HAW.out e1)
      have KB := Lib.hid (RowF.exts HBW.out e1)
      have EX := Lib.hid (HX.out.trans e1)
      clear hW1 e1 cO0 cO1 HPW HDW HAW HBW HX HR1 HR2 HJ1 HJ2
      go_region_held3 (fun w' => Exts W1 w') (first | assumption | exact (Exts.refl _).drew | exact (by repeat (first | exact Exts.refl _ | apply Exts.andR | apply Exts.alloc | apply Exts.wext | apply Exts.drew | apply Exts.drewN))) ((first | (go_at_call 19; ((with_reducible refine (right19_D _ _ _ D _ _ (KD.out.exts (by assumption)) HRT.out).mono ?_); rintro e w' ⟨rfl, z1, rfl⟩)) | (go_at_call 20; ((with_reducible refine (right20_D _ _ _ D _ _ (KD.out.exts (by assumption)) HRT.out).mono ?_); rintro e w' ⟨rfl, z2, rfl⟩)) | (go_at_call 21; ((with_reducible refine (atleast21_D _ _ _ _ ps _ _ _ _ (RowF.exts KP.out (by assumption)) HAT.out).mono ?_); rintro e w' ⟨rfl, z3, rfl⟩)) | (go_at_call 22; ((with_reducible refine (atleast22_D _ _ _ _ ps _ _ _ _ (RowF.exts KP.out (by assumption)) HAT.out).mono ?_); rintro e w' ⟨rfl, z4, rfl⟩)) | (go_at_call 23; ((with_reducible refine (below23_D lo ao bo _ _ _ _ _ _ D al bl _ _ (KD.out.exts (by assumption)) (RowF.exts KA.out (by assumption)) (RowF.exts KB.out (by assumption)) HBL.out).mono ?_); rintro e w' ⟨rfl, z5, rfl⟩)) | (go_at_call 24; ((with_reducible refine (below24_D lo ao bo _ _ _ _ _ _ D al bl _ _ (KD.out.exts (by assumption)) (RowF.exts KA.out (by assumption)) (RowF.exts KB.out (by assumption)) HBL.out).mono ?_); rintro e w' ⟨rfl, z6, rfl⟩)) | (go_at_call 25; ((with_reducible refine (blocks25_N lo ao bo _ _ _ _ _ _ D al bl ks km _ (KD.out.exts (by assumption)) (RowF.exts KA.out (by assumption)) (RowF.exts KB.out (by assumption)) HKS.out HKM.out).mono ?_); rintro e w' ⟨ka, kc, rfl, ⟨z7, rfl⟩, hk1⟩; (try simp only [wext_and, wext_of_drew] at hk1); (have HK1 := Lib.hid hk1); clear hk1)) | (go_at_call 26; ((with_reducible refine (blocks26_N lo ao bo _ _ _ _ _ _ D al bl ks km _ (KD.out.exts (by assumption)) (RowF.exts KA.out (by assumption)) (RowF.exts KB.out (by assumption)) HKS.out HKM.out).mono ?_); rintro e w' ⟨kb, kd, rfl, ⟨z8, rfl⟩, hk2⟩; (try simp only [wext_and, wext_of_drew] at hk2); (have HK2 := Lib.hid hk2); clear hk2)) | (go_at_call 12; ((with_reducible refine (ints12_E ka kb km kc kd ks _ (fun _ => RowF.exts HK1.out (by repeat (first | exact Exts.refl _ | apply Exts.andR | apply Exts.alloc | apply Exts.wext | apply Exts.drew | apply Exts.drewN))) (fun _ => RowF.exts HK2.out (by repeat (first | exact Exts.refl _ | apply Exts.andR | apply Exts.alloc | apply Exts.wext | apply Exts.drew | apply Exts.drewN)))).mono ?_); rintro e w' ⟨rfl, z9, rfl⟩))))
      all_goals
        go_wp2
        go_ret
        exact ⟨rfl, EX.out.trans (by repeat (first | exact Exts.refl _ | apply Exts.andR | apply Exts.alloc | apply Exts.wext | apply Exts.drew | apply Exts.drewN))⟩
theorem tells3 {S S1 S2 S3 : Nat → Prop} (V : Int) (po : Option Addr) (n c : Nat) (ps : List Pr) (lo ao bo : Option Addr) (n1 c1 na ca nb cb : Nat) (D : List Dm) (al bl : List Int) (vv ww : Int) (w : World) (hp : Prs S w po n c ps) (hd : Dims S1 w lo n1 c1 D) (ha : Ints S2 w ao na ca al) (hb : Ints S3 w bo nb cb bl) : Calls Try.prog 3 #[.agg #[.int .i64 V, .slice po n c], .slice lo n1 c1, .slice ao na ca, .slice bo nb cb, .int .i64 vv, .int .i64 ww] w fun e w' => e = .returned (.bool true) ∧ Exts w w' := by
  by_cases hc : fewD [(V, ps)] = false ∨ fewD D = false ∨ 6 < na ∨ 6 < nb
  · exact tells3_no V po n c ps lo ao bo n1 c1 na ca nb cb D al bl vv ww w hp hd ha hb _ _ rfl rfl hc
  · have h1 : fewD [(V, ps)] = true := by cases h : fewD [(V, ps)]; exact absurd (.inl h) hc; rfl
    have h2 : fewD D = true := by cases h : fewD D; exact absurd (.inr (.inl h)) hc; rfl
    exact tells3_go V po n c ps lo ao bo n1 c1 na ca nb cb D al bl vv ww w hp hd ha hb h1 h2 (by omega) (by omega)
end Go.Proofs.Ytbafcfbchbjgfaa
