/- OptionEnds returns true. No condition. -/
import Derived.Test.YtnpjagodbnpahaaUses
namespace Go.Proofs.Ytnpjagodbnpahaa
open Go.RowKit
set_option linter.unusedSimpArgs false
set_option linter.unusedVariables false

theorem left11_dead (id ho lot us un : Int) (ov : Bool) (ao : Option Addr) (cap : Nat) (P : List PhC) (w : World) {S : Nat → Prop} (hl : liv P.length us ov = false) (h : Phs S w (.slice ao P.length cap) P) (hf : Fits P) :
    Calls Try.prog 11 #[rightV id ho lot (.slice ao P.length cap) us un ov] w fun e w' => ∃ ao' c', e = .returned (.slice ao' 0 c') ∧ Exts w w' := by
  have hP : leftP P us ov = [] := by unfold leftP; rw [hl]; rfl
  refine (left11 id ho lot us un ov ao cap P w h hf).mono ?_
  rintro e w' ⟨a', c', rfl, hx, _⟩
  rw [hP]
  exact ⟨a', c', rfl, hx⟩

set_option maxRecDepth 100000
set_option maxHeartbeats 1000000 in
theorem ends7_many (id ho lot us un : Int) (ov : Bool) (ao : Option Addr) (cap : Nat) (P : List PhC) (day later : Int) (w : World) {S : Nat → Prop} (h : Phs S w (.slice ao P.length cap) P) (hf : fewB P = false) :
    Calls Try.prog 7 #[rightV id ho lot (.slice ao P.length cap) us un ov, .int .i64 day, .int .i64 later] w fun e w' => e = .returned (.bool true) ∧ Exts w w' := by
  have H := Lib.hid h
  have HF := Lib.hid hf
  clear h hf
  go_enter Try.func7, Try.ntmps7
  go_wp2_with (first | (go_at_call 8; refine (small8 _).mono ?_; rintro e w' ⟨rfl, x1, rfl⟩) | (go_at_call 9; refine (few9_eq _ _ _ _ _ _ _ _ P _ _ HF.out (H.out.exts (by repeat (first | exact Exts.refl _ | apply Exts.andR | apply Exts.alloc | apply Exts.wext | apply Exts.drew | apply Exts.drewN)))).mono ?_; rintro e w' ⟨rfl, x2, rfl⟩))
  go_ret
  exact ⟨rfl, (by repeat (first | exact Exts.refl _ | apply Exts.andR | apply Exts.alloc | apply Exts.wext | apply Exts.drew | apply Exts.drewN))⟩


set_option maxHeartbeats 2000000 in
theorem ends7_no (id ho lot us un : Int) (ov : Bool) (ao : Option Addr) (cap : Nat) (P : List PhC) (day later : Int) (w : World) {S : Nat → Prop} (h : Phs S w (.slice ao P.length cap) P) (hf : fewB P = true) (hc : (liv P.length us ov && decide (un < day)) = false) :
    Calls Try.prog 7 #[rightV id ho lot (.slice ao P.length cap) us un ov, .int .i64 day, .int .i64 later] w fun e w' => e = .returned (.bool true) ∧ Exts w w' := by
  have H := Lib.hid h
  have HF := Lib.hid hf
  have HT := Lib.hid (fits_of_few hf)
  have HC := Lib.hid hc
  obtain ⟨f1, f2, _, _⟩ := h.facts
  unfold maxLen at f2
  have hn : P.length ≤ 9223372036854775807 := by omega
  cases hl : liv P.length us ov with
  | false =>
    have HL := Lib.hid hl
    clear h hf hc hl f1 f2
    go_enter Try.func7, Try.ntmps7
    go_wp2_with (first | (go_at_call 8; refine (small8 _).mono ?_; rintro e w' ⟨rfl, x1, rfl⟩) | (go_at_call 9; refine (few9_eq _ _ _ _ _ _ _ _ P _ _ HF.out (H.out.exts (by repeat (first | exact Exts.refl _ | apply Exts.andR | apply Exts.alloc | apply Exts.wext | apply Exts.drew | apply Exts.drewN)))).mono ?_; rintro e w' ⟨rfl, x2, rfl⟩) | (go_at_call 16; refine (lapse16_no _ _ _ _ _ _ _ _ P _ _ (H.out.exts (by repeat (first | exact Exts.refl _ | apply Exts.andR | apply Exts.alloc | apply Exts.wext | apply Exts.drew | apply Exts.drewN))) HT.out HC.out).mono ?_; rintro e W3 ⟨a3, c3, rfl, hx3, hp3⟩; (have C3 := box_all W3 #[.int .i64 id, .int .i64 ho, .int .i64 lot, .slice ao P.length cap, .int .i64 us, .int .i64 un, .bool ov] (Exts.trans (by repeat (first | with_reducible exact Exts.refl _ | with_reducible apply Exts.alloc | with_reducible apply Exts.wext)) hx3)); (have c3f := fun i => C3 W3 i (Exts.refl _)); (have l3 := World.block_lt_of_cell? W3 _ (c3f 0)); (have KP := Lib.hid hp3); (have KH := Lib.hid (H.out.exts (Exts.trans (a := w) (by repeat (first | exact Exts.refl _ | apply Exts.andR | apply Exts.alloc | apply Exts.wext | apply Exts.drew | apply Exts.drewN)) hx3))); (have EX := Lib.hid (Exts.trans (a := w) (by repeat (first | exact Exts.refl _ | apply Exts.andR | apply Exts.alloc | apply Exts.wext | apply Exts.drew | apply Exts.drewN)) hx3)); clear C3 hp3 hx3) | (go_at_call 10; refine (living10_eq _ _ _ _ _ _ _ _ _ _ _ hn HL.out).mono ?_; rintro e w' ⟨rfl, x4, rfl⟩) | (go_at_call 14; refine (same14 _ _ _ _ _ _ _ _ _ _ P _ (KP.out.exts (by repeat (first | exact Exts.refl _ | apply Exts.andR | apply Exts.alloc | apply Exts.wext | apply Exts.drew | apply Exts.drewN))) (KH.out.exts (by repeat (first | exact Exts.refl _ | apply Exts.andR | apply Exts.alloc | apply Exts.wext | apply Exts.drew | apply Exts.drewN))) HT.out).mono ?_; rintro e w' ⟨rfl, x5, rfl⟩))
    go_ret
    exact ⟨rfl, EX.out.trans (by repeat (first | exact Exts.refl _ | apply Exts.andR | apply Exts.alloc | apply Exts.wext | apply Exts.drew | apply Exts.drewN))⟩
  | true =>
    rw [hl] at hc
    have e3 : decide (un < day) = false := by simpa using hc
    have HL := Lib.hid hl
    clear h hf hc hl f1 f2
    go_enter Try.func7, Try.ntmps7
    go_wp2_with (first | (go_at_call 8; refine (small8 _).mono ?_; rintro e w' ⟨rfl, x1, rfl⟩) | (go_at_call 9; refine (few9_eq _ _ _ _ _ _ _ _ P _ _ HF.out (H.out.exts (by repeat (first | exact Exts.refl _ | apply Exts.andR | apply Exts.alloc | apply Exts.wext | apply Exts.drew | apply Exts.drewN)))).mono ?_; rintro e w' ⟨rfl, x2, rfl⟩) | (go_at_call 16; refine (lapse16_no _ _ _ _ _ _ _ _ P _ _ (H.out.exts (by repeat (first | exact Exts.refl _ | apply Exts.andR | apply Exts.alloc | apply Exts.wext | apply Exts.drew | apply Exts.drewN))) HT.out HC.out).mono ?_; rintro e W3 ⟨a3, c3, rfl, hx3, hp3⟩; (have C3 := box_all W3 #[.int .i64 id, .int .i64 ho, .int .i64 lot, .slice ao P.length cap, .int .i64 us, .int .i64 un, .bool ov] (Exts.trans (by repeat (first | with_reducible exact Exts.refl _ | with_reducible apply Exts.alloc | with_reducible apply Exts.wext)) hx3)); (have c3f := fun i => C3 W3 i (Exts.refl _)); (have l3 := World.block_lt_of_cell? W3 _ (c3f 0)); (have KP := Lib.hid hp3); (have KH := Lib.hid (H.out.exts (Exts.trans (a := w) (by repeat (first | exact Exts.refl _ | apply Exts.andR | apply Exts.alloc | apply Exts.wext | apply Exts.drew | apply Exts.drewN)) hx3))); (have EX := Lib.hid (Exts.trans (a := w) (by repeat (first | exact Exts.refl _ | apply Exts.andR | apply Exts.alloc | apply Exts.wext | apply Exts.drew | apply Exts.drewN)) hx3)); clear C3 hp3 hx3) | (go_at_call 10; refine (living10_eq _ _ _ _ _ _ _ _ _ _ _ hn HL.out).mono ?_; rintro e w' ⟨rfl, x4, rfl⟩) | (go_at_call 14; refine (same14 _ _ _ _ _ _ _ _ _ _ P _ (KP.out.exts (by repeat (first | exact Exts.refl _ | apply Exts.andR | apply Exts.alloc | apply Exts.wext | apply Exts.drew | apply Exts.drewN))) (KH.out.exts (by repeat (first | exact Exts.refl _ | apply Exts.andR | apply Exts.alloc | apply Exts.wext | apply Exts.drew | apply Exts.drewN))) HT.out).mono ?_; rintro e w' ⟨rfl, x5, rfl⟩))
    go_ret
    exact ⟨rfl, EX.out.trans (by repeat (first | exact Exts.refl _ | apply Exts.andR | apply Exts.alloc | apply Exts.wext | apply Exts.drew | apply Exts.drewN))⟩

set_option maxHeartbeats 4000000 in
theorem ends7_yes (id ho lot us un : Int) (ao : Option Addr) (cap : Nat) (P : List PhC) (day later : Int) (w : World) {S : Nat → Prop} (h : Phs S w (.slice ao P.length cap) P) (hf : fewB P = true) (hl : liv P.length us false = true) (hd : un < day) (c : Int) (hc : useCode P.length us un true later = c) (h22 : c = 1 ∨ c = 22) :
    Calls Try.prog 7 #[rightV id ho lot (.slice ao P.length cap) us un false, .int .i64 day, .int .i64 later] w fun e w' => e = .returned (.bool true) ∧ Exts w w' := by
  have H := Lib.hid h
  have HF := Lib.hid hf
  have HT := Lib.hid (fits_of_few hf)
  have hn := few_len hf
  have HL := Lib.hid hl
  have HC := Lib.hid hc
  have hdead : liv P.length us true = false := rfl
  have HD := Lib.hid hdead
  have HD2 := Lib.hid (show (liv P.length us true && decide (un < later)) = false by rw [hdead]; rfl)
  have e3 : decide (un < day) = true := by simpa using hd
  have h0 : c ≠ 0 := by omega
  have H0 := Lib.hid h0
  have HX : Hid (un < day) := Lib.hid hd
  clear h hf hl hc hdead h0 hd
  rcases h22 with rfl | rfl
  all_goals
    go_enter Try.func7, Try.ntmps7
    go_wp2_with (first | (go_at_call 8; refine (small8 _).mono ?_; rintro e w' ⟨rfl, x1, rfl⟩) | (go_at_call 9; refine (few9_eq _ _ _ _ _ _ _ _ P _ _ HF.out (H.out.exts (by repeat (first | exact Exts.refl _ | apply Exts.andR | apply Exts.alloc | apply Exts.wext | apply Exts.drew | apply Exts.drewN)))).mono ?_; rintro e w' ⟨rfl, x2, rfl⟩) | (go_at_call 16; ((with_reducible refine (lapse16_yes _ _ _ _ _ _ _ P _ _ (Phs.exts H.out (by repeat (first | exact Exts.refl _ | apply Exts.andR | apply Exts.alloc | apply Exts.wext | apply Exts.drew | apply Exts.drewN))) HT.out HL.out HX.out).mono ?_); rintro e W3 ⟨a3, c3, rfl, hx3, hp3⟩; (have C3 := box_all W3 #[.int .i64 id, .int .i64 ho, .int .i64 lot, .slice ao P.length cap, .int .i64 us, .int .i64 un, .bool false] (Exts.trans (by repeat (first | with_reducible exact Exts.refl _ | with_reducible apply Exts.alloc | with_reducible apply Exts.wext)) hx3)); (have c3f := fun i => C3 W3 i (Exts.refl _)); (have l3 := World.block_lt_of_cell? W3 _ (c3f 0)); (have KP := Lib.hid hp3); (have KH := Lib.hid (H.out.exts (Exts.trans (a := w) (by repeat (first | exact Exts.refl _ | apply Exts.andR | apply Exts.alloc | apply Exts.wext | apply Exts.drew | apply Exts.drewN)) hx3))); (have EX := Lib.hid (Exts.trans (a := w) (by repeat (first | exact Exts.refl _ | apply Exts.andR | apply Exts.alloc | apply Exts.wext | apply Exts.drew | apply Exts.drewN)) hx3)); (have C3H := Lib.hid C3); clear C3 hp3 hx3)) | (go_at_call 16; ((with_reducible refine (lapse16_no _ _ _ _ _ _ _ _ P _ _ (Phs.exts KP.out (by repeat (first | exact Exts.refl _ | apply Exts.andR | apply Exts.alloc | apply Exts.wext | apply Exts.drew | apply Exts.drewN))) HT.out HD2.out).mono ?_); rintro e W8 ⟨a8, c8, rfl, hx8, hp8⟩; (have E8 : Exts W3 W8 := Exts.trans (by repeat (first | exact Exts.refl _ | apply Exts.andR | apply Exts.alloc | apply Exts.wext | apply Exts.drew | apply Exts.drewN)) hx8); (have c3g := fun i => C3H.out W8 i E8); (have C8 := box_all W8 #[.int .i64 id, .int .i64 ho, .int .i64 lot, .slice a3 P.length c3, .int .i64 us, .int .i64 un, .bool true] (Exts.trans (by repeat (first | with_reducible exact Exts.refl _ | with_reducible apply Exts.alloc | with_reducible apply Exts.wext)) hx8)); (have c8f := fun i => C8 W8 i (Exts.refl _)); (have l3' := World.block_lt_of_cell? W8 _ (c3g 0)); (have l8 := World.block_lt_of_cell? W8 _ (c8f 0)); (have KP8 := Lib.hid (KP.out.exts E8)); (have KH8 := Lib.hid (KH.out.exts E8)); (have K8 := Lib.hid hp8); (have EX8 := Lib.hid (EX.out.trans E8)); clear C8 hp8 hx8 E8)) | (go_at_call 10; refine (living10_eq _ _ _ _ _ _ _ _ _ true _ (by omega) HL.out).mono ?_; rintro e w' ⟨rfl, x4, rfl⟩) | (go_at_call 12; refine (use12_err _ _ _ _ _ _ _ _ _ _ _ (by omega) _ HC.out H0.out).mono ?_; rintro e w' ⟨rfl, x5, rfl⟩) | (go_at_call 22; refine (transfer22_spent _ _ _ _ _ _ _ _ _ _ _ (by omega) HD.out).mono ?_; rintro e w' ⟨rfl, x6, rfl⟩) | (go_at_call 17; refine (split17_spent _ _ _ _ _ _ _ _ _ _ _ _ (by omega) HD.out).mono ?_; rintro e w' ⟨rfl, x7, rfl⟩) | (go_at_call 14; (with_reducible refine (same14 _ _ _ _ _ _ _ _ _ _ P _ (Phs.exts KP8.out (by repeat (first | exact Exts.refl _ | apply Exts.andR | apply Exts.alloc | apply Exts.wext | apply Exts.drew | apply Exts.drewN))) (Phs.exts K8.out (by repeat (first | exact Exts.refl _ | apply Exts.andR | apply Exts.alloc | apply Exts.wext | apply Exts.drew | apply Exts.drewN))) HT.out).mono ?_); rintro e w' ⟨rfl, x9, rfl⟩) | (go_at_call 14; (with_reducible refine (same14 _ _ _ _ _ _ _ _ _ _ P _ (Phs.exts KP8.out (by repeat (first | exact Exts.refl _ | apply Exts.andR | apply Exts.alloc | apply Exts.wext | apply Exts.drew | apply Exts.drewN))) (Phs.exts KH8.out (by repeat (first | exact Exts.refl _ | apply Exts.andR | apply Exts.alloc | apply Exts.wext | apply Exts.drew | apply Exts.drewN))) HT.out).mono ?_); rintro e w' ⟨rfl, x10, rfl⟩) | (go_at_call 11; (with_reducible refine (left11_dead _ _ _ _ _ _ _ _ P _ HD.out (Phs.exts KP8.out (by repeat (first | exact Exts.refl _ | apply Exts.andR | apply Exts.alloc | apply Exts.wext | apply Exts.drew | apply Exts.drewN))) HT.out).mono ?_); rintro e w' ⟨a11, c11, rfl, x11, rfl⟩))
    go_ret
    exact ⟨rfl, EX8.out.trans (by repeat (first | exact Exts.refl _ | apply Exts.andR | apply Exts.alloc | apply Exts.wext | apply Exts.drew | apply Exts.drewN))⟩

theorem ends7 (id ho lot us un : Int) (ov : Bool) (ao : Option Addr) (cap : Nat) (P : List PhC) (day later : Int) (w : World) {S : Nat → Prop} (h : Phs S w (.slice ao P.length cap) P) (_ : I64 id) (_ : I64 us) (_ : I64 un) (_ : I64 day) (_ : I64 later) :
    Calls Try.prog 7 #[rightV id ho lot (.slice ao P.length cap) us un ov, .int .i64 day, .int .i64 later] w fun e w' => e = .returned (.bool true) ∧ Exts w w' := by
  cases hf : fewB P with
  | false => exact ends7_many id ho lot us un ov ao cap P day later w h hf
  | true =>
    cases hc : (liv P.length us ov && decide (un < day)) with
    | false => exact ends7_no id ho lot us un ov ao cap P day later w h hf hc
    | true =>
      rw [Bool.and_eq_true, decide_eq_true_eq] at hc
      have e := (liv_iff _ _ _).1 hc.1
      obtain ⟨rfl, _, _⟩ := e
      refine ends7_yes id ho lot us un ao cap P day later w h hf hc.1 hc.2 _ rfl ?_
      unfold useCode
      split
      · exact .inl rfl
      · rw [if_neg (by simp [liv])]
        exact .inr rfl
end Go.Proofs.Ytnpjagodbnpahaa
