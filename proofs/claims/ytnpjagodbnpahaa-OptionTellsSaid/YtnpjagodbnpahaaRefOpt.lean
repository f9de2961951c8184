/- Living, Left, Lapse, Transfer of the reference of chapter 31. Conditions: the numbers of phases are small. -/
import Derived.Test.YtnpjagodbnpahaaRefPh
import Derived.Test.YtnpjagodbnpahaaUses
namespace Go.Proofs.Ytnpjagodbnpahaa
open Go.RowKit
set_option linter.unusedSimpArgs false
set_option linter.unusedVariables false

set_option maxRecDepth 100000
set_option maxHeartbeats 1000000 in
theorem living26 (id ho lot us un : Int) (ov : Bool) (ao : Option Addr) (n cap : Nat) (w : World) (hn : n ≤ 9223372036854775807) :
    Calls Try.prog 26 #[rightV id ho lot (.slice ao n cap) us un ov] w fun e w' => e = .returned (.bool (liv n us ov)) ∧ Exts w w' := by
  cases ov
  · by_cases h1 : 0 ≤ us
    · by_cases h2 : us < n
      · have hr : liv n us false = true := by simp [liv, h1, h2]
        have HR := Lib.hid hr
        go_enter Try.func26, Try.ntmps26
        go_wp2
        go_ret
        exact ⟨by rw [HR.out]; rfl, (by repeat (first | exact Exts.refl _ | apply Exts.andR | apply Exts.alloc | apply Exts.wext | apply Exts.drew | apply Exts.drewN))⟩
      · have hr : liv n us false = false := by simp [liv, h2]
        have HR := Lib.hid hr
        clear hr
        have b2 : decide (us < n) = false := by simpa using h2
        go_enter Try.func26, Try.ntmps26
        go_wp2
        go_ret
        exact ⟨by rw [HR.out]; rfl, (by repeat (first | exact Exts.refl _ | apply Exts.andR | apply Exts.alloc | apply Exts.wext | apply Exts.drew | apply Exts.drewN))⟩
    · have hr : liv n us false = false := by simp [liv, h1]
      have HR := Lib.hid hr
      clear hr
      have b1 : decide (0 ≤ us) = false := by simpa using h1
      go_enter Try.func26, Try.ntmps26
      go_wp2
      go_ret
      exact ⟨by rw [HR.out]; rfl, (by repeat (first | exact Exts.refl _ | apply Exts.andR | apply Exts.alloc | apply Exts.wext | apply Exts.drew | apply Exts.drewN))⟩
  · have hr : liv n us true = false := by simp [liv]
    have HR := Lib.hid hr
    clear hr
    go_enter Try.func26, Try.ntmps26
    go_wp2
    go_ret
    exact ⟨by rw [HR.out]; rfl, (by repeat (first | exact Exts.refl _ | apply Exts.andR | apply Exts.alloc | apply Exts.wext | apply Exts.drew | apply Exts.drewN))⟩
theorem living26_eq (id ho lot us un : Int) (ov : Bool) (ao : Option Addr) (n cap : Nat) (b : Bool) (w : World) (hn : n ≤ 9223372036854775807) (h : liv n us ov = b) :
    Calls Try.prog 26 #[rightV id ho lot (.slice ao n cap) us un ov] w fun e w' => e = .returned (.bool b) ∧ Exts w w' := by
  subst h
  exact living26 id ho lot us un ov ao n cap w hn

set_option maxHeartbeats 1000000 in
theorem left27 (id ho lot us un : Int) (ov : Bool) (ao : Option Addr) (cap : Nat) (P : List PhC) (w : World) {S : Nat → Prop} (h : Phs S w (.slice ao P.length cap) P) (hf : Fits P) :
    Calls Try.prog 27 #[rightV id ho lot (.slice ao P.length cap) us un ov] w fun e w' => ∃ ao' c', e = .returned (.slice ao' (leftP P us ov).length c') ∧ Exts w w' ∧ Phs (fun b => w.heap.size ≤ b) w' (.slice ao' (leftP P us ov).length c') (leftP P us ov) := by
  have hn := hf.1
  by_cases hl : liv P.length us ov = true
  · have e := hl
    rw [liv_iff] at e
    obtain ⟨rfl, h1, h2⟩ := e
    obtain ⟨u, rfl⟩ : ∃ u : Nat, us = u := ⟨us.toNat, by omega⟩
    have hu : u < P.length := by omega
    obtain ⟨f1, f2, f3, f4⟩ := h.facts
    obtain ⟨b, off, rfl, _, hb⟩ := f4 (by omega)
    have hP : leftP P u false = P.drop u := by simp [leftP, hl]
    have R := h.part u (P.length - u) (cap - u) (by omega) (by omega) (by omega) (some ⟨b, off + u * 2, none⟩) (by simp) (by intro b' off' he _; cases he; rfl)
    have hd : (P.drop u).take (P.length - u) = P.drop u := by rw [← List.length_drop, List.take_length]
    rw [hd] at R
    rw [hP]
    have HR := Lib.hid R
    have HF := Lib.hid (hf.drop u)
    have HL := Lib.hid hl
    clear R hd hP h hf h1 h2 f3 f4 hl
    unfold maxLen at f2
    go_enter Try.func27, Try.ntmps27
    go_wp2_with (first | (go_at_call 26; refine (living26_eq _ _ _ _ _ _ _ _ _ true _ (by omega) HL.out).mono ?_; rintro e w' ⟨rfl, x, rfl⟩) | (go_at_call 33; refine (refPhases33 _ (P.drop u) _ (HR.out.exts (by repeat (first | exact Exts.refl _ | apply Exts.andR | apply Exts.alloc | apply Exts.wext | apply Exts.drew | apply Exts.drewN))) HF.out).mono ?_; rintro e w' ⟨ao', c', rfl, ⟨x2, rfl⟩, hp⟩; replace hp := Phs.from (w0 := w) hp (by repeat (first | exact Exts.refl _ | apply Exts.andR | apply Exts.alloc | apply Exts.wext | apply Exts.drew | apply Exts.drewN)); try simp only [wext_and] at hp))
    go_ret
    exact ⟨ao', c', by simp [go_sem], (by repeat (first | exact Exts.refl _ | apply Exts.andR | apply Exts.alloc | apply Exts.wext | apply Exts.drew | apply Exts.drewN)), hp⟩
  · have hlf : liv P.length us ov = false := by simpa using hl
    have hP : leftP P us ov = [] := by simp [leftP, hl]
    rw [hP]
    have HL := Lib.hid hlf
    clear hl hlf hP h hf
    go_enter Try.func27, Try.ntmps27
    go_wp2_with (first | (go_at_call 26; refine (living26_eq _ _ _ _ _ _ _ _ _ false _ (by omega) HL.out).mono ?_; rintro e w' ⟨rfl, x, rfl⟩))
    go_ret
    exact ⟨none, 0, rfl, (by repeat (first | exact Exts.refl _ | apply Exts.andR | apply Exts.alloc | apply Exts.wext | apply Exts.drew | apply Exts.drewN)), Phs.nil _ _⟩

set_option maxHeartbeats 1000000 in
theorem lapse21_yes (id ho lot un us : Int) (ao : Option Addr) (cap n : Nat) (day : Int) (w : World) (hn : n ≤ 100000) (hl : liv n us false = true) (hd : un < day) :
    Calls Try.prog 21 #[rightV id ho lot (.slice ao n cap) us un false, .int .i64 day] w fun e w' => e = .returned (.tuple #[rightV id ho lot (.slice ao n cap) us un true, .bool true]) ∧ Exts w w' := by
  have HL := Lib.hid hl
  have b1 : decide (day ≤ un) = false := by simp; omega
  clear hl hd
  go_enter Try.func21, Try.ntmps21
  go_wp2_with (first | (go_at_call 26; refine (living26_eq _ _ _ _ _ _ _ _ _ true _ (by omega) HL.out).mono ?_; rintro e w' ⟨rfl, x, rfl⟩))
  refine bodyPost_ret (v := .tuple #[rightV id ho lot (.slice ao n cap) us un true, .bool true]) (by simp [results, go_sem]) rfl ⟨rfl, (by repeat (first | exact Exts.refl _ | apply Exts.andR | apply Exts.alloc | apply Exts.wext | apply Exts.drew | apply Exts.drewN))⟩

set_option maxHeartbeats 1000000 in
theorem lapse21_no (id ho lot un us : Int) (ov : Bool) (ao : Option Addr) (cap n : Nat) (day : Int) (w : World) (hn : n ≤ 100000) (hl : (liv n us ov && decide (un < day)) = false) :
    Calls Try.prog 21 #[rightV id ho lot (.slice ao n cap) us un ov, .int .i64 day] w fun e w' => e = .returned (.tuple #[rightV id ho lot (.slice ao n cap) us un ov, .bool false]) ∧ Exts w w' := by
  cases hb : liv n us ov with
  | false =>
    have HL := Lib.hid hb
    clear hl hb
    go_enter Try.func21, Try.ntmps21
    go_wp2_with (first | (go_at_call 26; refine (living26_eq _ _ _ _ _ _ _ _ _ _ _ (by omega) HL.out).mono ?_; rintro e w' ⟨rfl, x, rfl⟩))
    refine bodyPost_ret (v := .tuple #[rightV id ho lot (.slice ao n cap) us un ov, .bool false]) (by simp [results, go_sem]) rfl ⟨rfl, (by repeat (first | exact Exts.refl _ | apply Exts.andR | apply Exts.alloc | apply Exts.wext | apply Exts.drew | apply Exts.drewN))⟩
  | true =>
    rw [hb] at hl
    have b0 : ¬ un < day := by simpa using hl
    have b1 : decide (day ≤ un) = true := by simp; omega
    have HL := Lib.hid hb
    clear hl hb b0
    go_enter Try.func21, Try.ntmps21
    go_wp2_with (first | (go_at_call 26; refine (living26_eq _ _ _ _ _ _ _ _ _ _ _ (by omega) HL.out).mono ?_; rintro e w' ⟨rfl, x, rfl⟩))
    refine bodyPost_ret (v := .tuple #[rightV id ho lot (.slice ao n cap) us un ov, .bool false]) (by simp [results, go_sem]) rfl ⟨rfl, (by repeat (first | exact Exts.refl _ | apply Exts.andR | apply Exts.alloc | apply Exts.wext | apply Exts.drew | apply Exts.drewN))⟩

set_option maxHeartbeats 1000000 in
theorem transfer23_ok (id ho lot un us : Int) (ov : Bool) (ao : Option Addr) (cap k : Nat) (n : Int) (w : World) (hn : k ≤ 100000) (hl : liv k us ov = true) (hd : 0 ≤ n) :
    Calls Try.prog 23 #[rightV id ho lot (.slice ao k cap) us un ov, .int .i64 n] w fun e w' => e = .returned (.tuple #[rightV id n lot (.slice ao k cap) us un ov, .int .i64 0]) ∧ Exts w w' := by
  have HL := Lib.hid hl
  have b1 : decide (n < 0) = false := by simp; omega
  clear hl hd
  go_enter Try.func23, Try.ntmps23
  go_wp2_with (first | (go_at_call 26; refine (living26_eq _ _ _ _ _ _ _ _ _ true _ (by omega) HL.out).mono ?_; rintro e w' ⟨rfl, x, rfl⟩))
  refine bodyPost_ret (v := .tuple #[rightV id n lot (.slice ao k cap) us un ov, .int .i64 0]) (by simp [results, go_sem]) rfl ⟨rfl, (by repeat (first | exact Exts.refl _ | apply Exts.andR | apply Exts.alloc | apply Exts.wext | apply Exts.drew | apply Exts.drewN))⟩
set_option maxHeartbeats 1000000 in
theorem transfer23_spent (id ho lot un us : Int) (ov : Bool) (ao : Option Addr) (cap k : Nat) (n : Int) (w : World) (hn : k ≤ 100000) (hl : liv k us ov = false) :
    Calls Try.prog 23 #[rightV id ho lot (.slice ao k cap) us un ov, .int .i64 n] w fun e w' => e = .returned (.tuple #[right0, .int .i64 22]) ∧ Exts w w' := by
  have HL := Lib.hid hl
  clear hl
  go_enter Try.func23, Try.ntmps23
  go_wp2_with (first | (go_at_call 26; refine (living26_eq _ _ _ _ _ _ _ _ _ false _ (by omega) HL.out).mono ?_; rintro e w' ⟨rfl, x, rfl⟩))
  refine bodyPost_ret (v := .tuple #[right0, .int .i64 22]) (by simp [results, go_sem]) rfl ⟨rfl, (by repeat (first | exact Exts.refl _ | apply Exts.andR | apply Exts.alloc | apply Exts.wext | apply Exts.drew | apply Exts.drewN))⟩
set_option maxHeartbeats 1000000 in
theorem transfer23_arg (id ho lot un us : Int) (ov : Bool) (ao : Option Addr) (cap k : Nat) (n : Int) (w : World) (hn : k ≤ 100000) (hl : liv k us ov = true) (hd : n < 0) :
    Calls Try.prog 23 #[rightV id ho lot (.slice ao k cap) us un ov, .int .i64 n] w fun e w' => e = .returned (.tuple #[right0, .int .i64 1]) ∧ Exts w w' := by
  have HL := Lib.hid hl
  clear hl
  go_enter Try.func23, Try.ntmps23
  go_wp2_with (first | (go_at_call 26; refine (living26_eq _ _ _ _ _ _ _ _ _ true _ (by omega) HL.out).mono ?_; rintro e w' ⟨rfl, x, rfl⟩))
  refine bodyPost_ret (v := .tuple #[right0, .int .i64 1]) (by simp [results, go_sem]) rfl ⟨rfl, (by repeat (first | exact Exts.refl _ | apply Exts.andR | apply Exts.alloc | apply Exts.wext | apply Exts.drew | apply Exts.drewN))⟩

set_option maxHeartbeats 1000000 in
theorem split24_spent (id ho lot un us : Int) (ov : Bool) (ao : Option Addr) (cap k : Nat) (at' nid : Int) (w : World) (hn : k ≤ 100000) (hl : liv k us ov = false) :
    Calls Try.prog 24 #[rightV id ho lot (.slice ao k cap) us un ov, .int .i64 at', .int .i64 nid] w fun e w' => e = .returned (.tuple #[right0, right0, .int .i64 22]) ∧ Exts w w' := by
  have HL := Lib.hid hl
  clear hl
  go_enter Try.func24, Try.ntmps24
  go_wp2_with (first | (go_at_call 26; refine (living26_eq _ _ _ _ _ _ _ _ _ false _ (by omega) HL.out).mono ?_; rintro e w' ⟨rfl, x, rfl⟩))
  refine bodyPost_ret (v := .tuple #[right0, right0, .int .i64 22]) (by simp [results, go_sem]) rfl ⟨rfl, (by repeat (first | exact Exts.refl _ | apply Exts.andR | apply Exts.alloc | apply Exts.wext | apply Exts.drew | apply Exts.drewN))⟩
set_option maxHeartbeats 1000000 in
theorem split24_arg (id ho lot un us : Int) (ov : Bool) (ao : Option Addr) (cap k : Nat) (at' nid : Int) (w : World) (hn : k ≤ 100000) (hl : liv k us ov = true) (hb : at' ≤ us ∨ (k : Int) ≤ at' ∨ nid < 0 ∨ nid = id) :
    Calls Try.prog 24 #[rightV id ho lot (.slice ao k cap) us un ov, .int .i64 at', .int .i64 nid] w fun e w' => e = .returned (.tuple #[right0, right0, .int .i64 1]) ∧ Exts w w' := by
  have HL := Lib.hid hl
  clear hl
  by_cases h1 : at' ≤ us
  · have b1 : decide (at' ≤ us) = true := by simpa using h1
    go_enter Try.func24, Try.ntmps24
    go_wp2_with (first | (go_at_call 26; refine (living26_eq _ _ _ _ _ _ _ _ _ true _ (by omega) HL.out).mono ?_; rintro e w' ⟨rfl, x, rfl⟩))
    refine bodyPost_ret (v := .tuple #[right0, right0, .int .i64 1]) (by simp [results, go_sem]) rfl ⟨rfl, (by repeat (first | exact Exts.refl _ | apply Exts.andR | apply Exts.alloc | apply Exts.wext | apply Exts.drew | apply Exts.drewN))⟩
  · have b1 : decide (at' ≤ us) = false := by simpa using h1
    by_cases h2 : (k : Int) ≤ at'
    · have b2 : decide ((k : Int) ≤ at') = true := by simpa using h2
      go_enter Try.func24, Try.ntmps24
      go_wp2_with (first | (go_at_call 26; refine (living26_eq _ _ _ _ _ _ _ _ _ true _ (by omega) HL.out).mono ?_; rintro e w' ⟨rfl, x, rfl⟩))
      refine bodyPost_ret (v := .tuple #[right0, right0, .int .i64 1]) (by simp [results, go_sem]) rfl ⟨rfl, (by repeat (first | exact Exts.refl _ | apply Exts.andR | apply Exts.alloc | apply Exts.wext | apply Exts.drew | apply Exts.drewN))⟩
    · have b2 : decide ((k : Int) ≤ at') = false := by simpa using h2
      by_cases h3 : nid < 0
      · have b3 : decide (nid < 0) = true := by simpa using h3
        go_enter Try.func24, Try.ntmps24
        go_wp2_with (first | (go_at_call 26; refine (living26_eq _ _ _ _ _ _ _ _ _ true _ (by omega) HL.out).mono ?_; rintro e w' ⟨rfl, x, rfl⟩))
        refine bodyPost_ret (v := .tuple #[right0, right0, .int .i64 1]) (by simp [results, go_sem]) rfl ⟨rfl, (by repeat (first | exact Exts.refl _ | apply Exts.andR | apply Exts.alloc | apply Exts.wext | apply Exts.drew | apply Exts.drewN))⟩
      · have b3 : decide (nid < 0) = false := by simpa using h3
        have h4 : nid = id := by omega
        subst h4
        go_enter Try.func24, Try.ntmps24
        go_wp2_with (first | (go_at_call 26; refine (living26_eq _ _ _ _ _ _ _ _ _ true _ (by omega) HL.out).mono ?_; rintro e w' ⟨rfl, x, rfl⟩))
        refine bodyPost_ret (v := .tuple #[right0, right0, .int .i64 1]) (by simp [results, go_sem]) rfl ⟨rfl, (by repeat (first | exact Exts.refl _ | apply Exts.andR | apply Exts.alloc | apply Exts.wext | apply Exts.drew | apply Exts.drewN))⟩

set_option maxHeartbeats 1000000 in
theorem use20_err (id ho lot us un : Int) (ov : Bool) (ao : Option Addr) (cap : Nat) (n : Nat) (day : Int) (w : World) (hn : n ≤ 100000) (c : Int) (hc : useCode n us un ov day = c) (h0 : c ≠ 0) :
    Calls Try.prog 20 #[rightV id ho lot (.slice ao n cap) us un ov, .int .i64 day] w fun e w' => e = .returned (.tuple #[right0, phase0, .int .i64 c]) ∧ Exts w w' := by
  unfold useCode at hc
  by_cases h1 : day < 0
  · rw [if_pos (Or.inl h1)] at hc
    subst hc
    clear h0
    go_enter Try.func20, Try.ntmps20
    go_wp2
    refine bodyPost_ret (v := .tuple #[right0, phase0, .int .i64 1]) (by simp [results, go_sem]) rfl ⟨rfl, (by repeat (first | exact Exts.refl _ | apply Exts.andR | apply Exts.alloc | apply Exts.wext | apply Exts.drew | apply Exts.drewN))⟩
  · by_cases h2 : 1073741824 < day
    · rw [if_pos (Or.inr h2)] at hc
      subst hc
      clear h0
      have b1 : decide (day < 0) = false := by simpa using h1
      go_enter Try.func20, Try.ntmps20
      go_wp2
      refine bodyPost_ret (v := .tuple #[right0, phase0, .int .i64 1]) (by simp [results, go_sem]) rfl ⟨rfl, (by repeat (first | exact Exts.refl _ | apply Exts.andR | apply Exts.alloc | apply Exts.wext | apply Exts.drew | apply Exts.drewN))⟩
    · have b1 : decide (day < 0) = false := by simpa using h1
      have b2 : decide (1073741824 < day) = false := by simpa using h2
      rw [if_neg (by omega)] at hc
      cases hl : liv n us ov with
      | false =>
        rw [hl] at hc
        simp at hc
        subst hc
        have HL := Lib.hid hl
        clear hl h0
        go_enter Try.func20, Try.ntmps20
        go_wp2_with (first | (go_at_call 26; refine (living26_eq _ _ _ _ _ _ _ _ _ false _ (by omega) HL.out).mono ?_; rintro e w' ⟨rfl, x, rfl⟩))
        refine bodyPost_ret (v := .tuple #[right0, phase0, .int .i64 22]) (by simp [results, go_sem]) rfl ⟨rfl, (by repeat (first | exact Exts.refl _ | apply Exts.andR | apply Exts.alloc | apply Exts.wext | apply Exts.drew | apply Exts.drewN))⟩
      | true =>
        rw [hl] at hc
        simp at hc
        have h3 : un < day := by
          refine Classical.byContradiction fun h => ?_
          rw [if_neg h] at hc
          exact h0 hc.symm
        rw [if_pos h3] at hc
        subst hc
        have HL := Lib.hid hl
        clear hl h0
        go_enter Try.func20, Try.ntmps20
        go_wp2_with (first | (go_at_call 26; refine (living26_eq _ _ _ _ _ _ _ _ _ true _ (by omega) HL.out).mono ?_; rintro e w' ⟨rfl, x, rfl⟩))
        refine bodyPost_ret (v := .tuple #[right0, phase0, .int .i64 20]) (by simp [results, go_sem]) rfl ⟨rfl, (by repeat (first | exact Exts.refl _ | apply Exts.andR | apply Exts.alloc | apply Exts.wext | apply Exts.drew | apply Exts.drewN))⟩
end Go.Proofs.Ytnpjagodbnpahaa
