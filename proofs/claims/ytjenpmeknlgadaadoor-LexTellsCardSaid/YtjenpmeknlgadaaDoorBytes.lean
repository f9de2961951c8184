/- The kinds of bytes, and how many bytes at the beginning of a string are of a kind. No condition. -/
import Derived.Test.YtjenpmeknlgadaaDoorHeld
import Derived.Test.YtjenpmeknlgadaaDoorFrame
import Derived.LoopTactic
namespace Go.Proofs.YtjenpmeknlgadaaDoor
open Go.RowKit
set_option linter.unusedSimpArgs false
set_option linter.unusedVariables false

def blankI (n : Int) : Bool := n == 32 || (n == 9 || n == 10)
def letterI (n : Int) : Bool := decide (97 ≤ n) && decide (n ≤ 122)
def digitI (n : Int) : Bool := decide (48 ≤ n) && decide (n ≤ 57)
def wordI (n : Int) : Bool := letterI n || digitI n

set_option maxRecDepth 100000
set_option maxHeartbeats 1000000
theorem blank23 (n : Int) (w : World) : Calls Tryd.prog 23 #[.int .u8 n] w fun e w' => e = .returned (.bool (blankI n)) ∧ w = w' := by
  by_cases h1 : n = 32
  · subst h1
    go_enter Tryd.func23, Tryd.ntmps23
    go_wp2
    go_ret
    exact ⟨rfl, rfl⟩
  · have b1 : (n == 32) = false := by simpa using h1
    have hr : blankI n = (n == 9 || n == 10) := by simp [blankI, b1]
    by_cases h2 : n = 9
    · subst h2
      go_enter Tryd.func23, Tryd.ntmps23
      go_wp2
      go_ret
      exact ⟨rfl, rfl⟩
    · have b2 : (n == 9) = false := by simpa using h2
      have HR := Lib.hid (show blankI n = (n == 10) by rw [hr, b2]; rfl)
      clear hr
      go_enter Tryd.func23, Tryd.ntmps23
      go_wp2
      go_ret
      exact ⟨by rw [HR.out]; rfl, rfl⟩

theorem letter28 (n : Int) (w : World) : Calls Tryd.prog 28 #[.int .u8 n] w fun e w' => e = .returned (.bool (letterI n)) ∧ w = w' := by
  by_cases h1 : 97 ≤ n
  · by_cases h2 : n ≤ 122
    · have HR := Lib.hid (show letterI n = true by simp [letterI, h1, h2])
      go_enter Tryd.func28, Tryd.ntmps28
      go_wp2
      go_ret
      exact ⟨by rw [HR.out]; rfl, rfl⟩
    · have HR := Lib.hid (show letterI n = false by simp [letterI, h2])
      have b2 : decide (n ≤ 122) = false := by simpa using h2
      go_enter Tryd.func28, Tryd.ntmps28
      go_wp2
      go_ret
      exact ⟨by rw [HR.out]; rfl, rfl⟩
  · have HR := Lib.hid (show letterI n = false by simp [letterI, h1])
    have b1 : decide (97 ≤ n) = false := by simpa using h1
    go_enter Tryd.func28, Tryd.ntmps28
    go_wp2
    go_ret
    exact ⟨by rw [HR.out]; rfl, rfl⟩
theorem letter28_eq (n : Int) (w : World) (b : Bool) (h : letterI n = b) : Calls Tryd.prog 28 #[.int .u8 n] w fun e w' => e = .returned (.bool b) ∧ w = w' := by
  subst h
  exact letter28 n w

theorem letter30 (n : Int) (w : World) : Calls Tryd.prog 30 #[.int .u8 n] w fun e w' => e = .returned (.bool (letterI n)) ∧ w = w' := by
  by_cases h1 : 97 ≤ n
  · by_cases h2 : n ≤ 122
    · have HR := Lib.hid (show letterI n = true by simp [letterI, h1, h2])
      go_enter Tryd.func30, Tryd.ntmps30
      go_wp2
      go_ret
      exact ⟨by rw [HR.out]; rfl, rfl⟩
    · have HR := Lib.hid (show letterI n = false by simp [letterI, h2])
      have b2 : decide (n ≤ 122) = false := by simpa using h2
      go_enter Tryd.func30, Tryd.ntmps30
      go_wp2
      go_ret
      exact ⟨by rw [HR.out]; rfl, rfl⟩
  · have HR := Lib.hid (show letterI n = false by simp [letterI, h1])
    have b1 : decide (97 ≤ n) = false := by simpa using h1
    go_enter Tryd.func30, Tryd.ntmps30
    go_wp2
    go_ret
    exact ⟨by rw [HR.out]; rfl, rfl⟩
theorem letter30_eq (n : Int) (w : World) (b : Bool) (h : letterI n = b) : Calls Tryd.prog 30 #[.int .u8 n] w fun e w' => e = .returned (.bool b) ∧ w = w' := by
  subst h
  exact letter30 n w

theorem digit26 (n : Int) (w : World) : Calls Tryd.prog 26 #[.int .u8 n] w fun e w' => e = .returned (.bool (digitI n)) ∧ w = w' := by
  by_cases h1 : 48 ≤ n
  · by_cases h2 : n ≤ 57
    · have HR := Lib.hid (show digitI n = true by simp [digitI, h1, h2])
      go_enter Tryd.func26, Tryd.ntmps26
      go_wp2
      go_ret
      exact ⟨by rw [HR.out]; rfl, rfl⟩
    · have HR := Lib.hid (show digitI n = false by simp [digitI, h2])
      have b2 : decide (n ≤ 57) = false := by simpa using h2
      go_enter Tryd.func26, Tryd.ntmps26
      go_wp2
      go_ret
      exact ⟨by rw [HR.out]; rfl, rfl⟩
  · have HR := Lib.hid (show digitI n = false by simp [digitI, h1])
    have b1 : decide (48 ≤ n) = false := by simpa using h1
    go_enter Tryd.func26, Tryd.ntmps26
    go_wp2
    go_ret
    exact ⟨by rw [HR.out]; rfl, rfl⟩
theorem digit26_eq (n : Int) (w : World) (b : Bool) (h : digitI n = b) : Calls Tryd.prog 26 #[.int .u8 n] w fun e w' => e = .returned (.bool b) ∧ w = w' := by
  subst h
  exact digit26 n w

theorem digit27 (n : Int) (w : World) : Calls Tryd.prog 27 #[.int .u8 n] w fun e w' => e = .returned (.bool (digitI n)) ∧ w = w' := by
  by_cases h1 : 48 ≤ n
  · by_cases h2 : n ≤ 57
    · have HR := Lib.hid (show digitI n = true by simp [digitI, h1, h2])
      go_enter Tryd.func27, Tryd.ntmps27
      go_wp2
      go_ret
      exact ⟨by rw [HR.out]; rfl, rfl⟩
    · have HR := Lib.hid (show digitI n = false by simp [digitI, h2])
      have b2 : decide (n ≤ 57) = false := by simpa using h2
      go_enter Tryd.func27, Tryd.ntmps27
      go_wp2
      go_ret
      exact ⟨by rw [HR.out]; rfl, rfl⟩
  · have HR := Lib.hid (show digitI n = false by simp [digitI, h1])
    have b1 : decide (48 ≤ n) = false := by simpa using h1
    go_enter Tryd.func27, Tryd.ntmps27
    go_wp2
    go_ret
    exact ⟨by rw [HR.out]; rfl, rfl⟩
theorem digit27_eq (n : Int) (w : World) (b : Bool) (h : digitI n = b) : Calls Tryd.prog 27 #[.int .u8 n] w fun e w' => e = .returned (.bool b) ∧ w = w' := by
  subst h
  exact digit27 n w

theorem word29 (n : Int) (w : World) : Calls Tryd.prog 29 #[.int .u8 n] w fun e w' => e = .returned (.bool (wordI n)) ∧ w = w' := by
  cases h1 : letterI n with
  | true =>
    have HR := Lib.hid (show wordI n = true by simp [wordI, h1])
    have H1 := Lib.hid h1
    have H2 := Lib.hid (show digitI n = digitI n from rfl)
    clear h1
    go_enter Tryd.func29, Tryd.ntmps29
    go_wp2_with (first | (go_at_call 28; refine (letter28_eq _ _ _ H1.out).mono ?_; rintro e w' ⟨rfl, rfl⟩) | (go_at_call 26; refine (digit26_eq _ _ _ H2.out).mono ?_; rintro e w' ⟨rfl, rfl⟩))
    go_ret
    exact ⟨by rw [HR.out]; rfl, rfl⟩
  | false =>
    cases h2 : digitI n with
    | true =>
      have HR := Lib.hid (show wordI n = true by simp [wordI, h2])
      have H1 := Lib.hid h1
      have H2 := Lib.hid h2
      clear h1 h2
      go_enter Tryd.func29, Tryd.ntmps29
      go_wp2_with (first | (go_at_call 28; refine (letter28_eq _ _ _ H1.out).mono ?_; rintro e w' ⟨rfl, rfl⟩) | (go_at_call 26; refine (digit26_eq _ _ _ H2.out).mono ?_; rintro e w' ⟨rfl, rfl⟩))
      go_ret
      exact ⟨by rw [HR.out]; rfl, rfl⟩
    | false =>
      have HR := Lib.hid (show wordI n = false by simp [wordI, h1, h2])
      have H1 := Lib.hid h1
      have H2 := Lib.hid h2
      clear h1 h2
      go_enter Tryd.func29, Tryd.ntmps29
      go_wp2_with (first | (go_at_call 28; refine (letter28_eq _ _ _ H1.out).mono ?_; rintro e w' ⟨rfl, rfl⟩) | (go_at_call 26; refine (digit26_eq _ _ _ H2.out).mono ?_; rintro e w' ⟨rfl, rfl⟩))
      go_ret
      exact ⟨by rw [HR.out]; rfl, rfl⟩

theorem word32 (n : Int) (w : World) : Calls Tryd.prog 32 #[.int .u8 n] w fun e w' => e = .returned (.bool (wordI n)) ∧ w = w' := by
  cases h1 : letterI n with
  | true =>
    have HR := Lib.hid (show wordI n = true by simp [wordI, h1])
    have H1 := Lib.hid h1
    have H2 := Lib.hid (show digitI n = digitI n from rfl)
    clear h1
    go_enter Tryd.func32, Tryd.ntmps32
    go_wp2_with (first | (go_at_call 28; refine (letter28_eq _ _ _ H1.out).mono ?_; rintro e w' ⟨rfl, rfl⟩) | (go_at_call 26; refine (digit26_eq _ _ _ H2.out).mono ?_; rintro e w' ⟨rfl, rfl⟩))
    go_ret
    exact ⟨by rw [HR.out]; rfl, rfl⟩
  | false =>
    cases h2 : digitI n with
    | true =>
      have HR := Lib.hid (show wordI n = true by simp [wordI, h2])
      have H1 := Lib.hid h1
      have H2 := Lib.hid h2
      clear h1 h2
      go_enter Tryd.func32, Tryd.ntmps32
      go_wp2_with (first | (go_at_call 28; refine (letter28_eq _ _ _ H1.out).mono ?_; rintro e w' ⟨rfl, rfl⟩) | (go_at_call 26; refine (digit26_eq _ _ _ H2.out).mono ?_; rintro e w' ⟨rfl, rfl⟩))
      go_ret
      exact ⟨by rw [HR.out]; rfl, rfl⟩
    | false =>
      have HR := Lib.hid (show wordI n = false by simp [wordI, h1, h2])
      have H1 := Lib.hid h1
      have H2 := Lib.hid h2
      clear h1 h2
      go_enter Tryd.func32, Tryd.ntmps32
      go_wp2_with (first | (go_at_call 28; refine (letter28_eq _ _ _ H1.out).mono ?_; rintro e w' ⟨rfl, rfl⟩) | (go_at_call 26; refine (digit26_eq _ _ _ H2.out).mono ?_; rintro e w' ⟨rfl, rfl⟩))
      go_ret
      exact ⟨by rw [HR.out]; rfl, rfl⟩

theorem refBlank21 (n : Int) (w : World) : Calls Tryd.prog 21 #[.int .u8 n] w fun e w' => e = .returned (.bool (blankI n)) ∧ w = w' := by
  by_cases h1 : n = 9
  · subst h1
    go_enter Tryd.func21, Tryd.ntmps21
    go_wp2
    go_ret
    exact ⟨rfl, rfl⟩
  · have b1 : (n == 9) = false := by simpa using h1
    by_cases h2 : n = 10
    · subst h2
      go_enter Tryd.func21, Tryd.ntmps21
      go_wp2
      go_ret
      exact ⟨rfl, rfl⟩
    · have b2 : (n == 10) = false := by simpa using h2
      have HR := Lib.hid (show blankI n = (n == 32) by simp [blankI, b1, b2])
      go_enter Tryd.func21, Tryd.ntmps21
      go_wp2
      go_ret
      exact ⟨by rw [HR.out]; rfl, rfl⟩

/-- How many bytes at the beginning are of a kind. -/
def spanN (p : Int → Bool) (l : List UInt8) : Nat := (l.takeWhile fun c => p c.toNat).length
theorem spanN_le (p : Int → Bool) (l : List UInt8) : spanN p l ≤ l.length := by
  unfold spanN
  exact (List.takeWhile_prefix _).length_le
theorem spanN_at {p : Int → Bool} : ∀ {l : List UInt8} {k : Nat}, (∀ i, i < k → ∃ c, l[i]? = some c ∧ p c.toNat = true) → (∀ c, l[k]? = some c → p c.toNat = false) → spanN p l = k
  | [], 0, _, _ => rfl
  | [], k + 1, h, _ => by obtain ⟨c, hc, _⟩ := h 0 (by omega); simp at hc
  | a :: l, 0, _, h => by
    have := h a (by simp)
    simp [spanN, List.takeWhile_cons, this]
  | a :: l, k + 1, h, h' => by
    obtain ⟨c, hc, hp⟩ := h 0 (by omega)
    simp at hc
    subst hc
    have ih := spanN_at (p := p) (l := l) (k := k) (fun i hi => by simpa using h (i + 1) (by omega)) (fun c hc => h' c (by simpa using hc))
    unfold spanN at ih ⊢
    rw [List.takeWhile_cons, if_pos hp, List.length_cons, ih]

theorem span22_blank (s : ByteArray) (w : World) (hs : s.size ≤ 9223372036854775807) : Calls Tryd.prog 22 #[.string s, .func (.func 23) #[] #[]] w fun e w' => e = .returned (.int .i64 (spanN blankI s.data.toList)) ∧ w = w' := by
  go_enter Tryd.func22, Tryd.ntmps22
  go_wp2
  go_loop [5] (fun i => ∃ k : Nat, k ≤ s.size ∧ i = .int .i64 k ∧ ∀ j, j < k → ∃ c, s.data.toList[j]? = some c ∧ blankI c.toNat = true) (fun i => s.size - (intOf i).toNat)
  case atStart => exact ⟨0, by omega, rfl, fun j hj => by omega⟩
  case round =>
    obtain ⟨k, hk, rfl, hin⟩ := hrel
    have HIN := Lib.hid hin
    clear hin
    by_cases hlt : k < s.size
    · have hc : s.data.toList[k]? = some s[k] := by rw [List.getElem?_eq_getElem (by simpa using hlt)]; rfl
      have HC := Lib.hid hc
      clear hc
      cases hp : blankI (s[k].toNat : Int) with
      | true =>
        have HP := Lib.hid hp
        clear hp
        go_wp2_with (go_at_call 23; refine (blank23 _ _).mono ?_; rintro e w' ⟨rfl, rfl⟩; rw [HP.out])
        go_round
        case rel =>
          refine ⟨k + 1, by omega, by go_num, fun j hj => ?_⟩
          by_cases hjk : j < k
          · exact HIN.out j hjk
          · obtain rfl : j = k := by omega
            exact ⟨_, HC.out, HP.out⟩
        case measure => simp [intOf]; omega
      | false =>
        have HP := Lib.hid hp
        have HR := Lib.hid (spanN_at (p := blankI) HIN.out (fun c hc => by rw [HC.out] at hc; cases hc; exact hp))
        clear hp
        go_wp2_with (go_at_call 23; refine (blank23 _ _).mono ?_; rintro e w' ⟨rfl, rfl⟩; rw [HP.out])
        go_ret
        exact ⟨by rw [HR.out]; rfl, rfl⟩
    · obtain rfl : k = s.size := by omega
      have HR := Lib.hid (spanN_at (p := blankI) (l := s.data.toList) HIN.out (fun c hc => by rw [List.getElem?_eq_none (by simp)] at hc; cases hc))
      go_wp2
      go_ret
      exact ⟨by rw [HR.out]; rfl, rfl⟩

theorem span22_digit (s : ByteArray) (w : World) (hs : s.size ≤ 9223372036854775807) : Calls Tryd.prog 22 #[.string s, .func (.func 26) #[] #[]] w fun e w' => e = .returned (.int .i64 (spanN digitI s.data.toList)) ∧ w = w' := by
  go_enter Tryd.func22, Tryd.ntmps22
  go_wp2
  go_loop [5] (fun i => ∃ k : Nat, k ≤ s.size ∧ i = .int .i64 k ∧ ∀ j, j < k → ∃ c, s.data.toList[j]? = some c ∧ digitI c.toNat = true) (fun i => s.size - (intOf i).toNat)
  case atStart => exact ⟨0, by omega, rfl, fun j hj => by omega⟩
  case round =>
    obtain ⟨k, hk, rfl, hin⟩ := hrel
    have HIN := Lib.hid hin
    clear hin
    by_cases hlt : k < s.size
    · have hc : s.data.toList[k]? = some s[k] := by rw [List.getElem?_eq_getElem (by simpa using hlt)]; rfl
      have HC := Lib.hid hc
      clear hc
      cases hp : digitI (s[k].toNat : Int) with
      | true =>
        have HP := Lib.hid hp
        clear hp
        go_wp2_with (go_at_call 26; refine (digit26 _ _).mono ?_; rintro e w' ⟨rfl, rfl⟩; rw [HP.out])
        go_round
        case rel =>
          refine ⟨k + 1, by omega, by go_num, fun j hj => ?_⟩
          by_cases hjk : j < k
          · exact HIN.out j hjk
          · obtain rfl : j = k := by omega
            exact ⟨_, HC.out, HP.out⟩
        case measure => simp [intOf]; omega
      | false =>
        have HP := Lib.hid hp
        have HR := Lib.hid (spanN_at (p := digitI) HIN.out (fun c hc => by rw [HC.out] at hc; cases hc; exact hp))
        clear hp
        go_wp2_with (go_at_call 26; refine (digit26 _ _).mono ?_; rintro e w' ⟨rfl, rfl⟩; rw [HP.out])
        go_ret
        exact ⟨by rw [HR.out]; rfl, rfl⟩
    · obtain rfl : k = s.size := by omega
      have HR := Lib.hid (spanN_at (p := digitI) (l := s.data.toList) HIN.out (fun c hc => by rw [List.getElem?_eq_none (by simp)] at hc; cases hc))
      go_wp2
      go_ret
      exact ⟨by rw [HR.out]; rfl, rfl⟩

theorem span22_word29 (s : ByteArray) (w : World) (hs : s.size ≤ 9223372036854775807) : Calls Tryd.prog 22 #[.string s, .func (.func 29) #[] #[]] w fun e w' => e = .returned (.int .i64 (spanN wordI s.data.toList)) ∧ w = w' := by
  go_enter Tryd.func22, Tryd.ntmps22
  go_wp2
  go_loop [5] (fun i => ∃ k : Nat, k ≤ s.size ∧ i = .int .i64 k ∧ ∀ j, j < k → ∃ c, s.data.toList[j]? = some c ∧ wordI c.toNat = true) (fun i => s.size - (intOf i).toNat)
  case atStart => exact ⟨0, by omega, rfl, fun j hj => by omega⟩
  case round =>
    obtain ⟨k, hk, rfl, hin⟩ := hrel
    have HIN := Lib.hid hin
    clear hin
    by_cases hlt : k < s.size
    · have hc : s.data.toList[k]? = some s[k] := by rw [List.getElem?_eq_getElem (by simpa using hlt)]; rfl
      have HC := Lib.hid hc
      clear hc
      cases hp : wordI (s[k].toNat : Int) with
      | true =>
        have HP := Lib.hid hp
        clear hp
        go_wp2_with (go_at_call 29; refine (word29 _ _).mono ?_; rintro e w' ⟨rfl, rfl⟩; rw [HP.out])
        go_round
        case rel =>
          refine ⟨k + 1, by omega, by go_num, fun j hj => ?_⟩
          by_cases hjk : j < k
          · exact HIN.out j hjk
          · obtain rfl : j = k := by omega
            exact ⟨_, HC.out, HP.out⟩
        case measure => simp [intOf]; omega
      | false =>
        have HP := Lib.hid hp
        have HR := Lib.hid (spanN_at (p := wordI) HIN.out (fun c hc => by rw [HC.out] at hc; cases hc; exact hp))
        clear hp
        go_wp2_with (go_at_call 29; refine (word29 _ _).mono ?_; rintro e w' ⟨rfl, rfl⟩; rw [HP.out])
        go_ret
        exact ⟨by rw [HR.out]; rfl, rfl⟩
    · obtain rfl : k = s.size := by omega
      have HR := Lib.hid (spanN_at (p := wordI) (l := s.data.toList) HIN.out (fun c hc => by rw [List.getElem?_eq_none (by simp)] at hc; cases hc))
      go_wp2
      go_ret
      exact ⟨by rw [HR.out]; rfl, rfl⟩

theorem span22_word32 (s : ByteArray) (w : World) (hs : s.size ≤ 9223372036854775807) : Calls Tryd.prog 22 #[.string s, .func (.func 32) #[] #[]] w fun e w' => e = .returned (.int .i64 (spanN wordI s.data.toList)) ∧ w = w' := by
  go_enter Tryd.func22, Tryd.ntmps22
  go_wp2
  go_loop [5] (fun i => ∃ k : Nat, k ≤ s.size ∧ i = .int .i64 k ∧ ∀ j, j < k → ∃ c, s.data.toList[j]? = some c ∧ wordI c.toNat = true) (fun i => s.size - (intOf i).toNat)
  case atStart => exact ⟨0, by omega, rfl, fun j hj => by omega⟩
  case round =>
    obtain ⟨k, hk, rfl, hin⟩ := hrel
    have HIN := Lib.hid hin
    clear hin
    by_cases hlt : k < s.size
    · have hc : s.data.toList[k]? = some s[k] := by rw [List.getElem?_eq_getElem (by simpa using hlt)]; rfl
      have HC := Lib.hid hc
      clear hc
      cases hp : wordI (s[k].toNat : Int) with
      | true =>
        have HP := Lib.hid hp
        clear hp
        go_wp2_with (go_at_call 32; refine (word32 _ _).mono ?_; rintro e w' ⟨rfl, rfl⟩; rw [HP.out])
        go_round
        case rel =>
          refine ⟨k + 1, by omega, by go_num, fun j hj => ?_⟩
          by_cases hjk : j < k
          · exact HIN.out j hjk
          · obtain rfl : j = k := by omega
            exact ⟨_, HC.out, HP.out⟩
        case measure => simp [intOf]; omega
      | false =>
        have HP := Lib.hid hp
        have HR := Lib.hid (spanN_at (p := wordI) HIN.out (fun c hc => by rw [HC.out] at hc; cases hc; exact hp))
        clear hp
        go_wp2_with (go_at_call 32; refine (word32 _ _).mono ?_; rintro e w' ⟨rfl, rfl⟩; rw [HP.out])
        go_ret
        exact ⟨by rw [HR.out]; rfl, rfl⟩
    · obtain rfl : k = s.size := by omega
      have HR := Lib.hid (spanN_at (p := wordI) (l := s.data.toList) HIN.out (fun c hc => by rw [List.getElem?_eq_none (by simp)] at hc; cases hc))
      go_wp2
      go_ret
      exact ⟨by rw [HR.out]; rfl, rfl⟩
end Go.Proofs.YtjenpmeknlgadaaDoor
