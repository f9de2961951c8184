/- Number of package lex. No condition but that the length fits. -/
import Derived.Test.YtjenpmeknlgadaaDoorWord
namespace Go.Proofs.YtjenpmeknlgadaaDoor
open Go.RowKit
set_option linter.unusedSimpArgs false
set_option linter.unusedVariables false

theorem span_all {p : Int → Bool} : ∀ {l : List UInt8}, spanN p l = l.length ↔ ∀ c ∈ l, p (c.toNat : Int) = true
  | [] => by simp [spanN]
  | a :: l => by
    by_cases h : p (a.toNat : Int) = true
    · have ih := span_all (p := p) (l := l)
      unfold spanN at ih ⊢
      rw [List.takeWhile_cons, if_pos h, List.length_cons, List.length_cons]
      constructor
      · intro h2 c hc
        rw [List.mem_cons] at hc
        rcases hc with rfl | hc
        · exact h
        · exact (ih.1 (by omega)) c hc
      · intro h2
        have := ih.2 (fun c hc => h2 c (by simp [hc]))
        omega
    · constructor
      · intro h2
        unfold spanN at h2
        rw [List.takeWhile_cons, if_neg h] at h2
        simp at h2
      · intro h2
        exact absurd (h2 a (by simp)) h

def numVal (l : List UInt8) : Int := l.foldl (fun n c => 10 * n + ((c.toNat : Int) - 48)) 0
theorem numVal_snoc (l : List UInt8) (c : UInt8) : numVal (l ++ [c]) = 10 * numVal l + ((c.toNat : Int) - 48) := by
  unfold numVal
  rw [List.foldl_append]
  rfl
theorem numVal_take (l : List UInt8) (k : Nat) (c : UInt8) (h : l[k]? = some c) : numVal (l.take (k + 1)) = 10 * numVal (l.take k) + ((c.toNat : Int) - 48) := by
  rw [List.take_add_one, h, ← numVal_snoc]
  rfl
theorem digit_bd {c : UInt8} (h : digitI (c.toNat : Int) = true) : 48 ≤ (c.toNat : Int) ∧ (c.toNat : Int) ≤ 57 := by
  simp only [digitI, Bool.and_eq_true, decide_eq_true_eq] at h
  exact h
theorem numVal_bd (l : List UInt8) (h : ∀ c ∈ l, digitI (c.toNat : Int) = true) : ∀ k, k ≤ l.length → 0 ≤ numVal (l.take k) ∧ numVal (l.take k) + 1 ≤ 10 ^ k := by
  intro k
  induction k with
  | zero => intro _; simp [numVal]
  | succ k ih =>
    intro hk
    obtain ⟨i1, i2⟩ := ih (by omega)
    have hc : l[k]? = some l[k] := List.getElem?_eq_getElem (by omega)
    obtain ⟨b1, b2⟩ := digit_bd (h l[k] (List.getElem_mem _))
    rw [numVal_take l k _ hc, Int.pow_succ]
    omega
theorem pow_le13 (k : Nat) (h : k ≤ 13) : (10 : Int) ^ k ≤ 10000000000000 := by
  have : k = 0 ∨ k = 1 ∨ k = 2 ∨ k = 3 ∨ k = 4 ∨ k = 5 ∨ k = 6 ∨ k = 7 ∨ k = 8 ∨ k = 9 ∨ k = 10 ∨ k = 11 ∨ k = 12 ∨ k = 13 := by omega
  rcases this with rfl | rfl | rfl | rfl | rfl | rfl | rfl | rfl | rfl | rfl | rfl | rfl | rfl | rfl <;> decide

def numOk (l : List UInt8) : Bool := !l.isEmpty && (decide (spanN digitI l = l.length) && (!(headI l == 48 && l != [48]) && (decide (l.length ≤ 13) && decide (numVal l ≤ 1099511627776))))
def numD (l : List UInt8) : Int × Bool := if numOk l = true then (numVal l, true) else (0, false)
theorem numD_no {l : List UInt8} (h : numOk l = false) : numD l = (0, false) := by unfold numD; rw [if_neg (by simp [h])]
theorem numD_yes {l : List UInt8} (h : numOk l = true) : numD l = (numVal l, true) := by unfold numD; rw [if_pos h]

set_option maxRecDepth 100000
set_option maxHeartbeats 1000000
theorem number13_no (s : ByteArray) (w : World) (hs : s.size ≤ 9223372036854775807) (h : s.size = 0 ∨ spanN digitI s.data.toList ≠ s.size ∨ (headI s.data.toList = 48 ∧ s.data.toList ≠ [48]) ∨ 13 < s.size) :
    Calls Tryd.prog 13 #[.string s] w fun e w' => e = .returned (.tuple #[.int .i64 (numD s.data.toList).1, .bool (numD s.data.toList).2]) ∧ w = w' := by
  have hlen := data_len s
  by_cases h0 : 0 < s.size
  · have e0 := toList_ne h0
    have hh := head_of h0
    have hne := list_ne h0
    by_cases h1 : spanN digitI s.data.toList = s.size
    · have c1 : ((spanN digitI s.data.toList : Int) == (s.size : Int)) = true := by simp; omega
      have c2 : ((spanN digitI s.data.toList : Int) != (s.size : Int)) = false := by simp; omega
      have c3 : (spanN digitI s.data.toList == s.size) = true := by simpa using h1
      have c4 : (spanN digitI s.data.toList != s.size) = false := by simpa using h1
      by_cases h2 : headI s.data.toList = 48 ∧ s.data.toList ≠ [48]
      · have d1 : ((s[0].toNat : Int) == 48) = true := by rw [← hh]; simpa using h2.1
        have d2 : (s.toList == [48]) = false := by rw [Lib.toList_data]; simpa using h2.2
        have d3 : (s.toList != [48]) = true := by rw [Lib.toList_data]; simpa using h2.2
        have HR := Lib.hid (show numD s.data.toList = (0, false) from numD_no (by simp [numOk, h2.1, h2.2]))
        clear h h1 h2 hh hne hlen
        go_enter Tryd.func13, Tryd.ntmps13
        go_wp2_with (first | (go_at_call 22; refine (span22_digit _ _ hs).mono ?_; rintro e w' ⟨rfl, rfl⟩))
        go_ret2
        exact ⟨by rw [HR.out]; rfl, rfl⟩
      · have h3 : 13 < s.size := by
          rcases h with h | h | h | h
          · omega
          · exact absurd h1 h
          · exact absurd h h2
          · exact h
        have b3 : decide ((13 : Int) < (s.size : Int)) = true := by simp; omega
        have HR := Lib.hid (show numD s.data.toList = (0, false) from numD_no (by
          have : ¬ s.data.toList.length ≤ 13 := by omega
          simp [numOk, this]
          intros
          omega))
        by_cases d : headI s.data.toList = 48
        · have d1 : ((s[0].toNat : Int) == 48) = true := by rw [← hh]; simpa using d
          have h4 : s.data.toList = [48] := Classical.byContradiction fun hc => h2 ⟨d, hc⟩
          rw [h4] at hlen
          simp at hlen
          omega
        · have d1 : ((s[0].toNat : Int) == 48) = false := by rw [← hh]; simpa using d
          clear h h1 h2 hh hne hlen d
          go_enter Tryd.func13, Tryd.ntmps13
          go_wp2_with (first | (go_at_call 22; refine (span22_digit _ _ hs).mono ?_; rintro e w' ⟨rfl, rfl⟩))
          go_ret2
          exact ⟨by rw [HR.out]; rfl, rfl⟩
    · have c1 : ((spanN digitI s.data.toList : Int) == (s.size : Int)) = false := by simp; omega
      have c2 : ((spanN digitI s.data.toList : Int) != (s.size : Int)) = true := by simp; omega
      have c3 : (spanN digitI s.data.toList == s.size) = false := by simpa using h1
      have c4 : (spanN digitI s.data.toList != s.size) = true := by simpa using h1
      have HR := Lib.hid (show numD s.data.toList = (0, false) from numD_no (by
        have : ¬ spanN digitI s.data.toList = s.data.toList.length := by omega
        simp [numOk, hlen, h1]))
      clear h h1 hh hne hlen
      go_enter Tryd.func13, Tryd.ntmps13
      go_wp2_with (first | (go_at_call 22; refine (span22_digit _ _ hs).mono ?_; rintro e w' ⟨rfl, rfl⟩))
      go_ret2
      exact ⟨by rw [HR.out]; rfl, rfl⟩
  · obtain rfl := ba_nil (s := s) (by omega)
    have HR := Lib.hid (show numD ([] : List UInt8) = (0, false) from rfl)
    go_enter Tryd.func13, Tryd.ntmps13
    go_wp2_with (first | (go_at_call 22; refine (span22_digit _ _ hs).mono ?_; rintro e w' ⟨rfl, rfl⟩))
    go_ret2
    exact ⟨by rw [HR.out]; rfl, rfl⟩

set_option maxHeartbeats 2000000 in
theorem number13_yes (s : ByteArray) (w : World) (h0 : 0 < s.size) (h1 : spanN digitI s.data.toList = s.size) (h2 : ¬ (headI s.data.toList = 48 ∧ s.data.toList ≠ [48])) (h3 : s.size ≤ 13) :
    Calls Tryd.prog 13 #[.string s] w fun e w' => e = .returned (.tuple #[.int .i64 (numD s.data.toList).1, .bool (numD s.data.toList).2]) ∧ w = w' := by
  have hs : s.size ≤ 9223372036854775807 := by omega
  have hlen := data_len s
  have e0 := toList_ne h0
  have hh := head_of h0
  have hne := list_ne h0
  have hall := (span_all (p := digitI) (l := s.data.toList)).1 (by omega)
  have c1 : ((spanN digitI s.data.toList : Int) == (s.size : Int)) = true := by simp; omega
  have c2 : ((spanN digitI s.data.toList : Int) != (s.size : Int)) = false := by simp; omega
  have c3 : (spanN digitI s.data.toList == s.size) = true := by simpa using h1
  have c4 : (spanN digitI s.data.toList != s.size) = false := by simpa using h1
  have b3 : decide ((13 : Int) < (s.size : Int)) = false := by simp; omega
  have bd := numVal_bd s.data.toList hall
  have bdn := bd s.size (by omega)
  have pw := pow_le13 s.size h3
  have htk : s.data.toList.take s.size = s.data.toList := List.take_of_length_le (by omega)
  have hOk : numOk s.data.toList = decide (numVal s.data.toList ≤ 1099511627776) := by
    have q : (headI s.data.toList == 48 && s.data.toList != [48]) = false := by
      refine Bool.eq_false_iff.2 fun hq => h2 ?_
      simpa using hq
    unfold numOk
    rw [q, hne, hlen]
    simp [h1, h3]
  have HOk := Lib.hid hOk
  have BD := Lib.hid bd
  have HA := Lib.hid hall
  have HTK := Lib.hid htk
  have HBN := Lib.hid bdn
  have HPW := Lib.hid pw
  have HD : Hid (((s[0].toNat : Int) == 48) = true ∧ (s.toList == [48]) = true ∨ ((s[0].toNat : Int) == 48) = false) := Lib.hid (by
    by_cases d : headI s.data.toList = 48
    · left
      refine ⟨by rw [← hh]; simpa using d, ?_⟩
      rw [Lib.toList_data]
      have h4 : s.data.toList = [48] := Classical.byContradiction fun hc => h2 ⟨d, hc⟩
      rw [h4]
      rfl
    · right
      rw [← hh]; simpa using d)
  clear hOk bd hall h1 h2 hh hne hlen htk bdn pw
  rcases HD.out with ⟨d1, d2⟩ | d1
  · have d3 : (s.toList != [48]) = false := by rw [bne, d2]; rfl
    go_enter Tryd.func13, Tryd.ntmps13
    go_wp2_with (first | (go_at_call 22; refine (span22_digit _ _ hs).mono ?_; rintro e w' ⟨rfl, rfl⟩))
    go_loop [4, 5, 31] (fun n _ i => ∃ k : Nat, k ≤ s.size ∧ i = .int .i64 k ∧ n = .int .i64 (numVal (s.data.toList.take k))) (fun _ _ i => s.size - (intOf i).toNat)
    case atStart => exact ⟨0, by omega, rfl, rfl⟩
    case round =>
      obtain ⟨k, hk, rfl, rfl⟩ := hrel
      by_cases hlt : k < s.size
      · have hc : s.data.toList[k]? = some s[k] := by rw [List.getElem?_eq_getElem (by simpa using hlt)]; rfl
        obtain ⟨q1, q2⟩ := digit_bd (HA.out s[k] (List.mem_of_getElem? hc))
        have HV := Lib.hid (numVal_take s.data.toList k _ hc)
        obtain ⟨r1, r2⟩ := BD.out k (by rw [data_len]; omega)
        have r3 := pow_le13 k (by omega)
        have r4 : numVal (s.data.toList.take k) ≤ 10000000000000 := by omega
        clear hc r2 r3
        go_wp2
        go_round
        case rel => exact ⟨k + 1, by omega, by go_num, by rw [HV.out]⟩
        case measure => simp [intOf]; omega
      · obtain rfl : k = s.size := by omega
        rw [HTK.out]
        by_cases hv : numVal s.data.toList ≤ 1099511627776
        · have HR := Lib.hid (show numD s.data.toList = (numVal s.data.toList, true) from numD_yes (by rw [HOk.out]; simpa using hv))
          have bv : decide (1099511627776 < numVal s.data.toList) = false := by simp; omega
          go_wp2
          go_ret2
          exact ⟨by rw [HR.out]; rfl, rfl⟩
        · have HR := Lib.hid (show numD s.data.toList = (0, false) from numD_no (by rw [HOk.out]; simpa using hv))
          have bv : decide (1099511627776 < numVal s.data.toList) = true := by simp; omega
          go_wp2
          go_ret2
          exact ⟨by rw [HR.out]; rfl, rfl⟩
  · go_enter Tryd.func13, Tryd.ntmps13
    go_wp2_with (first | (go_at_call 22; refine (span22_digit _ _ hs).mono ?_; rintro e w' ⟨rfl, rfl⟩))
    go_loop [4, 5, 31] (fun n _ i => ∃ k : Nat, k ≤ s.size ∧ i = .int .i64 k ∧ n = .int .i64 (numVal (s.data.toList.take k))) (fun _ _ i => s.size - (intOf i).toNat)
    case atStart => exact ⟨0, by omega, rfl, rfl⟩
    case round =>
      obtain ⟨k, hk, rfl, rfl⟩ := hrel
      by_cases hlt : k < s.size
      · have hc : s.data.toList[k]? = some s[k] := by rw [List.getElem?_eq_getElem (by simpa using hlt)]; rfl
        obtain ⟨q1, q2⟩ := digit_bd (HA.out s[k] (List.mem_of_getElem? hc))
        have HV := Lib.hid (numVal_take s.data.toList k _ hc)
        obtain ⟨r1, r2⟩ := BD.out k (by rw [data_len]; omega)
        have r3 := pow_le13 k (by omega)
        have r4 : numVal (s.data.toList.take k) ≤ 10000000000000 := by omega
        clear hc r2 r3
        go_wp2
        go_round
        case rel => exact ⟨k + 1, by omega, by go_num, by rw [HV.out]⟩
        case measure => simp [intOf]; omega
      · obtain rfl : k = s.size := by omega
        rw [HTK.out]
        by_cases hv : numVal s.data.toList ≤ 1099511627776
        · have HR := Lib.hid (show numD s.data.toList = (numVal s.data.toList, true) from numD_yes (by rw [HOk.out]; simpa using hv))
          have bv : decide (1099511627776 < numVal s.data.toList) = false := by simp; omega
          go_wp2
          go_ret2
          exact ⟨by rw [HR.out]; rfl, rfl⟩
        · have HR := Lib.hid (show numD s.data.toList = (0, false) from numD_no (by rw [HOk.out]; simpa using hv))
          have bv : decide (1099511627776 < numVal s.data.toList) = true := by simp; omega
          go_wp2
          go_ret2
          exact ⟨by rw [HR.out]; rfl, rfl⟩

theorem number13 (s : ByteArray) (w : World) (hs : s.size ≤ 9223372036854775807) :
    Calls Tryd.prog 13 #[.string s] w fun e w' => e = .returned (.tuple #[.int .i64 (numD s.data.toList).1, .bool (numD s.data.toList).2]) ∧ w = w' := by
  by_cases h : s.size = 0 ∨ spanN digitI s.data.toList ≠ s.size ∨ (headI s.data.toList = 48 ∧ s.data.toList ≠ [48]) ∨ 13 < s.size
  · exact number13_no s w hs h
  · have h0 : 0 < s.size := Nat.pos_of_ne_zero fun hc => h (.inl hc)
    have h1 : spanN digitI s.data.toList = s.size := Classical.byContradiction fun hc => h (.inr (.inl hc))
    exact number13_yes s w h0 h1 (fun hc => h (.inr (.inr (.inl hc)))) (Nat.le_of_not_lt fun hc => h (.inr (.inr (.inr hc))))
end Go.Proofs.YtjenpmeknlgadaaDoor
