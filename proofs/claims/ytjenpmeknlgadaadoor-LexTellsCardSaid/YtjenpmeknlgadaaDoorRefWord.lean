/- Word, Number and sign of the reference. No condition but that the length fits. -/
import Derived.Test.YtjenpmeknlgadaaDoorWordsPlain
namespace Go.Proofs.YtjenpmeknlgadaaDoor
open Go.RowKit
set_option linter.unusedSimpArgs false
set_option linter.unusedVariables false

theorem word_yes {l : List UInt8} (h0 : l.isEmpty = false) (h1 : letterI (headI l) = true) (h2 : l.length ≤ 20) (h3 : ∀ c ∈ l, wordI (c.toNat : Int) = true) : wordB l = true := by
  simp [wordB, h0, h1, h2, span_all.2 h3]
theorem word_no {l : List UInt8} {c : UInt8} (h : c ∈ l) (hc : wordI (c.toNat : Int) = false) : wordB l = false := by
  have : ¬ spanN wordI l = l.length := fun h3 => by
    have := span_all.1 h3 c h
    rw [hc] at this
    cases this
  simp [wordB, this]
theorem ba_get {s : ByteArray} {k : Nat} (h : k < s.size) : s.data.toList[k]? = some s[k] := by rw [List.getElem?_eq_getElem (by simpa using h)]; rfl
set_option maxRecDepth 100000
set_option maxHeartbeats 1000000
theorem refWord17 (s : ByteArray) (w : World) (hs : s.size ≤ 9223372036854775807) : Calls Tryd.prog 17 #[.string s] w fun e w' => e = .returned (.bool (wordB s.data.toList)) ∧ w = w' := by
  by_cases h0 : 0 < s.size
  · have e0 := toList_ne h0
    have hh := head_of h0
    have hne := list_ne h0
    have hlen := data_len s
    have b1 : decide ((s.size : Int) < 1) = false := by simp; omega
    by_cases h2 : s.size ≤ 20
    · have b2 : decide ((20 : Int) < (s.size : Int)) = false := by simp; omega
      cases hl : letterI (s[0].toNat : Int) with
      | false =>
        have HL := Lib.hid hl
        have HR := Lib.hid (show wordB s.data.toList = false by simp [wordB, hh, hl])
        clear hl hh hne hlen
        go_enter Tryd.func17, Tryd.ntmps17
        go_wp2_with (first | (go_at_call 30; refine (letter30_eq _ _ _ HL.out).mono ?_; rintro e w' ⟨rfl, rfl⟩))
        go_ret
        exact ⟨by rw [HR.out]; rfl, rfl⟩
      | true =>
        have HL := Lib.hid hl
        have HH := Lib.hid hh
        have HNE := Lib.hid hne
        have HLN := Lib.hid hlen
        have h01 : wordI (s[0].toNat : Int) = true := by simp [wordI, hl]
        clear hl hh hne hlen
        go_enter Tryd.func17, Tryd.ntmps17
        go_wp2_with (first | (go_at_call 30; refine (letter30_eq _ _ _ HL.out).mono ?_; rintro e w' ⟨rfl, rfl⟩))
        go_loop [3] (fun i => ∃ k : Nat, 1 ≤ k ∧ k ≤ s.size ∧ i = .int .i64 k ∧ ∀ j c, j < k → s.data.toList[j]? = some c → wordI (c.toNat : Int) = true) (fun i => s.size - (intOf i).toNat)
        case atStart =>
          refine ⟨1, by omega, by omega, rfl, fun j c hj hc => ?_⟩
          obtain rfl : j = 0 := by omega
          rw [ba_get h0] at hc
          cases hc
          exact h01
        case round =>
          obtain ⟨k, hk1, hk, rfl, hin⟩ := hrel
          have HI := Lib.hid hin
          clear hin
          by_cases hlt : k < s.size
          · have hc := Lib.hid (ba_get hlt)
            cases hl : letterI (s[k].toNat : Int) with
            | true =>
              have HK := Lib.hid hl
              have HW := Lib.hid (show wordI (s[k].toNat : Int) = true by simp [wordI, hl])
              clear hl
              go_wp2_with (first | (go_at_call 30; refine (letter30_eq _ _ _ HK.out).mono ?_; rintro e w' ⟨rfl, rfl⟩))
              go_round
              case rel =>
                refine ⟨k + 1, by omega, by omega, by go_num, fun j c hj hc' => ?_⟩
                by_cases hjk : j = k
                · subst hjk
                  rw [hc.out] at hc'
                  cases hc'
                  exact HW.out
                · exact HI.out j c (by omega) hc'
              case measure => simp [intOf]; omega
            | false =>
              have HK := Lib.hid hl
              cases hd : digitI (s[k].toNat : Int) with
              | true =>
                have HD := Lib.hid hd
                have HW := Lib.hid (show wordI (s[k].toNat : Int) = true by simp [wordI, hd])
                clear hl hd
                go_wp2_with (first | (go_at_call 30; refine (letter30_eq _ _ _ HK.out).mono ?_; rintro e w' ⟨rfl, rfl⟩) | (go_at_call 27; refine (digit27_eq _ _ _ HD.out).mono ?_; rintro e w' ⟨rfl, rfl⟩))
                go_round
                case rel =>
                  refine ⟨k + 1, by omega, by omega, by go_num, fun j c hj hc' => ?_⟩
                  by_cases hjk : j = k
                  · subst hjk
                    rw [hc.out] at hc'
                    cases hc'
                    exact HW.out
                  · exact HI.out j c (by omega) hc'
                case measure => simp [intOf]; omega
              | false =>
                have HD := Lib.hid hd
                have HR := Lib.hid (word_no (l := s.data.toList) (List.mem_of_getElem? hc.out) (by simp [wordI, hl, hd]))
                clear hl hd
                go_wp2_with (first | (go_at_call 30; refine (letter30_eq _ _ _ HK.out).mono ?_; rintro e w' ⟨rfl, rfl⟩) | (go_at_call 27; refine (digit27_eq _ _ _ HD.out).mono ?_; rintro e w' ⟨rfl, rfl⟩))
                go_ret
                exact ⟨by rw [HR.out]; rfl, rfl⟩
          · obtain rfl : k = s.size := by omega
            have HR := Lib.hid (word_yes (l := s.data.toList) HNE.out (by rw [HH.out]; exact HL.out) (by rw [HLN.out]; exact h2) (fun c hc => by
              obtain ⟨j, hj⟩ := List.getElem?_of_mem hc
              exact HI.out j c (by have := (List.getElem?_eq_some_iff.1 hj).1; rw [HLN.out] at this; exact this) hj))
            go_wp2
            go_ret
            exact ⟨by rw [HR.out]; rfl, rfl⟩
    · have b2 : decide ((20 : Int) < (s.size : Int)) = true := by simp; omega
      have HR := Lib.hid (show wordB s.data.toList = false by simp [wordB, hlen, h2])
      have HL := Lib.hid (show letterI 0 = letterI 0 from rfl)
      clear hh hne hlen
      go_enter Tryd.func17, Tryd.ntmps17
      go_wp2_with (first | (go_at_call 30; refine (letter30_eq _ _ _ HL.out).mono ?_; rintro e w' ⟨rfl, rfl⟩))
      go_ret
      exact ⟨by rw [HR.out]; rfl, rfl⟩
  · obtain rfl := ba_nil (s := s) (by omega)
    have HL := Lib.hid (show letterI 0 = letterI 0 from rfl)
    have HR := Lib.hid (show wordB ([] : List UInt8) = false from rfl)
    go_enter Tryd.func17, Tryd.ntmps17
    go_wp2_with (first | (go_at_call 30; refine (letter30_eq _ _ _ HL.out).mono ?_; rintro e w' ⟨rfl, rfl⟩))
    go_ret
    exact ⟨by rw [HR.out]; rfl, rfl⟩

theorem num_ok {l : List UInt8} (h0 : l.isEmpty = false) (h1 : ∀ c ∈ l, digitI (c.toNat : Int) = true) (h2 : ¬ (1 < l.length ∧ headI l = 48)) : numOk l = decide (numVal l ≤ 1099511627776) := by
  have hsp := span_all.2 h1
  have h48 : (headI l == 48 && l != [48]) = false := by
    refine Bool.eq_false_iff.2 fun hq => ?_
    simp only [Bool.and_eq_true, bne_iff_ne, beq_iff_eq] at hq
    match l, h0, hq with
    | [c], _, hq =>
      have hc : c = 48 := UInt8.toNat_inj.1 (by have := hq.1; simp only [headI] at this; show c.toNat = 48; omega)
      exact hq.2 (by rw [hc])
    | c :: d :: r, _, hq => exact h2 ⟨by simp, hq.1⟩
  unfold numOk
  rw [h0, h48, hsp]
  simp only [Bool.not_false, decide_true, Bool.true_and]
  by_cases h13 : l.length ≤ 13
  · simp [h13]
  · have : ¬ numVal l ≤ 1099511627776 := by
      cases l with
      | nil => simp at h0
      | cons c r =>
        have hc := digit_bd (h1 c (by simp))
        have h3 : (c.toNat : Int) ≠ 48 := fun hq => h2 ⟨by simp at h13 ⊢; omega, hq⟩
        have key : ∀ (r : List UInt8) (a : Int), 1 ≤ a → (∀ c ∈ r, digitI (c.toNat : Int) = true) → a * 10 ^ r.length ≤ r.foldl (fun n c => 10 * n + ((c.toNat : Int) - 48)) a := by
          intro r
          induction r with
          | nil => intro a ha _; simp
          | cons d r ih =>
            intro a ha hd
            obtain ⟨b1, b2⟩ := digit_bd (hd d (by simp))
            have := ih (10 * a + ((d.toNat : Int) - 48)) (by omega) (fun c hc => hd c (by simp [hc]))
            rw [List.foldl_cons, List.length_cons, Int.pow_succ]
            refine Int.le_trans ?_ this
            have hp : (0 : Int) ≤ 10 ^ r.length := Int.pow_nonneg (by decide)
            calc a * (10 ^ r.length * 10) = (10 * a) * 10 ^ r.length := by rw [Int.mul_comm (10 ^ r.length) 10, ← Int.mul_assoc, Int.mul_comm a 10]
              _ ≤ (10 * a + ((d.toNat : Int) - 48)) * 10 ^ r.length := Int.mul_le_mul_of_nonneg_right (by omega) hp
        have h4 := key r (10 * 0 + ((c.toNat : Int) - 48)) (by omega) (fun c hc => h1 c (by simp [hc]))
        have h5 : (10 : Int) ^ 13 ≤ 10 ^ r.length := by
          have hr : 13 ≤ r.length := by simp at h13; omega
          obtain ⟨q, hq⟩ := Nat.exists_eq_add_of_le hr
          rw [hq, Int.pow_add]
          have hp : (1 : Int) ≤ 10 ^ q := by have : (0 : Int) < 10 ^ q := Int.pow_pos (by decide); omega
          calc (10 : Int) ^ 13 = 10 ^ 13 * 1 := by rw [Int.mul_one]
            _ ≤ 10 ^ 13 * 10 ^ q := Int.mul_le_mul_of_nonneg_left hp (by decide)
        have h6 : (10 : Int) ^ r.length ≤ (10 * 0 + ((c.toNat : Int) - 48)) * 10 ^ r.length := by
          conv => lhs; rw [← Int.one_mul (10 ^ r.length)]
          exact Int.mul_le_mul_of_nonneg_right (by omega) (Int.pow_nonneg (by decide))
        show ¬ (r.foldl _ (10 * 0 + ((c.toNat : Int) - 48))) ≤ 1099511627776
        have h7 : (10 : Int) ^ 13 = 10000000000000 := by decide
        omega
    simp [h13, this]
theorem num_bad {l : List UInt8} {c : UInt8} (h : c ∈ l) (hc : digitI (c.toNat : Int) = false) : numOk l = false := by
  have : ¬ spanN digitI l = l.length := fun h3 => by
    have := span_all.1 h3 c h
    rw [hc] at this
    cases this
  simp [numOk, this]
theorem num_zero {l : List UInt8} (h : 1 < l.length ∧ headI l = 48) : numOk l = false := by
  have h1 : (headI l == 48 && l != [48]) = true := by
    simp only [Bool.and_eq_true, bne_iff_ne, beq_iff_eq]
    exact ⟨h.2, fun hc => by rw [hc] at h; simp at h⟩
  simp [numOk, h1]
/-- Once a beginning is too great, so is the whole. -/
theorem num_great {l : List UInt8} {k : Nat} (hk : k ≤ l.length) (hd : ∀ c ∈ l.take k, digitI (c.toNat : Int) = true) (hv : 1099511627776 < numVal (l.take k)) : numOk l = false := by
  by_cases hall : ∀ c ∈ l, digitI (c.toNat : Int) = true
  · have hm : numVal (l.take k) ≤ numVal l := by
      have key : ∀ (r : List UInt8) (a : Int), 0 ≤ a → (∀ c ∈ r, digitI (c.toNat : Int) = true) → a ≤ r.foldl (fun n c => 10 * n + ((c.toNat : Int) - 48)) a := by
        intro r
        induction r with
        | nil => intro a ha _; exact Int.le_refl _
        | cons d r ih =>
          intro a ha hd
          obtain ⟨b1, b2⟩ := digit_bd (hd d (by simp))
          have := ih (10 * a + ((d.toNat : Int) - 48)) (by omega) (fun c hc => hd c (by simp [hc]))
          rw [List.foldl_cons]
          omega
      have := key (l.drop k) (numVal (l.take k)) (by omega) (fun c hc => hall c (List.mem_of_mem_drop hc))
      unfold numVal at this ⊢
      rw [← List.foldl_append, List.take_append_drop] at this
      exact this
    simp only [numOk, Bool.and_eq_false_imp]
    intros
    simp
    omega
  · have : ∃ c ∈ l, digitI (c.toNat : Int) = false := by
      refine Classical.byContradiction fun hc => hall fun c hm => ?_
      cases hb : digitI (c.toNat : Int) with
      | true => rfl
      | false => exact absurd ⟨c, hm, hb⟩ hc
    obtain ⟨c, hm, hb⟩ := this
    exact num_bad hm hb
end Go.Proofs.YtjenpmeknlgadaaDoor
