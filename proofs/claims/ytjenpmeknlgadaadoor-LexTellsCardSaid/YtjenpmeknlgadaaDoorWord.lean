/- Word of package lex and of the reference. No condition but that the length fits. -/
import Derived.Test.YtjenpmeknlgadaaDoorBytes
import Derived.Lib.Strings
import Derived.Lib.IndexBytes
namespace Go.Proofs.YtjenpmeknlgadaaDoor
open Go.RowKit
set_option linter.unusedSimpArgs false
set_option linter.unusedVariables false

def headI : List UInt8 → Int | c :: _ => c.toNat | [] => 0
def wordB (l : List UInt8) : Bool := !l.isEmpty && (letterI (headI l) && (decide (l.length ≤ 20) && decide (spanN wordI l = l.length)))
theorem head_of {s : ByteArray} (h : 0 < s.size) : headI s.data.toList = (s[0].toNat : Int) := by
  have hc : s.data.toList[0]? = some s[0] := by rw [List.getElem?_eq_getElem (by simpa using h)]; rfl
  cases hl : s.data.toList with
  | nil => rw [hl] at hc; simp at hc
  | cons c l => rw [hl] at hc; simp at hc; simp [headI, hc]
theorem list_ne {s : ByteArray} (h : 0 < s.size) : s.data.toList.isEmpty = false := by
  cases hl : s.data.toList with
  | nil =>
    have h2 : s.data.toList.length = s.size := by simp
    rw [hl] at h2
    simp only [List.length_nil] at h2
    omega
  | cons c l => rfl
theorem data_len (s : ByteArray) : s.data.toList.length = s.size := by simp
theorem ba_nil {s : ByteArray} (h : s.size = 0) : s = ⟨#[]⟩ := by
  obtain ⟨d⟩ := s
  have : d.size = 0 := h
  rw [Array.eq_empty_of_size_eq_zero this]
theorem toList_ne {s : ByteArray} (h : 0 < s.size) : s.toList.isEmpty = false := by
  rw [Lib.toList_data]
  exact list_ne h

set_option maxRecDepth 100000
set_option maxHeartbeats 1000000
theorem word16 (s : ByteArray) (w : World) (hs : s.size ≤ 9223372036854775807) : Calls Tryd.prog 16 #[.string s] w fun e w' => e = .returned (.bool (wordB s.data.toList)) ∧ w = w' := by
  by_cases h0 : 0 < s.size
  · have e0 := toList_ne h0
    have hh := head_of h0
    have hne := list_ne h0
    have hlen := data_len s
    cases hl : letterI (s[0].toNat : Int) with
    | false =>
      have HL := Lib.hid hl
      have HR := Lib.hid (show wordB s.data.toList = false by simp [wordB, hh, hl])
      clear hl hh hne hlen
      go_enter Tryd.func16, Tryd.ntmps16
      go_wp2_with (first | (go_at_call 28; refine (letter28_eq _ _ _ HL.out).mono ?_; rintro e w' ⟨rfl, rfl⟩) | (go_at_call 22; refine (span22_word29 _ _ hs).mono ?_; rintro e w' ⟨rfl, rfl⟩))
      go_ret
      exact ⟨by rw [HR.out]; rfl, rfl⟩
    | true =>
      have HL := Lib.hid hl
      by_cases h2 : s.size ≤ 20
      · have b2 : decide ((20 : Int) < (s.size : Int)) = false := by simp; omega
        have HR := Lib.hid (show wordB s.data.toList = decide ((spanN wordI s.data.toList : Int) = (s.size : Int)) by
          simp only [wordB, hne, hh, hl, hlen, h2, decide_true, Bool.true_and, Bool.not_false]
          congr 1
          apply propext
          omega)
        clear hl hh hne hlen
        go_enter Tryd.func16, Tryd.ntmps16
        go_wp2_with (first | (go_at_call 28; refine (letter28_eq _ _ _ HL.out).mono ?_; rintro e w' ⟨rfl, rfl⟩) | (go_at_call 22; refine (span22_word29 _ _ hs).mono ?_; rintro e w' ⟨rfl, rfl⟩))
        go_ret
        exact ⟨by rw [HR.out]; rfl, rfl⟩
      · have b2 : decide ((20 : Int) < (s.size : Int)) = true := by simp; omega
        have HR := Lib.hid (show wordB s.data.toList = false by simp [wordB, hlen, h2])
        clear hl hh hne hlen
        go_enter Tryd.func16, Tryd.ntmps16
        go_wp2_with (first | (go_at_call 28; refine (letter28_eq _ _ _ HL.out).mono ?_; rintro e w' ⟨rfl, rfl⟩) | (go_at_call 22; refine (span22_word29 _ _ hs).mono ?_; rintro e w' ⟨rfl, rfl⟩))
        go_ret
        exact ⟨by rw [HR.out]; rfl, rfl⟩
  · obtain rfl := ba_nil (s := s) (by omega)
    have HL := Lib.hid (show letterI 0 = letterI 0 from rfl)
    have HR := Lib.hid (show wordB ([] : List UInt8) = false from rfl)
    go_enter Tryd.func16, Tryd.ntmps16
    go_wp2_with (first | (go_at_call 28; refine (letter28_eq _ _ _ HL.out).mono ?_; rintro e w' ⟨rfl, rfl⟩) | (go_at_call 22; refine (span22_word29 _ _ hs).mono ?_; rintro e w' ⟨rfl, rfl⟩))
    go_ret
    exact ⟨by rw [HR.out]; rfl, rfl⟩
end Go.Proofs.YtjenpmeknlgadaaDoor
