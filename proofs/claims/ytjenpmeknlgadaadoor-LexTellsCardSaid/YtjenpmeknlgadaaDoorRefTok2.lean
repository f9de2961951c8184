/- token of the reference. Conditions: the length fits, the offset is within. -/
import Derived.Test.YtjenpmeknlgadaaDoorRefTok
namespace Go.Proofs.YtjenpmeknlgadaaDoor
open Go.RowKit
set_option linter.unusedSimpArgs false
set_option linter.unusedVariables false

theorem number14_D (t : ByteArray) (v : Int) (o : Bool) (w : World) (hD : numD t.data.toList = (v, o)) (hs : t.size ≤ 9223372036854775807) :
    Calls Tryd.prog 14 #[.string t] w fun e w' => e = .returned (.tuple #[.int .i64 v, .bool o]) ∧ w = w' := by
  have := refNumber14 t w hs
  rw [hD] at this
  exact this
theorem sign34_D (s : ByteArray) (k n : Nat) (w : World) (hs : s.size ≤ 9223372036854775806) (hk : k < s.size) (hD : signN (s.data.toList.drop k) = n) : Calls Tryd.prog 34 #[.string s, .int .i64 k] w fun e w' => e = .returned (.int .i64 n) ∧ Exts w w' := by
  subst hD
  exact sign34 s k w hs hk
set_option maxRecDepth 100000
set_option maxHeartbeats 2000000
theorem token25_word (s : ByteArray) (k : Nat) (w : World) (hs : s.size ≤ 9223372036854775806) (hk : k < s.size) (hl : letterI (s[k].toNat : Int) = true) (b : Nat) (hb : spanN wordI (s.data.toList.drop k) = b) (tx : List UInt8) (htx : (s.data.toList.drop k).take b = tx) :
    Calls Tryd.prog 25 #[.string s, .int .i64 k] w fun e w' => e = .returned (if b ≤ 20 then .tuple #[.agg #[.int .i64 0, .string ⟨tx.toArray⟩, .int .i64 0, .int .i64 k], .int .i64 0] else .tuple #[.agg #[.int .i64 0, .string ⟨#[]⟩, .int .i64 0, .int .i64 0], .int .i64 15]) ∧ Exts w w' := by
  have HL0 := Lib.hid hl
  have HB := Lib.hid hb
  have hbd := span_bd wordI s k (by omega)
  rw [hb] at hbd
  have hb0 : 0 < b := by
    rw [← hb]
    exact span_pos (by rw [drop_at hk]; simp) (by rw [head_at hk]; simp [wordI, hl])
  have HE := Lib.hid (show s.extract k (k + b) = ⟨tx.toArray⟩ by rw [ext_list, htx])
  clear hl hb htx
  go_enter Tryd.func25, Tryd.ntmps25
  go_wp2_with (first | (go_at_call 30; ((with_reducible refine (letter30_eq _ _ _ HL0.out).mono ?_); rintro e w' ⟨rfl, rfl⟩)))
  go_loopw [6] (fun i wr => ∃ (m : Nat) (y : Ex), k < m ∧ m ≤ k + b ∧ i = .int .i64 m ∧ wr = wext (w.alloc (.cells #[.int .i64 0, .string ⟨#[]⟩, .int .i64 0, .int .i64 0] 25)) y) (fun i _ => k + b - (intOf i).toNat)
  case atStart => exact ⟨k + 1, _, by omega, by omega, by go_num, (wext_self _).symm⟩
  case round =>
    obtain ⟨m, x, hm1, hm2, rfl, rfl⟩ := hrel
    by_cases hlt : m < k + b
    · have hms : m < s.size := by omega
      have hw := span_in wordI s k b m HB.out (by omega) hlt hms
      cases hL : letterI (s[m].toNat : Int) with
      | true =>
        have HL := Lib.hid hL
        clear hw hL
        go_wp2_with (first | (go_at_call 30; ((with_reducible refine (letter30_eq _ _ _ HL0.out).mono ?_); rintro e w' ⟨rfl, rfl⟩)) | (go_at_call 30; ((with_reducible refine (letter30_eq _ _ _ HL.out).mono ?_); rintro e w' ⟨rfl, rfl⟩)) | (go_at_call 27; ((with_reducible refine (digit27_eq _ _ _ HD0.out).mono ?_); rintro e w' ⟨rfl, rfl⟩)) | (go_at_call 27; ((with_reducible refine (digit27_eq _ _ _ HD.out).mono ?_); rintro e w' ⟨rfl, rfl⟩)))
        refine ⟨⟨m + 1, _, by omega, by omega, by go_num, rfl⟩, ?_⟩
        simp [intOf]; omega
      | false =>
        have HL := Lib.hid hL
        have HD := Lib.hid (show digitI (s[m].toNat : Int) = true by simpa [wordI, hL] using hw)
        clear hw hL
        go_wp2_with (first | (go_at_call 30; ((with_reducible refine (letter30_eq _ _ _ HL0.out).mono ?_); rintro e w' ⟨rfl, rfl⟩)) | (go_at_call 30; ((with_reducible refine (letter30_eq _ _ _ HL.out).mono ?_); rintro e w' ⟨rfl, rfl⟩)) | (go_at_call 27; ((with_reducible refine (digit27_eq _ _ _ HD0.out).mono ?_); rintro e w' ⟨rfl, rfl⟩)) | (go_at_call 27; ((with_reducible refine (digit27_eq _ _ _ HD.out).mono ?_); rintro e w' ⟨rfl, rfl⟩)))
        refine ⟨⟨m + 1, _, by omega, by omega, by go_num, rfl⟩, ?_⟩
        simp [intOf]; omega
    · obtain rfl : m = k + b := by omega
      have q0 : ((k + b : Nat) : Int) - (k : Int) = (b : Int) := by omega
      have q0' : (k : Int) + (b : Int) - (k : Int) = (b : Int) := by omega
      by_cases h20 : b ≤ 20
      · have q1 : decide ((20 : Int) < (b : Int)) = false := by simp; omega
        by_cases hse : k + b < s.size
        · have hw := span_out wordI s k b HB.out hse
          simp only [wordI, Bool.or_eq_false_iff] at hw
          have HL := Lib.hid hw.1
          have HD := Lib.hid hw.2
          have q2 : decide ((k : Int) + (b : Int) < (s.size : Int)) = true := by simp; omega
          clear hw
          go_wp2_with (first | (go_at_call 30; ((with_reducible refine (letter30_eq _ _ _ HL0.out).mono ?_); rintro e w' ⟨rfl, rfl⟩)) | (go_at_call 30; ((with_reducible refine (letter30_eq _ _ _ HL.out).mono ?_); rintro e w' ⟨rfl, rfl⟩)) | (go_at_call 27; ((with_reducible refine (digit27_eq _ _ _ HD0.out).mono ?_); rintro e w' ⟨rfl, rfl⟩)) | (go_at_call 27; ((with_reducible refine (digit27_eq _ _ _ HD.out).mono ?_); rintro e w' ⟨rfl, rfl⟩)))
          refine bodyPost_ret (v := .tuple #[.agg #[.int .i64 0, .string (s.extract k (k + b)), .int .i64 0, .int .i64 k], .int .i64 0]) (by simp [results, go_sem]) rfl ⟨by rw [HE.out], (by repeat (first | exact Exts.refl _ | apply Exts.andR | apply Exts.alloc | apply Exts.wext | apply Exts.drew | apply Exts.drewN))⟩
        · have q2 : decide ((k : Int) + (b : Int) < (s.size : Int)) = false := by simp; omega
          go_wp2_with (first | (go_at_call 30; ((with_reducible refine (letter30_eq _ _ _ HL0.out).mono ?_); rintro e w' ⟨rfl, rfl⟩)) | (go_at_call 30; ((with_reducible refine (letter30_eq _ _ _ HL.out).mono ?_); rintro e w' ⟨rfl, rfl⟩)) | (go_at_call 27; ((with_reducible refine (digit27_eq _ _ _ HD0.out).mono ?_); rintro e w' ⟨rfl, rfl⟩)) | (go_at_call 27; ((with_reducible refine (digit27_eq _ _ _ HD.out).mono ?_); rintro e w' ⟨rfl, rfl⟩)))
          refine bodyPost_ret (v := .tuple #[.agg #[.int .i64 0, .string (s.extract k (k + b)), .int .i64 0, .int .i64 k], .int .i64 0]) (by simp [results, go_sem]) rfl ⟨by rw [HE.out], (by repeat (first | exact Exts.refl _ | apply Exts.andR | apply Exts.alloc | apply Exts.wext | apply Exts.drew | apply Exts.drewN))⟩
      · have q1 : decide ((20 : Int) < (b : Int)) = true := by simp; omega
        by_cases hse : k + b < s.size
        · have hw := span_out wordI s k b HB.out hse
          simp only [wordI, Bool.or_eq_false_iff] at hw
          have HL := Lib.hid hw.1
          have HD := Lib.hid hw.2
          have q2 : decide ((k : Int) + (b : Int) < (s.size : Int)) = true := by simp; omega
          clear hw
          go_wp2_with (first | (go_at_call 30; ((with_reducible refine (letter30_eq _ _ _ HL0.out).mono ?_); rintro e w' ⟨rfl, rfl⟩)) | (go_at_call 30; ((with_reducible refine (letter30_eq _ _ _ HL.out).mono ?_); rintro e w' ⟨rfl, rfl⟩)) | (go_at_call 27; ((with_reducible refine (digit27_eq _ _ _ HD0.out).mono ?_); rintro e w' ⟨rfl, rfl⟩)) | (go_at_call 27; ((with_reducible refine (digit27_eq _ _ _ HD.out).mono ?_); rintro e w' ⟨rfl, rfl⟩)))
          refine bodyPost_ret (v := .tuple #[.agg #[.int .i64 0, .string ⟨#[]⟩, .int .i64 0, .int .i64 0], .int .i64 15]) (by simp [results, go_sem]) rfl ⟨by first | rfl | (simp; done), (by repeat (first | exact Exts.refl _ | apply Exts.andR | apply Exts.alloc | apply Exts.wext | apply Exts.drew | apply Exts.drewN))⟩
        · have q2 : decide ((k : Int) + (b : Int) < (s.size : Int)) = false := by simp; omega
          go_wp2_with (first | (go_at_call 30; ((with_reducible refine (letter30_eq _ _ _ HL0.out).mono ?_); rintro e w' ⟨rfl, rfl⟩)) | (go_at_call 30; ((with_reducible refine (letter30_eq _ _ _ HL.out).mono ?_); rintro e w' ⟨rfl, rfl⟩)) | (go_at_call 27; ((with_reducible refine (digit27_eq _ _ _ HD0.out).mono ?_); rintro e w' ⟨rfl, rfl⟩)) | (go_at_call 27; ((with_reducible refine (digit27_eq _ _ _ HD.out).mono ?_); rintro e w' ⟨rfl, rfl⟩)))
          refine bodyPost_ret (v := .tuple #[.agg #[.int .i64 0, .string ⟨#[]⟩, .int .i64 0, .int .i64 0], .int .i64 15]) (by simp [results, go_sem]) rfl ⟨by first | rfl | (simp; done), (by repeat (first | exact Exts.refl _ | apply Exts.andR | apply Exts.alloc | apply Exts.wext | apply Exts.drew | apply Exts.drewN))⟩
theorem token25_num (s : ByteArray) (k : Nat) (w : World) (hs : s.size ≤ 9223372036854775806) (hk : k < s.size) (hl : letterI (s[k].toNat : Int) = false) (hd : digitI (s[k].toNat : Int) = true) (b : Nat) (hb : spanN digitI (s.data.toList.drop k) = b) (tx : List UInt8) (htx : (s.data.toList.drop k).take b = tx) (v : Int) (o : Bool) (hv : numD tx = (v, o)) :
    Calls Tryd.prog 25 #[.string s, .int .i64 k] w fun e w' => e = .returned (if o = true then .tuple #[.agg #[.int .i64 1, .string ⟨tx.toArray⟩, .int .i64 v, .int .i64 k], .int .i64 0] else .tuple #[.agg #[.int .i64 0, .string ⟨#[]⟩, .int .i64 0, .int .i64 0], .int .i64 3]) ∧ Exts w w' := by
  have HL0 := Lib.hid hl
  have HD0 := Lib.hid hd
  have HB := Lib.hid hb
  have hbd := span_bd digitI s k (by omega)
  rw [hb] at hbd
  have hb0 : 0 < b := by
    rw [← hb]
    exact span_pos (by rw [drop_at hk]; simp) (by rw [head_at hk]; exact hd)
  have hE : s.extract k (k + b) = ⟨tx.toArray⟩ := by rw [ext_list, htx]
  have HE := Lib.hid hE
  have HND := Lib.hid (show numD (s.extract k (k + b)).data.toList = (v, o) by rw [hE]; exact hv)
  have hsz : (s.extract k (k + b)).size = b := by simp; omega
  clear hl hd hb htx hE hv
  go_enter Tryd.func25, Tryd.ntmps25
  go_wp2_with (first | (go_at_call 30; ((with_reducible refine (letter30_eq _ _ _ HL0.out).mono ?_); rintro e w' ⟨rfl, rfl⟩)) | (go_at_call 27; ((with_reducible refine (digit27_eq _ _ _ HD0.out).mono ?_); rintro e w' ⟨rfl, rfl⟩)))
  go_loopw [6] (fun i wr => ∃ (m : Nat) (y : Ex), k < m ∧ m ≤ k + b ∧ i = .int .i64 m ∧ wr = wext (w.alloc (.cells #[.int .i64 0, .string ⟨#[]⟩, .int .i64 0, .int .i64 0] 25)) y) (fun i _ => k + b - (intOf i).toNat)
  case atStart => exact ⟨k + 1, _, by omega, by omega, by go_num, (wext_self _).symm⟩
  case round =>
    obtain ⟨m, x, hm1, hm2, rfl, rfl⟩ := hrel
    by_cases hlt : m < k + b
    · have hms : m < s.size := by omega
      have HD := Lib.hid (span_in digitI s k b m HB.out (by omega) hlt hms)
      go_wp2_with (first | (go_at_call 30; ((with_reducible refine (letter30_eq _ _ _ HL0.out).mono ?_); rintro e w' ⟨rfl, rfl⟩)) | (go_at_call 30; ((with_reducible refine (letter30_eq _ _ _ HL.out).mono ?_); rintro e w' ⟨rfl, rfl⟩)) | (go_at_call 27; ((with_reducible refine (digit27_eq _ _ _ HD0.out).mono ?_); rintro e w' ⟨rfl, rfl⟩)) | (go_at_call 27; ((with_reducible refine (digit27_eq _ _ _ HD.out).mono ?_); rintro e w' ⟨rfl, rfl⟩)))
      refine ⟨⟨m + 1, _, by omega, by omega, by go_num, rfl⟩, ?_⟩
      simp [intOf]; omega
    · obtain rfl : m = k + b := by omega
      by_cases hse : k + b < s.size
      · have HD := Lib.hid (span_out digitI s k b HB.out hse)
        have q2 : decide ((k : Int) + (b : Int) < (s.size : Int)) = true := by simp; omega
        cases o with
        | true =>
          go_wp2_with (first | (go_at_call 30; ((with_reducible refine (letter30_eq _ _ _ HL0.out).mono ?_); rintro e w' ⟨rfl, rfl⟩)) | (go_at_call 30; ((with_reducible refine (letter30_eq _ _ _ HL.out).mono ?_); rintro e w' ⟨rfl, rfl⟩)) | (go_at_call 27; ((with_reducible refine (digit27_eq _ _ _ HD0.out).mono ?_); rintro e w' ⟨rfl, rfl⟩)) | (go_at_call 27; ((with_reducible refine (digit27_eq _ _ _ HD.out).mono ?_); rintro e w' ⟨rfl, rfl⟩)) | (go_at_call 14; ((with_reducible refine (number14_D _ _ _ _ HND.out (by rw [hsz]; omega)).mono ?_); rintro e w' ⟨rfl, rfl⟩)))
          refine bodyPost_ret (v := .tuple #[.agg #[.int .i64 1, .string (s.extract k (k + b)), .int .i64 v, .int .i64 k], .int .i64 0]) (by simp [results, go_sem]) rfl ⟨by rw [HE.out], (by repeat (first | exact Exts.refl _ | apply Exts.andR | apply Exts.alloc | apply Exts.wext | apply Exts.drew | apply Exts.drewN))⟩
        | false =>
          go_wp2_with (first | (go_at_call 30; ((with_reducible refine (letter30_eq _ _ _ HL0.out).mono ?_); rintro e w' ⟨rfl, rfl⟩)) | (go_at_call 30; ((with_reducible refine (letter30_eq _ _ _ HL.out).mono ?_); rintro e w' ⟨rfl, rfl⟩)) | (go_at_call 27; ((with_reducible refine (digit27_eq _ _ _ HD0.out).mono ?_); rintro e w' ⟨rfl, rfl⟩)) | (go_at_call 27; ((with_reducible refine (digit27_eq _ _ _ HD.out).mono ?_); rintro e w' ⟨rfl, rfl⟩)) | (go_at_call 14; ((with_reducible refine (number14_D _ _ _ _ HND.out (by rw [hsz]; omega)).mono ?_); rintro e w' ⟨rfl, rfl⟩)))
          refine bodyPost_ret (v := .tuple #[.agg #[.int .i64 0, .string ⟨#[]⟩, .int .i64 0, .int .i64 0], .int .i64 3]) (by simp [results, go_sem]) rfl ⟨by first | rfl | (simp; done), (by repeat (first | exact Exts.refl _ | apply Exts.andR | apply Exts.alloc | apply Exts.wext | apply Exts.drew | apply Exts.drewN))⟩
      · have q2 : decide ((k : Int) + (b : Int) < (s.size : Int)) = false := by simp; omega
        cases o with
        | true =>
          go_wp2_with (first | (go_at_call 30; ((with_reducible refine (letter30_eq _ _ _ HL0.out).mono ?_); rintro e w' ⟨rfl, rfl⟩)) | (go_at_call 30; ((with_reducible refine (letter30_eq _ _ _ HL.out).mono ?_); rintro e w' ⟨rfl, rfl⟩)) | (go_at_call 27; ((with_reducible refine (digit27_eq _ _ _ HD0.out).mono ?_); rintro e w' ⟨rfl, rfl⟩)) | (go_at_call 27; ((with_reducible refine (digit27_eq _ _ _ HD.out).mono ?_); rintro e w' ⟨rfl, rfl⟩)) | (go_at_call 14; ((with_reducible refine (number14_D _ _ _ _ HND.out (by rw [hsz]; omega)).mono ?_); rintro e w' ⟨rfl, rfl⟩)))
          refine bodyPost_ret (v := .tuple #[.agg #[.int .i64 1, .string (s.extract k (k + b)), .int .i64 v, .int .i64 k], .int .i64 0]) (by simp [results, go_sem]) rfl ⟨by rw [HE.out], (by repeat (first | exact Exts.refl _ | apply Exts.andR | apply Exts.alloc | apply Exts.wext | apply Exts.drew | apply Exts.drewN))⟩
        | false =>
          go_wp2_with (first | (go_at_call 30; ((with_reducible refine (letter30_eq _ _ _ HL0.out).mono ?_); rintro e w' ⟨rfl, rfl⟩)) | (go_at_call 30; ((with_reducible refine (letter30_eq _ _ _ HL.out).mono ?_); rintro e w' ⟨rfl, rfl⟩)) | (go_at_call 27; ((with_reducible refine (digit27_eq _ _ _ HD0.out).mono ?_); rintro e w' ⟨rfl, rfl⟩)) | (go_at_call 27; ((with_reducible refine (digit27_eq _ _ _ HD.out).mono ?_); rintro e w' ⟨rfl, rfl⟩)) | (go_at_call 14; ((with_reducible refine (number14_D _ _ _ _ HND.out (by rw [hsz]; omega)).mono ?_); rintro e w' ⟨rfl, rfl⟩)))
          refine bodyPost_ret (v := .tuple #[.agg #[.int .i64 0, .string ⟨#[]⟩, .int .i64 0, .int .i64 0], .int .i64 3]) (by simp [results, go_sem]) rfl ⟨by first | rfl | (simp; done), (by repeat (first | exact Exts.refl _ | apply Exts.andR | apply Exts.alloc | apply Exts.wext | apply Exts.drew | apply Exts.drewN))⟩
theorem token25_sign (s : ByteArray) (k : Nat) (w : World) (hs : s.size ≤ 9223372036854775806) (hk : k < s.size) (hl : letterI (s[k].toNat : Int) = false) (hd : digitI (s[k].toNat : Int) = false) (b : Nat) (hb : signN (s.data.toList.drop k) = b) (hbd : k + b ≤ s.size) (tx : List UInt8) (htx : (s.data.toList.drop k).take b = tx) :
    Calls Tryd.prog 25 #[.string s, .int .i64 k] w fun e w' => e = .returned (if b = 0 then .tuple #[.agg #[.int .i64 0, .string ⟨#[]⟩, .int .i64 0, .int .i64 0], .int .i64 13] else .tuple #[.agg #[.int .i64 2, .string ⟨tx.toArray⟩, .int .i64 0, .int .i64 k], .int .i64 0]) ∧ Exts w w' := by
  have HL0 := Lib.hid hl
  have HD0 := Lib.hid hd
  have HB := Lib.hid hb
  have hE : s.extract k (k + b) = ⟨tx.toArray⟩ := by rw [ext_list, htx]
  have HE := Lib.hid hE
  clear hl hd hb htx hE
  by_cases hb0 : b = 0
  · subst hb0
    go_enter Tryd.func25, Tryd.ntmps25
    go_wp2_with (first | (go_at_call 30; ((with_reducible refine (letter30_eq _ _ _ HL0.out).mono ?_); rintro e w' ⟨rfl, rfl⟩)) | (go_at_call 27; ((with_reducible refine (digit27_eq _ _ _ HD0.out).mono ?_); rintro e w' ⟨rfl, rfl⟩)) | (go_at_call 34; ((with_reducible refine (sign34_D _ _ _ _ hs hk HB.out).mono ?_); rintro e w' ⟨rfl, x, rfl⟩)))
    refine bodyPost_ret (v := .tuple #[.agg #[.int .i64 0, .string ⟨#[]⟩, .int .i64 0, .int .i64 0], .int .i64 13]) (by simp [results, go_sem]) rfl ⟨by first | rfl | (simp; done), (by repeat (first | exact Exts.refl _ | apply Exts.andR | apply Exts.alloc | apply Exts.wext | apply Exts.drew | apply Exts.drewN))⟩
  · have q1 : ((b : Int) == 0) = false := by simp; omega
    have q2 : (b == 0) = false := by simpa using hb0
    go_enter Tryd.func25, Tryd.ntmps25
    go_wp2_with (first | (go_at_call 30; ((with_reducible refine (letter30_eq _ _ _ HL0.out).mono ?_); rintro e w' ⟨rfl, rfl⟩)) | (go_at_call 27; ((with_reducible refine (digit27_eq _ _ _ HD0.out).mono ?_); rintro e w' ⟨rfl, rfl⟩)) | (go_at_call 34; ((with_reducible refine (sign34_D _ _ _ _ hs hk HB.out).mono ?_); rintro e w' ⟨rfl, x, rfl⟩)))
    refine bodyPost_ret (v := .tuple #[.agg #[.int .i64 2, .string (s.extract k (k + b)), .int .i64 0, .int .i64 k], .int .i64 0]) (by simp [results, go_sem]) rfl ⟨by rw [HE.out], (by repeat (first | exact Exts.refl _ | apply Exts.andR | apply Exts.alloc | apply Exts.wext | apply Exts.drew | apply Exts.drewN))⟩
/-- THE CONTRACT: what is returned is the next token, at its place, if there is one. -/
theorem token25 (s : ByteArray) (k : Nat) (w : World) (hs : s.size ≤ 9223372036854775806) (hk : k < s.size) (tk : TK) (code : Int) (hT : nextP (s.data.toList.drop k) = (tk, code)) :
    Calls Tryd.prog 25 #[.string s, .int .i64 k] w fun e w' => e = .returned (.tuple #[.agg #[.int .i64 tk.kind, .string ⟨tk.text.toArray⟩, .int .i64 tk.n, .int .i64 (if code = 0 then k else 0)], .int .i64 code]) ∧ Exts w w' := by
  have hne : s.data.toList.drop k ≠ [] := by rw [drop_at hk]; simp
  cases hl : letterI (s[k].toNat : Int) with
  | true =>
    rw [next_word hne (by rw [head_at hk]; exact hl) rfl] at hT
    refine (token25_word s k w hs hk hl _ rfl _ rfl).mono fun e w' ⟨he, hx⟩ => ⟨?_, hx⟩
    rw [he]
    split at hT
    · rename_i h
      cases hT
      rw [if_pos h]
      rfl
    · rename_i h
      cases hT
      rw [if_neg h]
      rfl
  | false =>
    cases hd : digitI (s[k].toNat : Int) with
    | true =>
      rw [next_num (by rw [head_at hk]; exact hl) (by rw [head_at hk]; exact hd) rfl] at hT
      refine (token25_num s k w hs hk hl hd _ rfl _ rfl (numD ((s.data.toList.drop k).take (spanN digitI (s.data.toList.drop k)))).1 (numD ((s.data.toList.drop k).take (spanN digitI (s.data.toList.drop k)))).2 rfl).mono fun e w' ⟨he, hx⟩ => ⟨?_, hx⟩
      rw [he]
      split at hT
      · rename_i h
        cases hT
        rw [if_pos h]
        rfl
      · rename_i h
        cases hT
        rw [if_neg h]
        rfl
    | false =>
      rw [next_sign (by rw [head_at hk]; exact hl) (by rw [head_at hk]; exact hd)] at hT
      have hbd : k + signN (s.data.toList.drop k) ≤ s.size := by
        cases hs : signP (s.data.toList.drop k) with
        | none => simp [signN, hs]; omega
        | some x =>
          have hf := List.find?_some hs
          have hp := (List.isPrefixOf_iff_prefix.1 hf).length_le
          rw [(sign_len hs).1]
          rw [List.length_drop, data_len] at hp
          omega
      refine (token25_sign s k w hs hk hl hd _ rfl hbd _ rfl).mono fun e w' ⟨he, hx⟩ => ⟨?_, hx⟩
      rw [he]
      split at hT
      · rename_i h
        cases hT
        rw [if_pos h]
        rfl
      · rename_i h
        cases hT
        rw [if_neg h]
        rfl
end Go.Proofs.YtjenpmeknlgadaaDoor
