/- Floor and Ceil of package ratio, and Right of the reference. Conditions: fields of arguments within 64 bits. -/
import Derived.Test.YtklibgaigfjneaaWalk2
namespace Go.Proofs.Ytklibgaigfjneaa
open Go.RowKit
set_option linter.unusedSimpArgs false
set_option linter.unusedVariables false

def rFloor (n d : Int) : Int := if rOk n d then n / d else 0
def rCeil (n d : Int) : Int := if rOk n d then -((-n) / d) else 0

theorem floor_neg0 (n d : Int) (h : n.tmod d = 0) : n.tdiv d = n / d :=
  Int.tdiv_eq_ediv_of_dvd (Int.dvd_of_tmod_eq_zero h)
theorem floor_neg1 (n d : Int) (hn : n < 0) (hd : 1 ≤ d) (h : n.tmod d ≠ 0) : n.tdiv d - 1 = n / d := by
  rw [Int.tdiv_eq_ediv, if_neg, Int.sign_eq_one_of_pos (by omega)]
  · omega
  · rintro (h1 | h1)
    · omega
    · exact h (Int.tmod_eq_zero_of_dvd h1)
theorem tdiv_lim (n d : Int) (hn : -1073741824 ≤ n) (hn2 : n ≤ 1073741824) : -1073741824 ≤ n.tdiv d ∧ n.tdiv d ≤ 1073741824 := by
  have h := Int.natAbs_tdiv_le_natAbs n d
  omega

set_option maxHeartbeats 1000000 in
theorem floor_any (n d : Int) (w : World) (ia : I64 n) (ib : I64 d) :
    Calls Try.prog 17 #[.agg #[.int .i64 n, .int .i64 d]] w fun e w' => e = .returned (.int .i64 (rFloor n d)) ∧ Exts w w' := by
  obtain ⟨ia1, ia2⟩ := ia
  obtain ⟨ib1, ib2⟩ := ib
  cases ha : rOk n d
  · have hr : rFloor n d = 0 := by simp [rFloor, ha]
    have Hr := Lib.hid hr
    clear hr
    go_enter Try.func17, Try.ntmps17
    go_wp2_with (first | (go_at_call 10; refine (right_any _ _ _ (by omega) (by omega) (by omega) (by omega)).mono ?_; rintro e w' ⟨rfl, x, rfl⟩))
    go_ret
    exact ⟨by rw [Hr.out]; rfl, (by repeat (first | exact Exts.refl _ | apply Exts.alloc | apply Exts.wext | apply Exts.drew | apply Exts.drewN))⟩
  · have ha' := ha
    rw [rOk_iff] at ha'
    obtain ⟨a1, a2, a3, a4, _⟩ := ha'
    by_cases t1 : 0 ≤ n
    · have b1 : decide (n < 0) = false := by simpa using t1
      have hr : rFloor n d = n / d := by simp [rFloor, ha]
      have Hr := Lib.hid hr
      clear hr
      go_enter Try.func17, Try.ntmps17
      go_wp2_with (first | (go_at_call 10; refine (right_any _ _ _ (by omega) (by omega) (by omega) (by omega)).mono ?_; rintro e w' ⟨rfl, x, rfl⟩))
      go_ret
      exact ⟨by rw [Hr.out]; rfl, (by repeat (first | exact Exts.refl _ | apply Exts.alloc | apply Exts.wext | apply Exts.drew | apply Exts.drewN))⟩
    · have t2 : n < 0 := by omega
      have hr : rFloor n d = n / d := by simp [rFloor, ha]
      have Hr := Lib.hid hr
      clear hr
      have L := tdiv_lim n d a3 a4
      obtain ⟨L1, L2⟩ := L
      by_cases t3 : n.tmod d = 0
      · have Hf := Lib.hid (floor_neg0 n d t3)
        go_enter Try.func17, Try.ntmps17
        go_wp2_with (first | (go_at_call 10; refine (right_any _ _ _ (by omega) (by omega) (by omega) (by omega)).mono ?_; rintro e w' ⟨rfl, x, rfl⟩))
        go_ret
        exact ⟨by rw [Hr.out, ← Hf.out]; rfl, (by repeat (first | exact Exts.refl _ | apply Exts.alloc | apply Exts.wext | apply Exts.drew | apply Exts.drewN))⟩
      · have Hf := Lib.hid (floor_neg1 n d t2 a1 t3)
        have b2 : (n.tmod d != 0) = true := by rw [bne_iff_ne]; exact t3
        go_enter Try.func17, Try.ntmps17
        go_wp2_with (first | (go_at_call 10; refine (right_any _ _ _ (by omega) (by omega) (by omega) (by omega)).mono ?_; rintro e w' ⟨rfl, x, rfl⟩))
        go_ret
        exact ⟨by rw [Hr.out, ← Hf.out]; rfl, (by repeat (first | exact Exts.refl _ | apply Exts.alloc | apply Exts.wext | apply Exts.drew | apply Exts.drewN))⟩

theorem rOk_neg (n d : Int) : rOk (-n) d = rOk n d := by
  rw [Bool.eq_iff_iff, rOk_iff, rOk_iff, Int.natAbs_neg]
  omega

theorem rFloor_lim (n d : Int) : -1073741824 ≤ rFloor n d ∧ rFloor n d ≤ 1073741824 := by
  unfold rFloor
  split
  · rename_i h
    rw [rOk_iff] at h
    have h1 := Int.mul_ediv_add_emod n d
    have h2 := Int.emod_nonneg n (show d ≠ 0 by omega)
    have h3 := Int.emod_lt_of_pos n (show 0 < d by omega)
    constructor
    · rw [Int.le_ediv_iff_mul_le (by omega)]
      have : -1073741824 * d ≤ -1073741824 := by omega
      omega
    · exact Int.le_of_lt_add_one ((Int.ediv_lt_iff_lt_mul (by omega)).2 (by omega))
  · omega

set_option maxHeartbeats 1000000 in
theorem ceil_any (n d : Int) (w : World) (ia : I64 n) (ib : I64 d) :
    Calls Try.prog 18 #[.agg #[.int .i64 n, .int .i64 d]] w fun e w' => e = .returned (.int .i64 (rCeil n d)) ∧ Exts w w' := by
  obtain ⟨ia1, ia2⟩ := ia
  obtain ⟨ib1, ib2⟩ := ib
  cases ha : rOk n d
  · have hr : rCeil n d = 0 := by simp [rCeil, ha]
    have Hr := Lib.hid hr
    clear hr
    go_enter Try.func18, Try.ntmps18
    go_wp2_with (first | (go_at_call 10; refine (right_any _ _ _ (by omega) (by omega) (by omega) (by omega)).mono ?_; rintro e w' ⟨rfl, x, rfl⟩))
    go_ret
    exact ⟨by rw [Hr.out]; rfl, (by repeat (first | exact Exts.refl _ | apply Exts.alloc | apply Exts.wext | apply Exts.drew | apply Exts.drewN))⟩
  · have ha' := ha
    rw [rOk_iff] at ha'
    obtain ⟨a1, a2, a3, a4, _⟩ := ha'
    have L := rFloor_lim (-n) d
    obtain ⟨L1, L2⟩ := L
    have hr : rCeil n d = -(rFloor (-n) d) := by simp [rCeil, rFloor, rOk_neg, ha]
    have Hr := Lib.hid hr
    clear hr
    go_enter Try.func18, Try.ntmps18
    go_wp2_with (first | (go_at_call 10; refine (right_any _ _ _ (by omega) (by omega) (by omega) (by omega)).mono ?_; rintro e w' ⟨rfl, x, rfl⟩) | (go_at_call 17; refine (floor_any _ _ _ ⟨by omega, by omega⟩ ⟨by omega, by omega⟩).mono ?_; rintro e w' ⟨rfl, x, rfl⟩))
    go_ret
    exact ⟨by rw [Hr.out]; rfl, (by repeat (first | exact Exts.refl _ | apply Exts.alloc | apply Exts.wext | apply Exts.drew | apply Exts.drewN))⟩

/-! The reference. -/
set_option maxHeartbeats 1000000 in
theorem down_any (n : Int) (w : World) (i : I64 n) :
    Calls Try.prog 22 #[.int .i64 n] w fun e w' => e = .returned (.int .i64 (-(n.natAbs : Int))) ∧ Exts w w' := by
  obtain ⟨i1, i2⟩ := i
  go_enter Try.func22, Try.ntmps22
  go_wp2
  all_goals go_ret
  all_goals
    refine ⟨?_, Exts.refl _⟩
    simp
    omega

theorem tmod_nat_neg (m k : Nat) : Int.tmod (-(m : Int)) (-(k : Int)) = -((m % k : Nat) : Int) := by
  rw [Int.tmod_neg, Int.neg_tmod, Int.ofNat_tmod]

set_option maxHeartbeats 1000000 in
theorem common_any (a b : Nat) (w : World) (h1 : a ≤ 9223372036854775808) (h2 : b ≤ 9223372036854775808) :
    Calls Try.prog 21 #[.int .i64 (-(a : Int)), .int .i64 (-(b : Int))] w fun e w' => e = .returned (.int .i64 (-((Nat.gcd a b : Nat) : Int))) ∧ Exts w w' := by
  go_enter Try.func21, Try.ntmps21
  go_wp2
  go_loop [0, 1, 5] (fun x y _ => ∃ m k : Nat, x = .int .i64 (-(m : Int)) ∧ y = .int .i64 (-(k : Int)) ∧ m ≤ 9223372036854775808 ∧ k ≤ 9223372036854775808 ∧ Nat.gcd m k = Nat.gcd a b) (fun _ y _ => (-(intOf y)).toNat)
  case atStart => exact ⟨a, b, rfl, rfl, h1, h2, rfl⟩
  case round =>
    obtain ⟨m, k, rfl, rfl, hm, hk, hg⟩ := hrel
    have Hg := Lib.hid hg
    clear hg
    by_cases hz : k = 0
    · subst hz
      have b0 : (-((0 : Nat) : Int) != 0) = false := by simp
      go_wp2
      go_ret
      refine ⟨?_, Exts.refl _⟩
      rw [← Hg.out]
      simp
    · have hkb : ((-(k : Int)) != 0) = true := by rw [bne_iff_ne]; omega
      have hlt := Nat.mod_lt m (Nat.pos_of_ne_zero hz)
      have hle := Nat.mod_le m k
      have ht := tmod_nat_neg m k
      have hb1 : -9223372036854775808 ≤ -((m % k : Nat) : Int) := by omega
      have hb2 : -((m % k : Nat) : Int) ≤ 0 := by omega
      go_wp2
      go_round
      case rel =>
        refine ⟨k, m % k, rfl, by simp, hk, by omega, ?_⟩
        rw [← Hg.out, Nat.gcd_comm m k, Nat.gcd_rec k m, Nat.gcd_comm]
      case measure =>
        simp [intOf]
        omega

set_option maxHeartbeats 400000 in
theorem refRight_any (n d : Int) (w : World) (ia : I64 n) (ib : I64 d) :
    Calls Try.prog 11 #[.agg #[.int .i64 n, .int .i64 d]] w fun e w' => e = .returned (.bool (rOk n d)) ∧ Exts w w' := by
  obtain ⟨h1, h2⟩ := ia
  obtain ⟨h3, h4⟩ := ib
  by_cases c1 : 1 ≤ d
  · by_cases c2 : d ≤ 1073741824
    · by_cases c3 : -1073741824 ≤ n
      · by_cases c4 : n ≤ 1073741824
        · have c5 : rOk n d = (-((Nat.gcd n.natAbs d.natAbs : Nat) : Int) == -1) := by simp [rOk, c1, c2, c3, c4]; rw [Bool.eq_iff_iff]; simp; omega
          have C5 := Lib.hid c5
          clear c5
          go_enter Try.func11, Try.ntmps11
          go_wp2
          first | refine wp_region_ext_lit2 (by kernel_rfl) (by kernel_rfl) ?_ | refine wp_region_ext_lit (by kernel_rfl) (by kernel_rfl) ?_
          repeat (go_big_quiet_step (((first | (go_at_call 22; exact Calls.ext_of (down_any _ _ ⟨by omega, by omega⟩)) | (go_at_call 21; exact Calls.ext_of (common_any _ _ _ (by omega) (by omega)))))))
          refine wpQuiet_nil ?_
          intro _ hwq'
          obtain ⟨xq, hwq''⟩ := hwq'
          subst hwq''
          go_wp2
          go_ret
          refine ⟨?_, (by repeat (first | exact Exts.refl _ | apply Exts.alloc | apply Exts.wext | apply Exts.drew | apply Exts.drewN))⟩
          rw [C5.out]
          try simp
        · have c5 : rOk n d = false := by simp [rOk, c4]
          have C5 := Lib.hid c5
          clear c5
          have b1 : decide (n ≤ 1073741824) = false := by simpa using c4
          go_enter Try.func11, Try.ntmps11
          go_wp2
          first | refine wp_region_ext_lit2 (by kernel_rfl) (by kernel_rfl) ?_ | refine wp_region_ext_lit (by kernel_rfl) (by kernel_rfl) ?_
          repeat (go_big_quiet_step (((first | (go_at_call 22; exact Calls.ext_of (down_any _ _ ⟨by omega, by omega⟩)) | (go_at_call 21; exact Calls.ext_of (common_any _ _ _ (by omega) (by omega)))))))
          refine wpQuiet_nil ?_
          intro _ hwq'
          obtain ⟨xq, hwq''⟩ := hwq'
          subst hwq''
          go_wp2
          go_ret
          refine ⟨?_, (by repeat (first | exact Exts.refl _ | apply Exts.alloc | apply Exts.wext | apply Exts.drew | apply Exts.drewN))⟩
          rw [C5.out]
          try simp
      · have c5 : rOk n d = false := by simp [rOk, c3]
        have C5 := Lib.hid c5
        clear c5
        have b1 : decide (-1073741824 ≤ n) = false := by simpa using c3
        go_enter Try.func11, Try.ntmps11
        go_wp2
        first | refine wp_region_ext_lit2 (by kernel_rfl) (by kernel_rfl) ?_ | refine wp_region_ext_lit (by kernel_rfl) (by kernel_rfl) ?_
        repeat (go_big_quiet_step (((first | (go_at_call 22; exact Calls.ext_of (down_any _ _ ⟨by omega, by omega⟩)) | (go_at_call 21; exact Calls.ext_of (common_any _ _ _ (by omega) (by omega)))))))
        refine wpQuiet_nil ?_
        intro _ hwq'
        obtain ⟨xq, hwq''⟩ := hwq'
        subst hwq''
        go_wp2
        go_ret
        refine ⟨?_, (by repeat (first | exact Exts.refl _ | apply Exts.alloc | apply Exts.wext | apply Exts.drew | apply Exts.drewN))⟩
        rw [C5.out]
        try simp
    · have c5 : rOk n d = false := by simp [rOk, c2]
      have C5 := Lib.hid c5
      clear c5
      have b1 : decide (d ≤ 1073741824) = false := by simpa using c2
      go_enter Try.func11, Try.ntmps11
      go_wp2
      first | refine wp_region_ext_lit2 (by kernel_rfl) (by kernel_rfl) ?_ | refine wp_region_ext_lit (by kernel_rfl) (by kernel_rfl) ?_
      repeat (go_big_quiet_step (((first | (go_at_call 22; exact Calls.ext_of (down_any _ _ ⟨by omega, by omega⟩)) | (go_at_call 21; exact Calls.ext_of (common_any _ _ _ (by omega) (by omega)))))))
      refine wpQuiet_nil ?_
      intro _ hwq'
      obtain ⟨xq, hwq''⟩ := hwq'
      subst hwq''
      go_wp2
      go_ret
      refine ⟨?_, (by repeat (first | exact Exts.refl _ | apply Exts.alloc | apply Exts.wext | apply Exts.drew | apply Exts.drewN))⟩
      rw [C5.out]
      try simp
  · have c5 : rOk n d = false := by simp [rOk, c1]
    have C5 := Lib.hid c5
    clear c5
    have b1 : decide (1 ≤ d) = false := by simpa using c1
    go_enter Try.func11, Try.ntmps11
    go_wp2
    first | refine wp_region_ext_lit2 (by kernel_rfl) (by kernel_rfl) ?_ | refine wp_region_ext_lit (by kernel_rfl) (by kernel_rfl) ?_
    repeat (go_big_quiet_step (((first | (go_at_call 22; exact Calls.ext_of (down_any _ _ ⟨by omega, by omega⟩)) | (go_at_call 21; exact Calls.ext_of (common_any _ _ _ (by omega) (by omega)))))))
    refine wpQuiet_nil ?_
    intro _ hwq'
    obtain ⟨xq, hwq''⟩ := hwq'
    subst hwq''
    go_wp2
    go_ret
    refine ⟨?_, (by repeat (first | exact Exts.refl _ | apply Exts.alloc | apply Exts.wext | apply Exts.drew | apply Exts.drewN))⟩
    rw [C5.out]
    try simp
end Go.Proofs.Ytklibgaigfjneaa
