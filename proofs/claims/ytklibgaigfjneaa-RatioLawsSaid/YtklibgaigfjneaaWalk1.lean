/- The functions of package ratio and its reference, walked once each: what each call returns, and that it leaves old memory alone. Conditions: int arguments within 64 bits. -/
import Derived.Test.YtklibgaigfjneaaExt
namespace Go.Proofs.Ytklibgaigfjneaa
set_option linter.unusedSimpArgs false
open Go.RowKit

set_option maxHeartbeats 400000 in
theorem abs_any (n : Int) (w : World) (h1 : -9223372036854775808 ≤ n) (h2 : n ≤ 9223372036854775807) :
    Calls Try.prog 20 #[.int .i64 n] w fun e w' => e = .returned (.int .u64 n.natAbs) ∧ Exts w w' := by
  go_enter Try.func20, Try.ntmps20
  go_wp2
  all_goals go_ret
  · refine ⟨?_, Exts.refl _⟩
    have : IntKind.u64.wrap (-IntKind.u64.wrap n) = n.natAbs := by
      simp only [IntKind.wrap, IntKind.bits, IntKind.signed]
      simp
      omega
    simp [this]
  · refine ⟨?_, Exts.refl _⟩
    have : n = n.natAbs := by omega
    simp; omega

set_option maxHeartbeats 400000 in
theorem gcd_any (a b : Nat) (w : World) (h1 : a ≤ 9223372036854775808) (h2 : b ≤ 9223372036854775808) :
    Calls Try.prog 19 #[.int .u64 a, .int .u64 b] w fun e w' => e = .returned (.int .u64 (Nat.gcd a b : Nat)) ∧ Exts w w' := by
  go_enter Try.func19, Try.ntmps19
  go_wp2
  go_loopw [0, 1] (fun x y wr => ∃ m k : Nat, x = .int .u64 m ∧ y = .int .u64 k ∧ m ≤ 9223372036854775808 ∧ k ≤ 9223372036854775808 ∧ Nat.gcd m k = Nat.gcd a b ∧ Exts w wr) (fun _ y _ => (intOf y).toNat)
  case atStart => exact ⟨a, b, rfl, rfl, h1, h2, rfl, Exts.refl _⟩
  case round =>
    obtain ⟨m, k, rfl, rfl, hm, hk, hg, hex⟩ := hrel
    have Hg := Lib.hid hg
    clear hg
    by_cases hz : k = 0
    · subst hz
      go_wp2
      go_ret
      refine ⟨?_, hex⟩
      rw [← Hg.out]
      simp
    · have hkb : ((k : Int) != 0) = true := by rw [bne_iff_ne]; omega
      go_wp2
      go_quiet (fail)
      go_wp2
      go_roundw
      case rel =>
        have hlt := Nat.mod_lt m (Nat.pos_of_ne_zero hz)
        refine ⟨k, m % k, rfl, by simp, hk, by omega, ?_, Exts.drewN hex _⟩
        rw [← Hg.out, Nat.gcd_comm m k, Nat.gcd_rec k m, Nat.gcd_comm]
      case measure =>
        have hlt := Nat.mod_lt m (Nat.pos_of_ne_zero hz)
        simp [intOf]
        omega

theorem gcd_eq (a b g : Nat) (w : World) (hg : Nat.gcd a b = g) (h1 : a ≤ 9223372036854775808) (h2 : b ≤ 9223372036854775808) :
    Calls Try.prog 19 #[.int .u64 a, .int .u64 b] w fun e w' => e = .returned (.int .u64 (g : Int)) ∧ Exts w w' := by
  subst hg
  exact gcd_any a b w h1 h2

def rOk (n d : Int) : Bool := decide (1 ≤ d ∧ d ≤ 1073741824 ∧ -1073741824 ≤ n ∧ n ≤ 1073741824 ∧ Nat.gcd n.natAbs d.natAbs = 1)

set_option maxHeartbeats 400000 in
theorem right_any (n d : Int) (w : World) (h1 : -9223372036854775808 ≤ n) (h2 : n ≤ 9223372036854775807) (h3 : -9223372036854775808 ≤ d) (h4 : d ≤ 9223372036854775807) :
    Calls Try.prog 10 #[.agg #[.int .i64 n, .int .i64 d]] w fun e w' => e = .returned (.bool (rOk n d)) ∧ Exts w w' := by
  by_cases c1 : 1 ≤ d
  · by_cases c2 : d ≤ 1073741824
    · by_cases c3 : -1073741824 ≤ n
      · by_cases c4 : n ≤ 1073741824
        · have c5 : rOk n d = (((Nat.gcd n.natAbs d.natAbs : Nat) : Int) == 1) := by simp [rOk, c1, c2, c3, c4]; rw [Bool.eq_iff_iff]; simp; omega
          have C5 := Lib.hid c5
          clear c5
          go_enter Try.func10, Try.ntmps10
          go_wp2
          first | refine wp_region_ext_lit2 (by kernel_rfl) (by kernel_rfl) ?_ | refine wp_region_ext_lit (by kernel_rfl) (by kernel_rfl) ?_
          repeat (go_big_quiet_step (((first | (go_at_call 20; exact Calls.ext_of (abs_any _ _ (by omega) (by omega))) | (go_at_call 19; exact Calls.ext_of (gcd_any _ _ _ (by omega) (by omega)))))))
          refine wpQuiet_nil ?_
          intro _ hwq'
          obtain ⟨xq, hwq''⟩ := hwq'
          subst hwq''
          go_wp2
          go_ret
          refine ⟨?_, ((Exts.refl _).alloc _).wext _⟩
          rw [C5.out]
          try simp
        · have c5 : rOk n d = false := by simp [rOk, c4]
          have C5 := Lib.hid c5
          clear c5
          have b1 : decide (n ≤ 1073741824) = false := by simpa using c4
          go_enter Try.func10, Try.ntmps10
          go_wp2
          first | refine wp_region_ext_lit2 (by kernel_rfl) (by kernel_rfl) ?_ | refine wp_region_ext_lit (by kernel_rfl) (by kernel_rfl) ?_
          repeat (go_big_quiet_step (((first | (go_at_call 20; exact Calls.ext_of (abs_any _ _ (by omega) (by omega))) | (go_at_call 19; exact Calls.ext_of (gcd_any _ _ _ (by omega) (by omega)))))))
          refine wpQuiet_nil ?_
          intro _ hwq'
          obtain ⟨xq, hwq''⟩ := hwq'
          subst hwq''
          go_wp2
          go_ret
          refine ⟨?_, ((Exts.refl _).alloc _).wext _⟩
          rw [C5.out]
          try simp
      · have c5 : rOk n d = false := by simp [rOk, c3]
        have C5 := Lib.hid c5
        clear c5
        have b1 : decide (-1073741824 ≤ n) = false := by simpa using c3
        go_enter Try.func10, Try.ntmps10
        go_wp2
        first | refine wp_region_ext_lit2 (by kernel_rfl) (by kernel_rfl) ?_ | refine wp_region_ext_lit (by kernel_rfl) (by kernel_rfl) ?_
        repeat (go_big_quiet_step (((first | (go_at_call 20; exact Calls.ext_of (abs_any _ _ (by omega) (by omega))) | (go_at_call 19; exact Calls.ext_of (gcd_any _ _ _ (by omega) (by omega)))))))
        refine wpQuiet_nil ?_
        intro _ hwq'
        obtain ⟨xq, hwq''⟩ := hwq'
        subst hwq''
        go_wp2
        go_ret
        refine ⟨?_, ((Exts.refl _).alloc _).wext _⟩
        rw [C5.out]
        try simp
    · have c5 : rOk n d = false := by simp [rOk, c2]
      have C5 := Lib.hid c5
      clear c5
      have b1 : decide (d ≤ 1073741824) = false := by simpa using c2
      go_enter Try.func10, Try.ntmps10
      go_wp2
      first | refine wp_region_ext_lit2 (by kernel_rfl) (by kernel_rfl) ?_ | refine wp_region_ext_lit (by kernel_rfl) (by kernel_rfl) ?_
      repeat (go_big_quiet_step (((first | (go_at_call 20; exact Calls.ext_of (abs_any _ _ (by omega) (by omega))) | (go_at_call 19; exact Calls.ext_of (gcd_any _ _ _ (by omega) (by omega)))))))
      refine wpQuiet_nil ?_
      intro _ hwq'
      obtain ⟨xq, hwq''⟩ := hwq'
      subst hwq''
      go_wp2
      go_ret
      refine ⟨?_, ((Exts.refl _).alloc _).wext _⟩
      rw [C5.out]
      try simp
  · have c5 : rOk n d = false := by simp [rOk, c1]
    have C5 := Lib.hid c5
    clear c5
    have b1 : decide (1 ≤ d) = false := by simpa using c1
    go_enter Try.func10, Try.ntmps10
    go_wp2
    first | refine wp_region_ext_lit2 (by kernel_rfl) (by kernel_rfl) ?_ | refine wp_region_ext_lit (by kernel_rfl) (by kernel_rfl) ?_
    repeat (go_big_quiet_step (((first | (go_at_call 20; exact Calls.ext_of (abs_any _ _ (by omega) (by omega))) | (go_at_call 19; exact Calls.ext_of (gcd_any _ _ _ (by omega) (by omega)))))))
    refine wpQuiet_nil ?_
    intro _ hwq'
    obtain ⟨xq, hwq''⟩ := hwq'
    subst hwq''
    go_wp2
    go_ret
    refine ⟨?_, ((Exts.refl _).alloc _).wext _⟩
    rw [C5.out]
    try simp

def rMake (n d : Int) : (Int × Int) × Int :=
  if d = 0 then ((0, 0), 1) else
  if 1073741824 < (n.natAbs : Int) / (Nat.gcd n.natAbs d.natAbs : Nat) ∨ 1073741824 < (d.natAbs : Int) / (Nat.gcd n.natAbs d.natAbs : Nat) then ((0, 0), 3) else
  ((if (decide (n < 0) != decide (d < 0)) then -((n.natAbs : Int) / (Nat.gcd n.natAbs d.natAbs : Nat)) else (n.natAbs : Int) / (Nat.gcd n.natAbs d.natAbs : Nat), (d.natAbs : Int) / (Nat.gcd n.natAbs d.natAbs : Nat)), 0)

/-- A pair of a ratio and an error, as a result. -/
def rRes (x : (Int × Int) × Int) : Value := .tuple #[.agg #[.int .i64 x.1.1, .int .i64 x.1.2], .int .i64 x.2]

set_option maxHeartbeats 400000 in
theorem make_any (n d : Int) (w : World) (h1 : -9223372036854775808 ≤ n) (h2 : n ≤ 9223372036854775807) (h3 : -9223372036854775808 ≤ d) (h4 : d ≤ 9223372036854775807) :
    Calls Try.prog 9 #[.int .i64 n, .int .i64 d] w fun e w' => e = .returned (rRes (rMake n d)) ∧ Exts w w' := by
  by_cases c0 : d = 0
  · subst c0
    go_enter Try.func9, Try.ntmps9
    go_wp2
    exact bodyPost_ret (v := .tuple #[.agg #[.int .i64 0, .int .i64 0], .int .i64 1]) (by simp [results, Try.results9, go_sem]) rfl ⟨rfl, (Exts.refl _).alloc _⟩
  · have b0 : (d == 0) = false := by simpa using c0
    have hbn : (n.natAbs : Int) ≤ 9223372036854775808 := by omega
    have hbd : (d.natAbs : Int) ≤ 9223372036854775808 := by omega
    have hn0 : (0 : Int) ≤ n.natAbs := by omega
    have hd0 : (0 : Int) ≤ d.natAbs := by omega
    obtain ⟨g, hg⟩ : ∃ g, Nat.gcd n.natAbs d.natAbs = g := ⟨_, rfl⟩
    have hgp : 0 < g := by rw [← hg]; exact Nat.gcd_pos_of_pos_right _ (by omega)
    have hgp' : (1 : Int) ≤ g := by omega
    have Hg := Lib.hid hg
    obtain ⟨p, hp⟩ : ∃ p : Int, (n.natAbs : Int) / g = p := ⟨_, rfl⟩
    obtain ⟨q, hq⟩ : ∃ q : Int, (d.natAbs : Int) / g = q := ⟨_, rfl⟩
    have hm : rMake n d = if 1073741824 < p ∨ 1073741824 < q then ((0, 0), 3) else ((if (decide (n < 0) != decide (d < 0)) then -p else p, q), 0) := by
      rw [rMake, if_neg c0, hg, hp, hq]
    have Hm := Lib.hid hm
    have hp0 : 0 ≤ p := by rw [← hp]; exact Int.ediv_nonneg (by omega) (by omega)
    have hp1 : p ≤ 9223372036854775808 := by rw [← hp]; exact Int.le_trans (Int.ediv_le_self _ (by omega)) (by omega)
    have hq1 : q ≤ 9223372036854775808 := by rw [← hq]; exact Int.le_trans (Int.ediv_le_self _ (by omega)) (by omega)
    have hq0 : 0 ≤ q := by rw [← hq]; exact Int.ediv_nonneg (by omega) (by omega)
    clear hm hg c0
    go_enter Try.func9, Try.ntmps9
    go_wp2_with (first | (go_at_call 20; refine (abs_any _ _ (by omega) (by omega)).mono ?_; rintro e w' ⟨rfl, x, rfl⟩) | (go_at_call 19; refine (gcd_eq _ _ g _ Hg.out (by omega) (by omega)).mono ?_; rintro e w' ⟨rfl, x, rfl⟩))
    first | refine wp_region_ext_lit2 (by kernel_rfl) (by kernel_rfl) ?_ | refine wp_region_ext_lit (by kernel_rfl) (by kernel_rfl) ?_
    repeat (go_big_quiet_step (((first | (go_at_call 20; exact Calls.ext_of (abs_any _ _ (by omega) (by omega)))))))
    refine wpQuiet_nil ?_
    intro _ hwq'
    obtain ⟨xq, hwq''⟩ := hwq'
    subst hwq''
    by_cases c1 : 1073741824 < p
    · go_wp2
      exact bodyPost_ret (v := rRes (rMake n d)) (by rw [Hm.out, if_pos (Or.inl c1)]; simp [results, Try.results9, go_sem, rRes]) rfl ⟨rfl, ((Exts.refl _).alloc _).wext _⟩
    · have b1 : decide (1073741824 < p) = false := by simpa using c1
      by_cases c2 : 1073741824 < q
      · go_wp2
        exact bodyPost_ret (v := rRes (rMake n d)) (by rw [Hm.out, if_pos (Or.inr c2)]; simp [results, Try.results9, go_sem, rRes]) rfl ⟨rfl, ((Exts.refl _).alloc _).wext _⟩
      · have hm2 : rMake n d = ((if (decide (n < 0) != decide (d < 0)) then -p else p, q), 0) := by rw [Hm.out, if_neg (by omega)]
        have Hm2 := Lib.hid hm2
        clear hm2
        have b2 : decide (1073741824 < q) = false := by simpa using c2
        by_cases c3 : n < 0 <;> by_cases c4 : d < 0
        all_goals
          go_wp2
          exact bodyPost_ret (v := rRes (rMake n d)) (by rw [Hm2.out]; first | (simp [results, go_sem, rRes, c3, c4]; done) | (simp [results, go_sem, rRes, c3, c4]; omega)) rfl ⟨rfl, (by repeat (first | exact Exts.refl _ | apply Exts.alloc | apply Exts.wext | apply Exts.drew | apply Exts.drewN))⟩

theorem make_eq (n d p q k : Int) (w : World) (h : rMake n d = ((p, q), k)) (h1 : -9223372036854775808 ≤ n) (h2 : n ≤ 9223372036854775807) (h3 : -9223372036854775808 ≤ d) (h4 : d ≤ 9223372036854775807) :
    Calls Try.prog 9 #[.int .i64 n, .int .i64 d] w fun e w' => e = .returned (.tuple #[.agg #[.int .i64 p, .int .i64 q], .int .i64 k]) ∧ Exts w w' := by
  have hm := make_any n d w h1 h2 h3 h4
  rw [h] at hm
  exact hm

theorem rMake_bounds (n d : Int) : -1073741824 ≤ (rMake n d).1.1 ∧ (rMake n d).1.1 ≤ 1073741824 ∧ 0 ≤ (rMake n d).1.2 ∧ (rMake n d).1.2 ≤ 1073741824 := by
  unfold rMake
  split
  · simp
  · split
    · simp
    · rename_i h
      have hp : 0 ≤ (n.natAbs : Int) / (Nat.gcd n.natAbs d.natAbs : Nat) := Int.ediv_nonneg (by omega) (by omega)
      have hq : 0 ≤ (d.natAbs : Int) / (Nat.gcd n.natAbs d.natAbs : Nat) := Int.ediv_nonneg (by omega) (by omega)
      dsimp only
      split <;> omega

theorem right_eq (n d : Int) (b : Bool) (w : World) (h : rOk n d = b) (h1 : -9223372036854775808 ≤ n) (h2 : n ≤ 9223372036854775807) (h3 : -9223372036854775808 ≤ d) (h4 : d ≤ 9223372036854775807) :
    Calls Try.prog 10 #[.agg #[.int .i64 n, .int .i64 d]] w fun e w' => e = .returned (.bool b) ∧ Exts w w' := by
  subst h
  exact right_any n d w h1 h2 h3 h4

theorem rOk_iff (n d : Int) : rOk n d = true ↔ 1 ≤ d ∧ d ≤ 1073741824 ∧ -1073741824 ≤ n ∧ n ≤ 1073741824 ∧ Nat.gcd n.natAbs d.natAbs = 1 := by simp [rOk]
end Go.Proofs.Ytklibgaigfjneaa
