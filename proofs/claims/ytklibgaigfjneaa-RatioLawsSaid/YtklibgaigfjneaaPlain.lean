/- The plain laws of the fractions: what Make, Add and Mul compute are the core library's rational numbers, within the limits. No program in sight. -/
import Derived.Test.YtklibgaigfjneaaWalk2
namespace Go.Proofs.Ytklibgaigfjneaa

/-- A rational number as a result: refused where it is too large. -/
def ofRat (r : Rat) : (Int × Int) × Int := if 1073741824 < (r.num.natAbs : Int) ∨ 1073741824 < (r.den : Int) then ((0, 0), 3) else ((r.num, (r.den : Int)), 0)

theorem natAbs_ediv (n : Int) (g : Nat) (hg : (g : Int) ∣ n) : ((n / (g : Int)).natAbs : Int) = (n.natAbs : Int) / g := by
  obtain ⟨k, rfl⟩ := hg
  by_cases h : g = 0
  · subst h; simp
  · rw [Int.mul_ediv_cancel_left _ (by omega), Int.natAbs_mul]
    simp
    rw [Int.mul_ediv_cancel_left _ (by omega)]

theorem gcd_dvd_int (n d : Int) : ((Nat.gcd n.natAbs d.natAbs : Nat) : Int) ∣ n := Int.ofNat_dvd_left.2 (Nat.gcd_dvd_left _ _)

theorem rMake_rat (n d : Int) (hd : d ≠ 0) : rMake n d = ofRat (Rat.divInt n d) := by
  have hnum := Rat.num_divInt n d
  have hden := Rat.den_divInt n d
  rw [if_neg hd] at hden
  have hg : d.gcd n = Nat.gcd n.natAbs d.natAbs := Nat.gcd_comm _ _
  rw [hg] at hnum hden
  have hgp : 0 < Nat.gcd n.natAbs d.natAbs := Nat.gcd_pos_of_pos_right _ (by omega)
  have hdv := gcd_dvd_int n d
  unfold ofRat rMake
  rw [if_neg hd]
  generalize Nat.gcd n.natAbs d.natAbs = g at *
  have hq : ((Rat.divInt n d).den : Int) = (d.natAbs : Int) / g := by rw [hden]; simp
  have hsg : (d.sign * n / (g : Int)) = if d < 0 then -(n / (g : Int)) else n / (g : Int) := by
    split
    · rename_i h
      rw [Int.sign_eq_neg_one_of_neg h, show -1 * n = -n by omega, Int.neg_ediv_of_dvd hdv]
    · rw [Int.sign_eq_one_of_pos (by omega), Int.one_mul]
  have hp : ((Rat.divInt n d).num.natAbs : Int) = (n.natAbs : Int) / g := by
    rw [hnum, hsg, ← natAbs_ediv n g hdv]
    split
    · rw [Int.natAbs_neg]
    · rfl
  have hs : (if (decide (n < 0) != decide (d < 0)) = true then -((n.natAbs : Int) / g) else (n.natAbs : Int) / g) = (Rat.divInt n d).num := by
    rw [hnum, hsg, ← natAbs_ediv n g hdv]
    have h0 : 0 ≤ n → 0 ≤ n / (g : Int) := fun h => Int.ediv_nonneg h (by omega)
    have h1 : n < 0 → n / (g : Int) ≤ 0 := fun h => by
      have := Int.ediv_nonneg (show 0 ≤ -n by omega) (show 0 ≤ (g : Int) by omega)
      rw [Int.neg_ediv_of_dvd hdv] at this
      omega
    by_cases hn : n < 0 <;> by_cases hd' : d < 0 <;> simp [hn, hd'] <;> omega
  rw [hq, hp, hs]

/-- A valid ratio is a rational number. -/
theorem rOk_rat {n d : Int} (h : rOk n d = true) : ∃ r : Rat, r.num = n ∧ (r.den : Int) = d ∧ (n.natAbs : Int) ≤ 1073741824 ∧ d ≤ 1073741824 := by
  rw [rOk_iff] at h
  obtain ⟨h1, h2, h3, h4, h5⟩ := h
  refine ⟨Rat.mk' n d.natAbs (by omega) h5, rfl, ?_, by omega, h2⟩
  show ((d.natAbs : Nat) : Int) = d
  omega

theorem ofRat_ok (r : Rat) (h1 : (r.num.natAbs : Int) ≤ 1073741824) (h2 : (r.den : Int) ≤ 1073741824) : ofRat r = ((r.num, (r.den : Int)), 0) := by
  rw [ofRat, if_neg (by omega)]

theorem rOk_of_rat (r : Rat) (h1 : (r.num.natAbs : Int) ≤ 1073741824) (h2 : (r.den : Int) ≤ 1073741824) : rOk r.num (r.den : Int) = true := by
  rw [rOk_iff]
  have h3 := r.den_nz
  have h4 := r.reduced
  refine ⟨by omega, h2, by omega, by omega, ?_⟩
  rw [Int.natAbs_natCast]
  exact h4

/-- What is made is a valid ratio, or nothing. -/
theorem ofRat_cases (r : Rat) : (ofRat r = ((r.num, (r.den : Int)), 0) ∧ rOk r.num (r.den : Int) = true) ∨ (ofRat r = ((0, 0), 3)) := by
  unfold ofRat
  split
  · exact .inr rfl
  · exact .inl ⟨rfl, rOk_of_rat r (by omega) (by omega)⟩

theorem ofRat_inj {r : Rat} {n d : Int} (h : ofRat r = ((n, d), 0)) : r.num = n ∧ (r.den : Int) = d ∧ rOk n d = true := by
  rcases ofRat_cases r with ⟨h1, h2⟩ | h1
  · rw [h1] at h
    simp at h
    obtain ⟨rfl, rfl⟩ := h
    exact ⟨rfl, rfl, h2⟩
  · rw [h1] at h
    simp at h

theorem rat_eq {r s : Rat} (h1 : r.num = s.num) (h2 : (r.den : Int) = s.den) : r = s := Rat.ext h1 (by omega)

theorem rAdd_rat (r s : Rat) (h1 : rOk r.num r.den = true) (h2 : rOk s.num s.den = true) : rAdd r.num r.den s.num s.den = ofRat (r + s) := by
  have hr := r.den_nz
  have hs := s.den_nz
  rw [rAdd, h1, h2]
  simp only [Bool.and_self, if_true]
  have hm : (r.den : Int) * s.den ≠ 0 := Int.mul_ne_zero (by omega) (by omega)
  rw [rMake_rat _ _ hm, ← Rat.divInt_add_divInt _ _ (by omega) (by omega), Rat.num_divInt_den, Rat.num_divInt_den]

theorem rMul_rat (r s : Rat) (h1 : rOk r.num r.den = true) (h2 : rOk s.num s.den = true) : rMul r.num r.den s.num s.den = ofRat (r * s) := by
  have hr := r.den_nz
  have hs := s.den_nz
  rw [rMul, h1, h2]
  simp only [Bool.and_self, if_true]
  have hm : (r.den : Int) * s.den ≠ 0 := Int.mul_ne_zero (by omega) (by omega)
  rw [rMake_rat _ _ hm, ← Rat.divInt_mul_divInt, Rat.num_divInt_den, Rat.num_divInt_den]

/-! RatioMakes. -/
theorem makes_one (n d : Int) (h1 : -1073741824 ≤ n) (h2 : n ≤ 1073741824) (h3 : -1073741824 ≤ d) (h4 : d ≤ 1073741824) (hd : d ≠ 0) :
    ∃ p q, rMake n d = ((p, q), 0) ∧ rOk p q = true ∧ p * d = n * q := by
  have hn := Rat.num_divInt n d
  have hg : d.gcd n = Nat.gcd n.natAbs d.natAbs := Nat.gcd_comm _ _
  have hdv := gcd_dvd_int n d
  have hq := Rat.den_divInt n d
  rw [if_neg hd] at hq
  have hgp : 0 < Nat.gcd n.natAbs d.natAbs := Nat.gcd_pos_of_pos_right _ (by omega)
  have b1 : ((Rat.divInt n d).den : Int) ≤ 1073741824 := by
    rw [hq]
    have := Nat.div_le_self d.natAbs (d.gcd n)
    omega
  have hs : (Rat.divInt n d).num * d = n * (Rat.divInt n d).den := by
    have e := Rat.num_divInt_den (Rat.divInt n d)
    rw [Rat.divInt_eq_divInt_iff (by have := (Rat.divInt n d).den_nz; omega) hd] at e
    exact e
  have b2 : ((Rat.divInt n d).num.natAbs : Int) ≤ 1073741824 := by
    have e := congrArg Int.natAbs hs
    rw [Int.natAbs_mul, Int.natAbs_mul, Int.natAbs_natCast] at e
    have hle : (Rat.divInt n d).den ≤ d.natAbs := by rw [hq]; exact Nat.div_le_self _ _
    have hle2 : (Rat.divInt n d).num.natAbs * d.natAbs ≤ n.natAbs * d.natAbs := by rw [e]; exact Nat.mul_le_mul_left _ hle
    have := Nat.le_of_mul_le_mul_right hle2 (by omega)
    omega
  exact ⟨_, _, by rw [rMake_rat n d hd, ofRat_ok _ b2 b1], rOk_of_rat _ b2 b1, hs⟩

theorem makes_two (n d k : Int) (hk : k ≠ 0) (hd : d ≠ 0) : rMake (n * k) (d * k) = rMake n d := by
  rw [rMake_rat _ _ hd, rMake_rat _ _ (Int.mul_ne_zero hd hk), Rat.divInt_mul_right hk]
end Go.Proofs.Ytklibgaigfjneaa
