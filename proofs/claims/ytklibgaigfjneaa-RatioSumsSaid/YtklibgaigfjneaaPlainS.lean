/- The plain law of RatioSums: sums over the common denominator 720720. No program in sight. -/
import Derived.Test.YtklibgaigfjneaaPlain3
namespace Go.Proofs.Ytklibgaigfjneaa

def sN (M : Int) : Int := (Rat.divInt M 720720).num
def sD (M : Int) : Int := ((Rat.divInt M 720720).den : Int)

theorem sD_pos (M : Int) : 1 ≤ sD M := by
  have := (Rat.divInt M 720720).den_nz
  unfold sD; omega
theorem sD_le (M : Int) : sD M ≤ 720720 := by
  have h := Rat.den_divInt M 720720
  rw [if_neg (by omega)] at h
  have := Nat.div_le_self (720720 : Int).natAbs ((720720 : Int).gcd M)
  unfold sD
  omega
theorem s_cross (M : Int) : sN M * 720720 = M * sD M := by
  have e := Rat.num_divInt_den (Rat.divInt M 720720)
  rw [Rat.divInt_eq_divInt_iff (by have := (Rat.divInt M 720720).den_nz; omega) (by omega)] at e
  exact e
theorem sN_le (M : Int) (h : M.natAbs ≤ 576576000) : (sN M).natAbs ≤ 576576000 := by
  have e := congrArg Int.natAbs (s_cross M)
  rw [Int.natAbs_mul, Int.natAbs_mul] at e
  have h1 := sD_le M
  have h2 := sD_pos M
  have h3 : M.natAbs * (sD M).natAbs ≤ 576576000 * 720720 := Nat.mul_le_mul h (by omega)
  rw [← e] at h3
  have e2 : (720720 : Int).natAbs = 720720 := rfl
  rw [e2] at h3
  exact Nat.le_of_mul_le_mul_right h3 (by omega)
theorem s_ok (M : Int) (h : M.natAbs ≤ 576576000) : rOk (sN M) (sD M) = true := by
  have h1 := sN_le M h
  have h2 := sD_le M
  exact rOk_of_rat (Rat.divInt M 720720) (by unfold sN at h1; omega) (by unfold sD at h2; omega)
theorem s_zero : sN 0 = 0 ∧ sD 0 = 1 := by
  constructor <;> decide +kernel

theorem div_720720 (d : Int) (h1 : 1 ≤ d) (h2 : d ≤ 16) : 720720 / d * d = 720720 := by
  rcases (by omega : d = 1 ∨ d = 2 ∨ d = 3 ∨ d = 4 ∨ d = 5 ∨ d = 6 ∨ d = 7 ∨ d = 8 ∨ d = 9 ∨ d = 10 ∨ d = 11 ∨ d = 12 ∨ d = 13 ∨ d = 14 ∨ d = 15 ∨ d = 16) with h | h | h | h | h | h | h | h | h | h | h | h | h | h | h | h <;> subst h <;> decide +kernel

theorem s_add (M n d : Int) (hM : M.natAbs ≤ 576576000) (hr : rOk n d = true) (h2 : d ≤ 16) (hM' : (M + n * (720720 / d)).natAbs ≤ 576576000) :
    rAdd (sN M) (sD M) n d = ((sN (M + n * (720720 / d)), sD (M + n * (720720 / d))), 0) := by
  have h1 := (rOk_iff _ _).1 hr
  obtain ⟨r, rfl, rfl, _, _⟩ := rOk_rat hr
  have hd := div_720720 (r.den : Int) h1.1 h2
  have e := rAdd_rat (Rat.divInt M 720720) r (s_ok M hM) hr
  have e2 : Rat.divInt M 720720 + r = Rat.divInt (M + r.num * (720720 / (r.den : Int))) 720720 := by
    have hz : (r.den : Int) ≠ 0 := by omega
    generalize (720720 / (r.den : Int)) = k at hd
    have e3 : r = Rat.divInt (r.num * k) 720720 := by
      have hk : k ≠ 0 := by rintro rfl; simp at hd
      rw [← hd, Int.mul_comm k, Rat.divInt_mul_right hk, Rat.num_divInt_den]
    have e4 : Rat.divInt M 720720 + Rat.divInt (r.num * k) 720720 = Rat.divInt (M + r.num * k) 720720 := by
      rw [Rat.divInt_add_divInt _ _ (by omega) (by omega), ← Int.add_mul, Rat.divInt_mul_right (by omega)]
    rw [← e4, ← e3]
  rw [e2] at e
  have b1 := sN_le _ hM'
  have b2 := sD_le (M + r.num * (720720 / (r.den : Int)))
  rw [ofRat_ok _ (by unfold sN at b1; omega) (by unfold sD at b2; omega)] at e
  exact e

/-- The sum of the first k. -/
def msum (f : Nat → Int) : Nat → Int
  | 0 => 0
  | k + 1 => msum f k + f k

theorem msum_le (f : Nat → Int) (c : Nat) : ∀ k, (∀ i, i < k → (f i).natAbs ≤ c) → (msum f k).natAbs ≤ k * c
  | 0, _ => by simp [msum]
  | k + 1, h => by
    have h1 := msum_le f c k (fun i hi => h i (by omega))
    have h2 := h k (by omega)
    rw [msum, Nat.add_mul]
    omega

theorem msum_front (f : Nat → Int) : ∀ k, msum f (k + 1) = f 0 + msum (fun i => f (i + 1)) k
  | 0 => by simp [msum]
  | k + 1 => by
    rw [msum, msum_front f k, msum]
    omega

theorem msum_congr {f g : Nat → Int} : ∀ k, (∀ i, i < k → f i = g i) → msum f k = msum g k
  | 0, _ => rfl
  | k + 1, h => by rw [msum, msum, msum_congr k (fun i hi => h i (by omega)), h k (by omega)]

theorem msum_back (f : Nat → Int) : ∀ n, msum (fun i => f (n - 1 - i)) n = msum f n
  | 0 => rfl
  | n + 1 => by
    rw [msum_front, msum]
    have : msum (fun i => f (n + 1 - 1 - (i + 1))) n = msum f n := by
      rw [← msum_back f n]
      exact msum_congr n (fun i hi => by congr 1; omega)
    rw [this]
    simp
    omega

/-- What one element adds. -/
def term (n d : Int) : Int := n * (720720 / d)
theorem term_le (n d : Int) (h1 : -100 ≤ n) (h2 : n ≤ 100) (h3 : 1 ≤ d) (h4 : d ≤ 16) : (term n d).natAbs ≤ 72072000 := by
  have e := div_720720 d h3 h4
  unfold term
  rw [Int.natAbs_mul]
  have : (720720 / d).natAbs ≤ 720720 := by
    have := Int.ediv_le_self (a := 720720) d (by omega)
    have := Int.ediv_nonneg (a := 720720) (b := d) (by omega) (by omega)
    omega
  have := Nat.mul_le_mul (show n.natAbs ≤ 100 by omega) this
  omega
end Go.Proofs.Ytklibgaigfjneaa
