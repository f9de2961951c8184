/- The plain laws of sums and products: those of the core library's rational numbers. No program in sight. -/
import Derived.Test.YtklibgaigfjneaaPlain2
import Derived.Test.YtklibgaigfjneaaWalk5
namespace Go.Proofs.Ytklibgaigfjneaa

theorem rAdd_comm (a b c d : Int) : rAdd a b c d = rAdd c d a b := by
  unfold rAdd
  rw [Bool.and_comm, Int.add_comm, Int.mul_comm b d]
theorem rMul_comm (a b c d : Int) : rMul a b c d = rMul c d a b := by
  unfold rMul
  rw [Bool.and_comm, Int.mul_comm a c, Int.mul_comm b d]

theorem ok01 : rOk 0 1 = true := by decide +kernel
theorem ok11 : rOk 1 1 = true := by decide +kernel

theorem rAdd_zero (a b : Int) (h : rOk a b = true) : rAdd a b 0 1 = ((a, b), 0) := by
  obtain ⟨r, rfl, rfl, l1, l2⟩ := rOk_rat h
  have := rAdd_rat r 0 h ok01
  rw [Rat.add_zero, ofRat_ok r l1 l2] at this
  exact this
theorem rMul_one (a b : Int) (h : rOk a b = true) : rMul a b 1 1 = ((a, b), 0) := by
  obtain ⟨r, rfl, rfl, l1, l2⟩ := rOk_rat h
  have := rMul_rat r 1 h ok11
  rw [Rat.mul_one, ofRat_ok r l1 l2] at this
  exact this
theorem rAdd_opp (a b : Int) (h : rOk a b = true) : rAdd a b (-a) b = ((0, 1), 0) := by
  obtain ⟨r, rfl, rfl, l1, l2⟩ := rOk_rat h
  have h2 : rOk (-r).num (-r).den = true := by
    rw [rOk_iff] at h ⊢
    rw [Rat.neg_num, Rat.neg_den, Int.natAbs_neg]
    omega
  have := rAdd_rat r (-r) h h2
  rw [Rat.add_neg_cancel] at this
  exact this

theorem add_assoc_law {a b c d e f s1 s2 t1 t2 l1 l2 r1 r2 : Int} (h1 : rOk a b = true) (h2 : rOk c d = true) (h3 : rOk e f = true)
    (m1 : rAdd a b c d = ((s1, s2), 0)) (m3 : rAdd c d e f = ((t1, t2), 0)) (m4 : rAdd s1 s2 e f = ((l1, l2), 0)) (m5 : rAdd a b t1 t2 = ((r1, r2), 0)) : l1 = r1 ∧ l2 = r2 := by
  obtain ⟨r, rfl, rfl, _, _⟩ := rOk_rat h1
  obtain ⟨s, rfl, rfl, _, _⟩ := rOk_rat h2
  obtain ⟨t, rfl, rfl, _, _⟩ := rOk_rat h3
  rw [rAdd_rat r s h1 h2] at m1
  rw [rAdd_rat s t h2 h3] at m3
  obtain ⟨rfl, rfl, k1⟩ := ofRat_inj m1
  obtain ⟨rfl, rfl, k2⟩ := ofRat_inj m3
  rw [rAdd_rat _ t k1 h3, Rat.add_assoc] at m4
  rw [rAdd_rat r _ h1 k2] at m5
  obtain ⟨rfl, rfl, _⟩ := ofRat_inj m4
  obtain ⟨rfl, rfl, _⟩ := ofRat_inj m5
  exact ⟨rfl, rfl⟩

theorem distr_law {a b c d e f p1 p2 t1 t2 u1 u2 v1 v2 w1 w2 : Int} (h1 : rOk a b = true) (h2 : rOk c d = true) (h3 : rOk e f = true)
    (m2 : rMul a b c d = ((p1, p2), 0)) (m3 : rAdd c d e f = ((t1, t2), 0)) (m6 : rMul a b e f = ((u1, u2), 0)) (m7 : rAdd p1 p2 u1 u2 = ((v1, v2), 0)) (m8 : rMul a b t1 t2 = ((w1, w2), 0)) : v1 = w1 ∧ v2 = w2 := by
  obtain ⟨r, rfl, rfl, _, _⟩ := rOk_rat h1
  obtain ⟨s, rfl, rfl, _, _⟩ := rOk_rat h2
  obtain ⟨t, rfl, rfl, _, _⟩ := rOk_rat h3
  rw [rMul_rat r s h1 h2] at m2
  rw [rAdd_rat s t h2 h3] at m3
  rw [rMul_rat r t h1 h3] at m6
  obtain ⟨rfl, rfl, k1⟩ := ofRat_inj m2
  obtain ⟨rfl, rfl, k2⟩ := ofRat_inj m3
  obtain ⟨rfl, rfl, k3⟩ := ofRat_inj m6
  rw [rAdd_rat _ _ k1 k3, ← Rat.mul_add] at m7
  rw [rMul_rat r _ h1 k2] at m8
  obtain ⟨rfl, rfl, _⟩ := ofRat_inj m7
  obtain ⟨rfl, rfl, _⟩ := ofRat_inj m8
  exact ⟨rfl, rfl⟩

theorem mul_assoc_law {a b c d e f s1 s2 t1 t2 l1 l2 r1 r2 : Int} (h1 : rOk a b = true) (h2 : rOk c d = true) (h3 : rOk e f = true)
    (m1 : rMul a b c d = ((s1, s2), 0)) (m3 : rMul c d e f = ((t1, t2), 0)) (m4 : rMul s1 s2 e f = ((l1, l2), 0)) (m5 : rMul a b t1 t2 = ((r1, r2), 0)) : l1 = r1 ∧ l2 = r2 := by
  obtain ⟨r, rfl, rfl, _, _⟩ := rOk_rat h1
  obtain ⟨s, rfl, rfl, _, _⟩ := rOk_rat h2
  obtain ⟨t, rfl, rfl, _, _⟩ := rOk_rat h3
  rw [rMul_rat r s h1 h2] at m1
  rw [rMul_rat s t h2 h3] at m3
  obtain ⟨rfl, rfl, k1⟩ := ofRat_inj m1
  obtain ⟨rfl, rfl, k2⟩ := ofRat_inj m3
  rw [rMul_rat _ t k1 h3, Rat.mul_assoc] at m4
  rw [rMul_rat r _ h1 k2] at m5
  obtain ⟨rfl, rfl, _⟩ := ofRat_inj m4
  obtain ⟨rfl, rfl, _⟩ := ofRat_inj m5
  exact ⟨rfl, rfl⟩

/-! Rounds. -/
theorem rounds_law (n d : Int) (h : rOk n d = true) : rFloor n d * d ≤ n ∧ n < (rFloor n d + 1) * d ∧ (d = 1 → rFloor n d = n ∧ rCeil n d = n) ∧ (d ≠ 1 → rCeil n d = rFloor n d + 1) := by
  have h' := h
  rw [rOk_iff] at h'
  obtain ⟨b1, b2, b3, b4, b5⟩ := h'
  have hf : rFloor n d = n / d := by simp [rFloor, h]
  have hc : rCeil n d = -(-n / d) := by simp [rCeil, h]
  rw [hf, hc]
  have e1 := Int.mul_ediv_add_emod n d
  have e2 := Int.emod_nonneg n (show d ≠ 0 by omega)
  have e3 := Int.emod_lt_of_pos n (show 0 < d by omega)
  refine ⟨?_, ?_, ?_, ?_⟩
  · rw [Int.mul_comm]; omega
  · rw [Int.add_mul, Int.mul_comm]; omega
  · rintro rfl; simp
  · intro hd
    have hnd : n % d ≠ 0 := by
      intro h0
      have hdv : d ∣ n := Int.dvd_of_emod_eq_zero h0
      have : d.natAbs ∣ Nat.gcd n.natAbs d.natAbs := Nat.dvd_gcd (Int.natAbs_dvd_natAbs.2 hdv) (Nat.dvd_refl _)
      rw [b5] at this
      have := Nat.le_of_dvd (by omega) this
      omega
    have e4 : -n = -(n / d + 1) * d + (d - n % d) := by
      have : -(n / d + 1) * d = -(d * (n / d)) - d := by rw [Int.neg_mul, Int.add_mul, Int.mul_comm d]; omega
      omega
    have e5 : -n / d = -(n / d + 1) := by
      rw [Int.ediv_eq_iff_of_pos (by omega)]
      omega
    omega
end Go.Proofs.Ytklibgaigfjneaa
