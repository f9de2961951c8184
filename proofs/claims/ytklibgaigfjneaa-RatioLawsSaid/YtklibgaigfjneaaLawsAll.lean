/- RatioLaws returns true for every three ratios: the ways joined. No conditions. -/
import Derived.Test.YtklibgaigfjneaaLawsM
import Derived.Test.YtklibgaigfjneaaLawsN
import Derived.Test.YtklibgaigfjneaaLawsO
import Derived.Test.YtklibgaigfjneaaLawsZ
namespace Go.Proofs.Ytklibgaigfjneaa
open Go.RowKit
set_option linter.unusedVariables false

theorem rAdd_Lim (a b c d : Int) : Lim (rAdd a b c d).1.1 (rAdd a b c d).1.2 := rAdd_lim a b c d
theorem rMul_Lim (a b c d : Int) : Lim (rMul a b c d).1.1 (rMul a b c d).1.2 := rMul_lim a b c d

theorem laws_walk (a b c d e f : Int) (ia : I64 a) (ib : I64 b) (ic : I64 c) (id : I64 d) (ie : I64 e) (if_ : I64 f) (w : World) :
    Calls Try.prog 5 #[.agg #[.int .i64 a, .int .i64 b], .agg #[.int .i64 c, .int .i64 d], .agg #[.int .i64 e, .int .i64 f]] w fun e w' => e = .returned (.bool true) ∧ Exts w w' := by
  by_cases h : rOk a b = true ∧ rOk c d = true ∧ rOk e f = true
  · obtain ⟨h1, h2, h3⟩ := h
    obtain ⟨⟨⟨s1, s2⟩, k1⟩, m1⟩ : ∃ r, rAdd a b c d = r := ⟨_, rfl⟩
    obtain ⟨⟨⟨p1, p2⟩, k2⟩, m2⟩ : ∃ r, rMul a b c d = r := ⟨_, rfl⟩
    obtain ⟨⟨⟨t1, t2⟩, k3⟩, m3⟩ : ∃ r, rAdd c d e f = r := ⟨_, rfl⟩
    obtain ⟨⟨⟨l1, l2⟩, k4⟩, m4⟩ : ∃ r, rAdd s1 s2 e f = r := ⟨_, rfl⟩
    obtain ⟨⟨⟨r1, r2⟩, k5⟩, m5⟩ : ∃ r, rAdd a b t1 t2 = r := ⟨_, rfl⟩
    obtain ⟨⟨⟨u1, u2⟩, k6⟩, m6⟩ : ∃ r, rMul a b e f = r := ⟨_, rfl⟩
    obtain ⟨⟨⟨v1, v2⟩, k7⟩, m7⟩ : ∃ r, rAdd p1 p2 u1 u2 = r := ⟨_, rfl⟩
    obtain ⟨⟨⟨w1, w2⟩, k8⟩, m8⟩ : ∃ r, rMul a b t1 t2 = r := ⟨_, rfl⟩
    obtain ⟨⟨⟨x1, x2⟩, k9⟩, m9⟩ : ∃ r, rMul p1 p2 e f = r := ⟨_, rfl⟩
    obtain ⟨⟨⟨y1, y2⟩, k10⟩, m10⟩ : ∃ r, rMul c d e f = r := ⟨_, rfl⟩
    obtain ⟨⟨⟨z1, z2⟩, k11⟩, m11⟩ : ∃ r, rMul a b y1 y2 = r := ⟨_, rfl⟩
    have b1 := rAdd_Lim a b c d
    have b2 := rMul_Lim a b c d
    have b3 := rAdd_Lim c d e f
    have b6 := rMul_Lim a b e f
    have b10 := rMul_Lim c d e f
    rw [m1] at b1
    rw [m2] at b2
    rw [m3] at b3
    rw [m6] at b6
    rw [m10] at b10
    have m1' := (rAdd_comm c d a b).trans m1
    have m2' := (rMul_comm c d a b).trans m2
    have n1 := rAdd_zero a b h1
    have n2 := rMul_one a b h1
    have n3 := rAdd_opp a b h1
    have hdis : k2 = 0 → k3 = 0 → k6 = 0 → k7 = 0 → k8 = 0 → v1 = w1 ∧ v2 = w2 := fun e2 e3 e6 e7 e8 => distr_law h1 h2 h3 (by rw [m2, e2]) (by rw [m3, e3]) (by rw [m6, e6]) (by rw [m7, e7]) (by rw [m8, e8])
    have hmul : k2 = 0 → k9 = 0 → k10 = 0 → k11 = 0 → x1 = z1 ∧ x2 = z2 := fun e2 e9 e10 e11 => mul_assoc_law h1 h2 h3 (by rw [m2, e2]) (by rw [m10, e10]) (by rw [m9, e9]) (by rw [m11, e11])
    by_cases g1 : k1 = 0
    · by_cases g3 : k3 = 0
      · by_cases g4 : k4 = 0
        · by_cases g5 : k5 = 0
          · obtain ⟨g6, g7⟩ := add_assoc_law h1 h2 h3 (show rAdd a b c d = ((s1, s2), 0) by rw [m1, g1]) (by rw [m3, g3]) (by rw [m4, g4]) (by rw [m5, g5])
            exact laws_z a b c d e f ia ib ic id ie if_ w h1 h2 h3 s1 s2 k1 p1 p2 k2 t1 t2 k3 l1 l2 k4 r1 r2 k5 u1 u2 k6 v1 v2 k7 w1 w2 k8 x1 x2 k9 y1 y2 k10 z1 z2 k11 m1 m1' m2 m2' n1 n2 n3 m3 m4 m5 m6 m7 m8 m9 m10 m11 b1 b2 b3 b6 b10 hdis hmul g1 g3 g4 g5 g6 g7
          · exact laws_o a b c d e f ia ib ic id ie if_ w h1 h2 h3 s1 s2 k1 p1 p2 k2 t1 t2 k3 l1 l2 k4 r1 r2 k5 u1 u2 k6 v1 v2 k7 w1 w2 k8 x1 x2 k9 y1 y2 k10 z1 z2 k11 m1 m1' m2 m2' n1 n2 n3 m3 m4 m5 m6 m7 m8 m9 m10 m11 b1 b2 b3 b6 b10 hdis hmul g1 g3 g4 g5
        · exact laws_n a b c d e f ia ib ic id ie if_ w h1 h2 h3 s1 s2 k1 p1 p2 k2 t1 t2 k3 l1 l2 k4 r1 r2 k5 u1 u2 k6 v1 v2 k7 w1 w2 k8 x1 x2 k9 y1 y2 k10 z1 z2 k11 m1 m1' m2 m2' n1 n2 n3 m3 m4 m5 m6 m7 m8 m9 m10 m11 b1 b2 b3 b6 b10 hdis hmul g1 g3 g4
      · exact laws_m a b c d e f ia ib ic id ie if_ w h1 h2 h3 s1 s2 k1 p1 p2 k2 t1 t2 k3 l1 l2 k4 r1 r2 k5 u1 u2 k6 v1 v2 k7 w1 w2 k8 x1 x2 k9 y1 y2 k10 z1 z2 k11 m1 m1' m2 m2' n1 n2 n3 m3 m4 m5 m6 m7 m8 m9 m10 m11 b1 b2 b3 b6 b10 hdis hmul g1 g3
    · exact laws_e a b c d e f ia ib ic id ie if_ w h1 h2 h3 s1 s2 k1 p1 p2 k2 t1 t2 k3 l1 l2 k4 r1 r2 k5 u1 u2 k6 v1 v2 k7 w1 w2 k8 x1 x2 k9 y1 y2 k10 z1 z2 k11 m1 m1' m2 m2' n1 n2 n3 m3 m4 m5 m6 m7 m8 m9 m10 m11 b1 b2 b3 b6 b10 hdis hmul g1
  · exact laws_no a b c d e f ia ib ic id ie if_ w h
end Go.Proofs.Ytklibgaigfjneaa
