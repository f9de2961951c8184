/- RatioLaws returns true for every three ratios, and leaves its arguments alone: the walk. No conditions. -/
import Derived.Test.YtklibgaigfjneaaLawsE
import Derived.Test.YtklibgaigfjneaaPlain3
import Derived.Test.YtklibgaigfjneaaFrame
import Derived.Deep.Cut
namespace Go.Proofs.Ytklibgaigfjneaa
open Go.RowKit
set_option linter.unusedSimpArgs false
set_option linter.unusedVariables false

attribute [local go_sem] rRes
set_option maxRecDepth 100000

set_option maxHeartbeats 8000000 in
theorem laws_o (a b c d e f : Int) (ia : I64 a) (ib : I64 b) (ic : I64 c) (id : I64 d) (ie : I64 e) (if_ : I64 f) (w : World) (h1 : rOk a b = true) (h2 : rOk c d = true) (h3 : rOk e f = true)
    (s1 s2 k1 p1 p2 k2 t1 t2 k3 l1 l2 k4 r1 r2 k5 u1 u2 k6 v1 v2 k7 w1 w2 k8 x1 x2 k9 y1 y2 k10 z1 z2 k11 : Int)
    (m1 : rAdd a b c d = ((s1, s2), k1)) (m1' : rAdd c d a b = ((s1, s2), k1)) (m2 : rMul a b c d = ((p1, p2), k2)) (m2' : rMul c d a b = ((p1, p2), k2))
    (n1 : rAdd a b 0 1 = ((a, b), 0)) (n2 : rMul a b 1 1 = ((a, b), 0)) (n3 : rAdd a b (-a) b = ((0, 1), 0))
    (m3 : rAdd c d e f = ((t1, t2), k3)) (m4 : rAdd s1 s2 e f = ((l1, l2), k4)) (m5 : rAdd a b t1 t2 = ((r1, r2), k5))
    (m6 : rMul a b e f = ((u1, u2), k6)) (m7 : rAdd p1 p2 u1 u2 = ((v1, v2), k7)) (m8 : rMul a b t1 t2 = ((w1, w2), k8))
    (m9 : rMul p1 p2 e f = ((x1, x2), k9)) (m10 : rMul c d e f = ((y1, y2), k10)) (m11 : rMul a b y1 y2 = ((z1, z2), k11))
    (b1 : Lim s1 s2) (b2 : Lim p1 p2) (b3 : Lim t1 t2) (b6 : Lim u1 u2) (b10 : Lim y1 y2)
    (hdis : k2 = 0 → k3 = 0 → k6 = 0 → k7 = 0 → k8 = 0 → v1 = w1 ∧ v2 = w2) (hmul : k2 = 0 → k9 = 0 → k10 = 0 → k11 = 0 → x1 = z1 ∧ x2 = z2) (g1 : k1 = 0) (g3 : k3 = 0) (g4 : k4 = 0) (g5 : k5 ≠ 0) :
    Calls Try.prog 5 #[.agg #[.int .i64 a, .int .i64 b], .agg #[.int .i64 c, .int .i64 d], .agg #[.int .i64 e, .int .i64 f]] w fun e w' => e = .returned (.bool true) ∧ Exts w w' := by
  obtain ⟨a1, a2, a3, a4, _⟩ := (rOk_iff _ _).1 h1
  obtain ⟨c1, c2, c3, c4, _⟩ := (rOk_iff _ _).1 h2
  obtain ⟨e1, e2, e3, e4, _⟩ := (rOk_iff _ _).1 h3
  clear ia ib ic id ie if_
  obtain ⟨b11, b12, b13, b14⟩ := b1
  obtain ⟨b21, b22, b23, b24⟩ := b2
  obtain ⟨b31, b32, b33, b34⟩ := b3
  obtain ⟨b61, b62, b63, b64⟩ := b6
  obtain ⟨b101, b102, b103, b104⟩ := b10
  subst g1
  subst g3
  subst g4
  have g5b : (k5 == 0) = false := by simpa using g5
  go_enter Try.func5, Try.ntmps5
  go_upto_region 21 with (first | (go_at_call 8; refine (small_any _).mono ?_; rintro e w' ⟨rfl, x, rfl⟩) | (go_at_call 11; refine (refRight_any _ _ _ ⟨by omega, by omega⟩ ⟨by omega, by omega⟩).mono ?_; rintro e w' ⟨rfl, x, rfl⟩) | (go_at_call 15; refine (add_any _ _ _ _ _ ⟨by omega, by omega⟩ ⟨by omega, by omega⟩ ⟨by omega, by omega⟩ ⟨by omega, by omega⟩).mono ?_; rintro e w' ⟨rfl, x, rfl⟩) | (go_at_call 16; refine (mul_any _ _ _ _ _ ⟨by omega, by omega⟩ ⟨by omega, by omega⟩ ⟨by omega, by omega⟩ ⟨by omega, by omega⟩).mono ?_; rintro e w' ⟨rfl, x, rfl⟩))
  by_cases z2 : k2 = 0
  · have y2 : (k2 != 0) = false := by simpa using z2
    have x2 : (k2 == 0) = true := by simpa using z2
    by_cases z6 : k6 = 0
    · have x6 : (k6 == 0) = true := by simpa using z6
      by_cases z7 : k7 = 0
      · have x7 : (k7 == 0) = true := by simpa using z7
        by_cases z8 : k8 = 0
        · have x8 : (k8 == 0) = true := by simpa using z8
          obtain ⟨q3, q4⟩ := hdis z2 (by simp) z6 z7 z8
          go_upto_region 26 with (first | (go_at_call 8; refine (small_any _).mono ?_; rintro e w' ⟨rfl, x, rfl⟩) | (go_at_call 11; refine (refRight_any _ _ _ ⟨by omega, by omega⟩ ⟨by omega, by omega⟩).mono ?_; rintro e w' ⟨rfl, x, rfl⟩) | (go_at_call 15; refine (add_any _ _ _ _ _ ⟨by omega, by omega⟩ ⟨by omega, by omega⟩ ⟨by omega, by omega⟩ ⟨by omega, by omega⟩).mono ?_; rintro e w' ⟨rfl, x, rfl⟩) | (go_at_call 16; refine (mul_any _ _ _ _ _ ⟨by omega, by omega⟩ ⟨by omega, by omega⟩ ⟨by omega, by omega⟩ ⟨by omega, by omega⟩).mono ?_; rintro e w' ⟨rfl, x, rfl⟩))
          by_cases z9 : k9 = 0
          · have y9 : (k9 != 0) = false := by simpa using z9
            by_cases z10 : k10 = 0
            · have y10 : (k10 != 0) = false := by simpa using z10
              by_cases z11 : k11 = 0
              · have y11 : (k11 != 0) = false := by simpa using z11
                obtain ⟨q1, q2⟩ := hmul z2 z9 z10 z11
                go_wp2_with (first | (go_at_call 8; refine (small_any _).mono ?_; rintro e w' ⟨rfl, x, rfl⟩) | (go_at_call 11; refine (refRight_any _ _ _ ⟨by omega, by omega⟩ ⟨by omega, by omega⟩).mono ?_; rintro e w' ⟨rfl, x, rfl⟩) | (go_at_call 15; refine (add_any _ _ _ _ _ ⟨by omega, by omega⟩ ⟨by omega, by omega⟩ ⟨by omega, by omega⟩ ⟨by omega, by omega⟩).mono ?_; rintro e w' ⟨rfl, x, rfl⟩) | (go_at_call 16; refine (mul_any _ _ _ _ _ ⟨by omega, by omega⟩ ⟨by omega, by omega⟩ ⟨by omega, by omega⟩ ⟨by omega, by omega⟩).mono ?_; rintro e w' ⟨rfl, x, rfl⟩))
                go_ret
                exact ⟨rfl, (by repeat (first | exact Exts.refl _ | apply Exts.alloc | apply Exts.wext | apply Exts.drew | apply Exts.drewN))⟩
              · have y11 : (k11 != 0) = true := by simpa using z11
                go_wp2_with (first | (go_at_call 8; refine (small_any _).mono ?_; rintro e w' ⟨rfl, x, rfl⟩) | (go_at_call 11; refine (refRight_any _ _ _ ⟨by omega, by omega⟩ ⟨by omega, by omega⟩).mono ?_; rintro e w' ⟨rfl, x, rfl⟩) | (go_at_call 15; refine (add_any _ _ _ _ _ ⟨by omega, by omega⟩ ⟨by omega, by omega⟩ ⟨by omega, by omega⟩ ⟨by omega, by omega⟩).mono ?_; rintro e w' ⟨rfl, x, rfl⟩) | (go_at_call 16; refine (mul_any _ _ _ _ _ ⟨by omega, by omega⟩ ⟨by omega, by omega⟩ ⟨by omega, by omega⟩ ⟨by omega, by omega⟩).mono ?_; rintro e w' ⟨rfl, x, rfl⟩))
                go_ret
                exact ⟨rfl, (by repeat (first | exact Exts.refl _ | apply Exts.alloc | apply Exts.wext | apply Exts.drew | apply Exts.drewN))⟩
            · have y10 : (k10 != 0) = true := by simpa using z10
              go_wp2_with (first | (go_at_call 8; refine (small_any _).mono ?_; rintro e w' ⟨rfl, x, rfl⟩) | (go_at_call 11; refine (refRight_any _ _ _ ⟨by omega, by omega⟩ ⟨by omega, by omega⟩).mono ?_; rintro e w' ⟨rfl, x, rfl⟩) | (go_at_call 15; refine (add_any _ _ _ _ _ ⟨by omega, by omega⟩ ⟨by omega, by omega⟩ ⟨by omega, by omega⟩ ⟨by omega, by omega⟩).mono ?_; rintro e w' ⟨rfl, x, rfl⟩) | (go_at_call 16; refine (mul_any _ _ _ _ _ ⟨by omega, by omega⟩ ⟨by omega, by omega⟩ ⟨by omega, by omega⟩ ⟨by omega, by omega⟩).mono ?_; rintro e w' ⟨rfl, x, rfl⟩))
              go_ret
              exact ⟨rfl, (by repeat (first | exact Exts.refl _ | apply Exts.alloc | apply Exts.wext | apply Exts.drew | apply Exts.drewN))⟩
          · have y9 : (k9 != 0) = true := by simpa using z9
            go_wp2_with (first | (go_at_call 8; refine (small_any _).mono ?_; rintro e w' ⟨rfl, x, rfl⟩) | (go_at_call 11; refine (refRight_any _ _ _ ⟨by omega, by omega⟩ ⟨by omega, by omega⟩).mono ?_; rintro e w' ⟨rfl, x, rfl⟩) | (go_at_call 15; refine (add_any _ _ _ _ _ ⟨by omega, by omega⟩ ⟨by omega, by omega⟩ ⟨by omega, by omega⟩ ⟨by omega, by omega⟩).mono ?_; rintro e w' ⟨rfl, x, rfl⟩) | (go_at_call 16; refine (mul_any _ _ _ _ _ ⟨by omega, by omega⟩ ⟨by omega, by omega⟩ ⟨by omega, by omega⟩ ⟨by omega, by omega⟩).mono ?_; rintro e w' ⟨rfl, x, rfl⟩))
            go_ret
            exact ⟨rfl, (by repeat (first | exact Exts.refl _ | apply Exts.alloc | apply Exts.wext | apply Exts.drew | apply Exts.drewN))⟩
        · have x8 : (k8 == 0) = false := by simpa using z8
          go_upto_region 26 with (first | (go_at_call 8; refine (small_any _).mono ?_; rintro e w' ⟨rfl, x, rfl⟩) | (go_at_call 11; refine (refRight_any _ _ _ ⟨by omega, by omega⟩ ⟨by omega, by omega⟩).mono ?_; rintro e w' ⟨rfl, x, rfl⟩) | (go_at_call 15; refine (add_any _ _ _ _ _ ⟨by omega, by omega⟩ ⟨by omega, by omega⟩ ⟨by omega, by omega⟩ ⟨by omega, by omega⟩).mono ?_; rintro e w' ⟨rfl, x, rfl⟩) | (go_at_call 16; refine (mul_any _ _ _ _ _ ⟨by omega, by omega⟩ ⟨by omega, by omega⟩ ⟨by omega, by omega⟩ ⟨by omega, by omega⟩).mono ?_; rintro e w' ⟨rfl, x, rfl⟩))
          by_cases z9 : k9 = 0
          · have y9 : (k9 != 0) = false := by simpa using z9
            by_cases z10 : k10 = 0
            · have y10 : (k10 != 0) = false := by simpa using z10
              by_cases z11 : k11 = 0
              · have y11 : (k11 != 0) = false := by simpa using z11
                obtain ⟨q1, q2⟩ := hmul z2 z9 z10 z11
                go_wp2_with (first | (go_at_call 8; refine (small_any _).mono ?_; rintro e w' ⟨rfl, x, rfl⟩) | (go_at_call 11; refine (refRight_any _ _ _ ⟨by omega, by omega⟩ ⟨by omega, by omega⟩).mono ?_; rintro e w' ⟨rfl, x, rfl⟩) | (go_at_call 15; refine (add_any _ _ _ _ _ ⟨by omega, by omega⟩ ⟨by omega, by omega⟩ ⟨by omega, by omega⟩ ⟨by omega, by omega⟩).mono ?_; rintro e w' ⟨rfl, x, rfl⟩) | (go_at_call 16; refine (mul_any _ _ _ _ _ ⟨by omega, by omega⟩ ⟨by omega, by omega⟩ ⟨by omega, by omega⟩ ⟨by omega, by omega⟩).mono ?_; rintro e w' ⟨rfl, x, rfl⟩))
                go_ret
                exact ⟨rfl, (by repeat (first | exact Exts.refl _ | apply Exts.alloc | apply Exts.wext | apply Exts.drew | apply Exts.drewN))⟩
              · have y11 : (k11 != 0) = true := by simpa using z11
                go_wp2_with (first | (go_at_call 8; refine (small_any _).mono ?_; rintro e w' ⟨rfl, x, rfl⟩) | (go_at_call 11; refine (refRight_any _ _ _ ⟨by omega, by omega⟩ ⟨by omega, by omega⟩).mono ?_; rintro e w' ⟨rfl, x, rfl⟩) | (go_at_call 15; refine (add_any _ _ _ _ _ ⟨by omega, by omega⟩ ⟨by omega, by omega⟩ ⟨by omega, by omega⟩ ⟨by omega, by omega⟩).mono ?_; rintro e w' ⟨rfl, x, rfl⟩) | (go_at_call 16; refine (mul_any _ _ _ _ _ ⟨by omega, by omega⟩ ⟨by omega, by omega⟩ ⟨by omega, by omega⟩ ⟨by omega, by omega⟩).mono ?_; rintro e w' ⟨rfl, x, rfl⟩))
                go_ret
                exact ⟨rfl, (by repeat (first | exact Exts.refl _ | apply Exts.alloc | apply Exts.wext | apply Exts.drew | apply Exts.drewN))⟩
            · have y10 : (k10 != 0) = true := by simpa using z10
              go_wp2_with (first | (go_at_call 8; refine (small_any _).mono ?_; rintro e w' ⟨rfl, x, rfl⟩) | (go_at_call 11; refine (refRight_any _ _ _ ⟨by omega, by omega⟩ ⟨by omega, by omega⟩).mono ?_; rintro e w' ⟨rfl, x, rfl⟩) | (go_at_call 15; refine (add_any _ _ _ _ _ ⟨by omega, by omega⟩ ⟨by omega, by omega⟩ ⟨by omega, by omega⟩ ⟨by omega, by omega⟩).mono ?_; rintro e w' ⟨rfl, x, rfl⟩) | (go_at_call 16; refine (mul_any _ _ _ _ _ ⟨by omega, by omega⟩ ⟨by omega, by omega⟩ ⟨by omega, by omega⟩ ⟨by omega, by omega⟩).mono ?_; rintro e w' ⟨rfl, x, rfl⟩))
              go_ret
              exact ⟨rfl, (by repeat (first | exact Exts.refl _ | apply Exts.alloc | apply Exts.wext | apply Exts.drew | apply Exts.drewN))⟩
          · have y9 : (k9 != 0) = true := by simpa using z9
            go_wp2_with (first | (go_at_call 8; refine (small_any _).mono ?_; rintro e w' ⟨rfl, x, rfl⟩) | (go_at_call 11; refine (refRight_any _ _ _ ⟨by omega, by omega⟩ ⟨by omega, by omega⟩).mono ?_; rintro e w' ⟨rfl, x, rfl⟩) | (go_at_call 15; refine (add_any _ _ _ _ _ ⟨by omega, by omega⟩ ⟨by omega, by omega⟩ ⟨by omega, by omega⟩ ⟨by omega, by omega⟩).mono ?_; rintro e w' ⟨rfl, x, rfl⟩) | (go_at_call 16; refine (mul_any _ _ _ _ _ ⟨by omega, by omega⟩ ⟨by omega, by omega⟩ ⟨by omega, by omega⟩ ⟨by omega, by omega⟩).mono ?_; rintro e w' ⟨rfl, x, rfl⟩))
            go_ret
            exact ⟨rfl, (by repeat (first | exact Exts.refl _ | apply Exts.alloc | apply Exts.wext | apply Exts.drew | apply Exts.drewN))⟩
      · have x7 : (k7 == 0) = false := by simpa using z7
        go_upto_region 26 with (first | (go_at_call 8; refine (small_any _).mono ?_; rintro e w' ⟨rfl, x, rfl⟩) | (go_at_call 11; refine (refRight_any _ _ _ ⟨by omega, by omega⟩ ⟨by omega, by omega⟩).mono ?_; rintro e w' ⟨rfl, x, rfl⟩) | (go_at_call 15; refine (add_any _ _ _ _ _ ⟨by omega, by omega⟩ ⟨by omega, by omega⟩ ⟨by omega, by omega⟩ ⟨by omega, by omega⟩).mono ?_; rintro e w' ⟨rfl, x, rfl⟩) | (go_at_call 16; refine (mul_any _ _ _ _ _ ⟨by omega, by omega⟩ ⟨by omega, by omega⟩ ⟨by omega, by omega⟩ ⟨by omega, by omega⟩).mono ?_; rintro e w' ⟨rfl, x, rfl⟩))
        by_cases z9 : k9 = 0
        · have y9 : (k9 != 0) = false := by simpa using z9
          by_cases z10 : k10 = 0
          · have y10 : (k10 != 0) = false := by simpa using z10
            by_cases z11 : k11 = 0
            · have y11 : (k11 != 0) = false := by simpa using z11
              obtain ⟨q1, q2⟩ := hmul z2 z9 z10 z11
              go_wp2_with (first | (go_at_call 8; refine (small_any _).mono ?_; rintro e w' ⟨rfl, x, rfl⟩) | (go_at_call 11; refine (refRight_any _ _ _ ⟨by omega, by omega⟩ ⟨by omega, by omega⟩).mono ?_; rintro e w' ⟨rfl, x, rfl⟩) | (go_at_call 15; refine (add_any _ _ _ _ _ ⟨by omega, by omega⟩ ⟨by omega, by omega⟩ ⟨by omega, by omega⟩ ⟨by omega, by omega⟩).mono ?_; rintro e w' ⟨rfl, x, rfl⟩) | (go_at_call 16; refine (mul_any _ _ _ _ _ ⟨by omega, by omega⟩ ⟨by omega, by omega⟩ ⟨by omega, by omega⟩ ⟨by omega, by omega⟩).mono ?_; rintro e w' ⟨rfl, x, rfl⟩))
              go_ret
              exact ⟨rfl, (by repeat (first | exact Exts.refl _ | apply Exts.alloc | apply Exts.wext | apply Exts.drew | apply Exts.drewN))⟩
            · have y11 : (k11 != 0) = true := by simpa using z11
              go_wp2_with (first | (go_at_call 8; refine (small_any _).mono ?_; rintro e w' ⟨rfl, x, rfl⟩) | (go_at_call 11; refine (refRight_any _ _ _ ⟨by omega, by omega⟩ ⟨by omega, by omega⟩).mono ?_; rintro e w' ⟨rfl, x, rfl⟩) | (go_at_call 15; refine (add_any _ _ _ _ _ ⟨by omega, by omega⟩ ⟨by omega, by omega⟩ ⟨by omega, by omega⟩ ⟨by omega, by omega⟩).mono ?_; rintro e w' ⟨rfl, x, rfl⟩) | (go_at_call 16; refine (mul_any _ _ _ _ _ ⟨by omega, by omega⟩ ⟨by omega, by omega⟩ ⟨by omega, by omega⟩ ⟨by omega, by omega⟩).mono ?_; rintro e w' ⟨rfl, x, rfl⟩))
              go_ret
              exact ⟨rfl, (by repeat (first | exact Exts.refl _ | apply Exts.alloc | apply Exts.wext | apply Exts.drew | apply Exts.drewN))⟩
          · have y10 : (k10 != 0) = true := by simpa using z10
            go_wp2_with (first | (go_at_call 8; refine (small_any _).mono ?_; rintro e w' ⟨rfl, x, rfl⟩) | (go_at_call 11; refine (refRight_any _ _ _ ⟨by omega, by omega⟩ ⟨by omega, by omega⟩).mono ?_; rintro e w' ⟨rfl, x, rfl⟩) | (go_at_call 15; refine (add_any _ _ _ _ _ ⟨by omega, by omega⟩ ⟨by omega, by omega⟩ ⟨by omega, by omega⟩ ⟨by omega, by omega⟩).mono ?_; rintro e w' ⟨rfl, x, rfl⟩) | (go_at_call 16; refine (mul_any _ _ _ _ _ ⟨by omega, by omega⟩ ⟨by omega, by omega⟩ ⟨by omega, by omega⟩ ⟨by omega, by omega⟩).mono ?_; rintro e w' ⟨rfl, x, rfl⟩))
            go_ret
            exact ⟨rfl, (by repeat (first | exact Exts.refl _ | apply Exts.alloc | apply Exts.wext | apply Exts.drew | apply Exts.drewN))⟩
        · have y9 : (k9 != 0) = true := by simpa using z9
          go_wp2_with (first | (go_at_call 8; refine (small_any _).mono ?_; rintro e w' ⟨rfl, x, rfl⟩) | (go_at_call 11; refine (refRight_any _ _ _ ⟨by omega, by omega⟩ ⟨by omega, by omega⟩).mono ?_; rintro e w' ⟨rfl, x, rfl⟩) | (go_at_call 15; refine (add_any _ _ _ _ _ ⟨by omega, by omega⟩ ⟨by omega, by omega⟩ ⟨by omega, by omega⟩ ⟨by omega, by omega⟩).mono ?_; rintro e w' ⟨rfl, x, rfl⟩) | (go_at_call 16; refine (mul_any _ _ _ _ _ ⟨by omega, by omega⟩ ⟨by omega, by omega⟩ ⟨by omega, by omega⟩ ⟨by omega, by omega⟩).mono ?_; rintro e w' ⟨rfl, x, rfl⟩))
          go_ret
          exact ⟨rfl, (by repeat (first | exact Exts.refl _ | apply Exts.alloc | apply Exts.wext | apply Exts.drew | apply Exts.drewN))⟩
    · have x6 : (k6 == 0) = false := by simpa using z6
      go_upto_region 26 with (first | (go_at_call 8; refine (small_any _).mono ?_; rintro e w' ⟨rfl, x, rfl⟩) | (go_at_call 11; refine (refRight_any _ _ _ ⟨by omega, by omega⟩ ⟨by omega, by omega⟩).mono ?_; rintro e w' ⟨rfl, x, rfl⟩) | (go_at_call 15; refine (add_any _ _ _ _ _ ⟨by omega, by omega⟩ ⟨by omega, by omega⟩ ⟨by omega, by omega⟩ ⟨by omega, by omega⟩).mono ?_; rintro e w' ⟨rfl, x, rfl⟩) | (go_at_call 16; refine (mul_any _ _ _ _ _ ⟨by omega, by omega⟩ ⟨by omega, by omega⟩ ⟨by omega, by omega⟩ ⟨by omega, by omega⟩).mono ?_; rintro e w' ⟨rfl, x, rfl⟩))
      by_cases z9 : k9 = 0
      · have y9 : (k9 != 0) = false := by simpa using z9
        by_cases z10 : k10 = 0
        · have y10 : (k10 != 0) = false := by simpa using z10
          by_cases z11 : k11 = 0
          · have y11 : (k11 != 0) = false := by simpa using z11
            obtain ⟨q1, q2⟩ := hmul z2 z9 z10 z11
            go_wp2_with (first | (go_at_call 8; refine (small_any _).mono ?_; rintro e w' ⟨rfl, x, rfl⟩) | (go_at_call 11; refine (refRight_any _ _ _ ⟨by omega, by omega⟩ ⟨by omega, by omega⟩).mono ?_; rintro e w' ⟨rfl, x, rfl⟩) | (go_at_call 15; refine (add_any _ _ _ _ _ ⟨by omega, by omega⟩ ⟨by omega, by omega⟩ ⟨by omega, by omega⟩ ⟨by omega, by omega⟩).mono ?_; rintro e w' ⟨rfl, x, rfl⟩) | (go_at_call 16; refine (mul_any _ _ _ _ _ ⟨by omega, by omega⟩ ⟨by omega, by omega⟩ ⟨by omega, by omega⟩ ⟨by omega, by omega⟩).mono ?_; rintro e w' ⟨rfl, x, rfl⟩))
            go_ret
            exact ⟨rfl, (by repeat (first | exact Exts.refl _ | apply Exts.alloc | apply Exts.wext | apply Exts.drew | apply Exts.drewN))⟩
          · have y11 : (k11 != 0) = true := by simpa using z11
            go_wp2_with (first | (go_at_call 8; refine (small_any _).mono ?_; rintro e w' ⟨rfl, x, rfl⟩) | (go_at_call 11; refine (refRight_any _ _ _ ⟨by omega, by omega⟩ ⟨by omega, by omega⟩).mono ?_; rintro e w' ⟨rfl, x, rfl⟩) | (go_at_call 15; refine (add_any _ _ _ _ _ ⟨by omega, by omega⟩ ⟨by omega, by omega⟩ ⟨by omega, by omega⟩ ⟨by omega, by omega⟩).mono ?_; rintro e w' ⟨rfl, x, rfl⟩) | (go_at_call 16; refine (mul_any _ _ _ _ _ ⟨by omega, by omega⟩ ⟨by omega, by omega⟩ ⟨by omega, by omega⟩ ⟨by omega, by omega⟩).mono ?_; rintro e w' ⟨rfl, x, rfl⟩))
            go_ret
            exact ⟨rfl, (by repeat (first | exact Exts.refl _ | apply Exts.alloc | apply Exts.wext | apply Exts.drew | apply Exts.drewN))⟩
        · have y10 : (k10 != 0) = true := by simpa using z10
          go_wp2_with (first | (go_at_call 8; refine (small_any _).mono ?_; rintro e w' ⟨rfl, x, rfl⟩) | (go_at_call 11; refine (refRight_any _ _ _ ⟨by omega, by omega⟩ ⟨by omega, by omega⟩).mono ?_; rintro e w' ⟨rfl, x, rfl⟩) | (go_at_call 15; refine (add_any _ _ _ _ _ ⟨by omega, by omega⟩ ⟨by omega, by omega⟩ ⟨by omega, by omega⟩ ⟨by omega, by omega⟩).mono ?_; rintro e w' ⟨rfl, x, rfl⟩) | (go_at_call 16; refine (mul_any _ _ _ _ _ ⟨by omega, by omega⟩ ⟨by omega, by omega⟩ ⟨by omega, by omega⟩ ⟨by omega, by omega⟩).mono ?_; rintro e w' ⟨rfl, x, rfl⟩))
          go_ret
          exact ⟨rfl, (by repeat (first | exact Exts.refl _ | apply Exts.alloc | apply Exts.wext | apply Exts.drew | apply Exts.drewN))⟩
      · have y9 : (k9 != 0) = true := by simpa using z9
        go_wp2_with (first | (go_at_call 8; refine (small_any _).mono ?_; rintro e w' ⟨rfl, x, rfl⟩) | (go_at_call 11; refine (refRight_any _ _ _ ⟨by omega, by omega⟩ ⟨by omega, by omega⟩).mono ?_; rintro e w' ⟨rfl, x, rfl⟩) | (go_at_call 15; refine (add_any _ _ _ _ _ ⟨by omega, by omega⟩ ⟨by omega, by omega⟩ ⟨by omega, by omega⟩ ⟨by omega, by omega⟩).mono ?_; rintro e w' ⟨rfl, x, rfl⟩) | (go_at_call 16; refine (mul_any _ _ _ _ _ ⟨by omega, by omega⟩ ⟨by omega, by omega⟩ ⟨by omega, by omega⟩ ⟨by omega, by omega⟩).mono ?_; rintro e w' ⟨rfl, x, rfl⟩))
        go_ret
        exact ⟨rfl, (by repeat (first | exact Exts.refl _ | apply Exts.alloc | apply Exts.wext | apply Exts.drew | apply Exts.drewN))⟩
  · have y2 : (k2 != 0) = true := by simpa using z2
    have x2 : (k2 == 0) = false := by simpa using z2
    go_wp2_with (first | (go_at_call 8; refine (small_any _).mono ?_; rintro e w' ⟨rfl, x, rfl⟩) | (go_at_call 11; refine (refRight_any _ _ _ ⟨by omega, by omega⟩ ⟨by omega, by omega⟩).mono ?_; rintro e w' ⟨rfl, x, rfl⟩) | (go_at_call 15; refine (add_any _ _ _ _ _ ⟨by omega, by omega⟩ ⟨by omega, by omega⟩ ⟨by omega, by omega⟩ ⟨by omega, by omega⟩).mono ?_; rintro e w' ⟨rfl, x, rfl⟩) | (go_at_call 16; refine (mul_any _ _ _ _ _ ⟨by omega, by omega⟩ ⟨by omega, by omega⟩ ⟨by omega, by omega⟩ ⟨by omega, by omega⟩).mono ?_; rintro e w' ⟨rfl, x, rfl⟩))
    go_ret
    exact ⟨rfl, (by repeat (first | exact Exts.refl _ | apply Exts.alloc | apply Exts.wext | apply Exts.drew | apply Exts.drewN))⟩
end Go.Proofs.Ytklibgaigfjneaa
