/- RatioSums returns true for every list of ratios, and leaves its argument alone: the walk. No conditions. -/
import Derived.Test.YtklibgaigfjneaaSmall
import Derived.Test.YtklibgaigfjneaaPlainS
import Derived.Test.YtklibgaigfjneaaFrame
import Derived.Deep.RegionHeld3
namespace Go.Proofs.Ytklibgaigfjneaa
open Go.RowKit
set_option linter.unusedSimpArgs false
set_option linter.unusedVariables false

attribute [local go_sem] rRes
set_option maxRecDepth 100000
set_option maxHeartbeats 4000000 in
theorem sums_nil (w : World) (cap : Nat) (ao : Option Addr) :
    Calls Try.prog 7 #[.slice ao 0 cap] w fun e w' => e = .returned (.bool true) ∧ Exts w w' := by
  go_enter Try.func7, Try.ntmps7
  go_wp2_with (first | (go_at_call 8; refine (small_any _).mono ?_; rintro e w' ⟨rfl, x0, rfl⟩) | (go_at_call 11; refine (refRight_any _ _ _ ⟨by omega, by omega⟩ ⟨by omega, by omega⟩).mono ?_; rintro e w' ⟨rfl, x, rfl⟩) | (go_at_call 15; refine (add_any _ _ _ _ _ ⟨by omega, by omega⟩ ⟨by omega, by omega⟩ ⟨by omega, by omega⟩ ⟨by omega, by omega⟩).mono ?_; rintro e w' ⟨rfl, x, rfl⟩))
  refine wp_loop_rounds 1 ?_; rw [rounds_succ]
  go_wp2_with (first | (go_at_call 8; refine (small_any _).mono ?_; rintro e w' ⟨rfl, x0, rfl⟩) | (go_at_call 11; refine (refRight_any _ _ _ ⟨by omega, by omega⟩ ⟨by omega, by omega⟩).mono ?_; rintro e w' ⟨rfl, x, rfl⟩) | (go_at_call 15; refine (add_any _ _ _ _ _ ⟨by omega, by omega⟩ ⟨by omega, by omega⟩ ⟨by omega, by omega⟩ ⟨by omega, by omega⟩).mono ?_; rintro e w' ⟨rfl, x, rfl⟩))
  refine wp_loop_rounds 1 ?_; rw [rounds_succ]
  go_wp2_with (first | (go_at_call 8; refine (small_any _).mono ?_; rintro e w' ⟨rfl, x0, rfl⟩) | (go_at_call 11; refine (refRight_any _ _ _ ⟨by omega, by omega⟩ ⟨by omega, by omega⟩).mono ?_; rintro e w' ⟨rfl, x, rfl⟩) | (go_at_call 15; refine (add_any _ _ _ _ _ ⟨by omega, by omega⟩ ⟨by omega, by omega⟩ ⟨by omega, by omega⟩ ⟨by omega, by omega⟩).mono ?_; rintro e w' ⟨rfl, x, rfl⟩))
  go_ret
  exact ⟨rfl, (by repeat (first | exact Exts.refl _ | apply Exts.alloc | apply Exts.wext | apply Exts.drew | apply Exts.drewN))⟩

set_option maxHeartbeats 4000000 in
theorem sums_walk (b off len cap : Nat) (N D : Nat → Int) (w : World) (hlen : 1 ≤ len) (hm : len ≤ 9223372036854775807) (hb : b < w.heap.size)
    (hN : ∀ k, I64 (N k)) (hD : ∀ k, I64 (D k))
    (h0 : ∀ k, k < len → w.cell? ⟨b, off + k * 2, none⟩ = some (.int .i64 (N k))) (h1 : ∀ k, k < len → w.cell? ⟨b, off + k * 2 + 1, none⟩ = some (.int .i64 (D k))) :
    Calls Try.prog 7 #[.slice (some ⟨b, off, none⟩) len cap] w fun e w' => e = .returned (.bool true) ∧ Exts w w' := by
  by_cases hl : 8 < len
  · clear h0 h1
    go_enter Try.func7, Try.ntmps7
    go_wp2_with (first | (go_at_call 8; refine (small_any _).mono ?_; rintro e w' ⟨rfl, x0, rfl⟩) | (go_at_call 11; refine (refRight_any _ _ _ ⟨by omega, by omega⟩ ⟨by omega, by omega⟩).mono ?_; rintro e w' ⟨rfl, x, rfl⟩) | (go_at_call 15; refine (add_any _ _ _ _ _ ⟨by omega, by omega⟩ ⟨by omega, by omega⟩ ⟨by omega, by omega⟩ ⟨by omega, by omega⟩).mono ?_; rintro e w' ⟨rfl, x, rfl⟩))
    go_ret
    exact ⟨rfl, (by repeat (first | exact Exts.refl _ | apply Exts.alloc | apply Exts.wext | apply Exts.drew | apply Exts.drewN))⟩
  go_enter Try.func7, Try.ntmps7
  go_wp2_with (first | (go_at_call 8; refine (small_any _).mono ?_; rintro e w' ⟨rfl, x0, rfl⟩) | (go_at_call 11; refine (refRight_any _ _ _ ⟨by omega, by omega⟩ ⟨by omega, by omega⟩).mono ?_; rintro e w' ⟨rfl, x, rfl⟩) | (go_at_call 15; refine (add_any _ _ _ _ _ ⟨by omega, by omega⟩ ⟨by omega, by omega⟩ ⟨by omega, by omega⟩ ⟨by omega, by omega⟩).mono ?_; rintro e w' ⟨rfl, x, rfl⟩))
  go_loopw [4, 7] (fun t i wr => ∃ k : Nat, k ≤ len ∧ i = .int .i64 k ∧ t = .int .i64 (msum (fun j => term (N j) (D j)) k) ∧ (∀ j, j < k → rOk (N j) (D j) = true ∧ D j ≤ 16 ∧ -100 ≤ N j ∧ N j ≤ 100) ∧ ∃ x, wr = wext (((wext w x0).alloc (.cells #[.int .i64 0, .int .i64 1] 24)).alloc (.cells #[.int .i64 0, .int .i64 1] 24)) x) (fun _ i _ => len - (intOf i).toNat)
  case atStart => exact ⟨0, by omega, rfl, rfl, fun j hj => by omega, ⟨⟨#[], _⟩, (wext_self _).symm⟩⟩
  case round =>
    obtain ⟨k, hk, rfl, rfl, hall, y0, rfl⟩ := hrel
    have Hall := Lib.hid hall
    clear hall
    by_cases hlt : k < len
    · have c0 := h0 k hlt
      have c1 := h1 k hlt
      obtain ⟨n, hn⟩ : ∃ n, N k = n := ⟨_, rfl⟩
      obtain ⟨d, hd⟩ : ∃ d, D k = d := ⟨_, rfl⟩
      rw [hn] at c0
      rw [hd] at c1
      clear h0 h1
      have nb := hN k
      have db := hD k
      rw [hn] at nb
      rw [hd] at db
      obtain ⟨n1, n2⟩ := nb
      obtain ⟨d1, d2⟩ := db
      have HN := Lib.hid hn
      have HD := Lib.hid hd
      clear hn hd hN hD
      cases hok : rOk n d
      · go_wp2_with (first | (go_at_call 8; refine (small_any _).mono ?_; rintro e w' ⟨rfl, x0, rfl⟩) | (go_at_call 11; refine (refRight_any _ _ _ ⟨by omega, by omega⟩ ⟨by omega, by omega⟩).mono ?_; rintro e w' ⟨rfl, x, rfl⟩) | (go_at_call 15; refine (add_any _ _ _ _ _ ⟨by omega, by omega⟩ ⟨by omega, by omega⟩ ⟨by omega, by omega⟩ ⟨by omega, by omega⟩).mono ?_; rintro e w' ⟨rfl, x, rfl⟩))
        go_ret
        exact ⟨rfl, (by repeat (first | exact Exts.refl _ | apply Exts.alloc | apply Exts.wext | apply Exts.drew | apply Exts.drewN))⟩
      by_cases t1 : 16 < d
      · go_wp2_with (first | (go_at_call 8; refine (small_any _).mono ?_; rintro e w' ⟨rfl, x0, rfl⟩) | (go_at_call 11; refine (refRight_any _ _ _ ⟨by omega, by omega⟩ ⟨by omega, by omega⟩).mono ?_; rintro e w' ⟨rfl, x, rfl⟩) | (go_at_call 15; refine (add_any _ _ _ _ _ ⟨by omega, by omega⟩ ⟨by omega, by omega⟩ ⟨by omega, by omega⟩ ⟨by omega, by omega⟩).mono ?_; rintro e w' ⟨rfl, x, rfl⟩))
        go_ret
        exact ⟨rfl, (by repeat (first | exact Exts.refl _ | apply Exts.alloc | apply Exts.wext | apply Exts.drew | apply Exts.drewN))⟩
      have b1 : decide (16 < d) = false := by simpa using t1
      by_cases t2 : n < -100
      · go_wp2_with (first | (go_at_call 8; refine (small_any _).mono ?_; rintro e w' ⟨rfl, x0, rfl⟩) | (go_at_call 11; refine (refRight_any _ _ _ ⟨by omega, by omega⟩ ⟨by omega, by omega⟩).mono ?_; rintro e w' ⟨rfl, x, rfl⟩) | (go_at_call 15; refine (add_any _ _ _ _ _ ⟨by omega, by omega⟩ ⟨by omega, by omega⟩ ⟨by omega, by omega⟩ ⟨by omega, by omega⟩).mono ?_; rintro e w' ⟨rfl, x, rfl⟩))
        go_ret
        exact ⟨rfl, (by repeat (first | exact Exts.refl _ | apply Exts.alloc | apply Exts.wext | apply Exts.drew | apply Exts.drewN))⟩
      have b2 : decide (n < -100) = false := by simpa using t2
      by_cases t3 : 100 < n
      · go_wp2_with (first | (go_at_call 8; refine (small_any _).mono ?_; rintro e w' ⟨rfl, x0, rfl⟩) | (go_at_call 11; refine (refRight_any _ _ _ ⟨by omega, by omega⟩ ⟨by omega, by omega⟩).mono ?_; rintro e w' ⟨rfl, x, rfl⟩) | (go_at_call 15; refine (add_any _ _ _ _ _ ⟨by omega, by omega⟩ ⟨by omega, by omega⟩ ⟨by omega, by omega⟩ ⟨by omega, by omega⟩).mono ?_; rintro e w' ⟨rfl, x, rfl⟩))
        go_ret
        exact ⟨rfl, (by repeat (first | exact Exts.refl _ | apply Exts.alloc | apply Exts.wext | apply Exts.drew | apply Exts.drewN))⟩
      have b3 : decide (100 < n) = false := by simpa using t3
      obtain ⟨o1, o2, o3, o4, _⟩ := (rOk_iff _ _).1 hok
      have T := term_le n d (by omega) (by omega) o1 (by omega)
      have M := msum_le (fun j => term (N j) (D j)) 72072000 k (fun j hj => term_le _ _ (Hall.out j hj).2.2.1 (Hall.out j hj).2.2.2 ((rOk_iff _ _).1 (Hall.out j hj).1).1 (Hall.out j hj).2.1)
      have hs : msum (fun j => term (N j) (D j)) (k + 1) = msum (fun j => term (N j) (D j)) k + term n d := by rw [msum, HN.out, HD.out]
      have Hs := Lib.hid hs
      clear hs
      obtain ⟨m, hm'⟩ : ∃ m, msum (fun j => term (N j) (D j)) k = m := ⟨_, rfl⟩
      rw [hm'] at M
      have hm1 : -576576000 ≤ m := by omega
      have hm2 : m ≤ 576576000 := by omega
      have hq0 : 0 ≤ 720720 / d := Int.ediv_nonneg (by omega) (by omega)
      have hq1 : 720720 / d ≤ 720720 := Int.ediv_le_self _ (by omega)
      obtain ⟨q, hq⟩ : ∃ q, 720720 / d = q := ⟨_, rfl⟩
      rw [hq] at hq0 hq1
      have ht : term n d = n * q := by rw [term, hq]
      have Ht := Lib.hid ht
      rw [ht] at T
      clear ht
      obtain ⟨p, hp⟩ : ∃ p, n * q = p := ⟨_, rfl⟩
      rw [hp] at T
      have hp1 : -72072000 ≤ p := by omega
      have hp2 : p ≤ 72072000 := by omega
      clear T M
      go_wp2_with (first | (go_at_call 8; refine (small_any _).mono ?_; rintro e w' ⟨rfl, x0, rfl⟩) | (go_at_call 11; refine (refRight_any _ _ _ ⟨by omega, by omega⟩ ⟨by omega, by omega⟩).mono ?_; rintro e w' ⟨rfl, x, rfl⟩) | (go_at_call 15; refine (add_any _ _ _ _ _ ⟨by omega, by omega⟩ ⟨by omega, by omega⟩ ⟨by omega, by omega⟩ ⟨by omega, by omega⟩).mono ?_; rintro e w' ⟨rfl, x, rfl⟩))
      go_quiet (fail)
      go_wp2
      go_roundw
      case rel =>
        refine ⟨k + 1, by omega, by go_num, ?_, ?_, ⟨_, rfl⟩⟩
        · rw [Hs.out, Ht.out, hm', hp]
        · intro j hj
          by_cases hjk : j < k
          · exact Hall.out j hjk
          · obtain rfl : j = k := by omega
            rw [HN.out, HD.out]
            exact ⟨hok, by omega, by omega, by omega⟩
      case measure => simp [intOf]; omega
    · obtain rfl : k = len := by omega
      have hle : ∀ j, j ≤ k → (msum (fun j => term (N j) (D j)) j).natAbs ≤ 576576000 ∧ (msum (fun j => term (N (k - 1 - j)) (D (k - 1 - j))) j).natAbs ≤ 576576000 := by
        intro j hj
        have A := msum_le (fun j => term (N j) (D j)) 72072000 j (fun i hi => term_le _ _ (Hall.out i (by omega)).2.2.1 (Hall.out i (by omega)).2.2.2 ((rOk_iff _ _).1 (Hall.out i (by omega)).1).1 (Hall.out i (by omega)).2.1)
        have B := msum_le (fun j => term (N (k - 1 - j)) (D (k - 1 - j))) 72072000 j (fun i hi => term_le _ _ (Hall.out (k - 1 - i) (by omega)).2.2.1 (Hall.out (k - 1 - i) (by omega)).2.2.2 ((rOk_iff _ _).1 (Hall.out (k - 1 - i) (by omega)).1).1 (Hall.out (k - 1 - i) (by omega)).2.1)
        omega
      have Hle := Lib.hid hle
      clear hle
      have H0 := Lib.hid h0
      have H1 := Lib.hid h1
      have HN := Lib.hid hN
      have HD := Lib.hid hD
      clear h0 h1 hN hD
      go_wp2_with (first | (go_at_call 8; refine (small_any _).mono ?_; rintro e w' ⟨rfl, x0, rfl⟩) | (go_at_call 11; refine (refRight_any _ _ _ ⟨by omega, by omega⟩ ⟨by omega, by omega⟩).mono ?_; rintro e w' ⟨rfl, x, rfl⟩) | (go_at_call 15; refine (add_any _ _ _ _ _ ⟨by omega, by omega⟩ ⟨by omega, by omega⟩ ⟨by omega, by omega⟩ ⟨by omega, by omega⟩).mono ?_; rintro e w' ⟨rfl, x, rfl⟩))
      go_loopw [8] (fun i wr => ∃ j : Nat, j ≤ k ∧ i = .int .i64 j ∧ ∃ x, wr = wext (((wext w x0).alloc (.cells #[.int .i64 (sN (msum (fun j => term (N j) (D j)) j)), .int .i64 (sD (msum (fun j => term (N j) (D j)) j))] 24)).alloc (.cells #[.int .i64 (sN (msum (fun j => term (N (k - 1 - j)) (D (k - 1 - j))) j)), .int .i64 (sD (msum (fun j => term (N (k - 1 - j)) (D (k - 1 - j))) j))] 24)) x) (fun i _ => k - (intOf i).toNat)
      case atStart => exact ⟨0, by omega, rfl, y0, by simp only [msum, s_zero.1, s_zero.2]⟩
      case round =>
        obtain ⟨j, hj, rfl, y1, rfl⟩ := hrel
        by_cases hjk : j < k
        · have c0 := H0.out j hjk
          have c1 := H1.out j hjk
          have c2 := H0.out (k - 1 - j) (by omega)
          have c3 := H1.out (k - 1 - j) (by omega)
          have A := s_add (msum (fun j => term (N j) (D j)) j) (N j) (D j) (Hle.out j hj).1 (Hall.out j hjk).1 (Hall.out j hjk).2.1 (Hle.out (j + 1) (by omega)).1
          have B := s_add (msum (fun j => term (N (k - 1 - j)) (D (k - 1 - j))) j) (N (k - 1 - j)) (D (k - 1 - j)) (Hle.out j hj).2 (Hall.out (k - 1 - j) (by omega)).1 (Hall.out (k - 1 - j) (by omega)).2.1 (Hle.out (j + 1) (by omega)).2
          have E := s_ok _ (Hle.out j hj).1
          have F := s_ok _ (Hle.out j hj).2
          rw [rOk_iff] at E F
          have G := (Hall.out j hjk).1
          have G' := (Hall.out (k - 1 - j) (by omega)).1
          rw [rOk_iff] at G G'
          have eA : msum (fun j => term (N j) (D j)) j + N j * (720720 / D j) = msum (fun j => term (N j) (D j)) (j + 1) := rfl
          have eB : msum (fun j => term (N (k - 1 - j)) (D (k - 1 - j))) j + N (k - 1 - j) * (720720 / D (k - 1 - j)) = msum (fun j => term (N (k - 1 - j)) (D (k - 1 - j))) (j + 1) := rfl
          rw [eA] at A
          rw [eB] at B
          generalize msum (fun j => term (N j) (D j)) j = a0 at *
          generalize msum (fun j => term (N (k - 1 - j)) (D (k - 1 - j))) j = b0 at *
          obtain ⟨a1, ha1⟩ : ∃ x, msum (fun j => term (N j) (D j)) (j + 1) = x := ⟨_, rfl⟩
          obtain ⟨b1, hb1⟩ : ∃ x, msum (fun j => term (N (k - 1 - j)) (D (k - 1 - j))) (j + 1) = x := ⟨_, rfl⟩
          rw [ha1] at A
          rw [hb1] at B
          have Ha1 := Lib.hid ha1
          have Hb1 := Lib.hid hb1
          clear ha1 hb1
          generalize N j = n0 at *
          generalize D j = d0 at *
          generalize N (k - 1 - j) = n1 at *
          generalize D (k - 1 - j) = d1 at *
          obtain ⟨E1, E2, E3, E4, _⟩ := E
          obtain ⟨F1, F2, F3, F4, _⟩ := F
          obtain ⟨G1, G2, G3, G4, _⟩ := G
          obtain ⟨G5, G6, G7, G8, _⟩ := G'
          generalize sN a0 = p0 at *
          generalize sD a0 = q0 at *
          generalize sN b0 = p1 at *
          generalize sD b0 = q1 at *
          go_wp2_with (first | (go_at_call 8; refine (small_any _).mono ?_; rintro e w' ⟨rfl, x0, rfl⟩) | (go_at_call 11; refine (refRight_any _ _ _ ⟨by omega, by omega⟩ ⟨by omega, by omega⟩).mono ?_; rintro e w' ⟨rfl, x, rfl⟩) | (go_at_call 15; refine (add_any _ _ _ _ _ ⟨by omega, by omega⟩ ⟨by omega, by omega⟩ ⟨by omega, by omega⟩ ⟨by omega, by omega⟩).mono ?_; rintro e w' ⟨rfl, x, rfl⟩))
          refine wp_name ?_
          intro W1 hW1
          have f0 : W1.cell? ⟨w.heap.size + x0.bs.size, 0, none⟩ = some (.int .i64 p0) := by rw [hW1]; simp [go_sem]
          have f1 : W1.cell? ⟨w.heap.size + x0.bs.size, 1, none⟩ = some (.int .i64 q0) := by rw [hW1]; simp [go_sem]
          have f2 : W1.cell? ⟨b, off + j * 2, none⟩ = some (.int .i64 n0) := Exts.cell (w := w) (by rw [hW1]; exact (by repeat (first | exact Exts.refl _ | apply Exts.alloc | apply Exts.wext | apply Exts.drew | apply Exts.drewN))) c0
          have f3 : W1.cell? ⟨b, off + j * 2 + 1, none⟩ = some (.int .i64 d0) := Exts.cell (w := w) (by rw [hW1]; exact (by repeat (first | exact Exts.refl _ | apply Exts.alloc | apply Exts.wext | apply Exts.drew | apply Exts.drewN))) c1
          have s0 : w.heap.size + x0.bs.size < W1.heap.size := World.block_lt_of_cell? W1 _ f0
          have s1 : b < W1.heap.size := World.block_lt_of_cell? W1 _ f2
          have HW := Lib.hid hW1
          clear hW1
          go_region_held3 (fun w' => w'.cell? ⟨w.heap.size + x0.bs.size, 0, none⟩ = some (.int .i64 p0) ∧ w'.cell? ⟨w.heap.size + x0.bs.size, 1, none⟩ = some (.int .i64 q0) ∧ w'.cell? ⟨b, off + j * 2, none⟩ = some (.int .i64 n0) ∧ w'.cell? ⟨b, off + j * 2 + 1, none⟩ = some (.int .i64 d0)) (simp [go_sem, *]) ((first | (go_at_call 15; refine (add_any _ _ _ _ _ ⟨by omega, by omega⟩ ⟨by omega, by omega⟩ ⟨by omega, by omega⟩ ⟨by omega, by omega⟩).mono ?_; rintro e w' ⟨rfl, x, rfl⟩)))
          all_goals
            have e := HW.out
            subst e
            clear HW
            simp only [wext_size, World.size_alloc, add_and_size]
            go_wp2_with (first | (go_at_call 8; refine (small_any _).mono ?_; rintro e w' ⟨rfl, x0, rfl⟩) | (go_at_call 11; refine (refRight_any _ _ _ ⟨by omega, by omega⟩ ⟨by omega, by omega⟩).mono ?_; rintro e w' ⟨rfl, x, rfl⟩) | (go_at_call 15; refine (add_any _ _ _ _ _ ⟨by omega, by omega⟩ ⟨by omega, by omega⟩ ⟨by omega, by omega⟩ ⟨by omega, by omega⟩).mono ?_; rintro e w' ⟨rfl, x, rfl⟩))
            refine wp_name ?_
            intro W2 hW2
            have f0 : W2.cell? ⟨w.heap.size + x0.bs.size + 1, 0, none⟩ = some (.int .i64 p1) := by rw [hW2]; simp [go_sem]
            have f1 : W2.cell? ⟨w.heap.size + x0.bs.size + 1, 1, none⟩ = some (.int .i64 q1) := by rw [hW2]; simp [go_sem]
            have f2 : W2.cell? ⟨b, off + (k - 1 - j) * 2, none⟩ = some (.int .i64 n1) := Exts.cell (w := w) (by rw [hW2]; exact (by repeat (first | exact Exts.refl _ | apply Exts.alloc | apply Exts.wext | apply Exts.drew | apply Exts.drewN))) c2
            have f3 : W2.cell? ⟨b, off + (k - 1 - j) * 2 + 1, none⟩ = some (.int .i64 d1) := Exts.cell (w := w) (by rw [hW2]; exact (by repeat (first | exact Exts.refl _ | apply Exts.alloc | apply Exts.wext | apply Exts.drew | apply Exts.drewN))) c3
            have s0 : w.heap.size + x0.bs.size + 1 < W2.heap.size := World.block_lt_of_cell? W2 _ f0
            have s1 : b < W2.heap.size := World.block_lt_of_cell? W2 _ f2
            have s2 : w.heap.size + x0.bs.size < W2.heap.size := by omega
            have i1 : (0 : Int) ≤ (k : Int) - 1 - (j : Int) := by omega
            have i2 : (k : Int) - 1 - (j : Int) < k := by omega
            have i3 : IntKind.i64.wrap ((k : Int) - 1) = (k : Int) - 1 := IntWalk.i64_in _ (by omega)
            have i4 : IntKind.i64.wrap ((k : Int) - 1 - (j : Int)) = (k : Int) - 1 - (j : Int) := IntWalk.i64_in _ (by omega)
            have i5 : ((k : Int) - 1 - (j : Int)).toNat = k - 1 - j := by omega
            have i6 : (j : Int) ≤ (k : Int) - 1 := by omega
            have HW2 := Lib.hid hW2
            clear hW2
            go_region_held3 (fun w' => w'.cell? ⟨w.heap.size + x0.bs.size + 1, 0, none⟩ = some (.int .i64 p1) ∧ w'.cell? ⟨w.heap.size + x0.bs.size + 1, 1, none⟩ = some (.int .i64 q1) ∧ w'.cell? ⟨b, off + (k - 1 - j) * 2, none⟩ = some (.int .i64 n1) ∧ w'.cell? ⟨b, off + (k - 1 - j) * 2 + 1, none⟩ = some (.int .i64 d1)) (simp [go_sem, *]) ((first | (go_at_call 15; refine (add_any _ _ _ _ _ ⟨by omega, by omega⟩ ⟨by omega, by omega⟩ ⟨by omega, by omega⟩ ⟨by omega, by omega⟩).mono ?_; rintro e w' ⟨rfl, x, rfl⟩)))
            all_goals
              clear i1 i2 i3 i4 i5 i6
              have e2 := HW2.out
              subst e2
              clear HW2
              simp only [wext_size, World.size_alloc, add_and_size]
              go_wp2_with (first | (go_at_call 8; refine (small_any _).mono ?_; rintro e w' ⟨rfl, x0, rfl⟩) | (go_at_call 11; refine (refRight_any _ _ _ ⟨by omega, by omega⟩ ⟨by omega, by omega⟩).mono ?_; rintro e w' ⟨rfl, x, rfl⟩) | (go_at_call 15; refine (add_any _ _ _ _ _ ⟨by omega, by omega⟩ ⟨by omega, by omega⟩ ⟨by omega, by omega⟩ ⟨by omega, by omega⟩).mono ?_; rintro e w' ⟨rfl, x, rfl⟩))
              go_roundw
              case rel =>
                refine ⟨j + 1, by omega, by go_num, ?_⟩
                rw [Ha1.out, Hb1.out]
                show Exts _ _
                exact (by repeat (first | exact Exts.refl _ | apply Exts.alloc | apply Exts.wext | apply Exts.drew | apply Exts.drewN))
              case measure => simp [intOf]; omega
        · obtain rfl : j = k := by omega
          have eb : msum (fun i => term (N (j - 1 - i)) (D (j - 1 - i))) j = msum (fun i => term (N i) (D i)) j := msum_back (fun i => term (N i) (D i)) j
          rw [eb]
          have L := (Hle.out j (Nat.le_refl _)).1
          obtain ⟨M, hM⟩ : ∃ M, msum (fun i => term (N i) (D i)) j = M := ⟨_, rfl⟩
          rw [hM] at L ⊢
          have c1 := s_cross M
          have c2 := sD_pos M
          have c3 := sD_le M
          have c4 := sN_le M L
          generalize sN M = p at *
          generalize sD M = q at *
          obtain ⟨z, hz⟩ : ∃ z, p * 720720 = z := ⟨_, rfl⟩
          have hz2 : M * q = z := by rw [← c1, hz]
          have z1 : -415549854720000 ≤ z := by omega
          have z2 : z ≤ 415549854720000 := by omega
          have p1 : -576576000 ≤ p := by omega
          have p2 : p ≤ 576576000 := by omega
          clear eb hM Hle H0 H1 HN HD Hall
          go_wp2_with (first | (go_at_call 8; refine (small_any _).mono ?_; rintro e w' ⟨rfl, x0, rfl⟩) | (go_at_call 11; refine (refRight_any _ _ _ ⟨by omega, by omega⟩ ⟨by omega, by omega⟩).mono ?_; rintro e w' ⟨rfl, x, rfl⟩) | (go_at_call 15; refine (add_any _ _ _ _ _ ⟨by omega, by omega⟩ ⟨by omega, by omega⟩ ⟨by omega, by omega⟩ ⟨by omega, by omega⟩).mono ?_; rintro e w' ⟨rfl, x, rfl⟩))
          go_ret
          exact ⟨rfl, (by repeat (first | exact Exts.refl _ | apply Exts.alloc | apply Exts.wext | apply Exts.drew | apply Exts.drewN))⟩
end Go.Proofs.Ytklibgaigfjneaa
