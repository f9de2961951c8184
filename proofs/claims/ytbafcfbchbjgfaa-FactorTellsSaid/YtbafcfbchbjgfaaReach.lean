/- reach of package factor. -/
import Derived.Test.YtbafcfbchbjgfaaReachPlain
import Derived.Deep.LoopGhost
import Derived.BigRegion
namespace Go.Proofs.Ytbafcfbchbjgfaa
open Go.RowKit
set_option linter.unusedSimpArgs false
set_option linter.unusedVariables false

theorem wext_alloc (w : World) (x : Ex) (o : Obj) : (wext w x).alloc o = wext w (x.and ⟨#[o], x.dr⟩) := by
  rw [wext_one, wext_and]
  rfl
theorem world_turn (B : World) (y x : Ex) (o o' : Obj) : (wext ((wext B y).alloc o) x).alloc o' = wext ((wext B ((y.and ⟨#[o], y.dr⟩).and x)).alloc o') ⟨#[], x.dr⟩ := by
  rw [wext_alloc B y o, wext_and]
  exact (wext_self _).symm
set_option maxRecDepth 100000
set_option maxHeartbeats 1000000
theorem reach40 (f : Rel) (w : World) :
    Calls Try.prog 40 #[.agg (matC f)] w fun e w' => ∃ g, e = .returned (.agg (matC g)) ∧ Between f g ∧ Closed g ∧ Exts w w' := by
  go_enter Try.func40, Try.ntmps40
  go_wp2
  go_loopg [3] (leftR f noRel) (fun k p wr => ∃ (g h : Rel) (y z : Ex), wr = wext ((wext ((w.alloc (.cells (matC g) 52)).alloc (.cells (matC noRel) 52)) y).alloc (.cells (matC h) 52)) z ∧ p = .pointer (some ⟨w.heap.size + 1 + 1 + y.bs.size, 0, none⟩) ∧ Between f g ∧ (h = noRel ∨ g = stepR h) ∧ leftR g h ≤ k)
  case atStart => exact ⟨f, noRel, ⟨#[], ((w.alloc (.cells (matC f) 52)).alloc (.cells (matC noRel) 52)).drawn⟩, ⟨#[], (((w.alloc (.cells (matC f) 52)).alloc (.cells (matC noRel) 52)).alloc (.cells (matC noRel) 52)).drawn⟩, by rw [wext_self, wext_self], rfl, Between.refl f, .inl rfl, Nat.le_refl _⟩
  case round =>
    obtain ⟨g, h, y, z, rfl, rfl, hbt, hst, hle⟩ := hrel
    have HBT := Lib.hid hbt
    have HST := Lib.hid hst
    have HLE := Lib.hid hle
    clear hbt hst hle
    cases hq : relEq h g with
    | true =>
      have HQ := Lib.hid hq
      go_wp2
      have hcl : Closed g := by
        rcases HST.out with rfl | hs
        · exact closed_of_none HQ.out
        · exact closed_of_step hs HQ.out
      refine bodyPost_ret (v := .agg (matC g)) (res52 rfl _ _ _ _ rfl (by simp [go_sem]) (by simp [go_sem])) rfl ⟨g, rfl, HBT.out, hcl, (by repeat (first | exact Exts.refl _ | apply Exts.andR | apply Exts.alloc | apply Exts.wext | apply Exts.drew | apply Exts.drewN))⟩
    | false =>
      have HQ := Lib.hid hq
      go_wp2
      clear hq
      go_loopw [12] (fun i wr => ∃ (a : Nat) (x : Ex), a ≤ 12 ∧ i = .int .i64 a ∧ wr = wext ((wext ((w.alloc (.cells (matC (curR g a 0 0)) 52)).alloc (.cells (matC noRel) 52)) y).alloc (.cells (matC g) 52)) x) (fun i _ => 12 - (intOf i).toNat)
      case atStart => exact ⟨0, z, by omega, rfl, by rw [curR_zero]⟩
      case round =>
        obtain ⟨a, x, ha, rfl, rfl⟩ := hrel
        by_cases halt : a < 12
        · go_wp2
          go_loopw [15] (fun i wr => ∃ (b : Nat) (x : Ex), b ≤ 12 ∧ i = .int .i64 b ∧ wr = wext ((wext ((w.alloc (.cells (matC (curR g a b 0)) 52)).alloc (.cells (matC noRel) 52)) y).alloc (.cells (matC g) 52)) x) (fun i _ => 12 - (intOf i).toNat)
          case atStart => exact ⟨0, x, by omega, rfl, rfl⟩
          case round =>
            obtain ⟨b, x, hb, rfl, rfl⟩ := hrel
            by_cases hblt : b < 12
            · go_wp2
              go_loopw [18] (fun i wr => ∃ (c : Nat) (x : Ex), c ≤ 12 ∧ i = .int .i64 c ∧ wr = wext ((wext ((w.alloc (.cells (matC (curR g a b c)) 52)).alloc (.cells (matC noRel) 52)) y).alloc (.cells (matC g) 52)) x) (fun i _ => 12 - (intOf i).toNat)
              case atStart => exact ⟨0, x, by omega, rfl, rfl⟩
              case round =>
                obtain ⟨c, x, hc, rfl, rfl⟩ := hrel
                by_cases hclt : c < 12
                · cases h1 : curR g a b c a c with
                  | true =>
                    have HN := Lib.hid (curR_next g a b c true (by rw [h1]; rfl))
                    go_wp2
                    go_region
                    rw [HN.out]
                    go_wp2
                    refine ⟨⟨c + 1, _, by omega, by go_num, rfl⟩, ?_⟩
                    simp [intOf]; omega
                  | false =>
                    cases h2 : g a b with
                    | false =>
                      have HN := Lib.hid (curR_next g a b c false (by rw [h1, h2]; rfl))
                      go_wp2
                      go_region
                      rw [HN.out]
                      go_wp2
                      refine ⟨⟨c + 1, _, by omega, by go_num, rfl⟩, ?_⟩
                      simp [intOf]; omega
                    | true =>
                      cases h3 : g b c with
                      | false =>
                        have HN := Lib.hid (curR_next g a b c false (by rw [h1, h2, h3]; rfl))
                        go_wp2
                        go_region
                        rw [HN.out]
                        go_wp2
                        refine ⟨⟨c + 1, _, by omega, by go_num, rfl⟩, ?_⟩
                        simp [intOf]; omega
                      | true =>
                        have HN := Lib.hid (curR_next g a b c true (by rw [h1, h2, h3]; rfl))
                        go_wp2
                        go_region
                        rw [HN.out]
                        go_wp2
                        refine ⟨⟨c + 1, _, by omega, by go_num, rfl⟩, ?_⟩
                        simp [intOf]; omega
                · obtain rfl : c = 12 := by omega
                  go_wp2
                  refine ⟨⟨b + 1, x, by omega, by go_num, by rw [curR_row]⟩, ?_⟩
                  simp [intOf]; omega
            · obtain rfl : b = 12 := by omega
              go_wp2
              refine ⟨⟨a + 1, x, by omega, by go_num, by rw [curR_col]⟩, ?_⟩
              simp [intOf]; omega
        · obtain rfl : a = 12 := by omega
          rw [curR_all]
          go_wp2
          go_roundg (leftR (stepR g) g)
          case measure => exact Nat.lt_of_lt_of_le (left_step HQ.out) HLE.out
          case rel =>
            exact ⟨stepR g, g, (y.and ⟨#[.cells (matC g) 52], y.dr⟩).and x, ⟨#[], x.dr⟩, world_turn _ _ _ _ _, by rw [add_and_size, add_and_size]; rfl, HBT.out.step, .inr rfl, Nat.le_refl _⟩
end Go.Proofs.Ytbafcfbchbjgfaa
