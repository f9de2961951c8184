/- home of package factor. -/
import Derived.Test.YtbafcfbchbjgfaaHomePlain
namespace Go.Proofs.Ytbafcfbchbjgfaa
open Go.RowKit
set_option linter.unusedSimpArgs false
set_option linter.unusedVariables false
@[go_sem] theorem arrC_set1 (d : Arr) (a : Nat) (v : Nat) (ha : a < 12) : (arrC d).setIfInBounds a (.int .i64 ((v : Int) + 1)) = arrC (updA d a (v + 1)) := arrC_set d a (v + 1) ha
@[go_sem] theorem arrC_set13 (d : Arr) (a : Nat) (ha : a < 12) : (arrC d).setIfInBounds a (.int .i64 13) = arrC (updA d a 13) := arrC_set d a 13 ha
@[go_sem] theorem arrC_set0 (d : Arr) (a : Nat) (ha : a < 12) : (arrC d).setIfInBounds a (.int .i64 0) = arrC (updA d a 0) := arrC_set d a 0 ha
def fillA (k : Nat) : Arr := fun v => if v < k then 13 else 0
theorem fill_next (k : Nat) : updA (fillA k) k 13 = fillA (k + 1) := by
  funext v
  unfold updA fillA
  by_cases h : v = k
  · subst h; simp
  · rw [if_neg h]
    by_cases h2 : v < k
    · rw [if_pos h2, if_pos (by omega)]
    · rw [if_neg h2, if_neg (by omega)]
theorem fill_all (to : Nat) : arrC (updA (fillA 12) to 0) = arrC (updA (fun _ => 13) to 0) := arrC_inj fun a ha => by simp [updA, fillA, ha]
theorem relax_no {f : Rel} {to a b : Nat} {d : Arr} (h : f a b = false ∨ a = to) : relax f to a b d = d := if_neg (by
  rintro ⟨h1, h2⟩
  rcases h with h | h
  · rw [h1] at h; cases h
  · exact h2 h)
theorem relax_lt {f : Rel} {to a b : Nat} {d : Arr} (h1 : f a b = true) (h2 : a ≠ to) (h3 : d b + 1 < d a) : relax f to a b d = updA d a (d b + 1) := by
  unfold relax
  rw [if_pos ⟨h1, h2⟩, Nat.min_eq_right (by omega)]
theorem relax_ge {f : Rel} {to a b : Nat} {d : Arr} (h1 : f a b = true) (h2 : a ≠ to) (h3 : ¬ d b + 1 < d a) : relax f to a b d = updA d a (d a) := by
  unfold relax
  rw [if_pos ⟨h1, h2⟩, Nat.min_eq_left (by omega)]
set_option maxRecDepth 100000
set_option maxHeartbeats 2000000
theorem home41 (f : Rel) (to : Nat) (hto : to < 12) (w : World) : Calls Try.prog 41 #[.agg (matC f), .int .i64 to] w fun e w' => ∃ d, e = .returned (.agg (arrC d)) ∧ IsDist f to d ∧ Exts w w' := by
  go_enter Try.func41, Try.ntmps41
  go_wp2
  go_loopw [9] (fun i wr => ∃ (k : Nat), k ≤ 12 ∧ i = .int .i64 k ∧ Exts (((w.alloc (.cells (matC f) 52)).alloc (.cells (arrC fun _ => 0) 60)).alloc (.cells (arrC (fillA k)) 60)) wr) (fun i _ => 12 - (intOf i).toNat)
  case atStart => exact ⟨0, by omega, rfl, Exts.refl _⟩
  case round =>
    obtain ⟨k, hk, rfl, x, rfl⟩ := hrel
    by_cases hlt : k < 12
    · have HN := Lib.hid (fill_next k)
      go_wp2
      rw [HN.out]
      refine ⟨⟨k + 1, by omega, by go_num, (by repeat (first | exact Exts.refl _ | apply Exts.andR | apply Exts.alloc | apply Exts.wext | apply Exts.drew | apply Exts.drewN))⟩, ?_⟩
      simp [intOf]; omega
    · obtain rfl : k = 12 := by omega
      go_wp2
      rw [fill_all]
      go_wp2
      go_loopw [17] (fun i wr => ∃ (r : Nat) (d : Arr), r ≤ 12 ∧ i = .int .i64 r ∧ Home f to r to to d ∧ Exts (((w.alloc (.cells (matC f) 52)).alloc (.cells (arrC fun _ => 0) 60)).alloc (.cells (arrC d) 60)) wr) (fun i _ => 12 - (intOf i).toNat)
      case atStart => exact ⟨0, _, by omega, rfl, Home.start f to hto, (by repeat (first | exact Exts.refl _ | apply Exts.andR | apply Exts.alloc | apply Exts.wext | apply Exts.drew | apply Exts.drewN))⟩
      case round =>
        obtain ⟨r, d, hr, rfl, hh, x, rfl⟩ := hrel
        have HH := Lib.hid hh
        clear hh
        by_cases hrlt : r < 12
        · go_wp2
          go_loopw [7] (fun i wr => ∃ (a : Nat) (d : Arr), to ≤ a ∧ a ≤ 12 ∧ i = .int .i64 a ∧ Home f to r a to d ∧ Exts (((w.alloc (.cells (matC f) 52)).alloc (.cells (arrC fun _ => 0) 60)).alloc (.cells (arrC d) 60)) wr) (fun i _ => 12 - (intOf i).toNat)
          case atStart => exact ⟨to, d, by omega, by omega, rfl, HH.out, (by repeat (first | exact Exts.refl _ | apply Exts.andR | apply Exts.alloc | apply Exts.wext | apply Exts.drew | apply Exts.drewN))⟩
          case round =>
            obtain ⟨a, d, hta, ha, rfl, hh, x, rfl⟩ := hrel
            have HH := Lib.hid hh
            clear hh
            by_cases halt : a < 12
            · go_wp2
              go_loopw [8] (fun i wr => ∃ (b : Nat) (d : Arr), to ≤ b ∧ b ≤ 12 ∧ i = .int .i64 b ∧ Home f to r a b d ∧ Exts (((w.alloc (.cells (matC f) 52)).alloc (.cells (arrC fun _ => 0) 60)).alloc (.cells (arrC d) 60)) wr) (fun i _ => 12 - (intOf i).toNat)
              case atStart => exact ⟨to, d, by omega, by omega, rfl, HH.out, (by repeat (first | exact Exts.refl _ | apply Exts.andR | apply Exts.alloc | apply Exts.wext | apply Exts.drew | apply Exts.drewN))⟩
              case round =>
                obtain ⟨b, d, htb, hb, rfl, hh, x, rfl⟩ := hrel
                have HH := Lib.hid hh
                by_cases hblt : b < 12
                · have hda := hh.le a halt
                  have hdb := hh.le b hblt
                  have HN := Lib.hid (hh.next hta halt htb hblt)
                  clear hh
                  cases hf : f a b with
                  | false =>
                    have HE := Lib.hid (relax_no (d := d) (to := to) (.inl hf))
                    go_wp2
                    refine ⟨⟨b + 1, d, by omega, by omega, by go_num, by have := HN.out; rw [HE.out] at this; exact this, (by repeat (first | exact Exts.refl _ | apply Exts.andR | apply Exts.alloc | apply Exts.wext | apply Exts.drew | apply Exts.drewN))⟩, ?_⟩
                    simp [intOf]; omega
                  | true =>
                    by_cases hat : a = to
                    · have q1 : ((a : Int) == (to : Int)) = true := by simp; omega
                      have q2 : ((a : Int) != (to : Int)) = false := by simp; omega
                      have q3 : (a == to) = true := by simpa using hat
                      have q4 : (a != to) = false := by simpa using hat
                      have HE := Lib.hid (relax_no (f := f) (b := b) (d := d) (.inr hat))
                      clear hat
                      go_wp2
                      refine ⟨⟨b + 1, d, by omega, by omega, by go_num, by have := HN.out; rw [HE.out] at this; exact this, (by repeat (first | exact Exts.refl _ | apply Exts.andR | apply Exts.alloc | apply Exts.wext | apply Exts.drew | apply Exts.drewN))⟩, ?_⟩
                      simp [intOf]; omega
                    · have q1 : ((a : Int) == (to : Int)) = false := by simp; omega
                      have q2 : ((a : Int) != (to : Int)) = true := by simp; omega
                      have q3 : (a == to) = false := by simpa using hat
                      have q4 : (a != to) = true := by simpa using hat
                      by_cases hm : d b + 1 < d a
                      · have hm' : (d b : Int) + 1 < (d a : Int) := by omega
                        have HE := Lib.hid (relax_lt hf hat hm)
                        clear hat
                        go_wp2
                        go_region
                        go_wp2
                        refine ⟨⟨b + 1, _, by omega, by omega, by go_num, by have := HN.out; rw [HE.out] at this; exact this, (by repeat (first | exact Exts.refl _ | apply Exts.andR | apply Exts.alloc | apply Exts.wext | apply Exts.drew | apply Exts.drewN))⟩, ?_⟩
                        simp [intOf]; omega
                      · have hm' : (d a : Int) ≤ (d b : Int) + 1 := by omega
                        have HE := Lib.hid (relax_ge hf hat hm)
                        clear hat hm
                        go_wp2
                        go_region
                        go_wp2
                        go_roundw
                        case rel => exact ⟨b + 1, _, by omega, by omega, by go_num, by have := HN.out; rw [HE.out] at this; exact this, (by repeat (first | exact Exts.refl _ | apply Exts.andR | apply Exts.alloc | apply Exts.wext | apply Exts.drew | apply Exts.drewN))⟩
                        case measure => simp [intOf]; omega
                · obtain rfl : b = 12 := by omega
                  have HN := Lib.hid hh.row
                  clear hh
                  go_wp2
                  refine ⟨⟨a + 1, d, by omega, by omega, by go_num, HN.out, (by repeat (first | exact Exts.refl _ | apply Exts.andR | apply Exts.alloc | apply Exts.wext | apply Exts.drew | apply Exts.drewN))⟩, ?_⟩
                  simp [intOf]; omega
            · obtain rfl : a = 12 := by omega
              have HN := Lib.hid HH.out.round
              go_wp2
              refine ⟨⟨r + 1, d, by omega, by go_num, HN.out, (by repeat (first | exact Exts.refl _ | apply Exts.andR | apply Exts.alloc | apply Exts.wext | apply Exts.drew | apply Exts.drewN))⟩, ?_⟩
              simp [intOf]; omega
        · obtain rfl : r = 12 := by omega
          go_wp2
          refine bodyPost_ret (v := .agg (arrC d)) (res60 rfl _ _ _ _ rfl (by simp [go_sem]) (by simp [go_sem])) rfl ⟨d, rfl, HH.out.dist, (by repeat (first | exact Exts.refl _ | apply Exts.andR | apply Exts.alloc | apply Exts.wext | apply Exts.drew | apply Exts.drewN))⟩
end Go.Proofs.Ytbafcfbchbjgfaa
