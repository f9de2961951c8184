/- Join of the reference of chapter 38. No condition. -/
import Derived.Test.YtbafcfbchbjgfaaRefLists
import Derived.Test.YtbafcfbchbjgfaaJoins
namespace Go.Proofs.Ytbafcfbchbjgfaa
open Go.RowKit
set_option linter.unusedSimpArgs false
set_option linter.unusedVariables false
theorem least_mono {g : Rel} {u v c : Nat} : ∀ {k m : Nat}, k ≤ m → leastK g u v c k = false → leastK g u v c m = false
  | k, 0, h, hf => by
    obtain rfl : k = 0 := by omega
    exact hf
  | k, m + 1, h, hf => by
    by_cases hk : k = m + 1
    · rw [← hk]; exact hf
    · rw [leastK_next, least_mono (by omega) hf, Bool.false_and]
theorem join_no {V : Int} {ps : List Pr} {a b : Int} (h : ((closedD V ps).2 && inVV V a b) = false) : joinD V ps a b = (0, false) := by
  unfold joinD
  have : ((closedD V ps).2 && (inV V a && inV V b)) = false := h
  rw [this]
  rfl
set_option maxRecDepth 100000
set_option maxHeartbeats 4000000
theorem join14 {S' : Nat → Prop} (V : Int) (po : Option Addr) (n c : Nat) (ps : List Pr) (aa bb : Int) (w : World) (h : Prs S' w po n c ps) :
    Calls Try.prog 14 #[.agg #[.int .i64 V, .slice po n c], .int .i64 aa, .int .i64 bb] w fun e w' => e = .returned (.tuple #[.int .i64 (joinD V ps aa bb).1, .bool (joinD V ps aa bb).2]) ∧ Exts w w' := by
  have H := Lib.hid h
  clear h
  obtain ⟨r, hr⟩ : ∃ r, ((closedD V ps).2 && inVV V aa bb) = r := ⟨_, rfl⟩
  have HI := Lib.hid hr
  cases r with
  | false =>
    have HR := Lib.hid (join_no hr)
    clear hr
    go_enter Try.func14, Try.ntmps14
    go_wp2_with (first | (go_at_call 38; ((with_reducible refine (in38_D _ _ _ _ ps _ _ _ _ (RowF.exts H.out (by repeat (first | exact Exts.refl _ | apply Exts.andR | apply Exts.alloc | apply Exts.wext | apply Exts.drew | apply Exts.drewN))) HI.out).mono ?_); rintro e w' ⟨rfl, x1, rfl⟩)))
    go_ret2
    exact ⟨by rw [HR.out]; rfl, (by repeat (first | exact Exts.refl _ | apply Exts.andR | apply Exts.alloc | apply Exts.wext | apply Exts.drew | apply Exts.drewN))⟩
  | true =>
    have hr2 := hr
    rw [Bool.and_eq_true] at hr2
    obtain ⟨g, hg⟩ := closed_ok hr2.1
    obtain ⟨⟨a1, a2⟩, a3, a4⟩ : (0 ≤ aa ∧ aa < V) ∧ 0 ≤ bb ∧ bb < V := by
      have := hr2.2
      simpa [inVV, inV] using this
    obtain ⟨m, rfl⟩ : ∃ m : Nat, V = m := ⟨V.toNat, by omega⟩
    obtain ⟨u, rfl⟩ : ∃ u : Nat, aa = u := ⟨aa.toNat, by omega⟩
    obtain ⟨v, rfl⟩ : ∃ v : Nat, bb = v := ⟨bb.toNat, by omega⟩
    have hu : u < m := by omega
    have hv : v < m := by omega
    have hm12 : m ≤ 12 := by
      have := (valid_in (closed_valid hg).1).1.2
      omega
    rw [join_in hg hu hv]
    have HG := Lib.hid hg
    clear hr hr2 hg a1 a2 a3 a4
    go_enter Try.func14, Try.ntmps14
    go_wp2_with (first | (go_at_call 38; ((with_reducible refine (in38_D _ _ _ _ ps _ _ _ _ (RowF.exts H.out (by repeat (first | exact Exts.refl _ | apply Exts.andR | apply Exts.alloc | apply Exts.wext | apply Exts.drew | apply Exts.drewN))) HI.out).mono ?_); rintro e w' ⟨rfl, x1, rfl⟩)))
    obtain ⟨w1, hw1⟩ : ∃ w1, wext (w.alloc (.cells #[.int .i64 m, .slice po n c] 24)) x1 = w1 := ⟨_, rfl⟩
    have HX := Lib.hid (show Exts w w1 by rw [← hw1]; exact (by repeat (first | exact Exts.refl _ | apply Exts.andR | apply Exts.alloc | apply Exts.wext | apply Exts.drew | apply Exts.drewN)))
    have HP := Lib.hid (show Prs S' w1 po n c ps from RowF.exts H.out HX.out)
    have cO0 : w1.cell? ⟨w.heap.size, 0, none⟩ = some (.int .i64 m) := by rw [← hw1]; simp [go_sem]
    have cO1 : w1.cell? ⟨w.heap.size, 1, none⟩ = some (.slice po n c) := by rw [← hw1]; simp [go_sem]
    have lO : w.heap.size < w1.heap.size := by rw [← hw1]; simp; omega
    rw [hw1]
    clear hw1 H HI
    go_loopw [8] (fun i wr => ∃ (c' : Nat), c' ≤ m ∧ i = .int .i64 c' ∧ Exts w1 wr ∧ ∀ z, z < c' → leastK g u v z m = false) (fun i _ => m - (intOf i).toNat)
    case atStart => exact ⟨0, by omega, rfl, Exts.refl _, fun z h => by omega⟩
    case round =>
      obtain ⟨c', hc, rfl, ⟨x, rfl⟩, hz⟩ := hrel
      have HZ := Lib.hid hz
      clear hz
      by_cases hlt : c' < m
      · obtain ⟨r1, hr1⟩ : ∃ r, g u c' = r := ⟨_, rfl⟩
        obtain ⟨r2, hr2⟩ : ∃ r, g v c' = r := ⟨_, rfl⟩
        have HUC := Lib.hid hr1
        have HVC := Lib.hid hr2
        have HK0 := Lib.hid (show leastK g u v c' 0 = (r1 && r2) by rw [leastK_zero, hr1, hr2])
        clear hr1 hr2
        cases r1 with
        | false =>
          go_wp2_with (first | (go_at_call 37; ((with_reducible refine (strong37_D _ _ _ _ ps u c' g _ _ (RowF.exts HP.out (by repeat (first | exact Exts.refl _ | apply Exts.andR | apply Exts.alloc | apply Exts.wext | apply Exts.drew | apply Exts.drewN))) HG.out hu HUC.out).mono ?_); rintro e w' ⟨rfl, x2, rfl⟩)) | (go_at_call 37; ((with_reducible refine (strong37_D _ _ _ _ ps v c' g _ _ (RowF.exts HP.out (by repeat (first | exact Exts.refl _ | apply Exts.andR | apply Exts.alloc | apply Exts.wext | apply Exts.drew | apply Exts.drewN))) HG.out hv HVC.out).mono ?_); rintro e w' ⟨rfl, x3, rfl⟩)))
          go_loopw [9, 10] (fun l i wr => ∃ (k : Nat) (lst : Bool), k ≤ m ∧ i = .int .i64 k ∧ l = .bool lst ∧ leastK g u v c' k = lst ∧ Exts w1 wr) (fun _ i _ => m - (intOf i).toNat)
          case atStart => exact ⟨0, _, by omega, rfl, rfl, HK0.out, (by repeat (first | exact Exts.refl _ | apply Exts.andR | apply Exts.alloc | apply Exts.wext | apply Exts.drew | apply Exts.drewN))⟩
          case round =>
            obtain ⟨k, lst, hk, rfl, rfl, hl, ⟨y, rfl⟩⟩ := hrel
            have HK := Lib.hid hl
            clear hl
            cases lst with
            | false =>
              have HN := Lib.hid (least_mono hk HK.out)
              by_cases hkm : k < m
              · go_wp2
                refine ⟨⟨c' + 1, by omega, by go_num, (by repeat (first | exact Exts.refl _ | apply Exts.andR | apply Exts.alloc | apply Exts.wext | apply Exts.drew | apply Exts.drewN)), fun z hzc => ?_⟩, ?_⟩
                · by_cases hzc2 : z = c'
                  · rw [hzc2]; exact HN.out
                  · exact HZ.out z (by omega)
                · simp [intOf]; omega
              · obtain rfl : m = k := by omega
                go_wp2
                refine ⟨⟨c' + 1, by omega, by go_num, (by repeat (first | exact Exts.refl _ | apply Exts.andR | apply Exts.alloc | apply Exts.wext | apply Exts.drew | apply Exts.drewN)), fun z hzc => ?_⟩, ?_⟩
                · by_cases hzc2 : z = c'
                  · rw [hzc2]; exact HN.out
                  · exact HZ.out z (by omega)
                · simp [intOf]; omega
            | true =>
              by_cases hkm : k < m
              · obtain ⟨s1, hs1⟩ : ∃ r, g u k = r := ⟨_, rfl⟩
                obtain ⟨s2, hs2⟩ : ∃ r, g v k = r := ⟨_, rfl⟩
                obtain ⟨s3, hs3⟩ : ∃ r, g c' k = r := ⟨_, rfl⟩
                have HUD := Lib.hid hs1
                have HVD := Lib.hid hs2
                have HCD := Lib.hid hs3
                clear hs1 hs2 hs3
                cases s1 with
                | false =>
                  go_wp2_with (first | (go_at_call 37; ((with_reducible refine (strong37_D _ _ _ _ ps u k g _ _ (RowF.exts HP.out (by repeat (first | exact Exts.refl _ | apply Exts.andR | apply Exts.alloc | apply Exts.wext | apply Exts.drew | apply Exts.drewN))) HG.out hu HUD.out).mono ?_); rintro e w' ⟨rfl, x4, rfl⟩)) | (go_at_call 37; ((with_reducible refine (strong37_D _ _ _ _ ps v k g _ _ (RowF.exts HP.out (by repeat (first | exact Exts.refl _ | apply Exts.andR | apply Exts.alloc | apply Exts.wext | apply Exts.drew | apply Exts.drewN))) HG.out hv HVD.out).mono ?_); rintro e w' ⟨rfl, x5, rfl⟩)) | (go_at_call 37; ((with_reducible refine (strong37_D _ _ _ _ ps c' k g _ _ (RowF.exts HP.out (by repeat (first | exact Exts.refl _ | apply Exts.andR | apply Exts.alloc | apply Exts.wext | apply Exts.drew | apply Exts.drewN))) HG.out hlt HCD.out).mono ?_); rintro e w' ⟨rfl, x6, rfl⟩)))
                  refine ⟨⟨k + 1, true, by omega, by go_num, rfl, by rw [leastK_next, HK.out]; simp [HUD.out, HVD.out, HCD.out], (by repeat (first | exact Exts.refl _ | apply Exts.andR | apply Exts.alloc | apply Exts.wext | apply Exts.drew | apply Exts.drewN))⟩, ?_⟩
                  simp [intOf]; omega
                | true =>
                  cases s2 with
                  | false =>
                    go_wp2_with (first | (go_at_call 37; ((with_reducible refine (strong37_D _ _ _ _ ps u k g _ _ (RowF.exts HP.out (by repeat (first | exact Exts.refl _ | apply Exts.andR | apply Exts.alloc | apply Exts.wext | apply Exts.drew | apply Exts.drewN))) HG.out hu HUD.out).mono ?_); rintro e w' ⟨rfl, x4, rfl⟩)) | (go_at_call 37; ((with_reducible refine (strong37_D _ _ _ _ ps v k g _ _ (RowF.exts HP.out (by repeat (first | exact Exts.refl _ | apply Exts.andR | apply Exts.alloc | apply Exts.wext | apply Exts.drew | apply Exts.drewN))) HG.out hv HVD.out).mono ?_); rintro e w' ⟨rfl, x5, rfl⟩)) | (go_at_call 37; ((with_reducible refine (strong37_D _ _ _ _ ps c' k g _ _ (RowF.exts HP.out (by repeat (first | exact Exts.refl _ | apply Exts.andR | apply Exts.alloc | apply Exts.wext | apply Exts.drew | apply Exts.drewN))) HG.out hlt HCD.out).mono ?_); rintro e w' ⟨rfl, x6, rfl⟩)))
                    refine ⟨⟨k + 1, true, by omega, by go_num, rfl, by rw [leastK_next, HK.out]; simp [HUD.out, HVD.out, HCD.out], (by repeat (first | exact Exts.refl _ | apply Exts.andR | apply Exts.alloc | apply Exts.wext | apply Exts.drew | apply Exts.drewN))⟩, ?_⟩
                    simp [intOf]; omega
                  | true =>
                    cases s3 with
                    | true =>
                      go_wp2_with (first | (go_at_call 37; ((with_reducible refine (strong37_D _ _ _ _ ps u k g _ _ (RowF.exts HP.out (by repeat (first | exact Exts.refl _ | apply Exts.andR | apply Exts.alloc | apply Exts.wext | apply Exts.drew | apply Exts.drewN))) HG.out hu HUD.out).mono ?_); rintro e w' ⟨rfl, x4, rfl⟩)) | (go_at_call 37; ((with_reducible refine (strong37_D _ _ _ _ ps v k g _ _ (RowF.exts HP.out (by repeat (first | exact Exts.refl _ | apply Exts.andR | apply Exts.alloc | apply Exts.wext | apply Exts.drew | apply Exts.drewN))) HG.out hv HVD.out).mono ?_); rintro e w' ⟨rfl, x5, rfl⟩)) | (go_at_call 37; ((with_reducible refine (strong37_D _ _ _ _ ps c' k g _ _ (RowF.exts HP.out (by repeat (first | exact Exts.refl _ | apply Exts.andR | apply Exts.alloc | apply Exts.wext | apply Exts.drew | apply Exts.drewN))) HG.out hlt HCD.out).mono ?_); rintro e w' ⟨rfl, x6, rfl⟩)))
                      refine ⟨⟨k + 1, true, by omega, by go_num, rfl, by rw [leastK_next, HK.out]; simp [HUD.out, HVD.out, HCD.out], (by repeat (first | exact Exts.refl _ | apply Exts.andR | apply Exts.alloc | apply Exts.wext | apply Exts.drew | apply Exts.drewN))⟩, ?_⟩
                      simp [intOf]; omega
                    | false =>
                      go_wp2_with (first | (go_at_call 37; ((with_reducible refine (strong37_D _ _ _ _ ps u k g _ _ (RowF.exts HP.out (by repeat (first | exact Exts.refl _ | apply Exts.andR | apply Exts.alloc | apply Exts.wext | apply Exts.drew | apply Exts.drewN))) HG.out hu HUD.out).mono ?_); rintro e w' ⟨rfl, x4, rfl⟩)) | (go_at_call 37; ((with_reducible refine (strong37_D _ _ _ _ ps v k g _ _ (RowF.exts HP.out (by repeat (first | exact Exts.refl _ | apply Exts.andR | apply Exts.alloc | apply Exts.wext | apply Exts.drew | apply Exts.drewN))) HG.out hv HVD.out).mono ?_); rintro e w' ⟨rfl, x5, rfl⟩)) | (go_at_call 37; ((with_reducible refine (strong37_D _ _ _ _ ps c' k g _ _ (RowF.exts HP.out (by repeat (first | exact Exts.refl _ | apply Exts.andR | apply Exts.alloc | apply Exts.wext | apply Exts.drew | apply Exts.drewN))) HG.out hlt HCD.out).mono ?_); rintro e w' ⟨rfl, x6, rfl⟩)))
                      refine ⟨⟨k + 1, false, by omega, by go_num, rfl, by rw [leastK_next, HK.out]; simp [HUD.out, HVD.out, HCD.out], (by repeat (first | exact Exts.refl _ | apply Exts.andR | apply Exts.alloc | apply Exts.wext | apply Exts.drew | apply Exts.drewN))⟩, ?_⟩
                      simp [intOf]; omega
              · obtain rfl : m = k := by omega
                have HR := Lib.hid (show joinF g m u v = some c' from find_range hlt HZ.out HK.out)
                go_wp2
                go_ret2
                exact ⟨by rw [HR.out]; rfl, HX.out.trans (by repeat (first | exact Exts.refl _ | apply Exts.andR | apply Exts.alloc | apply Exts.wext | apply Exts.drew | apply Exts.drewN))⟩
        | true =>
          cases r2 with
          | false =>
            go_wp2_with (first | (go_at_call 37; ((with_reducible refine (strong37_D _ _ _ _ ps u c' g _ _ (RowF.exts HP.out (by repeat (first | exact Exts.refl _ | apply Exts.andR | apply Exts.alloc | apply Exts.wext | apply Exts.drew | apply Exts.drewN))) HG.out hu HUC.out).mono ?_); rintro e w' ⟨rfl, x2, rfl⟩)) | (go_at_call 37; ((with_reducible refine (strong37_D _ _ _ _ ps v c' g _ _ (RowF.exts HP.out (by repeat (first | exact Exts.refl _ | apply Exts.andR | apply Exts.alloc | apply Exts.wext | apply Exts.drew | apply Exts.drewN))) HG.out hv HVC.out).mono ?_); rintro e w' ⟨rfl, x3, rfl⟩)))
            go_loopw [9, 10] (fun l i wr => ∃ (k : Nat) (lst : Bool), k ≤ m ∧ i = .int .i64 k ∧ l = .bool lst ∧ leastK g u v c' k = lst ∧ Exts w1 wr) (fun _ i _ => m - (intOf i).toNat)
            case atStart => exact ⟨0, _, by omega, rfl, rfl, HK0.out, (by repeat (first | exact Exts.refl _ | apply Exts.andR | apply Exts.alloc | apply Exts.wext | apply Exts.drew | apply Exts.drewN))⟩
            case round =>
              obtain ⟨k, lst, hk, rfl, rfl, hl, ⟨y, rfl⟩⟩ := hrel
              have HK := Lib.hid hl
              clear hl
              cases lst with
              | false =>
                have HN := Lib.hid (least_mono hk HK.out)
                by_cases hkm : k < m
                · go_wp2
                  refine ⟨⟨c' + 1, by omega, by go_num, (by repeat (first | exact Exts.refl _ | apply Exts.andR | apply Exts.alloc | apply Exts.wext | apply Exts.drew | apply Exts.drewN)), fun z hzc => ?_⟩, ?_⟩
                  · by_cases hzc2 : z = c'
                    · rw [hzc2]; exact HN.out
                    · exact HZ.out z (by omega)
                  · simp [intOf]; omega
                · obtain rfl : m = k := by omega
                  go_wp2
                  refine ⟨⟨c' + 1, by omega, by go_num, (by repeat (first | exact Exts.refl _ | apply Exts.andR | apply Exts.alloc | apply Exts.wext | apply Exts.drew | apply Exts.drewN)), fun z hzc => ?_⟩, ?_⟩
                  · by_cases hzc2 : z = c'
                    · rw [hzc2]; exact HN.out
                    · exact HZ.out z (by omega)
                  · simp [intOf]; omega
              | true =>
                by_cases hkm : k < m
                · obtain ⟨s1, hs1⟩ : ∃ r, g u k = r := ⟨_, rfl⟩
                  obtain ⟨s2, hs2⟩ : ∃ r, g v k = r := ⟨_, rfl⟩
                  obtain ⟨s3, hs3⟩ : ∃ r, g c' k = r := ⟨_, rfl⟩
                  have HUD := Lib.hid hs1
                  have HVD := Lib.hid hs2
                  have HCD := Lib.hid hs3
                  clear hs1 hs2 hs3
                  cases s1 with
                  | false =>
                    go_wp2_with (first | (go_at_call 37; ((with_reducible refine (strong37_D _ _ _ _ ps u k g _ _ (RowF.exts HP.out (by repeat (first | exact Exts.refl _ | apply Exts.andR | apply Exts.alloc | apply Exts.wext | apply Exts.drew | apply Exts.drewN))) HG.out hu HUD.out).mono ?_); rintro e w' ⟨rfl, x4, rfl⟩)) | (go_at_call 37; ((with_reducible refine (strong37_D _ _ _ _ ps v k g _ _ (RowF.exts HP.out (by repeat (first | exact Exts.refl _ | apply Exts.andR | apply Exts.alloc | apply Exts.wext | apply Exts.drew | apply Exts.drewN))) HG.out hv HVD.out).mono ?_); rintro e w' ⟨rfl, x5, rfl⟩)) | (go_at_call 37; ((with_reducible refine (strong37_D _ _ _ _ ps c' k g _ _ (RowF.exts HP.out (by repeat (first | exact Exts.refl _ | apply Exts.andR | apply Exts.alloc | apply Exts.wext | apply Exts.drew | apply Exts.drewN))) HG.out hlt HCD.out).mono ?_); rintro e w' ⟨rfl, x6, rfl⟩)))
                    refine ⟨⟨k + 1, true, by omega, by go_num, rfl, by rw [leastK_next, HK.out]; simp [HUD.out, HVD.out, HCD.out], (by repeat (first | exact Exts.refl _ | apply Exts.andR | apply Exts.alloc | apply Exts.wext | apply Exts.drew | apply Exts.drewN))⟩, ?_⟩
                    simp [intOf]; omega
                  | true =>
                    cases s2 with
                    | false =>
                      go_wp2_with (first | (go_at_call 37; ((with_reducible refine (strong37_D _ _ _ _ ps u k g _ _ (RowF.exts HP.out (by repeat (first | exact Exts.refl _ | apply Exts.andR | apply Exts.alloc | apply Exts.wext | apply Exts.drew | apply Exts.drewN))) HG.out hu HUD.out).mono ?_); rintro e w' ⟨rfl, x4, rfl⟩)) | (go_at_call 37; ((with_reducible refine (strong37_D _ _ _ _ ps v k g _ _ (RowF.exts HP.out (by repeat (first | exact Exts.refl _ | apply Exts.andR | apply Exts.alloc | apply Exts.wext | apply Exts.drew | apply Exts.drewN))) HG.out hv HVD.out).mono ?_); rintro e w' ⟨rfl, x5, rfl⟩)) | (go_at_call 37; ((with_reducible refine (strong37_D _ _ _ _ ps c' k g _ _ (RowF.exts HP.out (by repeat (first | exact Exts.refl _ | apply Exts.andR | apply Exts.alloc | apply Exts.wext | apply Exts.drew | apply Exts.drewN))) HG.out hlt HCD.out).mono ?_); rintro e w' ⟨rfl, x6, rfl⟩)))
                      refine ⟨⟨k + 1, true, by omega, by go_num, rfl, by rw [leastK_next, HK.out]; simp [HUD.out, HVD.out, HCD.out], (by repeat (first | exact Exts.refl _ | apply Exts.andR | apply Exts.alloc | apply Exts.wext | apply Exts.drew | apply Exts.drewN))⟩, ?_⟩
                      simp [intOf]; omega
                    | true =>
                      cases s3 with
                      | true =>
                        go_wp2_with (first | (go_at_call 37; ((with_reducible refine (strong37_D _ _ _ _ ps u k g _ _ (RowF.exts HP.out (by repeat (first | exact Exts.refl _ | apply Exts.andR | apply Exts.alloc | apply Exts.wext | apply Exts.drew | apply Exts.drewN))) HG.out hu HUD.out).mono ?_); rintro e w' ⟨rfl, x4, rfl⟩)) | (go_at_call 37; ((with_reducible refine (strong37_D _ _ _ _ ps v k g _ _ (RowF.exts HP.out (by repeat (first | exact Exts.refl _ | apply Exts.andR | apply Exts.alloc | apply Exts.wext | apply Exts.drew | apply Exts.drewN))) HG.out hv HVD.out).mono ?_); rintro e w' ⟨rfl, x5, rfl⟩)) | (go_at_call 37; ((with_reducible refine (strong37_D _ _ _ _ ps c' k g _ _ (RowF.exts HP.out (by repeat (first | exact Exts.refl _ | apply Exts.andR | apply Exts.alloc | apply Exts.wext | apply Exts.drew | apply Exts.drewN))) HG.out hlt HCD.out).mono ?_); rintro e w' ⟨rfl, x6, rfl⟩)))
                        refine ⟨⟨k + 1, true, by omega, by go_num, rfl, by rw [leastK_next, HK.out]; simp [HUD.out, HVD.out, HCD.out], (by repeat (first | exact Exts.refl _ | apply Exts.andR | apply Exts.alloc | apply Exts.wext | apply Exts.drew | apply Exts.drewN))⟩, ?_⟩
                        simp [intOf]; omega
                      | false =>
                        go_wp2_with (first | (go_at_call 37; ((with_reducible refine (strong37_D _ _ _ _ ps u k g _ _ (RowF.exts HP.out (by repeat (first | exact Exts.refl _ | apply Exts.andR | apply Exts.alloc | apply Exts.wext | apply Exts.drew | apply Exts.drewN))) HG.out hu HUD.out).mono ?_); rintro e w' ⟨rfl, x4, rfl⟩)) | (go_at_call 37; ((with_reducible refine (strong37_D _ _ _ _ ps v k g _ _ (RowF.exts HP.out (by repeat (first | exact Exts.refl _ | apply Exts.andR | apply Exts.alloc | apply Exts.wext | apply Exts.drew | apply Exts.drewN))) HG.out hv HVD.out).mono ?_); rintro e w' ⟨rfl, x5, rfl⟩)) | (go_at_call 37; ((with_reducible refine (strong37_D _ _ _ _ ps c' k g _ _ (RowF.exts HP.out (by repeat (first | exact Exts.refl _ | apply Exts.andR | apply Exts.alloc | apply Exts.wext | apply Exts.drew | apply Exts.drewN))) HG.out hlt HCD.out).mono ?_); rintro e w' ⟨rfl, x6, rfl⟩)))
                        refine ⟨⟨k + 1, false, by omega, by go_num, rfl, by rw [leastK_next, HK.out]; simp [HUD.out, HVD.out, HCD.out], (by repeat (first | exact Exts.refl _ | apply Exts.andR | apply Exts.alloc | apply Exts.wext | apply Exts.drew | apply Exts.drewN))⟩, ?_⟩
                        simp [intOf]; omega
                · obtain rfl : m = k := by omega
                  have HR := Lib.hid (show joinF g m u v = some c' from find_range hlt HZ.out HK.out)
                  go_wp2
                  go_ret2
                  exact ⟨by rw [HR.out]; rfl, HX.out.trans (by repeat (first | exact Exts.refl _ | apply Exts.andR | apply Exts.alloc | apply Exts.wext | apply Exts.drew | apply Exts.drewN))⟩
          | true =>
            go_wp2_with (first | (go_at_call 37; ((with_reducible refine (strong37_D _ _ _ _ ps u c' g _ _ (RowF.exts HP.out (by repeat (first | exact Exts.refl _ | apply Exts.andR | apply Exts.alloc | apply Exts.wext | apply Exts.drew | apply Exts.drewN))) HG.out hu HUC.out).mono ?_); rintro e w' ⟨rfl, x2, rfl⟩)) | (go_at_call 37; ((with_reducible refine (strong37_D _ _ _ _ ps v c' g _ _ (RowF.exts HP.out (by repeat (first | exact Exts.refl _ | apply Exts.andR | apply Exts.alloc | apply Exts.wext | apply Exts.drew | apply Exts.drewN))) HG.out hv HVC.out).mono ?_); rintro e w' ⟨rfl, x3, rfl⟩)))
            go_loopw [9, 10] (fun l i wr => ∃ (k : Nat) (lst : Bool), k ≤ m ∧ i = .int .i64 k ∧ l = .bool lst ∧ leastK g u v c' k = lst ∧ Exts w1 wr) (fun _ i _ => m - (intOf i).toNat)
            case atStart => exact ⟨0, _, by omega, rfl, rfl, HK0.out, (by repeat (first | exact Exts.refl _ | apply Exts.andR | apply Exts.alloc | apply Exts.wext | apply Exts.drew | apply Exts.drewN))⟩
            case round =>
              obtain ⟨k, lst, hk, rfl, rfl, hl, ⟨y, rfl⟩⟩ := hrel
              have HK := Lib.hid hl
              clear hl
              cases lst with
              | false =>
                have HN := Lib.hid (least_mono hk HK.out)
                by_cases hkm : k < m
                · go_wp2
                  refine ⟨⟨c' + 1, by omega, by go_num, (by repeat (first | exact Exts.refl _ | apply Exts.andR | apply Exts.alloc | apply Exts.wext | apply Exts.drew | apply Exts.drewN)), fun z hzc => ?_⟩, ?_⟩
                  · by_cases hzc2 : z = c'
                    · rw [hzc2]; exact HN.out
                    · exact HZ.out z (by omega)
                  · simp [intOf]; omega
                · obtain rfl : m = k := by omega
                  go_wp2
                  refine ⟨⟨c' + 1, by omega, by go_num, (by repeat (first | exact Exts.refl _ | apply Exts.andR | apply Exts.alloc | apply Exts.wext | apply Exts.drew | apply Exts.drewN)), fun z hzc => ?_⟩, ?_⟩
                  · by_cases hzc2 : z = c'
                    · rw [hzc2]; exact HN.out
                    · exact HZ.out z (by omega)
                  · simp [intOf]; omega
              | true =>
                by_cases hkm : k < m
                · obtain ⟨s1, hs1⟩ : ∃ r, g u k = r := ⟨_, rfl⟩
                  obtain ⟨s2, hs2⟩ : ∃ r, g v k = r := ⟨_, rfl⟩
                  obtain ⟨s3, hs3⟩ : ∃ r, g c' k = r := ⟨_, rfl⟩
                  have HUD := Lib.hid hs1
                  have HVD := Lib.hid hs2
                  have HCD := Lib.hid hs3
                  clear hs1 hs2 hs3
                  cases s1 with
                  | false =>
                    go_wp2_with (first | (go_at_call 37; ((with_reducible refine (strong37_D _ _ _ _ ps u k g _ _ (RowF.exts HP.out (by repeat (first | exact Exts.refl _ | apply Exts.andR | apply Exts.alloc | apply Exts.wext | apply Exts.drew | apply Exts.drewN))) HG.out hu HUD.out).mono ?_); rintro e w' ⟨rfl, x4, rfl⟩)) | (go_at_call 37; ((with_reducible refine (strong37_D _ _ _ _ ps v k g _ _ (RowF.exts HP.out (by repeat (first | exact Exts.refl _ | apply Exts.andR | apply Exts.alloc | apply Exts.wext | apply Exts.drew | apply Exts.drewN))) HG.out hv HVD.out).mono ?_); rintro e w' ⟨rfl, x5, rfl⟩)) | (go_at_call 37; ((with_reducible refine (strong37_D _ _ _ _ ps c' k g _ _ (RowF.exts HP.out (by repeat (first | exact Exts.refl _ | apply Exts.andR | apply Exts.alloc | apply Exts.wext | apply Exts.drew | apply Exts.drewN))) HG.out hlt HCD.out).mono ?_); rintro e w' ⟨rfl, x6, rfl⟩)))
                    refine ⟨⟨k + 1, true, by omega, by go_num, rfl, by rw [leastK_next, HK.out]; simp [HUD.out, HVD.out, HCD.out], (by repeat (first | exact Exts.refl _ | apply Exts.andR | apply Exts.alloc | apply Exts.wext | apply Exts.drew | apply Exts.drewN))⟩, ?_⟩
                    simp [intOf]; omega
                  | true =>
                    cases s2 with
                    | false =>
                      go_wp2_with (first | (go_at_call 37; ((with_reducible refine (strong37_D _ _ _ _ ps u k g _ _ (RowF.exts HP.out (by repeat (first | exact Exts.refl _ | apply Exts.andR | apply Exts.alloc | apply Exts.wext | apply Exts.drew | apply Exts.drewN))) HG.out hu HUD.out).mono ?_); rintro e w' ⟨rfl, x4, rfl⟩)) | (go_at_call 37; ((with_reducible refine (strong37_D _ _ _ _ ps v k g _ _ (RowF.exts HP.out (by repeat (first | exact Exts.refl _ | apply Exts.andR | apply Exts.alloc | apply Exts.wext | apply Exts.drew | apply Exts.drewN))) HG.out hv HVD.out).mono ?_); rintro e w' ⟨rfl, x5, rfl⟩)) | (go_at_call 37; ((with_reducible refine (strong37_D _ _ _ _ ps c' k g _ _ (RowF.exts HP.out (by repeat (first | exact Exts.refl _ | apply Exts.andR | apply Exts.alloc | apply Exts.wext | apply Exts.drew | apply Exts.drewN))) HG.out hlt HCD.out).mono ?_); rintro e w' ⟨rfl, x6, rfl⟩)))
                      refine ⟨⟨k + 1, true, by omega, by go_num, rfl, by rw [leastK_next, HK.out]; simp [HUD.out, HVD.out, HCD.out], (by repeat (first | exact Exts.refl _ | apply Exts.andR | apply Exts.alloc | apply Exts.wext | apply Exts.drew | apply Exts.drewN))⟩, ?_⟩
                      simp [intOf]; omega
                    | true =>
                      cases s3 with
                      | true =>
                        go_wp2_with (first | (go_at_call 37; ((with_reducible refine (strong37_D _ _ _ _ ps u k g _ _ (RowF.exts HP.out (by repeat (first | exact Exts.refl _ | apply Exts.andR | apply Exts.alloc | apply Exts.wext | apply Exts.drew | apply Exts.drewN))) HG.out hu HUD.out).mono ?_); rintro e w' ⟨rfl, x4, rfl⟩)) | (go_at_call 37; ((with_reducible refine (strong37_D _ _ _ _ ps v k g _ _ (RowF.exts HP.out (by repeat (first | exact Exts.refl _ | apply Exts.andR | apply Exts.alloc | apply Exts.wext | apply Exts.drew | apply Exts.drewN))) HG.out hv HVD.out).mono ?_); rintro e w' ⟨rfl, x5, rfl⟩)) | (go_at_call 37; ((with_reducible refine (strong37_D _ _ _ _ ps c' k g _ _ (RowF.exts HP.out (by repeat (first | exact Exts.refl _ | apply Exts.andR | apply Exts.alloc | apply Exts.wext | apply Exts.drew | apply Exts.drewN))) HG.out hlt HCD.out).mono ?_); rintro e w' ⟨rfl, x6, rfl⟩)))
                        refine ⟨⟨k + 1, true, by omega, by go_num, rfl, by rw [leastK_next, HK.out]; simp [HUD.out, HVD.out, HCD.out], (by repeat (first | exact Exts.refl _ | apply Exts.andR | apply Exts.alloc | apply Exts.wext | apply Exts.drew | apply Exts.drewN))⟩, ?_⟩
                        simp [intOf]; omega
                      | false =>
                        go_wp2_with (first | (go_at_call 37; ((with_reducible refine (strong37_D _ _ _ _ ps u k g _ _ (RowF.exts HP.out (by repeat (first | exact Exts.refl _ | apply Exts.andR | apply Exts.alloc | apply Exts.wext | apply Exts.drew | apply Exts.drewN))) HG.out hu HUD.out).mono ?_); rintro e w' ⟨rfl, x4, rfl⟩)) | (go_at_call 37; ((with_reducible refine (strong37_D _ _ _ _ ps v k g _ _ (RowF.exts HP.out (by repeat (first | exact Exts.refl _ | apply Exts.andR | apply Exts.alloc | apply Exts.wext | apply Exts.drew | apply Exts.drewN))) HG.out hv HVD.out).mono ?_); rintro e w' ⟨rfl, x5, rfl⟩)) | (go_at_call 37; ((with_reducible refine (strong37_D _ _ _ _ ps c' k g _ _ (RowF.exts HP.out (by repeat (first | exact Exts.refl _ | apply Exts.andR | apply Exts.alloc | apply Exts.wext | apply Exts.drew | apply Exts.drewN))) HG.out hlt HCD.out).mono ?_); rintro e w' ⟨rfl, x6, rfl⟩)))
                        refine ⟨⟨k + 1, false, by omega, by go_num, rfl, by rw [leastK_next, HK.out]; simp [HUD.out, HVD.out, HCD.out], (by repeat (first | exact Exts.refl _ | apply Exts.andR | apply Exts.alloc | apply Exts.wext | apply Exts.drew | apply Exts.drewN))⟩, ?_⟩
                        simp [intOf]; omega
                · obtain rfl : m = k := by omega
                  have HR := Lib.hid (show joinF g m u v = some c' from find_range hlt HZ.out HK.out)
                  go_wp2
                  go_ret2
                  exact ⟨by rw [HR.out]; rfl, HX.out.trans (by repeat (first | exact Exts.refl _ | apply Exts.andR | apply Exts.alloc | apply Exts.wext | apply Exts.drew | apply Exts.drewN))⟩
      · obtain rfl : m = c' := by omega
        have HR := Lib.hid (show joinF g m u v = none by
          unfold joinF
          rw [List.find?_eq_none]
          intro z hz
          rw [HZ.out z (List.mem_range.1 hz)]
          simp)
        go_wp2
        go_ret2
        exact ⟨by rw [HR.out]; rfl, HX.out.trans (by repeat (first | exact Exts.refl _ | apply Exts.andR | apply Exts.alloc | apply Exts.wext | apply Exts.drew | apply Exts.drewN))⟩
end Go.Proofs.Ytbafcfbchbjgfaa
