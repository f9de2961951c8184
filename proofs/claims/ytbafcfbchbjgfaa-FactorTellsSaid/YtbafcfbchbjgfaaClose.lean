/- closed of package factor. -/
import Derived.Test.YtbafcfbchbjgfaaClosePlain
namespace Go.Proofs.Ytbafcfbchbjgfaa
open Go.RowKit
set_option linter.unusedSimpArgs false
set_option linter.unusedVariables false

theorem reach40_D (f : Rel) (w : World) : Calls Try.prog 40 #[.agg (matC f)] w fun e w' => e = .returned (.agg (matC (clR f))) ∧ Exts w w' :=
  (reach40 f w).mono fun e w' ⟨g, he, h1, h2, hx⟩ => ⟨by rw [he, clR_mat h1 h2], hx⟩
theorem res52b {fn : Func} {p q : Tmp} (h : fn.results = #[.cell p 52, .tmp q]) (tmps : Array Value) (w : World) (b : Nat) (f : Rel) (v : Value) (hp : tmps.getD p undef = .pointer (some ⟨b, 0, none⟩)) (hq : tmps.getD q undef = v) (hr : isRow w b 144) (hw : rowOf w b = matC f) :
    (results fn tmps).run Try.prog w = .ok (.tuple #[.agg (matC f), v]) w := by
  have hl : (loadVar 52 ⟨b, 0, none⟩).run Try.prog w = .ok (.agg (matC f)) w := by
    rw [← hw]
    exact load52 w b hr
  have hp' : tmps[p]?.getD undef = .pointer (some ⟨b, 0, none⟩) := by simpa using hp
  have hq' : tmps[q]?.getD undef = v := by simpa using hq
  simp [results, h, hp', hq', asAddr, hl]
set_option maxRecDepth 100000
set_option maxHeartbeats 1000000
theorem closed31 {S : Nat → Prop} (V : Int) (po : Option Addr) (n c : Nat) (ps : List Pr) (w : World) (h : Prs S w po n c ps) :
    Calls Try.prog 31 #[.agg #[.int .i64 V, .slice po n c]] w fun e w' => e = .returned (.tuple #[.agg (matC (closedD V ps).1), .bool (closedD V ps).2]) ∧ Exts w w' := by
  cases hv : validB V ps with
  | false =>
    have HV := Lib.hid hv
    have HR := Lib.hid (closed_no (V := V) (ps := ps) (.inl hv))
    have H := Lib.hid h
    clear hv h
    go_enter Try.func31, Try.ntmps31
    go_wp2_with (first | (go_at_call 32; ((with_reducible refine (valid32 _ _ _ _ ps _ (RowF.exts H.out (by repeat (first | exact Exts.refl _ | apply Exts.andR | apply Exts.alloc | apply Exts.wext | apply Exts.drew | apply Exts.drewN)))).mono ?_); rintro e w' ⟨rfl, x1, rfl⟩; rw [HV.out])))
    refine bodyPost_ret (v := .tuple #[.agg (matC noRel), .bool false]) (res52b rfl _ _ _ _ _ rfl rfl (by simp [go_sem]) (by simp [go_sem])) rfl ⟨by rw [HR.out], (by repeat (first | exact Exts.refl _ | apply Exts.andR | apply Exts.alloc | apply Exts.wext | apply Exts.drew | apply Exts.drewN))⟩
  | true =>
    obtain ⟨⟨v1, v2⟩, v3, v4⟩ := valid_in hv
    obtain ⟨m, rfl⟩ : ∃ m : Nat, V = m := ⟨V.toNat, by omega⟩
    have HV := Lib.hid hv
    have HI := Lib.hid (show ∀ p ∈ ps, 0 ≤ p.1 ∧ p.1 < 12 ∧ 0 ≤ p.2 ∧ p.2 < 12 from fun p hp => by have := v4 p hp; omega)
    have H := Lib.hid h
    clear hv h v3 v4
    go_enter Try.func31, Try.ntmps31
    go_wp2_with (first | (go_at_call 32; ((with_reducible refine (valid32 _ _ _ _ ps _ (RowF.exts H.out (by repeat (first | exact Exts.refl _ | apply Exts.andR | apply Exts.alloc | apply Exts.wext | apply Exts.drew | apply Exts.drewN)))).mono ?_); rintro e w' ⟨rfl, x1, rfl⟩; rw [HV.out])) | (go_at_call 34; ((with_reducible refine (steps34 _ _ _ _ ps _ (RowF.exts H.out (by repeat (first | exact Exts.refl _ | apply Exts.andR | apply Exts.alloc | apply Exts.wext | apply Exts.drew | apply Exts.drewN))) HI.out).mono ?_); rintro e w' ⟨rfl, x2, rfl⟩)) | (go_at_call 40; ((with_reducible refine (reach40_D _ _).mono ?_); rintro e w' ⟨rfl, x3, rfl⟩)))
    obtain ⟨g, hg⟩ : ∃ g, clR (pairRel ps) = g := ⟨_, rfl⟩
    rw [hg]
    have HG := Lib.hid hg
    clear hg
    go_loopw [14] (fun i wr => ∃ (k : Nat), k ≤ 12 ∧ i = .int .i64 k ∧ Exts ((wext ((w.alloc (.cells #[.int .i64 m, .slice po n c] 24)).alloc (.cells (matC noRel) 52)) ((x1.and x2).and x3)).alloc (.cells (matC g) 52)) wr ∧ ∀ a, a < k → g a a = false) (fun i _ => 12 - (intOf i).toNat)
    case atStart => exact ⟨0, by omega, rfl, Exts.refl _, fun a ha => by omega⟩
    case round =>
      obtain ⟨k, hk, rfl, ⟨x, rfl⟩, hin⟩ := hrel
      have HK := Lib.hid hin
      clear hin
      by_cases hlt : k < 12
      · cases hq : g k k with
        | true =>
          have HR := Lib.hid (closed_no (V := (m : Int)) (ps := ps) (.inr (by
            simp only [cycB, List.any_eq_true, List.mem_range]
            exact ⟨k, hlt, by rw [HG.out]; exact hq⟩)))
          go_wp2
          refine bodyPost_ret (v := .tuple #[.agg (matC noRel), .bool false]) (res52b rfl _ _ _ _ _ rfl rfl (by simp [go_sem]) (by simp [go_sem])) rfl ⟨by rw [HR.out], (by repeat (first | exact Exts.refl _ | apply Exts.andR | apply Exts.alloc | apply Exts.wext | apply Exts.drew | apply Exts.drewN))⟩
        | false =>
          have HQ := Lib.hid hq
          go_wp2
          refine ⟨⟨k + 1, by omega, by go_num, (by repeat (first | exact Exts.refl _ | apply Exts.andR | apply Exts.alloc | apply Exts.wext | apply Exts.drew | apply Exts.drewN)), fun a ha => ?_⟩, ?_⟩
          · by_cases hak : a = k
            · rw [hak]; exact HQ.out
            · exact HK.out a (by omega)
          · simp [intOf]; omega
      · obtain rfl : k = 12 := by omega
        have HR := Lib.hid (closed_yes (V := (m : Int)) (ps := ps) HV.out (by
          refine Bool.eq_false_iff.2 fun hc => ?_
          simp only [cycB, List.any_eq_true, List.mem_range] at hc
          obtain ⟨a, ha, h1⟩ := hc
          rw [HG.out, HK.out a ha] at h1
          cases h1))
        go_wp2
        go_loopw [26] (fun i wr => ∃ (k : Nat), k ≤ m ∧ i = .int .i64 k ∧ Exts ((wext ((w.alloc (.cells #[.int .i64 m, .slice po n c] 24)).alloc (.cells (matC noRel) 52)) ((x1.and x2).and x3)).alloc (.cells (matC (diagR g k)) 52)) wr) (fun i _ => m - (intOf i).toNat)
        case atStart => exact ⟨0, by omega, rfl, by rw [diagR_zero]; exact (by repeat (first | exact Exts.refl _ | apply Exts.andR | apply Exts.alloc | apply Exts.wext | apply Exts.drew | apply Exts.drewN))⟩
        case round =>
          obtain ⟨k, hk, rfl, x, rfl⟩ := hrel
          by_cases hlt : k < m
          · have hlt' : k < 12 := by omega
            have HN := Lib.hid (diagR_next g k)
            go_wp2
            rw [HN.out]
            refine ⟨⟨k + 1, by omega, by go_num, (by repeat (first | exact Exts.refl _ | apply Exts.andR | apply Exts.alloc | apply Exts.wext | apply Exts.drew | apply Exts.drewN))⟩, ?_⟩
            simp [intOf]; omega
          · obtain rfl : k = m := by omega
            go_wp2
            refine bodyPost_ret (v := .tuple #[.agg (matC (diagR g k)), .bool true]) (res52b rfl _ _ _ _ _ rfl rfl (by simp [go_sem]) (by simp [go_sem])) rfl ⟨by rw [HR.out, HG.out]; rfl, (by repeat (first | exact Exts.refl _ | apply Exts.andR | apply Exts.alloc | apply Exts.wext | apply Exts.drew | apply Exts.drewN))⟩
end Go.Proofs.Ytbafcfbchbjgfaa
