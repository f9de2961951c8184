/- Living, Left, own and Use of package option. Conditions: the numbers of phases are small, ints within 64 bits. -/
import Derived.Test.YtnpjagodbnpahaaPhWalk
namespace Go.Proofs.Ytnpjagodbnpahaa
open Go.RowKit
set_option linter.unusedSimpArgs false
set_option linter.unusedVariables false

abbrev rightV (id ho lot : Int) (v : Value) (us un : Int) (ov : Bool) : Value := .agg #[.int .i64 id, .int .i64 ho, .int .i64 lot, v, .int .i64 us, .int .i64 un, .bool ov]
def liv (n : Nat) (us : Int) (ov : Bool) : Bool := !ov && (decide (0 ≤ us) && decide (us < n))
theorem liv_iff (n : Nat) (us : Int) (ov : Bool) : liv n us ov = true ↔ ov = false ∧ 0 ≤ us ∧ us < n := by
  cases ov <;> simp [liv]

set_option maxRecDepth 100000
set_option maxHeartbeats 1000000 in
theorem living10 (id ho lot us un : Int) (ov : Bool) (ao : Option Addr) (n cap : Nat) (w : World) (hn : n ≤ 9223372036854775807) :
    Calls Try.prog 10 #[rightV id ho lot (.slice ao n cap) us un ov] w fun e w' => e = .returned (.bool (liv n us ov)) ∧ Exts w w' := by
  cases ov
  · by_cases h1 : 0 ≤ us
    · by_cases h2 : us < n
      · have hr : liv n us false = true := by simp [liv, h1, h2]
        have HR := Lib.hid hr
        go_enter Try.func10, Try.ntmps10
        go_wp2
        go_ret
        exact ⟨by rw [HR.out]; rfl, (by repeat (first | exact Exts.refl _ | apply Exts.andR | apply Exts.alloc | apply Exts.wext | apply Exts.drew | apply Exts.drewN))⟩
      · have hr : liv n us false = false := by simp [liv, h2]
        have HR := Lib.hid hr
        clear hr
        have b2 : decide (us < n) = false := by simpa using h2
        go_enter Try.func10, Try.ntmps10
        go_wp2
        go_ret
        exact ⟨by rw [HR.out]; rfl, (by repeat (first | exact Exts.refl _ | apply Exts.andR | apply Exts.alloc | apply Exts.wext | apply Exts.drew | apply Exts.drewN))⟩
    · have hr : liv n us false = false := by simp [liv, h1]
      have HR := Lib.hid hr
      clear hr
      have b1 : decide (0 ≤ us) = false := by simpa using h1
      go_enter Try.func10, Try.ntmps10
      go_wp2
      go_ret
      exact ⟨by rw [HR.out]; rfl, (by repeat (first | exact Exts.refl _ | apply Exts.andR | apply Exts.alloc | apply Exts.wext | apply Exts.drew | apply Exts.drewN))⟩
  · have hr : liv n us true = false := by simp [liv]
    have HR := Lib.hid hr
    clear hr
    go_enter Try.func10, Try.ntmps10
    go_wp2
    go_ret
    exact ⟨by rw [HR.out]; rfl, (by repeat (first | exact Exts.refl _ | apply Exts.andR | apply Exts.alloc | apply Exts.wext | apply Exts.drew | apply Exts.drewN))⟩

theorem living10_eq (id ho lot us un : Int) (ov : Bool) (ao : Option Addr) (n cap : Nat) (b : Bool) (w : World) (hn : n ≤ 9223372036854775807) (h : liv n us ov = b) :
    Calls Try.prog 10 #[rightV id ho lot (.slice ao n cap) us un ov] w fun e w' => e = .returned (.bool b) ∧ Exts w w' := by
  subst h
  exact living10 id ho lot us un ov ao n cap w hn

set_option maxHeartbeats 1000000 in
/-- own: the same right, its phases in memory of their own. -/
theorem own31 (id ho lot us un : Int) (ov : Bool) (ao : Option Addr) (cap : Nat) (P : List PhC) (w : World) {S : Nat → Prop} (h : Phs S w (.slice ao P.length cap) P) (hf : Fits P) :
    Calls Try.prog 31 #[rightV id ho lot (.slice ao P.length cap) us un ov] w fun e w' => ∃ ao' c', e = .returned (rightV id ho lot (.slice ao' P.length c') us un ov) ∧ Exts w w' ∧ Phs (fun b => w.heap.size ≤ b) w' (.slice ao' P.length c') P := by
  have H := Lib.hid h
  have HF := Lib.hid hf
  clear h hf
  go_enter Try.func31, Try.ntmps31
  go_wp2_with (go_at_call 30; refine (phases30 _ P _ (H.out.exts (by repeat (first | exact Exts.refl _ | apply Exts.andR | apply Exts.alloc | apply Exts.wext | apply Exts.drew | apply Exts.drewN))) HF.out).mono ?_; rintro e w' ⟨ao', c', rfl, ⟨x, rfl⟩, hp⟩)
  refine bodyPost_ret (v := rightV id ho lot (.slice ao' P.length c') us un ov) (by simp [results, go_sem]) rfl ⟨ao', c', rfl, (by repeat (first | exact Exts.refl _ | apply Exts.andR | apply Exts.alloc | apply Exts.wext | apply Exts.drew | apply Exts.drewN)), ?_⟩
  exact ((hp.mono fun b hb => by simpa using hb).keeps (B := w.heap.size + 2) (by repeat (first | (refine Alike.keeps ?_; (repeat (first | (refine Alike.base ?_ ?_ <;> (simp; done)) | refine Alike.wext ?_ rfl | apply Alike.alloc)); done) | apply Keeps.drew | apply Keeps.andR | apply Keeps.alloc | apply Keeps.wext))).mono fun b hb => by omega
end Go.Proofs.Ytnpjagodbnpahaa
