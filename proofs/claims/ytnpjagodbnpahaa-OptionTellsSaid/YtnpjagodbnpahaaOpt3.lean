/- Lapse, Transfer and Split of package option. Conditions: the numbers of phases are small, ints within 64 bits. -/
import Derived.Test.YtnpjagodbnpahaaOpt2
namespace Go.Proofs.Ytnpjagodbnpahaa
open Go.RowKit
set_option linter.unusedSimpArgs false
set_option linter.unusedVariables false

set_option maxRecDepth 100000
set_option maxHeartbeats 1000000 in
theorem lapse16_yes (id ho lot un : Int) (us : Int) (ao : Option Addr) (cap : Nat) (P : List PhC) (day : Int) (w : World) {S : Nat → Prop} (h : Phs S w (.slice ao P.length cap) P) (hf : Fits P) (hl : liv P.length us false = true) (hd : un < day) :
    Calls Try.prog 16 #[rightV id ho lot (.slice ao P.length cap) us un false, .int .i64 day] w fun e w' => ∃ ao' c', e = .returned (.tuple #[rightV id ho lot (.slice ao' P.length c') us un true, .bool true]) ∧ Exts w w' ∧ Phs (fun b => w.heap.size ≤ b) w' (.slice ao' P.length c') P := by
  have hn := hf.1
  have H := Lib.hid h
  have HF := Lib.hid hf
  have HL := Lib.hid hl
  clear h hf hl
  go_enter Try.func16, Try.ntmps16
  go_wp2_with (first | (go_at_call 10; refine (living10_eq _ _ _ _ _ _ _ _ _ true _ (by omega) HL.out).mono ?_; rintro e w' ⟨rfl, x, rfl⟩) | (go_at_call 31; refine (own31 _ _ _ _ _ _ _ _ _ _ (H.out.exts (by repeat (first | exact Exts.refl _ | apply Exts.andR | apply Exts.alloc | apply Exts.wext | apply Exts.drew | apply Exts.drewN))) HF.out).mono ?_; rintro e w' ⟨ao2, c2, rfl, ⟨x3, rfl⟩, hp2⟩; replace hp2 := Phs.up (B' := w.heap.size + 2) hp2 (by simp [Nat.add_assoc]; try omega); try simp only [wext_and] at hp2))
  refine bodyPost_ret (v := .tuple #[rightV id ho lot (.slice ao2 P.length c2) us un true, .bool true]) (by simp [results, go_sem]) rfl ⟨ao2, c2, rfl, (by repeat (first | exact Exts.refl _ | apply Exts.andR | apply Exts.alloc | apply Exts.wext | apply Exts.drew | apply Exts.drewN)), ?_⟩
  exact (hp2.keeps (by repeat (first | (refine Alike.keeps ?_; (repeat (first | (refine Alike.base ?_ ?_ <;> (simp; done)) | refine Alike.wext ?_ rfl | apply Alike.alloc)); done) | apply Keeps.drew | apply Keeps.andR | apply Keeps.alloc | apply Keeps.wext))).up (by omega)

set_option maxHeartbeats 1000000 in
theorem lapse16_no (id ho lot un : Int) (us : Int) (ov : Bool) (ao : Option Addr) (cap : Nat) (P : List PhC) (day : Int) (w : World) {S : Nat → Prop} (h : Phs S w (.slice ao P.length cap) P) (hf : Fits P) (hl : (liv P.length us ov && decide (un < day)) = false) :
    Calls Try.prog 16 #[rightV id ho lot (.slice ao P.length cap) us un ov, .int .i64 day] w fun e w' => ∃ ao' c', e = .returned (.tuple #[rightV id ho lot (.slice ao' P.length c') us un ov, .bool false]) ∧ Exts w w' ∧ Phs (fun b => w.heap.size ≤ b) w' (.slice ao' P.length c') P := by
  have hn := hf.1
  have H := Lib.hid h
  have HF := Lib.hid hf
  cases hb : liv P.length us ov with
  | false =>
    have HL := Lib.hid hb
    clear h hf hl hb
    cases ov with
    | false =>
      go_enter Try.func16, Try.ntmps16
      go_wp2_with (first | (go_at_call 10; refine (living10_eq _ _ _ _ _ _ _ _ _ _ _ (by omega) HL.out).mono ?_; rintro e w' ⟨rfl, x, rfl⟩) | (go_at_call 31; refine (own31 _ _ _ _ _ _ _ _ _ _ (H.out.exts (by repeat (first | exact Exts.refl _ | apply Exts.andR | apply Exts.alloc | apply Exts.wext | apply Exts.drew | apply Exts.drewN))) HF.out).mono ?_; rintro e w' ⟨ao2, c2, rfl, ⟨x3, rfl⟩, hp2⟩; replace hp2 := Phs.up (B' := w.heap.size + 2) hp2 (by simp [Nat.add_assoc]; try omega); try simp only [wext_and] at hp2))
      refine bodyPost_ret (v := .tuple #[rightV id ho lot (.slice ao2 P.length c2) us un _, .bool false]) (by simp [results, go_sem]) rfl ⟨ao2, c2, rfl, (by repeat (first | exact Exts.refl _ | apply Exts.andR | apply Exts.alloc | apply Exts.wext | apply Exts.drew | apply Exts.drewN)), ?_⟩
      exact (hp2.keeps (by repeat (first | (refine Alike.keeps ?_; (repeat (first | (refine Alike.base ?_ ?_ <;> (simp; done)) | refine Alike.wext ?_ rfl | apply Alike.alloc)); done) | apply Keeps.drew | apply Keeps.andR | apply Keeps.alloc | apply Keeps.wext))).up (by omega)
    | true =>
      go_enter Try.func16, Try.ntmps16
      go_wp2_with (first | (go_at_call 10; refine (living10_eq _ _ _ _ _ _ _ _ _ _ _ (by omega) HL.out).mono ?_; rintro e w' ⟨rfl, x, rfl⟩) | (go_at_call 31; refine (own31 _ _ _ _ _ _ _ _ _ _ (H.out.exts (by repeat (first | exact Exts.refl _ | apply Exts.andR | apply Exts.alloc | apply Exts.wext | apply Exts.drew | apply Exts.drewN))) HF.out).mono ?_; rintro e w' ⟨ao2, c2, rfl, ⟨x3, rfl⟩, hp2⟩; replace hp2 := Phs.up (B' := w.heap.size + 2) hp2 (by simp [Nat.add_assoc]; try omega); try simp only [wext_and] at hp2))
      refine bodyPost_ret (v := .tuple #[rightV id ho lot (.slice ao2 P.length c2) us un _, .bool false]) (by simp [results, go_sem]) rfl ⟨ao2, c2, rfl, (by repeat (first | exact Exts.refl _ | apply Exts.andR | apply Exts.alloc | apply Exts.wext | apply Exts.drew | apply Exts.drewN)), ?_⟩
      exact (hp2.keeps (by repeat (first | (refine Alike.keeps ?_; (repeat (first | (refine Alike.base ?_ ?_ <;> (simp; done)) | refine Alike.wext ?_ rfl | apply Alike.alloc)); done) | apply Keeps.drew | apply Keeps.andR | apply Keeps.alloc | apply Keeps.wext))).up (by omega)
  | true =>
    rw [hb] at hl
    have b1 : decide (un < day) = false := by simpa using hl
    have HL := Lib.hid hb
    have e := hb
    rw [liv_iff] at e
    obtain ⟨rfl, _, _⟩ := e
    clear h hf hl hb
    go_enter Try.func16, Try.ntmps16
    go_wp2_with (first | (go_at_call 10; refine (living10_eq _ _ _ _ _ _ _ _ _ _ _ (by omega) HL.out).mono ?_; rintro e w' ⟨rfl, x, rfl⟩) | (go_at_call 31; refine (own31 _ _ _ _ _ _ _ _ _ _ (H.out.exts (by repeat (first | exact Exts.refl _ | apply Exts.andR | apply Exts.alloc | apply Exts.wext | apply Exts.drew | apply Exts.drewN))) HF.out).mono ?_; rintro e w' ⟨ao2, c2, rfl, ⟨x3, rfl⟩, hp2⟩; replace hp2 := Phs.up (B' := w.heap.size + 2) hp2 (by simp [Nat.add_assoc]; try omega); try simp only [wext_and] at hp2))
    refine bodyPost_ret (v := .tuple #[rightV id ho lot (.slice ao2 P.length c2) us un _, .bool false]) (by simp [results, go_sem]) rfl ⟨ao2, c2, rfl, (by repeat (first | exact Exts.refl _ | apply Exts.andR | apply Exts.alloc | apply Exts.wext | apply Exts.drew | apply Exts.drewN)), ?_⟩
    exact (hp2.keeps (by repeat (first | (refine Alike.keeps ?_; (repeat (first | (refine Alike.base ?_ ?_ <;> (simp; done)) | refine Alike.wext ?_ rfl | apply Alike.alloc)); done) | apply Keeps.drew | apply Keeps.andR | apply Keeps.alloc | apply Keeps.wext))).up (by omega)

set_option maxHeartbeats 1000000 in
theorem transfer22_ok (id ho lot un : Int) (us : Int) (ao : Option Addr) (cap : Nat) (P : List PhC) (n : Int) (w : World) {S : Nat → Prop} (h : Phs S w (.slice ao P.length cap) P) (hf : Fits P) (hl : liv P.length us false = true) (hd : 0 ≤ n) :
    Calls Try.prog 22 #[rightV id ho lot (.slice ao P.length cap) us un false, .int .i64 n] w fun e w' => ∃ ao' c', e = .returned (.tuple #[rightV id n lot (.slice ao' P.length c') us un false, .int .i64 0]) ∧ Exts w w' ∧ Phs (fun b => w.heap.size ≤ b) w' (.slice ao' P.length c') P := by
  have hn := hf.1
  have H := Lib.hid h
  have HF := Lib.hid hf
  have HL := Lib.hid hl
  have b1 : decide (n < 0) = false := by simp; omega
  clear h hf hl
  go_enter Try.func22, Try.ntmps22
  go_wp2_with (first | (go_at_call 10; refine (living10_eq _ _ _ _ _ _ _ _ _ true _ (by omega) HL.out).mono ?_; rintro e w' ⟨rfl, x, rfl⟩) | (go_at_call 31; refine (own31 _ _ _ _ _ _ _ _ _ _ (H.out.exts (by repeat (first | exact Exts.refl _ | apply Exts.andR | apply Exts.alloc | apply Exts.wext | apply Exts.drew | apply Exts.drewN))) HF.out).mono ?_; rintro e w' ⟨ao2, c2, rfl, ⟨x3, rfl⟩, hp2⟩; replace hp2 := Phs.up (B' := w.heap.size + 2) hp2 (by simp [Nat.add_assoc]; try omega); try simp only [wext_and] at hp2))
  refine bodyPost_ret (v := .tuple #[rightV id n lot (.slice ao2 P.length c2) us un false, .int .i64 0]) (by simp [results, go_sem]) rfl ⟨ao2, c2, rfl, (by repeat (first | exact Exts.refl _ | apply Exts.andR | apply Exts.alloc | apply Exts.wext | apply Exts.drew | apply Exts.drewN)), ?_⟩
  exact (hp2.keeps (by repeat (first | (refine Alike.keeps ?_; (repeat (first | (refine Alike.base ?_ ?_ <;> (simp; done)) | refine Alike.wext ?_ rfl | apply Alike.alloc)); done) | apply Keeps.drew | apply Keeps.andR | apply Keeps.alloc | apply Keeps.wext))).up (by omega)

set_option maxHeartbeats 1000000 in
theorem transfer22_spent (id ho lot un us : Int) (ov : Bool) (ao : Option Addr) (cap k : Nat) (n : Int) (w : World) (hn : k ≤ 100000) (hl : liv k us ov = false) :
    Calls Try.prog 22 #[rightV id ho lot (.slice ao k cap) us un ov, .int .i64 n] w fun e w' => e = .returned (.tuple #[right0, .int .i64 22]) ∧ Exts w w' := by
  have HL := Lib.hid hl
  clear hl
  go_enter Try.func22, Try.ntmps22
  go_wp2_with (first | (go_at_call 10; refine (living10_eq _ _ _ _ _ _ _ _ _ false _ (by omega) HL.out).mono ?_; rintro e w' ⟨rfl, x, rfl⟩))
  refine bodyPost_ret (v := .tuple #[right0, .int .i64 22]) (by simp [results, go_sem]) rfl ⟨rfl, (by repeat (first | exact Exts.refl _ | apply Exts.andR | apply Exts.alloc | apply Exts.wext | apply Exts.drew | apply Exts.drewN))⟩

set_option maxHeartbeats 1000000 in
theorem transfer22_arg (id ho lot un us : Int) (ov : Bool) (ao : Option Addr) (cap k : Nat) (n : Int) (w : World) (hn : k ≤ 100000) (hl : liv k us ov = true) (hd : n < 0) :
    Calls Try.prog 22 #[rightV id ho lot (.slice ao k cap) us un ov, .int .i64 n] w fun e w' => e = .returned (.tuple #[right0, .int .i64 1]) ∧ Exts w w' := by
  have HL := Lib.hid hl
  clear hl
  go_enter Try.func22, Try.ntmps22
  go_wp2_with (first | (go_at_call 10; refine (living10_eq _ _ _ _ _ _ _ _ _ true _ (by omega) HL.out).mono ?_; rintro e w' ⟨rfl, x, rfl⟩))
  refine bodyPost_ret (v := .tuple #[right0, .int .i64 1]) (by simp [results, go_sem]) rfl ⟨rfl, (by repeat (first | exact Exts.refl _ | apply Exts.andR | apply Exts.alloc | apply Exts.wext | apply Exts.drew | apply Exts.drewN))⟩
end Go.Proofs.Ytnpjagodbnpahaa
