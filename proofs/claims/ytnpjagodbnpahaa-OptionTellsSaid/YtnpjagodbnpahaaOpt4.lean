/- Split of package option. Conditions: the numbers of phases are small, ints within 64 bits. -/
import Derived.Test.YtnpjagodbnpahaaOpt3
namespace Go.Proofs.Ytnpjagodbnpahaa
open Go.RowKit
set_option linter.unusedSimpArgs false
set_option linter.unusedVariables false

set_option maxRecDepth 100000
set_option maxHeartbeats 1000000 in
theorem split17_spent (id ho lot un us : Int) (ov : Bool) (ao : Option Addr) (cap k : Nat) (at' nid : Int) (w : World) (hn : k ≤ 100000) (hl : liv k us ov = false) :
    Calls Try.prog 17 #[rightV id ho lot (.slice ao k cap) us un ov, .int .i64 at', .int .i64 nid] w fun e w' => e = .returned (.tuple #[right0, right0, .int .i64 22]) ∧ Exts w w' := by
  have HL := Lib.hid hl
  clear hl
  go_enter Try.func17, Try.ntmps17
  go_wp2_with (first | (go_at_call 10; refine (living10_eq _ _ _ _ _ _ _ _ _ false _ (by omega) HL.out).mono ?_; rintro e w' ⟨rfl, x, rfl⟩))
  refine bodyPost_ret (v := .tuple #[right0, right0, .int .i64 22]) (by simp [results, go_sem]) rfl ⟨rfl, (by repeat (first | exact Exts.refl _ | apply Exts.andR | apply Exts.alloc | apply Exts.wext | apply Exts.drew | apply Exts.drewN))⟩

set_option maxHeartbeats 1000000 in
theorem split17_arg (id ho lot un us : Int) (ov : Bool) (ao : Option Addr) (cap k : Nat) (at' nid : Int) (w : World) (hn : k ≤ 100000) (hl : liv k us ov = true) (hb : at' ≤ us ∨ (k : Int) ≤ at' ∨ nid < 0 ∨ nid = id) :
    Calls Try.prog 17 #[rightV id ho lot (.slice ao k cap) us un ov, .int .i64 at', .int .i64 nid] w fun e w' => e = .returned (.tuple #[right0, right0, .int .i64 1]) ∧ Exts w w' := by
  have HL := Lib.hid hl
  clear hl
  by_cases h1 : at' ≤ us
  · have b1 : decide (at' ≤ us) = true := by simpa using h1
    go_enter Try.func17, Try.ntmps17
    go_wp2_with (first | (go_at_call 10; refine (living10_eq _ _ _ _ _ _ _ _ _ true _ (by omega) HL.out).mono ?_; rintro e w' ⟨rfl, x, rfl⟩))
    refine bodyPost_ret (v := .tuple #[right0, right0, .int .i64 1]) (by simp [results, go_sem]) rfl ⟨rfl, (by repeat (first | exact Exts.refl _ | apply Exts.andR | apply Exts.alloc | apply Exts.wext | apply Exts.drew | apply Exts.drewN))⟩
  · have b1 : decide (at' ≤ us) = false := by simpa using h1
    by_cases h2 : (k : Int) ≤ at'
    · have b2 : decide ((k : Int) ≤ at') = true := by simpa using h2
      go_enter Try.func17, Try.ntmps17
      go_wp2_with (first | (go_at_call 10; refine (living10_eq _ _ _ _ _ _ _ _ _ true _ (by omega) HL.out).mono ?_; rintro e w' ⟨rfl, x, rfl⟩))
      refine bodyPost_ret (v := .tuple #[right0, right0, .int .i64 1]) (by simp [results, go_sem]) rfl ⟨rfl, (by repeat (first | exact Exts.refl _ | apply Exts.andR | apply Exts.alloc | apply Exts.wext | apply Exts.drew | apply Exts.drewN))⟩
    · have b2 : decide ((k : Int) ≤ at') = false := by simpa using h2
      by_cases h3 : nid < 0
      · have b3 : decide (nid < 0) = true := by simpa using h3
        go_enter Try.func17, Try.ntmps17
        go_wp2_with (first | (go_at_call 10; refine (living10_eq _ _ _ _ _ _ _ _ _ true _ (by omega) HL.out).mono ?_; rintro e w' ⟨rfl, x, rfl⟩))
        refine bodyPost_ret (v := .tuple #[right0, right0, .int .i64 1]) (by simp [results, go_sem]) rfl ⟨rfl, (by repeat (first | exact Exts.refl _ | apply Exts.andR | apply Exts.alloc | apply Exts.wext | apply Exts.drew | apply Exts.drewN))⟩
      · have b3 : decide (nid < 0) = false := by simpa using h3
        have h4 : nid = id := by omega
        subst h4
        go_enter Try.func17, Try.ntmps17
        go_wp2_with (first | (go_at_call 10; refine (living10_eq _ _ _ _ _ _ _ _ _ true _ (by omega) HL.out).mono ?_; rintro e w' ⟨rfl, x, rfl⟩))
        refine bodyPost_ret (v := .tuple #[right0, right0, .int .i64 1]) (by simp [results, go_sem]) rfl ⟨rfl, (by repeat (first | exact Exts.refl _ | apply Exts.andR | apply Exts.alloc | apply Exts.wext | apply Exts.drew | apply Exts.drewN))⟩

set_option maxHeartbeats 2000000 in
theorem split17_ok (id ho lot un : Int) (u m : Nat) (ao : Option Addr) (cap : Nat) (P : List PhC) (nid : Int) (w : World) {S : Nat → Prop} (h : Phs S w (.slice ao P.length cap) P) (hf : Fits P) (hl : liv P.length u false = true) (h1 : u < m) (h2 : m < P.length) (h3 : 0 ≤ nid) (h4 : nid ≠ id) :
    Calls Try.prog 17 #[rightV id ho lot (.slice ao P.length cap) u un false, .int .i64 m, .int .i64 nid] w fun e w' => ∃ a1 c1 a2 c2, e = .returned (.tuple #[rightV id ho lot (.slice a1 m c1) u un false, rightV nid ho lot (.slice a2 (P.length - m) c2) 0 un false, .int .i64 0]) ∧ Exts w w' ∧ Phs (fun b => w.heap.size ≤ b) w' (.slice a1 m c1) (P.take m) ∧ Phs (fun b => w.heap.size ≤ b) w' (.slice a2 (P.length - m) c2) (P.drop m) := by
  have hn := hf.1
  have H := Lib.hid h
  have HF := Lib.hid hf
  have HL := Lib.hid hl
  have b1 : decide ((m : Int) ≤ u) = false := by simp; omega
  have b2 : decide ((P.length : Int) ≤ m) = false := by simp; omega
  have b3 : decide (nid < 0) = false := by simp; omega
  have b4 : (nid == id) = false := by simpa using h4
  clear h hf hl
  go_enter Try.func17, Try.ntmps17
  go_wp2_with (first | (go_at_call 10; refine (living10_eq _ _ _ _ _ _ _ _ _ true _ (by omega) HL.out).mono ?_; rintro e w' ⟨rfl, x, rfl⟩) | (go_at_call 30; refine (phases30 _ P _ (H.out.exts (by repeat (first | exact Exts.refl _ | apply Exts.andR | apply Exts.alloc | apply Exts.wext | apply Exts.drew | apply Exts.drewN))) HF.out).mono ?_; rintro e w' ⟨ao2, c2, rfl, ⟨x3, rfl⟩, hp2⟩; replace hp2 := Phs.up (B' := w.heap.size + 3) hp2 (by simp [Nat.add_assoc]; try omega); try simp only [wext_and] at hp2; (obtain ⟨f1, f2, f3, f4⟩ := hp2.facts); (obtain ⟨b, off, rfl, f5, f6⟩ := f4 (by omega)); clear f3 f4; unfold maxLen at f2))
  go_region
  go_wp2
  go_region
  go_wp2
  have q1 := hp2.part 0 m m (by omega) (by omega) (by unfold maxLen; omega) (some ⟨b, off, none⟩) (by simp) (by intro b' off' he _; cases he; simp)
  have q2 := hp2.part m (P.length - m) (c2 - m) (by omega) (by omega) (by unfold maxLen; omega) (some ⟨b, off + m * 2, none⟩) (by simp) (by intro b' off' he _; cases he; rfl)
  rw [List.drop_zero] at q1
  have hd : (P.drop m).take (P.length - m) = P.drop m := by rw [← List.length_drop, List.take_length]
  rw [hd] at q2
  refine bodyPost_ret (v := .tuple #[rightV id ho lot (.slice (some ⟨b, off, none⟩) m m) u un false, rightV nid ho lot (.slice (some ⟨b, off + m * 2, none⟩) (P.length - m) (c2 - m)) 0 un false, .int .i64 0]) (by simp [results, go_sem]) rfl ⟨_, _, _, _, rfl, (by repeat (first | exact Exts.refl _ | apply Exts.andR | apply Exts.alloc | apply Exts.wext | apply Exts.drew | apply Exts.drewN)), ?_, ?_⟩
  · exact (q1.keeps (by repeat (first | (refine Alike.keeps ?_; (repeat (first | (refine Alike.base ?_ ?_ <;> (simp; done)) | refine Alike.wext ?_ rfl | apply Alike.alloc)); done) | apply Keeps.drew | apply Keeps.andR | apply Keeps.alloc | apply Keeps.wext))).up (by omega)
  · exact (q2.keeps (by repeat (first | (refine Alike.keeps ?_; (repeat (first | (refine Alike.base ?_ ?_ <;> (simp; done)) | refine Alike.wext ?_ rfl | apply Alike.alloc)); done) | apply Keeps.drew | apply Keeps.andR | apply Keeps.alloc | apply Keeps.wext))).up (by omega)
end Go.Proofs.Ytnpjagodbnpahaa
