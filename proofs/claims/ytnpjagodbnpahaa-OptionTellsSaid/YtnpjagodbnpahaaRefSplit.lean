/- Split of the reference of chapter 31, where it succeeds. Conditions: the numbers of phases are small. -/
import Derived.Test.YtnpjagodbnpahaaRefOpt
namespace Go.Proofs.Ytnpjagodbnpahaa
open Go.RowKit
set_option linter.unusedSimpArgs false
set_option linter.unusedVariables false
set_option maxRecDepth 100000
set_option maxHeartbeats 2000000 in
theorem split24_ok (id ho lot un : Int) (u m : Nat) (ao : Option Addr) (cap : Nat) (P : List PhC) (nid : Int) (w : World) {S : Nat → Prop} (h : Phs S w (.slice ao P.length cap) P) (hf : Fits P) (hl : liv P.length u false = true) (h1 : u < m) (h2 : m < P.length) (h3 : 0 ≤ nid) (h4 : nid ≠ id) :
    Calls Try.prog 24 #[rightV id ho lot (.slice ao P.length cap) u un false, .int .i64 m, .int .i64 nid] w fun e w' => ∃ a1 c1 a2 c2, e = .returned (.tuple #[rightV id ho lot (.slice a1 m c1) u un false, rightV nid ho lot (.slice a2 (P.length - m) c2) 0 un false, .int .i64 0]) ∧ Exts w w' ∧ Phs (fun _ => True) w' (.slice a1 m c1) (P.take m) ∧ Phs (fun _ => True) w' (.slice a2 (P.length - m) c2) (P.drop m) := by
  have hn := hf.1
  have H := Lib.hid h
  have HF := Lib.hid hf
  have HL := Lib.hid hl
  have b1 : decide ((m : Int) ≤ u) = false := by simp; omega
  have b2 : decide ((P.length : Int) ≤ m) = false := by simp; omega
  have b3 : decide (nid < 0) = false := by simp; omega
  have b4 : (nid == id) = false := by simpa using h4
  clear h hf hl
  go_enter Try.func24, Try.ntmps24
  go_wp2_with (first | (go_at_call 26; refine (living26_eq _ _ _ _ _ _ _ _ _ true _ (by omega) HL.out).mono ?_; rintro e w' ⟨rfl, x, rfl⟩) | (go_at_call 33; refine (refPhases33 _ P _ (H.out.exts (by repeat (first | exact Exts.refl _ | apply Exts.andR | apply Exts.alloc | apply Exts.wext | apply Exts.drew | apply Exts.drewN))) HF.out).mono ?_; rintro e w' ⟨ao2, c2, rfl, ⟨x3, rfl⟩, hp2⟩; replace hp2 := Phs.up (B' := w.heap.size + 3) hp2 (by simp [Nat.add_assoc]; try omega); (try simp only [wext_and] at hp2); (obtain ⟨f1, f2, f3, f4⟩ := hp2.facts); (obtain ⟨b, off, rfl, f5, f6⟩ := f4 (by omega)); clear f3 f4; (unfold maxLen at f2); (have HP2 := Lib.hid hp2); clear hp2))
  go_region
  go_wp2
  have k0 : (0 : Int) ≤ (m : Int) := by omega
  have k1 : (m : Int) ≤ (P.length : Int) := by omega
  have k2 : (m : Int).toNat = m := by omega
  have k3 : ¬ c2 = m := by omega
  refine wp_name ?_
  intro W1 hW1
  have r3 := box_all W1 #[.int .i64 id, .int .i64 ho, .int .i64 lot, .slice ao P.length cap, .int .i64 u, .int .i64 un, .bool false] (by rw [hW1]; exact (by repeat (first | with_reducible exact Exts.refl _ | with_reducible apply Exts.alloc | with_reducible apply Exts.wext | with_reducible apply Exts.drew)))
  have HW1 := Lib.hid hW1
  clear hW1
  go_region_held3 (fun w' => Exts W1 w') (first | assumption | exact (by repeat (first | exact Exts.refl _ | apply Exts.andR | apply Exts.alloc | apply Exts.wext | apply Exts.drew | apply Exts.drewN))) (fail)
  all_goals
    have hC := HW1.out
    subst hC
    go_wp2
    go_region
    go_wp2
    have q1 := HP2.out.part 0 m c2 (by omega) (by omega) (by unfold maxLen; omega) (some ⟨b, off, none⟩) (by simp) (by intro b' off' he _; cases he; simp)
    have q2 := HP2.out.part m (P.length - m) (c2 - m) (by omega) (by omega) (by unfold maxLen; omega) (some ⟨b, off + m * 2, none⟩) (by simp) (by intro b' off' he _; cases he; rfl)
    rw [List.drop_zero] at q1
    have hd : (P.drop m).take (P.length - m) = P.drop m := by rw [← List.length_drop, List.take_length]
    rw [hd] at q2
    refine bodyPost_ret (v := .tuple #[rightV id ho lot (.slice (some ⟨b, off, none⟩) m c2) u un false, rightV nid ho lot (.slice (some ⟨b, off + m * 2, none⟩) (P.length - m) (c2 - m)) 0 un false, .int .i64 0]) (by simp [results, go_sem]) rfl ⟨_, _, _, _, rfl, (by repeat (first | exact Exts.refl _ | apply Exts.andR | apply Exts.alloc | apply Exts.wext | apply Exts.drew | apply Exts.drewN)), ?_, ?_⟩
    · exact (q1.keeps (by (repeat (first | (refine Alike.keeps ?_; (repeat (first | (with_reducible refine Alike.wext ?_ rfl) | (with_reducible apply Alike.alloc) | (refine Alike.base ?_ ?_ <;> (simp; done)))); done) | (with_reducible apply Keeps.drew) | (with_reducible apply Keeps.andR) | (with_reducible apply Keeps.alloc) | (with_reducible apply Keeps.wext))))).any
    · exact (q2.keeps (by (repeat (first | (refine Alike.keeps ?_; (repeat (first | (with_reducible refine Alike.wext ?_ rfl) | (with_reducible apply Alike.alloc) | (refine Alike.base ?_ ?_ <;> (simp; done)))); done) | (with_reducible apply Keeps.drew) | (with_reducible apply Keeps.andR) | (with_reducible apply Keeps.alloc) | (with_reducible apply Keeps.wext))))).any
theorem split24_AB (id ho lot un : Int) (u m : Nat) (ao : Option Addr) (cap : Nat) (P A B : List PhC) (hA : P.take m = A) (hB : P.drop m = B) (nid : Int) (w : World) {S : Nat → Prop} (h : Phs S w (.slice ao P.length cap) P) (hf : Fits P) (hl : liv P.length u false = true) (h1 : u < m) (h2 : m < P.length) (h3 : 0 ≤ nid) (h4 : nid ≠ id) :
    Calls Try.prog 24 #[rightV id ho lot (.slice ao P.length cap) u un false, .int .i64 m, .int .i64 nid] w fun e w' => ∃ a1 c1 a2 c2, e = .returned (.tuple #[rightV id ho lot (.slice a1 A.length c1) u un false, rightV nid ho lot (.slice a2 B.length c2) 0 un false, .int .i64 0]) ∧ Exts w w' ∧ Phs (fun _ => True) w' (.slice a1 A.length c1) A ∧ Phs (fun _ => True) w' (.slice a2 B.length c2) B := by
  have e1 : A.length = m := by rw [← hA, List.length_take]; omega
  have e2 : B.length = P.length - m := by rw [← hB, List.length_drop]
  rw [e1, e2]
  subst hA hB
  exact split24_ok id ho lot un u m ao cap P nid w h hf hl h1 h2 h3 h4
end Go.Proofs.Ytnpjagodbnpahaa
