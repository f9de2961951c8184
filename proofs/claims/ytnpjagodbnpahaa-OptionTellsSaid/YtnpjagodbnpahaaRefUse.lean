/- Use and Split of the reference of chapter 31, where they succeed. Conditions: the numbers of phases are small. -/
import Derived.Test.YtnpjagodbnpahaaRefOpt
namespace Go.Proofs.Ytnpjagodbnpahaa
open Go.RowKit
set_option linter.unusedSimpArgs false
set_option linter.unusedVariables false
set_option maxRecDepth 100000
set_option maxHeartbeats 4000000 in
theorem use20_ok (id ho lot un : Int) (ao : Option Addr) (cap : Nat) (P : List PhC) (day : Int) (w : World) {S : Nat → Prop} (h : Phs S w (.slice ao P.length cap) P) (hf : Fits P) (u : Nat) (p : PhC) (hp : P[u]? = some p) (hc : useCode P.length u un false day = 0) :
    Calls Try.prog 20 #[rightV id ho lot (.slice ao P.length cap) u un false, .int .i64 day] w fun e w' => ∃ ao' c' aa ca ab cb, e = .returned (.tuple #[rightV id ho lot (.slice ao' P.length c') (u + 1) un false, .agg #[.slice aa p.1.length ca, .slice ab p.2.length cb], .int .i64 0]) ∧ Exts w w' ∧ Phs (fun _ => True) w' (.slice ao' P.length c') P ∧ Vols (fun _ => True) w' (.slice aa p.1.length ca) p.1 ∧ Ents (fun _ => True) w' (.slice ab p.2.length cb) p.2 := by
  obtain ⟨_, hu', hu, _, hl, h1, h2, h3⟩ := use_ok hc
  cases hu'
  have hn := hf.1
  have hu2 : u < P.length := hu
  have HL := Lib.hid hl
  have H := Lib.hid h
  have HF := Lib.hid hf
  have HPU := Lib.hid hp
  have b1 : decide (day < 0) = false := by simp; omega
  have b2 : decide (1073741824 < day) = false := by simp; omega
  have b3 : decide (un < day) = false := by simp; omega
  have k0 : (0 : Int) ≤ (u : Int) := by omega
  have k1 : (u : Int) < (P.length : Int) := by omega
  clear hl h hf hp hc hu
  go_enter Try.func20, Try.ntmps20
  go_wp2_with (first | (go_at_call 26; refine (living26_eq _ _ _ _ _ _ _ _ _ true _ (by omega) HL.out).mono ?_; rintro e w' ⟨rfl, x, rfl⟩) | (go_at_call 33; refine (refPhases33 _ P _ (H.out.exts (by repeat (first | exact Exts.refl _ | apply Exts.andR | apply Exts.alloc | apply Exts.wext | apply Exts.drew | apply Exts.drewN))) HF.out).mono ?_; rintro e w' ⟨ao2, c2, rfl, ⟨x2, rfl⟩, hp2⟩; replace hp2 := Phs.up (B' := w.heap.size + 3) hp2 (by simp [Nat.add_assoc]; try omega); (try simp only [wext_and] at hp2); (have HP2 := Lib.hid hp2); clear hp2))
  refine wp_name ?_
  intro W1 hW1
  have r2 := box_all W1 #[.int .i64 id, .int .i64 ho, .int .i64 lot, .slice ao2 P.length c2, .int .i64 u, .int .i64 un, .bool false] (by rw [hW1]; exact (by repeat (first | with_reducible exact Exts.refl _ | with_reducible apply Exts.alloc | with_reducible apply Exts.wext | with_reducible apply Exts.drew)))
  have KP := Lib.hid (show Phs (fun b => w.heap.size + 3 ≤ b) W1 (.slice ao2 P.length c2) P by rw [hW1]; exact HP2.out.keeps (by repeat (first | (refine Alike.keeps ?_; (repeat (first | (refine Alike.base ?_ ?_ <;> (simp; done)) | refine Alike.wext ?_ rfl | apply Alike.alloc)); done) | apply Keeps.drew | apply Keeps.andR | apply Keeps.alloc | apply Keeps.wext)))
  have HW1 := Lib.hid hW1
  have E1 := Lib.hid (show Exts w W1 by rw [hW1]; exact (by repeat (first | exact Exts.refl _ | apply Exts.andR | apply Exts.alloc | apply Exts.wext | apply Exts.drew | apply Exts.drewN)))
  clear hW1
  go_region_with ((go_at_call 33; refine (refPhases33 _ P _ (Phs.exts KP.out (by repeat (first | exact Exts.refl _ | apply Exts.andR | apply Exts.alloc | apply Exts.wext | apply Exts.drew | apply Exts.drewN))) HF.out).mono ?_; rintro e w' ⟨ao3, c3, rfl, ⟨x3, rfl⟩, hp3⟩; (try simp only [wext_and, wext_of_drew] at hp3); (obtain ⟨b, off, aa, ca, ab, cb, rfl, hb, _, f0, f1, v0, v1⟩ := hp3.get HPU.out); (try simp only [wext_size, World.size_alloc] at hb); (have V0 := Lib.hid v0); (have V1 := Lib.hid v1); clear v0 v1 hp3))

  all_goals
    have hC := HW1.out
    subst hC
    go_wp2
    go_region
    go_wp2
    refine bodyPost_ret (v := .tuple #[rightV id ho lot (.slice ao2 P.length c2) (u + 1) un false, .agg #[.slice aa p.1.length ca, .slice ab p.2.length cb], .int .i64 0]) (by simp [results, go_sem]) rfl ⟨ao2, c2, aa, ca, ab, cb, rfl, (by repeat (first | exact Exts.refl _ | apply Exts.andR | apply Exts.alloc | apply Exts.wext | apply Exts.drew | apply Exts.drewN)), ?_, ?_, ?_⟩
    · exact (HP2.out.keeps (by repeat (first | (refine Alike.keeps ?_; (repeat (first | (refine Alike.base ?_ ?_ <;> (simp; done)) | refine Alike.wext ?_ rfl | apply Alike.alloc)); done) | apply Keeps.drew | apply Keeps.andR | apply Keeps.alloc | apply Keeps.wext))).any
    · have q := V0.out
      try simp only [wext_and] at q
      first
      | (refine RowF.mono (RowF.keeps (RowF.up (B' := w.heap.size + 3) q (by simp [Nat.add_assoc]; try omega)) ?_) (fun _ _ => trivial); (repeat (first | (refine Alike.keeps ?_; (repeat (first | (with_reducible refine Alike.wext ?_ rfl) | (with_reducible apply Alike.alloc) | (refine Alike.base ?_ ?_ <;> (simp; done)))); done) | (with_reducible apply Keeps.drew) | (with_reducible apply Keeps.andR) | (with_reducible apply Keeps.alloc) | (with_reducible apply Keeps.wext))); done)
      | (refine RowF.mono (RowF.keeps q ?_) (fun _ _ => trivial); (repeat (first | (refine Alike.keeps ?_; (repeat (first | (with_reducible refine Alike.wext ?_ rfl) | (with_reducible apply Alike.alloc) | (refine Alike.base ?_ ?_ <;> (simp; done)))); done) | (with_reducible apply Keeps.drew) | (with_reducible apply Keeps.andR) | (with_reducible apply Keeps.alloc) | (with_reducible apply Keeps.wext))); done)
    · have q := V1.out
      try simp only [wext_and] at q
      first
      | (refine RowF.mono (RowF.keeps (RowF.up (B' := w.heap.size + 3) q (by simp [Nat.add_assoc]; try omega)) ?_) (fun _ _ => trivial); (repeat (first | (refine Alike.keeps ?_; (repeat (first | (with_reducible refine Alike.wext ?_ rfl) | (with_reducible apply Alike.alloc) | (refine Alike.base ?_ ?_ <;> (simp; done)))); done) | (with_reducible apply Keeps.drew) | (with_reducible apply Keeps.andR) | (with_reducible apply Keeps.alloc) | (with_reducible apply Keeps.wext))); done)
      | (refine RowF.mono (RowF.keeps q ?_) (fun _ _ => trivial); (repeat (first | (refine Alike.keeps ?_; (repeat (first | (with_reducible refine Alike.wext ?_ rfl) | (with_reducible apply Alike.alloc) | (refine Alike.base ?_ ?_ <;> (simp; done)))); done) | (with_reducible apply Keeps.drew) | (with_reducible apply Keeps.andR) | (with_reducible apply Keeps.alloc) | (with_reducible apply Keeps.wext))); done)
end Go.Proofs.Ytnpjagodbnpahaa
