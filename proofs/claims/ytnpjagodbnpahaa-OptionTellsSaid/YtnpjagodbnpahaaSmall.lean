/- The small examples of the laws of chapter 31. No condition. -/
import Derived.Test.YtnpjagodbnpahaaPeak
namespace Go.Proofs.Ytnpjagodbnpahaa
open Go.RowKit
set_option linter.unusedSimpArgs false
set_option linter.unusedVariables false

abbrev twoP : List PhC := [([], [(⟨#[97]⟩, 1)]), ([], [(⟨#[98]⟩, 2)])]
theorem twoFits : Fits twoP := by
  refine ⟨by decide, fun p hp => ?_⟩
  simp at hp
  rcases hp with rfl | rfl <;> simp

theorem rowF_lit {e : TypeId} {base size : Nat} (w : World) (cur : Array Value) (n H : Nat) (hH : w.heap.size = H) (hb : base ≤ H) (hm : n ≤ maxLen) (hs : cur.size = n * size) :
    RowF (fun b => base ≤ b) size (w.alloc (.cells cur e)) (.slice (some ⟨H, 0, none⟩) n n) n cur.toList := by
  subst hH
  exact RowF.of_owns (ownsRow_lit w cur n hb hm hs)

set_option maxRecDepth 100000
set_option maxHeartbeats 2000000 in
theorem two29 (w : World) : Calls Try.prog 29 #[] w fun e w' => ∃ b c, e = .returned (rightV 1 0 3 (.slice (some ⟨b, 0, none⟩) 2 c) 0 10 false) ∧ Exts w w' ∧ Phs (fun b => w.heap.size ≤ b) w' (.slice (some ⟨b, 0, none⟩) 2 c) twoP := by
  go_enter Try.func29, Try.ntmps29
  go_wp2
  refine bodyPost_ret (v := rightV 1 0 3 (.slice (some ⟨w.heap.size + 3, 0, none⟩) 2 2) 0 10 false) (by simp [results, go_sem]) rfl ⟨_, _, rfl, (by repeat (first | exact Exts.refl _ | apply Exts.andR | apply Exts.alloc | apply Exts.wext | apply Exts.drew | apply Exts.drewN)), ?_⟩
  refine ⟨[.slice none 0 0, .slice (some ⟨w.heap.size + 1, 0, none⟩) 1 1, .slice none 0 0, .slice (some ⟨w.heap.size + 1 + 1, 0, none⟩) 1 1], ?_, fun i p hp => ?_⟩
  · exact rowF_lit (base := w.heap.size) (size := 2) (((w.alloc _).alloc _).alloc _) #[.slice none 0 0, .slice (some ⟨w.heap.size + 1, 0, none⟩) 1 1, .slice none 0 0, .slice (some ⟨w.heap.size + 1 + 1, 0, none⟩) 1 1] 2 (w.heap.size + 3) (by simp) (by omega) (by decide) rfl
  · match i, hp with
    | 0, hp =>
      simp at hp
      subst hp
      exact ⟨_, _, rfl, rfl, RowF.nil _ _ _, (show RowF (fun b => w.heap.size ≤ b) 2 _ (.slice (some ⟨w.heap.size + 1, 0, none⟩) 1 1) 1 [.string ⟨#[97]⟩, .int .i64 1] from (rowF_lit (e := 63) (base := w.heap.size) (size := 2) (w.alloc _) #[.string ⟨#[97]⟩, .int .i64 1] 1 (w.heap.size + 1) (by simp) (by omega) (by decide) rfl).exts (by repeat (first | exact Exts.refl _ | apply Exts.andR | apply Exts.alloc | apply Exts.wext | apply Exts.drew | apply Exts.drewN)))⟩
    | 1, hp =>
      simp at hp
      subst hp
      exact ⟨_, _, rfl, rfl, RowF.nil _ _ _, (show RowF (fun b => w.heap.size ≤ b) 2 _ (.slice (some ⟨w.heap.size + 1 + 1, 0, none⟩) 1 1) 1 [.string ⟨#[98]⟩, .int .i64 2] from (rowF_lit (e := 63) (base := w.heap.size) (size := 2) ((w.alloc _).alloc _) #[.string ⟨#[98]⟩, .int .i64 2] 1 (w.heap.size + 1 + 1) (by simp) (by omega) (by decide) rfl).exts (by repeat (first | exact Exts.refl _ | apply Exts.andR | apply Exts.alloc | apply Exts.wext | apply Exts.drew | apply Exts.drewN)))⟩
end Go.Proofs.Ytnpjagodbnpahaa
