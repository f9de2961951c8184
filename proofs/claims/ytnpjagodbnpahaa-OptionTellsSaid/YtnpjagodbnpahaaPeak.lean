/- The reference's prefix sums; the greatest of them. Conditions: the list is short. -/
import Derived.Test.YtnpjagodbnpahaaPre
namespace Go.Proofs.Ytnpjagodbnpahaa
open Go.RowKit
set_option linter.unusedSimpArgs false
set_option linter.unusedVariables false

def pmax (l : List Int) : Nat → Int | 0 => 0 | k + 1 => if pmax l k < psum l (k + 1) then psum l (k + 1) else pmax l k

set_option maxRecDepth 100000
set_option maxHeartbeats 2000000 in
theorem refPrefixes25 (ao : Option Addr) (ca : Nat) (l : List Int) (w : World) {S : Nat → Prop} (h : Ints S w (.slice ao l.length ca) l) (hn : l.length ≤ 100000) :
    Calls Try.prog 25 #[.slice ao l.length ca] w fun e w' => ∃ ao' c', e = .returned (.slice ao' (l.length + 1) c') ∧ Exts w w' ∧ Ints (fun b => w.heap.size ≤ b) w' (.slice ao' (l.length + 1) c') (prefs l l.length) := by
  obtain ⟨i0, hi, hz0, hz1, hz2⟩ := info_parts info3
  have H := Lib.hid h
  clear h
  go_enter Try.func25, Try.ntmps25
  go_wp2
  go_loopw [3, 4, 5] (fun o m i wr => ∃ (k : Nat) (g cap : Nat), k ≤ l.length ∧ i = .int .i64 k ∧ m = .int .i64 (psum l k) ∧ o = .slice (some ⟨g, 0, none⟩) (k + 1) cap ∧ Exts w wr ∧ wr.ownsRow w.heap.size 3 1 o (k + 1) (ints (prefs l k))) (fun _ _ i _ => l.length - (intOf i).toNat)
  case atStart => exact ⟨0, w.heap.size, 1, by omega, rfl, rfl, rfl, (by repeat (first | exact Exts.refl _ | apply Exts.andR | apply Exts.alloc | apply Exts.wext | apply Exts.drew | apply Exts.drewN)), ownsRow_lit (e := 3) w #[.int .i64 0] 1 (Nat.le_refl _) (by decide) rfl⟩
  case round =>
    obtain ⟨k, g, cap, hk, rfl, rfl, rfl, ⟨x, rfl⟩, hown⟩ := hrel
    by_cases hlt : k < l.length
    · obtain ⟨n, hp⟩ : ∃ q, l[k]? = some q := ⟨l[k], List.getElem?_eq_getElem hlt⟩
      obtain ⟨b, off, rfl, hb, e0⟩ := H.out.get hp
      have hs := psum_succ l k n hp
      have HO := Lib.hid hown
      have HS := Lib.hid hs
      clear hown hs
      go_wp2_with (at_builtin; refine wpList_append_lies _ rfl (.tmp 19) (.tmp 21) 46 rfl w.heap.size 3 i0 _ 1 8 Try.underlying46 hi hz0 hz1 hz2 rfl (by decide) (.slice (some ⟨g, 0, none⟩) (k + 1) cap) (k + 1) (ints (prefs l k)) rfl (ownsRow_exts HO.out (by repeat (first | exact Exts.refl _ | apply Exts.andR | apply Exts.alloc | apply Exts.wext | apply Exts.drew | apply Exts.drewN))) ⟨w.heap.size + x.bs.size, 0, none⟩ 1 1 [.int .i64 (psum l (k + 1))] rfl rfl (by intro j u hj; match j, hj with | 0, hj => (simp at hj; subst hj; rw [HS.out]; simp [go_sem])) (by intro u hu; simp at hu; subst hu; rfl) (by decide) (by unfold maxLen; omega) (by omega) (by simp; omega) _ rfl ?_; intro g' cg w1 hown' hgrow hat hlt')
      go_roundw
      case rel => exact ⟨k + 1, g', cg, by omega, by go_num, by rw [HS.out], rfl, exts_of_grown (by repeat (first | exact Exts.refl _ | apply Exts.andR | apply Exts.alloc | apply Exts.wext | apply Exts.drew | apply Exts.drewN)) hgrow (fun b hb => (HO.out.lt b hb).1), by rw [prefs_succ, ints, List.map_append]; exact hown'⟩
      case measure => simp [intOf]; omega
    · obtain rfl : k = l.length := by omega
      have hr := RowF.of_owns hown
      go_wp2
      go_ret
      refine ⟨_, cap, rfl, (by repeat (first | exact Exts.refl _ | apply Exts.andR | apply Exts.alloc | apply Exts.wext | apply Exts.drew | apply Exts.drewN)), ?_⟩
      rw [Ints, prefs_len]
      exact hr

set_option maxHeartbeats 2000000 in
theorem max32 (ao : Option Addr) (ca : Nat) (l : List Int) (w : World) {S : Nat → Prop} (h : Ints S w (.slice ao (l.length + 1) ca) (prefs l l.length)) (hn : l.length ≤ 100000) :
    Calls Try.prog 32 #[.slice ao (l.length + 1) ca] w fun e w' => e = .returned (.int .i64 (pmax l l.length)) ∧ Exts w w' := by
  have h' : Ints S w (.slice ao (prefs l l.length).length ca) (prefs l l.length) := by rw [prefs_len]; exact h
  obtain ⟨b, off, rfl, hb, e0⟩ := h'.get (prefs_at l l.length 0 (by omega))
  rw [psum_zero, Nat.add_zero] at e0
  have H := Lib.hid h'
  clear h h'
  go_enter Try.func32, Try.ntmps32
  go_wp2
  go_loopw [3, 4] (fun m i wr => ∃ (k : Nat), k ≤ l.length ∧ i = .int .i64 (k + 1 : Nat) ∧ m = .int .i64 (pmax l k) ∧ wr = w) (fun _ i _ => l.length + 1 - (intOf i).toNat)
  case atStart => exact ⟨0, by omega, rfl, rfl, rfl⟩
  case round =>
    obtain ⟨k, hk, rfl, rfl, rfl⟩ := hrel
    by_cases hlt : k < l.length
    · obtain ⟨b', off', hbo, _, e1⟩ := H.out.get (prefs_at l l.length (k + 1) (by omega))
      cases hbo
      go_wp2
      go_roundw
      case rel => exact ⟨k + 1, by omega, by go_num, rfl, trivial⟩
      case measure => simp [intOf]; omega
    · obtain rfl : k = l.length := by omega
      go_wp2
      go_ret
      exact ⟨rfl, (by repeat (first | exact Exts.refl _ | apply Exts.andR | apply Exts.alloc | apply Exts.wext | apply Exts.drew | apply Exts.drewN))⟩

set_option maxHeartbeats 2000000 in
theorem peak19 (ao : Option Addr) (ca : Nat) (l : List Int) (w : World) {S : Nat → Prop} (h : Ints S w (.slice ao l.length ca) l) (hn : l.length ≤ 100000) :
    Calls Try.prog 19 #[.slice ao l.length ca] w fun e w' => e = .returned (.int .i64 (pmax l l.length)) ∧ Exts w w' := by
  have H := Lib.hid h
  clear h
  go_enter Try.func19, Try.ntmps19
  go_wp2_with (first | (go_at_call 18; refine (prefixes18 _ _ l _ (RowF.exts H.out (by repeat (first | exact Exts.refl _ | apply Exts.andR | apply Exts.alloc | apply Exts.wext | apply Exts.drew | apply Exts.drewN))) hn).mono ?_; rintro e w' ⟨ao', c', rfl, ⟨x, rfl⟩, hp⟩; have HP := Lib.hid hp; clear hp) | (go_at_call 32; refine (max32 _ _ l _ (RowF.exts HP.out (by repeat (first | exact Exts.refl _ | apply Exts.andR | apply Exts.alloc | apply Exts.wext | apply Exts.drew | apply Exts.drewN))) hn).mono ?_; rintro e w' ⟨rfl, x2, rfl⟩))
  go_ret
  exact ⟨rfl, (by repeat (first | exact Exts.refl _ | apply Exts.andR | apply Exts.alloc | apply Exts.wext | apply Exts.drew | apply Exts.drewN))⟩

set_option maxHeartbeats 2000000 in
theorem refPeak28 (ao : Option Addr) (ca : Nat) (l : List Int) (w : World) {S : Nat → Prop} (h : Ints S w (.slice ao l.length ca) l) (hn : l.length ≤ 100000) :
    Calls Try.prog 28 #[.slice ao l.length ca] w fun e w' => e = .returned (.int .i64 (pmax l l.length)) ∧ Exts w w' := by
  have H := Lib.hid h
  clear h
  go_enter Try.func28, Try.ntmps28
  go_wp2
  go_loopw [3, 4, 5] (fun o m i wr => ∃ (k : Nat), k ≤ l.length ∧ i = .int .i64 k ∧ m = .int .i64 (psum l k) ∧ o = .int .i64 (pmax l k) ∧ wr = w) (fun _ _ i _ => l.length - (intOf i).toNat)
  case atStart => exact ⟨0, by omega, rfl, rfl, rfl, rfl⟩
  case round =>
    obtain ⟨k, hk, rfl, rfl, rfl, rfl⟩ := hrel
    by_cases hlt : k < l.length
    · obtain ⟨n, hp⟩ : ∃ q, l[k]? = some q := ⟨l[k], List.getElem?_eq_getElem hlt⟩
      obtain ⟨b, off, rfl, hb, e0⟩ := H.out.get hp
      have hs := psum_succ l k n hp
      have HS := Lib.hid hs
      clear hs
      go_wp2
      go_roundw
      case rel => exact ⟨k + 1, by omega, by go_num, by rw [HS.out], by rw [pmax, HS.out], trivial⟩
      case measure => simp [intOf]; omega
    · obtain rfl : k = l.length := by omega
      go_wp2
      go_ret
      exact ⟨rfl, (by repeat (first | exact Exts.refl _ | apply Exts.andR | apply Exts.alloc | apply Exts.wext | apply Exts.drew | apply Exts.drewN))⟩
end Go.Proofs.Ytnpjagodbnpahaa
