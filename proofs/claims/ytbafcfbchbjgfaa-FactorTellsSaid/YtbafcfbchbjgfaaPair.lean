/- pair of the laws of chapter 38. No condition. -/
import Derived.Test.YtbafcfbchbjgfaaRefValid
import Derived.BigRegion
namespace Go.Proofs.Ytbafcfbchbjgfaa
open Go.RowKit
set_option linter.unusedSimpArgs false
set_option linter.unusedVariables false
def hasP (ps : List Pr) (a b : Int) : Bool := ps.any fun p => p.1 == a && p.2 == b
theorem some3 : (Try.prog.info? 3).isSome = true := by kernel_rfl
theorem cellsI : Try.prog.cellsOf 3 = 1 := by kernel_rfl
@[go_sem] theorem eq45 (a b c d : Int) (w : World) : (Op.equalIn 10000 45 (.agg #[.int .i64 a, .int .i64 b]) (.agg #[.int .i64 c, .int .i64 d])).run Try.prog w = .ok ((a == c) && (b == d)) w := by
  obtain ⟨i, hi⟩ := Option.isSome_iff_exists.1 some3
  rw [run_equalIn_array w 9999 _ _ Try.underlying45 hi, cellsI]
  have := run_items (P := Try.prog) w 9999 3 1 #[.int .i64 a, .int .i64 b] #[.int .i64 c, .int .i64 d] (fun i => .int .i64 (if i = 0 then a else b)) (fun i => .int .i64 (if i = 0 then c else d)) (fun i => if i = 0 then a == c else b == d) (List.range 2) (fun i hi => by
    have hi := List.mem_range.1 hi
    match i, hi with
    | 0, _ => exact ⟨by simp [part, isAgg, run_underlying Try.underlying3], by simp [part, isAgg, run_underlying Try.underlying3], run_equalIn_int w 9998 3 .i64 .i64 _ _ Try.underlying3⟩
    | 1, _ => exact ⟨by simp [part, isAgg, run_underlying Try.underlying3], by simp [part, isAgg, run_underlying Try.underlying3], run_equalIn_int w 9998 3 .i64 .i64 _ _ Try.underlying3⟩)
  rw [this]
  simp [List.range, List.range.loop]
set_option maxRecDepth 100000
set_option maxHeartbeats 2000000
theorem pair28 {S : Nat → Prop} (V : Int) (po : Option Addr) (n c : Nat) (ps : List Pr) (a b : Int) (w : World) (h : Prs S w po n c ps) :
    Calls Try.prog 28 #[.agg #[.int .i64 V, .slice po n c], .int .i64 a, .int .i64 b] w fun e w' => e = .returned (.bool (hasP ps a b)) ∧ Exts w w' := by
  have hl := h.len
  have hm := h.nle
  unfold maxLen at hm
  have H := Lib.hid h
  have HL := Lib.hid hl
  clear h hl
  go_enter Try.func28, Try.ntmps28
  go_wp2
  go_loopw [7] (fun i wr => ∃ (k : Nat), k ≤ n ∧ i = .int .i64 k ∧ Exts (w.alloc (.cells #[.int .i64 V, .slice po n c] 24)) wr ∧ hasP (ps.take k) a b = false) (fun i _ => n - (intOf i).toNat)
  case atStart => exact ⟨0, by omega, rfl, Exts.refl _, by simp [hasP]⟩
  case round =>
    obtain ⟨k, hk, rfl, ⟨x, rfl⟩, hin⟩ := hrel
    have HI := Lib.hid hin
    clear hin
    by_cases hlt : k < n
    · obtain ⟨pb, off, ⟨p1, p2⟩, rfl, hb, hp, e0, e1⟩ := H.out.get hlt
      simp only at e0 e1
      have HP := Lib.hid hp
      clear hp
      by_cases q1 : p1 = a
      · by_cases q2 : p2 = b
        · subst q1 q2
          have HR := Lib.hid (show hasP ps p1 p2 = true by
            simp only [hasP, List.any_eq_true]
            exact ⟨_, List.mem_of_getElem? HP.out, by simp⟩)
          go_wp2
          go_ret
          exact ⟨by rw [HR.out]; rfl, (by repeat (first | exact Exts.refl _ | apply Exts.andR | apply Exts.alloc | apply Exts.wext | apply Exts.drew | apply Exts.drewN))⟩
        · have HQ := Lib.hid (show ((p1 == a) && (p2 == b)) = false by simp; omega)
          have hq : ((p1 == a) && (p2 == b)) = false := HQ.out
          go_wp2
          refine ⟨⟨k + 1, by omega, by go_num, (by repeat (first | exact Exts.refl _ | apply Exts.andR | apply Exts.alloc | apply Exts.wext | apply Exts.drew | apply Exts.drewN)), ?_⟩, ?_⟩
          · have := HI.out
            unfold hasP at this ⊢
            rw [List.take_add_one, HP.out, List.any_append, this]
            simpa using HQ.out
          · simp [intOf]; omega
      · have HQ := Lib.hid (show ((p1 == a) && (p2 == b)) = false by simp; omega)
        have hq : ((p1 == a) && (p2 == b)) = false := HQ.out
        go_wp2
        refine ⟨⟨k + 1, by omega, by go_num, (by repeat (first | exact Exts.refl _ | apply Exts.andR | apply Exts.alloc | apply Exts.wext | apply Exts.drew | apply Exts.drewN)), ?_⟩, ?_⟩
        · have := HI.out
          unfold hasP at this ⊢
          rw [List.take_add_one, HP.out, List.any_append, this]
          simpa using HQ.out
        · simp [intOf]; omega
    · obtain rfl : k = n := by omega
      have htk : ps.take k = ps := List.take_of_length_le (by rw [HL.out]; exact Nat.le_refl _)
      have HR := Lib.hid (show hasP ps a b = false by
        have := HI.out
        rw [htk] at this
        exact this)
      clear htk
      go_wp2
      go_ret
      exact ⟨by rw [HR.out]; rfl, (by repeat (first | exact Exts.refl _ | apply Exts.andR | apply Exts.alloc | apply Exts.wext | apply Exts.drew | apply Exts.drewN))⟩
end Go.Proofs.Ytbafcfbchbjgfaa
