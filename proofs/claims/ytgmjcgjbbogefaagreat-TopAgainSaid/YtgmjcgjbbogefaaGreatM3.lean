/- Lemmas that the laws of this seat share, 4 texts in one: HearB, HearC, HearD, HearE. No condition of their own. -/
import Derived.Test.YtgmjcgjbbogefaaGreatM2
import Derived.Deep.AppendLies
import Derived.Deep.RegionHeld3
/- One rectangle: rect.Right, Gap; region.Right. -/
namespace Go.Proofs.YtgmjcgjbbogefaaGreat
open Go.RowKit Go.Maps
set_option linter.unusedSimpArgs false
set_option linter.unusedVariables false
set_option maxRecDepth 100000
set_option maxHeartbeats 2000000
/-- The rectangles of the two lots. -/
def RecOk (x0 x1 : Int) : Prop := (x0 = 0 ∧ x1 = 4) ∨ (x0 = 4 ∧ x1 = 8)
theorem rectRight124 (x0 x1 : Int) (h : RecOk x0 x1) (w : World) : Calls Tryz.prog 124 #[.agg #[.int .i64 x0, .int .i64 0, .int .i64 x1, .int .i64 4]] w fun e w' => e = .returned (.bool true) ∧ Exts w w' := by
  rcases h with ⟨rfl, rfl⟩ | ⟨rfl, rfl⟩
  · go_enter Tryz.func124, Tryz.ntmps124
    go_wp2
    go_ret
    exact ⟨rfl, (by repeat (first | exact Exts.refl _ | apply Exts.andR | apply Exts.alloc | apply Exts.wext | apply Exts.drew | apply Exts.drewN))⟩
  · go_enter Tryz.func124, Tryz.ntmps124
    go_wp2
    go_ret
    exact ⟨rfl, (by repeat (first | exact Exts.refl _ | apply Exts.andR | apply Exts.alloc | apply Exts.wext | apply Exts.drew | apply Exts.drewN))⟩
theorem gaps245 (x0 x1 : Int) (h : RecOk x0 x1) (w : World) : Calls Tryz.prog 245 #[.agg #[.int .i64 0, .int .i64 0, .int .i64 4, .int .i64 4], .agg #[.int .i64 x0, .int .i64 0, .int .i64 x1, .int .i64 4]] w fun e w' => e = .returned (.tuple #[.int .i64 (x0 - 4), .int .i64 (-4)]) ∧ Exts w w' := by
  rcases h with ⟨rfl, rfl⟩ | ⟨rfl, rfl⟩
  · go_enter Tryz.func245, Tryz.ntmps245
    go_wp2
    first | refine wp_region_ext_lit2 (by kernel_rfl) (by kernel_rfl) ?_ | refine wp_region_ext_lit (by kernel_rfl) (by kernel_rfl) ?_
    repeat (go_big_quiet_step (fail))
    refine wpQuiet_nil ?_
    intro _ hwq'
    obtain ⟨xq, hwq''⟩ := hwq'
    subst hwq''
    go_wp2
    go_ret2
    exact ⟨rfl, (by repeat (first | exact Exts.refl _ | apply Exts.andR | apply Exts.alloc | apply Exts.wext | apply Exts.drew | apply Exts.drewN))⟩
  · go_enter Tryz.func245, Tryz.ntmps245
    go_wp2
    first | refine wp_region_ext_lit2 (by kernel_rfl) (by kernel_rfl) ?_ | refine wp_region_ext_lit (by kernel_rfl) (by kernel_rfl) ?_
    repeat (go_big_quiet_step (fail))
    refine wpQuiet_nil ?_
    intro _ hwq'
    obtain ⟨xq, hwq''⟩ := hwq'
    subst hwq''
    go_wp2
    go_ret2
    exact ⟨rfl, (by repeat (first | exact Exts.refl _ | apply Exts.andR | apply Exts.alloc | apply Exts.wext | apply Exts.drew | apply Exts.drewN))⟩
theorem gap193 (x0 x1 : Int) (h : RecOk x0 x1) (w : World) : Calls Tryz.prog 193 #[.agg #[.int .i64 0, .int .i64 0, .int .i64 4, .int .i64 4], .agg #[.int .i64 x0, .int .i64 0, .int .i64 x1, .int .i64 4]] w fun e w' => e = .returned (.int .i64 0) ∧ Exts w w' := by
  have h0 : RecOk 0 4 := .inl ⟨rfl, rfl⟩
  have hle : x0 ≤ 4 := by rcases h with ⟨rfl, rfl⟩ | ⟨rfl, rfl⟩ <;> decide
  have H := Lib.hid h
  have H0 := Lib.hid h0
  clear h h0
  go_enter Tryz.func193, Tryz.ntmps193
  go_wp2_with (first | (go_at_call 124; ((with_reducible refine (rectRight124 _ _ H0.out _).mono ?_); rintro e w' ⟨rfl, x1, rfl⟩)) | (go_at_call 124; ((with_reducible refine (rectRight124 _ _ H.out _).mono ?_); rintro e w' ⟨rfl, x1, rfl⟩)) | (go_at_call 245; ((with_reducible refine (gaps245 _ _ H.out _).mono ?_); rintro e w' ⟨rfl, x1, rfl⟩)))
  go_ret
  exact ⟨rfl, (by repeat (first | exact Exts.refl _ | apply Exts.andR | apply Exts.alloc | apply Exts.wext | apply Exts.drew | apply Exts.drewN))⟩
end Go.Proofs.YtgmjcgjbbogefaaGreat

/- slices.Sort, Compact, Contains at the short lists that a hearing makes. -/
namespace Go.Proofs.YtgmjcgjbbogefaaGreat
open Go.RowKit Go.Maps
set_option linter.unusedSimpArgs false
set_option linter.unusedVariables false
set_option maxRecDepth 100000
set_option maxHeartbeats 2000000
theorem isNaN172 (x : Int) (w : World) : Calls Tryz.prog 172 #[.int .i64 x] w fun e w' => e = .returned (.bool false) ∧ Exts w w' := by
  go_enter Tryz.func172, Tryz.ntmps172
  go_wp2
  go_ret
  exact ⟨by simp, (by repeat (first | exact Exts.refl _ | apply Exts.andR | apply Exts.alloc | apply Exts.wext | apply Exts.drew | apply Exts.drewN))⟩
theorem less162 (x y : Int) (h : y < x) (w : World) : Calls Tryz.prog 162 #[.int .i64 x, .int .i64 y] w fun e w' => e = .returned (.bool false) ∧ Exts w w' := by
  have q : decide (x < y) = false := by simp; omega
  clear h
  go_enter Tryz.func162, Tryz.ntmps162
  go_wp2_with (first | (go_at_call 172; ((with_reducible refine (isNaN172 _ _).mono ?_); rintro e w' ⟨rfl, xn, rfl⟩)))
  go_ret
  exact ⟨rfl, (by repeat (first | exact Exts.refl _ | apply Exts.andR | apply Exts.alloc | apply Exts.wext | apply Exts.drew | apply Exts.drewN))⟩
theorem isort156_1 (v : Value) (w : World) : Calls Tryz.prog 156 #[v, .int .i64 0, .int .i64 1] w fun e w' => e = .returned (.tuple #[]) ∧ Exts w w' := by
  go_enter Tryz.func156, Tryz.ntmps156
  go_wp2_with (first | (refine wp_loop_rounds 6 ?_; rw [rounds_succ]) | (rw [rounds_succ]))
  go_end0
  exact ⟨rfl, (by repeat (first | exact Exts.refl _ | apply Exts.andR | apply Exts.alloc | apply Exts.wext | apply Exts.drew | apply Exts.drewN))⟩
theorem isort156_2 (b off c : Nat) (x y : Int) (w : World) (h : x < y) (h0 : w.cell? ⟨b, off, none⟩ = some (.int .i64 x)) (h1 : w.cell? ⟨b, off + 1, none⟩ = some (.int .i64 y)) : Calls Tryz.prog 156 #[.slice (some ⟨b, off, none⟩) 2 c, .int .i64 0, .int .i64 2] w fun e w' => e = .returned (.tuple #[]) ∧ Exts w w' := by
  have l : b < w.heap.size := World.block_lt_of_cell? w _ h0
  have H := Lib.hid h
  clear h
  go_enter Tryz.func156, Tryz.ntmps156
  go_wp2_with (first | (refine wp_loop_rounds 6 ?_; rw [rounds_succ]) | (rw [rounds_succ]))
  first | refine wp_region_ext_lit2 (by kernel_rfl) (by kernel_rfl) ?_ | refine wp_region_ext_lit (by kernel_rfl) (by kernel_rfl) ?_
  repeat (go_big_quiet_step (((first | (go_at_call 162; exact Calls.ext_of (less162 _ _ H.out _))))))
  refine wpQuiet_nil ?_
  intro _ hwq'
  obtain ⟨xq, hwq''⟩ := hwq'
  subst hwq''
  go_wp2_with (first | (refine wp_loop_rounds 6 ?_; rw [rounds_succ]) | (rw [rounds_succ]))
  go_end0
  exact ⟨rfl, (by repeat (first | exact Exts.refl _ | apply Exts.andR | apply Exts.alloc | apply Exts.wext | apply Exts.drew | apply Exts.drewN))⟩
theorem pdq120_1 (v : Value) (k : Int) (w : World) : Calls Tryz.prog 120 #[v, .int .i64 0, .int .i64 1, .int .i64 k] w fun e w' => e = .returned (.tuple #[]) ∧ Exts w w' := by
  go_enter Tryz.func120, Tryz.ntmps120
  go_wp2_with (first | (refine wp_loop_rounds 6 ?_; rw [rounds_succ]) | (rw [rounds_succ]) | (go_at_call 156; ((with_reducible refine (isort156_1 _ _).mono ?_); rintro e w' ⟨rfl, xl, rfl⟩)))
  refine bodyPost_ret (results_none rfl _ _ _) rfl ?_
  exact ⟨rfl, (by repeat (first | exact Exts.refl _ | apply Exts.andR | apply Exts.alloc | apply Exts.wext | apply Exts.drew | apply Exts.drewN))⟩
theorem pdq120_2 (b off c : Nat) (x y k : Int) (w : World) (h : x < y) (h0 : w.cell? ⟨b, off, none⟩ = some (.int .i64 x)) (h1 : w.cell? ⟨b, off + 1, none⟩ = some (.int .i64 y)) : Calls Tryz.prog 120 #[.slice (some ⟨b, off, none⟩) 2 c, .int .i64 0, .int .i64 2, .int .i64 k] w fun e w' => e = .returned (.tuple #[]) ∧ Exts w w' := by
  go_enter Tryz.func120, Tryz.ntmps120
  go_wp2_with (first | (refine wp_loop_rounds 6 ?_; rw [rounds_succ]) | (rw [rounds_succ]) | (go_at_call 156; ((with_reducible refine (isort156_2 _ _ _ _ _ _ h (Exts.cell (by repeat (first | exact Exts.refl _ | apply Exts.andR | apply Exts.alloc | apply Exts.wext | apply Exts.drew | apply Exts.drewN)) h0) (Exts.cell (by repeat (first | exact Exts.refl _ | apply Exts.andR | apply Exts.alloc | apply Exts.wext | apply Exts.drew | apply Exts.drewN)) h1)).mono ?_); rintro e w' ⟨rfl, xl, rfl⟩)))
  refine bodyPost_ret (results_none rfl _ _ _) rfl ?_
  exact ⟨rfl, (by repeat (first | exact Exts.refl _ | apply Exts.andR | apply Exts.alloc | apply Exts.wext | apply Exts.drew | apply Exts.drewN))⟩
theorem sort85_1 (ao : Option Addr) (c : Nat) (w : World) : Calls Tryz.prog 85 #[.slice ao 1 c] w fun e w' => e = .returned (.tuple #[]) ∧ Exts w w' := by
  go_enter Tryz.func85, Tryz.ntmps85
  go_wp2_with (first | (go_at_call 121; ((with_reducible refine (len121_1 _).mono ?_); rintro e w' ⟨rfl, xl, rfl⟩)) | (go_at_call 120; ((with_reducible refine (pdq120_1 _ _ _).mono ?_); rintro e w' ⟨rfl, xp, rfl⟩)))
  go_end0
  exact ⟨rfl, (by repeat (first | exact Exts.refl _ | apply Exts.andR | apply Exts.alloc | apply Exts.wext | apply Exts.drew | apply Exts.drewN))⟩
theorem sort85_2 (b off c : Nat) (x y : Int) (w : World) (h : x < y) (h0 : w.cell? ⟨b, off, none⟩ = some (.int .i64 x)) (h1 : w.cell? ⟨b, off + 1, none⟩ = some (.int .i64 y)) : Calls Tryz.prog 85 #[.slice (some ⟨b, off, none⟩) 2 c] w fun e w' => e = .returned (.tuple #[]) ∧ Exts w w' := by
  go_enter Tryz.func85, Tryz.ntmps85
  go_wp2_with (first | (go_at_call 121; ((with_reducible refine (len121_2 _).mono ?_); rintro e w' ⟨rfl, xl, rfl⟩)) | (go_at_call 120; ((with_reducible refine (pdq120_2 _ _ _ _ _ _ _ h (Exts.cell (by repeat (first | exact Exts.refl _ | apply Exts.andR | apply Exts.alloc | apply Exts.wext | apply Exts.drew | apply Exts.drewN)) h0) (Exts.cell (by repeat (first | exact Exts.refl _ | apply Exts.andR | apply Exts.alloc | apply Exts.wext | apply Exts.drew | apply Exts.drewN)) h1)).mono ?_); rintro e w' ⟨rfl, xp, rfl⟩)))
  go_end0
  exact ⟨rfl, (by repeat (first | exact Exts.refl _ | apply Exts.andR | apply Exts.alloc | apply Exts.wext | apply Exts.drew | apply Exts.drewN))⟩
theorem compact86_1 (ao : Option Addr) (c : Nat) (w : World) : Calls Tryz.prog 86 #[.slice ao 1 c] w fun e w' => e = .returned (.slice ao 1 c) ∧ Exts w w' := by
  go_enter Tryz.func86, Tryz.ntmps86
  go_wp2
  go_ret
  exact ⟨rfl, (by repeat (first | exact Exts.refl _ | apply Exts.andR | apply Exts.alloc | apply Exts.wext | apply Exts.drew | apply Exts.drewN))⟩
theorem compact86_2 (b off c : Nat) (x y : Int) (w : World) (h : x < y) (h0 : w.cell? ⟨b, off, none⟩ = some (.int .i64 x)) (h1 : w.cell? ⟨b, off + 1, none⟩ = some (.int .i64 y)) : Calls Tryz.prog 86 #[.slice (some ⟨b, off, none⟩) 2 c] w fun e w' => e = .returned (.slice (some ⟨b, off, none⟩) 2 c) ∧ Exts w w' := by
  have l : b < w.heap.size := World.block_lt_of_cell? w _ h0
  have q : (y == x) = false := by simp; omega
  clear h
  go_enter Tryz.func86, Tryz.ntmps86
  go_wp2_with (first | (refine wp_loop_rounds 6 ?_; rw [rounds_succ]) | (rw [rounds_succ]))
  first | refine wp_region_ext_lit2 (by kernel_rfl) (by kernel_rfl) ?_ | refine wp_region_ext_lit (by kernel_rfl) (by kernel_rfl) ?_
  repeat (go_big_quiet_step (fail))
  refine wpQuiet_nil ?_
  intro _ hwq'
  obtain ⟨xq, hwq''⟩ := hwq'
  subst hwq''
  go_wp2_with (first | (refine wp_loop_rounds 6 ?_; rw [rounds_succ]) | (rw [rounds_succ]))
  go_ret
  exact ⟨rfl, (by repeat (first | exact Exts.refl _ | apply Exts.andR | apply Exts.alloc | apply Exts.wext | apply Exts.drew | apply Exts.drewN))⟩
theorem index83_1 (b off c : Nat) (x : Int) (w : World) (h0 : w.cell? ⟨b, off, none⟩ = some (.int .i64 x)) : Calls Tryz.prog 83 #[.slice (some ⟨b, off, none⟩) 1 c, .int .i64 x] w fun e w' => e = .returned (.int .i64 0) ∧ Exts w w' := by
  have l : b < w.heap.size := World.block_lt_of_cell? w _ h0
  have q : (x == x) = true := by simp
  go_enter Tryz.func83, Tryz.ntmps83
  go_wp2_with (first | (refine wp_loop_rounds 6 ?_; rw [rounds_succ]) | (rw [rounds_succ]))
  go_ret
  exact ⟨rfl, (by repeat (first | exact Exts.refl _ | apply Exts.andR | apply Exts.alloc | apply Exts.wext | apply Exts.drew | apply Exts.drewN))⟩
theorem contains56_1 (b off c : Nat) (x : Int) (w : World) (h0 : w.cell? ⟨b, off, none⟩ = some (.int .i64 x)) : Calls Tryz.prog 56 #[.slice (some ⟨b, off, none⟩) 1 c, .int .i64 x] w fun e w' => e = .returned (.bool true) ∧ Exts w w' := by
  go_enter Tryz.func56, Tryz.ntmps56
  go_wp2_with (first | (go_at_call 83; ((with_reducible refine (index83_1 _ _ _ _ _ (Exts.cell (by repeat (first | exact Exts.refl _ | apply Exts.andR | apply Exts.alloc | apply Exts.wext | apply Exts.drew | apply Exts.drewN)) h0)).mono ?_); rintro e w' ⟨rfl, xl, rfl⟩)))
  go_ret
  exact ⟨rfl, (by repeat (first | exact Exts.refl _ | apply Exts.andR | apply Exts.alloc | apply Exts.wext | apply Exts.drew | apply Exts.drewN))⟩
end Go.Proofs.YtgmjcgjbbogefaaGreat

/- region.Right and offset.Gap at regions of one rectangle. -/
namespace Go.Proofs.YtgmjcgjbbogefaaGreat
open Go.RowKit Go.Maps
set_option linter.unusedSimpArgs false
set_option linter.unusedVariables false
set_option maxRecDepth 100000
set_option maxHeartbeats 2000000
theorem info41 : (Tryz.prog.info? 41).map (fun i => (i.zero, i.size, i.bytes)) = some (some (.agg #[.int .i64 0, .int .i64 0, .int .i64 0, .int .i64 0]), 4, 32) := by kernel_rfl
theorem owns_takeG {w : World} {base g n cap i s : Nat} {e : TypeId} {xs : List Value} (h : w.ownsRow base e s (.slice (some ⟨g, 0, none⟩) n cap) n xs) (hi : i ≤ n) : w.ownsRow base e s (.slice (some ⟨g, 0, none⟩) i cap) i (xs.take (i * s)) := by
  obtain ⟨h1, ⟨h2, _⟩ | ⟨g', cap', cur, e, h3, h4, h5, h6, h7, h8⟩⟩ := h
  · cases h2
  · simp only [Value.slice.injEq, Option.some.injEq, Addr.mk.injEq, and_true, true_and] at e
    obtain ⟨rfl, rfl⟩ := e
    refine ⟨by rw [List.length_take, h1, Nat.min_eq_left (Nat.mul_le_mul_right _ hi)], .inr ⟨g, cap, cur, rfl, h3, h4, by omega, h6, h7, ?_⟩⟩
    rw [← h8, List.take_take, Nat.min_eq_left (Nat.mul_le_mul_right _ hi)]
theorem grow251 (w : World) : Calls Tryz.prog 251 #[.slice none 0 0, .int .i64 1] w fun e w' => ∃ ao c, e = .returned (.slice ao 0 c) ∧ Exts w w' ∧ w'.ownsRow w.heap.size 41 4 (.slice ao 0 c) 0 [] := by
  obtain ⟨i0, hi, hz0, hz1, hz2⟩ := info_parts info41
  go_enter Tryz.func251, Tryz.ntmps251
  go_wp2
  have hge := grownCap_ge w 1 0 41
  have hle := grownCap_le_maxLen w 1 0 41 (by unfold maxLen; omega)
  change bodyPost _ _ _ _ _ ((w.alloc (.cells (_ ++ Builtin.zeroCells _ (grownCap w 1 0 41 - 1)) 41)).drew)
  refine bodyPost_ret (v := .slice (some ⟨w.heap.size, 0, none⟩) 0 (grownCap w 1 0 41)) (by simp [results, go_sem]; rfl) rfl ⟨_, _, rfl, (by repeat (first | exact Exts.refl _ | apply Exts.andR | apply Exts.alloc | apply Exts.wext | apply Exts.drew | apply Exts.drewN)), ?_⟩
  refine ownsRow_exts (World.ownsRow_made w _ _ (Nat.le_refl _) hle ?_) (by repeat (first | exact Exts.refl _ | apply Exts.andR | apply Exts.alloc | apply Exts.wext | apply Exts.drew | apply Exts.drewN))
  simp [Builtin.zeroCells]
  omega
theorem cut_ge (n o : Nat) (e : TypeId) (t : Nat) : n ≤ (Question.appendCap n o e).cut t := by simp [Question.cut]
theorem cut_le (n o : Nat) (e : TypeId) (t : Nat) (h : n ≤ maxLen) : (Question.appendCap n o e).cut t ≤ maxLen := by
  have hlt := Nat.mod_lt t (show 0 < 2 ^ 63 - n by simp only [maxLen] at h; omega)
  simp only [Question.cut, maxLen] at h ⊢
  omega
theorem rowF_cells {w : World} {b c n k : Nat} {xs : List Value} (hl : xs.length = n * k) (hn : n ≤ c) (hm : c ≤ maxLen) (hb : b < w.heap.size) (h : ∀ t v, xs[t]? = some v → w.cell? ⟨b, t, none⟩ = some v) : RowF (fun _ => True) k w (.slice (some ⟨b, 0, none⟩) n c) n xs :=
  ⟨hl, some ⟨b, 0, none⟩, c, rfl, hn, hm, (fun h => by cases h), fun _ => ⟨b, 0, rfl, trivial, hb, fun t v ht => by rw [Nat.zero_add]; exact h t v ht⟩⟩
theorem own_cell' {w : World} {base g n cap s j : Nat} {e : TypeId} {xs : List Value} {u : Value} (h : w.ownsRow base e s (.slice (some ⟨g, 0, none⟩) n cap) n xs) (hu : xs[j]? = some u) : w.cell? ⟨g, j, none⟩ = some u := by
  have hn : 0 < n := by
    have h1 := h.1
    have h2 := (List.getElem?_eq_some_iff.1 hu).1
    exact Nat.pos_of_ne_zero (fun h0 => by subst h0; simp at h1; subst h1; simp at h2)
  obtain ⟨_, ao, c, hv, _, _, _, h5⟩ := RowF.of_owns h
  cases hv
  obtain ⟨b, off, hb, _, _, hc⟩ := h5 hn
  simp only [Option.some.injEq, Addr.mk.injEq, and_true] at hb
  obtain ⟨rfl, rfl⟩ := hb
  have := hc _ _ hu
  rwa [Nat.zero_add] at this
theorem own_some' {w : World} {base e s n c : Nat} {ao : Option Addr} {xs : List Value} (h : w.ownsRow base e s (.slice ao n c) n xs) (hn : 0 < n) : ∃ g, ao = some ⟨g, 0, none⟩ ∧ base ≤ g ∧ g < w.heap.size := by
  obtain ⟨_, ⟨h1, h2⟩ | ⟨g, cap, cur, hv, hb, hg, _⟩⟩ := id h
  · omega
  · cases hv
    exact ⟨g, rfl, hb, (Array.getElem?_eq_some_iff.1 hg).1⟩
theorem own_ge {w : World} {base e k n g : Nat} {v : Value} {xs : List Value} (h : w.ownsRow base e k v n xs) (hg : v.ownBlock = some g) : base ≤ g := (h.lt g hg).1
theorem rect_one (x0 x1 : Int) : ∀ u ∈ ([.int .i64 x0, .int .i64 0, .int .i64 x1, .int .i64 4] : List Value), u.oneCell' = true := by
  intro u hu
  simp at hu
  rcases hu with rfl | rfl | rfl | rfl <;> rfl
theorem concat214 {S : Nat → Prop} (lb : Nat) (ao : Option Addr) (c : Nat) (x0 x1 : Int) (w : World) (h0 : w.cell? ⟨lb, 0, none⟩ = some (.slice ao 1 c)) (hr : RowF S 4 w (.slice ao 1 c) 1 [.int .i64 x0, .int .i64 0, .int .i64 x1, .int .i64 4]) :
    Calls Tryz.prog 214 #[.slice (some ⟨lb, 0, none⟩) 1 1] w fun e w' => ∃ ao' c', e = .returned (.slice ao' 1 c') ∧ Exts w w' ∧ w'.ownsRow w.heap.size 41 4 (.slice ao' 1 c') 1 [.int .i64 x0, .int .i64 0, .int .i64 x1, .int .i64 4] := by
  obtain ⟨i0, hi, hz0, hz1, hz2⟩ := info_parts info41
  have l : lb < w.heap.size := World.block_lt_of_cell? w _ h0
  have HR := Lib.hid hr
  obtain ⟨_, ao2, cap2, hv, q2, q3, q4, q5⟩ := hr
  simp only [Value.slice.injEq, true_and] at hv
  obtain ⟨rfl, rfl⟩ := hv
  obtain ⟨b, off, rfl, _, lb', hc⟩ := q5 (by decide)
  clear q2 q3 q4 q5 hc
  go_enter Tryz.func214, Tryz.ntmps214
  go_wp2_with (first | (refine wp_loop_rounds 6 ?_; rw [rounds_succ]) | (rw [rounds_succ]) | (go_at_call 251; ((with_reducible refine (grow251 _).mono ?_); rintro e w' ⟨go, gc, rfl, ⟨xg, rfl⟩, ho⟩; (have HO := Lib.hid ho); clear ho)) | (at_builtin; refine wpList_append_row rfl _ _ 42 rfl w.heap.size 41 i0 _ 4 32 Tryz.underlying42 hi hz0 hz1 hz2 rfl (by decide) (.slice go 0 gc) 0 [] rfl (ownsRow_exts HO.out (by repeat (first | exact Exts.refl _ | apply Exts.andR | apply Exts.alloc | apply Exts.wext | apply Exts.drew | apply Exts.drewN))) (some ⟨b, off, none⟩) 1 c _ rfl (RowF.exts HR.out (by repeat (first | exact Exts.refl _ | apply Exts.andR | apply Exts.alloc | apply Exts.wext | apply Exts.drew | apply Exts.drewN))) (rect_one _ _) (by unfold maxLen; omega) (by omega) (by simp <;> omega) ?_; intro ao1 c1 w1 hown1 hg1; (have HO1 := Lib.hid hown1); (have HX1 := Lib.hid (exts_of_grown (W := w) (by repeat (first | exact Exts.refl _ | apply Exts.andR | apply Exts.alloc | apply Exts.wext | apply Exts.drew | apply Exts.drewN)) hg1 (fun b hb => own_ge HO.out hb))); clear hown1 hg1))
  go_ret
  exact ⟨ao1, c1, rfl, HX1.out.trans (by repeat (first | exact Exts.refl _ | apply Exts.andR | apply Exts.alloc | apply Exts.wext | apply Exts.drew | apply Exts.drewN)), ownsRow_exts HO1.out (by repeat (first | exact Exts.refl _ | apply Exts.andR | apply Exts.alloc | apply Exts.wext | apply Exts.drew | apply Exts.drewN))⟩
/-- One span. -/
theorem info312 : (Tryz.prog.info? 312).map (fun i => (i.zero, i.size, i.bytes)) = some (some (.agg #[.int .i64 0, .int .i64 0]), 2, 16) := by kernel_rfl
theorem info314 : (Tryz.prog.info? 314).map (fun i => (i.zero, i.size, i.bytes)) = some (some (.agg #[.int .i64 0, .int .i64 0, .slice none 0 0]), 3, 40) := by kernel_rfl
theorem isort294_1 (v f : Value) (w : World) : Calls Tryz.prog 294 #[v, .int .i64 0, .int .i64 1, f] w fun e w' => e = .returned (.tuple #[]) ∧ Exts w w' := by
  go_enter Tryz.func294, Tryz.ntmps294
  go_wp2_with (first | (refine wp_loop_rounds 6 ?_; rw [rounds_succ]) | (rw [rounds_succ]))
  go_end0
  exact ⟨rfl, (by repeat (first | exact Exts.refl _ | apply Exts.andR | apply Exts.alloc | apply Exts.wext | apply Exts.drew | apply Exts.drewN))⟩
theorem pdq275_1 (v f : Value) (k : Int) (w : World) : Calls Tryz.prog 275 #[v, .int .i64 0, .int .i64 1, .int .i64 k, f] w fun e w' => e = .returned (.tuple #[]) ∧ Exts w w' := by
  go_enter Tryz.func275, Tryz.ntmps275
  go_wp2_with (first | (refine wp_loop_rounds 6 ?_; rw [rounds_succ]) | (rw [rounds_succ]) | (go_at_call 294; ((with_reducible refine (isort294_1 _ _ _).mono ?_); rintro e w' ⟨rfl, xl, rfl⟩)))
  refine bodyPost_ret (results_none rfl _ _ _) rfl ?_
  exact ⟨rfl, (by repeat (first | exact Exts.refl _ | apply Exts.andR | apply Exts.alloc | apply Exts.wext | apply Exts.drew | apply Exts.drewN))⟩
theorem sortF252_1 (ao : Option Addr) (c : Nat) (f : Value) (w : World) : Calls Tryz.prog 252 #[.slice ao 1 c, f] w fun e w' => e = .returned (.tuple #[]) ∧ Exts w w' := by
  go_enter Tryz.func252, Tryz.ntmps252
  go_wp2_with (first | (go_at_call 121; ((with_reducible refine (len121_1 _).mono ?_); rintro e w' ⟨rfl, xl, rfl⟩)) | (go_at_call 275; ((with_reducible refine (pdq275_1 _ _ _ _).mono ?_); rintro e w' ⟨rfl, xp, rfl⟩)))
  go_end0
  exact ⟨rfl, (by repeat (first | exact Exts.refl _ | apply Exts.andR | apply Exts.alloc | apply Exts.wext | apply Exts.drew | apply Exts.drewN))⟩
theorem column215 (b off c : Nat) (x0 x1 : Int) (hx : x0 < x1) (w : World) (c0 : w.cell? ⟨b, off, none⟩ = some (.int .i64 x0)) (c1 : w.cell? ⟨b, off + 1, none⟩ = some (.int .i64 0)) (c2 : w.cell? ⟨b, off + 2, none⟩ = some (.int .i64 x1)) (c3 : w.cell? ⟨b, off + 3, none⟩ = some (.int .i64 4)) :
    Calls Tryz.prog 215 #[.slice (some ⟨b, off, none⟩) 1 c, .int .i64 x0] w fun e w' => ∃ ao' c', e = .returned (.slice ao' 1 c') ∧ Exts w w' ∧ RowF (fun _ => True) 2 w' (.slice ao' 1 c') 1 [.int .i64 0, .int .i64 4] := by
  obtain ⟨i0, hi, hz0, hz1, hz2⟩ := info_parts info312
  have l : b < w.heap.size := World.block_lt_of_cell? w _ c0
  have q1 : decide (x0 ≤ x0) = true := by simp
  have q2 : decide (x0 < x1) = true := by simpa using hx
  go_enter Tryz.func215, Tryz.ntmps215
  go_wp2_with (first | (refine wp_loop_rounds 6 ?_; rw [rounds_succ]) | (rw [rounds_succ]) | (go_at_call 252; ((with_reducible refine (sortF252_1 _ _ _ _).mono ?_); rintro e w' ⟨rfl, xp, rfl⟩)))
  first | refine wp_region_ext_lit2 (by kernel_rfl) (by kernel_rfl) ?_ | refine wp_region_ext_lit (by kernel_rfl) (by kernel_rfl) ?_
  repeat (go_big_quiet_step (fail))
  refine wpQuiet_nil ?_
  intro _ hwq'
  obtain ⟨xq, hwq''⟩ := hwq'
  subst hwq''
  go_wp2_with (first | (refine wp_loop_rounds 6 ?_; rw [rounds_succ]) | (rw [rounds_succ]))
  go_ret
  refine ⟨_, _, rfl, (by repeat (first | exact Exts.refl _ | apply Exts.andR | apply Exts.alloc | apply Exts.wext | apply Exts.drew | apply Exts.drewN)), rowF_cells rfl (cut_ge _ _ _ _) (cut_le _ _ _ _ (by unfold maxLen; omega)) (by simp <;> omega) fun t v ht => ?_⟩
  match t, ht with
  | 0, ht => (simp at ht; subst ht; simp [go_sem])
  | 1, ht => (simp at ht; subst ht; simp [go_sem])
end Go.Proofs.YtgmjcgjbbogefaaGreat

/- region.strips, write, Of, Right at one rectangle. -/
namespace Go.Proofs.YtgmjcgjbbogefaaGreat
open Go.RowKit Go.Maps
set_option linter.unusedSimpArgs false
set_option linter.unusedVariables false
set_option maxRecDepth 100000
set_option maxHeartbeats 4000000
theorem strips169 {S : Nat → Prop} (lb : Nat) (ao : Option Addr) (c : Nat) (x0 x1 : Int) (hx : x0 < x1) (w : World) (h0 : w.cell? ⟨lb, 0, none⟩ = some (.slice ao 1 c)) (hr : RowF S 4 w (.slice ao 1 c) 1 [.int .i64 x0, .int .i64 0, .int .i64 x1, .int .i64 4]) :
    Calls Tryz.prog 169 #[.slice (some ⟨lb, 0, none⟩) 1 1] w fun e w' => ∃ ao' c' vo vc, e = .returned (.slice ao' 1 c') ∧ Exts w w' ∧ RowF (fun _ => True) 3 w' (.slice ao' 1 c') 1 [.int .i64 x0, .int .i64 x1, .slice vo 1 vc] ∧ RowF (fun _ => True) 2 w' (.slice vo 1 vc) 1 [.int .i64 0, .int .i64 4] := by
  obtain ⟨i0, hi, hz0, hz1, hz2⟩ := info_parts info314
  have l : lb < w.heap.size := World.block_lt_of_cell? w _ h0
  have HR := Lib.hid hr
  have HXX := Lib.hid hx
  clear hr hx
  go_enter Tryz.func169, Tryz.ntmps169
  go_wp2_with (first | (go_at_call 214; fail))
  refine Calls.mono (concat214 lb ao c x0 x1 _ (Exts.cell (by repeat (first | exact Exts.refl _ | apply Exts.andR | apply Exts.alloc | apply Exts.wext | apply Exts.drew | apply Exts.drewN)) h0) (RowF.exts HR.out (by repeat (first | exact Exts.refl _ | apply Exts.andR | apply Exts.alloc | apply Exts.wext | apply Exts.drew | apply Exts.drewN)))) ?_
  rintro e w' ⟨ao1, cc1, rfl, ⟨y1, rfl⟩, ho⟩
  obtain ⟨g, rfl, hg1, hg2⟩ := own_some' ho (by decide)
  have d0 := own_cell' ho (j := 0) rfl
  have d1 := own_cell' ho (j := 1) rfl
  have d2 := own_cell' ho (j := 2) rfl
  have d3 := own_cell' ho (j := 3) rfl
  generalize hW : wext w y1 = W at *
  have HX := Lib.hid (show Exts w W by rw [← hW]; exact (by repeat (first | exact Exts.refl _ | apply Exts.andR | apply Exts.alloc | apply Exts.wext | apply Exts.drew | apply Exts.drewN)))
  clear hW ho h0 l
  go_wp2_with (first | (refine wp_loop_rounds 6 ?_; rw [rounds_succ]) | (rw [rounds_succ]) | (go_at_call 85; fail))
  generalize hC : Question.cut _ _ = C
  generalize hW2 : World.drew _ = W2
  have HX2 := Lib.hid (show Exts W W2 by rw [← hW2]; exact (by repeat (first | exact Exts.refl _ | apply Exts.andR | apply Exts.alloc | apply Exts.wext | apply Exts.drew | apply Exts.drewN)))
  have e0 : W2.cell? ⟨W.heap.size + 1 + 1, 0, none⟩ = some (.int .i64 x0) := by rw [← hW2]; simp [go_sem]
  have e1 : W2.cell? ⟨W.heap.size + 1 + 1, 0 + 1, none⟩ = some (.int .i64 x1) := by rw [← hW2]; simp [go_sem]
  have d0 := Exts.cell HX2.out d0
  have d1 := Exts.cell HX2.out d1
  have d2 := Exts.cell HX2.out d2
  have d3 := Exts.cell HX2.out d3
  generalize W.heap.size + 1 + 1 = B at *
  have HX := Lib.hid (HX.out.trans HX2.out)
  clear hW2 HX2 hg2 hC
  have lB : B < W2.heap.size := World.block_lt_of_cell? W2 _ e0
  have lg : g < W2.heap.size := World.block_lt_of_cell? W2 _ d0
  refine Calls.mono (sort85_2 B 0 C x0 x1 _ HXX.out e0 e1) ?_
  rintro e w' ⟨rfl, y2, rfl⟩
  go_wp2_with (first | (go_at_call 86; ((with_reducible refine (compact86_2 B 0 C x0 x1 _ HXX.out (Exts.cell (by repeat (first | exact Exts.refl _ | apply Exts.andR | apply Exts.alloc | apply Exts.wext | apply Exts.drew | apply Exts.drewN)) e0) (Exts.cell (by repeat (first | exact Exts.refl _ | apply Exts.andR | apply Exts.alloc | apply Exts.wext | apply Exts.drew | apply Exts.drewN)) e1)).mono ?_); rintro e w' ⟨rfl, y3, rfl⟩)) | (refine wp_loop_rounds 6 ?_; rw [rounds_succ]) | (rw [rounds_succ]) | (go_at_call 215; fail))
  refine wp_name ?_
  intro W3 hW3
  have HX3 := Lib.hid (show Exts W2 W3 by rw [hW3]; exact (by repeat (first | exact Exts.refl _ | apply Exts.andR | apply Exts.alloc | apply Exts.wext | apply Exts.drew | apply Exts.drewN)))
  have D0 := Lib.hid (Exts.cell HX3.out d0)
  have D1 := Lib.hid (Exts.cell HX3.out d1)
  have D2 := Lib.hid (Exts.cell HX3.out d2)
  have D3 := Lib.hid (Exts.cell HX3.out d3)
  have E0 : ∀ w', Exts W3 w' → w'.cell? ⟨B, 0, none⟩ = some (.int .i64 x0) := fun w' h => Exts.cell (HX3.out.trans h) e0
  have E1 : ∀ w', Exts W3 w' → w'.cell? ⟨B, 1, none⟩ = some (.int .i64 x1) := fun w' h => Exts.cell (HX3.out.trans h) e1
  clear hW3 d0 d1 d2 d3 e0 e1 lB lg
  have hw1 : IntKind.i64.wrap ((1 : Int) - 1) = 0 := by decide
  have hw0 : IntKind.i64.wrap (0 : Int) = 0 := by decide
  go_region_held3 (fun w' => Exts W3 w') (first | assumption | exact (Exts.refl _).drew | exact exts_of_grown (W := W3) (by repeat (first | exact Exts.refl _ | apply Exts.andR | apply Exts.alloc | apply Exts.wext | apply Exts.drew | apply Exts.drewN)) hgrow (fun b hb => by cases hb) | exact (by repeat (first | exact Exts.refl _ | apply Exts.andR | apply Exts.alloc | apply Exts.wext | apply Exts.drew | apply Exts.drewN))) ((first | (go_at_call 215; ((with_reducible refine (column215 g 0 cc1 x0 x1 HXX.out _ (Exts.cell (by first | assumption | exact (by repeat (first | exact Exts.refl _ | apply Exts.andR | apply Exts.alloc | apply Exts.wext | apply Exts.drew | apply Exts.drewN))) D0.out) (Exts.cell (by first | assumption | exact (by repeat (first | exact Exts.refl _ | apply Exts.andR | apply Exts.alloc | apply Exts.wext | apply Exts.drew | apply Exts.drewN))) D1.out) (Exts.cell (by first | assumption | exact (by repeat (first | exact Exts.refl _ | apply Exts.andR | apply Exts.alloc | apply Exts.wext | apply Exts.drew | apply Exts.drewN))) D2.out) (Exts.cell (by first | assumption | exact (by repeat (first | exact Exts.refl _ | apply Exts.andR | apply Exts.alloc | apply Exts.wext | apply Exts.drew | apply Exts.drewN))) D3.out)).mono ?_); rintro e w' ⟨co, cc, rfl, ⟨y5, rfl⟩, hcol⟩; (have HCOL := Lib.hid hcol); clear hcol)) | (refine step_append_lies _ rfl (.tmp 35) (.tmp 53) 263 rfl W3.heap.size 314 i0 _ 3 40 Tryz.underlying263 hi hz0 hz1 hz2 rfl (by decide) (.slice none 0 0) 0 [] (by simp [Act.eval, Act.put]) (World.ownsRow_nil _ _ _ _) ⟨W3.heap.size + y5.bs.size, 0, none⟩ 1 1 [.int .i64 x0, .int .i64 x1, .slice co 1 cc] (by simp [Act.eval, Act.put]) rfl (by intro j u hj; match j, hj with | 0, hj => (simp at hj; subst hj; simp [go_sem]) | 1, hj => (simp at hj; subst hj; simp [go_sem]) | 2, hj => (simp at hj; subst hj; simp [go_sem])) (by intro u hu; simp at hu; rcases hu with rfl | rfl | rfl <;> rfl) (by decide) (by unfold maxLen; omega) (by omega) (by simp <;> omega) _ rfl ?_; intro g5 cg5 w5 hown5 hgrow hat5 hlt5)))
  all_goals (
    have HX5 := Lib.hid (exts_of_grown (W := W3) (by repeat (first | exact Exts.refl _ | apply Exts.andR | apply Exts.alloc | apply Exts.wext | apply Exts.drew | apply Exts.drewN)) hgrow (fun b hb => by cases hb))
    have HC5 := Lib.hid (RowF.exts HCOL.out (exts_of_grown (W := wext W3 y5) (by repeat (first | exact Exts.refl _ | apply Exts.andR | apply Exts.alloc | apply Exts.wext | apply Exts.drew | apply Exts.drewN)) hgrow (fun b hb => by cases hb)))
    have HO5 := Lib.hid hown5
    clear hgrow hat5 hlt5 hown5
    go_wp2_with (first | (refine wp_loop_rounds 6 ?_; rw [rounds_succ]) | (rw [rounds_succ]))
    go_ret
    exact ⟨_, _, co, cc, rfl, HX.out.trans (HX3.out.trans HX5.out), RowF.mono (RowF.of_owns HO5.out) (fun _ _ => trivial), HC5.out⟩)
end Go.Proofs.YtgmjcgjbbogefaaGreat
