/- Lemmas that the laws of this seat share, 4 texts in one: RefSv, RefSet, AppEmpty, RefArm. No condition of their own. -/
import Derived.Test.YtgeoompgakdbiaaM13
import Derived.StillTailTactics
import Derived.Test.YtgeoompgakdbiaaM2
import Derived.Test.YtgeoompgakdbiaaM1
import Derived.Deep.RegionLawGrows
/- The reference: survive. -/
namespace Go.Proofs.Ytgeoompgakdbiaa
open Go.RowKit Go.Maps
set_option linter.unusedSimpArgs false
set_option linter.unusedVariables false
set_option maxRecDepth 100000
/-- One pending sector that survives. -/
def surv (F : Int → FileB) (p : Sec) : Int → FileB := if (F p.1).1.size ≤ p.2.toNat * 64 then F else setF F p.1 ((F p.1).1, putB (F p.1).2 (p.2.toNat * 64) (sectB (F p.1).1 p.2.toNat))
theorem setF_self (F : Int → FileB) (f : Int) : setF F f (F f) = F := by
  funext g
  unfold setF
  split
  · rename_i h
    rw [h]
  · rfl
theorem tail_named {P : Program} {id : Nat} {Q : Exit → Act → World → Prop} {a : Act} {w : World} {l : List Oper} (n : Nat) (hm : P.follows .mixedOrders = true) (hB : Region.lexTailB .any l.toArray n = true)
    (h : ∀ w2 : World, w2 = w.drew → wpStill P l.toArray w2 (fun a' => wpList P l.toArray Q (l.drop n) a' w2) (l.take n) a) : (Code.region id l.toArray true).wp P Q a w := wp_region_still_tail n hm hB (h w.drew rfl)
set_option maxHeartbeats 2000000
theorem survive52 {w : World} {b c : Nat} {M : Mod} {O S : Nat → Prop} (hd : RefAt w b M O S c) (f : Int) (n : Nat) (h0 : 0 ≤ f) (h15 : f ≤ 15) (hn : n ≤ 262144) : Calls Try.prog 52 #[.pointer (some ⟨b, 0, none⟩), .agg #[.int .i64 f, .int .i64 n]] w fun e w' => e = .returned (.tuple #[]) ∧ AfterR w b { M with files := surv M.files (f, (n : Int)) } O S c w' := by
  have HD := Lib.hid hd
  obtain ⟨⟨x, y⟩, hx⟩ : ∃ x, M.files f = x := ⟨_, rfl⟩
  have hxs := hd.good.sizes f
  rw [hx] at hxs
  simp only [] at hxs
  have HX := Lib.hid hx
  have hxs1 := hxs.1
  unfold maxFile at hxs1
  clear hd
  by_cases hle : x.size ≤ n * 64
  · have q1 : decide (64 * (n : Int) < (x.size : Int)) = false := by simp; omega
    have HR := Lib.hid (show ({ M with files := surv M.files (f, (n : Int)) } : Mod) = setM M f (x, y) by
      have e : surv M.files (f, (n : Int)) = setF M.files f (x, y) := by
        unfold surv
        simp only [Int.toNat_natCast, hx]
        rw [if_pos hle, ← hx, setF_self]
      unfold setM
      rw [e])
    clear hx hle
    go_enter Try.func52, Try.ntmps52
    go_wp2_with (first | (go_at_call 39; ((with_reducible refine Calls.mono (get39_ext HD.out (by repeat (first | exact Exts.refl _ | apply Exts.andR | apply Exts.alloc | apply Exts.wext | apply Exts.drew | apply Exts.drewN)) HX.out) ?_); rintro e w1 ⟨rfl, hx1⟩; (have xc0 : w1.cell? ⟨w.heap.size, 0, none⟩ = some (.int .i64 f) := Exts.cell hx1 (by simp [go_sem])); (have xc1 : w1.cell? ⟨w.heap.size, 1, none⟩ = some (.int .i64 n) := Exts.cell hx1 (by simp [go_sem])); (have lx : w.heap.size < w1.heap.size := World.block_lt_of_cell? w1 _ xc0); (have HX1 := Lib.hid (Exts.trans ((by repeat (first | exact Exts.refl _ | apply Exts.andR | apply Exts.alloc | apply Exts.wext | apply Exts.drew | apply Exts.drewN)) : Exts w _) hx1)); clear hx1)) | (go_at_call 60; ((with_reducible refine (set60 (HD.out.exts (HX1.out.trans (by repeat (first | exact Exts.refl _ | apply Exts.andR | apply Exts.alloc | apply Exts.wext | apply Exts.drew | apply Exts.drewN)))) f x y h0 h15 hxs.1 hxs.2).mono ?_); rintro e w3 ⟨rfl, hA3⟩)))
    go_end0
    have hA := AfterR.ahead (Touch.of_exts (O := O) (HX1.out.trans (by repeat (first | exact Exts.refl _ | apply Exts.andR | apply Exts.alloc | apply Exts.wext | apply Exts.drew | apply Exts.drewN)))) hA3
    refine ⟨rfl, ?_⟩
    rw [HR.out]
    exact hA
  · have q1 : decide (64 * (n : Int) < (x.size : Int)) = true := by simp; omega
    have hse : sectB x n = x.extract (64 * n) (min (64 * n + 64) x.size) := by unfold sectB; rw [Nat.mul_comm]
    obtain ⟨P, hP⟩ : ∃ P, putB y (64 * n) (sectB x n) = P := ⟨_, rfl⟩
    have hss := sectB_size (s := x) (n := n) (by omega)
    have hPs : P.size ≤ maxFile := by
      rw [← hP, putB_size]
      have h2 := hxs.2
      unfold maxFile at h2 ⊢
      split
      · exact h2
      · exact Nat.max_le.2 ⟨h2, by omega⟩
    have HR := Lib.hid (show ({ M with files := surv M.files (f, (n : Int)) } : Mod) = setM M f (x, P) by
      have e : surv M.files (f, (n : Int)) = setF M.files f (x, P) := by
        unfold surv
        simp only [Int.toNat_natCast, hx]
        rw [if_neg hle, Nat.mul_comm n 64, hP]
      unfold setM
      rw [e])
    have b1 : 64 * n ≤ x.size := by omega
    rw [hse] at hP hss
    by_cases hlt : x.size < 64 * n + 64
    · rw [Nat.min_eq_right (by omega)] at hP hss
      obtain ⟨T, hT⟩ : ∃ T, x.extract (64 * n) x.size = T := ⟨_, rfl⟩
      rw [hT] at hP hss
      have hput : ∀ w : World, Calls Try.prog 61 #[.string y, .int .i64 (64 * (n : Int)), .string T] w fun e w' => e = .returned (.string P) ∧ Exts w w' := fun w => by
        have := refPut61 y T (64 * n) w hxs.2 (by unfold maxFile; omega)
        rw [hP, show ((64 * n : Nat) : Int) = 64 * (n : Int) by omega] at this
        exact this
      have HPUT := Lib.hid hput
      have q2 : (x.size : Int) < 64 * (n : Int) + 64 := by omega
      have q3 : IntKind.i64.wrap (64 * (n : Int)) = 64 * n := by rw [IntKind.wrap_i64] <;> omega
      have q4 : IntKind.i64.wrap (64 * (n : Int) + 64) = 64 * n + 64 := by rw [IntKind.wrap_i64] <;> omega
      have q5 : (if (x.size : Int) < IntKind.i64.wrap (IntKind.i64.wrap (64 * (n : Int)) + 64) then (x.size : Int) else IntKind.i64.wrap (IntKind.i64.wrap (64 * (n : Int)) + 64)) = (x.size : Int) := by rw [q3, q4, if_pos q2]
      clear hx hle hse hP hput
      go_enter Try.func52, Try.ntmps52
      go_wp2_with (first | (go_at_call 39; ((with_reducible refine Calls.mono (get39_ext HD.out (by repeat (first | exact Exts.refl _ | apply Exts.andR | apply Exts.alloc | apply Exts.wext | apply Exts.drew | apply Exts.drewN)) HX.out) ?_); rintro e w1 ⟨rfl, hx1⟩; (have xc0 : w1.cell? ⟨w.heap.size, 0, none⟩ = some (.int .i64 f) := Exts.cell hx1 (by simp [go_sem])); (have xc1 : w1.cell? ⟨w.heap.size, 1, none⟩ = some (.int .i64 n) := Exts.cell hx1 (by simp [go_sem])); (have lx : w.heap.size < w1.heap.size := World.block_lt_of_cell? w1 _ xc0); (have HX1 := Lib.hid (Exts.trans ((by repeat (first | exact Exts.refl _ | apply Exts.andR | apply Exts.alloc | apply Exts.wext | apply Exts.drew | apply Exts.drewN)) : Exts w _) hx1)); clear hx1)))
      refine wp_name ?_
      intro W5 hW5
      have u0 : W5.cell? ⟨w1.heap.size, 0, none⟩ = some (.int .i64 f) := by rw [hW5]; exact (World.cell?_alloc_new ..)
      have u1 : W5.cell? ⟨w1.heap.size, 1, none⟩ = some (.string x) := by rw [hW5]; exact (World.cell?_alloc_new ..)
      have u2 : W5.cell? ⟨w1.heap.size, 2, none⟩ = some (.string y) := by rw [hW5]; exact (World.cell?_alloc_new ..)
      have u3 : W5.frozen? ⟨w1.heap.size, 2, none⟩ = false := by rw [hW5]; simp [go_sem]
      have u4 : W5.cell? ⟨w.heap.size, 0, none⟩ = some (.int .i64 f) := Exts.cell (by rw [hW5]; exact (by repeat (first | exact Exts.refl _ | apply Exts.andR | apply Exts.alloc | apply Exts.wext | apply Exts.drew | apply Exts.drewN))) xc0
      have u5 : W5.cell? ⟨w.heap.size, 1, none⟩ = some (.int .i64 n) := Exts.cell (by rw [hW5]; exact (by repeat (first | exact Exts.refl _ | apply Exts.andR | apply Exts.alloc | apply Exts.wext | apply Exts.drew | apply Exts.drewN))) xc1
      have u6 : w1.heap.size < W5.heap.size := World.block_lt_of_cell? W5 _ u0
      have u7 : w.heap.size < W5.heap.size := World.block_lt_of_cell? W5 _ u4
      have HX5 := Lib.hid (show Exts w W5 from HX1.out.trans (by rw [hW5]; exact (by repeat (first | exact Exts.refl _ | apply Exts.andR | apply Exts.alloc | apply Exts.wext | apply Exts.drew | apply Exts.drewN))))
      have hsz1 := HX1.out.below.size
      clear hW5 xc0 xc1
      refine tail_named 19 (by kernel_rfl) (by kernel_rfl) ?_
      simp only [List.take_succ_cons, List.take_zero, List.drop_succ_cons, List.drop_zero]
      intro W6 hW6
      have e0 : ∀ a, W6.cell? a = W5.cell? a := fun a => by rw [hW6]; rfl
      have e1 : ∀ a, W6.frozen? a = W5.frozen? a := fun a => by rw [hW6]; rfl
      have es : W6.heap.size = W5.heap.size := by rw [hW6]; rfl
      have HX6 := Lib.hid (show Exts w W6 from HX5.out.trans (by rw [hW6]; exact (by repeat (first | exact Exts.refl _ | apply Exts.andR | apply Exts.alloc | apply Exts.wext | apply Exts.drew | apply Exts.drewN))))
      rw [← e0] at u0 u1 u2 u4 u5
      rw [← e1] at u3
      rw [← es] at u6 u7
      clear e0 e1 es hW6 HX5
      have z1 : 0 ≤ 64 * (n : Int) := by omega
      have z2 : 64 * (n : Int) ≤ (x.size : Int) := by omega
      have z3 : (64 * (n : Int)).toNat = 64 * n := by omega
      have z4 : 64 * (n : Int) ≤ 64 * (n : Int) + 64 := by omega
      have z5 : (64 * (n : Int) + 64).toNat = 64 * n + 64 := by omega
      have z6 : 0 ≤ 64 * (n : Int) + 64 := by omega
      repeat still_step
      refine wpStill_nil ?_
      go_wp2_with (first | (go_at_call 61; ((with_reducible refine Calls.mono (HPUT.out _) ?_); rintro e w2 ⟨rfl, hx2⟩; (have v0 := Exts.cell hx2 u0); (have v1 := Exts.cell hx2 u1); (have v2 := Exts.cell hx2 u2); (have v3 : w2.frozen? ⟨w1.heap.size, 2, none⟩ = false := (World.frozen?_of_block (hx2.below.block w1.heap.size u6)).trans u3); (have v6 : w1.heap.size < w2.heap.size := World.block_lt_of_cell? w2 _ v0); (have HX2 := Lib.hid hx2); clear hx2)) | (go_at_call 60; ((have HXF := Lib.hid (exts_touch (HX6.out.trans HX2.out) (Touch.setCell (O := fun j => j = w1.heap.size) w2 ⟨w1.heap.size, 2, none⟩ (.string P) rfl) (fun j hj => by omega))); (with_reducible refine (set60 (HD.out.exts HXF.out) f x P h0 h15 hxs.1 hPs).mono ?_); rintro e w3 ⟨rfl, hA3⟩)))
      go_end0
      have hA := AfterR.ahead (Touch.of_exts (O := O) HXF.out) hA3
      refine ⟨rfl, ?_⟩
      rw [HR.out]
      exact hA
    · rw [Nat.min_eq_left (by omega)] at hP hss
      obtain ⟨T, hT⟩ : ∃ T, x.extract (64 * n) (64 * n + 64) = T := ⟨_, rfl⟩
      rw [hT] at hP hss
      have hput : ∀ w : World, Calls Try.prog 61 #[.string y, .int .i64 (64 * (n : Int)), .string T] w fun e w' => e = .returned (.string P) ∧ Exts w w' := fun w => by
        have := refPut61 y T (64 * n) w hxs.2 (by unfold maxFile; omega)
        rw [hP, show ((64 * n : Nat) : Int) = 64 * (n : Int) by omega] at this
        exact this
      have HPUT := Lib.hid hput
      have q2 : 64 * (n : Int) + 64 ≤ (x.size : Int) := by omega
      have q3 : IntKind.i64.wrap (64 * (n : Int)) = 64 * n := by rw [IntKind.wrap_i64] <;> omega
      have q4 : IntKind.i64.wrap (64 * (n : Int) + 64) = 64 * n + 64 := by rw [IntKind.wrap_i64] <;> omega
      have q5 : (if (x.size : Int) < IntKind.i64.wrap (IntKind.i64.wrap (64 * (n : Int)) + 64) then (x.size : Int) else IntKind.i64.wrap (IntKind.i64.wrap (64 * (n : Int)) + 64)) = 64 * n + 64 := by rw [q3, q4, if_neg (by omega)]
      have q6 : (if (x.size : Int) < 64 * (n : Int) + 64 then (x.size : Int) else 64 * (n : Int) + 64) = 64 * n + 64 := if_neg (by omega)
      have b2 : 64 * n + 64 ≤ x.size := by omega
      clear hx hle hse hP hput
      go_enter Try.func52, Try.ntmps52
      go_wp2_with (first | (go_at_call 39; ((with_reducible refine Calls.mono (get39_ext HD.out (by repeat (first | exact Exts.refl _ | apply Exts.andR | apply Exts.alloc | apply Exts.wext | apply Exts.drew | apply Exts.drewN)) HX.out) ?_); rintro e w1 ⟨rfl, hx1⟩; (have xc0 : w1.cell? ⟨w.heap.size, 0, none⟩ = some (.int .i64 f) := Exts.cell hx1 (by simp [go_sem])); (have xc1 : w1.cell? ⟨w.heap.size, 1, none⟩ = some (.int .i64 n) := Exts.cell hx1 (by simp [go_sem])); (have lx : w.heap.size < w1.heap.size := World.block_lt_of_cell? w1 _ xc0); (have HX1 := Lib.hid (Exts.trans ((by repeat (first | exact Exts.refl _ | apply Exts.andR | apply Exts.alloc | apply Exts.wext | apply Exts.drew | apply Exts.drewN)) : Exts w _) hx1)); clear hx1)))
      refine wp_name ?_
      intro W5 hW5
      have u0 : W5.cell? ⟨w1.heap.size, 0, none⟩ = some (.int .i64 f) := by rw [hW5]; exact (World.cell?_alloc_new ..)
      have u1 : W5.cell? ⟨w1.heap.size, 1, none⟩ = some (.string x) := by rw [hW5]; exact (World.cell?_alloc_new ..)
      have u2 : W5.cell? ⟨w1.heap.size, 2, none⟩ = some (.string y) := by rw [hW5]; exact (World.cell?_alloc_new ..)
      have u3 : W5.frozen? ⟨w1.heap.size, 2, none⟩ = false := by rw [hW5]; simp [go_sem]
      have u4 : W5.cell? ⟨w.heap.size, 0, none⟩ = some (.int .i64 f) := Exts.cell (by rw [hW5]; exact (by repeat (first | exact Exts.refl _ | apply Exts.andR | apply Exts.alloc | apply Exts.wext | apply Exts.drew | apply Exts.drewN))) xc0
      have u5 : W5.cell? ⟨w.heap.size, 1, none⟩ = some (.int .i64 n) := Exts.cell (by rw [hW5]; exact (by repeat (first | exact Exts.refl _ | apply Exts.andR | apply Exts.alloc | apply Exts.wext | apply Exts.drew | apply Exts.drewN))) xc1
      have u6 : w1.heap.size < W5.heap.size := World.block_lt_of_cell? W5 _ u0
      have u7 : w.heap.size < W5.heap.size := World.block_lt_of_cell? W5 _ u4
      have HX5 := Lib.hid (show Exts w W5 from HX1.out.trans (by rw [hW5]; exact (by repeat (first | exact Exts.refl _ | apply Exts.andR | apply Exts.alloc | apply Exts.wext | apply Exts.drew | apply Exts.drewN))))
      have hsz1 := HX1.out.below.size
      clear hW5 xc0 xc1
      refine tail_named 19 (by kernel_rfl) (by kernel_rfl) ?_
      simp only [List.take_succ_cons, List.take_zero, List.drop_succ_cons, List.drop_zero]
      intro W6 hW6
      have e0 : ∀ a, W6.cell? a = W5.cell? a := fun a => by rw [hW6]; rfl
      have e1 : ∀ a, W6.frozen? a = W5.frozen? a := fun a => by rw [hW6]; rfl
      have es : W6.heap.size = W5.heap.size := by rw [hW6]; rfl
      have HX6 := Lib.hid (show Exts w W6 from HX5.out.trans (by rw [hW6]; exact (by repeat (first | exact Exts.refl _ | apply Exts.andR | apply Exts.alloc | apply Exts.wext | apply Exts.drew | apply Exts.drewN))))
      rw [← e0] at u0 u1 u2 u4 u5
      rw [← e1] at u3
      rw [← es] at u6 u7
      clear e0 e1 es hW6 HX5
      have z1 : 0 ≤ 64 * (n : Int) := by omega
      have z2 : 64 * (n : Int) ≤ (x.size : Int) := by omega
      have z3 : (64 * (n : Int)).toNat = 64 * n := by omega
      have z4 : 64 * (n : Int) ≤ 64 * (n : Int) + 64 := by omega
      have z5 : (64 * (n : Int) + 64).toNat = 64 * n + 64 := by omega
      have z6 : 0 ≤ 64 * (n : Int) + 64 := by omega
      repeat still_step
      refine wpStill_nil ?_
      go_wp2_with (first | (go_at_call 61; ((with_reducible refine Calls.mono (HPUT.out _) ?_); rintro e w2 ⟨rfl, hx2⟩; (have v0 := Exts.cell hx2 u0); (have v1 := Exts.cell hx2 u1); (have v2 := Exts.cell hx2 u2); (have v3 : w2.frozen? ⟨w1.heap.size, 2, none⟩ = false := (World.frozen?_of_block (hx2.below.block w1.heap.size u6)).trans u3); (have v6 : w1.heap.size < w2.heap.size := World.block_lt_of_cell? w2 _ v0); (have HX2 := Lib.hid hx2); clear hx2)) | (go_at_call 60; ((have HXF := Lib.hid (exts_touch (HX6.out.trans HX2.out) (Touch.setCell (O := fun j => j = w1.heap.size) w2 ⟨w1.heap.size, 2, none⟩ (.string P) rfl) (fun j hj => by omega))); (with_reducible refine (set60 (HD.out.exts HXF.out) f x P h0 h15 hxs.1 hPs).mono ?_); rintro e w3 ⟨rfl, hA3⟩)))
      go_end0
      have hA := AfterR.ahead (Touch.of_exts (O := O) HXF.out) hA3
      refine ⟨rfl, ?_⟩
      rw [HR.out]
      exact hA
end Go.Proofs.Ytgeoompgakdbiaa

/- The reference: settle, Arm. -/
namespace Go.Proofs.Ytgeoompgakdbiaa
open Go.RowKit Go.Maps
set_option linter.unusedSimpArgs false
set_option linter.unusedVariables false
set_option maxRecDepth 100000
/-- The queue is replaced by a new one. -/
theorem RefAt.queues {w W : World} {b c : Nat} {M : Mod} {O S : Nat → Prop} {Q' : List Sec} (h : RefAt w b M O S c) (hx : Exts w W) {qv : Value} {n : Nat} {xs : List Value} (hrow : W.ownsRow w.heap.size 78 2 qv n xs) (hn : Q'.length = n) (hxs : secsC Q' = xs) (hg : Good { M with queue := Q' } c) : AfterR w b { M with queue := Q' } O S c (W.setCell ⟨b, 1, none⟩ qv) := by
  subst hn hxs
  obtain ⟨fv, qv0, kv, L, hb, o1, o2, hF, hQ, hK, hL⟩ := h.ex
  have lb := h.oLt b h.own
  have ht : Touch O w (W.setCell ⟨b, 1, none⟩ qv) := (Touch.of_exts hx).then (Touch.setCell _ _ _ h.own)
  have hbW := (hx.below.block b lb).trans hb
  have hne : ∀ g, qv.ownBlock = some g → g ≠ b := fun g hg e => by
    have := owns_base hrow hg
    omega
  have hb' := heap_setCell_at W b 1 qv hbW
  refine h.remake ht fv qv kv L ?_ (fun g hg => Or.inl (o1 g hg)) (fun g hg => Or.inr (owns_base hrow hg)) ?_ (ownsRow_touch (owns_any hrow) (Touch.setCell (O := fun k => k = b) _ _ _ rfl) hne) hK hL hg
  · rw [hb']
    rfl
  · exact ownsRow_touch (ownsRow_touch hF (Touch.of_exts (O := fun _ => False) hx) (fun _ _ h => h)) (Touch.setCell (O := fun k => k = b) _ _ _ rfl) (rows_ne hb hF (by decide))
set_option maxHeartbeats 2000000
theorem settle51 {w : World} {b c : Nat} {M : Mod} {O S : Nat → Prop} (hd : RefAt w b M O S c) (f : Int) (s : ByteArray) (h0 : 0 ≤ f) (h15 : f ≤ 15) (hs : s.size ≤ maxFile) : Calls Try.prog 51 #[.pointer (some ⟨b, 0, none⟩), .int .i64 f, .string s] w fun e w' => e = .returned (.tuple #[]) ∧ AfterR w b (settleD M f s) O S c w' := by
  obtain ⟨i0, hi0, hz0, hz1, hz2⟩ := info_parts info78
  have HD := Lib.hid hd
  have hcnt := hd.good.count
  have hsml := hd.good.small
  clear hd
  go_enter Try.func51, Try.ntmps51
  go_wp2_with (first | (go_at_call 60; ((with_reducible refine (set60 (HD.out.exts (by repeat (first | exact Exts.refl _ | apply Exts.andR | apply Exts.alloc | apply Exts.wext | apply Exts.drew | apply Exts.drewN))) f s s h0 h15 hs hs).mono ?_); rintro e w1 ⟨rfl, hA1⟩)))
  obtain ⟨O1, S1, hd1, ho1, hs1, ht1⟩ := AfterR.ahead (Touch.of_exts (O := O) ((by repeat (first | exact Exts.refl _ | apply Exts.andR | apply Exts.alloc | apply Exts.wext | apply Exts.drew | apply Exts.drewN)) : Exts w _)) hA1
  obtain ⟨fv, qv, kv, L, hbox, lb, cc, ff, o1, o2, o12, hF, hQ, hK, hL⟩ := hd1.cells
  obtain ⟨qo, qc, rfl⟩ := owns_shape hQ
  have c1 := cc 1
  simp only [boxR, List.getElem?_toArray, List.getElem?_cons_zero, List.getElem?_cons_succ] at c1
  have hQm : (setM M f (s, s)).queue = M.queue := rfl
  rw [hQm] at c1 hQ
  obtain ⟨m, hm⟩ : ∃ n, M.queue.length = n := ⟨_, rfl⟩
  have HR := Lib.hid (RowF.of_owns hQ)
  rw [hm] at HR c1 hcnt
  have HN := Lib.hid hm
  have HD1 := Lib.hid hd1
  have HO1 := Lib.hid ho1
  have HS1 := Lib.hid hs1
  have HT1 := Lib.hid ht1
  have ff1 := ff 1
  clear hA1 hd1 ho1 hs1 ht1 hbox cc ff o1 o2 o12 hF hQ hK hL hQm hm
  go_loopw [6, 7] (fun so si wr => ∃ (k j : Nat) (oo : Option Addr) (oc : Nat), so = .slice oo j oc ∧ si = .int .i64 k ∧ k ≤ m ∧ j ≤ k ∧ Exts w1 wr ∧ (offF f (M.queue.take k)).length = j ∧ wr.ownsRow w1.heap.size 78 2 so j (secsC (offF f (M.queue.take k)))) (fun _ si _ => m - (intOf si).toNat)
  case atStart => exact ⟨0, 0, none, 0, rfl, rfl, Nat.zero_le _, Nat.le_refl _, Exts.refl _, rfl, ⟨rfl, .inl ⟨rfl, rfl⟩⟩⟩
  case round =>
    obtain ⟨k, j, oo, oc, rfl, rfl, hk, hjk, hx, hj, ho⟩ := hrel
    have hsz := hx.below.size
    have d1 := Exts.cell hx c1
    have fr1 : wr.frozen? ⟨b, 1, none⟩ = false := (World.frozen?_of_block (hx.below.block b lb)).trans ff1
    have lbr : b < wr.heap.size := World.block_lt_of_cell? wr _ d1
    have HX := Lib.hid hx
    have HO := Lib.hid ho
    have HJ := Lib.hid hj
    clear hx ho hj
    by_cases hlt : k < m
    · obtain ⟨p, hp⟩ : ∃ p, M.queue[k]? = some p := ⟨_, List.getElem?_eq_getElem (by rw [HN.out]; exact hlt)⟩
      obtain ⟨g, off, rfl, _, lg, e0, e1⟩ := secs_at HR.out HN.out hp
      have g0 := Exts.cell HX.out e0
      have g1 := Exts.cell HX.out e1
      have lg' : g < wr.heap.size := World.block_lt_of_cell? wr _ g0
      have hst := offF_step (f := f) hp
      obtain ⟨pf, pn⟩ := p
      simp only at e0 e1 g0 g1 hst
      by_cases hf : pf = f
      · have q1 : (pf == f) = true := by simpa using hf
        have q2 : (pf != f) = false := by simpa using hf
        have HST := Lib.hid (hst.trans (if_pos q1))
        clear hf hp hst e0 e1
        go_wp2
        exact ⟨⟨k + 1, j, oo, oc, rfl, by go_num, by omega, by omega, HX.out.trans (by repeat (first | exact Exts.refl _ | apply Exts.andR | apply Exts.alloc | apply Exts.wext | apply Exts.drew | apply Exts.drewN)), by rw [HST.out]; exact HJ.out, by rw [HST.out]; exact ownsRow_exts HO.out (by repeat (first | exact Exts.refl _ | apply Exts.andR | apply Exts.alloc | apply Exts.wext | apply Exts.drew | apply Exts.drewN))⟩, by simp [intOf]; omega⟩
      · have q1 : (pf == f) = false := by simpa using hf
        have q2 : (pf != f) = true := by simpa using hf
        have HST := Lib.hid (hst.trans (if_neg (by rw [q1]; decide)))
        clear hf hp hst e0 e1
        go_wp2_with (at_builtin; refine wpList_append_lies _ rfl (.tmp 33) (.tmp 41) 58 rfl w1.heap.size 78 i0 _ 2 16 Try.underlying58 hi0 hz0 hz1 hz2 rfl (by decide) (.slice oo j oc) j (secsC (offF f (M.queue.take k))) rfl (ownsRow_exts HO.out (by repeat (first | exact Exts.refl _ | apply Exts.andR | apply Exts.alloc | apply Exts.wext | apply Exts.drew | apply Exts.drewN))) ⟨wr.heap.size, 0, none⟩ 1 1 [.int .i64 pf, .int .i64 pn] rfl rfl (by intro t u hj; match t, hj with | 0, hj => (simp at hj; subst hj; simp [go_sem]) | 1, hj => (simp at hj; subst hj; simp [go_sem]) | t + 2, hj => (simp at hj)) (by intro u hu; simp at hu; rcases hu with rfl | rfl <;> rfl) (by decide) (by unfold maxLen; omega) (by omega) (by simp; omega) _ rfl ?_; intro g' cg w5 hown' hgrow hat' hlt')
        exact ⟨⟨k + 1, j + 1, _, cg, rfl, by go_num, by omega, by omega, exts_of_grown (HX.out.trans (by repeat (first | exact Exts.refl _ | apply Exts.andR | apply Exts.alloc | apply Exts.wext | apply Exts.drew | apply Exts.drewN))) hgrow (fun b hb => (HO.out.lt b hb).1), by rw [HST.out, List.length_append, HJ.out]; rfl, by rw [HST.out, secsC_snoc]; exact hown'⟩, by simp [intOf]; omega⟩
    · obtain rfl : k = m := by omega
      have e1 : M.queue.take k = M.queue := List.take_of_length_le (by rw [HN.out]; exact Nat.le_refl _)
      have HE := Lib.hid e1
      clear e1
      go_wp2
      go_end0
      have hA := HD1.out.queues (Q' := offF f M.queue) HX.out HO.out (by have := HJ.out; rwa [HE.out] at this) (by rw [HE.out]) ⟨HD.out.good.lost, HD.out.good.armed, Nat.le_trans (offF_le f M.queue) HD.out.good.count, fun p hp => HD.out.good.secs p (List.mem_filter.1 hp).1, (HD1.out.good).sizes, HD.out.good.keep, HD.out.good.small⟩
      exact ⟨rfl, AfterR.next HO1.out HS1.out HT1.out hA⟩
end Go.Proofs.Ytgeoompgakdbiaa

/- append of a slice, nil or not, to an empty one without spare room: a copy. A step of a region that draws its order. -/
namespace Go.Proofs.Ytgeoompgakdbiaa
open Go.RowKit
set_option linter.unusedSimpArgs false
set_option linter.unusedVariables false

theorem run_append_zero {P : Program} {w : World} (t ty e : TypeId) (i : TypeInfo) (ht : P.underlying t = some (.slice e)) (hi : P.info? e = some i) (b : Addr) (ao : Option Addr) (c : Nat) :
    (Builtin.append_ #[t, t] ty #[.slice (some b) 0 0, .slice ao 0 c]).run P w = .ok (.slice (some b) 0 0) w := by
  cases ao <;> simp [Builtin.append_, run_underlying ht, sizeOf, typeInfo, hi, Builtin.lenOf, Builtin.firstCells, storeCells, loadCells, loadCellsFrom]

theorem step_append_empty {P : Program} {ops : Array Oper} {o : Oper} {a : Act} {w : World} {K : Act → World → Prop} {Q : Exit → Act → World → Prop} {E : Prop}
    (hg : o.guard = none) (s x : Operand) (t : TypeId) (hop : o.op = Op.call { callee := Callee.builtin Builtin.append, args := #[s, x], argTypes := #[t, t] })
    (e : TypeId) (i : TypeInfo) (z : Value) (size bytes : Nat) (h1 : P.underlying t = some (.slice e)) (h2 : P.info? e = some i) (h3 : i.zero = some z) (h4 : i.size = size) (h5 : i.bytes = bytes) (h6 : z.cells.size = size) (h7 : 0 < size)
    (b : Addr) (hs : a.eval s = .slice (some b) 0 0)
    (ao : Option Addr) (m c : Nat) (news : List Value) (hx : a.eval x = .slice ao m c) {S : Nat → Prop} (hrow : RowF S size w (.slice ao m c) m news) (h1c : ∀ u ∈ news, u.oneCell' = true)
    (b1 : m ≤ maxLen) (b2 : m * bytes ≤ 140737488355328)
    (hK : ∀ ao' c' w', Exts w w' → RowF (fun b => w.heap.size ≤ b) size w' (.slice ao' m c') m news → (m = 0 ∨ ∀ b, (Value.slice ao' m c').ownBlock = some b → ∃ cur, w'.heap[b]? = some (.cells cur e (0, 0))) → K (a.put o.dst (.slice ao' m c')) w') :
    if Region.wanted o (yielded ops a.tmps) = true then Oper.wp P o a w K Q else E := by
  obtain ⟨hl, ao2, cap2, hv, q2, q3, q4, q5⟩ := hrow
  simp only [Value.slice.injEq, true_and] at hv
  obtain ⟨rfl, rfl⟩ := hv
  by_cases hm : m = 0
  · subst hm
    obtain rfl : news = [] := List.eq_nil_of_length_eq_zero (by simpa using hl)
    have hw : Region.wanted o (yielded ops a.tmps) = true := by simp [Region.wanted, hg]
    rw [if_pos hw]
    have hrun := run_append_zero (P := P) (w := w) t o.type e i h1 h2 b ao c
    unfold Oper.wp
    simp [execOp, hop, resolve, invoke, builtin, hs, hx, hrun, Result.andThen]
    exact hK _ _ _ (Exts.refl w) ⟨by simp, some b, 0, rfl, Nat.le_refl _, Nat.zero_le _, (fun h => by cases h), fun h => by omega⟩ (.inl rfl)
  · obtain ⟨bb, off, rfl, _, _, hc⟩ := q5 (by omega)
    refine step_append_grows hg s x t hop e i z size bytes h1 h2 h3 h4 h5 h6 h7 (some b) 0 0 [] hs (fun h => by cases h) (by simp) (fun b _ j u hj => by simp at hj) ⟨bb, off, none⟩ m c news hx hl (fun j u hj => by rw [Addr.add_lit]; exact hc j u hj) h1c (by omega) (by omega) (by rw [Nat.zero_add]; exact b2) ?_
    intro v' w' ho hgr
    simp only [Nat.zero_add, List.nil_append] at ho
    obtain ⟨ao', c', rfl⟩ := owns_shape ho
    refine hK ao' c' w' (exts_of_grown (Exts.refl w) hgr (fun b hb => by cases hb)) (RowF.of_owns ho) (.inr fun b hb => ?_)
    obtain ⟨_, ⟨hv, _⟩ | ⟨g, cap, cur, hv, _, hgg, _⟩⟩ := ho
    · rw [hv] at hb; cases hb
    · rw [hv] at hb
      cases hb
      exact ⟨cur, hgg⟩
end Go.Proofs.Ytgeoompgakdbiaa

/- The reference: Arm. -/
namespace Go.Proofs.Ytgeoompgakdbiaa
open Go.RowKit Go.Maps
set_option linter.unusedSimpArgs false
set_option linter.unusedVariables false
set_option maxRecDepth 100000
/-- The kept list is replaced by a new one. -/
theorem RefAt.keeps {w W : World} {b c n : Nat} {M : Mod} {O S : Nat → Prop} {ao : Option Addr} {cap : Nat} {kl : List Int} (h : RefAt w b M O S c) (hx : Exts w W) (hr : RowF (fun b => w.heap.size ≤ b) 1 W (.slice ao n cap) n (intsC kl)) (hn : kl.length = n) (hki : ∀ x ∈ kl, I64 x) : AfterR w b { M with keep := kl } O S c (W.setCell ⟨b, 5, none⟩ (.slice ao n cap)) := by
  subst hn
  obtain ⟨fv, qv, kv, L, hb, o1, o2, hF, hQ, hK, hL⟩ := h.ex
  have lb := h.oLt b h.own
  have hbW := (hx.below.block b lb).trans hb
  have hs := hx.below.size
  have hb' := heap_setCell_at W b 5 (.slice ao kl.length cap) hbW
  have t1 : Touch (fun k => k = b) W (W.setCell ⟨b, 5, none⟩ (.slice ao kl.length cap)) := Touch.setCell _ _ _ rfl
  have t0 : Touch (fun _ => False) w W := Touch.of_exts hx
  refine ⟨O, fun k => w.heap.size ≤ k ∧ k < W.heap.size, ⟨fun k hk ho => ?_, fun k hk => ?_, fun k hk => ?_, h.own, ⟨fv, qv, .slice ao kl.length cap, L, ?_, o1, o2, ownsRow_touch (ownsRow_touch hF t0 (fun _ _ h => h)) t1 (rows_ne hb hF (by decide)), ownsRow_touch (ownsRow_touch hQ t0 (fun _ _ h => h)) t1 (rows_ne hb hQ (by decide)), ⟨ao, cap, rfl, ?_⟩, hL⟩, ?_⟩, fun _ => Or.inl, fun k hk => Or.inr hk.1, (Touch.of_exts hx).then (Touch.setCell _ _ _ h.own)⟩
  · have := h.oLt k ho
    omega
  · rw [heap_setCell_size]
    exact Nat.lt_of_lt_of_le (h.oLt k hk) hs
  · rw [heap_setCell_size]
    exact hk.2
  · rw [hb']
    rfl
  · have := (hr.touch t1 (fun k hk e => by subst e; omega)).both
    rwa [heap_setCell_size] at this
  · exact ⟨h.good.lost, h.good.armed, h.good.count, h.good.secs, h.good.sizes, hki, h.good.small⟩
set_option maxHeartbeats 1000000
theorem refArm35 {w : World} {b c : Nat} {M : Mod} {O S : Nat → Prop} (hd : RefAt w b M O S c) (n : Int) (hn : I64 n) (ko1 : Option Addr) (kc1 kn : Nat) (kl : List Int) {S1 : Nat → Prop} (hk : RowF S1 1 w (.slice ko1 kn kc1) kn (intsC kl)) (hkn : kl.length = kn) (hS1 : ∀ k, S1 k → ¬ O k) (hkl : kn ≤ 1000) (hki : ∀ x ∈ kl, I64 x) : Calls Try.prog 35 #[.pointer (some ⟨b, 0, none⟩), .int .i64 n, .slice ko1 kn kc1] w fun e w' => e = .returned (.tuple #[]) ∧ AfterR w b { M with armed := max n 0, keep := kl } O S c w' := by
  obtain ⟨fv, qv, kv0, L, hbox, lb, cc, ff, o1, o2, o12, hF, hQ, ⟨ko, kc, rfl, hK⟩, hL⟩ := hd.cells
  have c4 := cc 4
  have c5 := cc 5
  simp only [boxR, List.getElem?_toArray, List.getElem?_cons_zero, List.getElem?_cons_succ] at c4 c5
  have f4 := ff 4
  have f5 := ff 5
  clear cc ff o1 o2 o12 hF hQ hK hL hbox
  have HD := Lib.hid hd
  have HK := Lib.hid hk
  have HI := Lib.hid hki
  obtain ⟨i0, hi0, hz0, hz1, hz2⟩ := info_parts info3
  have HLIT := Lib.hid (show ∀ V, ((w.setCell ⟨b, 4, none⟩ V).alloc (.cells #[] 3)).ownsRow w.heap.size 3 1 (.slice (some ⟨w.heap.size, 0, none⟩) 0 0) 0 [] from fun V => ⟨rfl, .inr ⟨w.heap.size, 0, #[], rfl, Nat.le_refl _, by
    have := heap_alloc_new (w.setCell ⟨b, 4, none⟩ V) (.cells #[] 3)
    rwa [heap_setCell_size] at this, Nat.le_refl _, by unfold maxLen; omega, rfl, rfl⟩⟩)
  have HK2 := Lib.hid (show ∀ V, RowF S1 1 ((w.setCell ⟨b, 4, none⟩ V).alloc (.cells #[] 3)) (.slice ko1 kn kc1) kn (intsC kl) from fun V => (hk.touch (Touch.setCell (O := fun k => k = b) w ⟨b, 4, none⟩ V rfl) (fun k hk e => hS1 k hk (e ▸ hd.own))).exts ((Exts.refl _).alloc _))
  obtain ⟨hn1, hn2⟩ := hn
  have HC5 := Lib.hid (show ∀ V, ((w.setCell ⟨b, 4, none⟩ V).alloc (.cells #[] 3)).cell? ⟨b, 5, none⟩ = some (.slice ko M.keep.length kc) from fun V => Exts.cell ((Exts.refl _).alloc _) ((World.cell?_setCell_other w ⟨b, 4, none⟩ ⟨b, 5, none⟩ _ (by simp)).trans c5))
  have HF5 := Lib.hid (show ∀ V, ((w.setCell ⟨b, 4, none⟩ V).alloc (.cells #[] 3)).frozen? ⟨b, 5, none⟩ = false from fun V => (World.frozen?_of_block (((Exts.refl (w.setCell ⟨b, 4, none⟩ V)).alloc _).below.block b (by rw [heap_setCell_size]; exact lb))).trans ((World.frozen?_setCell w ⟨b, 4, none⟩ _ _).trans f5))
  clear hd hk hki
  by_cases h0 : n < 0
  · have HM := Lib.hid (show max n 0 = 0 by omega)
    go_enter Try.func35, Try.ntmps35
    go_wp2_with (at_builtin; refine wpList_append_row rfl (.tmp 12) (.tmp 13) 31 rfl w.heap.size 3 i0 _ 1 8 Try.underlying31 hi0 hz0 hz1 hz2 rfl (by decide) (.slice (some ⟨w.heap.size, 0, none⟩) 0 0) 0 [] rfl (HLIT.out _) ko1 kn kc1 (intsC kl) rfl (HK2.out _) (ones_ints kl) (by unfold maxLen; omega) (by omega) (by rw [World.size_alloc, heap_setCell_size]; omega) ?_; intro ao' c' w5 hown' hgrow; (simp only [Nat.zero_add, List.nil_append] at hown'); (have k5 := hgrow.cell (HC5.out _) (fun e => by simp [Value.ownBlock] at e; omega)); (have lb5 : b < w5.heap.size := World.block_lt_of_cell? w5 _ k5); (have kf : w5.frozen? ⟨b, 5, none⟩ = false := (World.frozen?_of_block (hgrow.block b (by rw [World.size_alloc, heap_setCell_size]; omega) (fun e => by simp [Value.ownBlock] at e; omega))).trans (HF5.out _)))
    go_end0
    have h1 := RefAt.box (M' := { M with armed := max n 0 }) HD.out rfl rfl rfl ⟨HD.out.good.lost, by rw [HM.out]; exact ⟨by simp only []; omega, by simp only []; omega⟩, HD.out.good.count, HD.out.good.secs, HD.out.good.sizes, HD.out.good.keep, HD.out.good.small⟩ (fun fv qv kv hb => by rw [heap_setCell_at _ _ _ _ hb, HM.out]; rfl) (Touch.setCell w ⟨b, 4, none⟩ (.int .i64 0) rfl)
    have hx5 : Exts (w.setCell ⟨b, 4, none⟩ (.int .i64 0)) w5 := exts_of_grown ((Exts.refl _).alloc _) hgrow (fun k hk => by simp [Value.ownBlock] at hk; rw [heap_setCell_size]; omega)
    have h2 := h1.keeps hx5 (by have := RowF.of_owns hown'; rwa [heap_setCell_size]) hkn HI.out
    exact ⟨rfl, AfterR.ahead (Touch.setCell _ _ _ HD.out.own) h2⟩
  · have HM := Lib.hid (show max n 0 = n by omega)
    go_enter Try.func35, Try.ntmps35
    go_wp2_with (at_builtin; refine wpList_append_row rfl (.tmp 12) (.tmp 13) 31 rfl w.heap.size 3 i0 _ 1 8 Try.underlying31 hi0 hz0 hz1 hz2 rfl (by decide) (.slice (some ⟨w.heap.size, 0, none⟩) 0 0) 0 [] rfl (HLIT.out _) ko1 kn kc1 (intsC kl) rfl (HK2.out _) (ones_ints kl) (by unfold maxLen; omega) (by omega) (by rw [World.size_alloc, heap_setCell_size]; omega) ?_; intro ao' c' w5 hown' hgrow; (simp only [Nat.zero_add, List.nil_append] at hown'); (have k5 := hgrow.cell (HC5.out _) (fun e => by simp [Value.ownBlock] at e; omega)); (have lb5 : b < w5.heap.size := World.block_lt_of_cell? w5 _ k5); (have kf : w5.frozen? ⟨b, 5, none⟩ = false := (World.frozen?_of_block (hgrow.block b (by rw [World.size_alloc, heap_setCell_size]; omega) (fun e => by simp [Value.ownBlock] at e; omega))).trans (HF5.out _)))
    go_end0
    have h1 := RefAt.box (M' := { M with armed := max n 0 }) HD.out rfl rfl rfl ⟨HD.out.good.lost, by rw [HM.out]; exact ⟨by simp only []; omega, by simp only []; omega⟩, HD.out.good.count, HD.out.good.secs, HD.out.good.sizes, HD.out.good.keep, HD.out.good.small⟩ (fun fv qv kv hb => by rw [heap_setCell_at _ _ _ _ hb, HM.out]; rfl) (Touch.setCell w ⟨b, 4, none⟩ (.int .i64 n) rfl)
    have hx5 : Exts (w.setCell ⟨b, 4, none⟩ (.int .i64 n)) w5 := exts_of_grown ((Exts.refl _).alloc _) hgrow (fun k hk => by simp [Value.ownBlock] at hk; rw [heap_setCell_size]; omega)
    have h2 := h1.keeps hx5 (by have := RowF.of_owns hown'; rwa [heap_setCell_size]) hkn HI.out
    exact ⟨rfl, AfterR.ahead (Touch.setCell _ _ _ HD.out.own) h2⟩
end Go.Proofs.Ytgeoompgakdbiaa
