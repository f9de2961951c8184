/- small of the laws of chapter 38 returns true. No condition. -/
import Derived.Test.YtbafcfbchbjgfaaSmallPlain
namespace Go.Proofs.Ytbafcfbchbjgfaa
open Go.RowKit
set_option linter.unusedSimpArgs false
set_option linter.unusedVariables false

theorem info45 : (Try.prog.info? 45).map (fun i => (i.zero, i.size, i.bytes)) = some (some (.agg #[.int .i64 0, .int .i64 0]), 2, 16) := by kernel_rfl
set_option maxRecDepth 100000
set_option maxHeartbeats 4000000
theorem diamond30 (w : World) : Calls Try.prog 30 #[] w fun e w' => ∃ po c, e = .returned (.agg #[.int .i64 4, .slice po 4 c]) ∧ Exts w w' ∧ w'.ownsRow w.heap.size 45 2 (.slice po 4 c) 4 (prFlat dmP) := by
  go_enter Try.func30, Try.ntmps30
  go_wp2
  refine bodyPost_ret (v := .agg #[.int .i64 4, .slice (some ⟨w.heap.size + 1, 0, none⟩) 4 4]) (by simp [results, go_sem]) rfl ⟨some ⟨w.heap.size + 1, 0, none⟩, 4, rfl, (by repeat (first | exact Exts.refl _ | apply Exts.andR | apply Exts.alloc | apply Exts.wext | apply Exts.drew | apply Exts.drewN)), ?_⟩
  exact ⟨by decide, .inr ⟨w.heap.size + 1, 4, _, rfl, by omega, by rw [heap_alloc_if, if_neg (by simp), if_pos (by simp)], Nat.le_refl _, by decide, rfl, rfl⟩⟩
theorem prs_of_owns {w : World} {base : Nat} {po : Option Addr} {n c : Nat} {ps : List Pr} (h : w.ownsRow base 45 2 (.slice po n c) n (prFlat ps)) : Prs (fun _ => True) w po n c ps := (RowF.of_owns h).mono fun _ _ => trivial
theorem dims_two {w : World} {b c : Nat} {t : TypeId} {fr : Nat × Nat} {po : Option Addr} {ps : List Pr} {V : Int} (h : w.heap[b]? = some (.cells #[.int .i64 V, .slice po ps.length c, .int .i64 V, .slice po ps.length c] t fr)) (hp : Prs (fun _ => True) w po ps.length c ps) : Dims (fun _ => True) w (some ⟨b, 0, none⟩) 2 2 [(V, ps), (V, ps)] := by
  refine ⟨rfl, [.int .i64 V, .slice po ps.length c, .int .i64 V, .slice po ps.length c], ⟨rfl, some ⟨b, 0, none⟩, 2, rfl, Nat.le_refl _, by decide, (fun h => by cases h), fun _ => ⟨b, 0, rfl, trivial, (Array.getElem?_eq_some_iff.1 h).1, fun j v hj => ?_⟩⟩, fun i d hd => ?_⟩
  · rw [cell_of_row w b _ _ t fr h]
    simpa using hj
  · match i, hd with
    | 0, hd => cases hd; exact ⟨_, rfl, rfl, po, c, rfl, hp⟩
    | 1, hd => cases hd; exact ⟨_, rfl, rfl, po, c, rfl, hp⟩
theorem dims_one {w : World} {b c n : Nat} {t : TypeId} {fr : Nat × Nat} {po : Option Addr} {ps : List Pr} {V : Int} (h : w.heap[b]? = some (.cells #[.int .i64 V, .slice po n c] t fr)) (hp : Prs (fun _ => True) w po n c ps) : Dims (fun _ => True) w (some ⟨b, 0, none⟩) 1 1 [(V, ps)] := by
  obtain rfl : ps.length = n := by
    have := hp.len
    omega
  refine ⟨rfl, [.int .i64 V, .slice po ps.length c], ⟨rfl, some ⟨b, 0, none⟩, 1, rfl, Nat.le_refl _, by decide, (fun h => by cases h), fun _ => ⟨b, 0, rfl, trivial, (Array.getElem?_eq_some_iff.1 h).1, fun j v hj => ?_⟩⟩, fun i d hd => ?_⟩
  · rw [cell_of_row w b _ _ t fr h]
    simpa using hj
  · match i, hd with
    | 0, hd => cases hd; exact ⟨_, rfl, rfl, po, c, rfl, hp⟩
theorem frozen_of_row (w : World) (b i : Nat) (c : Array Value) (t : TypeId) (h : w.heap[b]? = some (.cells c t (0, 0))) : w.frozen? ⟨b, i, none⟩ = false := by simp [World.frozen?, h]
theorem box_kept {w w1 : World} {base e k n b : Nat} {v : Value} {xs : List Value} {c : Array Value} {t : TypeId} (hg : w.grownBy w1 v.ownBlock) (h : w.ownsRow base e k v n xs) (hb : w.heap[b]? = some (.cells c t (0, 0))) (hne : t ≠ e := by decide) : w1.heap[b]? = some (.cells c t (0, 0)) :=
  (hg.block b (Array.getElem?_eq_some_iff.1 hb).1 (owns_other h hb hne)).trans hb
theorem setCell_block {w : World} {b : Nat} {c : Array Value} {t : TypeId} {fr : Nat × Nat} (i : Nat) (v : Value) (h : w.heap[b]? = some (.cells c t fr)) : (w.setCell ⟨b, i, none⟩ v).heap[b]? = some (.cells (c.setIfInBounds i v) t fr) := by
  unfold World.setCell
  simp [Array.getElem?_modify, h]
theorem box_set0 {w : World} {b : Nat} {x y : Value} {t : TypeId} {fr : Nat × Nat} (v : Value) (h : w.heap[b]? = some (.cells #[x, y] t fr)) : (w.setCell ⟨b, 1, none⟩ v).cell? ⟨b, 0, none⟩ = some x := by
  rw [cell_of_row _ _ _ _ _ _ (setCell_block 1 v h)]; rfl
theorem box_set1 {w : World} {b : Nat} {x y : Value} {t : TypeId} {fr : Nat × Nat} (v : Value) (h : w.heap[b]? = some (.cells #[x, y] t fr)) : (w.setCell ⟨b, 1, none⟩ v).cell? ⟨b, 1, none⟩ = some v := by
  rw [cell_of_row _ _ _ _ _ _ (setCell_block 1 v h)]; rfl
theorem setCell_other {w : World} {b b' i : Nat} (v : Value) (h : b' ≠ b) : (w.setCell ⟨b, i, none⟩ v).heap[b']? = w.heap[b']? := by
  unfold World.setCell
  simp [Array.getElem?_modify, Ne.symm h]
/-- A store into a new box behind an append to a row of its own: what was there stays. -/
theorem box_exts {B w w1 : World} {e k n b : Nat} {u : Value} {xs : List Value} {c : Array Value} {t : TypeId} (v : Value) (hx : Exts B w) (hg : w.grownBy w1 u.ownBlock) (h : w.ownsRow B.heap.size e k u n xs) (hb : B.heap.size ≤ b) (hX : w1.heap[b]? = some (.cells c t (0, 0))) : Exts B (w1.setCell ⟨b, 1, none⟩ v) := by
  have h1 : Exts B w1 := exts_of_grown hx hg (fun g hgg => (h.lt g hgg).1)
  refine Exts.of_below ⟨h1.below.os, h1.below.tape, h1.below.output, ?_, fun j hj => ?_⟩
  · have := h1.below.size
    simpa [World.setCell] using this
  · rw [setCell_other v (by omega)]
    exact h1.below.block j hj
theorem prs_set {w : World} {base b cg g : Nat} {x : Value} (h : w.ownsRow base 45 2 (.slice (some ⟨g, 0, none⟩) (4 + 1) cg) (4 + 1) (prFlat dmP ++ [.int .i64 3, .int .i64 0])) (hb : some b ≠ (Value.slice (some ⟨g, 0, none⟩) (4 + 1) cg).ownBlock) : Prs (fun _ => True) (w.setCell ⟨b, 1, none⟩ x) (some ⟨g, 0, none⟩) 5 cg dmX := by
  have h1 : RowF (fun _ => True) 2 w (.slice (some ⟨g, 0, none⟩) 5 cg) 5 (prFlat dmX) := (RowF.of_owns h).mono fun _ _ => trivial
  refine h1.of_keep (by simp [World.setCell]) (fun j hj _ _ => setCell_other x fun hc => ?_)
  rw [hc] at hj
  exact hb hj.symm
theorem clo_x {w w' : World} {ro co : Option Addr} {rn rc cn cc : Nat} {code : Int} (h : CloRes 4 dmX w w' ro rn rc co cn cc code) : code = 16 ∧ cn = 3 ∧ Ints (fun b => w.heap.size ≤ b) w' co cn cc [0, 1, 3] := by
  rcases h with ⟨h1, _⟩ | ⟨_, _, _, h2, C, h3, h4, h5⟩ | ⟨h1, _⟩
  · exact absurd h1 (by decide)
  · obtain rfl := circX h3
    exact ⟨h2, h4.symm, h5⟩
  · rw [closedX] at h1; cases h1
theorem clo_p {w w' : World} {ro co : Option Addr} {rn rc cn cc : Nat} {code : Int} (h : CloRes 4 dmP w w' ro rn rc co cn cc code) : code = 0 ∧ cn = 0 ∧ rn = 4 := by
  rcases h with ⟨h1, _⟩ | ⟨_, h1, _⟩ | ⟨_, h1, h2, h3, _⟩
  · exact absurd h1 (by decide)
  · rw [closedP] at h1; cases h1
  · exact ⟨h3, h2, by omega⟩
theorem ints_lit {w : World} {b n : Nat} {l : List Int} {t : TypeId} {fr : Nat × Nat} (h : w.heap[b]? = some (.cells (intsC l).toArray t fr)) (hn : l.length = n) (hm : n ≤ 1000) : Ints (fun _ => True) w (some ⟨b, 0, none⟩) n n l := by
  refine ⟨by simp [hn], some ⟨b, 0, none⟩, n, rfl, Nat.le_refl _, by unfold maxLen; omega, (fun h => by cases h), fun _ => ⟨b, 0, rfl, trivial, (Array.getElem?_eq_some_iff.1 h).1, fun j v hj => ?_⟩⟩
  rw [cell_of_row w b _ _ t fr h]
  simpa using hj
theorem compare15_D {S S1 S2 : Nat → Prop} (lo ao bo : Option Addr) (n c na ca nb cb : Nat) (D : List Dm) (al bl : List Int) (x e : Int) (w : World) (h : Dims S w lo n c D) (ha : Ints S1 w ao na ca al) (hb : Ints S2 w bo nb cb bl) (hD : cmpD D al bl = (x, e)) :
    Calls Try.prog 15 #[.slice lo n c, .slice ao na ca, .slice bo nb cb] w fun e' w' => e' = .returned (.tuple #[.int .i64 x, .int .i64 e]) ∧ Exts w w' := by
  have := compare15 lo ao bo n c na ca nb cb D al bl w h ha hb
  rw [hD] at this
  exact this
theorem joins17_D {S S1 S2 : Nat → Prop} (lo ao bo : Option Addr) (n c na ca nb cb : Nat) (D : List Dm) (al bl js : List Int) (o : Bool) (m : Nat) (w : World) (h : Dims S w lo n c D) (ha : Ints S1 w ao na ca al) (hb : Ints S2 w bo nb cb bl) (hD : joinsD D al bl = (js, o)) (hm : js.length = m) :
    Calls Try.prog 17 #[.slice lo n c, .slice ao na ca, .slice bo nb cb] w fun e w' => ∃ ro rc, e = .returned (.tuple #[.slice ro m rc, .bool o]) ∧ Exts w w' ∧ Ints (fun b => w.heap.size ≤ b) w' ro m rc js := by
  have := joins17 lo ao bo n c na ca nb cb D al bl w h ha hb
  rw [hD, hm] at this
  exact this
theorem small8 (w : World) : Calls Try.prog 8 #[] w fun e w' => e = .returned (.bool true) ∧ Exts w w' := by
  obtain ⟨i0, hi, hz0, hz1, hz2⟩ := info_parts info45
  go_enter Try.func8, Try.ntmps8
  go_wp2_with (first | (go_at_call 30; refine (diamond30 _).mono ?_; rintro e w' ⟨po, c, rfl, ⟨x1, rfl⟩, hp⟩; (try simp only [wext_and] at hp); (have HP := Lib.hid (prs_of_owns hp)); clear hp))
  have HL := Lib.hid (dims_two (w := (((wext w x1).alloc (.cells #[.int .i64 4, .slice po 4 c] 24)).alloc (.cells #[.int .i64 4, .slice po 4 c, .int .i64 4, .slice po 4 c] 24))) (b := w.heap.size + x1.bs.size + 1) (po := po) (c := c) (ps := dmP) (V := 4) (by rw [heap_alloc_if, if_neg (by simp), if_pos (by simp)]; rfl) (RowF.exts HP.out (by repeat (first | exact Exts.refl _ | apply Exts.andR | apply Exts.alloc | apply Exts.wext | apply Exts.drew | apply Exts.drewN))))
  refine (join13_D 4 po 4 c dmP 1 2 3 true _ (RowF.exts HP.out (by repeat (first | exact Exts.refl _ | apply Exts.andR | apply Exts.alloc | apply Exts.wext | apply Exts.drew | apply Exts.drewN))) jn12).mono ?_
  rintro e w' ⟨rfl, x2, rfl⟩
  go_wp2_with (first | (go_at_call 13; refine (join13_D 4 po 4 c dmP 0 1 1 true _ (RowF.exts HP.out (by repeat (first | exact Exts.refl _ | apply Exts.andR | apply Exts.alloc | apply Exts.wext | apply Exts.drew | apply Exts.drewN))) jn01).mono ?_; rintro e w' ⟨rfl, x3, rfl⟩) | (go_at_call 30; refine (diamond30 _).mono ?_; rintro e w' ⟨qo, d, rfl, ⟨x4, rfl⟩, hp⟩; (try simp only [wext_and] at hp); (have HQ := Lib.hid hp); clear hp) | (at_builtin; refine wpList_append_lies _ rfl (.tmp 37) (.tmp 39) 22 rfl _ 45 i0 _ 2 16 Try.underlying22 hi hz0 hz1 hz2 rfl (by decide) (.slice qo 4 d) 4 (prFlat dmP) rfl (ownsRow_exts HQ.out (by repeat (first | exact Exts.refl _ | apply Exts.andR | apply Exts.alloc | apply Exts.wext | apply Exts.drew | apply Exts.drewN))) ⟨_, 0, none⟩ 1 1 [.int .i64 3, .int .i64 0] rfl rfl (by intro j u hj; match j, hj with | 0, hj => (simp at hj; subst hj; simp [go_sem]) | 1, hj => (simp at hj; subst hj; simp [go_sem])) (by intro u hu; simp at hu; rcases hu with rfl | rfl <;> rfl) (by decide) (by unfold maxLen; omega) (by omega) (by simp; omega) _ rfl ?_; intro g cg w1 hown' hgrow hat hlt'; (have hX : w1.heap[w.heap.size + x1.bs.size + 1 + 1 + x2.bs.size + x3.bs.size + x4.bs.size]? = some (.cells #[.int .i64 4, .slice qo 4 d] 24 (0, 0)) := box_kept hgrow (ownsRow_exts HQ.out (by repeat (first | exact Exts.refl _ | apply Exts.andR | apply Exts.alloc | apply Exts.wext | apply Exts.drew | apply Exts.drewN))) (by rw [heap_alloc_if, if_pos (by simp), heap_alloc_if, if_neg (by simp), if_pos (by simp)])); (have c0 := cell_of_row w1 _ 0 _ _ _ hX); (have c1 := cell_of_row w1 _ 1 _ _ _ hX); (have fr := frozen_of_row w1 _ 1 _ _ hX); (have d0 := fun v => box_set0 v hX); (have d1 := fun v => box_set1 v hX); (have HE := Lib.hid (fun v => box_exts v (by repeat (first | exact Exts.refl _ | apply Exts.andR | apply Exts.alloc | apply Exts.wext | apply Exts.drew | apply Exts.drewN)) hgrow (ownsRow_exts HQ.out (by repeat (first | exact Exts.refl _ | apply Exts.andR | apply Exts.alloc | apply Exts.wext | apply Exts.drew | apply Exts.drewN))) (show _ ≤ w.heap.size + x1.bs.size + 1 + 1 + x2.bs.size + x3.bs.size + x4.bs.size by simp) hX)); (have HO := Lib.hid hown'); (have HX := Lib.hid hX); (have lx : w.heap.size + x1.bs.size + 1 + 1 + x2.bs.size + x3.bs.size + x4.bs.size < w1.heap.size := (Array.getElem?_eq_some_iff.1 hX).1); (have HGX := Lib.hid (owns_other hown' hX (by decide))); clear hown' hgrow hat hX))
  have HL3 := Lib.hid (HL.out.exts (Exts.trans (b := wext (((wext w x1).alloc (.cells #[.int .i64 4, .slice po 4 c] 24)).alloc (.cells #[.int .i64 4, .slice po 4 c, .int .i64 4, .slice po 4 c] 24)) (x2.and x3)) (by repeat (first | exact Exts.refl _ | apply Exts.andR | apply Exts.alloc | apply Exts.wext | apply Exts.drew | apply Exts.drewN)) (HE.out (.slice (some ⟨g, 0, none⟩) 5 cg))))
  have HP3 := Lib.hid (RowF.exts HP.out (Exts.trans (b := wext (((wext w x1).alloc (.cells #[.int .i64 4, .slice po 4 c] 24)).alloc (.cells #[.int .i64 4, .slice po 4 c, .int .i64 4, .slice po 4 c] 24)) (x2.and x3)) (by repeat (first | exact Exts.refl _ | apply Exts.andR | apply Exts.alloc | apply Exts.wext | apply Exts.drew | apply Exts.drewN)) (HE.out (.slice (some ⟨g, 0, none⟩) 5 cg))))
  have HW3 := Lib.hid (Exts.trans (a := w) (b := wext (((wext w x1).alloc (.cells #[.int .i64 4, .slice po 4 c] 24)).alloc (.cells #[.int .i64 4, .slice po 4 c, .int .i64 4, .slice po 4 c] 24)) (x2.and x3)) (by repeat (first | exact Exts.refl _ | apply Exts.andR | apply Exts.alloc | apply Exts.wext | apply Exts.drew | apply Exts.drewN)) (HE.out (.slice (some ⟨g, 0, none⟩) 5 cg)))
  have HPX := Lib.hid (prs_set (x := .slice (some ⟨g, 0, none⟩) 5 cg) HO.out HGX.out)
  have e0 := d0 (.slice (some ⟨g, 0, none⟩) 5 cg)
  have e1 := d1 (.slice (some ⟨g, 0, none⟩) 5 cg)
  have lx3 : w.heap.size + x1.bs.size + 1 + 1 + x2.bs.size + x3.bs.size + x4.bs.size < (w1.setCell ⟨w.heap.size + x1.bs.size + 1 + 1 + x2.bs.size + x3.bs.size + x4.bs.size, 1, none⟩ (.slice (some ⟨g, 0, none⟩) 5 cg)).heap.size := by simpa [World.setCell] using lx
  have f0 := (HE.out (.slice (some ⟨g, 0, none⟩) 5 cg)).cell (a := ⟨w.heap.size + x1.bs.size, 0, none⟩) (v := .int .i64 4) (by simp [go_sem])
  have f1 := (HE.out (.slice (some ⟨g, 0, none⟩) 5 cg)).cell (a := ⟨w.heap.size + x1.bs.size, 1, none⟩) (v := .slice po 4 c) (by simp [go_sem])
  have lo3 := World.block_lt_of_cell? _ _ f0
  simp only at lo3
  clear d0 d1 c0 c1 fr lx HE HO HX HGX HQ HL HP
  obtain ⟨W3, hW3⟩ : ∃ W3, w1.setCell ⟨w.heap.size + x1.bs.size + 1 + 1 + x2.bs.size + x3.bs.size + x4.bs.size, 1, none⟩ (.slice (some ⟨g, 0, none⟩) 5 cg) = W3 := ⟨_, rfl⟩
  rw [hW3] at e0 e1 f0 f1 lo3 lx3 HPX HW3 HP3 HL3 ⊢
  clear hW3
  refine (closure10 4 (some ⟨g, 0, none⟩) 5 cg dmX _ HPX.out).mono ?_
  rintro e w' ⟨ro, rn, rc, co, cn, cc, code, rfl, ⟨x5, rfl⟩, hc⟩
  obtain ⟨rfl, rfl, hci⟩ := clo_x hc
  have HCI := Lib.hid hci
  clear hci hc
  go_wp2_with (first | (go_at_call 10; fail) | (go_at_call 12; fail) | (go_at_call 13; fail) | (go_at_call 15; fail) | (go_at_call 17; fail) | (go_at_call 19; fail) | (go_at_call 21; fail) | (go_at_call 23; fail) | (go_at_call 25; fail))
  refine Calls.mono (compare15_D (S := fun _ => True) (S1 := fun _ => True) (S2 := fun _ => True) _ _ _ _ _ _ _ _ _ lP [0, 1] [1, 1] 1 0 _ ?_ ?_ ?_ cmp1) ?_
  · exact HL3.out.exts (by repeat (first | exact Exts.refl _ | apply Exts.andR | apply Exts.alloc | apply Exts.wext | apply Exts.drew | apply Exts.drewN))
  · exact ints_lit (by rw [heap_alloc_if, if_pos (by simp), heap_alloc_if, if_neg (by simp), if_pos (by simp)]; rfl) rfl (by decide)
  · exact ints_lit (by rw [heap_alloc_if, if_neg (by simp), if_pos (by simp)]; rfl) rfl (by decide)
  rintro e w' ⟨rfl, x6, rfl⟩
  go_wp2_with (first | (go_at_call 10; fail) | (go_at_call 12; fail) | (go_at_call 13; fail) | (go_at_call 15; fail) | (go_at_call 17; fail) | (go_at_call 19; fail) | (go_at_call 21; fail) | (go_at_call 23; fail) | (go_at_call 25; fail))
  refine Calls.mono (compare15_D (S := fun _ => True) (S1 := fun _ => True) (S2 := fun _ => True) _ _ _ _ _ _ _ _ _ lP [0, 1] [1, 0] 3 0 _ ?_ ?_ ?_ cmp2) ?_
  · exact HL3.out.exts (by repeat (first | exact Exts.refl _ | apply Exts.andR | apply Exts.alloc | apply Exts.wext | apply Exts.drew | apply Exts.drewN))
  · exact ints_lit (by rw [heap_alloc_if, if_pos (by simp), heap_alloc_if, if_neg (by simp), if_pos (by simp)]; rfl) rfl (by decide)
  · exact ints_lit (by rw [heap_alloc_if, if_neg (by simp), if_pos (by simp)]; rfl) rfl (by decide)
  rintro e w' ⟨rfl, x7, rfl⟩
  go_wp2_with (first | (go_at_call 10; fail) | (go_at_call 12; fail) | (go_at_call 13; fail) | (go_at_call 15; fail) | (go_at_call 17; fail) | (go_at_call 19; fail) | (go_at_call 21; fail) | (go_at_call 23; fail) | (go_at_call 25; fail))
  refine Calls.mono (closure10 (S := fun _ => True) 4 po 4 c dmP _ ?_) ?_
  · exact RowF.exts HP3.out (by repeat (first | exact Exts.refl _ | apply Exts.andR | apply Exts.alloc | apply Exts.wext | apply Exts.drew | apply Exts.drewN))
  rintro e w' ⟨ro2, rn2, rc2, co2, cn2, cc2, code2, rfl, ⟨x8, rfl⟩, hc⟩
  obtain ⟨rfl, rfl, rfl⟩ := clo_p hc
  clear hc
  go_wp2_with (first | (go_at_call 10; fail) | (go_at_call 12; fail) | (go_at_call 13; fail) | (go_at_call 15; fail) | (go_at_call 17; fail) | (go_at_call 19; fail) | (go_at_call 21; fail) | (go_at_call 23; fail) | (go_at_call 25; fail))
  refine Calls.mono (ints12 (S1 := fun b => W3.heap.size ≤ b) (S2 := fun _ => True) _ _ _ _ _ _ [0, 1, 3] [0, 1, 3] _ ?_ ?_) ?_
  · exact RowF.exts HCI.out (by repeat (first | exact Exts.refl _ | apply Exts.andR | apply Exts.alloc | apply Exts.wext | apply Exts.drew | apply Exts.drewN))
  · exact ints_lit (by rw [heap_alloc_if, if_neg (by simp), if_pos (by simp)]; rfl) rfl (by decide)
  rintro e w' ⟨rfl, x9, rfl⟩
  simp only [decide_true]
  go_wp2_with (first | (go_at_call 10; fail) | (go_at_call 12; fail) | (go_at_call 13; fail) | (go_at_call 15; fail) | (go_at_call 17; fail) | (go_at_call 19; fail) | (go_at_call 21; fail) | (go_at_call 23; fail) | (go_at_call 25; fail))
  refine Calls.mono (atleast21_D (S := fun _ => True) 4 po 4 c dmP 0 3 true _ ?_ at03) ?_
  · exact RowF.exts HP3.out (by repeat (first | exact Exts.refl _ | apply Exts.andR | apply Exts.alloc | apply Exts.wext | apply Exts.drew | apply Exts.drewN))
  rintro e w' ⟨rfl, x10, rfl⟩
  go_wp2_with (first | (go_at_call 10; fail) | (go_at_call 12; fail) | (go_at_call 13; fail) | (go_at_call 15; fail) | (go_at_call 17; fail) | (go_at_call 19; fail) | (go_at_call 21; fail) | (go_at_call 23; fail) | (go_at_call 25; fail))
  refine Calls.mono (atleast21_D (S := fun _ => True) 4 po 4 c dmP 1 2 false _ ?_ at12) ?_
  · exact RowF.exts HP3.out (by repeat (first | exact Exts.refl _ | apply Exts.andR | apply Exts.alloc | apply Exts.wext | apply Exts.drew | apply Exts.drewN))
  rintro e w' ⟨rfl, x11, rfl⟩
  go_wp2_with (first | (go_at_call 10; fail) | (go_at_call 12; fail) | (go_at_call 13; fail) | (go_at_call 15; fail) | (go_at_call 17; fail) | (go_at_call 19; fail) | (go_at_call 21; fail) | (go_at_call 23; fail) | (go_at_call 25; fail))
  refine Calls.mono (joins17_D (S := fun _ => True) (S1 := fun _ => True) (S2 := fun _ => True) _ _ _ _ _ _ _ _ _ lP [1, 0] [2, 1] [3, 1] true 2 _ ?_ ?_ ?_ joins1 rfl) ?_
  · exact HL3.out.exts (by repeat (first | exact Exts.refl _ | apply Exts.andR | apply Exts.alloc | apply Exts.wext | apply Exts.drew | apply Exts.drewN))
  · exact ints_lit (by rw [heap_alloc_if, if_pos (by simp), heap_alloc_if, if_neg (by simp), if_pos (by simp)]; rfl) rfl (by decide)
  · exact ints_lit (by rw [heap_alloc_if, if_neg (by simp), if_pos (by simp)]; rfl) rfl (by decide)
  rintro e w' ⟨jo, jc, rfl, ⟨x12, rfl⟩, hj⟩
  (try simp only [wext_and] at hj)
  have HJ := Lib.hid hj
  clear hj
  go_wp2_with (first | (go_at_call 10; fail) | (go_at_call 12; fail) | (go_at_call 13; fail) | (go_at_call 15; fail) | (go_at_call 17; fail) | (go_at_call 19; fail) | (go_at_call 21; fail) | (go_at_call 23; fail) | (go_at_call 25; fail))
  refine Calls.mono (blocks25_N (S := fun _ => True) (S1 := fun _ => True) (S2 := fun _ => True) _ _ _ _ _ _ _ _ _ lP [1, 0] [2, 3] [0] 1 _ ?_ ?_ ?_ blk1 rfl) ?_
  · exact HL3.out.exts (by repeat (first | exact Exts.refl _ | apply Exts.andR | apply Exts.alloc | apply Exts.wext | apply Exts.drew | apply Exts.drewN))
  · exact ints_lit (by rw [heap_alloc_if, if_pos (by simp), heap_alloc_if, if_neg (by simp), if_pos (by simp)]; rfl) rfl (by decide)
  · exact ints_lit (by rw [heap_alloc_if, if_neg (by simp), if_pos (by simp)]; rfl) rfl (by decide)
  rintro e w' ⟨bo, bc, rfl, ⟨x13, rfl⟩, hj⟩
  (try simp only [wext_and] at hj)
  have HB := Lib.hid hj
  clear hj
  go_wp2_with (first | (go_at_call 10; fail) | (go_at_call 12; fail) | (go_at_call 13; fail) | (go_at_call 15; fail) | (go_at_call 17; fail) | (go_at_call 19; fail) | (go_at_call 21; fail) | (go_at_call 23; fail) | (go_at_call 25; fail))
  refine Calls.mono (ints12 (S1 := fun _ => True) (S2 := fun _ => True) _ _ _ _ _ _ [0] [0] _ ?_ ?_) ?_
  · exact RowF.mono (RowF.exts HB.out (by repeat (first | exact Exts.refl _ | apply Exts.andR | apply Exts.alloc | apply Exts.wext | apply Exts.drew | apply Exts.drewN))) fun _ _ => trivial
  · exact ints_lit (by rw [heap_alloc_if, if_neg (by simp), if_pos (by simp)]; rfl) rfl (by decide)
  rintro e w' ⟨rfl, x14, rfl⟩
  simp only [decide_true]
  go_wp2_with (first | (go_at_call 10; fail) | (go_at_call 12; fail) | (go_at_call 13; fail) | (go_at_call 15; fail) | (go_at_call 17; fail) | (go_at_call 19; fail) | (go_at_call 21; fail) | (go_at_call 23; fail) | (go_at_call 25; fail))
  refine Calls.mono (right19_D (S := fun _ => True) _ _ _ lP true _ ?_ rightP) ?_
  · exact HL3.out.exts (by repeat (first | exact Exts.refl _ | apply Exts.andR | apply Exts.alloc | apply Exts.wext | apply Exts.drew | apply Exts.drewN))
  rintro e w' ⟨rfl, x15, rfl⟩
  go_wp2_with (first | (go_at_call 10; fail) | (go_at_call 12; fail) | (go_at_call 13; fail) | (go_at_call 15; fail) | (go_at_call 17; fail) | (go_at_call 19; fail) | (go_at_call 21; fail) | (go_at_call 23; fail) | (go_at_call 25; fail))
  refine Calls.mono (right19_D (S := fun _ => True) _ _ _ [(4, dmX)] false _ ?_ rightX) ?_
  · exact dims_one (by rw [heap_alloc_if, if_neg (by simp), if_pos (by simp)]) (RowF.exts HPX.out (by repeat (first | exact Exts.refl _ | apply Exts.andR | apply Exts.alloc | apply Exts.wext | apply Exts.drew | apply Exts.drewN)))
  rintro e w' ⟨rfl, x16, rfl⟩
  go_wp2_with (first | (go_at_call 10; fail) | (go_at_call 12; fail) | (go_at_call 13; fail) | (go_at_call 15; fail) | (go_at_call 17; fail) | (go_at_call 19; fail) | (go_at_call 21; fail) | (go_at_call 23; fail) | (go_at_call 25; fail))
  refine Calls.mono (below23_D (S := fun _ => True) (S1 := fun _ => True) (S2 := fun _ => True) _ _ _ _ _ _ _ _ _ lP [0, 0] [3, 3] true _ ?_ ?_ ?_ bel1) ?_
  · exact HL3.out.exts (by repeat (first | exact Exts.refl _ | apply Exts.andR | apply Exts.alloc | apply Exts.wext | apply Exts.drew | apply Exts.drewN))
  · exact ints_lit (by rw [heap_alloc_if, if_pos (by simp), heap_alloc_if, if_neg (by simp), if_pos (by simp)]; rfl) rfl (by decide)
  · exact ints_lit (by rw [heap_alloc_if, if_neg (by simp), if_pos (by simp)]; rfl) rfl (by decide)
  rintro e w' ⟨rfl, x17, rfl⟩
  go_wp2_with (first | (go_at_call 10; fail) | (go_at_call 12; fail) | (go_at_call 13; fail) | (go_at_call 15; fail) | (go_at_call 17; fail) | (go_at_call 19; fail) | (go_at_call 21; fail) | (go_at_call 23; fail) | (go_at_call 25; fail))
  refine Calls.mono (ints12 (S1 := fun _ => True) (S2 := fun _ => True) _ _ _ _ _ _ [3, 1] [3, 1] _ ?_ ?_) ?_
  · exact RowF.mono (RowF.exts HJ.out (by repeat (first | exact Exts.refl _ | apply Exts.andR | apply Exts.alloc | apply Exts.wext | apply Exts.drew | apply Exts.drewN))) fun _ _ => trivial
  · exact ints_lit (by rw [heap_alloc_if, if_neg (by simp), if_pos (by simp)]; rfl) rfl (by decide)
  rintro e w' ⟨rfl, x18, rfl⟩
  simp only [decide_true]
  go_wp2_with (first | (go_at_call 10; fail) | (go_at_call 12; fail) | (go_at_call 13; fail) | (go_at_call 15; fail) | (go_at_call 17; fail) | (go_at_call 19; fail) | (go_at_call 21; fail) | (go_at_call 23; fail) | (go_at_call 25; fail))
  go_ret
  exact ⟨rfl, HW3.out.trans (by repeat (first | exact Exts.refl _ | apply Exts.andR | apply Exts.alloc | apply Exts.wext | apply Exts.drew | apply Exts.drewN))⟩
end Go.Proofs.Ytbafcfbchbjgfaa
