/- way of the reference of chapter 38: a walk breadth first. No condition but valid pairs. -/
import Derived.Test.YtbafcfbchbjgfaaHas
import Derived.Test.YtbafcfbchbjgfaaTyped
import Derived.Test.YtbafcfbchbjgfaaDims
import Derived.Deep.AppendLies
import Derived.Deep.OwnRows
import Derived.BigRegion
namespace Go.Proofs.Ytbafcfbchbjgfaa
open Go.RowKit Go.Deep
set_option linter.unusedSimpArgs false
set_option linter.unusedVariables false

def natsC (L : List Nat) : List Value := intsC (L.map Int.ofNat)
theorem natsC_get {L : List Nat} {i u : Nat} (h : L[i]? = some u) : (natsC L)[i]? = some (.int .i64 u) := by simp [natsC, intsC, h]
theorem natsC_snoc (L : List Nat) (v : Nat) : natsC L ++ [.int .i64 v] = natsC (L ++ [v]) := by simp [natsC, intsC]
theorem grown_set (w : World) (sb i : Nat) (v : Value) : w.grownBy (w.setCell ⟨sb, i, none⟩ v) (some sb) := by
  refine ⟨rfl, rfl, rfl, by simp [World.setCell], fun k hk hne => ?_⟩
  have hk2 : ¬ sb = k := fun hc => hne (by rw [hc])
  simp only [World.setCell, Array.getElem?_modify]
  rw [if_neg hk2]
theorem set_cells {w : World} {sb : Nat} {c : Array Value} {t : TypeId} {fr : Nat × Nat} (i : Nat) (v : Value) (h : w.heap[sb]? = some (.cells c t fr)) : (w.setCell ⟨sb, i, none⟩ v).heap[sb]? = some (.cells (c.setIfInBounds i v) t fr) := by
  simp [World.setCell, Array.getElem?_modify, h]
/-- The memory of way. -/
structure WaySt (w1 wr : World) (sb base m : Nat) (S : Nat → Bool) (nv : Value) (L : List Nat) (xv : Value) (N : List Nat) : Prop where
  ext : Exts w1 wr
  sbw : w1.heap.size ≤ sb
  seen : wr.heap[sb]? = some (.cells (boolC S m) 4 (0, 0))
  sbb : sb < base
  now : wr.ownsRow w1.heap.size 3 1 nv L.length (natsC L)
  nowlt : ∀ g, nv.ownBlock = some g → g < base
  nxt : wr.ownsRow base 3 1 xv N.length (natsC N)
  bas : base ≤ wr.heap.size
theorem WaySt.ne_now {w1 wr : World} {sb base m : Nat} {S : Nat → Bool} {nv : Value} {L : List Nat} {xv : Value} {N : List Nat} (h : WaySt w1 wr sb base m S nv L xv N) : some sb ≠ nv.ownBlock := fun hc => by
  obtain ⟨c, hg⟩ := TypedBy.of_owns h.now sb hc.symm
  have := h.seen
  rw [hg] at this
  simp at this
theorem WaySt.ne_nxt {w1 wr : World} {sb base m : Nat} {S : Nat → Bool} {nv : Value} {L : List Nat} {xv : Value} {N : List Nat} (h : WaySt w1 wr sb base m S nv L xv N) : some sb ≠ xv.ownBlock := fun hc => by
  obtain ⟨c, hg⟩ := TypedBy.of_owns h.nxt sb hc.symm
  have := h.seen
  rw [hg] at this
  simp at this
theorem owns_base {w : World} {base e k n g : Nat} {v : Value} {xs : List Value} (h : w.ownsRow base e k v n xs) (hg : v.ownBlock = some g) : base ≤ g := by
  obtain ⟨_, ⟨rfl, _⟩ | ⟨g', cap, cur, rfl, hb, _⟩⟩ := h
  · cases hg
  · cases hg
    exact hb
theorem WaySt.exts {w1 wr wr' : World} {sb base m : Nat} {S : Nat → Bool} {nv : Value} {L : List Nat} {xv : Value} {N : List Nat} (h : WaySt w1 wr sb base m S nv L xv N) (he : Exts wr wr') : WaySt w1 wr' sb base m S nv L xv N :=
  ⟨h.ext.trans he, h.sbw, (he.below.block sb (Array.getElem?_eq_some_iff.1 h.seen).1).trans h.seen, h.sbb, ownsRow_exts h.now he, h.nowlt, ownsRow_exts h.nxt he, Nat.le_trans h.bas he.below.size⟩
theorem WaySt.store {w1 wr : World} {sb base m : Nat} {S : Nat → Bool} {nv : Value} {L : List Nat} {xv : Value} {N : List Nat} (h : WaySt w1 wr sb base m S nv L xv N) (v : Nat) : WaySt w1 (wr.setCell ⟨sb, v, none⟩ (.bool true)) sb base m (updB S v true) nv L xv N := by
  have hg := grown_set wr sb v (.bool true)
  refine ⟨exts_of_grown h.ext hg fun b hb => by cases hb; exact h.sbw, h.sbw, ?_, h.sbb, h.now.kept hg ?_, h.nowlt, h.nxt.kept hg ?_, Nat.le_trans h.bas hg.size⟩
  · rw [set_cells _ _ h.seen, boolC_set]
  · cases hv : nv.ownBlock with
    | none => simp
    | some g =>
      right
      intro hc
      cases hc
      exact h.ne_now hv.symm
  · cases hv : xv.ownBlock with
    | none => simp
    | some g =>
      right
      intro hc
      cases hc
      exact h.ne_nxt hv.symm
theorem WaySt.app {w1 wr w' : World} {sb base m v : Nat} {S : Nat → Bool} {nv : Value} {L : List Nat} {xv xv' : Value} {N : List Nat} (h : WaySt w1 wr sb base m S nv L xv N) (hg : wr.grownBy w' xv.ownBlock) (hown : w'.ownsRow base 3 1 xv' (N.length + 1) (natsC N ++ [.int .i64 v])) : WaySt w1 w' sb base m S nv L xv' (N ++ [v]) := by
  refine ⟨exts_of_grown h.ext hg fun b hb => ?_, h.sbw, ?_, h.sbb, h.now.kept hg ?_, h.nowlt, by rw [List.length_append, ← natsC_snoc]; exact hown, Nat.le_trans h.bas hg.size⟩
  · have h1 := owns_base h.nxt hb
    have h2 := h.sbb
    have h3 := h.sbw
    omega
  · rw [hg.block sb (Array.getElem?_eq_some_iff.1 h.seen).1 h.ne_nxt]
    exact h.seen
  · cases hv : nv.ownBlock with
    | none => simp
    | some g =>
      right
      intro hc
      have h1 := owns_base h.nxt hc.symm
      have h2 := h.nowlt g hv
      omega
/-- A new round: what was found is the level, nothing is found yet. -/
theorem WaySt.turn {w1 wr : World} {sb base m : Nat} {S : Nat → Bool} {nv : Value} {L : List Nat} {xv : Value} {N : List Nat} (h : WaySt w1 wr sb base m S nv L xv N) : WaySt w1 wr sb wr.heap.size m S xv N (.slice none 0 0) [] where
  ext := h.ext
  sbw := h.sbw
  seen := h.seen
  sbb := (Array.getElem?_eq_some_iff.1 h.seen).1
  now := by
    obtain ⟨h1, h2 | ⟨g, cap, cur, e1, e2, e3⟩⟩ := h.nxt
    · exact ⟨h1, .inl h2⟩
    · exact ⟨h1, .inr ⟨g, cap, cur, e1, by have := h.sbb; have := h.sbw; omega, e3⟩⟩
  nowlt := fun g hg => (h.nxt.lt g hg).2
  nxt := World.ownsRow_nil _ _ _ _
  bas := Nat.le_refl _
theorem owns_cell {w : World} {base n cp : Nat} {e : TypeId} {ao : Option Addr} {xs : List Value} {i : Nat} {x : Value} (h : w.ownsRow base e 1 (.slice ao n cp) n xs) (hx : xs[i]? = some x) : ∃ g, ao = some ⟨g, 0, none⟩ ∧ g < w.heap.size ∧ w.cell? ⟨g, i, none⟩ = some x := by
  obtain ⟨h1, ⟨_, rfl⟩ | ⟨g, cap, cur, e1, _, hg, _, _, hs, htk⟩⟩ := h
  · have := (List.getElem?_eq_some_iff.1 hx).1
    omega
  · simp only [Value.slice.injEq, true_and] at e1
    obtain ⟨rfl, rfl⟩ := e1
    refine ⟨g, rfl, (Array.getElem?_eq_some_iff.1 hg).1, ?_⟩
    have hi := (List.getElem?_eq_some_iff.1 hx).1
    rw [← htk, List.getElem?_take_of_lt (by omega)] at hx
    rw [cell_of_row w g i cur e (0, 0) hg]
    simpa using hx
theorem frozen_row {w : World} {b : Nat} {c : Array Value} {t : TypeId} (i : Nat) (h : w.heap[b]? = some (.cells c t (0, 0))) : w.frozen? ⟨b, i, none⟩ = false := by simp [World.frozen?, h]
theorem info3b : (Try.prog.info? 3).map (fun i => (i.zero, i.size, i.bytes)) = some (some (.int .i64 0), 1, 8) := by kernel_rfl
set_option maxRecDepth 100000
set_option maxHeartbeats 4000000
theorem way42 {S' : Nat → Prop} (m : Nat) (po : Option Addr) (n c : Nat) (ps : List Pr) (a b lo : Nat) (w : World) (h : Prs S' w po n c ps) (hm12 : m ≤ 12) (hin : ∀ p ∈ ps, 0 ≤ p.1 ∧ p.1 < (m : Int) ∧ 0 ≤ p.2 ∧ p.2 < (m : Int)) (ha : a < m) (hlo : lo ≤ m) :
    Calls Try.prog 42 #[.agg #[.int .i64 m, .slice po n c], .int .i64 a, .int .i64 b, .int .i64 lo] w fun e w' => e = .returned (.int .i64 (wayN (pairRel ps) m lo a b)) ∧ Exts w w' := by
  have hm := RowF.nle h
  unfold maxLen at hm
  have hpin : ∀ x y, pairRel ps x y = true → x < m ∧ y < m := fun x y h => by
    simp only [pairRel, List.any_eq_true, Bool.and_eq_true, beq_iff_eq] at h
    obtain ⟨p, hp, h1, h2⟩ := h
    have := hin p hp
    omega
  have HPI := Lib.hid hpin
  have H := Lib.hid h
  have hmk := run_make_row' (P := Try.prog) 34 4 (.bool false) 1 Try.underlying34 info4b rfl .i64 .i64 m (by omega) (by omega)
  rw [made_bools] at hmk
  obtain ⟨i0, hi, hz0, hz1, hz2⟩ := info_parts info3b
  clear h hpin hin
  obtain ⟨f, hf⟩ : ∃ f, pairRel ps = f := ⟨_, rfl⟩
  go_enter Try.func42, Try.ntmps42
  rw [hf] at HPI ⊢
  have HF := Lib.hid hf
  clear hf
  go_wp2
  obtain ⟨w1, hw1⟩ : ∃ w1, w.alloc (.cells #[.int .i64 m, .slice po n c] 24) = w1 := ⟨_, rfl⟩
  have HX := Lib.hid (show Exts w w1 by rw [← hw1]; exact (Exts.refl w).alloc _)
  have HP := Lib.hid (show Prs S' w1 po n c ps from RowF.exts H.out HX.out)
  have cO0 : w1.cell? ⟨w.heap.size, 0, none⟩ = some (.int .i64 m) := by rw [← hw1]; simp [go_sem]
  have cO1 : w1.cell? ⟨w.heap.size, 1, none⟩ = some (.slice po n c) := by rw [← hw1]; simp [go_sem]
  have lO : w1.heap.size = w.heap.size + 1 := by rw [← hw1]; simp
  rw [hw1]
  clear hw1 H
  go_loopw [10, 11] (fun nw i wr => ∃ (j sb : Nat) (S0 : Nat → Bool) (L : List Nat), 1 ≤ j ∧ j ≤ m + 1 ∧ i = .int .i64 j ∧ sb = w.heap.size + 1 ∧ Lvl f m lo a b j S0 L ∧ WaySt w1 wr sb wr.heap.size m S0 nw L (.slice none 0 0) []) (fun _ i _ => m + 1 - (intOf i).toNat)
  case atStart =>
    refine ⟨1, _, _, [a], Nat.le_refl _, by omega, rfl, rfl, Lvl.start f lo b ha, ?_⟩
    refine ⟨(by repeat (first | exact Exts.refl _ | apply Exts.andR | apply Exts.alloc | apply Exts.wext | apply Exts.drew | apply Exts.drewN)), by omega, ?_, by simp; omega, ⟨by simp [natsC, intsC], .inr ⟨w1.heap.size + 1, 1, #[.int .i64 a], by simp [lO], by omega, ?_, Nat.le_refl _, by decide, rfl, rfl⟩⟩, ?_, World.ownsRow_nil _ _ _ _, Nat.le_refl _⟩
    · rw [heap_alloc_if, if_pos (by simp; omega), heap_alloc_if, if_neg (by omega), if_pos (by omega)]
    · rw [heap_alloc_if, if_neg (by simp), if_pos (by simp)]
    · intro g hg
      simp [Value.ownBlock] at hg
      subst hg
      simp
      omega
  case round =>
    obtain ⟨j, sb, S0, L, hj1, hjm, rfl, rfl, hlv, hst⟩ := hrel
    have HLV := Lib.hid hlv
    have HST := Lib.hid hst
    have lLen := hlv.len
    obtain ⟨nao, ncp, rfl⟩ := owns_shape hst.now
    have lO' : w.heap.size < wr.heap.size := by have := hst.ext.below.size; omega
    have cO0' := Exts.cell hst.ext cO0
    obtain ⟨B, hB⟩ : ∃ B, wr.heap.size = B := ⟨_, rfl⟩
    rw [hB] at HST
    clear hlv hst
    by_cases hj : j ≤ m
    · have b1 : decide ((j : Int) ≤ (m : Int)) = true := by simp; omega
      go_wp2
      go_loopw [12, 13] (fun xv i wr2 => ∃ (k : Nat) (S : Nat → Bool) (N : List Nat), k ≤ L.length ∧ i = .int .i64 k ∧ WaySt w1 wr2 (w.heap.size + 1) B m S (.slice nao L.length ncp) L xv N ∧ Mid f m lo b S0 L k lo S N) (fun _ i _ => L.length - (intOf i).toNat)
      case atStart => exact ⟨0, S0, [], by omega, rfl, HST.out, Mid.start f m lo b S0 L⟩
      case round =>
        obtain ⟨k, S, N, hk, rfl, hst, hmid⟩ := hrel
        have HST := Lib.hid hst
        have HMID := Lib.hid hmid
        have lO2 : w.heap.size < wr.heap.size := by have := hst.ext.below.size; omega
        have cO0' := Exts.cell hst.ext cO0
        clear hst hmid
        by_cases hkl : k < L.length
        · obtain ⟨u, hu⟩ : ∃ u, L[k]? = some u := ⟨_, List.getElem?_eq_getElem hkl⟩
          have HU := Lib.hid hu
          obtain ⟨nb, rfl, _, _⟩ := owns_cell HST.out.now (natsC_get hu)
          clear hu
          go_wp2
          go_loopw [12, 14] (fun xv i wr3 => ∃ (v : Nat) (S : Nat → Bool) (N : List Nat), lo ≤ v ∧ v ≤ m ∧ i = .int .i64 v ∧ WaySt w1 wr3 (w.heap.size + 1) B m S (.slice (some ⟨nb, 0, none⟩) L.length ncp) L xv N ∧ Mid f m lo b S0 L k v S N) (fun _ i _ => m - (intOf i).toNat)
          case atStart => exact ⟨lo, S, N, Nat.le_refl _, hlo, rfl, HST.out, HMID.out⟩
          case round =>
            obtain ⟨v, S, N, hlv, hvm, rfl, hst, hmid⟩ := hrel
            have HST := Lib.hid hst
            have HMID := Lib.hid hmid
            have lO3 : w.heap.size < wr.heap.size := by have := hst.ext.below.size; omega
            have cO0' := Exts.cell hst.ext cO0
            have cO1' := Exts.cell hst.ext cO1
            have HP3 := Lib.hid (show Prs S' wr po n c ps from RowF.exts HP.out hst.ext)
            have lsb := (Array.getElem?_eq_some_iff.1 hst.seen).1
            obtain ⟨_, e, lnb, cnb⟩ := owns_cell hst.now (natsC_get HU.out)
            cases e
            clear hst hmid
            by_cases hv : v < m
            · have cS : wr.cell? ⟨w.heap.size + 1, v, none⟩ = some (.bool (S v)) := by rw [cell_of_row _ _ _ _ _ _ HST.out.seen]; exact boolC_get _ _ _ hv
              cases hfv : f u v with
              | false =>
                have HFV := Lib.hid hfv
                have HR := Lib.hid (show pairRel ps u v = false by rw [HF.out]; exact hfv)
                clear hfv
                go_wp2
                first | refine wp_region_ext_lit2 (by kernel_rfl) (by kernel_rfl) ?_ | refine wp_region_ext_lit (by kernel_rfl) (by kernel_rfl) ?_
                repeat (go_big_quiet_step (((first | (go_at_call 43; exact Calls.ext_of (has43_D _ _ _ _ ps _ _ _ _ (RowF.exts HP3.out (by repeat (first | exact Exts.refl _ | apply Exts.andR | apply Exts.alloc | apply Exts.wext | apply Exts.drew | apply Exts.drewN))) HR.out))))))
                refine wpQuiet_nil ?_
                intro _ hwq'
                obtain ⟨xq, hwq''⟩ := hwq'
                subst hwq''
                go_wp2
                refine ⟨⟨v + 1, S, N, by omega, by omega, by go_num, HST.out.exts (by repeat (first | exact Exts.refl _ | apply Exts.andR | apply Exts.alloc | apply Exts.wext | apply Exts.drew | apply Exts.drewN)), HMID.out.no HU.out HFV.out⟩, ?_⟩
                simp [intOf]; omega
              | true =>
                have HFV := Lib.hid hfv
                have HR := Lib.hid (show pairRel ps u v = true by rw [HF.out]; exact hfv)
                clear hfv
                by_cases hvb : v = b
                · subst hvb
                  have HW := Lib.hid (HLV.out.found hj hm12 (List.mem_of_getElem? HU.out) HFV.out hlv hv)
                  go_wp2
                  first | refine wp_region_ext_lit2 (by kernel_rfl) (by kernel_rfl) ?_ | refine wp_region_ext_lit (by kernel_rfl) (by kernel_rfl) ?_
                  repeat (go_big_quiet_step (((first | (go_at_call 43; exact Calls.ext_of (has43_D _ _ _ _ ps _ _ _ _ (RowF.exts HP3.out (by repeat (first | exact Exts.refl _ | apply Exts.andR | apply Exts.alloc | apply Exts.wext | apply Exts.drew | apply Exts.drewN))) HR.out))))))
                  refine wpQuiet_nil ?_
                  intro _ hwq'
                  obtain ⟨xq, hwq''⟩ := hwq'
                  subst hwq''
                  go_wp2
                  go_ret
                  exact ⟨by rw [HW.out]; rfl, HX.out.trans (HST.out.ext.trans (by repeat (first | exact Exts.refl _ | apply Exts.andR | apply Exts.alloc | apply Exts.wext | apply Exts.drew | apply Exts.drewN)))⟩
                · have e1 : ((v : Int) == (b : Int)) = false := by simp; omega
                  have e2 : (v == b) = false := by simpa using hvb
                  have HVB := Lib.hid hvb
                  have HM1 := HMID.out.len
                  clear hvb
                  cases hs : S v with
                  | true =>
                    have HS := Lib.hid hs
                    rw [hs] at cS
                    clear hs
                    go_wp2
                    first | refine wp_region_ext_lit2 (by kernel_rfl) (by kernel_rfl) ?_ | refine wp_region_ext_lit (by kernel_rfl) (by kernel_rfl) ?_
                    repeat (go_big_quiet_step (((first | (go_at_call 43; exact Calls.ext_of (has43_D _ _ _ _ ps _ _ _ _ (RowF.exts HP3.out (by repeat (first | exact Exts.refl _ | apply Exts.andR | apply Exts.alloc | apply Exts.wext | apply Exts.drew | apply Exts.drewN))) HR.out))))))
                    refine wpQuiet_nil ?_
                    intro _ hwq'
                    obtain ⟨xq, hwq''⟩ := hwq'
                    subst hwq''
                    go_wp2
                    refine ⟨⟨v + 1, S, N, by omega, by omega, by go_num, HST.out.exts (by repeat (first | exact Exts.refl _ | apply Exts.andR | apply Exts.alloc | apply Exts.wext | apply Exts.drew | apply Exts.drewN)), HMID.out.old HU.out HFV.out hlv hv HVB.out HS.out⟩, ?_⟩
                    simp [intOf]; omega
                  | false =>
                    have HS := Lib.hid hs
                    rw [hs] at cS
                    clear hs
                    go_wp2
                    first | refine wp_region_ext_lit2 (by kernel_rfl) (by kernel_rfl) ?_ | refine wp_region_ext_lit (by kernel_rfl) (by kernel_rfl) ?_
                    repeat (go_big_quiet_step (((first | (go_at_call 43; exact Calls.ext_of (has43_D _ _ _ _ ps _ _ _ _ (RowF.exts HP3.out (by repeat (first | exact Exts.refl _ | apply Exts.andR | apply Exts.alloc | apply Exts.wext | apply Exts.drew | apply Exts.drewN))) HR.out))))))
                    refine wpQuiet_nil ?_
                    intro _ hwq'
                    obtain ⟨xq, hwq''⟩ := hwq'
                    subst hwq''
                    have HST2 := Lib.hid (HST.out.store v)
                    have cF := frozen_row v HST.out.seen
                    go_wp2_with (at_builtin; refine wpList_append_lies _ rfl (.tmp 59) (.tmp 61) 26 rfl B 3 i0 _ 1 8 Try.underlying26 hi hz0 hz1 hz2 rfl (by decide) u12 N.length (natsC N) rfl (ownsRow_exts HST2.out.nxt (by repeat (first | exact Exts.refl _ | apply Exts.andR | apply Exts.alloc | apply Exts.wext | apply Exts.drew | apply Exts.drewN))) ⟨_, 0, none⟩ 1 1 [.int .i64 v] rfl rfl (by intro j u hj; match j, hj with | 0, hj => (simp at hj; subst hj; simp [go_sem])) (int_one _) (by decide) (by unfold maxLen; omega) (by omega) (HST2.out.exts (by repeat (first | exact Exts.refl _ | apply Exts.andR | apply Exts.alloc | apply Exts.wext | apply Exts.drew | apply Exts.drewN))).bas _ rfl ?_; intro g2 cg w9 hown' hgrow hat hlt')
                    refine ⟨⟨v + 1, _, _, by omega, by omega, by go_num, (HST2.out.exts (by repeat (first | exact Exts.refl _ | apply Exts.andR | apply Exts.alloc | apply Exts.wext | apply Exts.drew | apply Exts.drewN))).app hgrow hown', HMID.out.add HU.out HFV.out hlv hv HVB.out HS.out⟩, ?_⟩
                    simp [intOf]; omega
            · obtain rfl : v = m := by omega
              go_wp2
              refine ⟨⟨k + 1, S, N, by omega, by go_num, HST.out, HMID.out.row HU.out (.inl rfl) HPI.out⟩, ?_⟩
              simp [intOf]; omega
        · obtain rfl : k = L.length := by omega
          go_wp2
          refine ⟨⟨j + 1, _, S, N, by omega, by omega, by go_num, rfl, HLV.out.next hm12 HMID.out rfl HPI.out, HST.out.turn⟩, ?_⟩
          simp [intOf]; omega
    · have b1 : decide ((j : Int) ≤ (m : Int)) = false := by simp; omega
      obtain rfl : j = m + 1 := by omega
      have HW := Lib.hid HLV.out.end
      go_wp2
      go_ret
      exact ⟨by rw [HW.out]; rfl, HX.out.trans HST.out.ext⟩
end Go.Proofs.Ytbafcfbchbjgfaa
