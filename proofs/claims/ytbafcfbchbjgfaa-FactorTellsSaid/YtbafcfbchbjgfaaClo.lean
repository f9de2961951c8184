/- Closure of package factor. -/
import Derived.Test.YtbafcfbchbjgfaaCirc
import Derived.Test.YtbafcfbchbjgfaaAppEmpty
import Derived.Test.YtbafcfbchbjgfaaTyped
import Derived.Deep.RegionHeld3
import Derived.Deep.AppendLies
namespace Go.Proofs.Ytbafcfbchbjgfaa
open Go.RowKit
set_option linter.unusedSimpArgs false
set_option linter.unusedVariables false

theorem info4 : (Try.prog.info? 4).map (fun i => (i.zero, i.size, i.bytes)) = some (some (.bool false), 1, 1) := by kernel_rfl
theorem info34 : (Try.prog.info? 34).map (fun i => (i.zero, i.size, i.bytes)) = some (some (.slice none 0 0), 1, 24) := by kernel_rfl
set_option maxHeartbeats 400000 in
theorem clone35 (v : Value) (n : Nat) (xs : List Value) (w : World) {S : Nat → Prop} (h : RowF S 1 w v n xs) (h1 : ∀ u ∈ xs, u.oneCell' = true) (hb : n * 1 ≤ 140737488355328) :
    Calls Try.prog 35 #[v] w fun e w' => ∃ ao' c', e = .returned (.slice ao' n c') ∧ Exts w w' ∧ RowF (fun b => w.heap.size ≤ b) 1 w' (.slice ao' n c') n xs ∧ TypedBy 4 w' (.slice ao' n c') := by
  obtain ⟨i0, hi, hz0, hz1, hz2⟩ := info_parts info4
  have hnle := h.nle
  have hlen := h.len
  obtain ⟨_, ao, cap, rfl, h2, h3, h4, h5⟩ := id h
  cases ao with
  | none =>
    have hc := h4 rfl
    subst hc
    obtain rfl : n = 0 := by omega
    obtain rfl : xs = [] := List.eq_nil_of_length_eq_zero (by simpa using hlen)
    have e := fun w => Lib.run_eql_slice_nil (P := Try.prog) w 34 4 none 0 0 0 0 Try.underlying34
    go_enter Try.func35, Try.ntmps35
    go_wp2
    go_ret
    exact ⟨none, 0, rfl, Exts.refl _, RowF.nil _ 1 w, fun b hb => by cases hb⟩
  | some a =>
    have e := fun w => Lib.run_eql_slice_nil (P := Try.prog) w 34 4 (some a) n cap 0 0 Try.underlying34
    have hx : ∀ j u, xs[j]? = some u → (w.alloc (.cells #[] 4)).cell? (a.add j) = some u := by
      intro j u hj
      have hn : 0 < n := by
        have := (List.getElem?_eq_some_iff.1 hj).1
        rw [hlen] at this
        exact Nat.pos_of_ne_zero (fun h0 => by subst h0; simp at this)
      obtain ⟨b, off, hab, _, hbs, hc⟩ := h5 hn
      cases hab
      rw [Addr.add_lit, World.cell?_alloc_lt _ _ _ hbs]
      exact hc j u hj
    clear h2 h3 h4 h5 h
    unfold maxLen at hnle
    go_enter Try.func35, Try.ntmps35
    go_wp2_with (at_builtin; refine wpList_append_own _ rfl _ _ 34 rfl w.heap.size 4 i0 _ 1 1 Try.underlying34 hi hz0 hz1 hz2 rfl (by decide) _ 0 [] rfl (World.ownsRow_made w #[] 0 (Nat.le_refl _) (by decide) rfl) a n cap xs rfl hlen hx h1 (by unfold maxLen; omega) (by omega) (by simp) ?_; intro v' w1 hown hgrow hnil)
    go_ret
    simp only [Nat.zero_add, List.nil_append] at hown
    have hrow := RowF.of_owns hown
    obtain ⟨_, ao', c', rfl, _⟩ := id hrow
    exact ⟨ao', c', rfl, exts_of_grown ((Exts.refl w).alloc _) hgrow (fun b hb => by cases hb; exact Nat.le_refl _), hrow, TypedBy.of_owns hown⟩


def bools (g : Rel) (a n : Nat) : List Value := (List.range n).map fun b => .bool (g a b)
@[simp] theorem bools_len (g : Rel) (a n : Nat) : (bools g a n).length = n := by simp [bools]
theorem bools_one (g : Rel) (a n : Nat) : ∀ u ∈ bools g a n, u.oneCell' = true := by
  intro u hu
  simp [bools] at hu
  obtain ⟨b, _, rfl⟩ := hu
  rfl
theorem bools_get {g : Rel} {a n b : Nat} {v : Value} (h : (bools g a n)[b]? = some v) : b < n ∧ v = .bool (g a b) := by
  have hb : b < n := by
    have := (List.getElem?_eq_some_iff.1 h).1
    rwa [bools_len] at this
  refine ⟨hb, ?_⟩
  simp [bools, hb] at h
  exact h.symm
/-- Rows of a relation, read as a slice of slices. -/
def BRows (w : World) (ro : Option Addr) (m n rc : Nat) (g : Rel) : Prop :=
  ∃ rows, RowF (fun _ => True) 1 w (.slice ro m rc) m rows ∧ ∀ a, a < m → ∃ bo bc, rows[a]? = some (.slice bo n bc) ∧ RowF (fun _ => True) 1 w (.slice bo n bc) n (bools g a n)
/-- The rows that Closure has gathered. -/
def RowsIn (w : World) (k m : Nat) (g : Rel) (rows : List Value) : Prop := ∀ a, a < k → ∃ bo bc, rows[a]? = some (.slice bo m bc) ∧ RowF (fun _ => True) 1 w (.slice bo m bc) m (bools g a m) ∧ TypedBy 4 w (.slice bo m bc)
theorem mat_row {w : World} {b a m : Nat} {g : Rel} {t : TypeId} (h : w.heap[b]? = some (.cells (matC g) t (0, 0))) (ha : a < 12) (hm : m ≤ 12) : RowF (fun _ => True) 1 w (.slice (some ⟨b, a * 12, none⟩) m 12) m (bools g a m) := by
  refine ⟨by simp, some ⟨b, a * 12, none⟩, 12, rfl, hm, by decide, (fun h => by cases h), fun _ => ⟨b, a * 12, rfl, trivial, (Array.getElem?_eq_some_iff.1 h).1, fun j v hj => ?_⟩⟩
  obtain ⟨hjm, rfl⟩ := bools_get hj
  rw [cell_of_row w b _ _ t (0, 0) h]
  exact matC_get g a j ha (by omega)
theorem owns_other {w : World} {base e k n b : Nat} {v : Value} {xs : List Value} {c : Array Value} {t : TypeId} {fr : Nat × Nat} (h : w.ownsRow base e k v n xs) (hb : w.heap[b]? = some (.cells c t fr)) (hne : t ≠ e) : some b ≠ v.ownBlock := fun hc => by
  obtain ⟨c', h'⟩ := TypedBy.of_owns h b hc.symm
  rw [hb] at h'
  simp at h'
  exact hne h'.2.1
theorem rows_round {w wr w1 : World} {k m : Nat} {g : Rel} {va : Option Addr} {rows : List Value} {ov : Value} {na : Nat} {base : Nat} (hown : wr.ownsRow base 34 1 ov k rows) (hin : RowsIn wr k m g rows) (hx : Exts wr w) (hra : RowF (fun _ => True) 1 w (.slice va m na) m (bools g k m)) (hta : TypedBy 4 w (.slice va m na)) (hgrow : w.grownBy w1 ov.ownBlock) : RowsIn w1 (k + 1) m g (rows ++ [.slice va m na]) := by
  have hlen : rows.length = k := by obtain ⟨h, _⟩ := hown; omega
  have hto : TypedBy 34 w ov := (TypedBy.of_owns hown).exts hx
  intro a ha
  by_cases hak : a < k
  · obtain ⟨bo, bc, h1, h2, h3⟩ := hin a hak
    have hne := (h3.exts hx).ne hto (by decide)
    exact ⟨bo, bc, by rw [List.getElem?_append_left (by omega)]; exact h1, (h2.exts hx).grown hgrow hne, (h3.exts hx).grown hgrow hne⟩
  · obtain rfl : a = k := by omega
    have hne := hta.ne hto (by decide)
    exact ⟨va, na, by rw [List.getElem?_append_right (by omega), hlen, Nat.sub_self]; rfl, hra.grown hgrow hne, hta.grown hgrow hne⟩
set_option maxRecDepth 100000
set_option maxHeartbeats 2000000
/-- What Closure hands back: rows, a circle, an error. -/
def CloRes (V : Int) (ps : List Pr) (w w' : World) (ro : Option Addr) (rn rc : Nat) (co : Option Addr) (cn cc : Nat) (code : Int) : Prop :=
  (validB V ps = false ∧ rn = 0 ∧ cn = 0 ∧ code = 1) ∨
  (validB V ps = true ∧ (closedD V ps).2 = false ∧ rn = 0 ∧ code = 16 ∧ ∃ C, IsCirc (pairRel ps) C ∧ C.length = cn ∧ Ints (fun b => w.heap.size ≤ b) w' co cn cc (C.map Int.ofNat)) ∨
  ((closedD V ps).2 = true ∧ (rn : Int) = V ∧ cn = 0 ∧ code = 0 ∧ BRows w' ro rn rn rc (closedD V ps).1)
theorem closure10 {S : Nat → Prop} (V : Int) (po : Option Addr) (n c : Nat) (ps : List Pr) (w : World) (h : Prs S w po n c ps) :
    Calls Try.prog 10 #[.agg #[.int .i64 V, .slice po n c]] w fun e w' => ∃ ro rn rc co cn cc code, e = .returned (.tuple #[.slice ro rn rc, .slice co cn cc, .int .i64 code]) ∧ Exts w w' ∧ CloRes V ps w w' ro rn rc co cn cc code := by
  obtain ⟨⟨g, o⟩, hg⟩ : ∃ D, closedD V ps = D := ⟨_, rfl⟩
  cases hv : validB V ps with
  | false =>
    have HV := Lib.hid hv
    have HG := Lib.hid hg
    have H := Lib.hid h
    clear h hv hg
    go_enter Try.func10, Try.ntmps10
    go_wp2_with (first | (go_at_call 31; ((with_reducible refine (closed31_D _ _ _ _ ps _ _ _ (RowF.exts H.out (by repeat (first | exact Exts.refl _ | apply Exts.andR | apply Exts.alloc | apply Exts.wext | apply Exts.drew | apply Exts.drewN))) HG.out).mono ?_); rintro e w' ⟨rfl, x1, rfl⟩)) | (go_at_call 32; ((with_reducible refine (valid32 _ _ _ _ ps _ (RowF.exts H.out (by repeat (first | exact Exts.refl _ | apply Exts.andR | apply Exts.alloc | apply Exts.wext | apply Exts.drew | apply Exts.drewN)))).mono ?_); rintro e w' ⟨rfl, x2, rfl⟩; rw [HV.out])) | (go_at_call 34; ((with_reducible refine (steps34 _ _ _ _ ps _ (RowF.exts H.out (by repeat (first | exact Exts.refl _ | apply Exts.andR | apply Exts.alloc | apply Exts.wext | apply Exts.drew | apply Exts.drewN))) HI.out).mono ?_); rintro e w' ⟨rfl, x3, rfl⟩)) | (go_at_call 33; ((with_reducible refine (circle33 _ _).mono ?_); rintro e w' ⟨C, ro, rc, rfl, hc, ⟨x4, rfl⟩, hr⟩; (have HC := Lib.hid hc); (try simp only [wext_and] at hr); (have HR := Lib.hid (RowF.mono (S' := fun b => w.heap.size ≤ b) hr fun b hb => Nat.le_trans (by simp; omega) hb)); clear hc hr)))
    go_ret3
    exact ⟨none, 0, 0, none, 0, 0, 1, rfl, (by repeat (first | exact Exts.refl _ | apply Exts.andR | apply Exts.alloc | apply Exts.wext | apply Exts.drew | apply Exts.drewN)), .inl ⟨HV.out, rfl, rfl, rfl⟩⟩
  | true =>
    have HI := Lib.hid (show ∀ p ∈ ps, 0 ≤ p.1 ∧ p.1 < 12 ∧ 0 ≤ p.2 ∧ p.2 < 12 from fun p hp => by have := valid_in hv; have := this.2.2 p hp; omega)
    have HV := Lib.hid hv
    have HG := Lib.hid hg
    have H := Lib.hid h
    cases o with
    | false =>
      clear h hv hg
      go_enter Try.func10, Try.ntmps10
      go_wp2_with (first | (go_at_call 31; ((with_reducible refine (closed31_D _ _ _ _ ps _ _ _ (RowF.exts H.out (by repeat (first | exact Exts.refl _ | apply Exts.andR | apply Exts.alloc | apply Exts.wext | apply Exts.drew | apply Exts.drewN))) HG.out).mono ?_); rintro e w' ⟨rfl, x1, rfl⟩)) | (go_at_call 32; ((with_reducible refine (valid32 _ _ _ _ ps _ (RowF.exts H.out (by repeat (first | exact Exts.refl _ | apply Exts.andR | apply Exts.alloc | apply Exts.wext | apply Exts.drew | apply Exts.drewN)))).mono ?_); rintro e w' ⟨rfl, x2, rfl⟩; rw [HV.out])) | (go_at_call 34; ((with_reducible refine (steps34 _ _ _ _ ps _ (RowF.exts H.out (by repeat (first | exact Exts.refl _ | apply Exts.andR | apply Exts.alloc | apply Exts.wext | apply Exts.drew | apply Exts.drewN))) HI.out).mono ?_); rintro e w' ⟨rfl, x3, rfl⟩)) | (go_at_call 33; ((with_reducible refine (circle33 _ _).mono ?_); rintro e w' ⟨C, ro, rc, rfl, hc, ⟨x4, rfl⟩, hr⟩; (have HC := Lib.hid hc); (try simp only [wext_and] at hr); (have HR := Lib.hid (RowF.mono (S' := fun b => w.heap.size ≤ b) hr fun b hb => Nat.le_trans (by simp; omega) hb)); clear hc hr)))
      go_ret3
      exact ⟨none, 0, 0, ro, C.length, rc, 16, rfl, (by repeat (first | exact Exts.refl _ | apply Exts.andR | apply Exts.alloc | apply Exts.wext | apply Exts.drew | apply Exts.drewN)), .inr (.inl ⟨HV.out, by rw [HG.out], rfl, rfl, C, HC.out, rfl, RowF.exts HR.out (by repeat (first | exact Exts.refl _ | apply Exts.andR | apply Exts.alloc | apply Exts.wext | apply Exts.drew | apply Exts.drewN))⟩)⟩
    | true =>
      obtain ⟨i0, hi, hz0, hz1, hz2⟩ := info_parts info34
      obtain ⟨⟨v1, v2⟩, _⟩ := valid_in hv
      obtain ⟨m, rfl⟩ : ∃ m : Nat, V = m := ⟨V.toNat, by omega⟩
      clear h hv hg
      go_enter Try.func10, Try.ntmps10
      go_wp2_with (first | (go_at_call 31; ((with_reducible refine (closed31_D _ _ _ _ ps _ _ _ (RowF.exts H.out (by repeat (first | exact Exts.refl _ | apply Exts.andR | apply Exts.alloc | apply Exts.wext | apply Exts.drew | apply Exts.drewN))) HG.out).mono ?_); rintro e w' ⟨rfl, x1, rfl⟩)) | (go_at_call 32; ((with_reducible refine (valid32 _ _ _ _ ps _ (RowF.exts H.out (by repeat (first | exact Exts.refl _ | apply Exts.andR | apply Exts.alloc | apply Exts.wext | apply Exts.drew | apply Exts.drewN)))).mono ?_); rintro e w' ⟨rfl, x2, rfl⟩; rw [HV.out])) | (go_at_call 34; ((with_reducible refine (steps34 _ _ _ _ ps _ (RowF.exts H.out (by repeat (first | exact Exts.refl _ | apply Exts.andR | apply Exts.alloc | apply Exts.wext | apply Exts.drew | apply Exts.drewN))) HI.out).mono ?_); rintro e w' ⟨rfl, x3, rfl⟩)) | (go_at_call 33; ((with_reducible refine (circle33 _ _).mono ?_); rintro e w' ⟨C, ro, rc, rfl, hc, ⟨x4, rfl⟩, hr⟩; (have HC := Lib.hid hc); (try simp only [wext_and] at hr); (have HR := Lib.hid (RowF.mono (S' := fun b => w.heap.size ≤ b) hr fun b hb => Nat.le_trans (by simp; omega) hb)); clear hc hr)))
      have hm12 : m ≤ 12 := by omega
      go_loopw [7, 26] (fun o i wr => ∃ (k : Nat) (rows : List Value), k ≤ m ∧ i = .int .i64 k ∧ Exts w wr ∧ wr.ownsRow w.heap.size 34 1 o k rows ∧ RowsIn wr k m g rows ∧ wr.heap[w.heap.size]? = some (.cells #[.int .i64 m, .slice po n c] 24 (0, 0)) ∧ wr.heap[w.heap.size + 1 + x1.bs.size]? = some (.cells (matC g) 52 (0, 0))) (fun _ i _ => m - (intOf i).toNat)
      case atStart =>
        refine ⟨0, [], by omega, rfl, (by repeat (first | exact Exts.refl _ | apply Exts.andR | apply Exts.alloc | apply Exts.wext | apply Exts.drew | apply Exts.drewN)), World.ownsRow_nil _ _ _ _, fun a ha => by omega, ?_, ?_⟩
        · rw [wext_heap_old _ _ _ (by simp; omega), heap_alloc_if, if_pos (by simp; omega), wext_heap_old _ _ _ (by simp), heap_alloc_if, if_neg (by omega), if_pos rfl]
        · rw [wext_heap_old _ _ _ (by simp), heap_alloc_if, if_neg (by simp), if_pos (by simp)]
      case round =>
        obtain ⟨k, rows, hk, rfl, hx, hown, hin, hm0, hm1⟩ := hrel
        by_cases hlt : k < m
        · have hk12 : k < 12 := by omega
          have HX := Lib.hid hx
          have HO := Lib.hid hown
          have HIN := Lib.hid hin
          have HM0 := Lib.hid hm0
          have HM1 := Lib.hid hm1
          have HROW := Lib.hid (mat_row (m := m) hm1 hk12 hm12)
          have c0 : wr.cell? ⟨w.heap.size, 0, none⟩ = some (.int .i64 m) := by rw [cell_of_row _ _ _ _ _ _ hm0]; rfl
          have l0 : w.heap.size < wr.heap.size := (Array.getElem?_eq_some_iff.1 hm0).1
          have l1 : w.heap.size + 1 + x1.bs.size < wr.heap.size := (Array.getElem?_eq_some_iff.1 hm1).1
          have hu : ∀ g, u7.ownBlock = some g → g < wr.heap.size := fun g hg => (HO.out.lt g hg).2
          have HN0 := Lib.hid (owns_other hown hm0 (by decide))
          have HN1 := Lib.hid (owns_other hown hm1 (by decide))
          have HU := Lib.hid hu
          have i0' : (0 : Int) ≤ (k : Int) := by omega
          have i1' : (k : Int) < 12 := by omega
          have i2' : (m : Int) ≤ 12 := by omega
          have i3' : (0 : Int) ≤ (m : Int) := by omega
          clear hx hown hin hm0 hm1 hu
          go_wp2_with fail
          go_region_held3 (fun w' => w'.cell? ⟨w.heap.size, 0, none⟩ = some (.int .i64 m)) (first | (simp [go_sem, *]; done) | exact World.grownBy.cell hgrow (by simp [go_sem, *]) HN0.out) ((first | (go_at_call 35; refine (clone35 _ m (bools g k m) _ (RowF.exts HROW.out (by repeat (first | exact Exts.refl _ | apply Exts.andR | apply Exts.alloc | apply Exts.wext | apply Exts.drew | apply Exts.drewN))) (bools_one g k m) (by omega)).mono ?_; rintro e w' ⟨va, na, rfl, ⟨xa, rfl⟩, ra, ta⟩) | (refine step_append_lies _ rfl (.tmp 29) (.tmp 36) 29 rfl w.heap.size 34 i0 _ 1 24 Try.underlying29 hi hz0 hz1 hz2 rfl (by decide) u7 k rows (by simp [Act.eval, Act.put]) (ownsRow_exts HO.out (by repeat (first | exact Exts.refl _ | apply Exts.andR | apply Exts.alloc | apply Exts.wext | apply Exts.drew | apply Exts.drewN))) ⟨wr.heap.size + xa.bs.size, 0, none⟩ 1 1 [.slice va m na] (by simp [Act.eval, Act.put]) rfl (by intro j u hj; match j, hj with | 0, hj => (simp at hj; subst hj; simp [go_sem])) (by intro u hu; simp at hu; subst hu; rfl) (by decide) (by unfold maxLen; omega) (by omega) (by simp; omega) _ rfl ?_; intro g2 cg w1 hown' hgrow hat hlt')))
          go_wp2
          simp only [wext_and, wext_of_drew] at ra ta
          refine ⟨⟨k + 1, rows ++ [.slice va m na], by omega, by go_num, exts_of_grown (W := w) (HX.out.trans (by repeat (first | exact Exts.refl _ | apply Exts.andR | apply Exts.alloc | apply Exts.wext | apply Exts.drew | apply Exts.drewN))) hgrow (fun b hb => (HO.out.lt b hb).1), hown', rows_round (w := (wext wr xa).alloc (.cells #[.slice va m na] 34)) HO.out HIN.out (by repeat (first | exact Exts.refl _ | apply Exts.andR | apply Exts.alloc | apply Exts.wext | apply Exts.drew | apply Exts.drewN)) ((RowF.exts ra (by repeat (first | exact Exts.refl _ | apply Exts.andR | apply Exts.alloc | apply Exts.wext | apply Exts.drew | apply Exts.drewN))).mono fun _ _ => trivial) (TypedBy.exts ta (by repeat (first | exact Exts.refl _ | apply Exts.andR | apply Exts.alloc | apply Exts.wext | apply Exts.drew | apply Exts.drewN))) hgrow, ?_, ?_⟩, ?_⟩
          · rw [hgrow.block _ (by simp; omega) HN0.out, heap_alloc_if, if_pos (by simp; omega), wext_heap_old _ _ _ l0]
            exact HM0.out
          · rw [hgrow.block _ (by simp; omega) HN1.out, heap_alloc_if, if_pos (by simp; omega), wext_heap_old _ _ _ l1]
            exact HM1.out
          · simp [intOf]; omega
        · obtain rfl : k = m := by omega
          obtain ⟨ao, c2, rfl⟩ := owns_shape hown
          have HX := Lib.hid hx
          have HR := Lib.hid (show BRows wr ao k k c2 g from ⟨rows, (RowF.of_owns hown).mono fun _ _ => trivial, fun a ha => let ⟨bo, bc, h1, h2, _⟩ := hin a ha; ⟨bo, bc, h1, h2⟩⟩)
          clear hx hown hin hm0 hm1
          go_wp2
          go_ret3
          exact ⟨ao, k, c2, none, 0, 0, 0, rfl, HX.out, .inr (.inr ⟨by rw [HG.out], rfl, rfl, rfl, by rw [HG.out]; exact HR.out⟩)⟩
end Go.Proofs.Ytbafcfbchbjgfaa
