/- Lemmas that the laws of this seat share, 4 texts in one: With, StepRow, Without, SmallW. No condition of their own. -/
import Derived.Test.YtodgohilfbggjaaM17
import Derived.Deep.RegionLawGrows
/- with of law 39. -/
namespace Go.Proofs.Ytodgohilfbggjaa
open Go.RowKit Go.Maps
set_option linter.unusedSimpArgs false
set_option linter.unusedVariables false
set_option maxRecDepth 100000
set_option maxHeartbeats 4000000
def maxId (B : List Cs) : Nat → Int
  | 0 => 0
  | k + 1 => match B[k]? with | some c => max (maxId B k) (min c.id 1099511627776 + 1) | none => maxId B k
theorem maxId_le (B : List Cs) (k : Nat) : 0 ≤ maxId B k ∧ maxId B k ≤ 1099511627777 := by
  induction k with
  | zero => exact ⟨Int.le_refl _, by show (0 : Int) ≤ _; omega⟩
  | succ k ih =>
    unfold maxId
    split <;> omega
theorem Cases.snoc {S' : Nat → Prop} {w w' : World} {ro : Option Addr} {n rc : Nat} {B : List Cs} {d : Cs} {v : Value} {xs : List Value} (h1 : B.length = n) (h0 : ∀ x ∈ B, I64 x.id) (h2 : xs.length = n * 3) (h3 : ∀ (i : Nat) (d : Cs), B[i]? = some d → ∃ v, xs[i * 3]? = some (.int .i64 d.id) ∧ xs[i * 3 + 1]? = some v ∧ xs[i * 3 + 2]? = some (.bool d.grant) ∧ IntsV w v d.vals) (he : Exts w w') (hv : IntsV w v d.vals) (hid : I64 d.id) (hr : RowF S' 3 w' (.slice ro (n + 1) rc) (n + 1) (xs ++ [.int .i64 d.id, v, .bool d.grant])) : Cases S' w' ro (n + 1) rc (B ++ [d]) := by
  refine ⟨by simp [h1], fun x hx => ?_, _, hr, fun i d' hd => ?_⟩
  · rcases List.mem_append.1 hx with hx | hx
    · exact h0 x hx
    · simp at hx; rw [hx]; exact hid
  · by_cases hi : i < n
    · rw [List.getElem?_append_left (by omega)] at hd
      obtain ⟨v, e1, e2, e3, e4⟩ := h3 i d' hd
      exact ⟨v, by rw [List.getElem?_append_left (by omega)]; exact e1, by rw [List.getElem?_append_left (by omega)]; exact e2, by rw [List.getElem?_append_left (by omega)]; exact e3, e4.exts he⟩
    · rw [List.getElem?_append_right (by omega)] at hd
      have hi2 : i = n := by
        have := (List.getElem?_eq_some_iff.1 hd).1
        simp at this
        omega
      subst hi2
      rw [h1, Nat.sub_self] at hd
      simp at hd
      subst hd
      refine ⟨v, ?_, ?_, ?_, hv.exts he⟩
      · rw [List.getElem?_append_right (by omega), h2, Nat.sub_self]; rfl
      · rw [List.getElem?_append_right (by omega), h2, show i * 3 + 1 - i * 3 = 1 by omega]; rfl
      · rw [List.getElem?_append_right (by omega), h2, show i * 3 + 2 - i * 3 = 2 by omega]; rfl
theorem with26 {S S1 : Nat → Prop} (bo ao : Option Addr) (n c na ca : Nat) (B : List Cs) (al : List Int) (cg : Bool) (w : World) (hb : Cases S w bo n c B) (ha : Ints S1 w ao na ca al) (hn : n ≤ 100) :
    Calls Try.prog 26 #[.slice bo n c, .slice ao na ca, .bool cg] w fun e w' => ∃ ro rc, e = .returned (.slice ro (n + 1) rc) ∧ Exts w w' ∧ Cases (fun b => w.heap.size ≤ b) w' ro (n + 1) rc (B ++ [⟨maxId B n, al, cg⟩]) := by
  obtain ⟨i0, hi, hz0, hz1, hz2⟩ := info_parts info33
  have hm := hb.nle
  have HXS := Lib.hid (show ∃ xs, RowF S 3 w (.slice bo n c) n xs ∧ (∀ u ∈ xs, u.oneCell' = true) ∧ (∀ (i : Nat) (d : Cs), B[i]? = some d → ∃ v, xs[i * 3]? = some (.int .i64 d.id) ∧ xs[i * 3 + 1]? = some v ∧ xs[i * 3 + 2]? = some (.bool d.grant) ∧ IntsV w v d.vals) from let ⟨q1, q2, xs, q3, q4⟩ := hb; ⟨xs, q3, Cases.ones q1 (RowF.len q3) q4, q4⟩)
  have HB1 := Lib.hid hb.1
  have HB := Lib.hid hb
  have HA := Lib.hid ha
  clear hb ha
  go_enter Try.func26, Try.ntmps26
  go_wp2
  go_loopw [7, 8] (fun m i wr => ∃ (k : Nat), k ≤ n ∧ i = .int .i64 k ∧ m = .int .i64 (maxId B k) ∧ Exts w wr) (fun _ i _ => n - (intOf i).toNat)
  case atStart => exact ⟨0, by omega, rfl, rfl, Exts.refl _⟩
  case round =>
    obtain ⟨k, hk, rfl, rfl, hx⟩ := hrel
    have HX := Lib.hid hx
    by_cases hlt : k < n
    · obtain ⟨b, off, id, vs, gr, vo, vc, rfl, lb, hc, e0, e1, e2, hvs, hid⟩ := (HB.out.exts hx).get hlt
      have HE := Lib.hid (show maxId B (k + 1) = max (maxId B k) (min id 1099511627776 + 1) by show (match B[k]? with | some c => _ | none => _) = _; rw [hc])
      obtain ⟨hid1, hid2⟩ := hid
      have hwr : IntKind.i64.wrap (min id 1099511627776 + 1) = min id 1099511627776 + 1 := by rw [IntKind.wrap_i64] <;> omega
      clear hc hvs hx
      go_wp2
      refine ⟨⟨k + 1, by omega, by go_num, by rw [HE.out]; exact congrArg _ (by simp only [Int.max_def, Int.min_def]; split <;> split <;> (try split) <;> omega), HX.out.trans (by repeat (first | exact Exts.refl _ | apply Exts.andR | apply Exts.alloc | apply Exts.wext | apply Exts.drew | apply Exts.drewN))⟩, ?_⟩
      simp [intOf]; omega
    · obtain rfl : k = n := by omega
      obtain ⟨xs, hxs⟩ := HXS.out
      have HR := Lib.hid (RowF.exts hxs.1 hx)
      have HONE := Lib.hid hxs.2.1
      have H3 := Lib.hid hxs.2.2
      have HLX := Lib.hid (RowF.len hxs.1)
      clear hx hxs
      go_wp2_with (first | (at_builtin; refine wpList_append_row rfl (.tmp 24) (.tmp 25) 23 rfl wr.heap.size 33 i0 _ 3 40 Try.underlying23 hi hz0 hz1 hz2 rfl (by decide) _ 0 [] rfl (World.ownsRow_made wr #[] 0 (Nat.le_refl _) (by decide) rfl) bo k c xs rfl (RowF.exts HR.out (by repeat (first | exact Exts.refl _ | apply Exts.andR | apply Exts.alloc | apply Exts.wext | apply Exts.drew | apply Exts.drewN))) HONE.out (by unfold maxLen; omega) (by omega) (by simp) ?_; intro ao1 c1 w1 hown1 hg1; simp only [Nat.zero_add, List.nil_append] at hown1; (have HO1 := Lib.hid hown1); (have HX1 := Lib.hid (exts_of_grown (W := wr) (by repeat (first | exact Exts.refl _ | apply Exts.andR | apply Exts.alloc | apply Exts.wext | apply Exts.drew | apply Exts.drewN)) hg1 (fun b hb => by cases hb; exact Nat.le_refl _))); clear hown1 hg1) | (at_builtin; refine wpList_append_lies _ rfl (.tmp 26) (.tmp 31) 23 rfl wr.heap.size 33 i0 _ 3 40 Try.underlying23 hi hz0 hz1 hz2 rfl (by decide) (.slice ao1 k c1) k xs rfl (ownsRow_exts HO1.out (by repeat (first | exact Exts.refl _ | apply Exts.andR | apply Exts.alloc | apply Exts.wext | apply Exts.drew | apply Exts.drewN))) ⟨_, 0, none⟩ 1 1 [.int .i64 (maxId B k), .slice ao na ca, .bool cg] rfl rfl (by intro j u hj; match j, hj with | 0, hj => (simp at hj; subst hj; simp [go_sem]) | 1, hj => (simp at hj; subst hj; simp [go_sem]) | 2, hj => (simp at hj; subst hj; simp [go_sem])) (three_one _ _ _ rfl) (by decide) (by unfold maxLen; omega) (by omega) (by have := HX1.out.below.size; simp; omega) _ rfl ?_; intro g2 cg2 w9 hown' hgrow hat hlt'))
      go_ret
      have hE : Exts w w9 := HX.out.trans (exts_of_grown (W := wr) (HX1.out.trans (by repeat (first | exact Exts.refl _ | apply Exts.andR | apply Exts.alloc | apply Exts.wext | apply Exts.drew | apply Exts.drewN))) hgrow (fun b hb => owns_base HO1.out hb))
      refine ⟨some ⟨g2, 0, none⟩, cg2, rfl, hE, ?_⟩
      refine Cases.snoc HB1.out HB.out.2.1 HLX.out H3.out hE ?_ ?_ ((RowF.of_owns hown').up HX.out.below.size)
      · have := ints_len HA.out
        subst this
        exact ⟨ao, ca, rfl, RowF.mono HA.out fun _ _ => trivial⟩
      · have := maxId_le B k
        constructor <;> (simp only []; omega)
end Go.Proofs.Ytodgohilfbggjaa

/- append of any slice to a slice of the call's own, in a region that draws. -/
namespace Go.Proofs.Ytodgohilfbggjaa
open Go.RowKit
set_option linter.unusedSimpArgs false
set_option linter.unusedVariables false
theorem step_append_row {P : Program} {ops : Array Oper} {o : Oper} {a : Act} {w : World} {K : Act → World → Prop} {Q : Exit → Act → World → Prop} {E : Prop}
    (hg : o.guard = none) (s x : Operand) (t : TypeId) (hop : o.op = Op.call { callee := Callee.builtin Builtin.append, args := #[s, x], argTypes := #[t, t] })
    (base : Nat) (e : TypeId) (i : TypeInfo) (z : Value) (size bytes : Nat) (ht : P.underlying t = some (.slice e)) (hi : P.info? e = some i) (hz : i.zero = some z)
    (hsize : i.size = size) (hby : i.bytes = bytes) (hzs : z.cells.size = size) (hsz : 0 < size)
    (v : Value) (n : Nat) (xs : List Value) (hs : a.eval s = v) (hown : w.ownsRow base e size v n xs)
    (ad : Addr) (m c : Nat) (news : List Value) (hx : a.eval x = .slice (some ad) m c) {S : Nat → Prop} (hrow : RowF S size w (.slice (some ad) m c) m news) (h1 : ∀ u ∈ news, u.oneCell' = true)
    (h63 : n + m ≤ maxLen) (hbytes : (n + m) * bytes ≤ 140737488355328) (hbase : base ≤ w.heap.size)
    (hK : ∀ ao' c' w', w'.ownsRow base e size (.slice ao' (n + m) c') (n + m) (xs ++ news) → w.grownBy w' v.ownBlock → K (a.put o.dst (.slice ao' (n + m) c')) w') :
    if Region.wanted o (yielded ops a.tmps) = true then Oper.wp P o a w K Q else E := by
  obtain ⟨hl, ao2, cap2, hv, h2, h3, h4, h5⟩ := hrow
  simp only [Value.slice.injEq, true_and] at hv
  obtain ⟨rfl, rfl⟩ := hv
  have hw : Region.wanted o (yielded ops a.tmps) = true := by simp [Region.wanted, hg]
  rw [if_pos hw]
  obtain ⟨v', w', hrun, r1, r2, _⟩ := run_append_own (P := P) w base t o.type e i z size bytes ht hi hz hsize hby hzs hsz v n xs hown ad m c news hl (fun j u hj => by
    have hm : 0 < m := by
      have := (List.getElem?_eq_some_iff.1 hj).1
      rw [hl] at this
      exact Nat.pos_of_ne_zero (fun h0 => by subst h0; simp at this)
    obtain ⟨b, off, hab, _, _, hc⟩ := h5 hm
    cases hab
    rw [Addr.add_lit]
    exact hc j u hj) h1 h63 hbytes hbase
  obtain ⟨ao', c', rfl⟩ := owns_shape r1
  unfold Oper.wp
  simp [execOp, hop, resolve, invoke, builtin, hs, hx, hrun, Result.andThen]
  exact hK ao' c' w' r1 r2
end Go.Proofs.Ytodgohilfbggjaa

/- without of law 39. -/
namespace Go.Proofs.Ytodgohilfbggjaa
open Go.RowKit Go.Maps
set_option linter.unusedSimpArgs false
set_option linter.unusedVariables false
set_option maxRecDepth 100000
set_option maxHeartbeats 4000000
theorem without27 {S : Nat → Prop} (bo : Option Addr) (n c i : Nat) (B : List Cs) (w : World) (hb : Cases S w bo n c B) (hi' : i < n) (hn : n ≤ 100) :
    Calls Try.prog 27 #[.slice bo n c, .int .i64 i] w fun e w' => ∃ ro rc, e = .returned (.slice ro (n - 1) rc) ∧ Exts w w' ∧ Cases (fun b => w.heap.size ≤ b) w' ro (n - 1) rc (B.eraseIdx i) := by
  obtain ⟨i0, hi, hz0, hz1, hz2⟩ := info_parts info33
  obtain ⟨q1, q2, xs, q3, q4⟩ := id hb
  obtain ⟨hcc1, hcc2⟩ := RowF.caps q3
  unfold maxLen at hcc2
  have HONE := Lib.hid (Cases.ones q1 (RowF.len q3) q4)
  have HXS := Lib.hid q3
  have H3 := Lib.hid q4
  have HB := Lib.hid hb
  obtain ⟨b, off, id, vs, gr, vo, vc, rfl, lb, hc, e0, e1, e2, hvs, hid⟩ := hb.get hi'
  have hwr : IntKind.i64.wrap ((i : Int) + 1) = (i : Int) + 1 := by rw [IntKind.wrap_i64]; omega
  have hp0 : (0 : Int) ≤ (i : Int) + 1 := by omega
  have hp1 : (i : Int) + 1 ≤ (n : Int) := by omega
  have hp2 : ((i : Int) + 1).toNat = i + 1 := by omega
  have hp3 : (0 : Int) ≤ (i : Int) := by omega
  have hp4 : (i : Int) ≤ (c : Int) := by omega
  clear hb q1 q2 q3 q4 hc e0 e1 e2 hvs hid
  have HP1 := Lib.hid (RowF.part HXS.out 0 i c (by omega) (by omega) (by unfold maxLen; omega) (some ⟨b, off, none⟩) (fun h => by cases h) (fun b' o' h _ => by cases h; simp))
  have HD1 := Lib.hid (show ∀ u ∈ (xs.drop (0 * 3)).take (i * 3), u.oneCell' = true from fun u hu => HONE.out u (List.mem_of_mem_drop (List.mem_of_mem_take hu)))
  have HD2 := Lib.hid (show ∀ u ∈ (xs.drop ((i + 1) * 3)).take ((n - (i + 1)) * 3), u.oneCell' = true from fun u hu => HONE.out u (List.mem_of_mem_drop (List.mem_of_mem_take hu)))
  obtain ⟨of2, hof⟩ : ∃ x, (if c = i + 1 then off else off + (i + 1) * 3) = x := ⟨_, rfl⟩
  have HP2 := Lib.hid (RowF.part HXS.out (i + 1) (n - (i + 1)) (c - (i + 1)) (by omega) (by omega) (by unfold maxLen; omega) (some ⟨b, of2, none⟩) (fun h => by cases h) (fun b' o' h hm => by cases h; rw [← hof, if_neg (by omega)]))
  by_cases hce : c = i + 1
  · obtain rfl : n = i + 1 := by omega
    subst hce
    have hce' : ((i + 1 : Nat) : Int) = (i : Int) + 1 := by omega
    have hce2 : (i : Int) ≤ (i : Int) + 1 := by omega
    have hce3 : ¬ i + 1 = i := by omega
    have HZ := Lib.hid (show ∀ w', w.heap.size ≤ w'.heap.size → RowF (fun _ => True) 3 w' (.slice (some ⟨b, off, none⟩) 0 0) 0 [] from fun w' _ => ⟨rfl, _, _, rfl, Nat.le_refl _, Nat.zero_le _, (fun h => by cases h), (fun h => by omega)⟩)
    clear hof
    go_enter Try.func27, Try.ntmps27
    go_wp2
    go_region_law (first | (refine step_append_row rfl (.tmp 5) (.tmp 8) 23 rfl w.heap.size 33 i0 _ 3 40 Try.underlying23 hi hz0 hz1 hz2 rfl (by decide) (.slice (some ⟨w.heap.size, 0, none⟩) 0 0) 0 [] (by simp [Act.eval, Act.put]) (World.ownsRow_made w.drew #[] 0 (Nat.le_refl _) (by decide) rfl) ⟨b, off, none⟩ i (i + 1) _ (by simp [Act.eval, Act.put]) (RowF.exts HP1.out (by repeat (first | exact Exts.refl _ | apply Exts.andR | apply Exts.alloc | apply Exts.wext | apply Exts.drew | apply Exts.drewN))) HD1.out (by unfold maxLen; omega) (by omega) (by simp) ?_; intro ao1 c1' w1 hown1 hg1; simp only [Nat.zero_add, List.nil_append] at hown1; (have HX1 := Lib.hid (exts_of_grown (W := w) (by repeat (first | exact Exts.refl _ | apply Exts.andR | apply Exts.alloc | apply Exts.wext | apply Exts.drew | apply Exts.drewN)) hg1 (fun b hb => by cases hb; exact Nat.le_refl _))); (have HO1 := Lib.hid hown1); clear hown1 hg1) | (refine step_append_row rfl (.tmp 9) (.tmp 13) 23 rfl w.heap.size 33 i0 _ 3 40 Try.underlying23 hi hz0 hz1 hz2 rfl (by decide) (.slice ao1 i c1') i _ (by simp [Act.eval, Act.put]) HO1.out ⟨b, off, none⟩ 0 0 [] (by simp [Act.eval, Act.put]) (HZ.out _ HX1.out.below.size) (fun u hu => nomatch hu) (by unfold maxLen; omega) (by omega) HX1.out.below.size ?_; intro ao2 c2' w2 hown2 hg2))
    all_goals
      simp only [Nat.add_zero, List.append_nil] at hown2 ⊢
      have hE : Exts w w2 := exts_of_grown (W := w) HX1.out hg2 (fun b hb => owns_base HO1.out hb)
      go_wp2
      go_ret
      refine ⟨ao2, c2', rfl, hE, Cases.less HB.out.1 HB.out.2.1 (RowF.len HXS.out) H3.out hi' hE ?_⟩
      have h := RowF.of_owns hown2
      rw [List.drop_eq_nil_of_le (by have := RowF.len HXS.out; omega), List.append_nil]
      exact h
  · have hce' : ¬ (c : Int) = (i : Int) + 1 := by omega
    obtain rfl : off + (i + 1) * 3 = of2 := by rw [← hof, if_neg hce]
    clear hof
    go_enter Try.func27, Try.ntmps27
    go_wp2
    go_region_law (first | (refine step_append_row rfl (.tmp 5) (.tmp 8) 23 rfl w.heap.size 33 i0 _ 3 40 Try.underlying23 hi hz0 hz1 hz2 rfl (by decide) (.slice (some ⟨w.heap.size, 0, none⟩) 0 0) 0 [] (by simp [Act.eval, Act.put]) (World.ownsRow_made w.drew #[] 0 (Nat.le_refl _) (by decide) rfl) ⟨b, off, none⟩ i c _ (by simp [Act.eval, Act.put]) (RowF.exts HP1.out (by repeat (first | exact Exts.refl _ | apply Exts.andR | apply Exts.alloc | apply Exts.wext | apply Exts.drew | apply Exts.drewN))) HD1.out (by unfold maxLen; omega) (by omega) (by simp) ?_; intro ao1 c1' w1 hown1 hg1; simp only [Nat.zero_add, List.nil_append] at hown1; (have HX1 := Lib.hid (exts_of_grown (W := w) (by repeat (first | exact Exts.refl _ | apply Exts.andR | apply Exts.alloc | apply Exts.wext | apply Exts.drew | apply Exts.drewN)) hg1 (fun b hb => by cases hb; exact Nat.le_refl _))); (have HO1 := Lib.hid hown1); clear hown1 hg1) | (refine step_append_row rfl (.tmp 9) (.tmp 13) 23 rfl w.heap.size 33 i0 _ 3 40 Try.underlying23 hi hz0 hz1 hz2 rfl (by decide) (.slice ao1 i c1') i _ (by simp [Act.eval, Act.put]) HO1.out ⟨b, off + (i + 1) * 3, none⟩ (n - (i + 1)) (c - (i + 1)) _ (by simp [Act.eval, Act.put]) (RowF.exts HP2.out HX1.out) HD2.out (by unfold maxLen; omega) (by omega) HX1.out.below.size ?_; intro ao2 c2' w2 hown2 hg2))
    all_goals
      rw [show i + (n - (i + 1)) = n - 1 by omega] at hown2 ⊢
      have hE : Exts w w2 := exts_of_grown (W := w) HX1.out hg2 (fun b hb => owns_base HO1.out hb)
      go_wp2
      go_ret
      refine ⟨ao2, c2', rfl, hE, Cases.less HB.out.1 HB.out.2.1 (RowF.len HXS.out) H3.out hi' hE ?_⟩
      have h := RowF.of_owns hown2
      rw [Nat.zero_mul, List.drop_zero, List.take_of_length_le (l := xs.drop ((i + 1) * 3)) (by have := RowF.len HXS.out; rw [List.length_drop]; omega)] at h
      exact h
end Go.Proofs.Ytodgohilfbggjaa

/- Literals of the laws of chapter 39 as they lie in memory, and the contracts with given results. -/
namespace Go.Proofs.Ytodgohilfbggjaa
open Go.RowKit
set_option linter.unusedSimpArgs false
set_option linter.unusedVariables false
set_option maxRecDepth 100000
theorem alloc_at (w : World) (o : Obj) (n : Nat) (h : n = w.heap.size) : (w.alloc o).heap[n]? = some o := by
  subst h
  rw [heap_alloc_if, if_neg (by omega), if_pos rfl]
theorem alloc_below (w : World) (o : Obj) (n : Nat) (x : Option Obj) (h : n < w.heap.size) (hx : w.heap[n]? = x) : (w.alloc o).heap[n]? = x := by
  rw [heap_alloc_if, if_pos h, hx]
theorem rowF_lit {w : World} {b k n : Nat} {xs : List Value} {t : TypeId} {fr : Nat × Nat} (h : w.heap[b]? = some (.cells xs.toArray t fr)) (hn : xs.length = n * k) (hm : n ≤ 1000) : RowF (fun _ => True) k w (.slice (some ⟨b, 0, none⟩) n n) n xs := by
  refine ⟨hn, some ⟨b, 0, none⟩, n, rfl, Nat.le_refl _, by unfold maxLen; omega, (fun h => by cases h), fun _ => ⟨b, 0, rfl, trivial, (Array.getElem?_eq_some_iff.1 h).1, fun j v hj => ?_⟩⟩
  rw [cell_of_row w b _ _ t fr h]
  simpa using hj
theorem ints_lit {w : World} {b n : Nat} {l : List Int} {t : TypeId} {fr : Nat × Nat} (h : w.heap[b]? = some (.cells (intsC l).toArray t fr)) (hn : l.length = n) (hm : n ≤ 1000) : Ints (fun _ => True) w (some ⟨b, 0, none⟩) n n l := rowF_lit h (by simp [hn]) hm
theorem intsV_lit {w : World} {b n : Nat} {l : List Int} {t : TypeId} {fr : Nat × Nat} (h : w.heap[b]? = some (.cells (intsC l).toArray t fr)) (hn : l.length = n) (hm : n ≤ 1000) : IntsV w (.slice (some ⟨b, 0, none⟩) n n) l := by
  subst hn
  exact ⟨_, _, rfl, ints_lit h rfl hm⟩
theorem typed_lit {w : World} {b n k : Nat} {c : Array Value} {t : TypeId} (h : w.heap[b]? = some (.cells c t (0, 0))) : TypedBy t w (.slice (some ⟨b, 0, none⟩) n k) := fun b' hb => by
  cases hb
  exact ⟨_, h⟩
theorem dims_two {w : World} {b n c : Nat} {t : TypeId} {fr : Nat × Nat} {po : Option Addr} {ps : List Pr} {V : Int} (h : w.heap[b]? = some (.cells #[.int .i64 V, .slice po n c, .int .i64 V, .slice po n c] t fr)) (hp : Prs (fun _ => True) w po n c ps) : Dims (fun _ => True) w (some ⟨b, 0, none⟩) 2 2 [(V, ps), (V, ps)] := by
  obtain rfl : ps.length = n := by
    have := hp.len
    omega
  refine ⟨rfl, [.int .i64 V, .slice po ps.length c, .int .i64 V, .slice po ps.length c], rowF_lit h rfl (by decide), fun i d hd => ?_⟩
  match i, hd with
  | 0, hd => cases hd; exact ⟨_, rfl, rfl, po, c, rfl, hp⟩
  | 1, hd => cases hd; exact ⟨_, rfl, rfl, po, c, rfl, hp⟩
theorem cases_two {w : World} {b : Nat} {t : TypeId} {fr : Nat × Nat} {v0 v1 : Value} {c0 c1 : Cs} (h : w.heap[b]? = some (.cells #[.int .i64 c0.id, v0, .bool c0.grant, .int .i64 c1.id, v1, .bool c1.grant] t fr)) (h0 : IntsV w v0 c0.vals) (h1 : IntsV w v1 c1.vals) (i0 : I64 c0.id) (i1 : I64 c1.id) : Cases (fun _ => True) w (some ⟨b, 0, none⟩) 2 2 [c0, c1] := by
  refine ⟨rfl, fun x hx => ?_, _, rowF_lit (n := 2) (k := 3) (xs := [.int .i64 c0.id, v0, .bool c0.grant, .int .i64 c1.id, v1, .bool c1.grant]) h rfl (by decide), fun i d hd => ?_⟩
  · simp at hx
    rcases hx with rfl | rfl
    · exact i0
    · exact i1
  · match i, hd with
    | 0, hd => cases hd; exact ⟨_, rfl, rfl, rfl, h0⟩
    | 1, hd => cases hd; exact ⟨_, rfl, rfl, rfl, h1⟩
theorem cases_one {w : World} {b : Nat} {t : TypeId} {fr : Nat × Nat} {v0 : Value} {c0 : Cs} (h : w.heap[b]? = some (.cells #[.int .i64 c0.id, v0, .bool c0.grant] t fr)) (h0 : IntsV w v0 c0.vals) (i0 : I64 c0.id) : Cases (fun _ => True) w (some ⟨b, 0, none⟩) 1 1 [c0] := by
  refine ⟨rfl, fun x hx => ?_, _, rowF_lit (n := 1) (k := 3) (xs := [.int .i64 c0.id, v0, .bool c0.grant]) h rfl (by decide), fun i d hd => ?_⟩
  · simp at hx
    subst hx
    exact i0
  · match i, hd with
    | 0, hd => cases hd; exact ⟨_, rfl, rfl, rfl, h0⟩
theorem lists_one {w : World} {b : Nat} {t : TypeId} {fr : Nat × Nat} {v0 : Value} {l : List Int} (h : w.heap[b]? = some (.cells #[v0] t fr)) (h0 : IntsV w v0 l) (ht : TypedBy 3 w v0) : Lists w (some ⟨b, 0, none⟩) 1 1 [l] :=
  ⟨[v0], rowF_lit (n := 1) (k := 1) (xs := [v0]) h rfl (by decide), rfl, fun i d hd => by
    match i, hd with
    | 0, hd => cases hd; exact ⟨_, rfl, h0, ht⟩⟩
theorem forced11_R {S S1 S2 : Nat → Prop} (lo bo ao : Option Addr) (n1 c1 n c na ca : Nat) (D : List Dm) (B : List Cs) (al : List Int) (wh e : Int) (l : List Int) (m : Nat) (w : World) (hd : Dims S w lo n1 c1 D) (hb : Cases S1 w bo n c B) (ha : Ints S2 w ao na ca al) (hn : n ≤ 2000) (hR : forD D B al = (wh, l, e)) (hm : l.length = m) :
    Calls Try.prog 11 #[.slice lo n1 c1, .slice bo n c, .slice ao na ca] w fun e' w' => ∃ ro rc, e' = .returned (.tuple #[.int .i64 wh, .slice ro m rc, .int .i64 e]) ∧ Exts w w' ∧ Ints (fun b => w.heap.size ≤ b) w' ro m rc l := by
  have := forced11 lo bo ao n1 c1 n c na ca D B al w hd hb ha hn
  rw [hR] at this
  subst hm
  exact this
theorem forced12_R {S S1 S2 : Nat → Prop} (lo bo ao : Option Addr) (n1 c1 n c na ca : Nat) (D : List Dm) (B : List Cs) (al : List Int) (wh e : Int) (l : List Int) (m : Nat) (w : World) (hd : Dims S w lo n1 c1 D) (hb : Cases S1 w bo n c B) (ha : Ints S2 w ao na ca al) (hn : n ≤ 2000) (hR : forD D B al = (wh, l, e)) (hm : l.length = m) :
    Calls Try.prog 12 #[.slice lo n1 c1, .slice bo n c, .slice ao na ca] w fun e' w' => ∃ ro rc, e' = .returned (.tuple #[.int .i64 wh, .slice ro m rc, .int .i64 e]) ∧ Exts w w' ∧ Ints (fun b => w.heap.size ≤ b) w' ro m rc l := by
  have := refForced12 lo bo ao n1 c1 n c na ca D B al w hd hb ha hn
  rw [hR] at this
  subst hm
  exact this
theorem add15_R {S S1 S2 : Nat → Prop} (lo bo ao : Option Addr) (n1 c1 n c na ca : Nat) (D : List Dm) (B : List Cs) (al : List Int) (cid : Int) (cg : Bool) (e : Int) (L : List Cs) (m : Nat) (w : World) (hd : Dims S w lo n1 c1 D) (hb : Cases S1 w bo n c B) (ha : Ints S2 w ao na ca al) (hn : n ≤ 100) (hcid : I64 cid) (hR : addD D B ⟨cid, al, cg⟩ = (L, e)) (hm : L.length = m) :
    Calls Try.prog 15 #[.slice lo n1 c1, .slice bo n c, .agg #[.int .i64 cid, .slice ao na ca, .bool cg]] w fun e' w' => ∃ ro rc, e' = .returned (.tuple #[.slice ro m rc, .int .i64 e]) ∧ Exts w w' ∧ Cases (fun b => w.heap.size ≤ b) w' ro m rc L := by
  have := add15 lo bo ao n1 c1 n c na ca D B cid al cg w hd hb ha hn hcid
  rw [hR] at this
  subst hm
  exact this
theorem dist17_R {S S1 S2 : Nat → Prop} (lo bo ao : Option Addr) (n1 c1 n c na ca : Nat) (D : List Dm) (B : List Cs) (al : List Int) (s : Bool) (e : Int) (L : List (List Int)) (m : Nat) (w : World) (hd : Dims S w lo n1 c1 D) (hb : Cases S1 w bo n c B) (ha : Ints S2 w ao na ca al) (hn : n ≤ 2000) (hR : distD D B al s = (L, e)) (hm : L.length = m) :
    Calls Try.prog 17 #[.slice lo n1 c1, .slice bo n c, .slice ao na ca, .bool s] w fun e' w' => ∃ ro rc, e' = .returned (.tuple #[.slice ro m rc, .int .i64 e]) ∧ Exts w w' ∧ Lists w' ro m rc L := by
  have := dist17 lo bo ao n1 c1 n c na ca D B al s w hd hb ha hn
  rw [hR] at this
  subst hm
  exact this
theorem dist18_R {S S1 S2 : Nat → Prop} (lo bo ao : Option Addr) (n1 c1 n c na ca : Nat) (D : List Dm) (B : List Cs) (al : List Int) (s : Bool) (e : Int) (L : List (List Int)) (m : Nat) (w : World) (hd : Dims S w lo n1 c1 D) (hb : Cases S1 w bo n c B) (ha : Ints S2 w ao na ca al) (hn : n ≤ 2000) (hR : distD D B al s = (L, e)) (hm : L.length = m) :
    Calls Try.prog 18 #[.slice lo n1 c1, .slice bo n c, .slice ao na ca, .bool s] w fun e' w' => ∃ ro rc, e' = .returned (.tuple #[.slice ro m rc, .int .i64 e]) ∧ Exts w w' ∧ Lists w' ro m rc L := by
  have := dist18 lo bo ao n1 c1 n c na ca D B al s w hd hb ha hn
  rw [hR] at this
  subst hm
  exact this
theorem cons13_R {S S1 : Nat → Prop} (lo bo : Option Addr) (n1 c1 n c : Nat) (D : List Dm) (B : List Cs) (x y : Int) (is : Bool) (w : World) (hd : Dims S w lo n1 c1 D) (hb : Cases S1 w bo n c B) (hn : n ≤ 2000) (hR : consD D B = (x, y, is)) :
    Calls Try.prog 13 #[.slice lo n1 c1, .slice bo n c] w fun e' w' => e' = .returned (.tuple #[.int .i64 x, .int .i64 y, .bool is]) ∧ Exts w w' := by
  have := consistent13 lo bo n1 c1 n c D B w hd hb hn
  rw [hR] at this
  exact this
theorem cons14_R {S S1 : Nat → Prop} (lo bo : Option Addr) (n1 c1 n c : Nat) (D : List Dm) (B : List Cs) (x y : Int) (is : Bool) (w : World) (hd : Dims S w lo n1 c1 D) (hb : Cases S1 w bo n c B) (hn : n ≤ 2000) (hR : consD D B = (x, y, is)) :
    Calls Try.prog 14 #[.slice lo n1 c1, .slice bo n c] w fun e' w' => e' = .returned (.tuple #[.int .i64 x, .int .i64 y, .bool is]) ∧ Exts w w' := by
  have := refCons14 lo bo n1 c1 n c D B w hd hb hn
  rw [hR] at this
  exact this
theorem over19_R {S S1 : Nat → Prop} (lo bo : Option Addr) (n1 c1 n c : Nat) (D : List Dm) (B : List Cs) (at' : Int) (e : Int) (l : List Int) (m : Nat) (w : World) (hd : Dims S w lo n1 c1 D) (hb : Cases S1 w bo n c B) (hn : n ≤ 100) (hR : ovrD D B at' = (l, e)) (hm : l.length = m) :
    Calls Try.prog 19 #[.slice lo n1 c1, .slice bo n c, .int .i64 at'] w fun e' w' => ∃ ro rc, e' = .returned (.tuple #[.slice ro m rc, .int .i64 e]) ∧ Exts w w' ∧ Ints (fun b => w.heap.size ≤ b) w' ro m rc l := by
  have := overrule19 lo bo n1 c1 n c D B at' w hd hb hn
  rw [hR] at this
  subst hm
  exact this
theorem over20_R {S S1 : Nat → Prop} (lo bo : Option Addr) (n1 c1 n c : Nat) (D : List Dm) (B : List Cs) (at' : Int) (e : Int) (l : List Int) (m : Nat) (w : World) (hd : Dims S w lo n1 c1 D) (hb : Cases S1 w bo n c B) (hn : n ≤ 100) (hR : ovrD D B at' = (l, e)) (hm : l.length = m) :
    Calls Try.prog 20 #[.slice lo n1 c1, .slice bo n c, .int .i64 at'] w fun e' w' => ∃ ro rc, e' = .returned (.tuple #[.slice ro m rc, .int .i64 e]) ∧ Exts w w' ∧ Ints (fun b => w.heap.size ≤ b) w' ro m rc l := by
  have := refOverrule20 lo bo n1 c1 n c D B at' w hd hb hn
  rw [hR] at this
  subst hm
  exact this

end Go.Proofs.Ytodgohilfbggjaa
