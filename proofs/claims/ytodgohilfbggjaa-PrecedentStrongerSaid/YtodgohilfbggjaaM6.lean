/- Lemmas that the laws of this seat share, 4 texts in one: AppEmpty, Typed, Clo, Frame. No condition of their own. -/
import Derived.Test.YtodgohilfbggjaaM2
import Derived.Test.YtodgohilfbggjaaM1
import Derived.Deep.RegionLawGrows
import Derived.Test.YtodgohilfbggjaaM5
import Derived.Deep.RegionHeld3
import Derived.Deep.AppendLies
import Derived.ProofKit
import Derived.OpenShut
import Derived.ShutString
/- append of a slice, nil or not, to an empty one without spare room: a copy. A step of a region that draws its order. -/
namespace Go.Proofs.Ytodgohilfbggjaa
open Go.RowKit
set_option linter.unusedSimpArgs false
set_option linter.unusedVariables false

theorem run_append_zero {P : Program} {w : World} (t ty e : TypeId) (i : TypeInfo) (ht : P.underlying t = some (.slice e)) (hi : P.info? e = some i) (b : Addr) (ao : Option Addr) (c : Nat) :
    (Builtin.append_ #[t, t] ty #[.slice (some b) 0 0, .slice ao 0 c]).run P w = .ok (.slice (some b) 0 0) w := by
  cases ao <;> simp [Builtin.append_, run_underlying ht, sizeOf, typeInfo, hi, Builtin.lenOf, Builtin.firstCells, storeCells, loadCells, loadCellsFrom]

theorem step_append_empty {P : Program} {ops : Array Oper} {o : Oper} {a : Act} {w : World} {K : Act → World → Prop} {Q : Exit → Act → World → Prop} {E : Prop}
    (hg : o.guard = none) (s x : Operand) (t : TypeId) (hop : o.op = Op.call { callee := Callee.builtin Builtin.append, args := #[s, x], argTypes := #[t, t] })
    (e : TypeId) (i : TypeInfo) (z : Value) (size bytes : Nat) (h1 : P.underlying t = some (.slice e)) (h2 : P.info? e = some i) (h3 : i.zero = some z) (h4 : i.size = size) (h5 : i.bytes = bytes) (h6 : z.cells.size = size) (h7 : 0 < size)
    (b : Addr) (hs : a.eval s = .slice (some b) 0 0)
    (ao : Option Addr) (m c : Nat) (news : List Value) (hx : a.eval x = .slice ao m c) {S : Nat → Prop} (hrow : RowF S size w (.slice ao m c) m news) (h1c : ∀ u ∈ news, u.oneCell' = true)
    (b1 : m ≤ maxLen) (b2 : m * bytes ≤ 140737488355328)
    (hK : ∀ ao' c' w', Exts w w' → RowF (fun b => w.heap.size ≤ b) size w' (.slice ao' m c') m news → (m = 0 ∨ ∀ b, (Value.slice ao' m c').ownBlock = some b → ∃ cur, w'.heap[b]? = some (.cells cur e (0, 0))) → K (a.put o.dst (.slice ao' m c')) w') :
    if Region.wanted o (yielded ops a.tmps) = true then Oper.wp P o a w K Q else E := by
  obtain ⟨hl, ao2, cap2, hv, q2, q3, q4, q5⟩ := hrow
  simp only [Value.slice.injEq, true_and] at hv
  obtain ⟨rfl, rfl⟩ := hv
  by_cases hm : m = 0
  · subst hm
    obtain rfl : news = [] := List.eq_nil_of_length_eq_zero (by simpa using hl)
    have hw : Region.wanted o (yielded ops a.tmps) = true := by simp [Region.wanted, hg]
    rw [if_pos hw]
    have hrun := run_append_zero (P := P) (w := w) t o.type e i h1 h2 b ao c
    unfold Oper.wp
    simp [execOp, hop, resolve, invoke, builtin, hs, hx, hrun, Result.andThen]
    exact hK _ _ _ (Exts.refl w) ⟨by simp, some b, 0, rfl, Nat.le_refl _, Nat.zero_le _, (fun h => by cases h), fun h => by omega⟩ (.inl rfl)
  · obtain ⟨bb, off, rfl, _, _, hc⟩ := q5 (by omega)
    refine step_append_grows hg s x t hop e i z size bytes h1 h2 h3 h4 h5 h6 h7 (some b) 0 0 [] hs (fun h => by cases h) (by simp) (fun b _ j u hj => by simp at hj) ⟨bb, off, none⟩ m c news hx hl (fun j u hj => by rw [Addr.add_lit]; exact hc j u hj) h1c (by omega) (by omega) (by rw [Nat.zero_add]; exact b2) ?_
    intro v' w' ho hgr
    simp only [Nat.zero_add, List.nil_append] at ho
    obtain ⟨ao', c', rfl⟩ := owns_shape ho
    refine hK ao' c' w' (exts_of_grown (Exts.refl w) hgr (fun b hb => by cases hb)) (RowF.of_owns ho) (.inr fun b hb => ?_)
    obtain ⟨_, ⟨hv, _⟩ | ⟨g, cap, cur, hv, _, hgg, _⟩⟩ := ho
    · rw [hv] at hb; cases hb
    · rw [hv] at hb
      cases hb
      exact ⟨cur, hgg⟩
end Go.Proofs.Ytodgohilfbggjaa

/- The type of the block that a slice begins in. -/
namespace Go.Proofs.Ytodgohilfbggjaa
open Go.RowKit
set_option linter.unusedSimpArgs false
set_option linter.unusedVariables false

/-- The block that a slice begins in is a row of elements of type e. -/
def TypedBy (e : TypeId) (w : World) (v : Value) : Prop := ∀ b, v.ownBlock = some b → ∃ c, w.heap[b]? = some (.cells c e (0, 0))
theorem TypedBy.of_owns {base k n : Nat} {e : TypeId} {w : World} {v : Value} {xs : List Value} (h : w.ownsRow base e k v n xs) : TypedBy e w v := by
  intro b hb
  obtain ⟨_, ⟨rfl, _⟩ | ⟨g, cap, cur, rfl, _, hg, _⟩⟩ := h
  · cases hb
  · cases hb
    exact ⟨cur, hg⟩
theorem TypedBy.exts {e : TypeId} {w w' : World} {v : Value} (h : TypedBy e w v) (he : Exts w w') : TypedBy e w' v := fun b hb => by
  obtain ⟨c, hc⟩ := h b hb
  exact ⟨c, (he.below.block b (Array.getElem?_eq_some_iff.1 hc).1).trans hc⟩
theorem TypedBy.ne {e e' : TypeId} {w : World} {v v' : Value} (h : TypedBy e w v) (h' : TypedBy e' w v') (hne : e ≠ e') : v.ownBlock = none ∨ v.ownBlock ≠ v'.ownBlock := by
  cases hv : v.ownBlock with
  | none => exact .inl rfl
  | some b =>
    right
    intro heq
    obtain ⟨c, hc⟩ := h b hv
    obtain ⟨c', hc'⟩ := h' b heq.symm
    rw [hc] at hc'
    simp at hc'
    exact hne hc'.2
theorem TypedBy.grown {e : TypeId} {w w' : World} {v : Value} {row : Option Nat} (h : TypedBy e w v) (hg : w.grownBy w' row) (hne : v.ownBlock = none ∨ v.ownBlock ≠ row) : TypedBy e w' v := fun b hb => by
  obtain ⟨c, hc⟩ := h b hb
  refine ⟨c, (hg.block b (Array.getElem?_eq_some_iff.1 hc).1 ?_).trans hc⟩
  rcases hne with h0 | h0
  · rw [h0] at hb; cases hb
  · rw [← hb]; exact h0

end Go.Proofs.Ytodgohilfbggjaa

/- Closure of package factor. -/
namespace Go.Proofs.Ytodgohilfbggjaa
open Go.RowKit
set_option linter.unusedSimpArgs false
set_option linter.unusedVariables false

theorem info4 : (Try.prog.info? 4).map (fun i => (i.zero, i.size, i.bytes)) = some (some (.bool false), 1, 1) := by kernel_rfl
theorem info34 : (Try.prog.info? 91).map (fun i => (i.zero, i.size, i.bytes)) = some (some (.slice none 0 0), 1, 24) := by kernel_rfl
set_option maxHeartbeats 400000 in
theorem clone35 (v : Value) (n : Nat) (xs : List Value) (w : World) {S : Nat → Prop} (h : RowF S 1 w v n xs) (h1 : ∀ u ∈ xs, u.oneCell' = true) (hb : n * 1 ≤ 140737488355328) :
    Calls Try.prog 68 #[v] w fun e w' => ∃ ao' c', e = .returned (.slice ao' n c') ∧ Exts w w' ∧ RowF (fun b => w.heap.size ≤ b) 1 w' (.slice ao' n c') n xs ∧ TypedBy 4 w' (.slice ao' n c') := by
  obtain ⟨i0, hi, hz0, hz1, hz2⟩ := info_parts info4
  have hnle := h.nle
  have hlen := h.len
  obtain ⟨_, ao, cap, rfl, h2, h3, h4, h5⟩ := id h
  cases ao with
  | none =>
    have hc := h4 rfl
    subst hc
    obtain rfl : n = 0 := by omega
    obtain rfl : xs = [] := List.eq_nil_of_length_eq_zero (by simpa using hlen)
    have e := fun w => Lib.run_eql_slice_nil (P := Try.prog) w 91 4 none 0 0 0 0 Try.underlying91
    go_enter Try.func68, Try.ntmps68
    go_wp2
    go_ret
    exact ⟨none, 0, rfl, Exts.refl _, RowF.nil _ 1 w, fun b hb => by cases hb⟩
  | some a =>
    have e := fun w => Lib.run_eql_slice_nil (P := Try.prog) w 91 4 (some a) n cap 0 0 Try.underlying91
    have hx : ∀ j u, xs[j]? = some u → (w.alloc (.cells #[] 4)).cell? (a.add j) = some u := by
      intro j u hj
      have hn : 0 < n := by
        have := (List.getElem?_eq_some_iff.1 hj).1
        rw [hlen] at this
        exact Nat.pos_of_ne_zero (fun h0 => by subst h0; simp at this)
      obtain ⟨b, off, hab, _, hbs, hc⟩ := h5 hn
      cases hab
      rw [Addr.add_lit, World.cell?_alloc_lt _ _ _ hbs]
      exact hc j u hj
    clear h2 h3 h4 h5 h
    unfold maxLen at hnle
    go_enter Try.func68, Try.ntmps68
    go_wp2_with (at_builtin; refine wpList_append_own _ rfl _ _ 91 rfl w.heap.size 4 i0 _ 1 1 Try.underlying91 hi hz0 hz1 hz2 rfl (by decide) _ 0 [] rfl (World.ownsRow_made w #[] 0 (Nat.le_refl _) (by decide) rfl) a n cap xs rfl hlen hx h1 (by unfold maxLen; omega) (by omega) (by simp) ?_; intro v' w1 hown hgrow hnil)
    go_ret
    simp only [Nat.zero_add, List.nil_append] at hown
    have hrow := RowF.of_owns hown
    obtain ⟨_, ao', c', rfl, _⟩ := id hrow
    exact ⟨ao', c', rfl, exts_of_grown ((Exts.refl w).alloc _) hgrow (fun b hb => by cases hb; exact Nat.le_refl _), hrow, TypedBy.of_owns hown⟩


def bools (g : Rel) (a n : Nat) : List Value := (List.range n).map fun b => .bool (g a b)
@[simp] theorem bools_len (g : Rel) (a n : Nat) : (bools g a n).length = n := by simp [bools]
theorem bools_one (g : Rel) (a n : Nat) : ∀ u ∈ bools g a n, u.oneCell' = true := by
  intro u hu
  simp [bools] at hu
  obtain ⟨b, _, rfl⟩ := hu
  rfl
theorem bools_get {g : Rel} {a n b : Nat} {v : Value} (h : (bools g a n)[b]? = some v) : b < n ∧ v = .bool (g a b) := by
  have hb : b < n := by
    have := (List.getElem?_eq_some_iff.1 h).1
    rwa [bools_len] at this
  refine ⟨hb, ?_⟩
  simp [bools, hb] at h
  exact h.symm
/-- Rows of a relation, read as a slice of slices. -/
def BRows (w : World) (ro : Option Addr) (m n rc : Nat) (g : Rel) : Prop :=
  TypedBy 91 w (.slice ro m rc) ∧ ∃ rows, RowF (fun _ => True) 1 w (.slice ro m rc) m rows ∧ ∀ a, a < m → ∃ bo bc, rows[a]? = some (.slice bo n bc) ∧ RowF (fun _ => True) 1 w (.slice bo n bc) n (bools g a n) ∧ TypedBy 4 w (.slice bo n bc)
theorem BRows.exts {w w' : World} {ro : Option Addr} {m n rc : Nat} {g : Rel} (h : BRows w ro m n rc g) (he : Exts w w') : BRows w' ro m n rc g := by
  obtain ⟨ht, rows, h1, h2⟩ := h
  exact ⟨ht.exts he, rows, h1.exts he, fun a ha => let ⟨bo, bc, e1, e2, e3⟩ := h2 a ha; ⟨bo, bc, e1, e2.exts he, e3.exts he⟩⟩
theorem BRows.grown {e : TypeId} {w w' : World} {v : Value} {ro : Option Addr} {m n rc : Nat} {g : Rel} (h : BRows w ro m n rc g) (hg : w.grownBy w' v.ownBlock) (hv : TypedBy e w v) (h1 : 91 ≠ e) (h2 : 4 ≠ e) : BRows w' ro m n rc g := by
  obtain ⟨ht, rows, hr, hc⟩ := h
  refine ⟨ht.grown hg (ht.ne hv h1), rows, hr.grown hg (ht.ne hv h1), fun a ha => ?_⟩
  obtain ⟨bo, bc, e1, e2, e3⟩ := hc a ha
  exact ⟨bo, bc, e1, e2.grown hg (e3.ne hv h2), e3.grown hg (e3.ne hv h2)⟩
/-- The rows that Closure has gathered. -/
def RowsIn (w : World) (k m : Nat) (g : Rel) (rows : List Value) : Prop := ∀ a, a < k → ∃ bo bc, rows[a]? = some (.slice bo m bc) ∧ RowF (fun _ => True) 1 w (.slice bo m bc) m (bools g a m) ∧ TypedBy 4 w (.slice bo m bc)
theorem mat_row {w : World} {b a m : Nat} {g : Rel} {t : TypeId} (h : w.heap[b]? = some (.cells (matC g) t (0, 0))) (ha : a < 12) (hm : m ≤ 12) : RowF (fun _ => True) 1 w (.slice (some ⟨b, a * 12, none⟩) m 12) m (bools g a m) := by
  refine ⟨by simp, some ⟨b, a * 12, none⟩, 12, rfl, hm, by decide, (fun h => by cases h), fun _ => ⟨b, a * 12, rfl, trivial, (Array.getElem?_eq_some_iff.1 h).1, fun j v hj => ?_⟩⟩
  obtain ⟨hjm, rfl⟩ := bools_get hj
  rw [cell_of_row w b _ _ t (0, 0) h]
  exact matC_get g a j ha (by omega)
theorem owns_other {w : World} {base e k n b : Nat} {v : Value} {xs : List Value} {c : Array Value} {t : TypeId} {fr : Nat × Nat} (h : w.ownsRow base e k v n xs) (hb : w.heap[b]? = some (.cells c t fr)) (hne : t ≠ e) : some b ≠ v.ownBlock := fun hc => by
  obtain ⟨c', h'⟩ := TypedBy.of_owns h b hc.symm
  rw [hb] at h'
  simp at h'
  exact hne h'.2.1
theorem rows_round {w wr w1 : World} {k m : Nat} {g : Rel} {va : Option Addr} {rows : List Value} {ov : Value} {na : Nat} {base : Nat} (hown : wr.ownsRow base 91 1 ov k rows) (hin : RowsIn wr k m g rows) (hx : Exts wr w) (hra : RowF (fun _ => True) 1 w (.slice va m na) m (bools g k m)) (hta : TypedBy 4 w (.slice va m na)) (hgrow : w.grownBy w1 ov.ownBlock) : RowsIn w1 (k + 1) m g (rows ++ [.slice va m na]) := by
  have hlen : rows.length = k := by obtain ⟨h, _⟩ := hown; omega
  have hto : TypedBy 91 w ov := (TypedBy.of_owns hown).exts hx
  intro a ha
  by_cases hak : a < k
  · obtain ⟨bo, bc, h1, h2, h3⟩ := hin a hak
    have hne := (h3.exts hx).ne hto (by decide)
    exact ⟨bo, bc, by rw [List.getElem?_append_left (by omega)]; exact h1, (h2.exts hx).grown hgrow hne, (h3.exts hx).grown hgrow hne⟩
  · obtain rfl : a = k := by omega
    have hne := hta.ne hto (by decide)
    exact ⟨va, na, by rw [List.getElem?_append_right (by omega), hlen, Nat.sub_self]; rfl, hra.grown hgrow hne, hta.grown hgrow hne⟩
set_option maxRecDepth 100000
set_option maxHeartbeats 2000000
/-- What Closure hands back: rows, a circle, an error. -/
def CloRes (V : Int) (ps : List Pr) (w w' : World) (ro : Option Addr) (rn rc : Nat) (co : Option Addr) (cn cc : Nat) (code : Int) : Prop :=
  (validB V ps = false ∧ rn = 0 ∧ cn = 0 ∧ code = 1) ∨
  (validB V ps = true ∧ (closedD V ps).2 = false ∧ rn = 0 ∧ code = 16 ∧ ∃ C, IsCirc (pairRel ps) C ∧ C.length = cn ∧ Ints (fun b => w.heap.size ≤ b) w' co cn cc (C.map Int.ofNat)) ∨
  ((closedD V ps).2 = true ∧ (rn : Int) = V ∧ cn = 0 ∧ code = 0 ∧ BRows w' ro rn rn rc (closedD V ps).1)
theorem closure10 {S : Nat → Prop} (V : Int) (po : Option Addr) (n c : Nat) (ps : List Pr) (w : World) (h : Prs S w po n c ps) :
    Calls Try.prog 63 #[.agg #[.int .i64 V, .slice po n c]] w fun e w' => ∃ ro rn rc co cn cc code, e = .returned (.tuple #[.slice ro rn rc, .slice co cn cc, .int .i64 code]) ∧ Exts w w' ∧ CloRes V ps w w' ro rn rc co cn cc code := by
  obtain ⟨⟨g, o⟩, hg⟩ : ∃ D, closedD V ps = D := ⟨_, rfl⟩
  cases hv : validB V ps with
  | false =>
    have HV := Lib.hid hv
    have HG := Lib.hid hg
    have H := Lib.hid h
    clear h hv hg
    go_enter Try.func63, Try.ntmps63
    go_wp2_with (first | (go_at_call 51; ((with_reducible refine (closed31_D _ _ _ _ ps _ _ _ (RowF.exts H.out (by repeat (first | exact Exts.refl _ | apply Exts.andR | apply Exts.alloc | apply Exts.wext | apply Exts.drew | apply Exts.drewN))) HG.out).mono ?_); rintro e w' ⟨rfl, x1, rfl⟩)) | (go_at_call 59; ((with_reducible refine (valid32 _ _ _ _ ps _ (RowF.exts H.out (by repeat (first | exact Exts.refl _ | apply Exts.andR | apply Exts.alloc | apply Exts.wext | apply Exts.drew | apply Exts.drewN)))).mono ?_); rintro e w' ⟨rfl, x2, rfl⟩; rw [HV.out])) | (go_at_call 61; ((with_reducible refine (steps34 _ _ _ _ ps _ (RowF.exts H.out (by repeat (first | exact Exts.refl _ | apply Exts.andR | apply Exts.alloc | apply Exts.wext | apply Exts.drew | apply Exts.drewN))) HI.out).mono ?_); rintro e w' ⟨rfl, x3, rfl⟩)) | (go_at_call 67; ((with_reducible refine (circle33 _ _).mono ?_); rintro e w' ⟨C, ro, rc, rfl, hc, ⟨x4, rfl⟩, hr⟩; (have HC := Lib.hid hc); (try simp only [wext_and] at hr); (have HR := Lib.hid (RowF.mono (S' := fun b => w.heap.size ≤ b) hr fun b hb => Nat.le_trans (by simp; omega) hb)); clear hc hr)))
    go_ret3
    exact ⟨none, 0, 0, none, 0, 0, 1, rfl, (by repeat (first | exact Exts.refl _ | apply Exts.andR | apply Exts.alloc | apply Exts.wext | apply Exts.drew | apply Exts.drewN)), .inl ⟨HV.out, rfl, rfl, rfl⟩⟩
  | true =>
    have HI := Lib.hid (show ∀ p ∈ ps, 0 ≤ p.1 ∧ p.1 < 12 ∧ 0 ≤ p.2 ∧ p.2 < 12 from fun p hp => by have := valid_in hv; have := this.2.2 p hp; omega)
    have HV := Lib.hid hv
    have HG := Lib.hid hg
    have H := Lib.hid h
    cases o with
    | false =>
      clear h hv hg
      go_enter Try.func63, Try.ntmps63
      go_wp2_with (first | (go_at_call 51; ((with_reducible refine (closed31_D _ _ _ _ ps _ _ _ (RowF.exts H.out (by repeat (first | exact Exts.refl _ | apply Exts.andR | apply Exts.alloc | apply Exts.wext | apply Exts.drew | apply Exts.drewN))) HG.out).mono ?_); rintro e w' ⟨rfl, x1, rfl⟩)) | (go_at_call 59; ((with_reducible refine (valid32 _ _ _ _ ps _ (RowF.exts H.out (by repeat (first | exact Exts.refl _ | apply Exts.andR | apply Exts.alloc | apply Exts.wext | apply Exts.drew | apply Exts.drewN)))).mono ?_); rintro e w' ⟨rfl, x2, rfl⟩; rw [HV.out])) | (go_at_call 61; ((with_reducible refine (steps34 _ _ _ _ ps _ (RowF.exts H.out (by repeat (first | exact Exts.refl _ | apply Exts.andR | apply Exts.alloc | apply Exts.wext | apply Exts.drew | apply Exts.drewN))) HI.out).mono ?_); rintro e w' ⟨rfl, x3, rfl⟩)) | (go_at_call 67; ((with_reducible refine (circle33 _ _).mono ?_); rintro e w' ⟨C, ro, rc, rfl, hc, ⟨x4, rfl⟩, hr⟩; (have HC := Lib.hid hc); (try simp only [wext_and] at hr); (have HR := Lib.hid (RowF.mono (S' := fun b => w.heap.size ≤ b) hr fun b hb => Nat.le_trans (by simp; omega) hb)); clear hc hr)))
      go_ret3
      exact ⟨none, 0, 0, ro, C.length, rc, 16, rfl, (by repeat (first | exact Exts.refl _ | apply Exts.andR | apply Exts.alloc | apply Exts.wext | apply Exts.drew | apply Exts.drewN)), .inr (.inl ⟨HV.out, by rw [HG.out], rfl, rfl, C, HC.out, rfl, RowF.exts HR.out (by repeat (first | exact Exts.refl _ | apply Exts.andR | apply Exts.alloc | apply Exts.wext | apply Exts.drew | apply Exts.drewN))⟩)⟩
    | true =>
      obtain ⟨i0, hi, hz0, hz1, hz2⟩ := info_parts info34
      obtain ⟨⟨v1, v2⟩, _⟩ := valid_in hv
      obtain ⟨m, rfl⟩ : ∃ m : Nat, V = m := ⟨V.toNat, by omega⟩
      clear h hv hg
      go_enter Try.func63, Try.ntmps63
      go_wp2_with (first | (go_at_call 51; ((with_reducible refine (closed31_D _ _ _ _ ps _ _ _ (RowF.exts H.out (by repeat (first | exact Exts.refl _ | apply Exts.andR | apply Exts.alloc | apply Exts.wext | apply Exts.drew | apply Exts.drewN))) HG.out).mono ?_); rintro e w' ⟨rfl, x1, rfl⟩)) | (go_at_call 59; ((with_reducible refine (valid32 _ _ _ _ ps _ (RowF.exts H.out (by repeat (first | exact Exts.refl _ | apply Exts.andR | apply Exts.alloc | apply Exts.wext | apply Exts.drew | apply Exts.drewN)))).mono ?_); rintro e w' ⟨rfl, x2, rfl⟩; rw [HV.out])) | (go_at_call 61; ((with_reducible refine (steps34 _ _ _ _ ps _ (RowF.exts H.out (by repeat (first | exact Exts.refl _ | apply Exts.andR | apply Exts.alloc | apply Exts.wext | apply Exts.drew | apply Exts.drewN))) HI.out).mono ?_); rintro e w' ⟨rfl, x3, rfl⟩)) | (go_at_call 67; ((with_reducible refine (circle33 _ _).mono ?_); rintro e w' ⟨C, ro, rc, rfl, hc, ⟨x4, rfl⟩, hr⟩; (have HC := Lib.hid hc); (try simp only [wext_and] at hr); (have HR := Lib.hid (RowF.mono (S' := fun b => w.heap.size ≤ b) hr fun b hb => Nat.le_trans (by simp; omega) hb)); clear hc hr)))
      have hm12 : m ≤ 12 := by omega
      go_loopw [7, 26] (fun o i wr => ∃ (k : Nat) (rows : List Value), k ≤ m ∧ i = .int .i64 k ∧ Exts w wr ∧ wr.ownsRow w.heap.size 91 1 o k rows ∧ RowsIn wr k m g rows ∧ wr.heap[w.heap.size]? = some (.cells #[.int .i64 m, .slice po n c] 52 (0, 0)) ∧ wr.heap[w.heap.size + 1 + x1.bs.size]? = some (.cells (matC g) 81 (0, 0))) (fun _ i _ => m - (intOf i).toNat)
      case atStart =>
        refine ⟨0, [], by omega, rfl, (by repeat (first | exact Exts.refl _ | apply Exts.andR | apply Exts.alloc | apply Exts.wext | apply Exts.drew | apply Exts.drewN)), World.ownsRow_nil _ _ _ _, fun a ha => by omega, ?_, ?_⟩
        · rw [wext_heap_old _ _ _ (by simp; omega), heap_alloc_if, if_pos (by simp; omega), wext_heap_old _ _ _ (by simp), heap_alloc_if, if_neg (by omega), if_pos rfl]
        · rw [wext_heap_old _ _ _ (by simp), heap_alloc_if, if_neg (by simp), if_pos (by simp)]
      case round =>
        obtain ⟨k, rows, hk, rfl, hx, hown, hin, hm0, hm1⟩ := hrel
        by_cases hlt : k < m
        · have hk12 : k < 12 := by omega
          have HX := Lib.hid hx
          have HO := Lib.hid hown
          have HIN := Lib.hid hin
          have HM0 := Lib.hid hm0
          have HM1 := Lib.hid hm1
          have HROW := Lib.hid (mat_row (m := m) hm1 hk12 hm12)
          have c0 : wr.cell? ⟨w.heap.size, 0, none⟩ = some (.int .i64 m) := by rw [cell_of_row _ _ _ _ _ _ hm0]; rfl
          have l0 : w.heap.size < wr.heap.size := (Array.getElem?_eq_some_iff.1 hm0).1
          have l1 : w.heap.size + 1 + x1.bs.size < wr.heap.size := (Array.getElem?_eq_some_iff.1 hm1).1
          have hu : ∀ g, u7.ownBlock = some g → g < wr.heap.size := fun g hg => (HO.out.lt g hg).2
          have HN0 := Lib.hid (owns_other hown hm0 (by decide))
          have HN1 := Lib.hid (owns_other hown hm1 (by decide))
          have HU := Lib.hid hu
          have i0' : (0 : Int) ≤ (k : Int) := by omega
          have i1' : (k : Int) < 12 := by omega
          have i2' : (m : Int) ≤ 12 := by omega
          have i3' : (0 : Int) ≤ (m : Int) := by omega
          clear hx hown hin hm0 hm1 hu
          go_wp2_with fail
          go_region_held3 (fun w' => w'.cell? ⟨w.heap.size, 0, none⟩ = some (.int .i64 m)) (first | (simp [go_sem, *]; done) | exact World.grownBy.cell hgrow (by simp [go_sem, *]) HN0.out) ((first | (go_at_call 68; refine (clone35 _ m (bools g k m) _ (RowF.exts HROW.out (by repeat (first | exact Exts.refl _ | apply Exts.andR | apply Exts.alloc | apply Exts.wext | apply Exts.drew | apply Exts.drewN))) (bools_one g k m) (by omega)).mono ?_; rintro e w' ⟨va, na, rfl, ⟨xa, rfl⟩, ra, ta⟩) | (refine step_append_lies _ rfl (.tmp 29) (.tmp 36) 87 rfl w.heap.size 91 i0 _ 1 24 Try.underlying87 hi hz0 hz1 hz2 rfl (by decide) u7 k rows (by simp [Act.eval, Act.put]) (ownsRow_exts HO.out (by repeat (first | exact Exts.refl _ | apply Exts.andR | apply Exts.alloc | apply Exts.wext | apply Exts.drew | apply Exts.drewN))) ⟨wr.heap.size + xa.bs.size, 0, none⟩ 1 1 [.slice va m na] (by simp [Act.eval, Act.put]) rfl (by intro j u hj; match j, hj with | 0, hj => (simp at hj; subst hj; simp [go_sem])) (by intro u hu; simp at hu; subst hu; rfl) (by decide) (by unfold maxLen; omega) (by omega) (by simp; omega) _ rfl ?_; intro g2 cg w1 hown' hgrow hat hlt')))
          go_wp2
          simp only [wext_and, wext_of_drew] at ra ta
          refine ⟨⟨k + 1, rows ++ [.slice va m na], by omega, by go_num, exts_of_grown (W := w) (HX.out.trans (by repeat (first | exact Exts.refl _ | apply Exts.andR | apply Exts.alloc | apply Exts.wext | apply Exts.drew | apply Exts.drewN))) hgrow (fun b hb => (HO.out.lt b hb).1), hown', rows_round (w := (wext wr xa).alloc (.cells #[.slice va m na] 91)) HO.out HIN.out (by repeat (first | exact Exts.refl _ | apply Exts.andR | apply Exts.alloc | apply Exts.wext | apply Exts.drew | apply Exts.drewN)) ((RowF.exts ra (by repeat (first | exact Exts.refl _ | apply Exts.andR | apply Exts.alloc | apply Exts.wext | apply Exts.drew | apply Exts.drewN))).mono fun _ _ => trivial) (TypedBy.exts ta (by repeat (first | exact Exts.refl _ | apply Exts.andR | apply Exts.alloc | apply Exts.wext | apply Exts.drew | apply Exts.drewN))) hgrow, ?_, ?_⟩, ?_⟩
          · rw [hgrow.block _ (by simp; omega) HN0.out, heap_alloc_if, if_pos (by simp; omega), wext_heap_old _ _ _ l0]
            exact HM0.out
          · rw [hgrow.block _ (by simp; omega) HN1.out, heap_alloc_if, if_pos (by simp; omega), wext_heap_old _ _ _ l1]
            exact HM1.out
          · simp [intOf]; omega
        · obtain rfl : k = m := by omega
          obtain ⟨ao, c2, rfl⟩ := owns_shape hown
          have HX := Lib.hid hx
          have HR := Lib.hid (show BRows wr ao k k c2 g from ⟨TypedBy.of_owns hown, rows, (RowF.of_owns hown).mono fun _ _ => trivial, fun a ha => hin a ha⟩)
          clear hx hown hin hm0 hm1
          go_wp2
          go_ret3
          exact ⟨ao, k, c2, none, 0, 0, 0, rfl, HX.out, .inr (.inr ⟨by rw [HG.out], rfl, rfl, rfl, by rw [HG.out]; exact HR.out⟩)⟩
end Go.Proofs.Ytodgohilfbggjaa

/- The step from a walk to a law's row: a call that returns true and makes new blocks alone leaves each argument reading as it did. No conditions. -/
namespace Go.Proofs.Ytodgohilfbggjaa
open Go.ChangeShapes Go.WideShapes Go.ChangeAt Go.RowKit

theorem own : ownKnob Try.prog.godebug = none := by kernel_rfl
/-- The bounds of an int. -/
def I64 (n : Int) : Prop := -9223372036854775808 ≤ n ∧ n ≤ 9223372036854775807
theorem I64.of_wf {x : Int} (h : (Lit.int .i64 x).wf = true) : I64 x := by
  simp [Lit.wf, IntKind.min, IntKind.max, IntKind.signed, IntKind.bits] at h
  exact ⟨by omega, by omega⟩
theorem laidOut : laidOutB Try.prog = true := by kernel_rfl

section
variable {H : Type} {enc : TypeId × Value → H} {P : Program}

theorem trodAll_below (hl : laidOutB P = true) {W W' : World} (hb : Below W.heap.size W W') : ∀ {ts : List TypeId} {vs : List Value} {ds : List (DataW H)} {ps : List MemPlace},
    (∀ t ∈ ts, P.readableRec t = true ∧ t < P.types.size) → DataW.TrodAll enc P W 0 (fun _ => true) true ts vs ds ps → (∀ x ∈ ps, x.block < W.heap.size) →
    DataW.TrodAll enc P W' 0 (fun b => decide (b < W.heap.size)) true ts vs ds ps
  | [], [], [], _, _, h, _ => h
  | t :: ts, v :: vs, d :: ds, ps, ht, h, hlt => by
    obtain ⟨p, q, h1, h2, rfl⟩ := h
    refine ⟨p, q, ?_, ?_, rfl⟩
    · exact Below.trod hl (ht t (by simp)).1 (ht t (by simp)).2 h1 hb (fun x hx => hlt x (by simp [hx]))
    · exact trodAll_below hl hb (fun t' ht' => ht t' (by simp [ht'])) h2 (fun x hx => hlt x (by simp [hx]))

/-- THE LAW's STEP: true comes back, and there are new blocks alone. -/
theorem law_post {f : Func} {s : ChangeSpec} {W W' : World} {args : Array Value} {ds gs : List (DataW H)} {before : List MemPlace} {T : TypeId}
    (hl : laidOutB P = true) (hT : P.underlying T = some .bool) (hf : f.resultTypes = #[T]) (hvars : s.vars = [])
    (hts : ∀ t ∈ f.params.toList, P.readableRec t = true ∧ t < P.types.size)
    (hW : DataW.Whole enc P f.params.toList s.vars false W args.toList ds gs before)
    (hfn : s.fn H (ds ++ gs) = { results := [.lit (.bool true)], args := ds, vars := [] }) (hx : Exts W W') :
    s.post enc P f false true false false W args (.bool true) W' := by
  have hb := hx.below
  have hlt : ∀ p ∈ before, p.block < W.heap.size := fun p hp => hW.lt p hp
  have hW' := hW
  obtain ⟨p, q, hA, hV, rfl, _, _⟩ := hW
  rw [hvars] at hV
  obtain ⟨rfl, rfl⟩ := trodVars_none hV
  simp only [List.append_nil] at hW' hlt
  refine ⟨ds, [], p, [], p, [], hW', ?_, ?_, ?_, ?_, fun h => by cases h⟩
  · rw [hfn, hf]
    exact trodAll_mk1 (shut_bool hT true)
  · rw [hfn]
    exact trodAll_below hl hb hts hA hlt
  · rw [hfn, hvars]
    rfl
  · exact hb.frame _
end
end Go.Proofs.Ytodgohilfbggjaa
