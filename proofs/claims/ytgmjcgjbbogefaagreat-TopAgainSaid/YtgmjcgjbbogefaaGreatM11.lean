/- Lemmas that the laws of this seat share, 4 texts in one: Way, Cases, ReadO, PrePlain. No condition of their own. -/
import Derived.Test.YtgmjcgjbbogefaaGreatM10
import Derived.Test.YtgmjcgjbbogefaaGreatM2
import Derived.Test.YtgmjcgjbbogefaaGreatM6
import Derived.Deep.AppendLies
import Derived.Deep.OwnRows
import Derived.BigRegion
import Derived.Test.YtgmjcgjbbogefaaGreatM9
import Derived.Test.YtgmjcgjbbogefaaGreatM8
import Derived.Test.YtgmjcgjbbogefaaGreatM7
/- way of the reference of chapter 38: a walk breadth first. No condition but valid pairs. -/
namespace Go.Proofs.YtgmjcgjbbogefaaGreat
open Go.RowKit Go.Deep
set_option linter.unusedSimpArgs false
set_option linter.unusedVariables false

def natsC (L : List Nat) : List Value := intsC (L.map Int.ofNat)
theorem natsC_snoc (L : List Nat) (v : Nat) : natsC L ++ [.int .i64 v] = natsC (L ++ [v]) := by simp [natsC, intsC]
/-- The memory of way. -/
structure WaySt (w1 wr : World) (sb base m : Nat) (S : Nat → Bool) (nv : Value) (L : List Nat) (xv : Value) (N : List Nat) : Prop where
  ext : Exts w1 wr
  sbw : w1.heap.size ≤ sb
  seen : wr.heap[sb]? = some (.cells (boolC S m) 4 (0, 0))
  sbb : sb < base
  now : wr.ownsRow w1.heap.size 3 1 nv L.length (natsC L)
  nowlt : ∀ g, nv.ownBlock = some g → g < base
  nxt : wr.ownsRow base 3 1 xv N.length (natsC N)
  bas : base ≤ wr.heap.size
theorem WaySt.ne_nxt {w1 wr : World} {sb base m : Nat} {S : Nat → Bool} {nv : Value} {L : List Nat} {xv : Value} {N : List Nat} (h : WaySt w1 wr sb base m S nv L xv N) : some sb ≠ xv.ownBlock := fun hc => by
  obtain ⟨c, hg⟩ := TypedBy.of_owns h.nxt sb hc.symm
  have := h.seen
  rw [hg] at this
  simp at this
theorem owns_base {w : World} {base e k n g : Nat} {v : Value} {xs : List Value} (h : w.ownsRow base e k v n xs) (hg : v.ownBlock = some g) : base ≤ g := by
  obtain ⟨_, ⟨rfl, _⟩ | ⟨g', cap, cur, rfl, hb, _⟩⟩ := h
  · cases hg
  · cases hg
    exact hb
theorem WaySt.exts {w1 wr wr' : World} {sb base m : Nat} {S : Nat → Bool} {nv : Value} {L : List Nat} {xv : Value} {N : List Nat} (h : WaySt w1 wr sb base m S nv L xv N) (he : Exts wr wr') : WaySt w1 wr' sb base m S nv L xv N :=
  ⟨h.ext.trans he, h.sbw, (he.below.block sb (Array.getElem?_eq_some_iff.1 h.seen).1).trans h.seen, h.sbb, ownsRow_exts h.now he, h.nowlt, ownsRow_exts h.nxt he, Nat.le_trans h.bas he.below.size⟩
theorem WaySt.app {w1 wr w' : World} {sb base m v : Nat} {S : Nat → Bool} {nv : Value} {L : List Nat} {xv xv' : Value} {N : List Nat} (h : WaySt w1 wr sb base m S nv L xv N) (hg : wr.grownBy w' xv.ownBlock) (hown : w'.ownsRow base 3 1 xv' (N.length + 1) (natsC N ++ [.int .i64 v])) : WaySt w1 w' sb base m S nv L xv' (N ++ [v]) := by
  refine ⟨exts_of_grown h.ext hg fun b hb => ?_, h.sbw, ?_, h.sbb, h.now.kept hg ?_, h.nowlt, by rw [List.length_append, ← natsC_snoc]; exact hown, Nat.le_trans h.bas hg.size⟩
  · have h1 := owns_base h.nxt hb
    have h2 := h.sbb
    have h3 := h.sbw
    omega
  · rw [hg.block sb (Array.getElem?_eq_some_iff.1 h.seen).1 h.ne_nxt]
    exact h.seen
  · cases hv : nv.ownBlock with
    | none => simp
    | some g =>
      right
      intro hc
      have h1 := owns_base h.nxt hc.symm
      have h2 := h.nowlt g hv
      omega
set_option maxRecDepth 100000
set_option maxHeartbeats 4000000
end Go.Proofs.YtgmjcgjbbogefaaGreat


/- Lists of cases, and the closures of a list of dimensions, as they lie in memory. -/
namespace Go.Proofs.YtgmjcgjbbogefaaGreat
open Go.RowKit
set_option linter.unusedSimpArgs false
set_option linter.unusedVariables false

structure Cs where
  id : Int
  vals : List Int
  grant : Bool
def IntsV (w : World) (v : Value) (l : List Int) : Prop := ∃ ao c, v = .slice ao l.length c ∧ Ints (fun _ => True) w ao l.length c l
theorem IntsV.exts {w w' : World} {v : Value} {l : List Int} (h : IntsV w v l) (he : Exts w w') : IntsV w' v l := by
  obtain ⟨ao, c, h1, h2⟩ := h
  exact ⟨ao, c, h1, RowF.exts h2 he⟩
def Cases (S : Nat → Prop) (w : World) (bo : Option Addr) (n c : Nat) (B : List Cs) : Prop :=
  B.length = n ∧ (∀ x ∈ B, I64 x.id) ∧ ∃ xs, RowF S 3 w (.slice bo n c) n xs ∧ ∀ (i : Nat) (d : Cs), B[i]? = some d → ∃ v, xs[i * 3]? = some (.int .i64 d.id) ∧ xs[i * 3 + 1]? = some v ∧ xs[i * 3 + 2]? = some (.bool d.grant) ∧ IntsV w v d.vals
theorem Cases.exts {S : Nat → Prop} {w w' : World} {bo : Option Addr} {n c : Nat} {B : List Cs} (h : Cases S w bo n c B) (he : Exts w w') : Cases S w' bo n c B := by
  obtain ⟨h1, h0, xs, h2, h3⟩ := h
  exact ⟨h1, h0, xs, h2.exts he, fun i d hd => let ⟨v, e1, e2, e3, e4⟩ := h3 i d hd; ⟨v, e1, e2, e3, e4.exts he⟩⟩
theorem Cases.nle {S : Nat → Prop} {w : World} {bo : Option Addr} {n c : Nat} {B : List Cs} (h : Cases S w bo n c B) : n ≤ maxLen := by
  obtain ⟨_, _, xs, h2, _⟩ := h
  exact RowF.nle h2
theorem Cases.get {S : Nat → Prop} {w : World} {bo : Option Addr} {n c : Nat} {B : List Cs} (h : Cases S w bo n c B) {i : Nat} (hi : i < n) :
    ∃ b off id vs gr vo vc, bo = some ⟨b, off, none⟩ ∧ b < w.heap.size ∧ B[i]? = some ⟨id, vs, gr⟩ ∧ w.cell? ⟨b, off + i * 3, none⟩ = some (.int .i64 id) ∧ w.cell? ⟨b, off + i * 3 + 1, none⟩ = some (.slice vo vs.length vc) ∧ w.cell? ⟨b, off + i * 3 + 2, none⟩ = some (.bool gr) ∧ Ints (fun _ => True) w vo vs.length vc vs ∧ I64 id := by
  obtain ⟨h1, h0, xs, h2, h3⟩ := h
  have hp : B[i]? = some B[i] := List.getElem?_eq_getElem (by omega)
  obtain ⟨v, e1, e2, e3, vo, vc, rfl, e4⟩ := h3 i _ hp
  obtain ⟨q1, ao2, cap2, hv, q2, q3, q4, q5⟩ := h2
  simp only [Value.slice.injEq, true_and] at hv
  obtain ⟨rfl, rfl⟩ := hv
  obtain ⟨b, off, rfl, _, hb, hc⟩ := q5 (by omega)
  refine ⟨b, off, B[i].id, B[i].vals, B[i].grant, vo, vc, rfl, hb, hp, hc _ _ e1, ?_, ?_, e4, h0 _ (List.getElem_mem _)⟩
  · rw [Nat.add_assoc]
    exact hc _ _ e2
  · rw [Nat.add_assoc]
    exact hc _ _ e3
/-- The closures of a right list of dimensions. -/
def Ords (w : World) (mo : Option Addr) (n mc : Nat) (D : List Dm) : Prop :=
  D.length = n ∧ rightD D = true ∧ ∃ rows, RowF (fun _ => True) 1 w (.slice mo n mc) n rows ∧ ∀ (i : Nat) (V : Int) (ps : List Pr), D[i]? = some (V, ps) → ∃ (ro : Option Addr) (m rc : Nat) (g : Rel), rows[i]? = some (.slice ro m rc) ∧ V = m ∧ closedD (m : Int) ps = (g, true) ∧ BRows w ro m m rc g
theorem Ords.exts {w w' : World} {mo : Option Addr} {n mc : Nat} {D : List Dm} (h : Ords w mo n mc D) (he : Exts w w') : Ords w' mo n mc D := by
  obtain ⟨h1, h0, rows, h2, h3⟩ := h
  exact ⟨h1, h0, rows, h2.exts he, fun i V ps hd => let ⟨ro, m, rc, g, e1, e2, e3, e4⟩ := h3 i V ps hd; ⟨ro, m, rc, g, e1, e2, e3, e4.exts he⟩⟩
theorem Ords.nle {w : World} {mo : Option Addr} {n mc : Nat} {D : List Dm} (h : Ords w mo n mc D) : n ≤ maxLen := by
  obtain ⟨_, _, xs, h2, _⟩ := h
  exact RowF.nle h2
theorem Ords.le12 {w : World} {mo : Option Addr} {n mc : Nat} {D : List Dm} (h : Ords w mo n mc D) : n ≤ 12 := by
  have := h.2.1
  simp only [rightD, Bool.and_eq_true, decide_eq_true_eq] at this
  have := h.1
  omega
theorem closed_pos {m : Nat} {ps : List Pr} {g : Rel} (h : closedD (m : Int) ps = (g, true)) : 1 ≤ m ∧ m ≤ 12 := by
  obtain ⟨⟨h1, h2⟩, _⟩ := valid_in (closed_valid h).1
  omega
theorem Ords.get {w : World} {mo : Option Addr} {n mc : Nat} {D : List Dm} (h : Ords w mo n mc D) {i : Nat} (hi : i < n) :
    ∃ (b off m : Nat) (ps : List Pr) (g : Rel) (b2 o2 rc : Nat) (rb rof rcap : Nat → Nat), mo = some ⟨b, off, none⟩ ∧ b < w.heap.size ∧ D[i]? = some ((m : Int), ps) ∧ closedD (m : Int) ps = (g, true) ∧ w.cell? ⟨b, off + i, none⟩ = some (.slice (some ⟨b2, o2, none⟩) m rc) ∧ b2 < w.heap.size ∧ (∀ a, a < m → w.cell? ⟨b2, o2 + a, none⟩ = some (.slice (some ⟨rb a, rof a, none⟩) m (rcap a))) ∧ (∀ a, a < m → rb a < w.heap.size) ∧ ∀ a j, a < m → j < m → w.cell? ⟨rb a, rof a + j, none⟩ = some (.bool (g a j)) := by
  obtain ⟨h1, _, rows, h2, h3⟩ := h
  obtain ⟨⟨V, ps⟩, hp⟩ : ∃ q, D[i]? = some q := ⟨_, List.getElem?_eq_getElem (by omega)⟩
  obtain ⟨ro, m, rc, g, e1, rfl, e3, e4⟩ := h3 i _ _ hp
  obtain ⟨q1, ao2, cap2, hv, q2, q3, q4, q5⟩ := h2
  simp only [Value.slice.injEq, true_and] at hv
  obtain ⟨rfl, rfl⟩ := hv
  obtain ⟨b, off, rfl, _, hb, hc⟩ := q5 (by omega)
  obtain ⟨b2, o2, rb, rof, rcap, rfl, l1, l2, l3, _, l4⟩ := rows_at e4 (by have := closed_pos e3; omega)
  exact ⟨b, off, m, ps, g, b2, o2, rc, rb, rof, rcap, rfl, hb, hp, e3, hc _ _ e1, l1, l2, l3, l4⟩
end Go.Proofs.YtgmjcgjbbogefaaGreat


/- read of package precedent: the closures of a list of dimensions. No condition. -/
namespace Go.Proofs.YtgmjcgjbbogefaaGreat
open Go.RowKit
set_option linter.unusedSimpArgs false
set_option linter.unusedVariables false

theorem closure63_ok {S : Nat → Prop} (m : Nat) (po : Option Addr) (n c : Nat) (ps : List Pr) (g : Rel) (w : World) (h : Prs S w po n c ps) (hok : closedD (m : Int) ps = (g, true)) :
    Calls Tryz.prog 42 #[.agg #[.int .i64 m, .slice po n c]] w fun e w' => ∃ ro rc co cc, e = .returned (.tuple #[.slice ro m rc, .slice co 0 cc, .int .i64 0]) ∧ Exts w w' ∧ BRows w' ro m m rc g := by
  refine (closure10 (m : Int) po n c ps w h).mono ?_
  rintro e w' ⟨ro, rn, rc, co, cn, cc, code, rfl, hx, hc⟩
  rcases hc with ⟨h1, rfl, rfl, rfl⟩ | ⟨h1, h2, rfl, rfl, _⟩ | ⟨h1, h2, rfl, rfl, h3⟩
  · rw [closed_no (.inl h1)] at hok; cases hok
  · rw [hok] at h2; cases h2
  · obtain rfl : rn = m := by omega
    rw [hok] at h3
    exact ⟨_, _, _, _, rfl, hx, h3⟩
theorem closure63_no {S : Nat → Prop} (V : Int) (po : Option Addr) (n c : Nat) (ps : List Pr) (w : World) (h : Prs S w po n c ps) (hok : (closedD V ps).2 = false) :
    Calls Tryz.prog 42 #[.agg #[.int .i64 V, .slice po n c]] w fun e w' => ∃ ro rn rc co cn cc code, e = .returned (.tuple #[.slice ro rn rc, .slice co cn cc, .int .i64 code]) ∧ Exts w w' ∧ (code == (0 : Int)) = false ∧ (code != (0 : Int)) = true ∧ ¬ code = 0 := by
  refine (closure10 V po n c ps w h).mono ?_
  rintro e w' ⟨ro, rn, rc, co, cn, cc, code, rfl, hx, hc⟩
  refine ⟨ro, rn, rc, co, cn, cc, code, rfl, hx, ?_⟩
  rcases hc with ⟨h1, rfl, rfl, rfl⟩ | ⟨h1, h2, rfl, rfl, _⟩ | ⟨h1, h2, rfl, rfl, h3⟩
  · exact ⟨rfl, rfl, by decide⟩
  · exact ⟨rfl, rfl, by decide⟩
  · rw [hok] at h1; cases h1
def OrdIn (w : World) (k : Nat) (D : List Dm) (rows : List Value) : Prop := ∀ (i : Nat) (V : Int) (ps : List Pr), i < k → D[i]? = some (V, ps) → ∃ (ro : Option Addr) (m rc : Nat) (g : Rel), rows[i]? = some (.slice ro m rc) ∧ V = m ∧ closedD (m : Int) ps = (g, true) ∧ BRows w ro m m rc g
theorem OrdIn.next {wr w w1 : World} {k base : Nat} {D : List Dm} {rows : List Value} {ov : Value} {ro : Option Addr} {m rc : Nat} {g : Rel} {ps : List Pr} (h : OrdIn wr k D rows) (hown : wr.ownsRow base 105 1 ov k rows) (he : Exts wr w) (hd : D[k]? = some ((m : Int), ps)) (hg : closedD (m : Int) ps = (g, true)) (hb : BRows w ro m m rc g) (hgrow : w.grownBy w1 ov.ownBlock) : OrdIn w1 (k + 1) D (rows ++ [.slice ro m rc]) := by
  have hlen : rows.length = k := by obtain ⟨h, _⟩ := hown; omega
  have hto : TypedBy 105 w ov := (TypedBy.of_owns hown).exts he
  intro i V qs hi hq
  by_cases hik : i < k
  · obtain ⟨r, m', c', g', e1, e2, e3, e4⟩ := h i V qs hik hq
    exact ⟨r, m', c', g', by rw [List.getElem?_append_left (by omega)]; exact e1, e2, e3, (e4.exts he).grown hgrow hto (by decide) (by decide)⟩
  · obtain rfl : i = k := by omega
    rw [hd] at hq
    cases hq
    exact ⟨ro, m, rc, g, by rw [List.getElem?_append_right (by omega), hlen, Nat.sub_self]; rfl, rfl, hg, hb.grown hgrow hto (by decide) (by decide)⟩
theorem info87 : (Tryz.prog.info? 105).map (fun i => (i.zero, i.size, i.bytes)) = some (some (.slice none 0 0), 1, 24) := by kernel_rfl
set_option maxRecDepth 100000
set_option maxHeartbeats 2000000
theorem read54_long {S : Nat → Prop} (lo : Option Addr) (n c : Nat) (D : List Dm) (w : World) (h : Dims S w lo n c D) (hn : 12 < n) :
    Calls Tryz.prog 26 #[.slice lo n c] w fun e w' => e = .returned (.tuple #[.slice none 0 0, .bool false]) ∧ Exts w w' := by
  have q1 : decide ((12 : Int) < (n : Int)) = true := by simp; omega
  have hm := h.nle
  unfold maxLen at hm
  clear h
  go_enter Tryz.func26, Tryz.ntmps26
  go_wp2
  go_ret2
  exact ⟨rfl, (by repeat (first | exact Exts.refl _ | apply Exts.andR | apply Exts.alloc | apply Exts.wext | apply Exts.drew | apply Exts.drewN))⟩
theorem read54_yes {S : Nat → Prop} (lo : Option Addr) (n c : Nat) (D : List Dm) (w : World) (h : Dims S w lo n c D) (hr : rightD D = true) :
    Calls Tryz.prog 26 #[.slice lo n c] w fun e w' => ∃ mo mc, e = .returned (.tuple #[.slice mo n mc, .bool true]) ∧ Exts w w' ∧ Ords w' mo n mc D := by
  obtain ⟨i0, hi, hz0, hz1, hz2⟩ := info_parts info87
  have hl := h.1
  have hm := h.nle
  unfold maxLen at hm
  have hn12 : n ≤ 12 := by
    simp only [rightD, Bool.and_eq_true, decide_eq_true_eq] at hr
    omega
  have q1 : decide ((12 : Int) < (n : Int)) = false := by simp; omega
  have H := Lib.hid h
  have HL := Lib.hid hl
  have HR := Lib.hid hr
  clear h hl hr
  go_enter Tryz.func26, Tryz.ntmps26
  go_wp2
  go_loopw [4, 15] (fun o i wr => ∃ (k : Nat) (rows : List Value), k ≤ n ∧ i = .int .i64 k ∧ Exts w wr ∧ wr.ownsRow w.heap.size 105 1 o k rows ∧ OrdIn wr k D rows) (fun _ i _ => n - (intOf i).toNat)
  case atStart => exact ⟨0, [], by omega, rfl, (by repeat (first | exact Exts.refl _ | apply Exts.andR | apply Exts.alloc | apply Exts.wext | apply Exts.drew | apply Exts.drewN)), World.ownsRow_nil _ _ _ _, fun i V ps hi => by omega⟩
  case round =>
    obtain ⟨k, rows, hk, rfl, hx, hown, hin⟩ := hrel
    have HX := Lib.hid hx
    have HBS := Lib.hid (show w.heap.size ≤ wr.heap.size from hx.below.size)
    have HO := Lib.hid hown
    have HI := Lib.hid hin
    obtain ⟨oo, oc, rfl⟩ := owns_shape hown
    clear hx hown hin
    by_cases hlt : k < n
    · obtain ⟨b, off, V, ps, po, pc, rfl, hb, hd, e0, e1, hp⟩ := (H.out.exts HX.out).get hlt
      obtain ⟨g, hg⟩ := closed_ok (right_at HR.out hd)
      have HP := Lib.hid hp
      obtain ⟨m, rfl⟩ : ∃ m : Nat, V = m := by
        obtain ⟨⟨h1, _⟩, _⟩ := valid_in (closed_valid hg).1
        exact ⟨V.toNat, by omega⟩
      have HG := Lib.hid hg
      have HD := Lib.hid hd
      clear hp hg hd
      go_wp2_with (first | (go_at_call 42; ((with_reducible refine (closure63_ok _ _ _ _ ps g _ (RowF.exts HP.out (by repeat (first | exact Exts.refl _ | apply Exts.andR | apply Exts.alloc | apply Exts.wext | apply Exts.drew | apply Exts.drewN))) HG.out).mono ?_); rintro e w' ⟨ro, rc, co, cc, rfl, ⟨x1, rfl⟩, hb⟩; (try simp only [wext_and] at hb); (have HB := Lib.hid hb); clear hb)) | (at_builtin; refine wpList_append_lies _ rfl (.tmp 27) (.tmp 29) 75 rfl w.heap.size 105 i0 _ 1 24 Tryz.underlying75 hi hz0 hz1 hz2 rfl (by decide) (.slice oo k oc) k rows rfl (ownsRow_exts HO.out (by repeat (first | exact Exts.refl _ | apply Exts.andR | apply Exts.alloc | apply Exts.wext | apply Exts.drew | apply Exts.drewN))) ⟨_, 0, none⟩ 1 1 [.slice ro m rc] rfl rfl (by intro j u hj; match j, hj with | 0, hj => (simp at hj; subst hj; simp [go_sem])) (by intro u hu; simp at hu; subst hu; rfl) (by decide) (by unfold maxLen; omega) (by omega) (by have := HBS.out; simp; omega) _ rfl ?_; intro g2 cg w9 hown' hgrow hat hlt'))
      refine ⟨⟨k + 1, rows ++ [.slice ro m rc], by omega, by go_num, exts_of_grown (W := w) (HX.out.trans (by repeat (first | exact Exts.refl _ | apply Exts.andR | apply Exts.alloc | apply Exts.wext | apply Exts.drew | apply Exts.drewN))) hgrow (fun b hb => owns_base HO.out hb), hown', HI.out.next HO.out (by repeat (first | exact Exts.refl _ | apply Exts.andR | apply Exts.alloc | apply Exts.wext | apply Exts.drew | apply Exts.drewN)) HD.out HG.out (HB.out.exts (by repeat (first | exact Exts.refl _ | apply Exts.andR | apply Exts.alloc | apply Exts.wext | apply Exts.drew | apply Exts.drewN))) hgrow⟩, ?_⟩
      simp [intOf]; omega
    · obtain rfl : k = n := by omega
      go_wp2
      go_ret2
      exact ⟨oo, oc, rfl, HX.out.trans (by repeat (first | exact Exts.refl _ | apply Exts.andR | apply Exts.alloc | apply Exts.wext | apply Exts.drew | apply Exts.drewN)), HL.out, HR.out, rows, (RowF.of_owns HO.out).mono fun _ _ => trivial, fun i V ps hd => HI.out i V ps (by have := (List.getElem?_eq_some_iff.1 hd).1; have := HL.out; omega) hd⟩
theorem read54_no {S : Nat → Prop} (lo : Option Addr) (n c : Nat) (D : List Dm) (w : World) (h : Dims S w lo n c D) (hr : rightD D = false) :
    Calls Tryz.prog 26 #[.slice lo n c] w fun e w' => e = .returned (.tuple #[.slice none 0 0, .bool false]) ∧ Exts w w' := by
  by_cases hn : 12 < n
  · exact read54_long lo n c D w h hn
  · obtain ⟨i0, hi, hz0, hz1, hz2⟩ := info_parts info87
    have hl := h.1
    have hm := h.nle
    unfold maxLen at hm
    have q1 : decide ((12 : Int) < (n : Int)) = false := by simp; omega
    have H := Lib.hid h
    have HL := Lib.hid hl
    have HR := Lib.hid hr
    clear h hl hr
    go_enter Tryz.func26, Tryz.ntmps26
    go_wp2
    go_loopw [4, 15] (fun o i wr => ∃ (k : Nat) (rows : List Value), k ≤ n ∧ i = .int .i64 k ∧ Exts w wr ∧ wr.ownsRow w.heap.size 105 1 o k rows ∧ ∀ d ∈ D.take k, (closedD d.1 d.2).2 = true) (fun _ i _ => n - (intOf i).toNat)
    case atStart => exact ⟨0, [], by omega, rfl, (by repeat (first | exact Exts.refl _ | apply Exts.andR | apply Exts.alloc | apply Exts.wext | apply Exts.drew | apply Exts.drewN)), World.ownsRow_nil _ _ _ _, by simp⟩
    case round =>
      obtain ⟨k, rows, hk, rfl, hx, hown, hin⟩ := hrel
      have HX := Lib.hid hx
      have HBS := Lib.hid (show w.heap.size ≤ wr.heap.size from hx.below.size)
      have HO := Lib.hid hown
      have HI := Lib.hid hin
      obtain ⟨oo, oc, rfl⟩ := owns_shape hown
      clear hx hown hin
      by_cases hlt : k < n
      · obtain ⟨b, off, V, ps, po, pc, rfl, hb, hd, e0, e1, hp⟩ := (H.out.exts HX.out).get hlt
        have HP := Lib.hid hp
        have HD := Lib.hid hd
        clear hp hd
        cases ho : (closedD V ps).2 with
        | false =>
          have HG := Lib.hid ho
          clear ho
          go_wp2_with (first | (go_at_call 42; ((with_reducible refine (closure63_no _ _ _ _ ps _ (RowF.exts HP.out (by repeat (first | exact Exts.refl _ | apply Exts.andR | apply Exts.alloc | apply Exts.wext | apply Exts.drew | apply Exts.drewN))) HG.out).mono ?_); rintro e w' ⟨ro, rn, rc, co, cn, cc, code, rfl, ⟨x1, rfl⟩, hc1, hc2, hc3⟩)))
          go_ret2
          exact ⟨rfl, HX.out.trans (by repeat (first | exact Exts.refl _ | apply Exts.andR | apply Exts.alloc | apply Exts.wext | apply Exts.drew | apply Exts.drewN))⟩
        | true =>
          obtain ⟨g, hg⟩ := closed_ok ho
          obtain ⟨m, rfl⟩ : ∃ m : Nat, V = m := by
            obtain ⟨⟨h1, _⟩, _⟩ := valid_in (closed_valid hg).1
            exact ⟨V.toNat, by omega⟩
          have HG := Lib.hid hg
          have HO2 := Lib.hid ho
          clear hg ho
          go_wp2_with (first | (go_at_call 42; ((with_reducible refine (closure63_ok _ _ _ _ ps g _ (RowF.exts HP.out (by repeat (first | exact Exts.refl _ | apply Exts.andR | apply Exts.alloc | apply Exts.wext | apply Exts.drew | apply Exts.drewN))) HG.out).mono ?_); rintro e w' ⟨ro, rc, co, cc, rfl, ⟨x1, rfl⟩, hb⟩; (try simp only [wext_and] at hb); (have HB := Lib.hid hb); clear hb)) | (at_builtin; refine wpList_append_lies _ rfl (.tmp 27) (.tmp 29) 75 rfl w.heap.size 105 i0 _ 1 24 Tryz.underlying75 hi hz0 hz1 hz2 rfl (by decide) (.slice oo k oc) k rows rfl (ownsRow_exts HO.out (by repeat (first | exact Exts.refl _ | apply Exts.andR | apply Exts.alloc | apply Exts.wext | apply Exts.drew | apply Exts.drewN))) ⟨_, 0, none⟩ 1 1 [.slice ro m rc] rfl rfl (by intro j u hj; match j, hj with | 0, hj => (simp at hj; subst hj; simp [go_sem])) (by intro u hu; simp at hu; subst hu; rfl) (by decide) (by unfold maxLen; omega) (by omega) (by have := HBS.out; simp; omega) _ rfl ?_; intro g2 cg w9 hown' hgrow hat hlt'))
          refine ⟨⟨k + 1, rows ++ [.slice ro m rc], by omega, by go_num, exts_of_grown (W := w) (HX.out.trans (by repeat (first | exact Exts.refl _ | apply Exts.andR | apply Exts.alloc | apply Exts.wext | apply Exts.drew | apply Exts.drewN))) hgrow (fun b hb => owns_base HO.out hb), hown', fun q hq => ?_⟩, ?_⟩
          · rw [List.take_add_one, HD.out, List.mem_append] at hq
            rcases hq with hq | hq
            · exact HI.out q hq
            · simp at hq
              rw [hq]
              exact HO2.out
          · simp [intOf]; omega
      · exfalso
        obtain rfl : k = n := by omega
        have h1 := HI.out
        rw [List.take_of_length_le (by rw [HL.out]; exact Nat.le_refl _)] at h1
        have h2 := HR.out
        have h3 : rightD D = true := by
          simp only [rightD, Bool.and_eq_true, List.all_eq_true, decide_eq_true_eq]
          exact ⟨h1, by have := HL.out; omega⟩
        rw [h2] at h3
        cases h3
end Go.Proofs.YtgmjcgjbbogefaaGreat


/- What precedents force: plain. -/
namespace Go.Proofs.YtgmjcgjbbogefaaGreat
open Go.RowKit
set_option linter.unusedSimpArgs false
set_option linter.unusedVariables false

noncomputable def checkD (D : List Dm) (B : List Cs) : Bool := rightD D && ((B.all fun c => inD D c.vals) && decide (B.map Cs.id).Nodup)
noncomputable def blkD (D : List Dm) (a b : List Int) : List Int := blkK D a b D.length
noncomputable def keepsD (D : List Dm) (c : Cs) (l : List Int) : List Int := if c.grant = true then blkD D c.vals l else blkD D l c.vals
noncomputable def forcesD (D : List Dm) (l : List Int) (c : Cs) : Bool := (keepsD D c l).isEmpty
noncomputable def forI (D : List Dm) (B : List Cs) (l : List Int) (i : Nat) : Bool := match B[i]? with | some c => forcesD D l c | none => false
noncomputable def byK (D : List Dm) (B : List Cs) (l : List Int) (k : Nat) : List Int := ((List.range k).filter fun i => forI D B l i).map Int.ofNat
noncomputable def sideB (D : List Dm) (B : List Cs) (l : List Int) (s : Bool) : Bool := B.any fun c => c.grant == s && forcesD D l c
noncomputable def whatD (D : List Dm) (B : List Cs) (l : List Int) : Int := if sideB D B l true = true then (if sideB D B l false = true then 3 else 1) else (if sideB D B l false = true then 2 else 0)
theorem forI_of {D : List Dm} {B : List Cs} {l : List Int} {i : Nat} {c : Cs} (h : B[i]? = some c) : forI D B l i = forcesD D l c := by
  unfold forI
  rw [h]
theorem byK_next (D : List Dm) (B : List Cs) (l : List Int) (k : Nat) : byK D B l (k + 1) = if forI D B l k = true then byK D B l k ++ [Int.ofNat k] else byK D B l k := by
  unfold byK
  rw [List.range_succ, List.filter_append, List.map_append]
  cases h : forI D B l k <;> simp [h]
theorem byK_len (D : List Dm) (B : List Cs) (l : List Int) (k : Nat) : (byK D B l k).length ≤ k := by
  unfold byK
  rw [List.length_map]
  exact Nat.le_trans (List.length_filter_le _ _) (by simp)
theorem sideB_next {D : List Dm} {B : List Cs} {l : List Int} {k : Nat} {c : Cs} (s : Bool) (h : B[k]? = some c) : sideB D (B.take (k + 1)) l s = (sideB D (B.take k) l s || (c.grant == s && forcesD D l c)) := by
  unfold sideB
  rw [List.take_add_one, h, List.any_append]
  simp
/-- Nothing is forced just if there is none that forces. -/
theorem by_nil {D : List Dm} {B : List Cs} {l : List Int} (h1 : sideB D B l true = false) (h2 : sideB D B l false = false) : byK D B l B.length = [] := by
  unfold byK
  rw [List.map_eq_nil_iff, List.filter_eq_nil_iff]
  intro i hi
  have hi := List.mem_range.1 hi
  rw [forI_of (List.getElem?_eq_getElem hi)]
  intro hc
  have hm : B[i] ∈ B := List.getElem_mem hi
  cases hg : B[i].grant with
  | true =>
    have : sideB D B l true = true := by
      simp only [sideB, List.any_eq_true, Bool.and_eq_true, beq_iff_eq]
      exact ⟨_, hm, hg, hc⟩
    rw [h1] at this; cases this
  | false =>
    have : sideB D B l false = true := by
      simp only [sideB, List.any_eq_true, Bool.and_eq_true, beq_iff_eq]
      exact ⟨_, hm, hg, hc⟩
    rw [h2] at this; cases this
end Go.Proofs.YtgmjcgjbbogefaaGreat

