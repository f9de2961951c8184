/- Lemmas that the laws of this seat share, 4 texts in one: ReadO, PrePlain, IsVec, Keeps. No condition of their own. -/
import Derived.Test.YtodgohilfbggjaaM10
import Derived.Deep.AppendLies
import Derived.Test.YtodgohilfbggjaaM4
import Derived.Test.YtodgohilfbggjaaM9
import Derived.BigRegion
/- read of package precedent: the closures of a list of dimensions. No condition. -/
namespace Go.Proofs.Ytodgohilfbggjaa
open Go.RowKit
set_option linter.unusedSimpArgs false
set_option linter.unusedVariables false

theorem closure63_ok {S : Nat → Prop} (m : Nat) (po : Option Addr) (n c : Nat) (ps : List Pr) (g : Rel) (w : World) (h : Prs S w po n c ps) (hok : closedD (m : Int) ps = (g, true)) :
    Calls Try.prog 63 #[.agg #[.int .i64 m, .slice po n c]] w fun e w' => ∃ ro rc co cc, e = .returned (.tuple #[.slice ro m rc, .slice co 0 cc, .int .i64 0]) ∧ Exts w w' ∧ BRows w' ro m m rc g := by
  refine (closure10 (m : Int) po n c ps w h).mono ?_
  rintro e w' ⟨ro, rn, rc, co, cn, cc, code, rfl, hx, hc⟩
  rcases hc with ⟨h1, rfl, rfl, rfl⟩ | ⟨h1, h2, rfl, rfl, _⟩ | ⟨h1, h2, rfl, rfl, h3⟩
  · rw [closed_no (.inl h1)] at hok; cases hok
  · rw [hok] at h2; cases h2
  · obtain rfl : rn = m := by omega
    rw [hok] at h3
    exact ⟨_, _, _, _, rfl, hx, h3⟩
theorem closure63_no {S : Nat → Prop} (V : Int) (po : Option Addr) (n c : Nat) (ps : List Pr) (w : World) (h : Prs S w po n c ps) (hok : (closedD V ps).2 = false) :
    Calls Try.prog 63 #[.agg #[.int .i64 V, .slice po n c]] w fun e w' => ∃ ro rn rc co cn cc code, e = .returned (.tuple #[.slice ro rn rc, .slice co cn cc, .int .i64 code]) ∧ Exts w w' ∧ (code == (0 : Int)) = false ∧ (code != (0 : Int)) = true ∧ ¬ code = 0 := by
  refine (closure10 V po n c ps w h).mono ?_
  rintro e w' ⟨ro, rn, rc, co, cn, cc, code, rfl, hx, hc⟩
  refine ⟨ro, rn, rc, co, cn, cc, code, rfl, hx, ?_⟩
  rcases hc with ⟨h1, rfl, rfl, rfl⟩ | ⟨h1, h2, rfl, rfl, _⟩ | ⟨h1, h2, rfl, rfl, h3⟩
  · exact ⟨rfl, rfl, by decide⟩
  · exact ⟨rfl, rfl, by decide⟩
  · rw [hok] at h1; cases h1
def OrdIn (w : World) (k : Nat) (D : List Dm) (rows : List Value) : Prop := ∀ (i : Nat) (V : Int) (ps : List Pr), i < k → D[i]? = some (V, ps) → ∃ (ro : Option Addr) (m rc : Nat) (g : Rel), rows[i]? = some (.slice ro m rc) ∧ V = m ∧ closedD (m : Int) ps = (g, true) ∧ BRows w ro m m rc g
theorem OrdIn.next {wr w w1 : World} {k base : Nat} {D : List Dm} {rows : List Value} {ov : Value} {ro : Option Addr} {m rc : Nat} {g : Rel} {ps : List Pr} (h : OrdIn wr k D rows) (hown : wr.ownsRow base 87 1 ov k rows) (he : Exts wr w) (hd : D[k]? = some ((m : Int), ps)) (hg : closedD (m : Int) ps = (g, true)) (hb : BRows w ro m m rc g) (hgrow : w.grownBy w1 ov.ownBlock) : OrdIn w1 (k + 1) D (rows ++ [.slice ro m rc]) := by
  have hlen : rows.length = k := by obtain ⟨h, _⟩ := hown; omega
  have hto : TypedBy 87 w ov := (TypedBy.of_owns hown).exts he
  intro i V qs hi hq
  by_cases hik : i < k
  · obtain ⟨r, m', c', g', e1, e2, e3, e4⟩ := h i V qs hik hq
    exact ⟨r, m', c', g', by rw [List.getElem?_append_left (by omega)]; exact e1, e2, e3, (e4.exts he).grown hgrow hto (by decide) (by decide)⟩
  · obtain rfl : i = k := by omega
    rw [hd] at hq
    cases hq
    exact ⟨ro, m, rc, g, by rw [List.getElem?_append_right (by omega), hlen, Nat.sub_self]; rfl, rfl, hg, hb.grown hgrow hto (by decide) (by decide)⟩
theorem info87 : (Try.prog.info? 87).map (fun i => (i.zero, i.size, i.bytes)) = some (some (.slice none 0 0), 1, 24) := by kernel_rfl
set_option maxRecDepth 100000
set_option maxHeartbeats 2000000
theorem read54_long {S : Nat → Prop} (lo : Option Addr) (n c : Nat) (D : List Dm) (w : World) (h : Dims S w lo n c D) (hn : 12 < n) :
    Calls Try.prog 54 #[.slice lo n c] w fun e w' => e = .returned (.tuple #[.slice none 0 0, .bool false]) ∧ Exts w w' := by
  have q1 : decide ((12 : Int) < (n : Int)) = true := by simp; omega
  have hm := h.nle
  unfold maxLen at hm
  clear h
  go_enter Try.func54, Try.ntmps54
  go_wp2
  go_ret2
  exact ⟨rfl, (by repeat (first | exact Exts.refl _ | apply Exts.andR | apply Exts.alloc | apply Exts.wext | apply Exts.drew | apply Exts.drewN))⟩
theorem read54_yes {S : Nat → Prop} (lo : Option Addr) (n c : Nat) (D : List Dm) (w : World) (h : Dims S w lo n c D) (hr : rightD D = true) :
    Calls Try.prog 54 #[.slice lo n c] w fun e w' => ∃ mo mc, e = .returned (.tuple #[.slice mo n mc, .bool true]) ∧ Exts w w' ∧ Ords w' mo n mc D := by
  obtain ⟨i0, hi, hz0, hz1, hz2⟩ := info_parts info87
  have hl := h.1
  have hm := h.nle
  unfold maxLen at hm
  have hn12 : n ≤ 12 := by
    simp only [rightD, Bool.and_eq_true, decide_eq_true_eq] at hr
    omega
  have q1 : decide ((12 : Int) < (n : Int)) = false := by simp; omega
  have H := Lib.hid h
  have HL := Lib.hid hl
  have HR := Lib.hid hr
  clear h hl hr
  go_enter Try.func54, Try.ntmps54
  go_wp2
  go_loopw [4, 15] (fun o i wr => ∃ (k : Nat) (rows : List Value), k ≤ n ∧ i = .int .i64 k ∧ Exts w wr ∧ wr.ownsRow w.heap.size 87 1 o k rows ∧ OrdIn wr k D rows) (fun _ i _ => n - (intOf i).toNat)
  case atStart => exact ⟨0, [], by omega, rfl, (by repeat (first | exact Exts.refl _ | apply Exts.andR | apply Exts.alloc | apply Exts.wext | apply Exts.drew | apply Exts.drewN)), World.ownsRow_nil _ _ _ _, fun i V ps hi => by omega⟩
  case round =>
    obtain ⟨k, rows, hk, rfl, hx, hown, hin⟩ := hrel
    have HX := Lib.hid hx
    have HBS := Lib.hid (show w.heap.size ≤ wr.heap.size from hx.below.size)
    have HO := Lib.hid hown
    have HI := Lib.hid hin
    obtain ⟨oo, oc, rfl⟩ := owns_shape hown
    clear hx hown hin
    by_cases hlt : k < n
    · obtain ⟨b, off, V, ps, po, pc, rfl, hb, hd, e0, e1, hp⟩ := (H.out.exts HX.out).get hlt
      obtain ⟨g, hg⟩ := closed_ok (right_at HR.out hd)
      have HP := Lib.hid hp
      obtain ⟨m, rfl⟩ : ∃ m : Nat, V = m := by
        obtain ⟨⟨h1, _⟩, _⟩ := valid_in (closed_valid hg).1
        exact ⟨V.toNat, by omega⟩
      have HG := Lib.hid hg
      have HD := Lib.hid hd
      clear hp hg hd
      go_wp2_with (first | (go_at_call 63; ((with_reducible refine (closure63_ok _ _ _ _ ps g _ (RowF.exts HP.out (by repeat (first | exact Exts.refl _ | apply Exts.andR | apply Exts.alloc | apply Exts.wext | apply Exts.drew | apply Exts.drewN))) HG.out).mono ?_); rintro e w' ⟨ro, rc, co, cc, rfl, ⟨x1, rfl⟩, hb⟩; (try simp only [wext_and] at hb); (have HB := Lib.hid hb); clear hb)) | (at_builtin; refine wpList_append_lies _ rfl (.tmp 27) (.tmp 29) 59 rfl w.heap.size 87 i0 _ 1 24 Try.underlying59 hi hz0 hz1 hz2 rfl (by decide) (.slice oo k oc) k rows rfl (ownsRow_exts HO.out (by repeat (first | exact Exts.refl _ | apply Exts.andR | apply Exts.alloc | apply Exts.wext | apply Exts.drew | apply Exts.drewN))) ⟨_, 0, none⟩ 1 1 [.slice ro m rc] rfl rfl (by intro j u hj; match j, hj with | 0, hj => (simp at hj; subst hj; simp [go_sem])) (by intro u hu; simp at hu; subst hu; rfl) (by decide) (by unfold maxLen; omega) (by omega) (by have := HBS.out; simp; omega) _ rfl ?_; intro g2 cg w9 hown' hgrow hat hlt'))
      refine ⟨⟨k + 1, rows ++ [.slice ro m rc], by omega, by go_num, exts_of_grown (W := w) (HX.out.trans (by repeat (first | exact Exts.refl _ | apply Exts.andR | apply Exts.alloc | apply Exts.wext | apply Exts.drew | apply Exts.drewN))) hgrow (fun b hb => owns_base HO.out hb), hown', HI.out.next HO.out (by repeat (first | exact Exts.refl _ | apply Exts.andR | apply Exts.alloc | apply Exts.wext | apply Exts.drew | apply Exts.drewN)) HD.out HG.out (HB.out.exts (by repeat (first | exact Exts.refl _ | apply Exts.andR | apply Exts.alloc | apply Exts.wext | apply Exts.drew | apply Exts.drewN))) hgrow⟩, ?_⟩
      simp [intOf]; omega
    · obtain rfl : k = n := by omega
      go_wp2
      go_ret2
      exact ⟨oo, oc, rfl, HX.out.trans (by repeat (first | exact Exts.refl _ | apply Exts.andR | apply Exts.alloc | apply Exts.wext | apply Exts.drew | apply Exts.drewN)), HL.out, HR.out, rows, (RowF.of_owns HO.out).mono fun _ _ => trivial, fun i V ps hd => HI.out i V ps (by have := (List.getElem?_eq_some_iff.1 hd).1; have := HL.out; omega) hd⟩
theorem read54_no {S : Nat → Prop} (lo : Option Addr) (n c : Nat) (D : List Dm) (w : World) (h : Dims S w lo n c D) (hr : rightD D = false) :
    Calls Try.prog 54 #[.slice lo n c] w fun e w' => e = .returned (.tuple #[.slice none 0 0, .bool false]) ∧ Exts w w' := by
  by_cases hn : 12 < n
  · exact read54_long lo n c D w h hn
  · obtain ⟨i0, hi, hz0, hz1, hz2⟩ := info_parts info87
    have hl := h.1
    have hm := h.nle
    unfold maxLen at hm
    have q1 : decide ((12 : Int) < (n : Int)) = false := by simp; omega
    have H := Lib.hid h
    have HL := Lib.hid hl
    have HR := Lib.hid hr
    clear h hl hr
    go_enter Try.func54, Try.ntmps54
    go_wp2
    go_loopw [4, 15] (fun o i wr => ∃ (k : Nat) (rows : List Value), k ≤ n ∧ i = .int .i64 k ∧ Exts w wr ∧ wr.ownsRow w.heap.size 87 1 o k rows ∧ ∀ d ∈ D.take k, (closedD d.1 d.2).2 = true) (fun _ i _ => n - (intOf i).toNat)
    case atStart => exact ⟨0, [], by omega, rfl, (by repeat (first | exact Exts.refl _ | apply Exts.andR | apply Exts.alloc | apply Exts.wext | apply Exts.drew | apply Exts.drewN)), World.ownsRow_nil _ _ _ _, by simp⟩
    case round =>
      obtain ⟨k, rows, hk, rfl, hx, hown, hin⟩ := hrel
      have HX := Lib.hid hx
      have HBS := Lib.hid (show w.heap.size ≤ wr.heap.size from hx.below.size)
      have HO := Lib.hid hown
      have HI := Lib.hid hin
      obtain ⟨oo, oc, rfl⟩ := owns_shape hown
      clear hx hown hin
      by_cases hlt : k < n
      · obtain ⟨b, off, V, ps, po, pc, rfl, hb, hd, e0, e1, hp⟩ := (H.out.exts HX.out).get hlt
        have HP := Lib.hid hp
        have HD := Lib.hid hd
        clear hp hd
        cases ho : (closedD V ps).2 with
        | false =>
          have HG := Lib.hid ho
          clear ho
          go_wp2_with (first | (go_at_call 63; ((with_reducible refine (closure63_no _ _ _ _ ps _ (RowF.exts HP.out (by repeat (first | exact Exts.refl _ | apply Exts.andR | apply Exts.alloc | apply Exts.wext | apply Exts.drew | apply Exts.drewN))) HG.out).mono ?_); rintro e w' ⟨ro, rn, rc, co, cn, cc, code, rfl, ⟨x1, rfl⟩, hc1, hc2, hc3⟩)))
          go_ret2
          exact ⟨rfl, HX.out.trans (by repeat (first | exact Exts.refl _ | apply Exts.andR | apply Exts.alloc | apply Exts.wext | apply Exts.drew | apply Exts.drewN))⟩
        | true =>
          obtain ⟨g, hg⟩ := closed_ok ho
          obtain ⟨m, rfl⟩ : ∃ m : Nat, V = m := by
            obtain ⟨⟨h1, _⟩, _⟩ := valid_in (closed_valid hg).1
            exact ⟨V.toNat, by omega⟩
          have HG := Lib.hid hg
          have HO2 := Lib.hid ho
          clear hg ho
          go_wp2_with (first | (go_at_call 63; ((with_reducible refine (closure63_ok _ _ _ _ ps g _ (RowF.exts HP.out (by repeat (first | exact Exts.refl _ | apply Exts.andR | apply Exts.alloc | apply Exts.wext | apply Exts.drew | apply Exts.drewN))) HG.out).mono ?_); rintro e w' ⟨ro, rc, co, cc, rfl, ⟨x1, rfl⟩, hb⟩; (try simp only [wext_and] at hb); (have HB := Lib.hid hb); clear hb)) | (at_builtin; refine wpList_append_lies _ rfl (.tmp 27) (.tmp 29) 59 rfl w.heap.size 87 i0 _ 1 24 Try.underlying59 hi hz0 hz1 hz2 rfl (by decide) (.slice oo k oc) k rows rfl (ownsRow_exts HO.out (by repeat (first | exact Exts.refl _ | apply Exts.andR | apply Exts.alloc | apply Exts.wext | apply Exts.drew | apply Exts.drewN))) ⟨_, 0, none⟩ 1 1 [.slice ro m rc] rfl rfl (by intro j u hj; match j, hj with | 0, hj => (simp at hj; subst hj; simp [go_sem])) (by intro u hu; simp at hu; subst hu; rfl) (by decide) (by unfold maxLen; omega) (by omega) (by have := HBS.out; simp; omega) _ rfl ?_; intro g2 cg w9 hown' hgrow hat hlt'))
          refine ⟨⟨k + 1, rows ++ [.slice ro m rc], by omega, by go_num, exts_of_grown (W := w) (HX.out.trans (by repeat (first | exact Exts.refl _ | apply Exts.andR | apply Exts.alloc | apply Exts.wext | apply Exts.drew | apply Exts.drewN))) hgrow (fun b hb => owns_base HO.out hb), hown', fun q hq => ?_⟩, ?_⟩
          · rw [List.take_add_one, HD.out, List.mem_append] at hq
            rcases hq with hq | hq
            · exact HI.out q hq
            · simp at hq
              rw [hq]
              exact HO2.out
          · simp [intOf]; omega
      · exfalso
        obtain rfl : k = n := by omega
        have h1 := HI.out
        rw [List.take_of_length_le (by rw [HL.out]; exact Nat.le_refl _)] at h1
        have h2 := HR.out
        have h3 : rightD D = true := by
          simp only [rightD, Bool.and_eq_true, List.all_eq_true, decide_eq_true_eq]
          exact ⟨h1, by have := HL.out; omega⟩
        rw [h2] at h3
        cases h3
end Go.Proofs.Ytodgohilfbggjaa

/- What precedents force: plain. -/
namespace Go.Proofs.Ytodgohilfbggjaa
open Go.RowKit
set_option linter.unusedSimpArgs false
set_option linter.unusedVariables false

/-- A base is right for dimensions. -/
def uniqB : List Cs → Bool
  | [] => true
  | c :: B => !(B.any fun d => d.id == c.id) && uniqB B
noncomputable def checkD (D : List Dm) (B : List Cs) : Bool := rightD D && ((B.all fun c => inD D c.vals) && decide (B.map Cs.id).Nodup)
noncomputable def blkD (D : List Dm) (a b : List Int) : List Int := blkK D a b D.length
noncomputable def keepsD (D : List Dm) (c : Cs) (l : List Int) : List Int := if c.grant = true then blkD D c.vals l else blkD D l c.vals
noncomputable def forcesD (D : List Dm) (l : List Int) (c : Cs) : Bool := (keepsD D c l).isEmpty
noncomputable def forI (D : List Dm) (B : List Cs) (l : List Int) (i : Nat) : Bool := match B[i]? with | some c => forcesD D l c | none => false
noncomputable def byK (D : List Dm) (B : List Cs) (l : List Int) (k : Nat) : List Int := ((List.range k).filter fun i => forI D B l i).map Int.ofNat
noncomputable def sideB (D : List Dm) (B : List Cs) (l : List Int) (s : Bool) : Bool := B.any fun c => c.grant == s && forcesD D l c
noncomputable def whatD (D : List Dm) (B : List Cs) (l : List Int) : Int := if sideB D B l true = true then (if sideB D B l false = true then 3 else 1) else (if sideB D B l false = true then 2 else 0)
theorem forI_of {D : List Dm} {B : List Cs} {l : List Int} {i : Nat} {c : Cs} (h : B[i]? = some c) : forI D B l i = forcesD D l c := by
  unfold forI
  rw [h]
theorem byK_next (D : List Dm) (B : List Cs) (l : List Int) (k : Nat) : byK D B l (k + 1) = if forI D B l k = true then byK D B l k ++ [Int.ofNat k] else byK D B l k := by
  unfold byK
  rw [List.range_succ, List.filter_append, List.map_append]
  cases h : forI D B l k <;> simp [h]
theorem byK_len (D : List Dm) (B : List Cs) (l : List Int) (k : Nat) : (byK D B l k).length ≤ k := by
  unfold byK
  rw [List.length_map]
  exact Nat.le_trans (List.length_filter_le _ _) (by simp)
theorem sideB_next {D : List Dm} {B : List Cs} {l : List Int} {k : Nat} {c : Cs} (s : Bool) (h : B[k]? = some c) : sideB D (B.take (k + 1)) l s = (sideB D (B.take k) l s || (c.grant == s && forcesD D l c)) := by
  unfold sideB
  rw [List.take_add_one, h, List.any_append]
  simp
theorem blkD_len (D : List Dm) (a b : List Int) : (blkD D a b).length ≤ D.length := blkK_len D a b D.length
theorem keepsD_len (D : List Dm) (c : Cs) (l : List Int) : (keepsD D c l).length ≤ D.length := by
  unfold keepsD
  split <;> exact blkD_len _ _ _
/-- Nothing is forced just if there is none that forces. -/
theorem by_nil {D : List Dm} {B : List Cs} {l : List Int} (h1 : sideB D B l true = false) (h2 : sideB D B l false = false) : byK D B l B.length = [] := by
  unfold byK
  rw [List.map_eq_nil_iff, List.filter_eq_nil_iff]
  intro i hi
  have hi := List.mem_range.1 hi
  rw [forI_of (List.getElem?_eq_getElem hi)]
  intro hc
  have hm : B[i] ∈ B := List.getElem_mem hi
  cases hg : B[i].grant with
  | true =>
    have : sideB D B l true = true := by
      simp only [sideB, List.any_eq_true, Bool.and_eq_true, beq_iff_eq]
      exact ⟨_, hm, hg, hc⟩
    rw [h1] at this; cases this
  | false =>
    have : sideB D B l false = true := by
      simp only [sideB, List.any_eq_true, Bool.and_eq_true, beq_iff_eq]
      exact ⟨_, hm, hg, hc⟩
    rw [h2] at this; cases this
end Go.Proofs.Ytodgohilfbggjaa

/- isVector, blocks and keeps of package precedent. No condition but that the closures lie there. -/
namespace Go.Proofs.Ytodgohilfbggjaa
open Go.RowKit
set_option linter.unusedSimpArgs false
set_option linter.unusedVariables false
set_option maxRecDepth 100000
set_option maxHeartbeats 2000000
theorem isVector32 {S : Nat → Prop} (mo ao : Option Addr) (n mc na ca : Nat) (D : List Dm) (al : List Int) (w : World) (h : Ords w mo n mc D) (ha : Ints S w ao na ca al) :
    Calls Try.prog 32 #[.slice mo n mc, .slice ao na ca] w fun e w' => e = .returned (.bool (inD D al)) ∧ Exts w w' := by
  have hm := h.nle
  have hma := RowF.nle ha
  unfold maxLen at hm hma
  have hl := h.1
  have hla := ints_len ha
  have H := Lib.hid h
  have HA := Lib.hid ha
  have HL := Lib.hid hl
  have HLA := Lib.hid hla
  clear h ha hl hla
  by_cases hne : na = n
  · subst hne
    go_enter Try.func32, Try.ntmps32
    go_wp2
    go_loopw [14] (fun i wr => ∃ (k : Nat), k ≤ na ∧ i = .int .i64 k ∧ Exts w wr ∧ ∀ (i : Nat) (d : Dm) (x : Int), i < k → D[i]? = some d → al[i]? = some x → inV d.1 x = true) (fun i _ => na - (intOf i).toNat)
    case atStart => exact ⟨0, by omega, rfl, Exts.refl _, fun i d x hi => by omega⟩
    case round =>
      obtain ⟨k, hk, rfl, ⟨x, rfl⟩, hin⟩ := hrel
      have HI := Lib.hid hin
      clear hin
      by_cases hlt : k < na
      · obtain ⟨b, off, m, ps, g, b2, o2, rc, rb, rof, rcap, rfl, hb, hd, hg, e0, _⟩ := H.out.get hlt
        obtain ⟨b1, off1, xa, rfl, hb1, hxa, f1⟩ := ints_get HA.out hlt
        have HD := Lib.hid hd
        have HXA := Lib.hid hxa
        clear hd hxa hg
        by_cases h0 : xa < 0
        · have q1 : decide (xa < 0) = true := by simpa using h0
          have HR := Lib.hid (inD_no HD.out HXA.out (by omega))
          go_wp2
          go_ret
          exact ⟨by rw [HR.out]; rfl, (by repeat (first | exact Exts.refl _ | apply Exts.andR | apply Exts.alloc | apply Exts.wext | apply Exts.drew | apply Exts.drewN))⟩
        · have q1 : decide (xa < 0) = false := by simpa using h0
          by_cases h1 : (m : Int) ≤ xa
          · have q2 : decide ((m : Int) ≤ xa) = true := by simpa using h1
            have HR := Lib.hid (inD_no HD.out HXA.out (by omega))
            go_wp2
            go_ret
            exact ⟨by rw [HR.out]; rfl, (by repeat (first | exact Exts.refl _ | apply Exts.andR | apply Exts.alloc | apply Exts.wext | apply Exts.drew | apply Exts.drewN))⟩
          · have q2 : decide ((m : Int) ≤ xa) = false := by simpa using h1
            have HQ := Lib.hid (show inV (m : Int) xa = true by simp [inV]; omega)
            clear h0 h1
            go_wp2
            refine ⟨⟨k + 1, by omega, by go_num, (by repeat (first | exact Exts.refl _ | apply Exts.andR | apply Exts.alloc | apply Exts.wext | apply Exts.drew | apply Exts.drewN)), fun i d y hi h1 h2 => ?_⟩, ?_⟩
            · by_cases hik : i = k
              · rw [hik, HD.out] at h1
                rw [hik, HXA.out] at h2
                cases h1; cases h2
                exact HQ.out
              · exact HI.out i d y (by omega) h1 h2
            · simp [intOf]; omega
      · obtain rfl : k = na := by omega
        have HR := Lib.hid (show inD D al = true from inD_iff.2 ⟨by rw [HL.out, HLA.out], fun i d x h1 h2 => HI.out i d x (by have := (List.getElem?_eq_some_iff.1 h2).1; have := HLA.out; omega) h1 h2⟩)
        go_wp2
        go_ret
        exact ⟨by rw [HR.out]; rfl, (by repeat (first | exact Exts.refl _ | apply Exts.andR | apply Exts.alloc | apply Exts.wext | apply Exts.drew | apply Exts.drewN))⟩
  · have q1 : ((na : Int) == (n : Int)) = false := by simp; omega
    have q2 : ((na : Int) != (n : Int)) = true := by simp; omega
    have q3 : ¬ ((na : Int) = (n : Int)) := by omega
    have HR := Lib.hid (show inD D al = false by
      refine Bool.eq_false_iff.2 fun hc => hne ?_
      have := (inD_iff.1 hc).1
      have := HL.out
      have := HLA.out
      omega)
    clear hne
    go_enter Try.func32, Try.ntmps32
    go_wp2
    go_ret
    exact ⟨by rw [HR.out]; rfl, (by repeat (first | exact Exts.refl _ | apply Exts.andR | apply Exts.alloc | apply Exts.wext | apply Exts.drew | apply Exts.drewN))⟩
theorem in_at3 {D : List Dm} {al : List Int} {V x : Int} {ps : List Pr} {i : Nat} (h : inD D al = true) (hd : D[i]? = some (V, ps)) (hx : al[i]? = some x) : 0 ≤ x ∧ x < V := by
  have := (inD_iff.1 h).2 i (V, ps) x hd hx
  simpa [inV] using this
theorem atD_in {m u v : Nat} {ps : List Pr} {g : Rel} (hg : closedD (m : Int) ps = (g, true)) (hu : u < m) (hv : v < m) : atD (m : Int) ps u v = g u v := by
  have h1 : inV (m : Int) u = true := by simp [inV]; omega
  have h2 : inV (m : Int) v = true := by simp [inV]; omega
  unfold atD
  rw [hg, h1, h2]
  simp
theorem blocks39 {S S1 : Nat → Prop} (mo ao bo : Option Addr) (n mc na ca nb cb : Nat) (D : List Dm) (al bl : List Int) (w : World) (h : Ords w mo n mc D) (ha : Ints S w ao na ca al) (hb : Ints S1 w bo nb cb bl) (hia : inD D al = true) (hib : inD D bl = true) :
    Calls Try.prog 39 #[.slice mo n mc, .slice ao na ca, .slice bo nb cb] w fun e w' => ∃ ro rc, e = .returned (.slice ro (blkD D al bl).length rc) ∧ Exts w w' ∧ Ints (fun b => w.heap.size ≤ b) w' ro (blkD D al bl).length rc (blkD D al bl) ∧ TypedBy 3 w' (.slice ro (blkD D al bl).length rc) := by
  obtain ⟨i0, hi, hz0, hz1, hz2⟩ := info_parts info3
  have hm := h.nle
  have hn12 := h.le12
  have hma := RowF.nle ha
  have hmb := RowF.nle hb
  unfold maxLen at hm hma hmb
  have hl := h.1
  have hla := ints_len ha
  have hlb := ints_len hb
  have hA := (inD_iff.1 hia).1
  have hB := (inD_iff.1 hib).1
  obtain ⟨rfl, rfl⟩ : na = n ∧ nb = n := by omega
  have H := Lib.hid h
  have HA := Lib.hid ha
  have HB := Lib.hid hb
  have HIA := Lib.hid hia
  have HIB := Lib.hid hib
  have HL := Lib.hid hl
  clear h ha hb hl hla hlb hA hB hia hib
  have HR := Lib.hid (show blkD D al bl = blkK D al bl nb by unfold blkD; rw [HL.out])
  go_enter Try.func39, Try.ntmps39
  go_wp2
  go_loopw [7, 11] (fun o i wr => ∃ (k m : Nat), k ≤ nb ∧ (blkK D al bl k).length = m ∧ i = .int .i64 k ∧ Exts w wr ∧ wr.ownsRow w.heap.size 3 1 o m (intsC (blkK D al bl k))) (fun _ i _ => nb - (intOf i).toNat)
  case atStart => exact ⟨0, 0, by omega, rfl, rfl, (by repeat (first | exact Exts.refl _ | apply Exts.andR | apply Exts.alloc | apply Exts.wext | apply Exts.drew | apply Exts.drewN)), World.ownsRow_nil _ _ _ _⟩
  case round =>
    obtain ⟨k, m, hk, hmk, rfl, hx, hown⟩ := hrel
    have HX := Lib.hid hx
    have HBS := Lib.hid (show w.heap.size ≤ wr.heap.size from hx.below.size)
    obtain ⟨ao2, c2, rfl⟩ := owns_shape hown
    have hmle := blkK_len D al bl k
    rw [hmk] at hmle
    have HO := Lib.hid hown
    have HMK := Lib.hid hmk
    clear hx hown hmk
    by_cases hlt : k < nb
    · obtain ⟨b, off, mm, ps, g, b2, o2, rc, rb, rof, rcap, rfl, lb, hd, hg, e0, lb2, e1, lr, e2⟩ := (H.out.exts HX.out).get hlt
      obtain ⟨b1, off1, xa, rfl, hb1, hxa, f1⟩ := ints_get (RowF.exts HA.out HX.out) hlt
      obtain ⟨b3, off3, xb, rfl, hb3, hxb, f2⟩ := ints_get (RowF.exts HB.out HX.out) hlt
      obtain ⟨a1, a2⟩ := in_at3 HIA.out hd hxa
      obtain ⟨a3, a4⟩ := in_at3 HIB.out hd hxb
      obtain ⟨u, rfl⟩ : ∃ u : Nat, xa = u := ⟨xa.toNat, by omega⟩
      obtain ⟨v, rfl⟩ : ∃ v : Nat, xb = v := ⟨xb.toNat, by omega⟩
      have hu : u < mm := by omega
      have hv : v < mm := by omega
      have c1 := e1 u hu
      have l1 := lr u hu
      have c2' := e2 u v hu hv
      obtain ⟨t, ht⟩ : ∃ t, g u v = t := ⟨_, rfl⟩
      rw [ht] at c2'
      have hat := atI_of hd hxa hxb
      rw [atD_in hg hu hv, ht] at hat
      have HN := Lib.hid (blkK_next D al bl k)
      have HAT := Lib.hid hat
      clear hd hxa hxb hat hg a1 a2 a3 a4 e1 e2 lr ht
      cases t with
      | true =>
        have HE := Lib.hid (show blkK D al bl (k + 1) = blkK D al bl k by rw [HN.out, HAT.out]; rfl)
        go_wp2
        first | refine wp_region_ext_lit2 (by kernel_rfl) (by kernel_rfl) ?_ | refine wp_region_ext_lit (by kernel_rfl) (by kernel_rfl) ?_
        repeat (go_big_quiet_step (fail))
        refine wpQuiet_nil ?_
        intro _ hwq'
        obtain ⟨xq, hwq''⟩ := hwq'
        subst hwq''
        go_wp2
        refine ⟨⟨k + 1, m, by omega, by rw [HE.out]; exact HMK.out, by go_num, HX.out.trans (by repeat (first | exact Exts.refl _ | apply Exts.andR | apply Exts.alloc | apply Exts.wext | apply Exts.drew | apply Exts.drewN)), by rw [HE.out]; exact ownsRow_exts HO.out (by repeat (first | exact Exts.refl _ | apply Exts.andR | apply Exts.alloc | apply Exts.wext | apply Exts.drew | apply Exts.drewN))⟩, ?_⟩
        simp [intOf]; omega
      | false =>
        have HE := Lib.hid (show blkK D al bl (k + 1) = blkK D al bl k ++ [(k : Int)] by rw [HN.out, HAT.out]; rfl)
        go_wp2
        first | refine wp_region_ext_lit2 (by kernel_rfl) (by kernel_rfl) ?_ | refine wp_region_ext_lit (by kernel_rfl) (by kernel_rfl) ?_
        repeat (go_big_quiet_step (fail))
        refine wpQuiet_nil ?_
        intro _ hwq'
        obtain ⟨xq, hwq''⟩ := hwq'
        subst hwq''
        go_wp2_with (at_builtin; refine wpList_append_lies _ rfl (.tmp 31) (.tmp 33) 24 rfl w.heap.size 3 i0 _ 1 8 Try.underlying24 hi hz0 hz1 hz2 rfl (by decide) (.slice ao2 m c2) m (intsC (blkK D al bl k)) rfl (ownsRow_exts HO.out (by repeat (first | exact Exts.refl _ | apply Exts.andR | apply Exts.alloc | apply Exts.wext | apply Exts.drew | apply Exts.drewN))) ⟨_, 0, none⟩ 1 1 [.int .i64 k] rfl rfl (by intro j u hj; match j, hj with | 0, hj => (simp at hj; subst hj; simp [go_sem])) (int_one _) (by decide) (by unfold maxLen; omega) (by omega) (by have := HBS.out; simp; omega) _ rfl ?_; intro g2 cg w1 hown' hgrow hat hlt')
        refine ⟨⟨k + 1, m + 1, by omega, by rw [HE.out, List.length_append, HMK.out]; rfl, by go_num, exts_of_grown (W := w) (HX.out.trans (by repeat (first | exact Exts.refl _ | apply Exts.andR | apply Exts.alloc | apply Exts.wext | apply Exts.drew | apply Exts.drewN))) hgrow (fun b hb => (HO.out.lt b hb).1), by rw [HE.out, intsC_snoc]; exact hown'⟩, ?_⟩
        simp [intOf]; omega
    · obtain rfl : k = nb := by omega
      go_wp2
      go_ret
      exact ⟨ao2, c2, by rw [HR.out, HMK.out]; rfl, HX.out.trans (by repeat (first | exact Exts.refl _ | apply Exts.andR | apply Exts.alloc | apply Exts.wext | apply Exts.drew | apply Exts.drewN)), by rw [HR.out, HMK.out]; exact RowF.of_owns (ownsRow_exts HO.out (by repeat (first | exact Exts.refl _ | apply Exts.andR | apply Exts.alloc | apply Exts.wext | apply Exts.drew | apply Exts.drewN))), by rw [HR.out, HMK.out]; exact TypedBy.of_owns (ownsRow_exts HO.out (by repeat (first | exact Exts.refl _ | apply Exts.andR | apply Exts.alloc | apply Exts.wext | apply Exts.drew | apply Exts.drewN)))⟩
end Go.Proofs.Ytodgohilfbggjaa

/- blocks of the reference of chapter 39; keeps and against. No condition but that the closures lie there. -/
namespace Go.Proofs.Ytodgohilfbggjaa
open Go.RowKit
set_option linter.unusedSimpArgs false
set_option linter.unusedVariables false
set_option maxRecDepth 100000
set_option maxHeartbeats 2000000
theorem blocks40 {S S1 : Nat → Prop} (mo ao bo : Option Addr) (n mc na ca nb cb : Nat) (D : List Dm) (al bl : List Int) (w : World) (h : Ords w mo n mc D) (ha : Ints S w ao na ca al) (hb : Ints S1 w bo nb cb bl) (hia : inD D al = true) (hib : inD D bl = true) :
    Calls Try.prog 40 #[.slice mo n mc, .slice ao na ca, .slice bo nb cb] w fun e w' => ∃ ro rc, e = .returned (.slice ro (blkD D al bl).length rc) ∧ Exts w w' ∧ Ints (fun b => w.heap.size ≤ b) w' ro (blkD D al bl).length rc (blkD D al bl) ∧ TypedBy 3 w' (.slice ro (blkD D al bl).length rc) := by
  obtain ⟨i0, hi, hz0, hz1, hz2⟩ := info_parts info3
  have hm := h.nle
  have hn12 := h.le12
  have hma := RowF.nle ha
  have hmb := RowF.nle hb
  unfold maxLen at hm hma hmb
  have hl := h.1
  have hla := ints_len ha
  have hlb := ints_len hb
  have hA := (inD_iff.1 hia).1
  have hB := (inD_iff.1 hib).1
  obtain ⟨rfl, rfl⟩ : na = n ∧ nb = n := by omega
  have H := Lib.hid h
  have HA := Lib.hid ha
  have HB := Lib.hid hb
  have HIA := Lib.hid hia
  have HIB := Lib.hid hib
  have HL := Lib.hid hl
  clear h ha hb hl hla hlb hA hB hia hib
  have HR := Lib.hid (show blkD D al bl = blkK D al bl nb by unfold blkD; rw [HL.out])
  go_enter Try.func40, Try.ntmps40
  go_wp2
  go_loopw [7, 8] (fun o i wr => ∃ (k m : Nat), k ≤ nb ∧ (blkK D al bl k).length = m ∧ i = .int .i64 k ∧ Exts w wr ∧ wr.ownsRow w.heap.size 3 1 o m (intsC (blkK D al bl k))) (fun _ i _ => nb - (intOf i).toNat)
  case atStart => exact ⟨0, 0, by omega, rfl, rfl, (by repeat (first | exact Exts.refl _ | apply Exts.andR | apply Exts.alloc | apply Exts.wext | apply Exts.drew | apply Exts.drewN)), World.ownsRow_nil _ _ _ _⟩
  case round =>
    obtain ⟨k, m, hk, hmk, rfl, hx, hown⟩ := hrel
    have HX := Lib.hid hx
    have HBS := Lib.hid (show w.heap.size ≤ wr.heap.size from hx.below.size)
    obtain ⟨ao2, c2, rfl⟩ := owns_shape hown
    have hmle := blkK_len D al bl k
    rw [hmk] at hmle
    have HO := Lib.hid hown
    have HMK := Lib.hid hmk
    clear hx hown hmk
    by_cases hlt : k < nb
    · obtain ⟨b, off, mm, ps, g, b2, o2, rc, rb, rof, rcap, rfl, lb, hd, hg, e0, lb2, e1, lr, e2⟩ := (H.out.exts HX.out).get hlt
      obtain ⟨b1, off1, xa, rfl, hb1, hxa, f1⟩ := ints_get (RowF.exts HA.out HX.out) hlt
      obtain ⟨b3, off3, xb, rfl, hb3, hxb, f2⟩ := ints_get (RowF.exts HB.out HX.out) hlt
      obtain ⟨a1, a2⟩ := in_at3 HIA.out hd hxa
      obtain ⟨a3, a4⟩ := in_at3 HIB.out hd hxb
      obtain ⟨u, rfl⟩ : ∃ u : Nat, xa = u := ⟨xa.toNat, by omega⟩
      obtain ⟨v, rfl⟩ : ∃ v : Nat, xb = v := ⟨xb.toNat, by omega⟩
      have hu : u < mm := by omega
      have hv : v < mm := by omega
      have c1 := e1 u hu
      have l1 := lr u hu
      have c2' := e2 u v hu hv
      obtain ⟨t, ht⟩ : ∃ t, g u v = t := ⟨_, rfl⟩
      rw [ht] at c2'
      have hat := atI_of hd hxa hxb
      rw [atD_in hg hu hv, ht] at hat
      have HN := Lib.hid (blkK_next D al bl k)
      have HAT := Lib.hid hat
      clear hd hxa hxb hat hg a1 a2 a3 a4 e1 e2 lr ht
      cases t with
      | true =>
        have HE := Lib.hid (show blkK D al bl (k + 1) = blkK D al bl k by rw [HN.out, HAT.out]; rfl)
        go_wp2
        first | refine wp_region_ext_lit2 (by kernel_rfl) (by kernel_rfl) ?_ | refine wp_region_ext_lit (by kernel_rfl) (by kernel_rfl) ?_
        repeat (go_big_quiet_step (fail))
        refine wpQuiet_nil ?_
        intro _ hwq'
        obtain ⟨xq, hwq''⟩ := hwq'
        subst hwq''
        go_wp2
        refine ⟨⟨k + 1, m, by omega, by rw [HE.out]; exact HMK.out, by go_num, HX.out.trans (by repeat (first | exact Exts.refl _ | apply Exts.andR | apply Exts.alloc | apply Exts.wext | apply Exts.drew | apply Exts.drewN)), by rw [HE.out]; exact ownsRow_exts HO.out (by repeat (first | exact Exts.refl _ | apply Exts.andR | apply Exts.alloc | apply Exts.wext | apply Exts.drew | apply Exts.drewN))⟩, ?_⟩
        simp [intOf]; omega
      | false =>
        have HE := Lib.hid (show blkK D al bl (k + 1) = blkK D al bl k ++ [(k : Int)] by rw [HN.out, HAT.out]; rfl)
        go_wp2
        first | refine wp_region_ext_lit2 (by kernel_rfl) (by kernel_rfl) ?_ | refine wp_region_ext_lit (by kernel_rfl) (by kernel_rfl) ?_
        repeat (go_big_quiet_step (fail))
        refine wpQuiet_nil ?_
        intro _ hwq'
        obtain ⟨xq, hwq''⟩ := hwq'
        subst hwq''
        go_wp2_with (at_builtin; refine wpList_append_lies _ rfl (.tmp 32) (.tmp 34) 24 rfl w.heap.size 3 i0 _ 1 8 Try.underlying24 hi hz0 hz1 hz2 rfl (by decide) (.slice ao2 m c2) m (intsC (blkK D al bl k)) rfl (ownsRow_exts HO.out (by repeat (first | exact Exts.refl _ | apply Exts.andR | apply Exts.alloc | apply Exts.wext | apply Exts.drew | apply Exts.drewN))) ⟨_, 0, none⟩ 1 1 [.int .i64 k] rfl rfl (by intro j u hj; match j, hj with | 0, hj => (simp at hj; subst hj; simp [go_sem])) (int_one _) (by decide) (by unfold maxLen; omega) (by omega) (by have := HBS.out; simp; omega) _ rfl ?_; intro g2 cg w1 hown' hgrow hat hlt')
        refine ⟨⟨k + 1, m + 1, by omega, by rw [HE.out, List.length_append, HMK.out]; rfl, by go_num, exts_of_grown (W := w) (HX.out.trans (by repeat (first | exact Exts.refl _ | apply Exts.andR | apply Exts.alloc | apply Exts.wext | apply Exts.drew | apply Exts.drewN))) hgrow (fun b hb => (HO.out.lt b hb).1), by rw [HE.out, intsC_snoc]; exact hown'⟩, ?_⟩
        simp [intOf]; omega
    · obtain rfl : k = nb := by omega
      go_wp2
      go_ret
      exact ⟨ao2, c2, by rw [HR.out, HMK.out]; rfl, HX.out.trans (by repeat (first | exact Exts.refl _ | apply Exts.andR | apply Exts.alloc | apply Exts.wext | apply Exts.drew | apply Exts.drewN)), by rw [HR.out, HMK.out]; exact RowF.of_owns (ownsRow_exts HO.out (by repeat (first | exact Exts.refl _ | apply Exts.andR | apply Exts.alloc | apply Exts.wext | apply Exts.drew | apply Exts.drewN))), by rw [HR.out, HMK.out]; exact TypedBy.of_owns (ownsRow_exts HO.out (by repeat (first | exact Exts.refl _ | apply Exts.andR | apply Exts.alloc | apply Exts.wext | apply Exts.drew | apply Exts.drewN)))⟩
theorem blocks39_N {S S1 : Nat → Prop} (mo ao bo : Option Addr) (n mc na ca nb cb : Nat) (D : List Dm) (al bl ks : List Int) (m : Nat) (w : World) (h : Ords w mo n mc D) (ha : Ints S w ao na ca al) (hb : Ints S1 w bo nb cb bl) (hia : inD D al = true) (hib : inD D bl = true) (hk : blkD D al bl = ks) (hm : ks.length = m) :
    Calls Try.prog 39 #[.slice mo n mc, .slice ao na ca, .slice bo nb cb] w fun e w' => ∃ ro rc, e = .returned (.slice ro m rc) ∧ Exts w w' ∧ Ints (fun b => w.heap.size ≤ b) w' ro m rc ks ∧ TypedBy 3 w' (.slice ro m rc) := by
  subst hk hm
  exact blocks39 mo ao bo n mc na ca nb cb D al bl w h ha hb hia hib
theorem keeps43 {S S1 : Nat → Prop} (mo vo ao : Option Addr) (n mc vn vc na ca : Nat) (D : List Dm) (id : Int) (vs al : List Int) (gr : Bool) (ks : List Int) (m : Nat) (w : World) (h : Ords w mo n mc D) (hv : Ints S w vo vn vc vs) (ha : Ints S1 w ao na ca al) (hiv : inD D vs = true) (hia : inD D al = true) (hk : keepsD D ⟨id, vs, gr⟩ al = ks) (hm : ks.length = m) :
    Calls Try.prog 43 #[.slice mo n mc, .agg #[.int .i64 id, .slice vo vn vc, .bool gr], .slice ao na ca] w fun e w' => ∃ ro rc, e = .returned (.slice ro m rc) ∧ Exts w w' ∧ Ints (fun b => w.heap.size ≤ b) w' ro m rc ks ∧ TypedBy 3 w' (.slice ro m rc) := by
  have H := Lib.hid h
  have HV := Lib.hid hv
  have HA := Lib.hid ha
  have HIV := Lib.hid hiv
  have HIA := Lib.hid hia
  have HM := Lib.hid hm
  cases gr with
  | true =>
    have HK := Lib.hid (show blkD D vs al = ks from hk)
    clear h hv ha hiv hia hk hm
    go_enter Try.func43, Try.ntmps43
    go_wp2_with (first | (go_at_call 39; ((with_reducible refine (blocks39_N _ _ _ _ _ _ _ _ _ D vs al ks m _ (H.out.exts (by repeat (first | exact Exts.refl _ | apply Exts.andR | apply Exts.alloc | apply Exts.wext | apply Exts.drew | apply Exts.drewN))) (RowF.exts HV.out (by repeat (first | exact Exts.refl _ | apply Exts.andR | apply Exts.alloc | apply Exts.wext | apply Exts.drew | apply Exts.drewN))) (RowF.exts HA.out (by repeat (first | exact Exts.refl _ | apply Exts.andR | apply Exts.alloc | apply Exts.wext | apply Exts.drew | apply Exts.drewN))) HIV.out HIA.out HK.out HM.out).mono ?_); rintro e w' ⟨ro, rc, rfl, ⟨x1, rfl⟩, hr⟩; (have HR := Lib.hid hr); clear hr)))
    go_ret
    exact ⟨ro, rc, rfl, (by repeat (first | exact Exts.refl _ | apply Exts.andR | apply Exts.alloc | apply Exts.wext | apply Exts.drew | apply Exts.drewN)), (RowF.exts HR.out.1 (by repeat (first | exact Exts.refl _ | apply Exts.andR | apply Exts.alloc | apply Exts.wext | apply Exts.drew | apply Exts.drewN))).up (by simp), HR.out.2.exts (by repeat (first | exact Exts.refl _ | apply Exts.andR | apply Exts.alloc | apply Exts.wext | apply Exts.drew | apply Exts.drewN))⟩
  | false =>
    have HK := Lib.hid (show blkD D al vs = ks from hk)
    clear h hv ha hiv hia hk hm
    go_enter Try.func43, Try.ntmps43
    go_wp2_with (first | (go_at_call 39; ((with_reducible refine (blocks39_N _ _ _ _ _ _ _ _ _ D al vs ks m _ (H.out.exts (by repeat (first | exact Exts.refl _ | apply Exts.andR | apply Exts.alloc | apply Exts.wext | apply Exts.drew | apply Exts.drewN))) (RowF.exts HA.out (by repeat (first | exact Exts.refl _ | apply Exts.andR | apply Exts.alloc | apply Exts.wext | apply Exts.drew | apply Exts.drewN))) (RowF.exts HV.out (by repeat (first | exact Exts.refl _ | apply Exts.andR | apply Exts.alloc | apply Exts.wext | apply Exts.drew | apply Exts.drewN))) HIA.out HIV.out HK.out HM.out).mono ?_); rintro e w' ⟨ro, rc, rfl, ⟨x1, rfl⟩, hr⟩; (have HR := Lib.hid hr); clear hr)))
    go_ret
    exact ⟨ro, rc, rfl, (by repeat (first | exact Exts.refl _ | apply Exts.andR | apply Exts.alloc | apply Exts.wext | apply Exts.drew | apply Exts.drewN)), (RowF.exts HR.out.1 (by repeat (first | exact Exts.refl _ | apply Exts.andR | apply Exts.alloc | apply Exts.wext | apply Exts.drew | apply Exts.drewN))).up (by simp), HR.out.2.exts (by repeat (first | exact Exts.refl _ | apply Exts.andR | apply Exts.alloc | apply Exts.wext | apply Exts.drew | apply Exts.drewN))⟩
theorem blocks40_N {S S1 : Nat → Prop} (mo ao bo : Option Addr) (n mc na ca nb cb : Nat) (D : List Dm) (al bl ks : List Int) (m : Nat) (w : World) (h : Ords w mo n mc D) (ha : Ints S w ao na ca al) (hb : Ints S1 w bo nb cb bl) (hia : inD D al = true) (hib : inD D bl = true) (hk : blkD D al bl = ks) (hm : ks.length = m) :
    Calls Try.prog 40 #[.slice mo n mc, .slice ao na ca, .slice bo nb cb] w fun e w' => ∃ ro rc, e = .returned (.slice ro m rc) ∧ Exts w w' ∧ Ints (fun b => w.heap.size ≤ b) w' ro m rc ks ∧ TypedBy 3 w' (.slice ro m rc) := by
  subst hk hm
  exact blocks40 mo ao bo n mc na ca nb cb D al bl w h ha hb hia hib
theorem keeps45 {S S1 : Nat → Prop} (mo vo ao : Option Addr) (n mc vn vc na ca : Nat) (D : List Dm) (id : Int) (vs al : List Int) (gr : Bool) (ks : List Int) (m : Nat) (w : World) (h : Ords w mo n mc D) (hv : Ints S w vo vn vc vs) (ha : Ints S1 w ao na ca al) (hiv : inD D vs = true) (hia : inD D al = true) (hk : keepsD D ⟨id, vs, gr⟩ al = ks) (hm : ks.length = m) :
    Calls Try.prog 45 #[.slice mo n mc, .agg #[.int .i64 id, .slice vo vn vc, .bool gr], .slice ao na ca] w fun e w' => ∃ ro rc, e = .returned (.slice ro m rc) ∧ Exts w w' ∧ Ints (fun b => w.heap.size ≤ b) w' ro m rc ks ∧ TypedBy 3 w' (.slice ro m rc) := by
  have H := Lib.hid h
  have HV := Lib.hid hv
  have HA := Lib.hid ha
  have HIV := Lib.hid hiv
  have HIA := Lib.hid hia
  have HM := Lib.hid hm
  cases gr with
  | true =>
    have HK := Lib.hid (show blkD D vs al = ks from hk)
    clear h hv ha hiv hia hk hm
    go_enter Try.func45, Try.ntmps45
    go_wp2_with (first | (go_at_call 40; ((with_reducible refine (blocks40_N _ _ _ _ _ _ _ _ _ D vs al ks m _ (H.out.exts (by repeat (first | exact Exts.refl _ | apply Exts.andR | apply Exts.alloc | apply Exts.wext | apply Exts.drew | apply Exts.drewN))) (RowF.exts HV.out (by repeat (first | exact Exts.refl _ | apply Exts.andR | apply Exts.alloc | apply Exts.wext | apply Exts.drew | apply Exts.drewN))) (RowF.exts HA.out (by repeat (first | exact Exts.refl _ | apply Exts.andR | apply Exts.alloc | apply Exts.wext | apply Exts.drew | apply Exts.drewN))) HIV.out HIA.out HK.out HM.out).mono ?_); rintro e w' ⟨ro, rc, rfl, ⟨x1, rfl⟩, hr⟩; (have HR := Lib.hid hr); clear hr)))
    go_ret
    exact ⟨ro, rc, rfl, (by repeat (first | exact Exts.refl _ | apply Exts.andR | apply Exts.alloc | apply Exts.wext | apply Exts.drew | apply Exts.drewN)), (RowF.exts HR.out.1 (by repeat (first | exact Exts.refl _ | apply Exts.andR | apply Exts.alloc | apply Exts.wext | apply Exts.drew | apply Exts.drewN))).up (by simp), HR.out.2.exts (by repeat (first | exact Exts.refl _ | apply Exts.andR | apply Exts.alloc | apply Exts.wext | apply Exts.drew | apply Exts.drewN))⟩
  | false =>
    have HK := Lib.hid (show blkD D al vs = ks from hk)
    clear h hv ha hiv hia hk hm
    go_enter Try.func45, Try.ntmps45
    go_wp2_with (first | (go_at_call 40; ((with_reducible refine (blocks40_N _ _ _ _ _ _ _ _ _ D al vs ks m _ (H.out.exts (by repeat (first | exact Exts.refl _ | apply Exts.andR | apply Exts.alloc | apply Exts.wext | apply Exts.drew | apply Exts.drewN))) (RowF.exts HA.out (by repeat (first | exact Exts.refl _ | apply Exts.andR | apply Exts.alloc | apply Exts.wext | apply Exts.drew | apply Exts.drewN))) (RowF.exts HV.out (by repeat (first | exact Exts.refl _ | apply Exts.andR | apply Exts.alloc | apply Exts.wext | apply Exts.drew | apply Exts.drewN))) HIA.out HIV.out HK.out HM.out).mono ?_); rintro e w' ⟨ro, rc, rfl, ⟨x1, rfl⟩, hr⟩; (have HR := Lib.hid hr); clear hr)))
    go_ret
    exact ⟨ro, rc, rfl, (by repeat (first | exact Exts.refl _ | apply Exts.andR | apply Exts.alloc | apply Exts.wext | apply Exts.drew | apply Exts.drewN)), (RowF.exts HR.out.1 (by repeat (first | exact Exts.refl _ | apply Exts.andR | apply Exts.alloc | apply Exts.wext | apply Exts.drew | apply Exts.drewN))).up (by simp), HR.out.2.exts (by repeat (first | exact Exts.refl _ | apply Exts.andR | apply Exts.alloc | apply Exts.wext | apply Exts.drew | apply Exts.drewN))⟩
end Go.Proofs.Ytodgohilfbggjaa
