/- Lemmas that the laws of this seat share, 4 texts in one: Again, Small4a, Open38, Open39. No condition of their own. -/
import Derived.Test.YtgmjcgjbbogefaaGreatM21
import Derived.Test.YtgmjcgjbbogefaaGreatM7
import Derived.Test.YtgmjcgjbbogefaaGreatM19
import Derived.Test.YtgmjcgjbbogefaaGreatM17
import Derived.Test.YtgmjcgjbbogefaaGreatM9
import Derived.Test.YtgmjcgjbbogefaaGreatM6
import Derived.Lib.SmallJoins
import Derived.OpenShut
import Derived.Test.YtgmjcgjbbogefaaGreatM11
/- casesAgain answers what againD says. -/
namespace Go.Proofs.YtgmjcgjbbogefaaGreat
open Go.RowKit Go.Maps
set_option linter.unusedSimpArgs false
set_option linter.unusedVariables false
set_option maxRecDepth 100000
set_option maxHeartbeats 2000000
theorem decide7_R {S S1 S2 : Nat → Prop} (lo bo ao : Option Addr) (n1 c1 n c na ca : Nat) (D : List Dm) (B : List Cs) (al : List Int) (id : Int) (off is : Bool) (L : List Cs) (e0 : Int) (w : World) (hd : Dims S w lo n1 c1 D) (hb : Cases S1 w bo n c B) (ha : Ints S2 w ao na ca al) (hn : n ≤ 100) (hna : na ≤ 1000) (hid : I64 id) (hs : ∀ d ∈ B, d.vals.length ≤ 1000) (hR : decD D B id al off = (is, L, e0)) :
    Calls Tryz.prog 7 #[.slice lo n1 c1, .slice bo n c, .int .i64 id, .slice ao na ca, .bool off] w fun e w' => ∃ ro m rc, e = .returned (.tuple #[.bool is, .slice ro m rc, .int .i64 e0]) ∧ Exts w w' ∧ (e0 = 0 → m = L.length ∧ Cases (fun _ => True) w' ro m rc L) := by
  have := decide7 lo bo ao n1 c1 n c na ca D B al id off w hd hb ha hn hna hid hs
  rw [hR] at this
  exact this
theorem decide7_0 {S S1 S2 : Nat → Prop} (lo bo ao : Option Addr) (n1 c1 n c na ca : Nat) (D : List Dm) (B : List Cs) (al : List Int) (id : Int) (off is : Bool) (L : List Cs) (m : Nat) (w : World) (hd : Dims S w lo n1 c1 D) (hb : Cases S1 w bo n c B) (ha : Ints S2 w ao na ca al) (hn : n ≤ 100) (hna : na ≤ 1000) (hid : I64 id) (hs : ∀ d ∈ B, d.vals.length ≤ 1000) (hR : decD D B id al off = (is, L, 0)) (hm : L.length = m) :
    Calls Tryz.prog 7 #[.slice lo n1 c1, .slice bo n c, .int .i64 id, .slice ao na ca, .bool off] w fun e w' => ∃ ro rc, e = .returned (.tuple #[.bool is, .slice ro m rc, .int .i64 0]) ∧ Exts w w' ∧ Cases (fun _ => True) w' ro m rc L := by
  refine (decide7_R lo bo ao n1 c1 n c na ca D B al id off is L 0 w hd hb ha hn hna hid hs hR).mono ?_
  rintro e w' ⟨ro, m', rc, rfl, he, hc⟩
  obtain ⟨rfl, hcc⟩ := hc rfl
  subst hm
  exact ⟨ro, rc, rfl, he, hcc⟩
theorem decide7_1 {S S1 S2 : Nat → Prop} (lo bo ao : Option Addr) (n1 c1 n c na ca : Nat) (D : List Dm) (B : List Cs) (al : List Int) (id : Int) (off is : Bool) (L : List Cs) (w : World) (hd : Dims S w lo n1 c1 D) (hb : Cases S1 w bo n c B) (ha : Ints S2 w ao na ca al) (hn : n ≤ 100) (hna : na ≤ 1000) (hid : I64 id) (hs : ∀ d ∈ B, d.vals.length ≤ 1000) (hR : decD D B id al off = (is, L, 1)) :
    Calls Tryz.prog 7 #[.slice lo n1 c1, .slice bo n c, .int .i64 id, .slice ao na ca, .bool off] w fun e w' => ∃ ro m rc, e = .returned (.tuple #[.bool is, .slice ro m rc, .int .i64 1]) ∧ Exts w w' := by
  refine (decide7_R lo bo ao n1 c1 n c na ca D B al id off is L 1 w hd hb ha hn hna hid hs hR).mono ?_
  rintro e w' ⟨ro, m', rc, rfl, he, hc⟩
  exact ⟨ro, m', rc, rfl, he⟩
theorem again8 {S S1 S2 S3 : Nat → Prop} (lo bo vo wo : Option Addr) (n1 c1 n c nv cv nw cw : Nat) (D : List Dm) (B : List Cs) (vl wl : List Int) (id j : Int) (g : Bool) (w : World) (hd : Dims S w lo n1 c1 D) (hb : Cases S1 w bo n c B) (hv : Ints S2 w vo nv cv vl) (hw : Ints S3 w wo nw cw wl) (hn : n ≤ 100) (hnw : nw ≤ 1000) (hid : I64 id) (hs : ∀ d ∈ B, d.vals.length ≤ 1000)
    (hc : (consD D B).2.2 = true) (hm : (⟨j, vl, g⟩ : Cs) ∈ B) (hi : (B.any fun d => d.id == id) = false) :
    Calls Tryz.prog 8 #[.slice lo n1 c1, .slice bo n c, .int .i64 id, .slice vo nv cv, .bool g, .slice wo nw cw] w fun e w' => e = .returned (.bool true) ∧ Exts w w' := by
  have HD := Lib.hid hd
  have HB := Lib.hid hb
  have hlen := hb.1
  have HV := Lib.hid hv
  have HW := Lib.hid hw
  have HS := Lib.hid hs
  have HID := Lib.hid hid
  have HM := Lib.hid (show ∀ x : Bool, (B ++ [(⟨id, wl, x⟩ : Cs)]).length = n + 1 from fun x => by simp [hlen])
  clear hd hb hv hw hs hid hlen
  cases g with
  | true =>
    have HM := Lib.hid (HM.out true)
    cases hb1 : belowD D vl wl with
    | true =>
      have HR := Lib.hid (dec_up (id := id) false hc hm hb1 hi)
      have HB1 := Lib.hid hb1
      clear hc hm hi hb1
      go_enter Tryz.func8, Tryz.ntmps8
      go_wp2_with (first | (go_at_call 21; ((with_reducible refine (below23_D _ _ _ _ _ _ _ _ _ D vl wl _ _ (HD.out.exts (by repeat (first | exact Exts.refl _ | apply Exts.andR | apply Exts.alloc | apply Exts.wext | apply Exts.drew | apply Exts.drewN))) (RowF.exts HV.out (by repeat (first | exact Exts.refl _ | apply Exts.andR | apply Exts.alloc | apply Exts.wext | apply Exts.drew | apply Exts.drewN))) (RowF.exts HW.out (by repeat (first | exact Exts.refl _ | apply Exts.andR | apply Exts.alloc | apply Exts.wext | apply Exts.drew | apply Exts.drewN))) HB1.out).mono ?_); rintro e w' ⟨rfl, x1, rfl⟩)) | (go_at_call 7; ((with_reducible refine (decide7_0 _ _ _ _ _ _ _ _ _ D B wl _ _ _ _ _ _ (HD.out.exts (by repeat (first | exact Exts.refl _ | apply Exts.andR | apply Exts.alloc | apply Exts.wext | apply Exts.drew | apply Exts.drewN))) (HB.out.exts (by repeat (first | exact Exts.refl _ | apply Exts.andR | apply Exts.alloc | apply Exts.wext | apply Exts.drew | apply Exts.drewN))) (RowF.exts HW.out (by repeat (first | exact Exts.refl _ | apply Exts.andR | apply Exts.alloc | apply Exts.wext | apply Exts.drew | apply Exts.drewN))) hn hnw HID.out HS.out HR.out HM.out).mono ?_); rintro e w' ⟨ro2, rc2, rfl, ⟨x2, rfl⟩, hc⟩; clear hc)))
      go_ret
      exact ⟨by simp, (by repeat (first | exact Exts.refl _ | apply Exts.andR | apply Exts.alloc | apply Exts.wext | apply Exts.drew | apply Exts.drewN))⟩
    | false =>
      have HB1 := Lib.hid hb1
      clear hc hm hi hb1
      go_enter Tryz.func8, Tryz.ntmps8
      go_wp2_with (first | (go_at_call 21; ((with_reducible refine (below23_D _ _ _ _ _ _ _ _ _ D vl wl _ _ (HD.out.exts (by repeat (first | exact Exts.refl _ | apply Exts.andR | apply Exts.alloc | apply Exts.wext | apply Exts.drew | apply Exts.drewN))) (RowF.exts HV.out (by repeat (first | exact Exts.refl _ | apply Exts.andR | apply Exts.alloc | apply Exts.wext | apply Exts.drew | apply Exts.drewN))) (RowF.exts HW.out (by repeat (first | exact Exts.refl _ | apply Exts.andR | apply Exts.alloc | apply Exts.wext | apply Exts.drew | apply Exts.drewN))) HB1.out).mono ?_); rintro e w' ⟨rfl, x1, rfl⟩)) | (go_at_call 7; ((with_reducible refine (decide7_0 _ _ _ _ _ _ _ _ _ D B wl _ _ _ _ _ _ (HD.out.exts (by repeat (first | exact Exts.refl _ | apply Exts.andR | apply Exts.alloc | apply Exts.wext | apply Exts.drew | apply Exts.drewN))) (HB.out.exts (by repeat (first | exact Exts.refl _ | apply Exts.andR | apply Exts.alloc | apply Exts.wext | apply Exts.drew | apply Exts.drewN))) (RowF.exts HW.out (by repeat (first | exact Exts.refl _ | apply Exts.andR | apply Exts.alloc | apply Exts.wext | apply Exts.drew | apply Exts.drewN))) hn hnw HID.out HS.out HR.out HM.out).mono ?_); rintro e w' ⟨ro2, rc2, rfl, ⟨x2, rfl⟩, hc⟩; clear hc)))
      go_ret
      exact ⟨rfl, (by repeat (first | exact Exts.refl _ | apply Exts.andR | apply Exts.alloc | apply Exts.wext | apply Exts.drew | apply Exts.drewN))⟩
  | false =>
    have HM := Lib.hid (HM.out false)
    cases hb1 : belowD D wl vl with
    | true =>
      have HR := Lib.hid (dec_down (id := id) true hc hm hb1 hi)
      have HB1 := Lib.hid hb1
      clear hc hm hi hb1
      go_enter Tryz.func8, Tryz.ntmps8
      go_wp2_with (first | (go_at_call 21; ((with_reducible refine (below23_D _ _ _ _ _ _ _ _ _ D wl vl _ _ (HD.out.exts (by repeat (first | exact Exts.refl _ | apply Exts.andR | apply Exts.alloc | apply Exts.wext | apply Exts.drew | apply Exts.drewN))) (RowF.exts HW.out (by repeat (first | exact Exts.refl _ | apply Exts.andR | apply Exts.alloc | apply Exts.wext | apply Exts.drew | apply Exts.drewN))) (RowF.exts HV.out (by repeat (first | exact Exts.refl _ | apply Exts.andR | apply Exts.alloc | apply Exts.wext | apply Exts.drew | apply Exts.drewN))) HB1.out).mono ?_); rintro e w' ⟨rfl, x1, rfl⟩)) | (go_at_call 7; ((with_reducible refine (decide7_0 _ _ _ _ _ _ _ _ _ D B wl _ _ _ _ _ _ (HD.out.exts (by repeat (first | exact Exts.refl _ | apply Exts.andR | apply Exts.alloc | apply Exts.wext | apply Exts.drew | apply Exts.drewN))) (HB.out.exts (by repeat (first | exact Exts.refl _ | apply Exts.andR | apply Exts.alloc | apply Exts.wext | apply Exts.drew | apply Exts.drewN))) (RowF.exts HW.out (by repeat (first | exact Exts.refl _ | apply Exts.andR | apply Exts.alloc | apply Exts.wext | apply Exts.drew | apply Exts.drewN))) hn hnw HID.out HS.out HR.out HM.out).mono ?_); rintro e w' ⟨ro2, rc2, rfl, ⟨x2, rfl⟩, hc⟩; clear hc)))
      go_ret
      exact ⟨by simp, (by repeat (first | exact Exts.refl _ | apply Exts.andR | apply Exts.alloc | apply Exts.wext | apply Exts.drew | apply Exts.drewN))⟩
    | false =>
      have HB1 := Lib.hid hb1
      clear hc hm hi hb1
      go_enter Tryz.func8, Tryz.ntmps8
      go_wp2_with (first | (go_at_call 21; ((with_reducible refine (below23_D _ _ _ _ _ _ _ _ _ D wl vl _ _ (HD.out.exts (by repeat (first | exact Exts.refl _ | apply Exts.andR | apply Exts.alloc | apply Exts.wext | apply Exts.drew | apply Exts.drewN))) (RowF.exts HW.out (by repeat (first | exact Exts.refl _ | apply Exts.andR | apply Exts.alloc | apply Exts.wext | apply Exts.drew | apply Exts.drewN))) (RowF.exts HV.out (by repeat (first | exact Exts.refl _ | apply Exts.andR | apply Exts.alloc | apply Exts.wext | apply Exts.drew | apply Exts.drewN))) HB1.out).mono ?_); rintro e w' ⟨rfl, x1, rfl⟩)) | (go_at_call 7; ((with_reducible refine (decide7_0 _ _ _ _ _ _ _ _ _ D B wl _ _ _ _ _ _ (HD.out.exts (by repeat (first | exact Exts.refl _ | apply Exts.andR | apply Exts.alloc | apply Exts.wext | apply Exts.drew | apply Exts.drewN))) (HB.out.exts (by repeat (first | exact Exts.refl _ | apply Exts.andR | apply Exts.alloc | apply Exts.wext | apply Exts.drew | apply Exts.drewN))) (RowF.exts HW.out (by repeat (first | exact Exts.refl _ | apply Exts.andR | apply Exts.alloc | apply Exts.wext | apply Exts.drew | apply Exts.drewN))) hn hnw HID.out HS.out HR.out HM.out).mono ?_); rintro e w' ⟨ro2, rc2, rfl, ⟨x2, rfl⟩, hc⟩; clear hc)))
      go_ret
      exact ⟨rfl, (by repeat (first | exact Exts.refl _ | apply Exts.andR | apply Exts.alloc | apply Exts.wext | apply Exts.drew | apply Exts.drewN))⟩
end Go.Proofs.YtgmjcgjbbogefaaGreat

/- casesChain, casesHouse. -/
namespace Go.Proofs.YtgmjcgjbbogefaaGreat
open Go.RowKit Go.Maps Go.Instr
set_option linter.unusedSimpArgs false
set_option linter.unusedVariables false
set_option maxRecDepth 100000
set_option maxHeartbeats 8000000
theorem chain9 (w : World) : Calls Tryz.prog 9 #[] w fun e w' => ∃ pb, e = .returned (.agg #[.int .i64 3, .slice (some ⟨pb, 0, none⟩) 2 2]) ∧ Exts w w' ∧ Prs (fun _ => True) w' (some ⟨pb, 0, none⟩) 2 2 dmO := by
  go_enter Tryz.func9, Tryz.ntmps9
  go_wp2
  refine bodyPost_ret (v := .agg #[.int .i64 3, .slice (some ⟨w.heap.size + 1, 0, none⟩) 2 2]) (by simp [results, go_sem]) rfl ⟨_, rfl, (by repeat (first | exact Exts.refl _ | apply Exts.andR | apply Exts.alloc | apply Exts.wext | apply Exts.drew | apply Exts.drewN)), rowF_cells rfl (by decide) (by unfold maxLen; decide) (by simp) fun t v ht => ?_⟩
  change ([.int .i64 0, .int .i64 1, .int .i64 1, .int .i64 2] : List Value)[t]? = some v at ht
  match t, ht with
  | 0, ht => (simp at ht; subst ht; simp [go_sem])
  | 1, ht => (simp at ht; subst ht; simp [go_sem])
  | 2, ht => (simp at ht; subst ht; simp [go_sem])
  | 3, ht => (simp at ht; subst ht; simp [go_sem])
theorem house10 (w : World) : Calls Tryz.prog 10 #[] w fun e w' => ∃ pb vb, e = .returned (.agg #[.int .i64 1, .slice (some ⟨pb, 0, none⟩) 1 1]) ∧ Exts w w' ∧ HouseW w' pb vb := by
  go_enter Tryz.func10, Tryz.ntmps10
  go_wp2
  refine bodyPost_ret (v := .agg #[.int .i64 1, .slice (some ⟨w.heap.size + 1 + 1 + 1, 0, none⟩) 1 1]) (by simp [results, go_sem]) rfl ⟨_, w.heap.size + 1 + 1, rfl, (by repeat (first | exact Exts.refl _ | apply Exts.andR | apply Exts.alloc | apply Exts.wext | apply Exts.drew | apply Exts.drewN)), fun t v ht => ?_, fun t v ht => ?_⟩
  · match t, ht with
    | 0, ht => (simp at ht; subst ht; simp [go_sem])
    | 1, ht => (simp at ht; subst ht; simp [go_sem])
    | k + 2, ht => (simp at ht)
  · match t, ht with
    | 0, ht => (simp [volC] at ht; subst ht; simp [go_sem])
    | 1, ht => (simp [volC] at ht; subst ht; simp [go_sem])
    | 2, ht => (simp [volC] at ht; subst ht; simp [go_sem])
    | 3, ht => (simp [volC] at ht; subst ht; simp [go_sem])
    | 4, ht => (simp [volC] at ht; subst ht; simp [go_sem])
    | 5, ht => (simp [volC] at ht; subst ht; simp [go_sem])
    | 6, ht => (simp [volC] at ht; subst ht; simp [go_sem])
    | 7, ht => (simp [volC] at ht; subst ht; simp [go_sem])
    | 8, ht => (simp [volC] at ht; subst ht; simp [go_sem])
    | k + 9, ht => (simp [volC] at ht)
end Go.Proofs.YtgmjcgjbbogefaaGreat

/- Arguments that came in, read: lists of numbers and of dimensions. No condition. -/
namespace Go.Proofs.YtgmjcgjbbogefaaGreat
open Go.RowKit Go.Deep Go.Joins Go.WideShapes
set_option linter.unusedSimpArgs false
set_option linter.unusedVariables false
set_option maxRecDepth 100000

section
variable {H : Type} {enc : TypeId × Value → H} {w : World} {base : Nat} {spare : Nat → Bool} {held : Bool} {cs : List Value}

theorem areads {t e : TypeId} {n m : Nat} (ht : Tryz.prog.underlying t = some (.array n e)) (hm : Tryz.prog.cellsOf e = m) (h : Reads enc Tryz.prog w base spare held t cs) : cs.length = Tryz.prog.cellsOf t ∧ ∀ i, i < n → Reads enc Tryz.prog w base spare held e ((cs.drop (i * m)).take m) := by
  subst hm
  obtain ⟨_, _, h⟩ := h
  obtain ⟨xs, n', _, _, hl, hn, hx⟩ := DataW.trod_array ht h
  refine ⟨hl, fun i hi => ⟨n', xs[i]'(by omega), ?_⟩⟩
  rw [hx i hi, List.getElem?_eq_getElem (by omega)]
theorem list2 {α : Type} {l : List α} (h : l.length = 2) : ∃ a b, l = [a, b] := by
  match l, h with
  | [a, b], _ => exact ⟨a, b, rfl⟩
theorem cells3 : Tryz.prog.cellsOf 3 = 1 := by kernel_rfl
theorem cells22 : Tryz.prog.cellsOf 36 = 1 := by kernel_rfl
theorem cells24 : Tryz.prog.cellsOf 38 = 2 := by kernel_rfl
theorem cells45 : Tryz.prog.cellsOf 88 = 2 := by kernel_rfl
theorem read_int {cs : List Value} (h : Reads enc Tryz.prog w base spare held 3 cs) : ∃ n, cs = [.int .i64 n] := by
  obtain ⟨n, h1, h2⟩ := h.int Tryz.underlying3
  exact ⟨n, h1⟩
theorem flat_of {α : Type} {f : α → List Value} {L : List (List Value)} {A : List α} (h1 : A.length = L.length) (h2 : ∀ (i : Nat) (l : List Value), L[i]? = some l → ∃ a, A[i]? = some a ∧ l = f a) : L = A.map f := by
  apply List.ext_getElem?
  intro i
  rw [List.getElem?_map]
  cases hl : L[i]? with
  | none => rw [List.getElem?_eq_none (by have := List.getElem?_eq_none_iff.1 hl; omega)]; rfl
  | some l =>
    obtain ⟨a, ha, rfl⟩ := h2 i l hl
    rw [ha]; rfl
theorem read_pr (h : Reads enc Tryz.prog w base spare held 88 cs) : ∃ p : Pr, cs = prCells p := by
  obtain ⟨hl, hr⟩ := areads Tryz.underlying88 cells3 h
  obtain ⟨a, b, rfl⟩ := list2 (hl.trans cells45)
  have h0 : Reads enc Tryz.prog w base spare held 3 [a] := hr 0 (by decide)
  have h1 : Reads enc Tryz.prog w base spare held 3 [b] := hr 1 (by decide)
  obtain ⟨x, e0⟩ := read_int h0
  obtain ⟨y, e1⟩ := read_int h1
  cases e0; cases e1
  exact ⟨(x, y), rfl⟩
theorem read_prs {v : Value} (h : Reads enc Tryz.prog w base spare held 36 [v]) : ∃ ps : List Pr, PrsV w v ps := by
  obtain ⟨ao, n, cap, L, e, hL, hr, hl⟩ := h.slice Tryz.underlying36 cells45 (by decide)
  cases e
  obtain ⟨A, h1, h2⟩ := list_of (R := fun l v => l = prCells v) L (fun l hm => read_pr (hl l hm).2)
  have := flat_of h1 h2
  subst this
  have hn : A.length = n := by rw [h1, hL]
  subst hn
  exact ⟨A, ao, cap, rfl, hr⟩
theorem intsC_flat (A : List Int) : (A.map fun n => [Value.int .i64 n]).flatten = intsC A := by
  induction A with
  | nil => rfl
  | cons a A ih => rw [List.map_cons, List.flatten_cons, ih]; rfl
theorem open_il {r : Go.Reach} {b0 : Nat} {v : Value} {d : DataW H} {p : List MemPlace} (hv : Value.okWide Tryz.prog w r b0 24 v) (h : DataW.Trod enc Tryz.prog w base spare held 24 v d p) :
    ∃ ao n cap, ∃ l : List Int, v = .slice ao n cap ∧ Ints (fun _ => True) w ao n cap l := by
  obtain ⟨a, n, c, rfl⟩ := okWide_slice Tryz.underlying24 hv
  have h : Reads enc Tryz.prog w base spare held 24 [.slice a n c] := Reads.arg h
  obtain ⟨ao, n, cap, L, e, hL, hr, hl⟩ := h.slice Tryz.underlying24 cells3 (by decide)
  cases e
  obtain ⟨A, h1, h2⟩ := list_of (R := fun l n => l = [.int .i64 n]) L (fun l hm => read_int (hl l hm).2)
  have := flat_of h1 (f := fun n => [.int .i64 n]) h2
  subst this
  refine ⟨a, n, c, A, rfl, ?_⟩
  rw [Ints, ← intsC_flat]
  exact hr
theorem open_dims {r : Go.Reach} {b0 : Nat} {v : Value} {d : DataW H} {p : List MemPlace} (hv : Value.okWide Tryz.prog w r b0 22 v) (h : DataW.Trod enc Tryz.prog w base spare held 22 v d p) :
    ∃ ao n cap, ∃ D : List Dm, v = .slice ao n cap ∧ Dims (fun _ => True) w ao n cap D := by
  obtain ⟨a, n, c, rfl⟩ := okWide_slice Tryz.underlying22 hv
  have h : Reads enc Tryz.prog w base spare held 22 [.slice a n c] := Reads.arg h
  obtain ⟨ao, n, cap, L, e, hL, hr, hl⟩ := h.slice Tryz.underlying22 cells24 (by decide)
  cases e
  obtain ⟨A, h1, h2⟩ := list_of (α := Dm) (R := fun l d => ∃ b, l = [.int .i64 d.1, b] ∧ PrsV w b d.2) L (fun l hm => by
    obtain ⟨hlen, h⟩ := hl l hm
    obtain ⟨x, b, rfl⟩ := list2 hlen
    have h0 : Reads enc Tryz.prog w base spare held 3 [x] := h.field Tryz.underlying38 0 _ rfl cells3
    have h1 : Reads enc Tryz.prog w base spare held 36 [b] := h.field Tryz.underlying38 1 _ rfl cells22
    obtain ⟨V, e0⟩ := read_int h0
    obtain ⟨ps, q⟩ := read_prs h1
    cases e0
    exact ⟨(V, ps), b, rfl, q⟩)
  refine ⟨a, n, c, A, rfl, h1.trans hL, L.flatten, hr, fun i d hd => ?_⟩
  have hi := (List.getElem?_eq_some_iff.1 hd).1
  have hLi : L[i]? = some L[i] := List.getElem?_eq_getElem (by omega)
  obtain ⟨q, hq, b, hlab, r1⟩ := h2 i L[i] hLi
  rw [hd] at hq
  cases hq
  have f0 := flatten_at (k := 2) L (fun l hm => (hl l hm).1) i 0 (by decide)
  have f1 := flatten_at (k := 2) L (fun l hm => (hl l hm).1) i 1 (by decide)
  rw [hLi, hlab] at f0 f1
  exact ⟨b, f0, f1, r1⟩
end
end Go.Proofs.YtgmjcgjbbogefaaGreat


/- Arguments that came in, read: lists of cases. No condition. -/
namespace Go.Proofs.YtgmjcgjbbogefaaGreat
open Go.RowKit Go.Deep Go.Joins Go.WideShapes
set_option linter.unusedSimpArgs false
set_option linter.unusedVariables false
set_option maxRecDepth 100000

section
variable {H : Type} {enc : TypeId × Value → H} {w : World} {base : Nat} {spare : Nat → Bool} {held : Bool} {cs : List Value}
theorem list3 {α : Type} {l : List α} (h : l.length = 3) : ∃ a b c, l = [a, b, c] := by
  match l, h with
  | [a, b, c], _ => exact ⟨a, b, c, rfl⟩
theorem cells33 : Tryz.prog.cellsOf 28 = 3 := by kernel_rfl
theorem cellsI : Tryz.prog.cellsOf 24 = 1 := by kernel_rfl
theorem cells4b : Tryz.prog.cellsOf 4 = 1 := by kernel_rfl
theorem read_i64 {cs : List Value} (h : Reads enc Tryz.prog w base spare held 3 cs) : ∃ n, cs = [.int .i64 n] ∧ I64 n := by
  obtain ⟨n, h1, h2⟩ := h.int Tryz.underlying3
  exact ⟨n, h1, I64.of_wf h2⟩
theorem read_il {v : Value} (h : Reads enc Tryz.prog w base spare held 24 [v]) : ∃ l : List Int, IntsV w v l := by
  obtain ⟨ao, n, cap, L, e, hL, hr, hl⟩ := h.slice Tryz.underlying24 cells3 (by decide)
  cases e
  obtain ⟨A, h1, h2⟩ := list_of (R := fun l n => l = [.int .i64 n]) L (fun l hm => read_int (hl l hm).2)
  have := flat_of h1 (f := fun n => [.int .i64 n]) h2
  subst this
  have hn : A.length = n := by rw [h1, hL]
  subst hn
  refine ⟨A, ao, cap, rfl, ?_⟩
  rw [Ints, ← intsC_flat]
  exact hr
theorem open_cases {r : Go.Reach} {b0 : Nat} {v : Value} {d : DataW H} {p : List MemPlace} (hv : Value.okWide Tryz.prog w r b0 23 v) (h : DataW.Trod enc Tryz.prog w base spare held 23 v d p) :
    ∃ ao n cap, ∃ B : List Cs, v = .slice ao n cap ∧ Cases (fun _ => True) w ao n cap B := by
  obtain ⟨a, n, c, rfl⟩ := okWide_slice Tryz.underlying23 hv
  have h : Reads enc Tryz.prog w base spare held 23 [.slice a n c] := Reads.arg h
  obtain ⟨ao, n, cap, L, e, hL, hr, hl⟩ := h.slice Tryz.underlying23 cells33 (by decide)
  cases e
  obtain ⟨A, h1, h2⟩ := list_of (α := Cs) (R := fun l d => ∃ b, l = [.int .i64 d.id, b, .bool d.grant] ∧ I64 d.id ∧ IntsV w b d.vals) L (fun l hm => by
    obtain ⟨hlen, h⟩ := hl l hm
    obtain ⟨x, b, g, rfl⟩ := list3 hlen
    have h0 : Reads enc Tryz.prog w base spare held 3 [x] := h.field Tryz.underlying28 0 _ rfl cells3
    have h1 : Reads enc Tryz.prog w base spare held 24 [b] := h.field Tryz.underlying28 1 _ rfl cellsI
    have h2 : Reads enc Tryz.prog w base spare held 4 [g] := h.field Tryz.underlying28 2 _ rfl cells4b
    obtain ⟨V, e0, i0⟩ := read_i64 h0
    obtain ⟨ps, q⟩ := read_il h1
    obtain ⟨g, e2⟩ := h2.bool Tryz.underlying4
    cases e0; cases e2
    exact ⟨⟨V, ps, g⟩, b, rfl, i0, q⟩)
  have hAn : A.length = n := by rw [h1, hL]
  refine ⟨a, n, c, A, rfl, hAn, fun x hx => ?_, L.flatten, hr, fun i d hd => ?_⟩
  · obtain ⟨i, hi⟩ := List.getElem?_of_mem hx
    have hi1 := (List.getElem?_eq_some_iff.1 hi).1
    have hLi : L[i]? = some L[i] := List.getElem?_eq_getElem (by omega)
    obtain ⟨q, hq, b, hlab, r1, r2⟩ := h2 i L[i] hLi
    rw [hi] at hq
    cases hq
    exact r1
  · have hi := (List.getElem?_eq_some_iff.1 hd).1
    have hLi : L[i]? = some L[i] := List.getElem?_eq_getElem (by omega)
    obtain ⟨q, hq, b, hlab, r1, r2⟩ := h2 i L[i] hLi
    rw [hd] at hq
    cases hq
    have f0 := flatten_at (k := 3) L (fun l hm => (hl l hm).1) i 0 (by decide)
    have f1 := flatten_at (k := 3) L (fun l hm => (hl l hm).1) i 1 (by decide)
    have f2 := flatten_at (k := 3) L (fun l hm => (hl l hm).1) i 2 (by decide)
    rw [hLi, hlab] at f0 f1 f2
    exact ⟨b, f0, f1, f2, r2⟩
end
end Go.Proofs.YtgmjcgjbbogefaaGreat

