/- Arguments that came in, read: lists of numbers and of dimensions. No condition. -/
import Derived.Test.YtbafcfbchbjgfaaRead
import Derived.Test.YtbafcfbchbjgfaaDims
import Derived.Lib.SmallJoins
import Derived.OpenShut
namespace Go.Proofs.Ytbafcfbchbjgfaa
open Go.RowKit Go.Deep Go.Joins Go.WideShapes
set_option linter.unusedSimpArgs false
set_option linter.unusedVariables false

section
variable {H : Type} {enc : TypeId × Value → H} {w : World} {base : Nat} {spare : Nat → Bool} {held : Bool} {cs : List Value}

theorem areads {t e : TypeId} {n m : Nat} (ht : Try.prog.underlying t = some (.array n e)) (hm : Try.prog.cellsOf e = m) (h : Reads enc Try.prog w base spare held t cs) : cs.length = Try.prog.cellsOf t ∧ ∀ i, i < n → Reads enc Try.prog w base spare held e ((cs.drop (i * m)).take m) := by
  subst hm
  obtain ⟨_, _, h⟩ := h
  obtain ⟨xs, n', _, _, hl, hn, hx⟩ := DataW.trod_array ht h
  refine ⟨hl, fun i hi => ⟨n', xs[i]'(by omega), ?_⟩⟩
  rw [hx i hi, List.getElem?_eq_getElem (by omega)]
theorem list2 {α : Type} {l : List α} (h : l.length = 2) : ∃ a b, l = [a, b] := by
  match l, h with
  | [a, b], _ => exact ⟨a, b, rfl⟩
theorem cells3 : Try.prog.cellsOf 3 = 1 := by kernel_rfl
theorem cells22 : Try.prog.cellsOf 22 = 1 := by kernel_rfl
theorem cells24 : Try.prog.cellsOf 24 = 2 := by kernel_rfl
theorem cells45 : Try.prog.cellsOf 45 = 2 := by kernel_rfl
theorem read_int {cs : List Value} (h : Reads enc Try.prog w base spare held 3 cs) : ∃ n, cs = [.int .i64 n] := by
  obtain ⟨n, h1, h2⟩ := h.int Try.underlying3
  exact ⟨n, h1⟩
theorem flat_of {α : Type} {f : α → List Value} {L : List (List Value)} {A : List α} (h1 : A.length = L.length) (h2 : ∀ (i : Nat) (l : List Value), L[i]? = some l → ∃ a, A[i]? = some a ∧ l = f a) : L = A.map f := by
  apply List.ext_getElem?
  intro i
  rw [List.getElem?_map]
  cases hl : L[i]? with
  | none => rw [List.getElem?_eq_none (by have := List.getElem?_eq_none_iff.1 hl; omega)]; rfl
  | some l =>
    obtain ⟨a, ha, rfl⟩ := h2 i l hl
    rw [ha]; rfl
theorem read_pr (h : Reads enc Try.prog w base spare held 45 cs) : ∃ p : Pr, cs = prCells p := by
  obtain ⟨hl, hr⟩ := areads Try.underlying45 cells3 h
  obtain ⟨a, b, rfl⟩ := list2 (hl.trans cells45)
  have h0 : Reads enc Try.prog w base spare held 3 [a] := hr 0 (by decide)
  have h1 : Reads enc Try.prog w base spare held 3 [b] := hr 1 (by decide)
  obtain ⟨x, e0⟩ := read_int h0
  obtain ⟨y, e1⟩ := read_int h1
  cases e0; cases e1
  exact ⟨(x, y), rfl⟩
theorem read_prs {v : Value} (h : Reads enc Try.prog w base spare held 22 [v]) : ∃ ps : List Pr, PrsV w v ps := by
  obtain ⟨ao, n, cap, L, e, hL, hr, hl⟩ := h.slice Try.underlying22 cells45 (by decide)
  cases e
  obtain ⟨A, h1, h2⟩ := list_of (R := fun l v => l = prCells v) L (fun l hm => read_pr (hl l hm).2)
  have := flat_of h1 h2
  subst this
  have hn : A.length = n := by rw [h1, hL]
  subst hn
  exact ⟨A, ao, cap, rfl, hr⟩
theorem intsC_flat (A : List Int) : (A.map fun n => [Value.int .i64 n]).flatten = intsC A := by
  induction A with
  | nil => rfl
  | cons a A ih => rw [List.map_cons, List.flatten_cons, ih]; rfl
theorem open_il {r : Go.Reach} {b0 : Nat} {v : Value} {d : DataW H} {p : List MemPlace} (hv : Value.okWide Try.prog w r b0 26 v) (h : DataW.Trod enc Try.prog w base spare held 26 v d p) :
    ∃ ao n cap, ∃ l : List Int, v = .slice ao n cap ∧ Ints (fun _ => True) w ao n cap l := by
  obtain ⟨a, n, c, rfl⟩ := okWide_slice Try.underlying26 hv
  have h : Reads enc Try.prog w base spare held 26 [.slice a n c] := Reads.arg h
  obtain ⟨ao, n, cap, L, e, hL, hr, hl⟩ := h.slice Try.underlying26 cells3 (by decide)
  cases e
  obtain ⟨A, h1, h2⟩ := list_of (R := fun l n => l = [.int .i64 n]) L (fun l hm => read_int (hl l hm).2)
  have := flat_of h1 (f := fun n => [.int .i64 n]) h2
  subst this
  refine ⟨a, n, c, A, rfl, ?_⟩
  rw [Ints, ← intsC_flat]
  exact hr
theorem open_dims {r : Go.Reach} {b0 : Nat} {v : Value} {d : DataW H} {p : List MemPlace} (hv : Value.okWide Try.prog w r b0 25 v) (h : DataW.Trod enc Try.prog w base spare held 25 v d p) :
    ∃ ao n cap, ∃ D : List Dm, v = .slice ao n cap ∧ Dims (fun _ => True) w ao n cap D := by
  obtain ⟨a, n, c, rfl⟩ := okWide_slice Try.underlying25 hv
  have h : Reads enc Try.prog w base spare held 25 [.slice a n c] := Reads.arg h
  obtain ⟨ao, n, cap, L, e, hL, hr, hl⟩ := h.slice Try.underlying25 cells24 (by decide)
  cases e
  obtain ⟨A, h1, h2⟩ := list_of (α := Dm) (R := fun l d => ∃ b, l = [.int .i64 d.1, b] ∧ PrsV w b d.2) L (fun l hm => by
    obtain ⟨hlen, h⟩ := hl l hm
    obtain ⟨x, b, rfl⟩ := list2 hlen
    have h0 : Reads enc Try.prog w base spare held 3 [x] := h.field Try.underlying24 0 _ rfl cells3
    have h1 : Reads enc Try.prog w base spare held 22 [b] := h.field Try.underlying24 1 _ rfl cells22
    obtain ⟨V, e0⟩ := read_int h0
    obtain ⟨ps, q⟩ := read_prs h1
    cases e0
    exact ⟨(V, ps), b, rfl, q⟩)
  refine ⟨a, n, c, A, rfl, h1.trans hL, L.flatten, hr, fun i d hd => ?_⟩
  have hi := (List.getElem?_eq_some_iff.1 hd).1
  have hLi : L[i]? = some L[i] := List.getElem?_eq_getElem (by omega)
  obtain ⟨q, hq, b, hlab, r1⟩ := h2 i L[i] hLi
  rw [hd] at hq
  cases hq
  have f0 := flatten_at (k := 2) L (fun l hm => (hl l hm).1) i 0 (by decide)
  have f1 := flatten_at (k := 2) L (fun l hm => (hl l hm).1) i 1 (by decide)
  rw [hLi, hlab] at f0 f1
  exact ⟨b, f0, f1, r1⟩
end
end Go.Proofs.Ytbafcfbchbjgfaa
