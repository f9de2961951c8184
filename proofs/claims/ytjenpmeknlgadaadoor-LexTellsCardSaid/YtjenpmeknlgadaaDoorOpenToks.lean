/- A list of tokens that came in, read. No condition. -/
import Derived.Test.YtjenpmeknlgadaaDoorRead
import Derived.Test.YtjenpmeknlgadaaDoorLexPlain
import Derived.Lib.SmallJoins
namespace Go.Proofs.YtjenpmeknlgadaaDoor
open Go.RowKit Go.Deep Go.Joins Go.WideShapes
set_option linter.unusedSimpArgs false
set_option linter.unusedVariables false

section
variable {H : Type} {enc : TypeId × Value → H} {w : World} {base : Nat} {spare : Nat → Bool} {held : Bool} {cs : List Value}
theorem list4 {α : Type} {l : List α} (h : l.length = 4) : ∃ a b c d, l = [a, b, c, d] := by
  match l, h with
  | [a, b, c, d], _ => exact ⟨a, b, c, d, rfl⟩
theorem cells3 : Tryd.prog.cellsOf 3 = 1 := by kernel_rfl
theorem cells9 : Tryd.prog.cellsOf 9 = 1 := by kernel_rfl
theorem cells25 : Tryd.prog.cellsOf 25 = 4 := by kernel_rfl
theorem read_tok (h : Reads enc Tryd.prog w base spare held 25 cs) : ∃ t : TP, cs = tokCells t := by
  obtain ⟨a, b, c, d, rfl⟩ := list4 ((h.size Tryd.underlying25).trans cells25)
  have h0 : Reads enc Tryd.prog w base spare held 3 [a] := h.field Tryd.underlying25 0 _ rfl cells3
  have h1 : Reads enc Tryd.prog w base spare held 9 [b] := h.field Tryd.underlying25 1 _ rfl cells9
  have h2 : Reads enc Tryd.prog w base spare held 3 [c] := h.field Tryd.underlying25 2 _ rfl cells3
  have h3 : Reads enc Tryd.prog w base spare held 3 [d] := h.field Tryd.underlying25 3 _ rfl cells3
  obtain ⟨n0, e0, _⟩ := h0.int Tryd.underlying3
  obtain ⟨s, e1, _⟩ := h1.string Tryd.underlying9
  obtain ⟨n2, e2, _⟩ := h2.int Tryd.underlying3
  obtain ⟨n3, e3, _⟩ := h3.int Tryd.underlying3
  cases e0; cases e1; cases e2; cases e3
  exact ⟨⟨n0, s.data.toList, n2, n3⟩, rfl⟩
theorem flat_of {α : Type} {f : α → List Value} {L : List (List Value)} {A : List α} (h1 : A.length = L.length) (h2 : ∀ (i : Nat) (l : List Value), L[i]? = some l → ∃ a, A[i]? = some a ∧ l = f a) : L = A.map f := by
  apply List.ext_getElem?
  intro i
  rw [List.getElem?_map]
  cases hl : L[i]? with
  | none => rw [List.getElem?_eq_none (by have := List.getElem?_eq_none_iff.1 hl; omega)]; rfl
  | some l =>
    obtain ⟨a, ha, rfl⟩ := h2 i l hl
    rw [ha]; rfl
theorem open_toks {r : Reach} {b0 : Nat} {v : Value} {d : DataW H} {p : List MemPlace} (hv : Value.okWide Tryd.prog w r b0 22 v) (h : DataW.Trod enc Tryd.prog w base spare held 22 v d p) :
    ∃ ao n cap, ∃ l : List TP, v = .slice ao n cap ∧ l.length = n ∧ RowF (fun _ => True) 4 w (.slice ao n cap) n (tokFlat l) := by
  obtain ⟨a, n, c, rfl⟩ := okWide_slice Tryd.underlying22 hv
  have h : Reads enc Tryd.prog w base spare held 22 [.slice a n c] := Reads.arg h
  obtain ⟨ao, n, cap, L, e, hL, hr, hl⟩ := h.slice Tryd.underlying22 cells25 (by decide)
  cases e
  obtain ⟨A, h1, h2⟩ := list_of (R := fun l v => l = tokCells v) L (fun l hm => read_tok (hl l hm).2)
  have := flat_of h1 h2
  subst this
  exact ⟨a, n, c, A, rfl, by rw [h1, hL], hr⟩
end
end Go.Proofs.YtjenpmeknlgadaaDoor
