/- A dimension that came in, read. No condition. -/
import Derived.Test.YtbafcfbchbjgfaaOpen38
namespace Go.Proofs.Ytbafcfbchbjgfaa
open Go.RowKit Go.Deep Go.Joins Go.WideShapes
set_option linter.unusedSimpArgs false
set_option linter.unusedVariables false

section
variable {H : Type} {enc : TypeId × Value → H} {w : World} {base : Nat} {spare : Nat → Bool} {held : Bool} {cs : List Value}
theorem open_dim {r : Go.Reach} {b0 : Nat} {v : Value} {d : DataW H} {p : List MemPlace} (hv : Value.okWide Try.prog w r b0 24 v) (h : DataW.Trod enc Try.prog w base spare held 24 v d p) :
    ∃ V po n c, ∃ ps : List Pr, v = .agg #[.int .i64 V, .slice po n c] ∧ Prs (fun _ => True) w po n c ps := by
  obtain ⟨cs, rfl, hsz⟩ := okWide_struct Try.underlying24 hv
  have h := Reads.arg h
  obtain ⟨l⟩ := cs
  obtain ⟨x, b, rfl⟩ := list2 (l := l) (hsz.trans cells24)
  have h : Reads enc Try.prog w base spare held 24 [x, b] := h
  have h0 : Reads enc Try.prog w base spare held 3 [x] := h.field Try.underlying24 0 _ rfl cells3
  have h1 : Reads enc Try.prog w base spare held 22 [b] := h.field Try.underlying24 1 _ rfl cells22
  obtain ⟨V, e0⟩ := read_int h0
  obtain ⟨ps, po, c, rfl, q⟩ := read_prs h1
  cases e0
  exact ⟨V, po, _, c, ps, rfl, q⟩
end
end Go.Proofs.Ytbafcfbchbjgfaa
