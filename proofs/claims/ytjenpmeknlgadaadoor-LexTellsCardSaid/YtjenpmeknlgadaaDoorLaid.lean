/- The table of signs, as the program lays it. No condition. -/
import Derived.Test.YtjenpmeknlgadaaDoorNext
import Derived.ProofKit
import Derived.LaidMore
import Derived.OpenShut
import Derived.Stop.Joined
namespace Go.Proofs.YtjenpmeknlgadaaDoor
open Go.ChangeShapes Go.WideShapes Go.ChangeAt Go.WideMaps Go.WideElems Go.RowKit
set_option linter.unusedSimpArgs false
set_option linter.unusedVariables false

theorem gSigns : Tryd.prog.globalNamed "greenbelt/lex.signs" = some 0 := by kernel_rfl
theorem tSigns : (Tryd.prog.globals[0]?).map (·.type) = some 44 := by kernel_rfl
abbrev laid1 : List (String × DataW Unit) := [("greenbelt/lex.signs", Rows.laid_greenbelt_lex_signs)]
theorem door_met (os : Os) (args : Array Value) : laidMetH Tryd.prog laid1 ((World.doorLaid Tryd.prog 14 os).forCall (fun _ _ => 0) ⟨#[], args, []⟩).memory :=
  laidMetH_of_parts3 (fuel := 8) (laidMet_of_run' 8 (by kernel_rfl) (by kernel_rfl)) (by kernel_rfl) (by kernel_rfl)
theorem signsD {H : Type} : (Rows.laid_greenbelt_lex_signs : DataW H) = .agg (signsL.map fun x => .lit (.string x)) := rfl

theorem of_laid {W : World} (h : laidMetH Tryd.prog laid1 W) : Signs W := by
  rw [MakeChecks.laidMetH_plain _ _ _ (by kernel_rfl)] at h
  obtain ⟨ps, ⟨g0, t0, cs0, f0, p0, q0, hg0, ht0, hv0, hd0, _, _⟩, _, _⟩ := h
  obtain rfl := Option.some.inj (gSigns.symm.trans hg0)
  obtain rfl := Option.some.inj (tSigns.symm.trans ht0)
  have c9 : Tryd.prog.cellsOf 9 = 1 := by kernel_rfl
  have c44 : Tryd.prog.cellsOf 44 = 14 := by kernel_rfl
  obtain ⟨xs, m, _, hx, hlen, hn, hel⟩ := DataW.trod_array Tryd.underlying44 hd0
  rw [c9] at hel
  rw [c44] at hlen
  simp only [Prod.mk.injEq] at hx
  have hxs := hx.1
  rw [signsD, DataW.agg.injEq] at hxs
  have key : ∀ (i : Nat) (x : List UInt8), signsL[i]? = some x → cs0.toList[i]? = some (.string ⟨x.toArray⟩) := by
    intro i x hi
    have hi14 : i < 14 := (List.getElem?_eq_some_iff.1 hi).1
    have h1 := hel i hi14
    have h2 : xs[i]? = some (xs[i]'(by omega)) := List.getElem?_eq_getElem (by omega)
    rw [h2] at h1
    obtain ⟨s, e1, e2, _⟩ := DataW.trod_string Tryd.underlying9 h1
    have h3 : (signsL.map fun x => (DataW.lit (.string x) : DataW Unit))[i]? = (xs.map (·.1))[i]? := by rw [hxs]
    rw [List.getElem?_map, hi, List.getElem?_map, h2, e2] at h3
    simp only [Option.map_some, Option.some.injEq, DataW.lit.injEq, Lit.string.injEq] at h3
    rw [Nat.mul_one] at e1
    have h4 : (cs0.toList.drop i)[0]? = some (.string s) := by
      have : ((cs0.toList.drop i).take 1)[0]? = some (.string s) := by rw [e1]; rfl
      rw [List.getElem?_take] at this
      simpa using this
    rw [List.getElem?_drop, Nat.add_zero] at h4
    rw [h4, h3]
  have hcs : cs0 = signsV := by
    apply Array.toList_inj.1
    apply List.ext_getElem?
    intro i
    cases hi : signsL[i]? with
    | some x =>
      rw [key i x hi]
      have : signsV.toList = signsL.map fun x => Value.string ⟨x.toArray⟩ := rfl
      rw [this, List.getElem?_map, hi]
      rfl
    | none =>
      have : 14 ≤ i := List.getElem?_eq_none_iff.1 hi
      rw [List.getElem?_eq_none (by omega), List.getElem?_eq_none (by simpa using this)]
  simp only [World.var?, gSigns, Option.bind_some] at hv0
  split at hv0
  · rename_i cs t fr hh
    simp only [Option.some.injEq] at hv0
    subst hv0
    exact ⟨t, fr, by rw [hh, hcs]⟩
  · cases hv0
end Go.Proofs.YtjenpmeknlgadaaDoor
