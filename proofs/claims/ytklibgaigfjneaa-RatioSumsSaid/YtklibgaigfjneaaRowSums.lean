/- RatioSums returns true for every input, and leaves its arguments alone. No conditions. -/
import Derived.Test.YtklibgaigfjneaaSums
import Derived.Test.YtklibgaigfjneaaFrame
import Derived.Deep.Slices
import Derived.Deep.Fields
import Derived.ChangeSame
import Derived.Lib.SmallJoins
namespace Go.Proofs.Ytklibgaigfjneaa
open Go.RowKit
set_option linter.unusedSimpArgs false
set_option linter.unusedVariables false

section
open Go.ChangeShapes Go.WideShapes Go.Deep
variable {H : Type} {enc : TypeId × Value → H} {P : Program} {w : World} {base : Nat} {spare : Nat → Bool} {held : Bool}
/-- A slice of structs, any number of one-cell fields: the cells and each field's reading. -/
theorem open_slice_fields {t e : TypeId} {fs : Array Field} {fuel : Nat} {cs : List Value} {x : DataW H × List MemPlace} (ht : P.underlying t = some (.slice e)) (he : P.underlying e = some (.struct fs))
    (hone : oneCellFields P fs = true) (hC : P.cellsOf e = fs.size) (h : DataW.trod enc P w base spare held fuel t cs = some x) :
    (cs = [.slice none 0 0]) ∨
    ∃ (a : Addr) (len cap m : Nat), cs = [.slice (some a) len cap] ∧ len ≤ cap ∧ cap ≤ maxLen ∧ len ≤ m ∧
      ∀ i, i < m → ∃ (ys : List (DataW H × List MemPlace)) (n : Nat),
        ∀ (j : Nat) (f : Field), fs[j]? = some f → ∃ (v : Value) (y : DataW H × List MemPlace), w.cell? (a.add (i * fs.size + j)) = some v ∧ ys[j]? = some y ∧ DataW.trod enc P w base spare held n f.type [v] = some y := by
  rcases open_slice ht h with ⟨h0, _⟩ | ⟨a, len, cap, m, n, D, Pl, hcs, hb, hl, hm, hmm, hx, hi⟩
  · exact .inl h0
  · refine .inr ⟨a, len, cap, m, hcs, hl, hm, by rw [hmm]; split <;> omega, fun i him => ?_⟩
    obtain ⟨cs', hc, ht'⟩ := hi i him
    rw [hC] at hc
    obtain ⟨ys, n', hn', hy, hlen, hyl, hf⟩ := DataW.trod_struct he ht'
    obtain ⟨_, hcl, hat⟩ := World.cells?_some hc
    refine ⟨ys, n', fun j f hj => ?_⟩
    obtain ⟨ho, hk⟩ := hone_of hone j f hj
    have hjl : j < fs.size := (Array.getElem?_eq_some_iff.1 hj).1
    have hcell := hat j hjl
    have hv : cs'[j]? = some (cs'[j]'(by omega)) := List.getElem?_eq_getElem (by omega)
    have h1 := hf j f hj
    rw [ho, hk] at h1
    have hone' : (cs'.drop j).take 1 = [cs'[j]'(by omega)] := by
      rw [List.drop_eq_getElem_cons (by omega)]
      rfl
    rw [hone'] at h1
    have hys : ys[j]? = some (ys[j]'(by omega)) := List.getElem?_eq_getElem (by omega)
    refine ⟨_, _, ?_, hys, h1.trans hys⟩
    rw [← Go.Deep.add_add, hcell, hv]

theorem cell_spot {w : World} {a : Addr} {v : Value} (h : w.cell? a = some v) : a.spot = none := by
  unfold World.cell? at h
  split at h
  · split at h
    · cases h
    · rename_i hs
      cases hsp : a.spot with
      | none => rfl
      | some s => simp [hsp] at hs
  · cases h
end

open Go.ChangeShapes Go.WideShapes Go.Deep in
/-- The list of ratios, opened. -/
theorem ratios_open {H : Type} {enc : TypeId × Value → H} {w : World} {spare : Nat → Bool} {held : Bool} {v : Value} {d : DataW H} {ps : List MemPlace} {ao : Option Addr} {len cap : Nat} (hv : v = .slice ao len cap)
    (h : DataW.Trod enc Try.prog w 0 spare held 35 v d ps) :
    len = 0 ∨ ∃ (b off : Nat) (N D : Nat → Int), ao = some ⟨b, off, none⟩ ∧ 1 ≤ len ∧ len ≤ maxLen ∧ b < w.heap.size ∧ (∀ k, I64 (N k)) ∧ (∀ k, I64 (D k)) ∧
      (∀ k, k < len → w.cell? ⟨b, off + k * 2, none⟩ = some (.int .i64 (N k))) ∧ (∀ k, k < len → w.cell? ⟨b, off + k * 2 + 1, none⟩ = some (.int .i64 (D k))) := by
  subst hv
  obtain ⟨fuel, hf⟩ := h
  have hf' : DataW.trod enc Try.prog w 0 spare held fuel 35 [.slice ao len cap] = some (d, ps) := by simpa [Value.cells] using hf
  rcases open_slice_fields (enc := enc) Try.underlying35 Try.underlying24 (by kernel_rfl) (by kernel_rfl) hf' with hc | ⟨a, len', cap', m, hc, hl, hm, hlm, hi⟩
  · simp at hc
    exact .inl hc.2.1
  · simp at hc
    obtain ⟨rfl, rfl, rfl⟩ := hc
    by_cases h0 : len = 0
    · exact .inl h0
    right
    have key : ∀ k, k < len → ∃ n d : Int, w.cell? (a.add (k * 2)) = some (.int .i64 n) ∧ w.cell? (a.add (k * 2 + 1)) = some (.int .i64 d) ∧ I64 n ∧ I64 d := by
      intro k hk
      obtain ⟨ys, n, hj⟩ := hi k (by omega)
      obtain ⟨v0, y0, c0, _, t0⟩ := hj 0 _ rfl
      obtain ⟨v1, y1, c1, _, t1⟩ := hj 1 _ rfl
      obtain ⟨n0, e0, _, w0⟩ := DataW.trod_int Try.underlying3 t0
      obtain ⟨n1, e1, _, w1⟩ := DataW.trod_int Try.underlying3 t1
      simp at e0 e1
      subst e0 e1
      exact ⟨n0, n1, c0, c1, I64.of_wf w0, I64.of_wf w1⟩
    obtain ⟨n0, d0, c0, _, _, _⟩ := key 0 (by omega)
    have hsp := cell_spot (w := w) (a := a) (by rw [Nat.zero_mul, Addr.add_zero'] at c0; exact c0)
    obtain ⟨b, off, spot⟩ := a
    simp only at hsp
    subst hsp
    have key' : ∀ k, k < len → ∃ n d : Int, w.cell? ⟨b, off + k * 2, none⟩ = some (.int .i64 n) ∧ w.cell? ⟨b, off + k * 2 + 1, none⟩ = some (.int .i64 d) ∧ I64 n ∧ I64 d := by
      intro k hk
      obtain ⟨n, d, h1, h2, h3, h4⟩ := key k hk
      rw [Addr.add_lit] at h1 h2
      exact ⟨n, d, h1, h2, h3, h4⟩
    clear key
    refine ⟨b, off, fun k => if h : k < len then (key' k h).choose else 0, fun k => if h : k < len then (key' k h).choose_spec.choose else 0, rfl, by omega, by omega, World.block_lt_of_cell? w _ c0, ?_, ?_, ?_, ?_⟩
    · intro k
      by_cases h : k < len
      · simp only [dif_pos h]; exact (key' k h).choose_spec.choose_spec.2.2.1
      · simp only [dif_neg h]; exact ⟨by omega, by omega⟩
    · intro k
      by_cases h : k < len
      · simp only [dif_pos h]; exact (key' k h).choose_spec.choose_spec.2.2.2
      · simp only [dif_neg h]; exact ⟨by omega, by omega⟩
    · intro k h
      simp only [dif_pos h]
      exact (key' k h).choose_spec.choose_spec.1
    · intro k h
      simp only [dif_pos h]
      exact (key' k h).choose_spec.choose_spec.2.1

theorem sums_all {H : Type} {enc : TypeId × Value → H} {w : World} {spare : Nat → Bool} {held : Bool} {v : Value} {d : DataW H} {ps : List MemPlace} {ao : Option Addr} {len cap : Nat} (hv : v = .slice ao len cap)
    (h : DataW.Trod enc Try.prog w 0 spare held 35 v d ps) : Calls Try.prog 7 #[v] w fun e w' => e = .returned (.bool true) ∧ Exts w w' := by
  rcases ratios_open hv h with rfl | ⟨b, off, N, D, rfl, h1, h2, h3, h4, h5, h6, h7⟩
  · subst hv
    exact sums_nil w cap ao
  · subst hv
    unfold maxLen at h2
    exact sums_walk b off len cap N D w h1 (by omega) h3 h4 h5 h6 h7

open Go.ChangeShapes Go.WideShapes Go.ChangeAt Go.Joins in
set_option maxRecDepth 100000 in
theorem ratioSums_lifted (os : Os) (started : os.Started) (H : Type) (enc : TypeId × Value → H) :
    ReturnsInHanded {} Try.checked os 7 .any (Rows.ratioSumsSpec.pre6 enc Try.prog Try.f7 Rows.ratioSumsRow.domain false) (Rows.ratioSumsSpec.post enc Try.prog Try.f7 false true false false) := by
  refine returnsInHanded_of_change (C := Try.checked) own started (by kernel_rfl) Try.func7
    (ChangeSpec.witness6 (enc := enc) (C := Try.checked) false ⟨#[], #[.slice none 0 0], []⟩ 8 (by kernel_rfl) (by kernel_rfl) (by kernel_rfl) (by kernel_rfl)) ?_
  intro W base args ds gs before hval0 hW hcnd _
  have hval : ∀ (j : Nat) t v, Try.f7.params[j]? = some t → args[j]? = some v → Value.okWide Try.prog W .any base t v := hval0
  have hW' := hW
  obtain ⟨p, q, hA0, hV, rfl, hfz, hnd⟩ := hW
  have hA : DataW.TrodAll enc Try.prog W 0 (fun _ => true) true Try.f7.params.toList args.toList ds p := hA0
  rw [Try.params7] at hA hval
  obtain ⟨v0, vs0, d0, ds0, p0, q0, hargs, rfl, rfl, h0, r0⟩ := trodAll_cons hA
  obtain ⟨rfl, rfl, rfl⟩ := trodAll_nil r0
  obtain rfl : args = #[v0] := by cases args; simp_all
  obtain ⟨rfl, rfl⟩ := trodVars_none hV
  obtain ⟨ao0, len0, cap0, hv0⟩ := okWide_slice Try.underlying35 (hval 0 35 v0 rfl rfl)
  clear hA0 hval0
  refine (sums_all hv0 h0).mono fun e W' ⟨he, hx⟩ => ?_
  subst he
  exact ⟨_, rfl, law_post (T := 4) laidOut Try.underlying4 rfl rfl (by rw [Try.params7]; intro t ht; simp at ht; subst ht; exact ⟨by kernel_rfl, of_decide_eq_true (by kernel_rfl)⟩) hW' rfl hx⟩

theorem ratioSums_over : Rows.ratioSumsRow.holds Try.pinned (OpenSpec.ofChange Rows.ratioSumsSpec) :=
  OpenClaim.holds_of_wide 7 Try.f7 rfl rfl rfl rfl rfl rfl rfl ⟨rfl, rfl, rfl, rfl, rfl⟩ rfl rfl rfl rfl rfl (by kernel_rfl) Try.func7 (by kernel_rfl)
    (of_decide_eq_true (by kernel_rfl)) (by unfold Func.isWrapper; first | (rw [if_pos (by decide +kernel)]; kernel_rfl) | (rw [if_neg (by decide +kernel)]; exact ⟨rfl, rfl⟩))
    (fun os started H enc _ => ratioSums_lifted os started H enc)

theorem ratioSums_holds : Rows.RatioSumsSaid := ratioSums_over
#print axioms ratioSums_holds
end Go.Proofs.Ytklibgaigfjneaa
