/- From the form's reading of an argument to rows of cells in memory. No program in sight, but for the names. -/
import Derived.Test.YtbafcfbchbjgfaaMem
import Derived.Test.YtbafcfbchbjgfaaFrame
import Derived.Deep.Slices
namespace Go.Proofs.Ytbafcfbchbjgfaa
open Go.RowKit Go.Deep
set_option linter.unusedSimpArgs false
set_option linter.unusedVariables false

section
variable {H : Type} {enc : TypeId × Value → H} {P : Program} {w : World} {base : Nat} {spare : Nat → Bool} {held : Bool} {fuel : Nat} {t : TypeId} {cs : List Value} {x : DataW H × List MemPlace}

/-- The cells read at a type. -/
def Reads (enc : TypeId × Value → H) (P : Program) (w : World) (base : Nat) (spare : Nat → Bool) (held : Bool) (t : TypeId) (cs : List Value) : Prop := ∃ n y, DataW.trod enc P w base spare held n t cs = some y

theorem Reads.int {k : IntKind} (ht : P.underlying t = some (.int k)) (h : Reads enc P w base spare held t cs) : ∃ n, cs = [.int k n] ∧ (Lit.int k n).wf = true := by
  obtain ⟨_, _, h⟩ := h
  obtain ⟨n, h1, _, h2⟩ := DataW.trod_int ht h
  exact ⟨n, h1, h2⟩
theorem Reads.bool (ht : P.underlying t = some .bool) (h : Reads enc P w base spare held t cs) : ∃ b, cs = [.bool b] := by
  obtain ⟨_, _, h⟩ := h
  obtain ⟨b, h1, _⟩ := DataW.trod_bool ht h
  exact ⟨b, h1⟩
theorem Reads.string (ht : P.underlying t = some .string) (h : Reads enc P w base spare held t cs) : ∃ s : ByteArray, cs = [.string s] ∧ s.size ≤ maxLen := by
  obtain ⟨_, _, h⟩ := h
  obtain ⟨s, h1, _, h2⟩ := DataW.trod_string ht h
  exact ⟨s, h1, h2⟩
theorem Reads.field {fs : Array Field} (ht : P.underlying t = some (.struct fs)) (h : Reads enc P w base spare held t cs) (i : Nat) (f : Field) (hf : fs[i]? = some f) {m : Nat} (hm : P.cellsOf f.type = m) :
    Reads enc P w base spare held f.type ((cs.drop f.offset).take m) := by
  subst hm
  obtain ⟨_, _, h⟩ := h
  obtain ⟨xs, n, _, _, _, hl, hx⟩ := DataW.trod_struct ht h
  have hi := (Array.getElem?_eq_some_iff.1 hf).1
  refine ⟨n, xs[i], ?_⟩
  rw [hx i f hf, List.getElem?_eq_getElem (by omega)]
theorem Reads.size {fs : Array Field} (ht : P.underlying t = some (.struct fs)) (h : Reads enc P w base spare held t cs) : cs.length = P.cellsOf t := by
  obtain ⟨_, _, h⟩ := h
  obtain ⟨xs, n, _, _, hl, _⟩ := DataW.trod_struct ht h
  exact hl
theorem Reads.slice {e : TypeId} {k : Nat} (ht : P.underlying t = some (.slice e)) (hk : P.cellsOf e = k) (hk0 : 0 < k) (h : Reads enc P w base spare held t cs) :
    ∃ ao n cap, ∃ L : List (List Value), cs = [.slice ao n cap] ∧ L.length = n ∧ RowF (fun _ => True) k w (.slice ao n cap) n L.flatten ∧ ∀ l ∈ L, l.length = k ∧ Reads enc P w base spare held e l := by
  obtain ⟨_, _, h⟩ := h
  rcases DataW.trod_slice ht h with ⟨rfl, _⟩ | ⟨a, len, cap, elems, rest, m, _, rfl, _, hb, hl, hm, hlen, hel, _, _⟩
  · exact ⟨none, 0, 0, [], rfl, rfl, RowF.nil _ _ _, fun l hl => by cases hl⟩
  · obtain ⟨C, hC⟩ := choose_lt (α := List Value) (n := len) (p := fun i c => w.cells? base (a.add (i * k)) k = some c ∧ Reads enc P w base spare held e c) (fun i hi => by
      have := hel i hi
      rw [hk, List.getElem?_eq_getElem (by omega)] at this
      obtain ⟨c, h1, h2⟩ := Option.bind_eq_some_iff.1 this
      exact ⟨c, h1, m, _, h2⟩)
    have hCl : ∀ l ∈ (List.range len).map C, l.length = k := by
      intro l hl
      rw [List.mem_map] at hl
      obtain ⟨i, hi, rfl⟩ := hl
      exact (World.cells?_some (hC i (by simpa using hi)).1).2.1
    refine ⟨some a, len, cap, (List.range len).map C, rfl, by simp, ⟨?_, some a, cap, rfl, hl, hm, (fun h => by cases h), fun hn => ?_⟩, ?_⟩
    · rw [flatten_len _ hCl]; simp
    · have at0 : ∃ v, w.cell? a = some v := by
        obtain ⟨_, h2, h3⟩ := World.cells?_some (hC 0 hn).1
        have := h3 0 hk0
        rw [Nat.zero_mul] at this
        have hadd : (a.add 0).add 0 = a := by simp [Addr.add]
        rw [hadd, List.getElem?_eq_getElem (by omega)] at this
        exact ⟨_, this⟩
      obtain ⟨v, hv⟩ := at0
      have hsp : a.spot = none := by
        unfold World.cell? at hv
        split at hv
        · split at hv
          · cases hv
          · simpa using ‹¬ a.spot.isSome = true›
        · cases hv
      obtain ⟨b, off, sp⟩ := a
      simp only at hsp
      subst hsp
      refine ⟨b, off, rfl, trivial, World.block_lt_of_cell? w _ hv, fun t c ht => ?_⟩
      have htl := (List.getElem?_eq_some_iff.1 ht).1
      rw [flatten_len _ hCl] at htl
      simp only [List.length_map, List.length_range] at htl
      have hdm : t / k * k + t % k = t := by rw [Nat.mul_comm]; exact Nat.div_add_mod t k
      have hmod := Nat.mod_lt t hk0
      have hi : t / k < len := Nat.div_lt_of_lt_mul (by rw [Nat.mul_comm]; exact htl)
      rw [← hdm, flatten_at _ hCl _ _ hmod] at ht
      simp only [List.getElem?_map, List.getElem?_range hi, Option.map_some, Option.bind_some] at ht
      obtain ⟨_, _, h3⟩ := World.cells?_some (hC (t / k) hi).1
      have := h3 (t % k) hmod
      rw [ht, Addr.add_lit, Addr.add_lit, Nat.add_assoc, hdm] at this
      exact this
    · intro l hl
      refine ⟨hCl l hl, ?_⟩
      rw [List.mem_map] at hl
      obtain ⟨i, hi, rfl⟩ := hl
      exact (hC i (by simpa using hi)).2
/-- An argument. -/
theorem Reads.arg {v : Value} {d : DataW H} {p : List MemPlace} (h : DataW.Trod enc P w base spare held t v d p) : Reads enc P w base spare held t v.cells.toList := by
  obtain ⟨n, h⟩ := h
  exact ⟨n, _, h⟩
/-- A list of what each reads as. -/
theorem list_of {α : Type} {β : Type} {R : β → α → Prop} : ∀ (L : List β), (∀ l ∈ L, ∃ a, R l a) → ∃ A : List α, A.length = L.length ∧ ∀ (i : Nat) (l : β), L[i]? = some l → ∃ a, A[i]? = some a ∧ R l a
  | [], _ => ⟨[], rfl, fun i l h => by simp at h⟩
  | l :: L, h => by
    obtain ⟨a, ha⟩ := h l (by simp)
    obtain ⟨A, h1, h2⟩ := list_of L (fun l' hl => h l' (by simp [hl]))
    refine ⟨a :: A, by simp [h1], fun i l' hi => ?_⟩
    cases i with
    | zero => simp at hi; subst hi; exact ⟨a, by simp, ha⟩
    | succ i => simp at hi; simpa using h2 i l' hi
end
end Go.Proofs.Ytbafcfbchbjgfaa
