/- A right that came in, read: its numbers and its phases. No condition. -/
import Derived.Test.YtnpjagodbnpahaaRead
import Derived.Test.YtnpjagodbnpahaaSmall8
import Derived.Lib.SmallJoins
namespace Go.Proofs.Ytnpjagodbnpahaa
open Go.RowKit Go.Deep Go.Joins Go.WideShapes
set_option linter.unusedSimpArgs false
set_option linter.unusedVariables false

section
variable {H : Type} {enc : TypeId × Value → H} {w : World} {base : Nat} {spare : Nat → Bool} {held : Bool} {cs : List Value}

theorem list2 {α : Type} {l : List α} (h : l.length = 2) : ∃ a b, l = [a, b] := by
  match l, h with
  | [a, b], _ => exact ⟨a, b, rfl⟩
theorem list9 {α : Type} {l : List α} (h : l.length = 9) : ∃ a b c d e f g i j, l = [a, b, c, d, e, f, g, i, j] := by
  match l, h with
  | [a, b, c, d, e, f, g, i, j], _ => exact ⟨a, b, c, d, e, f, g, i, j, rfl⟩
theorem list7 {α : Type} {l : List α} (h : l.length = 7) : ∃ a b c d e f g, l = [a, b, c, d, e, f, g] := by
  match l, h with
  | [a, b, c, d, e, f, g], _ => exact ⟨a, b, c, d, e, f, g, rfl⟩

theorem cells3 : Try.prog.cellsOf 3 = 1 := by kernel_rfl
theorem cells4 : Try.prog.cellsOf 4 = 1 := by kernel_rfl
theorem cells9 : Try.prog.cellsOf 9 = 1 := by kernel_rfl
theorem cells22 : Try.prog.cellsOf 22 = 1 := by kernel_rfl
theorem cells24 : Try.prog.cellsOf 24 = 2 := by kernel_rfl
theorem cells26 : Try.prog.cellsOf 26 = 7 := by kernel_rfl
theorem cells30 : Try.prog.cellsOf 30 = 1 := by kernel_rfl
theorem cells31 : Try.prog.cellsOf 31 = 1 := by kernel_rfl
theorem cells33 : Try.prog.cellsOf 33 = 2 := by kernel_rfl
theorem cells57 : Try.prog.cellsOf 57 = 4 := by kernel_rfl
theorem cells59 : Try.prog.cellsOf 59 = 6 := by kernel_rfl
theorem cells61 : Try.prog.cellsOf 61 = 9 := by kernel_rfl
theorem cells63 : Try.prog.cellsOf 63 = 2 := by kernel_rfl

theorem read_int {cs : List Value} (h : Reads enc Try.prog w base spare held 3 cs) : ∃ n, cs = [.int .i64 n] ∧ I64 n := by
  obtain ⟨n, h1, h2⟩ := h.int Try.underlying3
  exact ⟨n, h1, I64.of_wf h2⟩

theorem read_vol (h : Reads enc Try.prog w base spare held 61 cs) : ∃ v : Vol, cs = volCells v := by
  obtain ⟨a, b, c, d, e, f, g, i, j, rfl⟩ := list9 ((h.size Try.underlying61).trans cells61)
  have hB : Reads enc Try.prog w base spare held 59 [a, b, c, d, e, f] := h.field Try.underlying61 0 _ rfl cells59
  have hR : Reads enc Try.prog w base spare held 57 [a, b, c, d] := hB.field Try.underlying59 0 _ rfl cells57
  have h0 : Reads enc Try.prog w base spare held 3 [a] := hR.field Try.underlying57 0 _ rfl cells3
  have h1 : Reads enc Try.prog w base spare held 3 [b] := hR.field Try.underlying57 1 _ rfl cells3
  have h2 : Reads enc Try.prog w base spare held 3 [c] := hR.field Try.underlying57 2 _ rfl cells3
  have h3 : Reads enc Try.prog w base spare held 3 [d] := hR.field Try.underlying57 3 _ rfl cells3
  have h4 : Reads enc Try.prog w base spare held 3 [e] := hB.field Try.underlying59 1 _ rfl cells3
  have h5 : Reads enc Try.prog w base spare held 3 [f] := hB.field Try.underlying59 2 _ rfl cells3
  have h6 : Reads enc Try.prog w base spare held 3 [g] := h.field Try.underlying61 1 _ rfl cells3
  have h7 : Reads enc Try.prog w base spare held 3 [i] := h.field Try.underlying61 2 _ rfl cells3
  have h8 : Reads enc Try.prog w base spare held 4 [j] := h.field Try.underlying61 3 _ rfl cells4
  obtain ⟨n0, e0, _⟩ := read_int h0
  obtain ⟨n1, e1, _⟩ := read_int h1
  obtain ⟨n2, e2, _⟩ := read_int h2
  obtain ⟨n3, e3, _⟩ := read_int h3
  obtain ⟨n4, e4, _⟩ := read_int h4
  obtain ⟨n5, e5, _⟩ := read_int h5
  obtain ⟨n6, e6, _⟩ := read_int h6
  obtain ⟨n7, e7, _⟩ := read_int h7
  obtain ⟨n8, e8⟩ := h8.bool Try.underlying4
  cases e0; cases e1; cases e2; cases e3; cases e4; cases e5; cases e6; cases e7; cases e8
  exact ⟨(n0, n1, n2, n3, n4, n5, n6, n7, n8), rfl⟩
theorem read_ent (h : Reads enc Try.prog w base spare held 63 cs) : ∃ v : Ent, cs = entCells v := by
  obtain ⟨a, b, rfl⟩ := list2 ((h.size Try.underlying63).trans cells63)
  have h0 : Reads enc Try.prog w base spare held 9 [a] := h.field Try.underlying63 0 _ rfl cells9
  have h1 : Reads enc Try.prog w base spare held 3 [b] := h.field Try.underlying63 1 _ rfl cells3
  obtain ⟨s, e0, _⟩ := h0.string Try.underlying9
  obtain ⟨n, e1, _⟩ := read_int h1
  cases e0; cases e1
  exact ⟨(s, n), rfl⟩

theorem flat_of {α : Type} {f : α → List Value} {L : List (List Value)} {A : List α} (h1 : A.length = L.length) (h2 : ∀ (i : Nat) (l : List Value), L[i]? = some l → ∃ a, A[i]? = some a ∧ l = f a) : L = A.map f := by
  apply List.ext_getElem?
  intro i
  rw [List.getElem?_map]
  cases hl : L[i]? with
  | none => rw [List.getElem?_eq_none (by have := List.getElem?_eq_none_iff.1 hl; omega)]; rfl
  | some l =>
    obtain ⟨a, ha, rfl⟩ := h2 i l hl
    rw [ha]; rfl

theorem read_vols {v : Value} (h : Reads enc Try.prog w base spare held 30 [v]) : ∃ ao cap, ∃ l : List Vol, v = .slice ao l.length cap ∧ Vols (fun _ => True) w v l := by
  obtain ⟨ao, n, cap, L, e, hL, hr, hl⟩ := h.slice Try.underlying30 cells61 (by decide)
  cases e
  obtain ⟨A, h1, h2⟩ := list_of (R := fun l v => l = volCells v) L (fun l hm => read_vol (hl l hm).2)
  have := flat_of h1 h2
  subst this
  have hn : A.length = n := by rw [h1, hL]
  subst hn
  exact ⟨ao, cap, A, rfl, hr⟩
theorem read_ents {v : Value} (h : Reads enc Try.prog w base spare held 31 [v]) : ∃ ao cap, ∃ l : List Ent, v = .slice ao l.length cap ∧ Ents (fun _ => True) w v l := by
  obtain ⟨ao, n, cap, L, e, hL, hr, hl⟩ := h.slice Try.underlying31 cells63 (by decide)
  cases e
  obtain ⟨A, h1, h2⟩ := list_of (R := fun l v => l = entCells v) L (fun l hm => read_ent (hl l hm).2)
  have := flat_of h1 h2
  subst this
  have hn : A.length = n := by rw [h1, hL]
  subst hn
  exact ⟨ao, cap, A, rfl, hr⟩

theorem read_phs {v : Value} (h : Reads enc Try.prog w base spare held 22 [v]) : ∃ ao cap, ∃ P : List PhC, v = .slice ao P.length cap ∧ Phs (fun _ => True) w v P := by
  obtain ⟨ao, n, cap, L, e, hL, hr, hl⟩ := h.slice Try.underlying22 cells33 (by decide)
  cases e
  obtain ⟨A, h1, h2⟩ := list_of (α := PhC) (R := fun l p => ∃ a b, l = [a, b] ∧ Vols (fun _ => True) w a p.1 ∧ Ents (fun _ => True) w b p.2) L (fun l hm => by
    obtain ⟨hlen, h⟩ := hl l hm
    obtain ⟨a, b, rfl⟩ := list2 hlen
    have h0 : Reads enc Try.prog w base spare held 30 [a] := h.field Try.underlying33 0 _ rfl cells30
    have h1 : Reads enc Try.prog w base spare held 31 [b] := h.field Try.underlying33 1 _ rfl cells31
    obtain ⟨_, _, p1, _, q1⟩ := read_vols h0
    obtain ⟨_, _, p2, _, q2⟩ := read_ents h1
    exact ⟨(p1, p2), a, b, rfl, q1, q2⟩)
  have hn : A.length = n := by rw [h1, hL]
  subst hn
  refine ⟨ao, cap, A, rfl, L.flatten, hr, fun i p hp => ?_⟩
  have hi := (List.getElem?_eq_some_iff.1 hp).1
  have hLi : L[i]? = some L[i] := List.getElem?_eq_getElem (by omega)
  obtain ⟨q, hq, a, b, hlab, r1, r2⟩ := h2 i L[i] hLi
  rw [hp] at hq
  cases hq
  have f0 := flatten_at (k := 2) L (fun l hm => (hl l hm).1) i 0 (by decide)
  have f1 := flatten_at (k := 2) L (fun l hm => (hl l hm).1) i 1 (by decide)
  rw [hLi, hlab] at f0 f1
  exact ⟨a, b, f0, f1, r1, r2⟩

theorem open_right {r : Reach} {b0 : Nat} {v : Value} {d : DataW H} {p : List MemPlace} (hv : Value.okWide Try.prog w r b0 26 v) (h : DataW.Trod enc Try.prog w base spare held 26 v d p) :
    ∃ id ho lot ao cap us un ov, ∃ P : List PhC, v = rightV id ho lot (.slice ao P.length cap) us un ov ∧ Phs (fun _ => True) w (.slice ao P.length cap) P ∧ I64 id ∧ I64 ho ∧ I64 lot ∧ I64 us ∧ I64 un := by
  obtain ⟨cs, rfl, hsz⟩ := okWide_struct Try.underlying26 hv
  have h := Reads.arg h
  obtain ⟨l⟩ := cs
  obtain ⟨a, b, c, d, e, f, g, rfl⟩ := list7 (l := l) (hsz.trans cells26)
  have h : Reads enc Try.prog w base spare held 26 [a, b, c, d, e, f, g] := h
  have hD : Reads enc Try.prog w base spare held 24 [c, d] := h.field Try.underlying26 2 _ rfl cells24
  have h0 : Reads enc Try.prog w base spare held 3 [a] := h.field Try.underlying26 0 _ rfl cells3
  have h1 : Reads enc Try.prog w base spare held 3 [b] := h.field Try.underlying26 1 _ rfl cells3
  have h2 : Reads enc Try.prog w base spare held 3 [c] := hD.field Try.underlying24 0 _ rfl cells3
  have h3 : Reads enc Try.prog w base spare held 22 [d] := hD.field Try.underlying24 1 _ rfl cells22
  have h4 : Reads enc Try.prog w base spare held 3 [e] := h.field Try.underlying26 3 _ rfl cells3
  have h5 : Reads enc Try.prog w base spare held 3 [f] := h.field Try.underlying26 4 _ rfl cells3
  have h6 : Reads enc Try.prog w base spare held 4 [g] := h.field Try.underlying26 5 _ rfl cells4
  obtain ⟨n0, e0, w0⟩ := read_int h0
  obtain ⟨n1, e1, w1⟩ := read_int h1
  obtain ⟨n2, e2, w2⟩ := read_int h2
  obtain ⟨ao, cap, P, rfl, hP⟩ := read_phs h3
  obtain ⟨n4, e4, w4⟩ := read_int h4
  obtain ⟨n5, e5, w5⟩ := read_int h5
  obtain ⟨n6, e6⟩ := h6.bool Try.underlying4
  cases e0; cases e1; cases e2; cases e4; cases e5; cases e6
  exact ⟨n0, n1, n2, ao, cap, n4, n5, n6, P, rfl, hP, w0, w1, w2, w4, w5⟩
theorem ints_flat (A : List Int) : (A.map fun n => [Value.int .i64 n]).flatten = ints A := by
  unfold ints
  induction A with
  | nil => rfl
  | cons a A ih => rw [List.map_cons, List.flatten_cons, ih]; rfl
theorem open_il {r : Reach} {b0 : Nat} {v : Value} {d : DataW H} {p : List MemPlace} (hv : Value.okWide Try.prog w r b0 46 v) (h : DataW.Trod enc Try.prog w base spare held 46 v d p) :
    ∃ ao cap, ∃ l : List Int, v = .slice ao l.length cap ∧ Ints (fun _ => True) w v l ∧ ∀ n ∈ l, I64 n := by
  obtain ⟨a, n, c, rfl⟩ := okWide_slice Try.underlying46 hv
  have h : Reads enc Try.prog w base spare held 46 [.slice a n c] := Reads.arg h
  obtain ⟨ao, n, cap, L, e, hL, hr, hl⟩ := h.slice Try.underlying46 cells3 (by decide)
  cases e
  obtain ⟨A, h1, h2⟩ := list_of (R := fun l n => l = [.int .i64 n] ∧ I64 n) L (fun l hm => read_int (hl l hm).2)
  have := flat_of h1 (f := fun n => [.int .i64 n]) (fun i l hi => let ⟨a, h1, h2, _⟩ := h2 i l hi; ⟨a, h1, h2⟩)
  subst this
  have hn : A.length = n := by rw [h1, hL]
  subst hn
  refine ⟨a, c, A, rfl, ?_, fun n hm => ?_⟩
  · rw [Ints, ← ints_flat]
    exact hr
  · obtain ⟨i, hi⟩ := List.getElem?_of_mem hm
    obtain ⟨a, ha, _, hb⟩ := h2 i [.int .i64 n] (by simp [hi])
    rw [hi] at ha
    cases ha
    exact hb
end
end Go.Proofs.Ytnpjagodbnpahaa
