/- Lemmas that the laws of this seat share, 2 texts in one: Open02, Own2. No condition of their own. -/
import Derived.Test.YtgeoompgakdbiaaM10
import Derived.Test.YtgeoompgakdbiaaM7
import Derived.Lib.SmallJoins
import Derived.OpenShut
/- Arguments that came in, read: lists of numbers and of acts, strings. No condition. -/
namespace Go.Proofs.Ytgeoompgakdbiaa
open Go.RowKit Go.Deep Go.Joins Go.WideShapes
set_option linter.unusedSimpArgs false
set_option linter.unusedVariables false

section
variable {H : Type} {enc : TypeId × Value → H} {w : World} {base : Nat} {spare : Nat → Bool} {held : Bool} {cs : List Value}
theorem list5 {α : Type} {l : List α} (h : l.length = 5) : ∃ a b c d e, l = [a, b, c, d, e] := by
  match l, h with
  | [a, b, c, d, e], _ => exact ⟨a, b, c, d, e, rfl⟩
theorem cells9 : Try.prog.cellsOf 9 = 1 := by kernel_rfl
theorem cells31 : Try.prog.cellsOf 31 = 1 := by kernel_rfl
theorem cells33 : Try.prog.cellsOf 33 = 5 := by kernel_rfl
theorem read_i64 {cs : List Value} (h : Reads enc Try.prog w base spare held 3 cs) : ∃ n, cs = [.int .i64 n] ∧ I64 n := by
  obtain ⟨n, h1, h2⟩ := h.int Try.underlying3
  exact ⟨n, h1, I64.of_wf h2⟩
theorem flat_of {α : Type} {f : α → List Value} {L : List (List Value)} {A : List α} (h1 : A.length = L.length) (h2 : ∀ (i : Nat) (l : List Value), L[i]? = some l → ∃ a, A[i]? = some a ∧ l = f a) : L = A.map f := by
  apply List.ext_getElem?
  intro i
  rw [List.getElem?_map]
  cases hl : L[i]? with
  | none => rw [List.getElem?_eq_none (by have := List.getElem?_eq_none_iff.1 hl; omega)]; rfl
  | some l =>
    obtain ⟨a, ha, rfl⟩ := h2 i l hl
    rw [ha]; rfl
theorem intsC_flat (A : List Int) : (A.map fun n => [Value.int .i64 n]).flatten = intsC A := by
  induction A with
  | nil => rfl
  | cons a A ih => rw [List.map_cons, List.flatten_cons, ih]; rfl
theorem read_il {v : Value} (h : Reads enc Try.prog w base spare held 31 [v]) : ∃ l : List Int, (∃ ao cap, v = .slice ao l.length cap) ∧ RowF (fun _ => True) 1 w v l.length (intsC l) ∧ ∀ x ∈ l, I64 x := by
  obtain ⟨ao, n, cap, L, e, hL, hr, hl⟩ := h.slice Try.underlying31 cells3 (by decide)
  cases e
  obtain ⟨A, h1, h2⟩ := list_of (R := fun l n => l = [.int .i64 n] ∧ I64 n) L (fun l hm => (read_i64 (hl l hm).2))
  have := flat_of h1 (f := fun n => [.int .i64 n]) (fun i l hi => let ⟨a, ha, e, _⟩ := h2 i l hi; ⟨a, ha, e⟩)
  have h64 : ∀ x ∈ A, I64 x := fun x hx => by
    obtain ⟨i, hi⟩ := List.getElem?_of_mem hx
    have hi1 := (List.getElem?_eq_some_iff.1 hi).1
    obtain ⟨q, hq, _, h⟩ := h2 i L[i] (List.getElem?_eq_getElem (by omega))
    rw [hi] at hq
    cases hq
    exact h
  subst this
  have hn : A.length = n := by rw [h1, hL]
  subst hn
  rw [intsC_flat] at hr
  exact ⟨A, ⟨ao, cap, rfl⟩, hr, h64⟩
theorem RowF.blocks {S : Nat → Prop} {k n : Nat} {w : World} {v : Value} {xs : List Value} (h : RowF S k w v n xs) : RowF (fun b => b < w.heap.size) k w v n xs := by
  obtain ⟨h1, ao, cap, hv, h2, h3, h4, h5⟩ := h
  refine ⟨h1, ao, cap, hv, h2, h3, h4, fun hn => ?_⟩
  obtain ⟨b, off, e, _, hb, hc⟩ := h5 hn
  exact ⟨b, off, e, hb, hb, hc⟩
theorem open_il {r : Go.Reach} {b0 : Nat} {v : Value} {d : DataW H} {p : List MemPlace} (hv : Value.okWide Try.prog w r b0 31 v) (h : DataW.Trod enc Try.prog w base spare held 31 v d p) :
    ∃ ao cap, ∃ l : List Int, v = .slice ao l.length cap ∧ RowF (fun b => b < w.heap.size) 1 w (.slice ao l.length cap) l.length (intsC l) ∧ ∀ x ∈ l, I64 x := by
  obtain ⟨a, n, c, rfl⟩ := okWide_slice Try.underlying31 hv
  have h : Reads enc Try.prog w base spare held 31 [.slice a n c] := Reads.arg h
  obtain ⟨l, ⟨ao, cap, e⟩, h1, h2⟩ := read_il h
  rw [e] at h1 ⊢
  exact ⟨ao, cap, l, rfl, h1.blocks, h2⟩
theorem open_acts {r : Go.Reach} {b0 : Nat} {v : Value} {d : DataW H} {p : List MemPlace} (hv : Value.okWide Try.prog w r b0 22 v) (h : DataW.Trod enc Try.prog w base spare held 22 v d p) :
    ∃ l : List ActP, Acts (fun b => b < w.heap.size) w v l := by
  obtain ⟨a, n, c, rfl⟩ := okWide_slice Try.underlying22 hv
  have h : Reads enc Try.prog w base spare held 22 [.slice a n c] := Reads.arg h
  obtain ⟨ao, n, cap, L, e, hL, hr, hl⟩ := h.slice Try.underlying22 cells33 (by decide)
  cases e
  obtain ⟨A, h1, h2⟩ := list_of (α := ActP) (R := fun l d => ∃ kv, l = [.int .i64 d.op, .int .i64 d.f, .int .i64 d.n, .string d.s, kv] ∧ (I64 d.op ∧ I64 d.f ∧ I64 d.n ∧ ∀ x ∈ d.keep, I64 x) ∧ RowF (fun _ => True) 1 w kv d.keep.length (intsC d.keep)) L (fun l hm => by
    obtain ⟨hlen, h⟩ := hl l hm
    obtain ⟨x0, x1, x2, x3, x4, rfl⟩ := list5 hlen
    have h0 : Reads enc Try.prog w base spare held 3 [x0] := h.field Try.underlying33 0 _ rfl cells3
    have h1 : Reads enc Try.prog w base spare held 3 [x1] := h.field Try.underlying33 1 _ rfl cells3
    have h2 : Reads enc Try.prog w base spare held 3 [x2] := h.field Try.underlying33 2 _ rfl cells3
    have h3 : Reads enc Try.prog w base spare held 9 [x3] := h.field Try.underlying33 3 _ rfl cells9
    have h4 : Reads enc Try.prog w base spare held 31 [x4] := h.field Try.underlying33 4 _ rfl cells31
    obtain ⟨n0, e0, i0⟩ := read_i64 h0
    obtain ⟨n1, e1, i1⟩ := read_i64 h1
    obtain ⟨n2, e2, i2⟩ := read_i64 h2
    obtain ⟨s, e3, _⟩ := h3.string Try.underlying9
    obtain ⟨kl, _, hk, i4⟩ := read_il h4
    cases e0; cases e1; cases e2; cases e3
    exact ⟨⟨n0, n1, n2, s, kl⟩, x4, rfl, ⟨i0, i1, i2, i4⟩, hk⟩)
  have hAn : A.length = n := by rw [h1, hL]
  subst hAn
  refine ⟨A, fun x hx => ?_, L.flatten, hr.blocks, fun i d hd => ?_⟩
  · obtain ⟨i, hi⟩ := List.getElem?_of_mem hx
    have hi1 := (List.getElem?_eq_some_iff.1 hi).1
    obtain ⟨q, hq, kv, _, r1, _⟩ := h2 i L[i] (List.getElem?_eq_getElem (by omega))
    rw [hi] at hq
    cases hq
    exact r1
  · have hi := (List.getElem?_eq_some_iff.1 hd).1
    have hLi : L[i]? = some L[i] := List.getElem?_eq_getElem (by omega)
    obtain ⟨q, hq, kv, hlab, _, r2⟩ := h2 i L[i] hLi
    rw [hd] at hq
    cases hq
    have f0 := flatten_at (k := 5) L (fun l hm => (hl l hm).1) i 0 (by decide)
    have f1 := flatten_at (k := 5) L (fun l hm => (hl l hm).1) i 1 (by decide)
    have f2 := flatten_at (k := 5) L (fun l hm => (hl l hm).1) i 2 (by decide)
    have f3 := flatten_at (k := 5) L (fun l hm => (hl l hm).1) i 3 (by decide)
    have f4 := flatten_at (k := 5) L (fun l hm => (hl l hm).1) i 4 (by decide)
    rw [hLi, hlab] at f0 f1 f2 f3 f4
    exact ⟨kv, f0, f1, f2, f3, f4, r2.blocks⟩
end
end Go.Proofs.Ytgeoompgakdbiaa

/- Contracts for one of two disks of our own, results named. -/
namespace Go.Proofs.Ytgeoompgakdbiaa
open Go.RowKit Go.Maps
set_option linter.unusedSimpArgs false
set_option linter.unusedVariables false
set_option maxRecDepth 100000
theorem pair_new {w0 w : World} {b c : Nat} {M : Mod} (h : Own w0 w b M c) : Calls Try.prog 10 #[] w fun e w' => ∃ b', e = .returned (.pointer (some ⟨b', 0, none⟩)) ∧ Pair w0 w' b M c b' M0 0 := by
  obtain ⟨hx, O, S, hd, ho, hs⟩ := h
  refine (new10 w).mono ?_
  rintro e w' ⟨b', rfl, h1, h2⟩
  have hsz := hx.below.size
  exact ⟨b', rfl, hx.trans h1, O, S, _, _, hd.exts h1, h2, ho, hs, fun k hk => Nat.le_trans hsz hk.1, fun k hk => hk.elim, fun k hk hk2 => by have := hd.oLt k hk; omega, fun k _ hk2 => hk2, fun k hk hk2 => by have := hd.sLt k hk2; omega⟩
theorem Pair.more {w0 w : World} {b1 c1 c1' b2 c2 c2' : Nat} {M1 M2 : Mod} (h : Pair w0 w b1 M1 c1 b2 M2 c2) (h1 : c1 ≤ c1') (h1s : c1' ≤ 1000000) (h2 : c2 ≤ c2') (h2s : c2' ≤ 1000000) : Pair w0 w b1 M1 c1' b2 M2 c2' := by
  obtain ⟨hx, O1, S1, O2, S2, g1, g2, rest⟩ := h
  exact ⟨hx, O1, S1, O2, S2, g1.more h1 h1s, g2.more h2 h2s, rest⟩
theorem pair_arm {w0 w : World} {b1 c1 b2 c2 : Nat} {M1 M2 : Mod} {kv : Value} {kl : List Int} (h : Pair w0 w b1 M1 c1 b2 M2 c2) (n : Int) (hn : I64 n) (hk : RowF (fun k => k < w0.heap.size) 1 w0 kv kl.length (intsC kl)) (hkl : kl.length ≤ 1000) (hki : ∀ x ∈ kl, I64 x) : Calls Try.prog 27 #[.pointer (some ⟨b1, 0, none⟩), .int .i64 n, kv] w fun e w' => e = .returned (.tuple #[]) ∧ Pair w0 w' b1 { M1 with armed := max n 0, keep := kl } c1 b2 M2 c2 := h.act fun O S hd _ => arm27 hd n hn kv kl (hk.exts h.1) hkl hki
theorem pair_do_R {w0 w : World} {b1 c1 b2 c2 : Nat} {M1 M2 M' : Mod} {r : Int} {kv : Value} {a : ActP} (h : Pair w0 w b1 M1 c1 b2 M2 c2) (hk : RowF (fun k => k < w0.heap.size) 1 w0 kv a.keep.length (intsC a.keep)) (ha : ActOk a) (hc : c1 + 6 ≤ 1000000) (hr : doD M1 a = (M', r)) : Calls Try.prog 12 #[.pointer (some ⟨b1, 0, none⟩), .agg #[.int .i64 a.op, .int .i64 a.f, .int .i64 a.n, .string a.s, kv]] w fun e w' => e = .returned (.int .i64 r) ∧ Pair w0 w' b1 M' (c1 + 6) b2 M2 c2 := by
  have := h.act fun O S hd ho => do12 hd a kv (hk.exts h.1) (fun k hk ho' => by have := ho k ho'; omega) ha hc
  rw [hr] at this
  exact this
theorem pair_crash_arg {w0 w : World} {b1 c1 b2 c2 : Nat} {M1 M2 M' : Mod} {kv : Value} {kl : List Int} (h : Pair w0 w b1 M1 c1 b2 M2 c2) (hk : RowF (fun k => k < w0.heap.size) 1 w0 kv kl.length (intsC kl)) (hr : crashD M1 kl = M') : Calls Try.prog 25 #[.pointer (some ⟨b1, 0, none⟩), kv] w fun e w' => e = .returned (.tuple #[]) ∧ Pair w0 w' b1 M' c1 b2 M2 c2 := hr ▸ h.act fun O S hd ho => crash25 hd (hk.exts h.1) (fun k hk ho' => by have := ho k ho'; omega)
theorem pair_same {w0 w : World} {b1 c1 b2 c2 : Nat} {M1 M2 : Mod} {v : Value} {l : List ActP} {r : Bool} (h : Pair w0 w b1 M1 c1 b2 M2 c2) (hl : Acts (fun k => k < w0.heap.size) w0 v l) (hr : sameB M1 M2 l = r) : Calls Try.prog 28 #[.pointer (some ⟨b1, 0, none⟩), .pointer (some ⟨b2, 0, none⟩), v] w fun e w' => e = .returned (.bool r) ∧ Exts w w' := by
  obtain ⟨O, S, hd⟩ := h.own.at
  obtain ⟨O2, S2, hd2⟩ := h.swap.own.at
  exact hr ▸ same28 hd hd2 (hl.exts h.1)
end Go.Proofs.Ytgeoompgakdbiaa
