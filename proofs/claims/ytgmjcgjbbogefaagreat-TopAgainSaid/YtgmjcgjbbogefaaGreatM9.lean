/- Lemmas that the laws of this seat share, 4 texts in one: Read, RowsAt, Refs1, CirclesPlain. No condition of their own. -/
import Derived.Test.YtgmjcgjbbogefaaGreatM1
import Derived.Test.YtgmjcgjbbogefaaGreatM2
import Derived.Deep.Slices
import Derived.Test.YtgmjcgjbbogefaaGreatM7
import Derived.Test.YtgmjcgjbbogefaaGreatM8
/- From the form's reading of an argument to rows of cells in memory. No program in sight, but for the names. -/
namespace Go.Proofs.YtgmjcgjbbogefaaGreat
open Go.RowKit Go.Deep
set_option linter.unusedSimpArgs false
set_option linter.unusedVariables false

section
variable {H : Type} {enc : TypeId × Value → H} {P : Program} {w : World} {base : Nat} {spare : Nat → Bool} {held : Bool} {fuel : Nat} {t : TypeId} {cs : List Value} {x : DataW H × List MemPlace}

/-- The cells read at a type. -/
def Reads (enc : TypeId × Value → H) (P : Program) (w : World) (base : Nat) (spare : Nat → Bool) (held : Bool) (t : TypeId) (cs : List Value) : Prop := ∃ n y, DataW.trod enc P w base spare held n t cs = some y

theorem Reads.int {k : IntKind} (ht : P.underlying t = some (.int k)) (h : Reads enc P w base spare held t cs) : ∃ n, cs = [.int k n] ∧ (Lit.int k n).wf = true := by
  obtain ⟨_, _, h⟩ := h
  obtain ⟨n, h1, _, h2⟩ := DataW.trod_int ht h
  exact ⟨n, h1, h2⟩
theorem Reads.bool (ht : P.underlying t = some .bool) (h : Reads enc P w base spare held t cs) : ∃ b, cs = [.bool b] := by
  obtain ⟨_, _, h⟩ := h
  obtain ⟨b, h1, _⟩ := DataW.trod_bool ht h
  exact ⟨b, h1⟩
theorem Reads.string (ht : P.underlying t = some .string) (h : Reads enc P w base spare held t cs) : ∃ s : ByteArray, cs = [.string s] ∧ s.size ≤ maxLen := by
  obtain ⟨_, _, h⟩ := h
  obtain ⟨s, h1, _, h2⟩ := DataW.trod_string ht h
  exact ⟨s, h1, h2⟩
theorem Reads.field {fs : Array Field} (ht : P.underlying t = some (.struct fs)) (h : Reads enc P w base spare held t cs) (i : Nat) (f : Field) (hf : fs[i]? = some f) {m : Nat} (hm : P.cellsOf f.type = m) :
    Reads enc P w base spare held f.type ((cs.drop f.offset).take m) := by
  subst hm
  obtain ⟨_, _, h⟩ := h
  obtain ⟨xs, n, _, _, _, hl, hx⟩ := DataW.trod_struct ht h
  have hi := (Array.getElem?_eq_some_iff.1 hf).1
  refine ⟨n, xs[i], ?_⟩
  rw [hx i f hf, List.getElem?_eq_getElem (by omega)]
theorem Reads.size {fs : Array Field} (ht : P.underlying t = some (.struct fs)) (h : Reads enc P w base spare held t cs) : cs.length = P.cellsOf t := by
  obtain ⟨_, _, h⟩ := h
  obtain ⟨xs, n, _, _, hl, _⟩ := DataW.trod_struct ht h
  exact hl
theorem Reads.slice {e : TypeId} {k : Nat} (ht : P.underlying t = some (.slice e)) (hk : P.cellsOf e = k) (hk0 : 0 < k) (h : Reads enc P w base spare held t cs) :
    ∃ ao n cap, ∃ L : List (List Value), cs = [.slice ao n cap] ∧ L.length = n ∧ RowF (fun _ => True) k w (.slice ao n cap) n L.flatten ∧ ∀ l ∈ L, l.length = k ∧ Reads enc P w base spare held e l := by
  obtain ⟨_, _, h⟩ := h
  rcases DataW.trod_slice ht h with ⟨rfl, _⟩ | ⟨a, len, cap, elems, rest, m, _, rfl, _, hb, hl, hm, hlen, hel, _, _⟩
  · exact ⟨none, 0, 0, [], rfl, rfl, RowF.nil _ _ _, fun l hl => by cases hl⟩
  · obtain ⟨C, hC⟩ := choose_lt (α := List Value) (n := len) (p := fun i c => w.cells? base (a.add (i * k)) k = some c ∧ Reads enc P w base spare held e c) (fun i hi => by
      have := hel i hi
      rw [hk, List.getElem?_eq_getElem (by omega)] at this
      obtain ⟨c, h1, h2⟩ := Option.bind_eq_some_iff.1 this
      exact ⟨c, h1, m, _, h2⟩)
    have hCl : ∀ l ∈ (List.range len).map C, l.length = k := by
      intro l hl
      rw [List.mem_map] at hl
      obtain ⟨i, hi, rfl⟩ := hl
      exact (World.cells?_some (hC i (by simpa using hi)).1).2.1
    refine ⟨some a, len, cap, (List.range len).map C, rfl, by simp, ⟨?_, some a, cap, rfl, hl, hm, (fun h => by cases h), fun hn => ?_⟩, ?_⟩
    · rw [flatten_len _ hCl]; simp
    · have at0 : ∃ v, w.cell? a = some v := by
        obtain ⟨_, h2, h3⟩ := World.cells?_some (hC 0 hn).1
        have := h3 0 hk0
        rw [Nat.zero_mul] at this
        have hadd : (a.add 0).add 0 = a := by simp [Addr.add]
        rw [hadd, List.getElem?_eq_getElem (by omega)] at this
        exact ⟨_, this⟩
      obtain ⟨v, hv⟩ := at0
      have hsp : a.spot = none := by
        unfold World.cell? at hv
        split at hv
        · split at hv
          · cases hv
          · simpa using ‹¬ a.spot.isSome = true›
        · cases hv
      obtain ⟨b, off, sp⟩ := a
      simp only at hsp
      subst hsp
      refine ⟨b, off, rfl, trivial, World.block_lt_of_cell? w _ hv, fun t c ht => ?_⟩
      have htl := (List.getElem?_eq_some_iff.1 ht).1
      rw [flatten_len _ hCl] at htl
      simp only [List.length_map, List.length_range] at htl
      have hdm : t / k * k + t % k = t := by rw [Nat.mul_comm]; exact Nat.div_add_mod t k
      have hmod := Nat.mod_lt t hk0
      have hi : t / k < len := Nat.div_lt_of_lt_mul (by rw [Nat.mul_comm]; exact htl)
      rw [← hdm, flatten_at _ hCl _ _ hmod] at ht
      simp only [List.getElem?_map, List.getElem?_range hi, Option.map_some, Option.bind_some] at ht
      obtain ⟨_, _, h3⟩ := World.cells?_some (hC (t / k) hi).1
      have := h3 (t % k) hmod
      rw [ht, Addr.add_lit, Addr.add_lit, Nat.add_assoc, hdm] at this
      exact this
    · intro l hl
      refine ⟨hCl l hl, ?_⟩
      rw [List.mem_map] at hl
      obtain ⟨i, hi, rfl⟩ := hl
      exact (hC i (by simpa using hi)).2
/-- An argument. -/
theorem Reads.arg {v : Value} {d : DataW H} {p : List MemPlace} (h : DataW.Trod enc P w base spare held t v d p) : Reads enc P w base spare held t v.cells.toList := by
  obtain ⟨n, h⟩ := h
  exact ⟨n, _, h⟩
/-- A list of what each reads as. -/
theorem list_of {α : Type} {β : Type} {R : β → α → Prop} : ∀ (L : List β), (∀ l ∈ L, ∃ a, R l a) → ∃ A : List α, A.length = L.length ∧ ∀ (i : Nat) (l : β), L[i]? = some l → ∃ a, A[i]? = some a ∧ R l a
  | [], _ => ⟨[], rfl, fun i l h => by simp at h⟩
  | l :: L, h => by
    obtain ⟨a, ha⟩ := h l (by simp)
    obtain ⟨A, h1, h2⟩ := list_of L (fun l' hl => h l' (by simp [hl]))
    refine ⟨a :: A, by simp [h1], fun i l' hi => ?_⟩
    cases i with
    | zero => simp at hi; subst hi; exact ⟨a, by simp, ha⟩
    | succ i => simp at hi; simpa using h2 i l' hi
end
end Go.Proofs.YtgmjcgjbbogefaaGreat


/- The rows of a closure, laid out by functions. Not beside Closes, which has the same. -/
namespace Go.Proofs.YtgmjcgjbbogefaaGreat
open Go.RowKit Go.Deep
set_option linter.unusedSimpArgs false
set_option linter.unusedVariables false
/-- The rows, laid out. -/
theorem rows_at {w : World} {ro : Option Addr} {m rc : Nat} {g : Rel} (h : BRows w ro m m rc g) (hm : 0 < m) : ∃ b off, ∃ rb rof rcap : Nat → Nat, ro = some ⟨b, off, none⟩ ∧ b < w.heap.size ∧ (∀ a, a < m → w.cell? ⟨b, off + a, none⟩ = some (.slice (some ⟨rb a, rof a, none⟩) m (rcap a))) ∧ (∀ a, a < m → rb a < w.heap.size) ∧ (∀ a, a < m → m ≤ rcap a) ∧ ∀ a j, a < m → j < m → w.cell? ⟨rb a, rof a + j, none⟩ = some (.bool (g a j)) := by
  obtain ⟨_, rows, ⟨h1, ao, cap, hv, h2, h3, h4, h5⟩, hr⟩ := h
  simp only [Value.slice.injEq, true_and] at hv
  obtain ⟨rfl, rfl⟩ := hv
  obtain ⟨b, off, rfl, _, hb, hc⟩ := h5 hm
  have key : ∀ a, a < m → ∃ q : Nat × Nat × Nat, w.cell? ⟨b, off + a, none⟩ = some (.slice (some ⟨q.1, q.2.1, none⟩) m q.2.2) ∧ q.1 < w.heap.size ∧ m ≤ q.2.2 ∧ ∀ j, j < m → w.cell? ⟨q.1, q.2.1 + j, none⟩ = some (.bool (g a j)) := fun a ha => by
    obtain ⟨bo, bc, e1, ⟨q1, ao2, cap2, hv2, q2, q3, q4, q5⟩, _⟩ := hr a ha
    simp only [Value.slice.injEq, true_and] at hv2
    obtain ⟨rfl, rfl⟩ := hv2
    obtain ⟨b', off', rfl, _, hb', hc'⟩ := q5 hm
    exact ⟨(b', off', bc), hc a _ e1, hb', q2, fun j hj => hc' j _ (by simp [bools, hj])⟩
  obtain ⟨Q, hQ⟩ := choose_lt key
  exact ⟨b, off, fun a => (Q a).1, fun a => (Q a).2.1, fun a => (Q a).2.2, rfl, hb, fun a ha => (hQ a ha).1, fun a ha => (hQ a ha).2.1, fun a ha => (hQ a ha).2.2.1, fun a j ha hj => (hQ a ha).2.2.2 j hj⟩
end Go.Proofs.YtgmjcgjbbogefaaGreat


/- Ints, Few, Vector and Valid of the reference; pair of the laws. -/
namespace Go.Proofs.YtgmjcgjbbogefaaGreat
open Go.RowKit
set_option linter.unusedSimpArgs false
set_option linter.unusedVariables false

set_option maxRecDepth 100000
set_option maxHeartbeats 2000000
def fewD (D : List Dm) : Bool := D.all (fun d => decide (d.2.length ≤ 40)) && decide (D.length ≤ 4)
theorem few9 {S : Nat → Prop} (lo : Option Addr) (n c : Nat) (D : List Dm) (w : World) (h : Dims S w lo n c D) :
    Calls Tryz.prog 12 #[.slice lo n c] w fun e w' => e = .returned (.bool (fewD D)) ∧ Exts w w' := by
  have hm := h.nle
  unfold maxLen at hm
  have HL := Lib.hid h.1
  have H := Lib.hid h
  clear h
  go_enter Tryz.func12, Tryz.ntmps12
  go_wp2
  go_loopw [3] (fun i wr => ∃ (k : Nat), k ≤ n ∧ i = .int .i64 k ∧ Exts w wr ∧ ∀ d ∈ D.take k, d.2.length ≤ 40) (fun i _ => n - (intOf i).toNat)
  case atStart => exact ⟨0, by omega, rfl, Exts.refl _, by simp⟩
  case round =>
    obtain ⟨k, hk, rfl, ⟨x, rfl⟩, hin⟩ := hrel
    have HI := Lib.hid hin
    clear hin
    by_cases hlt : k < n
    · obtain ⟨b, off, V, ps, po, pc, rfl, hb, hd, e0, e1, hp⟩ := H.out.get hlt
      have hpm := RowF.nle hp
      unfold maxLen at hpm
      have HD := Lib.hid hd
      clear hd hp
      by_cases h40 : ps.length ≤ 40
      · have q1 : decide ((40 : Int) < (ps.length : Int)) = false := by simp; omega
        go_wp2
        refine ⟨⟨k + 1, by omega, by go_num, (by repeat (first | exact Exts.refl _ | apply Exts.andR | apply Exts.alloc | apply Exts.wext | apply Exts.drew | apply Exts.drewN)), fun q hq => ?_⟩, ?_⟩
        · rw [List.take_add_one, HD.out, List.mem_append] at hq
          rcases hq with hq | hq
          · exact HI.out q hq
          · simp at hq
            rw [hq]
            exact h40
        · simp [intOf]; omega
      · have q1 : decide ((40 : Int) < (ps.length : Int)) = true := by simp; omega
        have HR := Lib.hid (show fewD D = false by
          refine Bool.eq_false_iff.2 fun hc => h40 ?_
          simp only [fewD, Bool.and_eq_true, List.all_eq_true, decide_eq_true_eq] at hc
          exact hc.1 _ (List.mem_of_getElem? HD.out))
        go_wp2
        go_ret
        exact ⟨by rw [HR.out]; rfl, (by repeat (first | exact Exts.refl _ | apply Exts.andR | apply Exts.alloc | apply Exts.wext | apply Exts.drew | apply Exts.drewN))⟩
    · obtain rfl : k = n := by omega
      have htk : D.take k = D := List.take_of_length_le (by rw [HL.out]; exact Nat.le_refl _)
      have HR := Lib.hid (show fewD D = decide ((k : Int) ≤ 4) by
        have := HI.out
        rw [htk] at this
        have hall : D.all (fun d => decide (d.2.length ≤ 40)) = true := List.all_eq_true.2 fun d hd => by simpa using this d hd
        simp only [fewD, HL.out, hall, Bool.true_and]
        rw [decide_eq_decide]
        omega)
      clear htk
      go_wp2
      go_ret
      exact ⟨by rw [HR.out]; first | rfl | (simp; done), (by repeat (first | exact Exts.refl _ | apply Exts.andR | apply Exts.alloc | apply Exts.wext | apply Exts.drew | apply Exts.drewN))⟩
theorem inD_no {D : List Dm} {l : List Int} {k : Nat} {V : Int} {ps : List Pr} {x : Int} (hd : D[k]? = some (V, ps)) (hx : l[k]? = some x) (h : ¬ (0 ≤ x ∧ x < V)) : inD D l = false := by
  refine Bool.eq_false_iff.2 fun hc => h ?_
  have h1 := (inD_iff.1 hc).2 k _ x hd hx
  simp only [inV, Bool.and_eq_true, decide_eq_true_eq] at h1
  exact h1
end Go.Proofs.YtgmjcgjbbogefaaGreat


/- The least circle: turned to its least value; its values are all different. Plain. -/
namespace Go.Proofs.YtgmjcgjbbogefaaGreat
open Go.RowKit
set_option linter.unusedSimpArgs false
set_option linter.unusedVariables false

/-- Distinct numbers below m: at most m. -/
theorem nodup_le : ∀ {m : Nat} {C : List Nat}, (∀ x ∈ C, x < m) → C.Nodup → C.length ≤ m
  | 0, [], _, _ => Nat.le_refl _
  | 0, x :: C, h1, _ => absurd (h1 x (by simp)) (by omega)
  | m + 1, C, h1, h2 => by
    by_cases hm : m ∈ C
    · have := nodup_le (m := m) (C := C.erase m) (fun x hx => by
        have h3 := (List.Nodup.mem_erase_iff h2).1 hx
        have := h1 x h3.2
        have := h3.1
        omega) (h2.erase m)
      rw [List.length_erase_of_mem hm] at this
      omega
    · have := nodup_le (m := m) (C := C) (fun x hx => by
        have := h1 x hx
        have : x ≠ m := fun hc => hm (hc ▸ hx)
        omega) h2
      omega
theorem wk_nodes {f : Rel} {lo : Nat} : ∀ {n a b : Nat}, Wk f lo n a b → ∃ L : List Nat, L.length = n ∧ ∀ (i v : Nat), L[i]? = some v → v < 12 ∧ Wk f lo (i + 1) a v ∧ Wk f lo (n - (i + 1)) v b
  | 0, a, b, h => ⟨[], rfl, fun i v hv => by simp at hv⟩
  | n + 1, a, b, ⟨c, h1, h2, h3, h4⟩ => by
    obtain ⟨L, hl, hL⟩ := wk_nodes h4
    refine ⟨c :: L, by simp [hl], fun i v hv => ?_⟩
    match i, hv with
    | 0, hv =>
      have : c = v := by simpa using hv
      subst this
      exact ⟨h2, ⟨c, h1, h2, h3, rfl⟩, by simpa using h4⟩
    | i + 1, hv =>
      obtain ⟨g1, g2, g3⟩ := hL i v (by simpa using hv)
      exact ⟨g1, ⟨c, h1, h2, h3, g2⟩, by rw [Nat.add_sub_add_right]; exact g3⟩
end Go.Proofs.YtgmjcgjbbogefaaGreat

