/- Lemmas that the laws of this seat share, 4 texts in one: Read, RowsAt, Refs1, CirclesPlain. No condition of their own. -/
import Derived.Test.YtodgohilfbggjaaM1
import Derived.Test.YtodgohilfbggjaaM6
import Derived.Deep.Slices
import Derived.Test.YtodgohilfbggjaaM4
/- From the form's reading of an argument to rows of cells in memory. No program in sight, but for the names. -/
namespace Go.Proofs.Ytodgohilfbggjaa
open Go.RowKit Go.Deep
set_option linter.unusedSimpArgs false
set_option linter.unusedVariables false

section
variable {H : Type} {enc : TypeId × Value → H} {P : Program} {w : World} {base : Nat} {spare : Nat → Bool} {held : Bool} {fuel : Nat} {t : TypeId} {cs : List Value} {x : DataW H × List MemPlace}

/-- The cells read at a type. -/
def Reads (enc : TypeId × Value → H) (P : Program) (w : World) (base : Nat) (spare : Nat → Bool) (held : Bool) (t : TypeId) (cs : List Value) : Prop := ∃ n y, DataW.trod enc P w base spare held n t cs = some y

theorem Reads.int {k : IntKind} (ht : P.underlying t = some (.int k)) (h : Reads enc P w base spare held t cs) : ∃ n, cs = [.int k n] ∧ (Lit.int k n).wf = true := by
  obtain ⟨_, _, h⟩ := h
  obtain ⟨n, h1, _, h2⟩ := DataW.trod_int ht h
  exact ⟨n, h1, h2⟩
theorem Reads.bool (ht : P.underlying t = some .bool) (h : Reads enc P w base spare held t cs) : ∃ b, cs = [.bool b] := by
  obtain ⟨_, _, h⟩ := h
  obtain ⟨b, h1, _⟩ := DataW.trod_bool ht h
  exact ⟨b, h1⟩
theorem Reads.string (ht : P.underlying t = some .string) (h : Reads enc P w base spare held t cs) : ∃ s : ByteArray, cs = [.string s] ∧ s.size ≤ maxLen := by
  obtain ⟨_, _, h⟩ := h
  obtain ⟨s, h1, _, h2⟩ := DataW.trod_string ht h
  exact ⟨s, h1, h2⟩
theorem Reads.field {fs : Array Field} (ht : P.underlying t = some (.struct fs)) (h : Reads enc P w base spare held t cs) (i : Nat) (f : Field) (hf : fs[i]? = some f) {m : Nat} (hm : P.cellsOf f.type = m) :
    Reads enc P w base spare held f.type ((cs.drop f.offset).take m) := by
  subst hm
  obtain ⟨_, _, h⟩ := h
  obtain ⟨xs, n, _, _, _, hl, hx⟩ := DataW.trod_struct ht h
  have hi := (Array.getElem?_eq_some_iff.1 hf).1
  refine ⟨n, xs[i], ?_⟩
  rw [hx i f hf, List.getElem?_eq_getElem (by omega)]
theorem Reads.size {fs : Array Field} (ht : P.underlying t = some (.struct fs)) (h : Reads enc P w base spare held t cs) : cs.length = P.cellsOf t := by
  obtain ⟨_, _, h⟩ := h
  obtain ⟨xs, n, _, _, hl, _⟩ := DataW.trod_struct ht h
  exact hl
theorem Reads.slice {e : TypeId} {k : Nat} (ht : P.underlying t = some (.slice e)) (hk : P.cellsOf e = k) (hk0 : 0 < k) (h : Reads enc P w base spare held t cs) :
    ∃ ao n cap, ∃ L : List (List Value), cs = [.slice ao n cap] ∧ L.length = n ∧ RowF (fun _ => True) k w (.slice ao n cap) n L.flatten ∧ ∀ l ∈ L, l.length = k ∧ Reads enc P w base spare held e l := by
  obtain ⟨_, _, h⟩ := h
  rcases DataW.trod_slice ht h with ⟨rfl, _⟩ | ⟨a, len, cap, elems, rest, m, _, rfl, _, hb, hl, hm, hlen, hel, _, _⟩
  · exact ⟨none, 0, 0, [], rfl, rfl, RowF.nil _ _ _, fun l hl => by cases hl⟩
  · obtain ⟨C, hC⟩ := choose_lt (α := List Value) (n := len) (p := fun i c => w.cells? base (a.add (i * k)) k = some c ∧ Reads enc P w base spare held e c) (fun i hi => by
      have := hel i hi
      rw [hk, List.getElem?_eq_getElem (by omega)] at this
      obtain ⟨c, h1, h2⟩ := Option.bind_eq_some_iff.1 this
      exact ⟨c, h1, m, _, h2⟩)
    have hCl : ∀ l ∈ (List.range len).map C, l.length = k := by
      intro l hl
      rw [List.mem_map] at hl
      obtain ⟨i, hi, rfl⟩ := hl
      exact (World.cells?_some (hC i (by simpa using hi)).1).2.1
    refine ⟨some a, len, cap, (List.range len).map C, rfl, by simp, ⟨?_, some a, cap, rfl, hl, hm, (fun h => by cases h), fun hn => ?_⟩, ?_⟩
    · rw [flatten_len _ hCl]; simp
    · have at0 : ∃ v, w.cell? a = some v := by
        obtain ⟨_, h2, h3⟩ := World.cells?_some (hC 0 hn).1
        have := h3 0 hk0
        rw [Nat.zero_mul] at this
        have hadd : (a.add 0).add 0 = a := by simp [Addr.add]
        rw [hadd, List.getElem?_eq_getElem (by omega)] at this
        exact ⟨_, this⟩
      obtain ⟨v, hv⟩ := at0
      have hsp : a.spot = none := by
        unfold World.cell? at hv
        split at hv
        · split at hv
          · cases hv
          · simpa using ‹¬ a.spot.isSome = true›
        · cases hv
      obtain ⟨b, off, sp⟩ := a
      simp only at hsp
      subst hsp
      refine ⟨b, off, rfl, trivial, World.block_lt_of_cell? w _ hv, fun t c ht => ?_⟩
      have htl := (List.getElem?_eq_some_iff.1 ht).1
      rw [flatten_len _ hCl] at htl
      simp only [List.length_map, List.length_range] at htl
      have hdm : t / k * k + t % k = t := by rw [Nat.mul_comm]; exact Nat.div_add_mod t k
      have hmod := Nat.mod_lt t hk0
      have hi : t / k < len := Nat.div_lt_of_lt_mul (by rw [Nat.mul_comm]; exact htl)
      rw [← hdm, flatten_at _ hCl _ _ hmod] at ht
      simp only [List.getElem?_map, List.getElem?_range hi, Option.map_some, Option.bind_some] at ht
      obtain ⟨_, _, h3⟩ := World.cells?_some (hC (t / k) hi).1
      have := h3 (t % k) hmod
      rw [ht, Addr.add_lit, Addr.add_lit, Nat.add_assoc, hdm] at this
      exact this
    · intro l hl
      refine ⟨hCl l hl, ?_⟩
      rw [List.mem_map] at hl
      obtain ⟨i, hi, rfl⟩ := hl
      exact (hC i (by simpa using hi)).2
/-- An argument. -/
theorem Reads.arg {v : Value} {d : DataW H} {p : List MemPlace} (h : DataW.Trod enc P w base spare held t v d p) : Reads enc P w base spare held t v.cells.toList := by
  obtain ⟨n, h⟩ := h
  exact ⟨n, _, h⟩
/-- A list of what each reads as. -/
theorem list_of {α : Type} {β : Type} {R : β → α → Prop} : ∀ (L : List β), (∀ l ∈ L, ∃ a, R l a) → ∃ A : List α, A.length = L.length ∧ ∀ (i : Nat) (l : β), L[i]? = some l → ∃ a, A[i]? = some a ∧ R l a
  | [], _ => ⟨[], rfl, fun i l h => by simp at h⟩
  | l :: L, h => by
    obtain ⟨a, ha⟩ := h l (by simp)
    obtain ⟨A, h1, h2⟩ := list_of L (fun l' hl => h l' (by simp [hl]))
    refine ⟨a :: A, by simp [h1], fun i l' hi => ?_⟩
    cases i with
    | zero => simp at hi; subst hi; exact ⟨a, by simp, ha⟩
    | succ i => simp at hi; simpa using h2 i l' hi
end
end Go.Proofs.Ytodgohilfbggjaa

/- The rows of a closure, laid out by functions. Not beside Closes, which has the same. -/
namespace Go.Proofs.Ytodgohilfbggjaa
open Go.RowKit Go.Deep
set_option linter.unusedSimpArgs false
set_option linter.unusedVariables false
/-- The rows, laid out. -/
theorem rows_at {w : World} {ro : Option Addr} {m rc : Nat} {g : Rel} (h : BRows w ro m m rc g) (hm : 0 < m) : ∃ b off, ∃ rb rof rcap : Nat → Nat, ro = some ⟨b, off, none⟩ ∧ b < w.heap.size ∧ (∀ a, a < m → w.cell? ⟨b, off + a, none⟩ = some (.slice (some ⟨rb a, rof a, none⟩) m (rcap a))) ∧ (∀ a, a < m → rb a < w.heap.size) ∧ (∀ a, a < m → m ≤ rcap a) ∧ ∀ a j, a < m → j < m → w.cell? ⟨rb a, rof a + j, none⟩ = some (.bool (g a j)) := by
  obtain ⟨_, rows, ⟨h1, ao, cap, hv, h2, h3, h4, h5⟩, hr⟩ := h
  simp only [Value.slice.injEq, true_and] at hv
  obtain ⟨rfl, rfl⟩ := hv
  obtain ⟨b, off, rfl, _, hb, hc⟩ := h5 hm
  have key : ∀ a, a < m → ∃ q : Nat × Nat × Nat, w.cell? ⟨b, off + a, none⟩ = some (.slice (some ⟨q.1, q.2.1, none⟩) m q.2.2) ∧ q.1 < w.heap.size ∧ m ≤ q.2.2 ∧ ∀ j, j < m → w.cell? ⟨q.1, q.2.1 + j, none⟩ = some (.bool (g a j)) := fun a ha => by
    obtain ⟨bo, bc, e1, ⟨q1, ao2, cap2, hv2, q2, q3, q4, q5⟩, _⟩ := hr a ha
    simp only [Value.slice.injEq, true_and] at hv2
    obtain ⟨rfl, rfl⟩ := hv2
    obtain ⟨b', off', rfl, _, hb', hc'⟩ := q5 hm
    exact ⟨(b', off', bc), hc a _ e1, hb', q2, fun j hj => hc' j _ (by simp [bools, hj])⟩
  obtain ⟨Q, hQ⟩ := choose_lt key
  exact ⟨b, off, fun a => (Q a).1, fun a => (Q a).2.1, fun a => (Q a).2.2, rfl, hb, fun a ha => (hQ a ha).1, fun a ha => (hQ a ha).2.1, fun a ha => (hQ a ha).2.2.1, fun a j ha hj => (hQ a ha).2.2.2 j hj⟩
end Go.Proofs.Ytodgohilfbggjaa

/- Ints, Few, Vector and Valid of the reference; pair of the laws. -/
namespace Go.Proofs.Ytodgohilfbggjaa
open Go.RowKit
set_option linter.unusedSimpArgs false
set_option linter.unusedVariables false

theorem list_ne_at {a b : List Int} {i : Nat} {x y : Int} (h1 : a[i]? = some x) (h2 : b[i]? = some y) (h : x ≠ y) : decide (a = b) = false := by
  rw [decide_eq_false_iff_not]
  rintro rfl
  rw [h1] at h2
  cases h2
  exact h rfl
theorem list_eq_at {a b : List Int} {n : Nat} (ha : a.length = n) (hb : b.length = n) (h : ∀ (i : Nat) x y, i < n → a[i]? = some x → b[i]? = some y → x = y) : decide (a = b) = true := by
  rw [decide_eq_true_eq]
  apply List.ext_getElem (by omega)
  intro i h1 h2
  exact h i _ _ (by omega) (List.getElem?_eq_getElem h1) (List.getElem?_eq_getElem h2)
set_option maxRecDepth 100000
set_option maxHeartbeats 2000000
theorem ints12 {S1 S2 : Nat → Prop} (ao bo : Option Addr) (na ca nb cb : Nat) (al bl : List Int) (w : World) (ha : Ints S1 w ao na ca al) (hb : Ints S2 w bo nb cb bl) :
    Calls Try.prog 21 #[.slice ao na ca, .slice bo nb cb] w fun e w' => e = .returned (.bool (decide (al = bl))) ∧ Exts w w' := by
  have hla := ints_len ha
  have hlb := ints_len hb
  have hma := RowF.nle ha
  have hmb := RowF.nle hb
  unfold maxLen at hma hmb
  have HLA := Lib.hid hla
  have HLB := Lib.hid hlb
  have HAA := Lib.hid ha
  have HBB := Lib.hid hb
  clear ha hb hla hlb
  by_cases hn : na = nb
  · subst hn
    go_enter Try.func21, Try.ntmps21
    go_wp2
    go_loopw [5] (fun i wr => ∃ (k : Nat), k ≤ na ∧ i = .int .i64 k ∧ Exts w wr ∧ ∀ (i : Nat) x y, i < k → al[i]? = some x → bl[i]? = some y → x = y) (fun i _ => na - (intOf i).toNat)
    case atStart => exact ⟨0, by omega, rfl, Exts.refl _, fun i x y hi => by omega⟩
    case round =>
      obtain ⟨k, hk, rfl, ⟨x, rfl⟩, hin⟩ := hrel
      have HI := Lib.hid hin
      clear hin
      by_cases hlt : k < na
      · obtain ⟨b1, off1, xa, rfl, hb1, hxa, f1⟩ := ints_get HAA.out hlt
        obtain ⟨b2, off2, xb, rfl, hb2, hxb, f2⟩ := ints_get HBB.out hlt
        have HA := Lib.hid hxa
        have HB := Lib.hid hxb
        clear hxa hxb
        by_cases he : xa = xb
        · subst he
          go_wp2
          first | refine wp_region_ext_lit2 (by kernel_rfl) (by kernel_rfl) ?_ | refine wp_region_ext_lit (by kernel_rfl) (by kernel_rfl) ?_
          repeat (go_big_quiet_step (fail))
          refine wpQuiet_nil ?_
          intro _ hwq'
          obtain ⟨xq, hwq''⟩ := hwq'
          subst hwq''
          go_wp2
          refine ⟨⟨k + 1, by omega, by go_num, (by repeat (first | exact Exts.refl _ | apply Exts.andR | apply Exts.alloc | apply Exts.wext | apply Exts.drew | apply Exts.drewN)), fun i x y hi h1 h2 => ?_⟩, ?_⟩
          · by_cases hik : i = k
            · rw [hik, HA.out] at h1
              rw [hik, HB.out] at h2
              cases h1; cases h2; rfl
            · exact HI.out i x y (by omega) h1 h2
          · simp [intOf]; omega
        · have q1 : (xa == xb) = false := by simpa using he
          have q2 : (xa != xb) = true := by simpa using he
          have HR := Lib.hid (list_ne_at HA.out HB.out he)
          clear he
          go_wp2
          first | refine wp_region_ext_lit2 (by kernel_rfl) (by kernel_rfl) ?_ | refine wp_region_ext_lit (by kernel_rfl) (by kernel_rfl) ?_
          repeat (go_big_quiet_step (fail))
          refine wpQuiet_nil ?_
          intro _ hwq'
          obtain ⟨xq, hwq''⟩ := hwq'
          subst hwq''
          go_wp2
          go_ret
          exact ⟨by rw [HR.out]; rfl, (by repeat (first | exact Exts.refl _ | apply Exts.andR | apply Exts.alloc | apply Exts.wext | apply Exts.drew | apply Exts.drewN))⟩
      · obtain rfl : k = na := by omega
        have HR := Lib.hid (list_eq_at HLA.out HLB.out HI.out)
        go_wp2
        go_ret
        exact ⟨by rw [HR.out]; rfl, (by repeat (first | exact Exts.refl _ | apply Exts.andR | apply Exts.alloc | apply Exts.wext | apply Exts.drew | apply Exts.drewN))⟩
  · have q2 : ((na : Int) == (nb : Int)) = false := by simp; omega
    have q1 : ((na : Int) != (nb : Int)) = true := by simp; omega
    have q3 : (na == nb) = false := by simpa using hn
    have q4 : (na != nb) = true := by simpa using hn
    have HR := Lib.hid (show decide (al = bl) = false by
      rw [decide_eq_false_iff_not]
      rintro rfl
      have h1 := HLA.out
      have h2 := HLB.out
      omega)
    go_enter Try.func21, Try.ntmps21
    go_wp2
    go_ret
    exact ⟨by rw [HR.out]; rfl, (by repeat (first | exact Exts.refl _ | apply Exts.andR | apply Exts.alloc | apply Exts.wext | apply Exts.drew | apply Exts.drewN))⟩
def fewD (D : List Dm) : Bool := D.all (fun d => decide (d.2.length ≤ 40)) && decide (D.length ≤ 4)
theorem few9 {S : Nat → Prop} (lo : Option Addr) (n c : Nat) (D : List Dm) (w : World) (h : Dims S w lo n c D) :
    Calls Try.prog 30 #[.slice lo n c] w fun e w' => e = .returned (.bool (fewD D)) ∧ Exts w w' := by
  have hm := h.nle
  unfold maxLen at hm
  have HL := Lib.hid h.1
  have H := Lib.hid h
  clear h
  go_enter Try.func30, Try.ntmps30
  go_wp2
  go_loopw [3] (fun i wr => ∃ (k : Nat), k ≤ n ∧ i = .int .i64 k ∧ Exts w wr ∧ ∀ d ∈ D.take k, d.2.length ≤ 40) (fun i _ => n - (intOf i).toNat)
  case atStart => exact ⟨0, by omega, rfl, Exts.refl _, by simp⟩
  case round =>
    obtain ⟨k, hk, rfl, ⟨x, rfl⟩, hin⟩ := hrel
    have HI := Lib.hid hin
    clear hin
    by_cases hlt : k < n
    · obtain ⟨b, off, V, ps, po, pc, rfl, hb, hd, e0, e1, hp⟩ := H.out.get hlt
      have hpm := RowF.nle hp
      unfold maxLen at hpm
      have HD := Lib.hid hd
      clear hd hp
      by_cases h40 : ps.length ≤ 40
      · have q1 : decide ((40 : Int) < (ps.length : Int)) = false := by simp; omega
        go_wp2
        refine ⟨⟨k + 1, by omega, by go_num, (by repeat (first | exact Exts.refl _ | apply Exts.andR | apply Exts.alloc | apply Exts.wext | apply Exts.drew | apply Exts.drewN)), fun q hq => ?_⟩, ?_⟩
        · rw [List.take_add_one, HD.out, List.mem_append] at hq
          rcases hq with hq | hq
          · exact HI.out q hq
          · simp at hq
            rw [hq]
            exact h40
        · simp [intOf]; omega
      · have q1 : decide ((40 : Int) < (ps.length : Int)) = true := by simp; omega
        have HR := Lib.hid (show fewD D = false by
          refine Bool.eq_false_iff.2 fun hc => h40 ?_
          simp only [fewD, Bool.and_eq_true, List.all_eq_true, decide_eq_true_eq] at hc
          exact hc.1 _ (List.mem_of_getElem? HD.out))
        go_wp2
        go_ret
        exact ⟨by rw [HR.out]; rfl, (by repeat (first | exact Exts.refl _ | apply Exts.andR | apply Exts.alloc | apply Exts.wext | apply Exts.drew | apply Exts.drewN))⟩
    · obtain rfl : k = n := by omega
      have htk : D.take k = D := List.take_of_length_le (by rw [HL.out]; exact Nat.le_refl _)
      have HR := Lib.hid (show fewD D = decide ((k : Int) ≤ 4) by
        have := HI.out
        rw [htk] at this
        have hall : D.all (fun d => decide (d.2.length ≤ 40)) = true := List.all_eq_true.2 fun d hd => by simpa using this d hd
        simp only [fewD, HL.out, hall, Bool.true_and]
        rw [decide_eq_decide]
        omega)
      clear htk
      go_wp2
      go_ret
      exact ⟨by rw [HR.out]; first | rfl | (simp; done), (by repeat (first | exact Exts.refl _ | apply Exts.andR | apply Exts.alloc | apply Exts.wext | apply Exts.drew | apply Exts.drewN))⟩
theorem inD_no {D : List Dm} {l : List Int} {k : Nat} {V : Int} {ps : List Pr} {x : Int} (hd : D[k]? = some (V, ps)) (hx : l[k]? = some x) (h : ¬ (0 ≤ x ∧ x < V)) : inD D l = false := by
  refine Bool.eq_false_iff.2 fun hc => h ?_
  have h1 := (inD_iff.1 hc).2 k _ x hd hx
  simp only [inV, Bool.and_eq_true, decide_eq_true_eq] at h1
  exact h1
theorem vector29 {S S1 : Nat → Prop} (lo ao : Option Addr) (n c na ca : Nat) (D : List Dm) (al : List Int) (w : World) (h : Dims S w lo n c D) (ha : Ints S1 w ao na ca al) :
    Calls Try.prog 34 #[.slice lo n c, .slice ao na ca] w fun e w' => e = .returned (.bool (inD D al)) ∧ Exts w w' := by
  have hm := h.nle
  have hma := RowF.nle ha
  unfold maxLen at hm hma
  have HL := Lib.hid h.1
  have HLA := Lib.hid (ints_len ha)
  have H := Lib.hid h
  have HAA := Lib.hid ha
  clear h ha
  by_cases hn : na = n
  · subst hn
    go_enter Try.func34, Try.ntmps34
    go_wp2
    go_loopw [5] (fun i wr => ∃ (k : Nat), k ≤ na ∧ i = .int .i64 k ∧ Exts w wr ∧ ∀ (i : Nat) (d : Dm) (x : Int), i < k → D[i]? = some d → al[i]? = some x → inV d.1 x = true) (fun i _ => na - (intOf i).toNat)
    case atStart => exact ⟨0, by omega, rfl, Exts.refl _, fun i d x hi => by omega⟩
    case round =>
      obtain ⟨k, hk, rfl, ⟨x, rfl⟩, hin⟩ := hrel
      have HI := Lib.hid hin
      clear hin
      by_cases hlt : k < na
      · obtain ⟨b, off, V, ps, po, pc, rfl, hb, hd, e0, e1, hp⟩ := H.out.get hlt
        obtain ⟨b1, off1, xa, rfl, hb1, hxa, f1⟩ := ints_get HAA.out hlt
        have HD := Lib.hid hd
        have HA := Lib.hid hxa
        clear hd hxa hp
        by_cases h0 : xa < 0
        · have q1 : decide (xa < 0) = true := by simpa using h0
          have HR := Lib.hid (inD_no HD.out HA.out (by omega))
          go_wp2
          first | refine wp_region_ext_lit2 (by kernel_rfl) (by kernel_rfl) ?_ | refine wp_region_ext_lit (by kernel_rfl) (by kernel_rfl) ?_
          repeat (go_big_quiet_step (fail))
          refine wpQuiet_nil ?_
          intro _ hwq'
          obtain ⟨xq, hwq''⟩ := hwq'
          subst hwq''
          go_wp2
          go_ret
          exact ⟨by rw [HR.out]; rfl, (by repeat (first | exact Exts.refl _ | apply Exts.andR | apply Exts.alloc | apply Exts.wext | apply Exts.drew | apply Exts.drewN))⟩
        · have q1 : decide (xa < 0) = false := by simpa using h0
          by_cases h1 : V ≤ xa
          · have q2 : decide (V ≤ xa) = true := by simpa using h1
            have HR := Lib.hid (inD_no HD.out HA.out (by omega))
            go_wp2
            first | refine wp_region_ext_lit2 (by kernel_rfl) (by kernel_rfl) ?_ | refine wp_region_ext_lit (by kernel_rfl) (by kernel_rfl) ?_
            repeat (go_big_quiet_step (fail))
            refine wpQuiet_nil ?_
            intro _ hwq'
            obtain ⟨xq, hwq''⟩ := hwq'
            subst hwq''
            go_wp2
            go_ret
            exact ⟨by rw [HR.out]; rfl, (by repeat (first | exact Exts.refl _ | apply Exts.andR | apply Exts.alloc | apply Exts.wext | apply Exts.drew | apply Exts.drewN))⟩
          · have q2 : decide (V ≤ xa) = false := by simpa using h1
            have HQ := Lib.hid (show inV V xa = true by simp [inV]; omega)
            clear h0 h1
            go_wp2
            first | refine wp_region_ext_lit2 (by kernel_rfl) (by kernel_rfl) ?_ | refine wp_region_ext_lit (by kernel_rfl) (by kernel_rfl) ?_
            repeat (go_big_quiet_step (fail))
            refine wpQuiet_nil ?_
            intro _ hwq'
            obtain ⟨xq, hwq''⟩ := hwq'
            subst hwq''
            go_wp2
            refine ⟨⟨k + 1, by omega, by go_num, (by repeat (first | exact Exts.refl _ | apply Exts.andR | apply Exts.alloc | apply Exts.wext | apply Exts.drew | apply Exts.drewN)), fun i d y hi h1 h2 => ?_⟩, ?_⟩
            · by_cases hik : i = k
              · rw [hik, HD.out] at h1
                rw [hik, HA.out] at h2
                cases h1; cases h2
                exact HQ.out
              · exact HI.out i d y (by omega) h1 h2
            · simp [intOf]; omega
      · obtain rfl : k = na := by omega
        have HR := Lib.hid (show inD D al = true by
          rw [inD_iff]
          refine ⟨by rw [HL.out, HLA.out], fun i d y h1 h2 => HI.out i d y ?_ h1 h2⟩
          have := (List.getElem?_eq_some_iff.1 h1).1
          rw [HL.out] at this
          exact this)
        go_wp2
        go_ret
        exact ⟨by rw [HR.out]; rfl, (by repeat (first | exact Exts.refl _ | apply Exts.andR | apply Exts.alloc | apply Exts.wext | apply Exts.drew | apply Exts.drewN))⟩
  · have q2 : ((na : Int) == (n : Int)) = false := by simp; omega
    have q1 : ((na : Int) != (n : Int)) = true := by simp; omega
    have q3 : (na == n) = false := by simpa using hn
    have q4 : (na != n) = true := by simpa using hn
    have HR := Lib.hid (show inD D al = false by
      refine Bool.eq_false_iff.2 fun hc => ?_
      have h1 := (inD_iff.1 hc).1
      have h2 := HL.out
      have h3 := HLA.out
      omega)
    go_enter Try.func34, Try.ntmps34
    go_wp2
    go_ret
    exact ⟨by rw [HR.out]; rfl, (by repeat (first | exact Exts.refl _ | apply Exts.andR | apply Exts.alloc | apply Exts.wext | apply Exts.drew | apply Exts.drewN))⟩
end Go.Proofs.Ytodgohilfbggjaa

/- The least circle: turned to its least value; its values are all different. Plain. -/
namespace Go.Proofs.Ytodgohilfbggjaa
open Go.RowKit
set_option linter.unusedSimpArgs false
set_option linter.unusedVariables false

theorem wk_split {f : Rel} {lo : Nat} : ∀ {n a b : Nat}, Wk f lo n a b → Wk f (lo + 1) n a b ∨ ∃ i j, i + j = n ∧ Wk f lo i a lo ∧ Wk f lo j lo b
  | 0, a, b, h => .inl h
  | n + 1, a, b, ⟨c, h1, h2, h3, h4⟩ => by
    by_cases hc : c = lo
    · subst hc
      exact .inr ⟨1, n, by omega, ⟨c, h1, h2, h3, rfl⟩, h4⟩
    · rcases wk_split h4 with h5 | ⟨i, j, h5, h6, h7⟩
      · exact .inl ⟨c, by omega, h2, h3, h5⟩
      · exact .inr ⟨i + 1, j, by omega, ⟨c, h1, h2, h3, h6⟩, h7⟩
theorem wk_rotate {f : Rel} {n : Nat} (hn : 1 ≤ n) : ∀ (k lo s : Nat), 12 - lo ≤ k → Wk f lo n s s → ∃ s', s' < 12 ∧ Wk f s' n s' s'
  | 0, lo, s, hk, h => by
    obtain ⟨n, rfl⟩ : ∃ q, n = q + 1 := ⟨n - 1, by omega⟩
    obtain ⟨c, h1, h2, _⟩ := h
    omega
  | k + 1, lo, s, hk, h => by
    have hlo : lo < 12 := by
      obtain ⟨q, rfl⟩ : ∃ q, n = q + 1 := ⟨n - 1, by omega⟩
      obtain ⟨c, h1, h2, _⟩ := h
      omega
    rcases wk_split h with h1 | ⟨i, j, h1, h2, h3⟩
    · exact wk_rotate hn k (lo + 1) s (by omega) h1
    · exact ⟨lo, hlo, by have := h3.app h2; rw [Nat.add_comm, h1] at this; exact this⟩
theorem min_low {f : Rel} {best at' n s : Nat} (h : MinCyc f best at') (hn : 1 ≤ n) (hw : Wk f 0 n s s) : best ≤ n := by
  obtain ⟨s', h1, h2⟩ := wk_rotate hn 12 0 s (by omega) hw
  exact h.low s' n h1 hn h2
theorem wk_lo {f : Rel} {lo lo' : Nat} (hl : lo' ≤ lo) : ∀ {n a b : Nat}, Wk f lo n a b → Wk f lo' n a b
  | 0, _, _, h => h
  | n + 1, _, _, ⟨c, h1, h2, h3, h4⟩ => ⟨c, by omega, h2, h3, wk_lo hl h4⟩
theorem pre_at {f : Rel} {best at' : Nat} {d : Arr} {C : List Nat} {last : Nat} (h : CirPre f best at' d C last) : ∀ (k i u v : Nat), C[i]? = some u → C[i + k]? = some v → Wk f 0 k u v
  | 0, i, u, v, h1, h2 => by
    rw [Nat.add_zero, h1] at h2
    cases h2
    rfl
  | k + 1, i, u, v, h1, h2 => by
    have hl := (List.getElem?_eq_some_iff.1 h2).1
    obtain ⟨u', x, h3, h4, h5⟩ := h.next i (by omega)
    rw [h1] at h3
    cases h3
    exact ⟨x, Nat.zero_le _, h5.lt, h5.pair, pre_at h k (i + 1) x v h4 (by rw [Nat.add_assoc, Nat.add_comm 1 k]; exact h2)⟩
theorem pre_distinct {f : Rel} {best at' : Nat} {d : Arr} {C : List Nat} {last : Nat} (hm : MinCyc f best at') (h : CirPre f best at' d C last) {i k u : Nat} (hik : i < k) (h1 : C[i]? = some u) (h2 : C[k]? = some u) : False := by
  have hw := pre_at h (k - i) i u u h1 (by rw [show i + (k - i) = k by omega]; exact h2)
  have := min_low hm (by omega) hw
  have hk := (List.getElem?_eq_some_iff.1 h2).1
  have := h.le
  omega
theorem pre_lo {f : Rel} {best at' : Nat} {d : Arr} {C : List Nat} {last : Nat} (h : CirPre f best at' d C last) {i u : Nat} (h1 : C[i]? = some u) : at' ≤ u := by
  match i with
  | 0 => rw [h.head] at h1; cases h1; exact Nat.le_refl _
  | i + 1 =>
    obtain ⟨_, v, _, h2, h3⟩ := h.next i (List.getElem?_eq_some_iff.1 h1).1
    rw [h1] at h2
    cases h2
    exact h3.lo
theorem pre_last {f : Rel} {best at' : Nat} {d : Arr} {C : List Nat} {last : Nat} (h : CirPre f best at' d C last) (hlen : C.length = best) : f last at' = true := by
  have hb := h.back
  rw [hlen, Nat.sub_self] at hb
  obtain ⟨c, _, _, h3, h4⟩ := hb
  have : c = at' := h4
  subst this
  exact h3
/-- Distinct numbers below m: at most m. -/
theorem nodup_le : ∀ {m : Nat} {C : List Nat}, (∀ x ∈ C, x < m) → C.Nodup → C.length ≤ m
  | 0, [], _, _ => Nat.le_refl _
  | 0, x :: C, h1, _ => absurd (h1 x (by simp)) (by omega)
  | m + 1, C, h1, h2 => by
    by_cases hm : m ∈ C
    · have := nodup_le (m := m) (C := C.erase m) (fun x hx => by
        have h3 := (List.Nodup.mem_erase_iff h2).1 hx
        have := h1 x h3.2
        have := h3.1
        omega) (h2.erase m)
      rw [List.length_erase_of_mem hm] at this
      omega
    · have := nodup_le (m := m) (C := C) (fun x hx => by
        have := h1 x hx
        have : x ≠ m := fun hc => hm (hc ▸ hx)
        omega) h2
      omega
theorem wk_nodes {f : Rel} {lo : Nat} : ∀ {n a b : Nat}, Wk f lo n a b → ∃ L : List Nat, L.length = n ∧ ∀ (i v : Nat), L[i]? = some v → v < 12 ∧ Wk f lo (i + 1) a v ∧ Wk f lo (n - (i + 1)) v b
  | 0, a, b, h => ⟨[], rfl, fun i v hv => by simp at hv⟩
  | n + 1, a, b, ⟨c, h1, h2, h3, h4⟩ => by
    obtain ⟨L, hl, hL⟩ := wk_nodes h4
    refine ⟨c :: L, by simp [hl], fun i v hv => ?_⟩
    match i, hv with
    | 0, hv =>
      have : c = v := by simpa using hv
      subst this
      exact ⟨h2, ⟨c, h1, h2, h3, rfl⟩, by simpa using h4⟩
    | i + 1, hv =>
      obtain ⟨g1, g2, g3⟩ := hL i v (by simpa using hv)
      exact ⟨g1, ⟨c, h1, h2, h3, g2⟩, by rw [Nat.add_sub_add_right]; exact g3⟩
/-- Some circle has at most 12 pairs. -/
theorem wk_short {f : Rel} : ∀ (k n s : Nat), n ≤ k → 1 ≤ n → Wk f 0 n s s → ∃ n' s', 1 ≤ n' ∧ n' ≤ 12 ∧ s' < 12 ∧ Wk f 0 n' s' s'
  | 0, n, s, h1, h2, _ => by omega
  | k + 1, n, s, h1, h2, hw => by
    obtain ⟨L, hl, hL⟩ := wk_nodes hw
    by_cases hn : n ≤ 12
    · refine ⟨n, s, h2, hn, ?_, hw⟩
      have hi : L[n - 1]? = some (L[n - 1]'(by omega)) := List.getElem?_eq_getElem (by omega)
      obtain ⟨g1, _, g3⟩ := hL _ _ hi
      rw [show n - (n - 1 + 1) = 0 by omega] at g3
      have : L[n - 1]'(by omega) = s := g3
      omega
    · by_cases hd : L.Nodup
      · have := nodup_le (m := 12) (fun x hx => by
          obtain ⟨i, hi⟩ := List.getElem?_of_mem hx
          exact (hL i x hi).1) hd
        omega
      · have : ∃ (i j v : Nat), i < j ∧ L[i]? = some v ∧ L[j]? = some v := by
          refine Classical.byContradiction fun hc => hd ?_
          rw [List.Nodup, List.pairwise_iff_getElem]
          intro i j hi hj hij he
          exact hc ⟨i, j, L[i], hij, List.getElem?_eq_getElem hi, by rw [List.getElem?_eq_getElem hj, he]⟩
        obtain ⟨i, j, v, hij, hi, hj⟩ := this
        have hjl := (List.getElem?_eq_some_iff.1 hj).1
        have hw2 : Wk f 0 (i + 1 + (n - (j + 1))) s s := (hL i v hi).2.1.app (hL j v hj).2.2
        exact wk_short k (i + 1 + (n - (j + 1))) s (by omega) (by omega) hw2
theorem nocyc_reach {f : Rel} (h : NoCyc f) (a : Nat) : ¬ Reach f a a := by
  rintro ⟨n, hw⟩
  obtain ⟨n', s', h1, h2, h3, h4⟩ := wk_short (n + 1) (n + 1) a (Nat.le_refl _) (by omega) hw
  obtain ⟨s2, h5, h6⟩ := wk_rotate h1 12 0 s' (by omega) h4
  exact h s2 n' h5 h1 h2 h6
/-- The least way back, as the law looks for it: of at most m pairs, from a value below m. -/
structure BackIs (f : Rel) (m back : Nat) : Prop where
  none : back = 0 → ∀ s n, s < m → 1 ≤ n → n ≤ m → ¬ Wk f 0 n s s
  some : back ≠ 0 → (∃ s, s < m ∧ Wk f 0 back s s) ∧ ∀ s n, s < m → 1 ≤ n → n ≤ m → Wk f 0 n s s → back ≤ n
/-- A circle handed back: as long as the least way back, its values different, each next one a pair. -/
theorem circ_law {f : Rel} {m back : Nat} {C : List Nat} (hin : ∀ a b, f a b = true → a < m ∧ b < m) (hcy : cycB (clR f) = true) (hb : BackIs f m back) (hc : IsCirc f C) :
    C.length = back ∧ back ≠ 0 ∧ (∀ (i u v : Nat), C[i]? = some u → C[(i + 1) % C.length]? = some v → f u v = true) ∧ (∀ (i u v : Nat), 0 < i → C[i]? = some u → C[0]? = some v → v < u) ∧ (∀ (i k u : Nat), i < k → C[i]? = some u → C[k]? = some u → False) ∧ ∀ x ∈ C, x < m := by
  rcases hc with ⟨_, hno⟩ | ⟨best, at', d, last, hm, hd, hlen, hp⟩
  · simp only [cycB, List.any_eq_true, clR_iff] at hcy
    obtain ⟨a, _, hr⟩ := hcy
    exact absurd hr (nocyc_reach hno a)
  · have hlast := pre_last hp hlen
    have hat := (hin _ _ hlast).2
    have hpos := hm.pos
    have hall : ∀ (i u : Nat), C[i]? = some u → u < m := fun i u hu => by
      match i with
      | 0 => rw [hp.head] at hu; cases hu; exact hat
      | i + 1 =>
        obtain ⟨_, v, _, h2, h3⟩ := hp.next i (List.getElem?_eq_some_iff.1 hu).1
        rw [hu] at h2
        cases h2
        exact (hin _ _ h3.pair).2
    have hmem : ∀ x ∈ C, x < m := fun x hx => by
      obtain ⟨i, hi⟩ := List.getElem?_of_mem hx
      exact hall i x hi
    have hdis : ∀ (i k u : Nat), i < k → C[i]? = some u → C[k]? = some u → False := fun i k u h1 h2 h3 => pre_distinct hm hp h1 h2 h3
    have hnd : C.Nodup := by
      rw [List.Nodup, List.pairwise_iff_getElem]
      intro i j hi hj hij he
      exact hdis i j C[i] hij (List.getElem?_eq_getElem hi) (by rw [List.getElem?_eq_getElem hj, he])
    have hle : best ≤ m := by rw [← hlen]; exact nodup_le hmem hnd
    have hw0 : Wk f 0 best at' at' := wk_lo (Nat.zero_le _) hm.wk
    have hb0 : back ≠ 0 := fun h0 => hb.none h0 at' best hat hpos hle hw0
    obtain ⟨⟨s, _, hs⟩, hlow⟩ := hb.some hb0
    have e1 := hlow at' best hat hpos hle hw0
    have e2 := min_low hm (by omega) hs
    refine ⟨by omega, hb0, fun i u v h1 h2 => ?_, fun i u v h0 h1 h2 => ?_, hdis, hmem⟩
    · have hi := (List.getElem?_eq_some_iff.1 h1).1
      by_cases hi2 : i + 1 < C.length
      · rw [Nat.mod_eq_of_lt hi2] at h2
        obtain ⟨u', v', g1, g2, g3⟩ := hp.next i hi2
        rw [h1] at g1
        rw [h2] at g2
        cases g1; cases g2
        exact g3.pair
      · have hi3 : i + 1 = C.length := by omega
        rw [hi3, Nat.mod_self, hp.head] at h2
        cases h2
        have := hp.lst
        rw [← hi3, Nat.add_sub_cancel, h1] at this
        cases this
        exact hlast
    · rw [hp.head] at h2
      cases h2
      have := pre_lo hp h1
      have : at' ≠ u := fun he => hdis 0 i u h0 (by rw [hp.head, he]) h1
      omega
theorem nocirc_law {f : Rel} {m back : Nat} (hcy : cycB (clR f) = false) (hm : m ≤ 12) (hb : BackIs f m back) : back = 0 := by
  refine Classical.byContradiction fun h0 => ?_
  obtain ⟨⟨s, hs, hw⟩, _⟩ := hb.some h0
  obtain ⟨n, rfl⟩ : ∃ n, back = n + 1 := ⟨back - 1, by omega⟩
  have : cycB (clR f) = true := by
    simp only [cycB, List.any_eq_true, List.mem_range]
    exact ⟨s, by omega, clR_iff.2 ⟨n, hw⟩⟩
  rw [hcy] at this
  cases this
end Go.Proofs.Ytodgohilfbggjaa
