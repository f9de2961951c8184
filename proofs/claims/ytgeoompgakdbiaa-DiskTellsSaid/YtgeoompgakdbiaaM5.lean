/- Lemmas that the laws of this seat share, 4 texts in one: Del, DelMap, Settle, CrashP. No condition of their own. -/
import Derived.Test.YtgeoompgakdbiaaM4
import Derived.Laws.CopyRow
import Derived.Lib.SlMapFilter
/- slices.DeleteFunc at the queue: the sectors of one file go. -/
namespace Go.Proofs.Ytgeoompgakdbiaa
open Go.RowKit Go.Maps
set_option linter.unusedSimpArgs false
set_option linter.unusedVariables false
set_option maxRecDepth 100000
/-- The sectors of other files. -/
def offF (f : Int) (L : List Sec) : List Sec := L.filter fun p => !(p.1 == f)
/-- Block g holds the sectors L, and spare cells behind. -/
def RowS (w : World) (g : Nat) (L : List Sec) (sp : List Value) : Prop := w.heap[g]? = some (.cells (secsC L ++ sp).toArray 70 (0, 0))
theorem secsC_len (L : List Sec) : (secsC L).length = L.length * 2 := by
  induction L with
  | nil => rfl
  | cons p L ih =>
    have : secsC (p :: L) = [.int .i64 p.1, .int .i64 p.2] ++ secsC L := by simp [secsC]
    rw [this, List.length_append, ih]
    simp
    omega
theorem secsC_cons (p : Sec) (L : List Sec) : secsC (p :: L) = .int .i64 p.1 :: .int .i64 p.2 :: secsC L := by simp [secsC]
theorem secsC_get : ∀ (L : List Sec) (j : Nat) (p : Sec), L[j]? = some p → (secsC L)[j * 2]? = some (.int .i64 p.1) ∧ (secsC L)[j * 2 + 1]? = some (.int .i64 p.2)
  | [], j, p, h => by simp at h
  | q :: L, 0, p, h => by
    simp at h
    subst h
    simp [secsC_cons]
  | q :: L, j + 1, p, h => by
    have := secsC_get L j p (by simpa using h)
    rw [secsC_cons, show (j + 1) * 2 = j * 2 + 1 + 1 by omega]
    simpa using this
theorem secsC_take : ∀ (L : List Sec) (i : Nat), (secsC L).take (i * 2) = secsC (L.take i)
  | [], i => by simp [secsC]
  | q :: L, 0 => by simp [secsC]
  | q :: L, i + 1 => by
    have := secsC_take L i
    rw [secsC_cons, show (i + 1) * 2 = i * 2 + 1 + 1 by omega]
    simp only [List.take_succ_cons, secsC_cons]
    rw [this]
theorem secsC_set : ∀ (L : List Sec) (i : Nat) (p : Sec) (sp : List Value), i < L.length → ((secsC L ++ sp).set (i * 2) (.int .i64 p.1)).set (i * 2 + 1) (.int .i64 p.2) = secsC (L.set i p) ++ sp
  | [], i, p, sp, h => by simp at h
  | q :: L, 0, p, sp, h => by simp [secsC_cons]
  | q :: L, i + 1, p, sp, h => by
    have := secsC_set L i p sp (by simpa using h)
    rw [secsC_cons, show (i + 1) * 2 = i * 2 + 1 + 1 by omega]
    simp only [List.cons_append, List.set_cons_succ, secsC_cons, List.set_cons_succ]
    rw [this]
theorem RowS.lt {w : World} {g : Nat} {L : List Sec} {sp : List Value} (h : RowS w g L sp) : g < w.heap.size := (Array.getElem?_eq_some_iff.1 h).1
theorem RowS.cells {w : World} {g : Nat} {L : List Sec} {sp : List Value} (h : RowS w g L sp) {j : Nat} {p : Sec} (hj : L[j]? = some p) : w.cell? ⟨g, j * 2, none⟩ = some (.int .i64 p.1) ∧ w.cell? ⟨g, j * 2 + 1, none⟩ = some (.int .i64 p.2) := by
  have hl := (List.getElem?_eq_some_iff.1 hj).1
  obtain ⟨h1, h2⟩ := secsC_get L j p hj
  unfold RowS at h
  refine ⟨?_, ?_⟩
  · simp only [World.cell?, h]
    simp only [List.getElem?_toArray]
    rw [List.getElem?_append_left (by rw [secsC_len]; omega)]
    exact h1
  · simp only [World.cell?, h]
    simp only [List.getElem?_toArray]
    rw [List.getElem?_append_left (by rw [secsC_len]; omega)]
    exact h2
theorem RowS.free {w : World} {g : Nat} {L : List Sec} {sp : List Value} (h : RowS w g L sp) (j : Nat) : w.frozen? ⟨g, j, none⟩ = false := by
  unfold RowS at h
  simp [World.frozen?, h]
theorem RowS.touch {O : Nat → Prop} {w w' : World} {g : Nat} {L : List Sec} {sp : List Value} (h : RowS w g L sp) (ht : Touch O w w') (hn : ¬ O g) : RowS w' g L sp := (ht.block g h.lt hn).trans h
theorem RowS.set {w : World} {g : Nat} {L : List Sec} {sp : List Value} (h : RowS w g L sp) {i : Nat} (p : Sec) (hi : i < L.length) : RowS ((w.setCell ⟨g, i * 2, none⟩ (.int .i64 p.1)).setCell ⟨g, i * 2 + 1, none⟩ (.int .i64 p.2)) g (L.set i p) sp := by
  have h1 := heap_setCell_at w g (i * 2) (.int .i64 p.1) h
  have h2 := heap_setCell_at _ g (i * 2 + 1) (.int .i64 p.2) h1
  unfold RowS
  rw [h2, ← secsC_set L i p sp hi]
  simp
theorem RowS.of_owns {w : World} {g n c : Nat} {L : List Sec} (h : w.ownsRow 0 70 2 (.slice (some ⟨g, 0, none⟩) n c) n (secsC L)) : ∃ sp, RowS w g L sp ∧ n ≤ c ∧ c ≤ maxLen ∧ (secsC L ++ sp).length = c * 2 ∧ L.length = n := by
  obtain ⟨h1, ⟨h2, _⟩ | ⟨g', cap', cur, e, h3, h4, h5, h6, h7, h8⟩⟩ := h
  · cases h2
  · simp only [Value.slice.injEq, Option.some.injEq, Addr.mk.injEq, and_true, true_and] at e
    obtain ⟨rfl, rfl⟩ := e
    have e2 : secsC L ++ cur.toList.drop (n * 2) = cur.toList := by rw [← h8, List.take_append_drop]
    refine ⟨cur.toList.drop (n * 2), ?_, h5, h6, ?_, ?_⟩
    · unfold RowS
      rw [h4, e2]
    · rw [e2, Array.length_toList, h7]
    · rw [secsC_len] at h1
      omega
theorem RowS.owns {w : World} {g i c : Nat} {L : List Sec} {cs : List Value} (h : w.heap[g]? = some (.cells cs.toArray 70 (0, 0))) (hl : cs.length = c * 2) (hi : L.length = i) (hc : i ≤ c) (hm : c ≤ maxLen) (hp : cs.take (i * 2) = secsC L) : w.ownsRow 0 70 2 (.slice (some ⟨g, 0, none⟩) i c) i (secsC L) :=
  ⟨by rw [secsC_len, hi], .inr ⟨g, c, cs.toArray, rfl, Nat.zero_le _, h, hc, hm, by simpa using hl, by simpa using hp⟩⟩
theorem call57 {W : World} {fb : Nat} {f : Int} (p : Sec) (cf : W.cell? ⟨fb, 0, none⟩ = some (.int .i64 f)) : Calls Try.prog 57 #[.agg #[.int .i64 p.1, .int .i64 p.2], .pointer (some ⟨fb, 0, none⟩)] W fun e w' => e = .returned (.bool (p.1 == f)) ∧ Exts W w' := by
  have lf : fb < W.heap.size := World.block_lt_of_cell? W _ cf
  go_enter Try.func57, Try.ntmps57
  go_wp2
  go_ret
  exact ⟨rfl, (by repeat (first | exact Exts.refl _ | apply Exts.andR | apply Exts.alloc | apply Exts.wext | apply Exts.drew | apply Exts.drewN))⟩
theorem call59 {W : World} {fb : Nat} {f : Int} (p : Sec) (v : Value) (cf : W.cell? ⟨fb, 0, none⟩ = some (.int .i64 f)) : Calls Try.prog 59 #[.agg #[.int .i64 p.1, .int .i64 p.2], v, .pointer (some ⟨fb, 0, none⟩)] W fun e w' => e = .returned (.bool (p.1 == f)) ∧ Exts W w' := by
  have lf : fb < W.heap.size := World.block_lt_of_cell? W _ cf
  go_enter Try.func59, Try.ntmps59
  go_wp2
  go_ret
  exact ⟨rfl, (by repeat (first | exact Exts.refl _ | apply Exts.andR | apply Exts.alloc | apply Exts.wext | apply Exts.drew | apply Exts.drewN))⟩
/-- The first sector of the file. -/
theorem index63 {w : World} {g n c fb : Nat} {f : Int} {L : List Sec} {sp : List Value} (h : RowS w g L sp) (hn : L.length = n) (hm : n ≤ maxLen) (cf : w.cell? ⟨fb, 0, none⟩ = some (.int .i64 f)) :
    Calls Try.prog 63 #[.slice (some ⟨g, 0, none⟩) n c, .func (.func 57) #[] #[.pointer (some ⟨fb, 0, none⟩)]] w fun e w' => ∃ r : Int, e = .returned (.int .i64 r) ∧ Exts w w' ∧ ((r = -1 ∧ offF f L = L) ∨ ∃ k : Nat, r = k ∧ k < n ∧ offF f (L.take k) = L.take k ∧ offF f (L.take (k + 1)) = L.take k) := by
  have lf : fb < w.heap.size := World.block_lt_of_cell? w _ cf
  have lg := h.lt
  unfold maxLen at hm
  have H := Lib.hid h
  have HN := Lib.hid hn
  clear h hn
  go_enter Try.func63, Try.ntmps63
  go_wp2
  go_loopw [8] (fun i wr => ∃ (k : Nat), k ≤ n ∧ i = .int .i64 k ∧ Exts w wr ∧ offF f (L.take k) = L.take k) (fun i _ => n - (intOf i).toNat)
  case atStart => exact ⟨0, by omega, rfl, Exts.refl _, rfl⟩
  case round =>
    obtain ⟨k, hk, rfl, hx, hin⟩ := hrel
    have HX := Lib.hid hx
    have HI := Lib.hid hin
    clear hin
    by_cases hlt : k < n
    · obtain ⟨p, hp⟩ : ∃ p, L[k]? = some p := ⟨_, List.getElem?_eq_getElem (by rw [HN.out]; exact hlt)⟩
      have HP := Lib.hid hp
      obtain ⟨a0, a1⟩ := H.out.cells hp
      have b0 := Exts.cell hx a0
      have b1 := Exts.cell hx a1
      have cf1 := Exts.cell hx cf
      have htake : L.take (k + 1) = L.take k ++ [p] := by rw [List.take_add_one, hp]; rfl
      have HT := Lib.hid htake
      obtain ⟨r, hr⟩ : ∃ r, (p.1 == f) = r := ⟨_, rfl⟩
      have HR := Lib.hid hr
      clear hp htake hx hr
      cases r with
      | true =>
        go_wp2_with (go_at_call 57; ((with_reducible refine (call57 p cf1).mono ?_); rintro e w' ⟨rfl, ⟨x, rfl⟩⟩; rw [HR.out]))
        go_ret
        refine ⟨_, rfl, HX.out.trans (by repeat (first | exact Exts.refl _ | apply Exts.andR | apply Exts.alloc | apply Exts.wext | apply Exts.drew | apply Exts.drewN)), Or.inr ⟨k, rfl, hlt, HI.out, ?_⟩⟩
        rw [HT.out, offF, List.filter_append]
        have := HI.out
        rw [offF] at this
        rw [this]
        simp [HR.out]
      | false =>
        go_wp2_with (go_at_call 57; ((with_reducible refine (call57 p cf1).mono ?_); rintro e w' ⟨rfl, ⟨x, rfl⟩⟩; rw [HR.out]))
        refine ⟨⟨k + 1, by omega, by go_num, HX.out.trans (by repeat (first | exact Exts.refl _ | apply Exts.andR | apply Exts.alloc | apply Exts.wext | apply Exts.drew | apply Exts.drewN)), ?_⟩, ?_⟩
        · rw [HT.out, offF, List.filter_append]
          have := HI.out
          rw [offF] at this
          rw [this]
          simp [HR.out]
        · simp [intOf]; omega
    · obtain rfl : k = n := by omega
      clear hx
      go_wp2
      go_ret
      refine ⟨_, rfl, HX.out, Or.inl ⟨rfl, ?_⟩⟩
      have := HI.out
      rw [List.take_of_length_le (by rw [HN.out]; exact Nat.le_refl _)] at this
      exact this
theorem index63_nil {w : World} (c : Nat) (l : Array Value) : Calls Try.prog 63 #[.slice none 0 c, .func (.func 57) #[] l] w fun e w' => e = .returned (.int .i64 (-1)) ∧ w = w' := by
  go_enter Try.func63, Try.ntmps63
  go_wp2
  go_loopw [8] (fun i wr => i = .int .i64 0 ∧ w = wr) (fun i _ => 0)
  case atStart => exact ⟨rfl, rfl⟩
  case round =>
    obtain ⟨rfl, rfl⟩ := hrel
    go_wp2
    go_ret
    exact ⟨rfl, rfl⟩
theorem zero70 (w : World) : (zeroValue 70).run Try.prog w = .ok (.agg #[.int .i64 0, .int .i64 0]) w := by kernel_rfl
/-- The builtin clear, kept folded in this text's walk. -/
def clrR (ats : Array TypeId) (ty : TypeId) (args : Array Value) : Sem Value := Builtin.clear_ ats ty args
theorem clrR_in (ats : Array TypeId) (ty : TypeId) (args : Array Value) : Builtin.clear_ ats ty args = clrR ats ty args := rfl
attribute [local go_sem ↓] clrR_in
theorem zeros70 (n : Nat) : (Builtin.zeroCells (Value.agg #[.int .i64 0, .int .i64 0]).cells n).toList = List.replicate (n * 2) (.int .i64 0) := by
  apply List.ext_getElem
  · simp [Builtin.zeroCells, Value.cells]
  · intro i h1 h2
    simp only [Builtin.zeroCells, Value.cells, Array.getElem_toList, Array.getElem_map, List.getElem_replicate]
    have : ∀ j, j < 2 → (#[Value.int .i64 0, .int .i64 0] : Array Value)[j]! = .int .i64 0 := by
      intro j hj
      match j, hj with
      | 0, _ => rfl
      | 1, _ => rfl
    exact this _ (Nat.mod_lt _ (by decide))
theorem run_clear_tail {w : World} {g o m : Nat} {cs : List Value} (h : w.heap[g]? = some (.cells cs.toArray 70 (0, 0))) (hm : 0 < m) (ho : o + m * 2 ≤ cs.length) (ty : TypeId) (c : Nat) : ∃ (w' : World) (cs' : List Value), (clrR #[54] ty #[.slice (some ⟨g, o, none⟩) m c]).run Try.prog w = .ok (.tuple #[]) w' ∧ w'.heap[g]? = some (.cells cs'.toArray 70 (0, 0)) ∧ cs'.length = cs.length ∧ cs'.take o = cs.take o ∧ Touch (fun k => k = g) w w' := by
  obtain ⟨k, rfl⟩ : ∃ k, m = k + 1 := ⟨m - 1, by omega⟩
  have hst := run_storeCells_at (P := Try.prog) g o 70 (List.replicate ((k + 1) * 2) (.int .i64 0)) 0 cs.toArray w h (by simpa using ho) (by intro v hv; rw [List.eq_of_mem_replicate hv]; rfl)
  simp only [Nat.add_zero, List.length_replicate] at hst
  refine ⟨_, cs.take o ++ List.replicate ((k + 1) * 2) (.int .i64 0) ++ cs.drop (o + (k + 1) * 2), ?_, setRow_heap w g _ _ 70 _ h, ?_, ?_, rfl, rfl, rfl, by simp, fun j hj hn => setRow_other w g j _ hn⟩
  · unfold clrR
    have hz := zeros70 (k + 1)
    simp [Builtin.clear_, run_underlying Try.underlying54, zero70]
    rw [hz, hst]
    simp
  · simp
    omega
  · rw [List.append_assoc, List.take_append_of_le_length (by simp; omega)]
    exact List.take_of_length_le (by simp; omega)
theorem offF_step {f : Int} {L : List Sec} {j : Nat} {p : Sec} (hj : L[j]? = some p) : offF f (L.take (j + 1)) = if (p.1 == f) = true then offF f (L.take j) else offF f (L.take j) ++ [p] := by
  have : L.take (j + 1) = L.take j ++ [p] := by rw [List.take_add_one, hj]; rfl
  rw [this]
  unfold offF
  rw [List.filter_append]
  cases h : (p.1 == f) <;> simp [h]
theorem offF_le (f : Int) (L : List Sec) : (offF f L).length ≤ L.length := List.length_filter_le _ _
theorem off_all {f : Int} {L : List Sec} (h : offF f L = L) {p : Sec} (hp : p ∈ L) : (p.1 == f) = false := by
  have := List.filter_eq_self.1 h p hp
  simpa using this
theorem off_hit {f : Int} {L : List Sec} {k : Nat} (h1 : offF f (L.take k) = L.take k) (h2 : offF f (L.take (k + 1)) = L.take k) {p : Sec} (hp : L[k]? = some p) : (p.1 == f) = true := by
  rw [offF_step hp, h1] at h2
  cases h : (p.1 == f) with
  | true => rfl
  | false =>
    rw [h] at h2
    have := congrArg List.length h2
    simp at this
theorem off_first (f : Int) (L : List Sec) : offF f L = L ∨ ∃ k, k < L.length ∧ offF f (L.take k) = L.take k ∧ offF f (L.take (k + 1)) = L.take k := by
  have gen : ∀ k, k ≤ L.length → offF f (L.take k) = L.take k ∨ ∃ k, k < L.length ∧ offF f (L.take k) = L.take k ∧ offF f (L.take (k + 1)) = L.take k := by
    intro k
    induction k with
    | zero => intro _; exact Or.inl rfl
    | succ k ih =>
      intro hk
      rcases ih (by omega) with h | h
      · have hp : L[k]? = some L[k] := List.getElem?_eq_getElem (by omega)
        have hs := offF_step (f := f) hp
        by_cases hf : (L[k].1 == f) = true
        · rw [if_pos hf, h] at hs
          exact Or.inr ⟨k, by omega, h, hs⟩
        · rw [if_neg hf, h] at hs
          exact Or.inl (by rw [hs, List.take_add_one, hp]; rfl)
      · exact Or.inr h
  have := gen L.length (Nat.le_refl _)
  rwa [List.take_length] at this
theorem off_uniq {f : Int} {L : List Sec} {k k' : Nat} (hk : k < L.length) (hk' : k' < L.length) (h1 : offF f (L.take k) = L.take k) (h2 : offF f (L.take (k + 1)) = L.take k) (h1' : offF f (L.take k') = L.take k') (h2' : offF f (L.take (k' + 1)) = L.take k') : k = k' := by
  have hp : L[k]? = some L[k] := List.getElem?_eq_getElem hk
  have hp' : L[k']? = some L[k'] := List.getElem?_eq_getElem hk'
  have e := off_hit h1 h2 hp
  have e' := off_hit h1' h2' hp'
  rcases Nat.lt_trichotomy k k' with h | h | h
  · have hm : L[k] ∈ L.take k' := by
      rw [List.mem_take_iff_getElem]
      exact ⟨k, by omega, rfl⟩
    rw [off_all h1' hm] at e
    cases e
  · exact h
  · have hm : L[k'] ∈ L.take k := by
      rw [List.mem_take_iff_getElem]
      exact ⟨k', by omega, rfl⟩
    rw [off_all h1 hm] at e'
    cases e'
theorem index63_no {w : World} {g n c fb : Nat} {f : Int} {L : List Sec} {sp : List Value} (h : RowS w g L sp) (hn : L.length = n) (hm : n ≤ maxLen) (cf : w.cell? ⟨fb, 0, none⟩ = some (.int .i64 f)) (hall : offF f L = L) :
    Calls Try.prog 63 #[.slice (some ⟨g, 0, none⟩) n c, .func (.func 57) #[] #[.pointer (some ⟨fb, 0, none⟩)]] w fun e w' => e = .returned (.int .i64 (-1)) ∧ Exts w w' := by
  refine (index63 h hn hm cf).mono ?_
  rintro e w' ⟨r, rfl, hx, ⟨rfl, _⟩ | ⟨k, rfl, hk, h1, h2⟩⟩
  · exact ⟨rfl, hx⟩
  · have hp : L[k]? = some L[k] := List.getElem?_eq_getElem (by omega)
    have e := off_hit h1 h2 hp
    rw [off_all hall (List.getElem_mem _)] at e
    cases e
theorem index63_hit {w : World} {g n c fb k : Nat} {f : Int} {L : List Sec} {sp : List Value} (h : RowS w g L sp) (hn : L.length = n) (hm : n ≤ maxLen) (cf : w.cell? ⟨fb, 0, none⟩ = some (.int .i64 f)) (hk : k < n) (h1 : offF f (L.take k) = L.take k) (h2 : offF f (L.take (k + 1)) = L.take k) :
    Calls Try.prog 63 #[.slice (some ⟨g, 0, none⟩) n c, .func (.func 57) #[] #[.pointer (some ⟨fb, 0, none⟩)]] w fun e w' => e = .returned (.int .i64 k) ∧ Exts w w' := by
  refine (index63 h hn hm cf).mono ?_
  rintro e w' ⟨r, rfl, hx, ⟨rfl, hall⟩ | ⟨k', rfl, hk', h1', h2'⟩⟩
  · have hp : L[k]? = some L[k] := List.getElem?_eq_getElem (by omega)
    have e := off_hit h1 h2 hp
    rw [off_all hall (List.getElem_mem _)] at e
    cases e
  · rw [off_uniq (by omega) (by omega) h1 h2 h1' h2']
    exact ⟨rfl, hx⟩
set_option maxHeartbeats 1000000
theorem delete56 {w : World} {n fb c : Nat} {ao : Option Addr} {f : Int} {L : List Sec} (h : w.ownsRow 0 70 2 (.slice ao n c) n (secsC L)) (cf : w.cell? ⟨fb, 0, none⟩ = some (.int .i64 f)) (hne : ∀ k, (Value.slice ao n c).ownBlock = some k → k ≠ fb) (hm : n ≤ 1000000) :
    Calls Try.prog 56 #[.slice ao n c, .func (.func 57) #[] #[.pointer (some ⟨fb, 0, none⟩)]] w fun e w' => e = .returned (.slice ao (offF f L).length c) ∧ w'.ownsRow 0 70 2 (.slice ao (offF f L).length c) (offF f L).length (secsC (offF f L)) ∧ Touch (fun k => (Value.slice ao n c).ownBlock = some k) w w' := by
  have lf : fb < w.heap.size := World.block_lt_of_cell? w _ cf
  by_cases hnil : ao = none
  · subst hnil
    obtain ⟨h1, ⟨h2, h3⟩ | ⟨g', cap, cur, h2, _⟩⟩ := h
    · cases h2
      have hL : L = [] := by
        rw [secsC_len] at h1
        exact List.length_eq_zero_iff.1 (by omega)
      subst hL
      go_enter Try.func56, Try.ntmps56
      go_wp2_with (go_at_call 63; ((with_reducible refine (index63_nil 0 _).mono ?_); rintro e w' ⟨rfl, rfl⟩))
      go_ret
      exact ⟨rfl, ⟨rfl, .inl ⟨rfl, rfl⟩⟩, Touch.refl _ _⟩
    · cases h2
  · obtain ⟨g, rfl⟩ : ∃ g, ao = some ⟨g, 0, none⟩ := by
      obtain ⟨h1, ⟨h2, h3⟩ | ⟨g', cap, cur, h2, _⟩⟩ := h
      · cases h2
        exact absurd rfl hnil
      · cases h2
        exact ⟨_, rfl⟩
    obtain ⟨sp, hr, hnc, hcm, hlen, hLn⟩ := RowS.of_owns h
    have hgf : g ≠ fb := hne g rfl
    have lg := hr.lt
    have H := Lib.hid hr
    have HLN := Lib.hid hLn
    have HLEN := Lib.hid hlen
    have HOW := Lib.hid h
    have hcm' := hcm
    unfold maxLen at hcm'
    clear h hne hlen hnil
    rcases off_first f L with hall | ⟨k, hk, hk1, hk2⟩
    · have hI := index63_no (c := c) hr hLn (by unfold maxLen; omega) cf hall
      clear hr
      go_enter Try.func56, Try.ntmps56
      go_wp2_with (go_at_call 63; ((with_reducible refine hI.mono ?_); rintro e w' ⟨rfl, ⟨x, rfl⟩⟩))
      go_ret
      rw [hall, hLn]
      exact ⟨rfl, ownsRow_exts HOW.out (by repeat (first | exact Exts.refl _ | apply Exts.andR | apply Exts.alloc | apply Exts.wext | apply Exts.drew | apply Exts.drewN)), Touch.of_exts (by repeat (first | exact Exts.refl _ | apply Exts.andR | apply Exts.alloc | apply Exts.wext | apply Exts.drew | apply Exts.drewN))⟩
    · rw [hLn] at hk
      have hI := index63_hit (c := c) hr hLn (by unfold maxLen; omega) cf hk hk1 hk2
      have hkm : (((k : Nat) : Int) == -1) = false := by simp
      have HK1 := Lib.hid hk1
      have HK2 := Lib.hid hk2
      clear hr hk1 hk2 hLn
      go_enter Try.func56, Try.ntmps56
      go_wp2_with (go_at_call 63; ((with_reducible refine hI.mono ?_); rintro e w' ⟨rfl, ⟨x, rfl⟩⟩))
      go_loopw [5, 6] (fun si sj wr => ∃ (i j : Nat) (M : List Sec), si = .int .i64 i ∧ sj = .int .i64 j ∧ j ≤ n ∧ i < j ∧ M.length = n ∧ M.take i = offF f (L.take j) ∧ M.drop j = L.drop j ∧ RowS wr g M sp ∧ Touch (fun k => k = g) w wr) (fun _ sj _ => n - (intOf sj).toNat)
      case atStart => exact ⟨k, k + 1, L, rfl, by go_num, by omega, by omega, HLN.out, HK2.out.symm, rfl, H.out.touch (O := fun _ => False) (Touch.of_exts (by repeat (first | exact Exts.refl _ | apply Exts.andR | apply Exts.alloc | apply Exts.wext | apply Exts.drew | apply Exts.drewN))) (fun h => h), Touch.of_exts (by repeat (first | exact Exts.refl _ | apply Exts.andR | apply Exts.alloc | apply Exts.wext | apply Exts.drew | apply Exts.drewN))⟩
      case round =>
        obtain ⟨i, j, M, rfl, rfl, hjn, hij, hMn, hM1, hM2, hrow, htw⟩ := hrel
        have lgr : g < wr.heap.size := hrow.lt
        have cf1 := htw.cell (fun e => hgf (e.symm)) cf
        have lfr : fb < wr.heap.size := World.block_lt_of_cell? wr _ cf1
        have HROW := Lib.hid hrow
        have HTW := Lib.hid htw
        have HM := Lib.hid hMn
        have HM1 := Lib.hid hM1
        have HM2 := Lib.hid hM2
        by_cases hlt : j < n
        · obtain ⟨p, hp⟩ : ∃ p, L[j]? = some p := ⟨_, List.getElem?_eq_getElem (by rw [HLN.out]; exact hlt)⟩
          have hMj : M[j]? = some p := by
            have := congrArg (fun l => l[0]?) hM2
            simpa [hp] using this
          obtain ⟨u, hu⟩ : ∃ u, M[i]? = some u := ⟨_, List.getElem?_eq_getElem (by rw [hMn]; omega)⟩
          obtain ⟨a0, a1⟩ := hrow.cells hMj
          obtain ⟨b0, b1⟩ := hrow.cells hu
          have q0 := hrow.free (i * 2)
          have q1 := hrow.free (i * 2 + 1)
          have hstep := offF_step (f := f) hp
          have hD : M.drop (j + 1) = L.drop (j + 1) := by
            have := congrArg (List.drop 1) hM2
            simpa [List.drop_drop] using this
          have HD1 := Lib.hid hD
          obtain ⟨r, hr⟩ : ∃ r, (p.1 == f) = r := ⟨_, rfl⟩
          rw [hr] at hstep
          have HR := Lib.hid hr
          have HST := Lib.hid hstep
          clear hp hMj hu hstep hr hrow htw hMn hM1 hM2 hI hD
          cases r with
          | true =>
            go_wp2_with (go_at_call 57; ((with_reducible refine (call57 p (Exts.cell (by repeat (first | exact Exts.refl _ | apply Exts.andR | apply Exts.alloc | apply Exts.wext | apply Exts.drew | apply Exts.drewN)) cf1)).mono ?_); rintro e w' ⟨rfl, ⟨x2, rfl⟩⟩; rw [HR.out]))
            go_roundw
            case rel =>
             refine ⟨i, j + 1, M, rfl, by go_num, by omega, by omega, HM.out, ?_, HD1.out, HROW.out.touch (O := fun _ => False) (Touch.of_exts (by repeat (first | exact Exts.refl _ | apply Exts.andR | apply Exts.alloc | apply Exts.wext | apply Exts.drew | apply Exts.drewN))) (fun h => h), HTW.out.then (Touch.of_exts (by repeat (first | exact Exts.refl _ | apply Exts.andR | apply Exts.alloc | apply Exts.wext | apply Exts.drew | apply Exts.drewN)))⟩
             rw [HM1.out, HST.out]
             rfl
            case measure => simp [intOf]; omega
          | false =>
            go_wp2_with (go_at_call 57; ((with_reducible refine (call57 p (Exts.cell (by repeat (first | exact Exts.refl _ | apply Exts.andR | apply Exts.alloc | apply Exts.wext | apply Exts.drew | apply Exts.drewN)) cf1)).mono ?_); rintro e w' ⟨rfl, ⟨x2, rfl⟩⟩; rw [HR.out]))
            go_roundw
            case rel =>
             refine ⟨i + 1, j + 1, M.set i p, by go_num, by go_num, by omega, by omega, by rw [List.length_set]; exact HM.out, ?_, ?_, (HROW.out.set p (by rw [HM.out]; omega)).touch (O := fun _ => False) (Touch.of_exts (by repeat (first | exact Exts.refl _ | apply Exts.andR | apply Exts.alloc | apply Exts.wext | apply Exts.drew | apply Exts.drewN))) (fun h => h), ((HTW.out.then (Touch.setCell _ _ _ rfl)).then (Touch.setCell _ _ _ rfl)).then (Touch.of_exts (by repeat (first | exact Exts.refl _ | apply Exts.andR | apply Exts.alloc | apply Exts.wext | apply Exts.drew | apply Exts.drewN)))⟩
             · rw [HST.out, ← HM1.out, List.take_add_one, List.take_set_of_le (Nat.le_refl _), List.getElem?_set_self (by rw [HM.out]; omega)]
               rfl
             · rw [List.drop_set_of_lt (by omega)]
               exact HD1.out
            case measure => simp [intOf]; omega
        · obtain rfl : j = n := by omega
          have hlen2 : (secsC M ++ sp).length = c * 2 := by
            have := HLEN.out
            simp only [List.length_append, secsC_len, HLN.out, HM.out] at this ⊢
            exact this
          obtain ⟨w9, cs9, h9, hr9, hl9, ht9, htt9⟩ := run_clear_tail hrow (o := i * 2) (m := j - i) (by omega) (by rw [hlen2]; omega) 0 (c - i)
          have HR9 := Lib.hid hr9
          have HL9 := Lib.hid hl9
          have HT9 := Lib.hid ht9
          have HTT9 := Lib.hid htt9
          have HL2 := Lib.hid hlen2
          clear hrow htw hMn hM1 hM2 hI hr9 hl9 ht9 htt9 hlen2
          go_wp2
          go_ret
          have e1 : L.take j = L := List.take_of_length_le (by rw [HLN.out]; exact Nat.le_refl _)
          have e2 := HM1.out
          rw [e1] at e2
          have e3 : (offF f L).length = i := by
            rw [← e2, List.length_take, HM.out]
            omega
          rw [e3]
          refine ⟨rfl, RowS.owns HR9.out (by rw [HL9.out, HL2.out]) e3 (by omega) hcm ?_, (HTW.out.then HTT9.out).mono (fun k hk => by rw [hk]; rfl)⟩
          rw [HT9.out, List.take_append_of_le_length (by rw [secsC_len, HM.out]; omega), ← e2]
          exact secsC_take M i
end Go.Proofs.Ytgeoompgakdbiaa

/- maps.DeleteFunc at the set of pending sectors. -/
namespace Go.Proofs.Ytgeoompgakdbiaa
open Go.RowKit Go.Maps
set_option linter.unusedSimpArgs false
set_option linter.unusedVariables false
set_option maxRecDepth 100000
theorem Exts.grown {w w' : World} (h : Exts w w') : w.grownBy w' none := ⟨h.below.os, h.below.tape, h.below.output, h.below.size, fun k hk _ => h.below.block k hk⟩
theorem sameKey_sec {p q : Sec} (p1 : I64 p.1) (p2 : I64 p.2) (q1 : I64 q.1) (q2 : I64 q.2) : (secL p).sameKey (secL q) = decide (p = q) := by
  by_cases h : p = q
  · subst h
    rw [WideAt.sameKey_self (lawS.key (keyOf_sec p p1.wf p2.wf))]
    simp
  · cases hs : (secL p).sameKey (secL q) with
    | true => exact absurd (secL_inj p1 p2 q1 q2 (WideAt.sameKey_eq hs)) h
    | false => simp [h]
/-- What the map says while the entries of file f go. -/
def MidS (f : Int) (Q : List Sec) (D : DataW Unit) (left : Lit → Bool) : Prop := ∀ q : Sec, I64 q.1 → I64 q.2 → D.atKey (secL q) (.lit (.bool false)) = .lit (.bool (Q.contains q && (!(q.1 == f) || left (secL q)))) ∧ Maps.has D (secL q) = (Q.contains q && (!(q.1 == f) || left (secL q)))
theorem MidS.stays {f : Int} {Q : List Sec} {D : DataW Unit} {left : Lit → Bool} (h : MidS f Q D left) {p : Sec} (p1 : I64 p.1) (p2 : I64 p.2) (hp : (p.1 == f) = false) : MidS f Q D (fun z => left z && !z.sameKey (secL p)) := by
  intro q q1 q2
  have := h q q1 q2
  simp only [sameKey_sec q1 q2 p1 p2]
  by_cases e : q = p
  · subst e
    simpa [hp] using this
  · simpa [e] using this
theorem MidS.struck {f : Int} {Q : List Sec} {D : DataW Unit} {left : Lit → Bool} (h : MidS f Q D left) {p : Sec} (p1 : I64 p.1) (p2 : I64 p.2) (hp : (p.1 == f) = true) : MidS f Q (D.del (secL p)) (fun z => left z && !z.sameKey (secL p)) := by
  intro q q1 q2
  have := h q q1 q2
  simp only [sameKey_sec q1 q2 p1 p2]
  by_cases e : q = p
  · subst e
    rw [atKey_del_same, has_del_same]
    simp [hp]
  · rw [atKey_del_other (fun e' => e (secL_inj q1 q2 p1 p2 e')), has_del_other (fun e' => e (secL_inj q1 q2 p1 p2 e'))]
    simpa [e] using this
theorem contains_off (f : Int) (Q : List Sec) (q : Sec) : (offF f Q).contains q = (Q.contains q && !(q.1 == f)) := by
  rw [Bool.eq_iff_iff]
  simp [offF, List.mem_filter]
set_option maxHeartbeats 1000000
theorem delete58 {w : World} {sm n fb : Nat} {f : Int} {Q : List Sec} (h : SetAt w sm Q n) (cf : w.cell? ⟨fb, 0, none⟩ = some (.int .i64 f)) (hne : sm ≠ fb) :
    Calls Try.prog 58 #[.map (some sm), .func (.func 59) #[] #[.pointer (some ⟨fb, 0, none⟩)]] w fun e w' => e = .returned (.tuple #[]) ∧ SetAt w' sm (offF f Q) n ∧ w.grownBy w' (some sm) := by
  have lf : fb < w.heap.size := World.block_lt_of_cell? w _ cf
  have ls := h.lt
  obtain ⟨D0, hown, hD0⟩ := h
  have H0 := Lib.hid hD0
  clear hD0
  go_enter Try.func58, Try.ntmps58
  go_wp2_with (first
    | (at_range; refine wpList_range_own _ rfl _ 53 rfl 70 4 lawS Try.underlying53 (plainElem Try.prog 4) sm n D0 rfl hown ?_; intro w0 hrg0 hg0 hs0)
    | go_in)
  go_frame
  have hcf0 : w0.cell? ⟨fb, 0, none⟩ = some (.int .i64 f) := (Touch.of_grown (O := fun _ => False) hg0 (fun k hk => by cases hk)).cell (fun h => h) cf
  go_loopw [8] (fun _ wr => ∃ (D : DataW Unit) (left : Lit → Bool) (cnt : Nat), wr.ranges Try.prog 70 (plainElem Try.prog 4) sm w.heap.size n D left cnt ∧ w.grownBy wr (some sm) ∧ MidS f Q D left)
    (fun _ wr => wr.rangeLeft sm w.heap.size)
  case atStart => exact ⟨_, _, _, hrg0, hg0.but _, fun q q1 q2 => by
    have := H0.out q q1 q2
    rw [this.1, this.2]
    cases Q.contains q <;> simp⟩
  case round =>
    obtain ⟨D, left, cnt, hrg, hgw, hmid⟩ := hrel
    have HM := Lib.hid hmid
    clear hmid
    go_wp2_with (first
      | (at_next; refine wpList_next_ranges _ rfl _ rfl 70 lawS (plainElem Try.prog 4) id id (fun key _ _ => ⟨key, rfl⟩) (fun v _ _ => ⟨v, rfl⟩) sm w.heap.size n _ _ _ rfl hrg ?_ ?_)
      | go_in)
    · intro _ hl0
      go_wp2
      go_end0
      refine ⟨rfl, ⟨D, hrg.owns, fun q q1 q2 => ?_⟩, hgw⟩
      have := HM.out q q1 q2
      rw [hl0] at this
      rw [contains_off]
      simpa using this
    · intro xv c kl yd yp w1 cnt1 hkey hlx hv hat hrg1 hlt hg1 hs1 hen
      obtain ⟨x, rfl, p1, p2, rfl⟩ := keyOf_sec_inv hkey
      have p1' := I64.of_wf p1
      have p2' := I64.of_wf p2
      have hgw1 := hgw.andThen hg1 (fun j hj => by cases hj; exact Or.inl (Nat.le_refl _))
      have hbl := hrg1.owns.lt
      have hrl := hrg1.lt
      have cf1 : w1.cell? ⟨fb, 0, none⟩ = some (.int .i64 f) := (Touch.of_grown (O := fun k => k = sm) hgw1 (fun k hk => by cases hk; rfl)).cell (fun e => hne e.symm) cf
      have HKEY := Lib.hid hkey
      have HHG := Lib.hid hgw1
      simp only [secV] at hen
      obtain ⟨r, hr⟩ : ∃ r, (x.1 == f) = r := ⟨_, rfl⟩
      have HR := Lib.hid hr
      have lf1 : fb < w1.heap.size := World.block_lt_of_cell? w1 _ cf1
      clear hr hkey hat hv hgw1
      cases r with
      | false =>
        go_wp2_with (first | (go_at_call 59; ((with_reducible refine (call59 x _ (Exts.cell (by repeat (first | exact Exts.refl _ | apply Exts.andR | apply Exts.alloc | apply Exts.wext | apply Exts.drew | apply Exts.drewN)) cf1)).mono ?_); rintro e w' ⟨rfl, ⟨x2, rfl⟩⟩; rw [HR.out])) | go_in)
        have hX : Exts w1 (wext (w1.alloc (.cells #[.int .i64 x.1, .int .i64 x.2] 70)) x2) := (by repeat (first | exact Exts.refl _ | apply Exts.andR | apply Exts.alloc | apply Exts.wext | apply Exts.drew | apply Exts.drewN))
        have hrg2 := hrg1.kept (Exts.grown hX) (by simp) (by simp)
        go_roundw
        case rel => exact ⟨D, _, cnt1, hrg2, HHG.out.andThen (Exts.grown hX) (fun j hj => by cases hj), HM.out.stays p1' p2' HR.out⟩
        case measure => rw [hrg2.left_eq, hrg.left_eq]; exact hlt
      | true =>
        go_wp2_with (first | (go_at_call 59; ((with_reducible refine (call59 x _ (Exts.cell (by repeat (first | exact Exts.refl _ | apply Exts.andR | apply Exts.alloc | apply Exts.wext | apply Exts.drew | apply Exts.drewN)) cf1)).mono ?_); rintro e w' ⟨rfl, ⟨x2, rfl⟩⟩; rw [HR.out])) | (at_delete; refine wpList_delete_ranges _ rfl _ _ 53 70 rfl 4 lawS Try.underlying53 (plainElem Try.prog 4) sm w.heap.size n _ _ _ rfl (hrg1.kept (Exts.grown (by repeat (first | exact Exts.refl _ | apply Exts.andR | apply Exts.alloc | apply Exts.wext | apply Exts.drew | apply Exts.drewN))) (by simp) (by simp)) _ _ rfl HKEY.out ?_; intro w3 cnt3 hrg3 hle hturn; go_frame) | go_in)
        rw [strike_twice] at hrg3
        go_roundw
        case rel => exact ⟨_, _, cnt3, hrg3, (HHG.out.andThen (Exts.grown (by repeat (first | exact Exts.refl _ | apply Exts.andR | apply Exts.alloc | apply Exts.wext | apply Exts.drew | apply Exts.drewN))) (fun j hj => by cases hj)).andThen hturn.grown (fun j hj => by cases hj; exact Or.inr rfl), HM.out.struck p1' p2' HR.out⟩
        case measure => rw [hrg3.left_eq, hrg.left_eq]; omega
end Go.Proofs.Ytgeoompgakdbiaa

/- settle. -/
namespace Go.Proofs.Ytgeoompgakdbiaa
open Go.RowKit Go.Maps
set_option linter.unusedSimpArgs false
set_option linter.unusedVariables false
set_option maxRecDepth 100000
def settleD (M : Mod) (f : Int) (s : ByteArray) : Mod := { M with files := setF M.files f (s, s), queue := offF f M.queue }
theorem Good.settle {M : Mod} {c : Nat} (h : Good M c) {f : Int} {s : ByteArray} (hs : s.size ≤ maxFile) : Good (settleD M f s) c :=
  ⟨h.lost, h.armed, Nat.le_trans (offF_le f M.queue) h.count, fun p hp => h.secs p (List.mem_filter.1 hp).1, fun g => by
    unfold settleD setF
    simp only []
    split
    · exact ⟨hs, hs⟩
    · exact h.sizes g, h.keep, h.small⟩
set_option maxHeartbeats 1000000
theorem settle45 {w : World} {b c : Nat} {M : Mod} {O S : Nat → Prop} (hd : DiskAt w b M O S c) {f : Int} (hf0 : 0 ≤ f) (hf15 : f ≤ 15) {s : ByteArray} (hs : s.size ≤ maxFile) : Calls Try.prog 45 #[.pointer (some ⟨b, 0, none⟩), .int .i64 f, .string s] w fun e w' => e = .returned (.tuple #[]) ∧ After w b (settleD M f s) O S c w' := by
  have HD := Lib.hid hd
  obtain ⟨fm, sm, qv, kv, lb, cc, ff, o1, o2, o3, n1, n2, n3, hF, hS, hQ, ⟨ko, kc, rfl, hK⟩⟩ := hd.cells
  obtain ⟨qo, qc, rfl⟩ := owns_shape hQ
  have c0 := cc 0
  have c1 := cc 1
  have c2 := cc 2
  have c3 := cc 3
  have c4 := cc 4
  have c5 := cc 5
  have c6 := cc 6
  simp only [boxD, List.getElem?_toArray, List.getElem?_cons_zero, List.getElem?_cons_succ] at c0 c1 c2 c3 c4 c5 c6
  clear cc
  have hr := row_apart hQ (hd.box_of c0 c1 c2 c6) hF hS
  have HR := Lib.hid hr
  have hbox := Lib.hid (hd.box_of c0 c1 c2 c6)
  have hql : M.queue.length ≤ 1000000 := Nat.le_trans hd.good.count hd.good.small
  have hsl : sm < w.heap.size := hd.oLt sm o2
  have hfl : fm < w.heap.size := hd.oLt fm o1
  have HF := Lib.hid hF
  have HS := Lib.hid hS
  have HQ := Lib.hid hQ
  have HK := Lib.hid hK
  have hX1 : Exts w (w.alloc (.cells #[.int .i64 f] 3)).drew := (by repeat (first | exact Exts.refl _ | apply Exts.andR | apply Exts.alloc | apply Exts.wext | apply Exts.drew | apply Exts.drewN))
  have d0 := Exts.cell hX1 c0
  obtain ⟨W2, hup, hF2, ht2⟩ := (hF.touch (O := fun _ => False) (Touch.of_exts hX1) (fun h => h)).store hf0 hf15 (s, s)
  unfold fileV at hup
  have T1 : Touch (fun k => k = fm) w W2 := (Touch.of_exts hX1).then (Touch.of_grown ht2.grown (fun k hk => by cases hk; rfl))
  have g1 : W2.cell? ⟨b, 1, none⟩ = some (.slice qo M.queue.length qc) := T1.cell (fun e => n2 e.symm) c1
  have g2 : W2.cell? ⟨b, 2, none⟩ = some (.map (some sm)) := T1.cell (fun e => n2 e.symm) c2
  have g3 : W2.cell? ⟨w.heap.size, 0, none⟩ = some (.int .i64 f) := (Touch.of_grown (O := fun k => k = fm) ht2.grown (fun k hk => by cases hk; rfl)).cell (fun e => by simp only [] at e; omega) (by simp [go_sem])
  have HF2 := Lib.hid hF2
  have HT1 := Lib.hid T1
  have ff2 : W2.frozen? ⟨b, 1, none⟩ = false := (World.frozen?_of_block (T1.block b lb (fun e => n2 e.symm))).trans (ff 1)
  have lb2 : b < W2.heap.size := Nat.lt_of_lt_of_le lb T1.size
  have lf2 : w.heap.size < W2.heap.size := World.block_lt_of_cell? W2 _ g3
  have hQ2 := ownsRow_touch hQ T1 (fun g hg e => (hr g hg).2.2.1 e)
  clear hd hF hS hQ hK hr hF2 T1 hX1 ht2
  go_enter Try.func45, Try.ntmps45
  go_wp2
  go_region
  all_goals
    (try go_frame)
    clear hup
    go_wp2_with (first | (go_at_call 56; ((with_reducible refine (delete56 hQ2 g3 (fun k hk e => by have := (HR.out k hk).2.2.2; omega) hql).mono ?_); rintro e w3 ⟨rfl, hQ3, T2⟩; (have hb3 := T2.cell (fun e => (HR.out _ e).1 rfl) g1); (have hm3 := T2.cell (fun e => (HR.out _ e).1 rfl) g2); (have hf3 := T2.cell (fun e => (Nat.lt_irrefl _ ((HR.out _ e).2.2.2))) g3); (have ff3 : w3.frozen? ⟨b, 1, none⟩ = false := (World.frozen?_of_block (T2.block b lb2 (fun e => (HR.out _ e).1 rfl))).trans ff2); (have hS4 := ((HS.out.touch HT1.out (fun e => n1 e.symm)).touch T2 (fun e => (HR.out _ e).2.1 rfl)).touch (O := fun k => k = b) (Touch.setCell w3 ⟨b, 1, none⟩ (.slice qo (offF f M.queue).length qc) rfl) n3); (have hf4 := (World.cell?_setCell_far w3 ⟨b, 1, none⟩ ⟨w.heap.size, 0, none⟩ (.slice qo (offF f M.queue).length qc) (by simp only []; omega)).trans hf3); (have HQ3 := Lib.hid hQ3); (have HT2 := Lib.hid T2); (have HF3 := Lib.hid hf3); clear hQ3 T2)) | (go_at_call 58; ((with_reducible refine (delete58 hS4 hf4 (by omega)).mono ?_); rintro e w5 ⟨rfl, hS5, hg5⟩)))
    go_end0
    have T3 : Touch (fun k => k = b) w3 _ := Touch.setCell w3 ⟨b, 1, none⟩ (.slice qo (offF f M.queue).length qc) rfl
    have T4 := Touch.of_grown (O := fun k => k = sm) hg5 (fun k hk => by cases hk; rfl)
    have hr := HR.out
    have tO : Touch O w w5 := (((HT1.out.mono (fun k hk => hk ▸ o1)).then (HT2.out.mono (fun k hk => o3 k hk))).then (T3.mono (fun k hk => hk ▸ HD.out.own))).then (T4.mono (fun k hk => hk ▸ o2))
    have hlen : (settleD M f s).queue.length = (offF f M.queue).length := rfl
    refine ⟨rfl, _, _, HD.out.remake tO.size fm sm (.slice qo (offF f M.queue).length qc) (.slice ko M.keep.length kc) ?_ (Or.inl o1) (Or.inl o2) (fun g hg => Or.inl (o3 g (by cases qo <;> exact hg))) n1 ?_ hS5 ?_ ⟨ko, kc, rfl, HK.out.touch tO (fun k hk => HD.out.apart k hk)⟩ (HD.out.good.settle hs), fun k hk => hk.imp (fun h => h) (fun h => h.1), fun _ => Or.inl, tO⟩
    · have h3 : w3.heap[b]? = _ := (HT2.out.block b lb2 (fun e => (hr _ e).1 rfl)).trans ((HT1.out.block b lb (fun e => n2 e.symm)).trans hbox.out)
      have h4 := heap_setCell_at w3 b 1 (.slice qo (offF f M.queue).length qc) h3
      exact (T4.block b (by rw [heap_setCell_size]; exact Nat.lt_of_lt_of_le lb2 HT2.out.size) (fun e => n3 e.symm)).trans h4
    · exact ((HF2.out.touch HT2.out (fun e => (hr _ e).2.2.1 rfl)).touch T3 n2).touch T4 n1
    · exact ownsRow_touch (ownsRow_touch HQ3.out T3 (fun k hk e => (hr k (by cases qo <;> exact hk)).1 e)) T4 (fun k hk e => (hr k (by cases qo <;> exact hk)).2.1 e)
end Go.Proofs.Ytgeoompgakdbiaa

/- What a crash does. No program in sight but the types. -/
namespace Go.Proofs.Ytgeoompgakdbiaa
open Go.RowKit Go.Maps
set_option linter.unusedSimpArgs false
set_option linter.unusedVariables false
set_option maxRecDepth 100000
/-- A number's last bit is set. -/
def oddB (v : Int) : Bool := !(bits BinOp.and .i64 v 1 == 0)
/-- The bytes of a file's sector. -/
def sectB (s : ByteArray) (n : Nat) : ByteArray := s.extract (n * 64) (min (n * 64 + 64) s.size)
/-- One pending sector, as it survives or not. -/
def sur (kl : List Int) (F : Int → FileB) (i : Nat) (p : Sec) : Int → FileB :=
  if kl.length = 0 then F else if oddB (kl.getD (i % kl.length) 0) = false then F else if (F p.1).1.size ≤ p.2.toNat * 64 then F
  else setF F p.1 ((F p.1).1, putB (F p.1).2 (p.2.toNat * 64) (sectB (F p.1).1 p.2.toNat))
def surK (kl : List Int) (F : Int → FileB) (Q : List Sec) : Nat → (Int → FileB)
  | 0 => F
  | k + 1 => match Q[k]? with
    | some p => sur kl (surK kl F Q k) k p
    | none => surK kl F Q k
def fallF (F : Int → FileB) : Int → FileB := fun g => ((F g).2, (F g).2)
def crashD (M : Mod) (kl : List Int) : Mod := if M.down = true then M else { M with files := fallF (surK kl M.files M.queue M.queue.length), queue := [], down := true, armed := 0 }
theorem surK_step {kl : List Int} {F : Int → FileB} {Q : List Sec} {k : Nat} {p : Sec} (h : Q[k]? = some p) : surK kl F Q (k + 1) = sur kl (surK kl F Q k) k p := by
  simp only [surK, h]
def FitF (F : Int → FileB) : Prop := ∀ f, (F f).1.size ≤ maxFile ∧ (F f).2.size ≤ maxFile
theorem sectB_size {s : ByteArray} {n : Nat} (h : n * 64 < s.size) : n * 64 + (sectB s n).size ≤ s.size ∧ 0 < (sectB s n).size := by
  unfold sectB
  simp only [ByteArray.size_extract]
  omega
theorem sur_fit {kl : List Int} {F : Int → FileB} {i : Nat} {p : Sec} (h : FitF F) : FitF (sur kl F i p) := by
  unfold sur
  split
  · exact h
  · split
    · exact h
    · split
      · exact h
      · rename_i h3
        intro f
        unfold setF
        split
        · refine ⟨(h p.1).1, ?_⟩
          rw [putB_size]
          have := (sectB_size (s := (F p.1).1) (n := p.2.toNat) (by omega)).1
          have h1 := (h p.1).1
          have h2 := (h p.1).2
          split
          · exact h2
          · exact Nat.max_le.2 ⟨h2, by omega⟩
        · exact h f
theorem surK_fit {kl : List Int} {F : Int → FileB} {Q : List Sec} (h : FitF F) : ∀ k, FitF (surK kl F Q k)
  | 0 => h
  | k + 1 => by
    unfold surK
    split
    · exact sur_fit (surK_fit h k)
    · exact surK_fit h k
theorem Good.crash {M : Mod} {c : Nat} (h : Good M c) (kl : List Int) : Good { M with files := fallF (surK kl M.files M.queue M.queue.length), queue := [], down := true, armed := 0 } c :=
  ⟨h.lost, by simp only []; omega, Nat.zero_le _, fun p hp => by simp at hp, fun f => ⟨(surK_fit h.sizes _ f).2, (surK_fit h.sizes _ f).2⟩, h.keep, h.small⟩
/-- What the map of the files says while each becomes what is durable of it. -/
structure MidF (F : Int → FileB) (D0 D : DataW Unit) (left : Lit → Bool) : Prop where
  sub : ∀ kl, left kl = true → Maps.has D0 kl = true
  has : ∀ kl, Maps.has D kl = Maps.has D0 kl
  at' : ∀ g : Int, D.atKey (.int .i64 g) (fileD nof) = fileD (if (Maps.has D0 (.int .i64 g) && !left (.int .i64 g)) = true then fallF F g else F g)
theorem MidF.start {F : Int → FileB} {D : DataW Unit} (h : ∀ f : Int, D.atKey (.int .i64 f) (fileD nof) = fileD (F f)) : MidF F D D (Maps.has D) :=
  ⟨fun _ h => h, fun _ => rfl, fun g => by
    rw [h g]
    cases Maps.has D (Lit.int IntKind.i64 g) <;> simp⟩
theorem MidF.step {F : Int → FileB} {D0 D : DataW Unit} {left : Lit → Bool} (h : MidF F D0 D left) (hD : Maps.IsMap D) {x : Int} (hx : left (.int .i64 x) = true) : MidF F D0 (D.put (.int .i64 x) (fileD (fallF F x))) (fun z => left z && !z.sameKey (.int .i64 x)) := by
  have hk : WideAt.IsKeyLit (.int .i64 x) := trivial
  refine ⟨fun kl hkl => h.sub kl (by simp at hkl; exact hkl.1), fun kl => ?_, fun g => ?_⟩
  · by_cases e : kl = .int .i64 x
    · subst e
      rw [has_put_same hD hk, h.sub _ hx]
    · rw [has_put_other e, h.has]
  · by_cases e : g = x
    · subst e
      rw [atKey_put_same hD hk, h.sub _ hx, WideAt.sameKey_self hk]
      simp
    · have hne : Lit.int .i64 g ≠ .int .i64 x := by intro e'; cases e'; exact e rfl
      have hs : (Lit.int .i64 g).sameKey (.int .i64 x) = false := by
        cases hs : (Lit.int .i64 g).sameKey (.int .i64 x) with
        | true => exact absurd (WideAt.sameKey_eq hs) hne
        | false => rfl
      rw [atKey_put_other hne, h.at', hs]
      simp
theorem MidF.finish {F : Int → FileB} {D0 D : DataW Unit} {left : Lit → Bool} (h : MidF F D0 D left) (h0 : ∀ f : Int, D0.atKey (.int .i64 f) (fileD nof) = fileD (F f)) (hl : ∀ kl, left kl = false) (g : Int) : D.atKey (.int .i64 g) (fileD nof) = fileD (fallF F g) := by
  rw [h.at', hl]
  cases hh : Maps.has D0 (.int .i64 g) with
  | true => simp
  | false =>
    have := h0 g
    rw [atKey_of_not_has hh] at this
    have e := fileD_inj this
    simp only [Bool.false_and]
    rw [if_neg (by simp)]
    unfold fallF
    rw [← e]
    rfl
theorem MidF.came {F : Int → FileB} {D0 D : DataW Unit} {left : Lit → Bool} (h : MidF F D0 D left) {x : Int} (hx : left (.int .i64 x) = true) : D.atKey (.int .i64 x) (fileD nof) = fileD (F x) := by
  rw [h.at', hx]
  simp
end Go.Proofs.Ytgeoompgakdbiaa
