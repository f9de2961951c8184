/- Lemmas that the laws of this seat share, 4 texts in one: RefPut, RefPut2, RefA, RefAdd. No condition of their own. -/
import Derived.Test.YtgeoompgakdbiaaM10
import Derived.Lib.ConvBytes
import Derived.Laws.IdiomCopy
import Derived.Test.YtgeoompgakdbiaaM12
/- The reference's Put. Conditions: at most 2^24 bytes. -/
namespace Go.Proofs.Ytgeoompgakdbiaa
open Go.RowKit Go.Maps
set_option linter.unusedSimpArgs false
set_option linter.unusedVariables false
set_option maxRecDepth 100000
/-- A slice of bytes in a block that is new since the heap was H long; the block may be marked as one that a string was turned into. -/
def BytesAt (H : Nat) (W : World) (g n cap : Nat) (l : List UInt8) : Prop :=
  l.length = n ∧ H ≤ g ∧ n ≤ cap ∧ cap ≤ maxLen ∧ ∃ cur fr, W.heap[g]? = some (.cells cur 5 fr) ∧ cur.size = cap ∧ cur.toList.take n = (byteC l).toList ∧ (fr = (0, 0) ∨ fr = (cap, cap + 1))
theorem byteC_get {l : List UInt8} {j : Nat} (h : j < l.length) : (byteC l).toList[j]? = some (.int .u8 ((l.getD j 0).toNat : Int)) := by
  unfold byteC
  simp [List.getElem?_map, h, List.getD]
section
variable {H : Nat} {W : World} {g n cap : Nat} {l : List UInt8} (h : BytesAt H W g n cap l)
include h
theorem BytesAt.lt : g < W.heap.size := by
  obtain ⟨_, _, _, _, cur, fr, hg, _⟩ := h
  exact (Array.getElem?_eq_some_iff.1 hg).1
theorem BytesAt.cell {j : Nat} (hj : j < n) : W.cell? ⟨g, j, none⟩ = some (.int .u8 ((l.getD j 0).toNat : Int)) := by
  obtain ⟨h1, h2, h3, h4, cur, fr, hg, h5, h6, h7⟩ := h
  have := byteC_get (l := l) (j := j) (by omega)
  rw [← h6, List.getElem?_take, if_pos hj] at this
  simp only [World.cell?, hg]
  simpa using this
theorem BytesAt.free {j : Nat} (hj : j < cap) : W.frozen? ⟨g, j, none⟩ = false := by
  obtain ⟨h1, h2, h3, h4, cur, fr, hg, h5, h6, h7⟩ := h
  simp only [World.frozen?, hg]
  rcases h7 with rfl | rfl
  · simp
  · simp; omega
theorem BytesAt.exts {W' : World} (hx : Exts W W') : BytesAt H W' g n cap l := by
  have hlt := h.lt
  obtain ⟨h1, h2, h3, h4, cur, fr, hg, h5, h6, h7⟩ := h
  exact ⟨h1, h2, h3, h4, cur, fr, (hx.below.block g hlt).trans hg, h5, h6, h7⟩
theorem BytesAt.set {j : Nat} (hj : j < n) (x : UInt8) : BytesAt H (W.setCell ⟨g, j, none⟩ (.int .u8 (x.toNat : Int))) g n cap (l.set j x) := by
  obtain ⟨h1, h2, h3, h4, cur, fr, hg, h5, h6, h7⟩ := h
  refine ⟨by simpa using h1, h2, h3, h4, _, fr, heap_setCell_at W g j _ hg, by simpa using h5, ?_, h7⟩
  have : (byteC (l.set j x)).toList = (byteC l).toList.set j (.int .u8 (x.toNat : Int)) := by
    unfold byteC
    simp [List.map_set]
  rw [this, ← h6, Array.toList_setIfInBounds, List.take_set]
theorem BytesAt.push {x : UInt8} (hn : n < cap) : BytesAt H (W.setCell ⟨g, n, none⟩ (.int .u8 (x.toNat : Int))) g (n + 1) cap (l ++ [x]) := by
  obtain ⟨h1, h2, h3, h4, cur, fr, hg, h5, h6, h7⟩ := h
  refine ⟨by simp [h1], h2, hn, h4, _, fr, heap_setCell_at W g n _ hg, by simpa using h5, ?_, h7⟩
  have : (byteC (l ++ [x])).toList = (byteC l).toList ++ [.int .u8 (x.toNat : Int)] := by
    unfold byteC
    simp
  rw [this, ← h6, Array.toList_setIfInBounds]
  apply List.ext_getElem?
  intro i
  have hl : cur.toList.length = cap := by simpa using h5
  rw [List.getElem?_take, List.getElem?_set]
  by_cases hi : i < n
  · rw [if_pos (by omega), if_neg (by omega), List.getElem?_append_left (by simp; omega), List.getElem?_take, if_pos hi]
  · rw [List.getElem?_append_right (by simp; omega), List.length_take, hl, Nat.min_eq_left (by omega)]
    by_cases hi2 : i = n
    · subst hi2
      rw [if_pos (by omega), if_pos rfl, if_pos (by omega)]
      simp
    · rw [if_neg (by omega), List.getElem?_eq_none (by simp; omega)]
theorem BytesAt.string : (convert 85 9 (.slice (some ⟨g, 0, none⟩) n cap)).run Try.prog W = .ok (.string ⟨l.toArray⟩) W := by
  have h1 := h.1
  subst h1
  refine run_convert_bytes_back W 85 9 5 ⟨g, 0, none⟩ cap l Try.underlying85 Try.underlying5 Try.underlying9 fun j hj => ?_
  have hadd : (⟨g, 0, none⟩ : Addr).add j = ⟨g, 0 + j, none⟩ := by unfold Addr.add; split <;> simp_all
  rw [hadd, Nat.zero_add, h.cell hj]
  simp [List.getD, hj]
end
theorem bytes_of_string (w : World) (s : ByteArray) (hs : s.size ≤ 100000000) : ∃ cap W, (convert 9 85 (.string s)).run Try.prog w = .ok (.slice (some ⟨w.heap.size, 0, none⟩) s.size cap) W ∧ Exts w W ∧ BytesAt w.heap.size W w.heap.size s.size cap s.data.toList := by
  refine ⟨_, _, Go.Lib.run_convert_string_bytes w 9 85 5 s Try.underlying9 Try.underlying85 Try.underlying5, ?_, ?_⟩
  · exact exts_of_grown (row := none) (Exts.refl w) ⟨rfl, rfl, rfl, by rw [Go.Lib.bytesWorld_size]; omega, fun k hk _ => Go.Lib.bytesWorld_at_old w 5 s k hk⟩ (fun b hb => by cases hb)
  · have hge := grownCap_ge w s.size 0 5
    have hle := grownCap_le_maxLen w s.size 0 5 (by unfold maxLen; omega)
    have hsz : (Go.Lib.bytesCells w 5 s).size = grownCap w s.size 0 5 := by
      unfold Go.Lib.bytesCells
      have : s.data.size = s.size := rfl
      simp [this]
      omega
    have hn := Go.Lib.bytesWorld_at_new w 5 s
    rw [hsz] at hn
    refine ⟨ba_len s, Nat.le_refl _, hge, hle, _, _, hn, hsz, ?_, Or.inr rfl⟩
    unfold Go.Lib.bytesCells byteC
    have hm : (s.data.map fun b => Value.int .u8 (b.toNat : Int)).toList.length = s.size := by rw [Array.length_toList, Array.size_map]; rfl
    rw [Array.toList_append, List.take_append_of_le_length (Nat.le_of_eq hm.symm), List.take_of_length_le (Nat.le_of_eq hm)]
    simp
theorem info5 : (Try.prog.info? 5).map (fun i => (i.zero, i.size, i.bytes)) = some (some (.int .u8 0), 1, 1) := by kernel_rfl
theorem run_append_byte {H : Nat} {W : World} {g n cap : Nat} {l : List UInt8} (h : BytesAt H W g n cap l) (hH : H ≤ W.heap.size) (hn : n ≤ 100000000) (ty : TypeId) (a c : Nat) (x : UInt8) (ha : W.cell? ⟨a, 0, none⟩ = some (.int .u8 (x.toNat : Int))) :
    ∃ g' cap' W', (Builtin.append_ #[85, 85] ty #[.slice (some ⟨g, 0, none⟩) n cap, .slice (some ⟨a, 0, none⟩) 1 c]).run Try.prog W = .ok (.slice (some ⟨g', 0, none⟩) (n + 1) cap') W' ∧ BytesAt H W' g' (n + 1) cap' (l ++ [x]) ∧ Touch (fun k => k = g) W W' := by
  obtain ⟨i, hi, hz0, hz1, hz2⟩ := info_parts info5
  have hnews : ∀ j v, ([.int .u8 (x.toNat : Int)] : List Value)[j]? = some v → W.cell? ((⟨a, 0, none⟩ : Addr).add j) = some v := fun j v hj => by
    match j, hj with
    | 0, hj =>
      simp at hj
      subst hj
      exact ha
  by_cases hr : n + 1 ≤ cap
  · have hf := run_firstCells_some (P := Try.prog) W 1 1 ⟨a, 0, none⟩ 1 c [.int .u8 (x.toNat : Int)] rfl hnews
    have hst := run_storeCells_cells (P := Try.prog) g n [.int .u8 (x.toNat : Int)] 0 W (fun j hj => by
        obtain ⟨h1, h2, h3, h4, cur, fr, hg, h5, h6, h7⟩ := h
        have : j = 0 := by simpa using hj
        subst this
        simp only [World.cell?, hg]
        simp
        omega) (fun j hj => by
        have : j = 0 := by simpa using hj
        subst this
        exact h.free (by omega)) (fun v hv => by simp at hv; subst hv; rfl)
    refine ⟨g, cap, _, ?_, h.push (by omega), Touch.setCell _ _ _ rfl⟩
    simp [Builtin.append_, run_underlying Try.underlying85, sizeOf, typeInfo, hi, hz1, Builtin.lenOf, hr, hf, Addr.add_lit]
    have hst' : (storeCells ⟨g, n, none⟩ [.int .u8 (x.toNat : Int)] 0).run Try.prog W = .ok () (W.setCell ⟨g, n, none⟩ (.int .u8 (x.toNat : Int))) := hst
    simp [hst']
  · have hc : n = cap := by have := h.2.2.1; omega
    subst hc
    have hrun := run_append_grow (P := Try.prog) W 85 ty 5 i (.int .u8 0) Try.underlying85 hi hz0 ⟨g, 0, none⟩ n n (byteC l).toList (by rw [hz1, Array.length_toList, byteC_size, h.1]; omega) (fun j v hj => by
        have hadd : (⟨g, 0, none⟩ : Addr).add j = ⟨g, 0 + j, none⟩ := by unfold Addr.add; split <;> simp_all
        have hjl : j < l.length := by
          have := (List.getElem?_eq_some_iff.1 hj).1
          rw [Array.length_toList, byteC_size] at this
          exact this
        rw [byteC_get hjl] at hj
        cases hj
        rw [hadd, Nat.zero_add]
        exact h.cell (by have := h.1; omega)) ⟨a, 0, none⟩ 1 c [.int .u8 (x.toNat : Int)] (by rw [hz1]; rfl) hnews (by omega) (by omega) (by
        have := growslice_fits_succ (old := n) (bytes := i.bytes) (by rw [hz2]; omega) (by rw [hz2]; decide)
        exact this)
    have hge := grownCap_ge W (n + 1) n 5
    have hle := grownCap_le_maxLen W (n + 1) n 5 (by unfold maxLen; omega)
    refine ⟨_, _, _, hrun, ⟨by simp [h.1], by exact hH, hge, hle, _, (0, 0), heap_alloc_new W.drew _, ?_, ?_, Or.inl rfl⟩, ?_⟩
    · have := h.1
      simp only [Array.size_append, List.size_toArray, size_zeroCells, Array.length_toList, byteC_size, List.length_singleton, Value.cells]
      rw [this]
      simp
      omega
    · have hb : (byteC (l ++ [x])).toList = (byteC l).toList ++ [.int .u8 (x.toNat : Int)] := by
        unfold byteC
        simp
      rw [hb]
      have hl1 : ((byteC l).toList ++ [Value.int .u8 (x.toNat : Int)]).length = n + 1 := by
        rw [List.length_append, Array.length_toList, byteC_size, h.1]
        rfl
      simp only [Array.toList_append, List.append_assoc]
      rw [← List.append_assoc, ← hl1]
      exact List.take_left
    · exact Touch.of_exts (by repeat (first | exact Exts.refl _ | apply Exts.andR | apply Exts.alloc | apply Exts.wext | apply Exts.drew | apply Exts.drewN))
theorem wpList_append_byte {ops : Array Oper} {rest : List Oper} {o : Oper} {a : Act} {Q : Exit → Act → World → Prop} {W : World} (hgd : o.guard = none) (s x : Operand)
    (ho : o.op = .call { callee := .builtin .append, args := #[s, x], argTypes := #[85, 85] }) {H g n cap : Nat} {l : List UInt8} (hs : a.eval s = .slice (some ⟨g, 0, none⟩) n cap) (h : BytesAt H W g n cap l) (hH : H ≤ W.heap.size) (hn : n ≤ 100000000)
    (b c : Nat) (u : UInt8) (hx : a.eval x = .slice (some ⟨b, 0, none⟩) 1 c) (hb : W.cell? ⟨b, 0, none⟩ = some (.int .u8 (u.toNat : Int)))
    (hk : ∀ g' cap' W', BytesAt H W' g' (n + 1) cap' (l ++ [u]) → Touch (fun k => k = g) W W' → wpList Try.prog ops Q rest (a.put o.dst (.slice (some ⟨g', 0, none⟩) (n + 1) cap')) W') : wpList Try.prog ops Q (o :: rest) a W :=
  wpList_plain hgd fun _ hK => by
    obtain ⟨g', cap', W', hr, h2, h3⟩ := run_append_byte h hH hn o.type b c u hb
    unfold Oper.wp execOp
    simp only [ho, resolve, invoke, builtin, Sem.run_bind, Sem.run_pure, Result.andThen_ok, List.map_toArray, List.map_cons, List.map_nil, hs, hx, hr]
    exact hK _ _ (hk g' cap' W' h2 h3)
end Go.Proofs.Ytgeoompgakdbiaa

/- The reference's Put: the walk. Conditions: at most 2^24 bytes. -/
namespace Go.Proofs.Ytgeoompgakdbiaa
open Go.RowKit Go.Maps
set_option linter.unusedSimpArgs false
set_option linter.unusedVariables false
set_option maxRecDepth 100000
theorem exts_touch {w W W' : World} {O : Nat → Prop} (hx : Exts w W) (ht : Touch O W W') (hO : ∀ k, O k → w.heap.size ≤ k) : Exts w W' := ((Touch.of_exts (O := O) hx).then ht).toExts hO
theorem idx_bn {s : ByteArray} {i : Nat} (h : i < s.size) : s[i] = bn s i := by
  unfold bn
  rw [Array.getElem?_toList, Array.getElem?_eq_getElem (by simpa using h)]
  rfl
theorem getD_push (l : List UInt8) (j : Nat) : (l ++ [0]).getD j 0 = l.getD j 0 := by
  rw [List.getD_eq_getElem?_getD, List.getD_eq_getElem?_getD]
  by_cases h : j < l.length
  · rw [List.getElem?_append_left h]
  · rw [List.getElem?_append_right (by omega), List.getElem?_eq_none (l := l) (by omega)]
    cases hj : j - l.length with
    | zero => rfl
    | succ i => rfl
theorem getD_set (l : List UInt8) (i : Nat) (x : UInt8) (j : Nat) (h : i < l.length) : (l.set i x).getD j 0 = if j = i then x else l.getD j 0 := by
  rw [List.getD_eq_getElem?_getD, List.getD_eq_getElem?_getD, List.getElem?_set]
  by_cases e : i = j
  · subst e
    rw [if_pos rfl, if_pos rfl, if_pos h]
    rfl
  · rw [if_neg e, if_neg (fun h => e h.symm)]
def lenV : Value → Nat
  | .slice _ n _ => n
  | _ => 0
theorem bn_list (l : List UInt8) (j : Nat) : bn ⟨l.toArray⟩ j = l.getD j 0 := by
  unfold bn
  simp [List.getD]
theorem put_of {s t : ByteArray} {a n : Nat} {l : List UInt8} (hl : l.length = n) (hn : n = max s.size (a + t.size)) (ht : t.size ≠ 0) (h : ∀ j, l.getD j 0 = if a ≤ j ∧ j < a + t.size then bn t (j - a) else bn s j) : (⟨l.toArray⟩ : ByteArray) = putB s a t := by
  apply bn_ext
  · rw [putB_size, if_neg ht]
    show l.toArray.size = _
    rw [List.size_toArray]
    omega
  · intro j _
    rw [bn_list, bn_put, h]
set_option maxHeartbeats 2000000
theorem refPut61 (s t : ByteArray) (a : Nat) (w : World) (hs : s.size ≤ maxFile) (hat : a + t.size ≤ maxFile) :
    Calls Try.prog 61 #[.string s, .int .i64 a, .string t] w fun e w' => e = .returned (.string (putB s a t)) ∧ Exts w w' := by
  unfold maxFile at hs hat
  by_cases h0 : t.size = 0
  · have hb : putB s a t = s := by
      apply bn_ext
      · rw [putB_size, if_pos h0]
      · intro j _
        rw [bn_put, if_neg (by omega)]
    have q0 : (t.size == 0) = true := by simpa using h0
    have q1 := empty_of q0
    rw [hb]
    clear h0 hb
    go_enter Try.func61, Try.ntmps61
    go_wp2
    go_ret
    exact ⟨rfl, Exts.refl _⟩
  · have q0 : (t.size == 0) = false := by simpa using h0
    have q1 := empty_of q0
    obtain ⟨cap0, W0, hconv, hx0, hB0⟩ := bytes_of_string w s (by omega)
    have HB0 := Lib.hid hB0
    have HX0 := Lib.hid hx0
    clear hB0 hx0
    go_enter Try.func61, Try.ntmps61
    go_wp2
    go_loopw [7] (fun bv wr => ∃ (n g cap : Nat) (l : List UInt8), bv = .slice (some ⟨g, 0, none⟩) n cap ∧ Exts w wr ∧ BytesAt w.heap.size wr g n cap l ∧ s.size ≤ n ∧ (n ≤ a + t.size ∨ n = s.size) ∧ ∀ j, l.getD j 0 = bn s j) (fun bv _ => a + t.size + 1 - lenV bv)
    case atStart => exact ⟨s.size, w.heap.size, cap0, s.data.toList, rfl, HX0.out, HB0.out, Nat.le_refl _, Or.inr rfl, fun j => rfl⟩
    case round =>
      obtain ⟨n, g, cap, l, rfl, hx, hB, hn1, hn2, hl⟩ := hrel
      have HX := Lib.hid hx
      have HB := Lib.hid hB
      have HL := Lib.hid hl
      have hsz := hx.below.size
      by_cases hlt : n < a + t.size
      · have y1 : decide ((n : Int) < (a : Int) + (t.size : Int)) = true := by simp; omega
        clear hx hB hl
        go_wp2_with (at_builtin; refine wpList_append_byte rfl (.tmp 21) (.tmp 22) rfl (H := w.heap.size) (l := l) rfl (HB.out.exts (by repeat (first | exact Exts.refl _ | apply Exts.andR | apply Exts.alloc | apply Exts.wext | apply Exts.drew | apply Exts.drewN))) (by simp; omega) (by omega) wr.heap.size 1 0 rfl (by simp [go_sem]) ?_; intro g' cap' w2 hB2 hT2)
        refine ⟨⟨n + 1, g', cap', _, rfl, exts_touch (HX.out.trans (by repeat (first | exact Exts.refl _ | apply Exts.andR | apply Exts.alloc | apply Exts.wext | apply Exts.drew | apply Exts.drewN))) hT2 (fun k hk => by have := HB.out.2.1; omega), hB2, by omega, Or.inl (by omega), fun j => by rw [getD_push]; exact HL.out j⟩, by simp [lenV]; omega⟩
      · have y1 : decide ((n : Int) < (a : Int) + (t.size : Int)) = false := by simp; omega
        clear hx hB hl
        go_wp2
        go_loopw [8] (fun si wr' => ∃ (k : Nat) (l : List UInt8), si = .int .i64 k ∧ k ≤ t.size ∧ Exts w wr' ∧ BytesAt w.heap.size wr' g n cap l ∧ ∀ j, l.getD j 0 = if a ≤ j ∧ j < a + k then bn t (j - a) else bn s j) (fun si _ => t.size - (intOf si).toNat)
        case atStart => exact ⟨0, l, rfl, Nat.zero_le _, HX.out, HB.out, fun j => by rw [if_neg (by omega)]; exact HL.out j⟩
        case round =>
          obtain ⟨k, l', rfl, hk, hx, hB, hl⟩ := hrel
          have HX2 := Lib.hid hx
          have HB2 := Lib.hid hB
          have HL2 := Lib.hid hl
          by_cases hkt : k < t.size
          · have hcell := hB.cell (j := a + k) (by omega)
            have hfree := hB.free (j := a + k) (by have := hB.2.2.1; omega)
            have hlt2 := hB.lt
            clear hx hB hl
            go_wp2
            refine ⟨⟨k + 1, l'.set (a + k) t[k], by go_num, by omega, exts_touch HX2.out (Touch.setCell (O := fun j => j = g) _ _ _ rfl) (fun j hj => by have := HB2.out.2.1; omega), HB2.out.set (by omega) t[k], fun j => ?_⟩, by simp [intOf]; omega⟩
            rw [getD_set _ _ _ _ (by have := HB2.out.1; omega), HL2.out j, idx_bn hkt]
            by_cases e : j = a + k
            · subst e
              rw [if_pos rfl, if_pos (by omega)]
              congr 1
              omega
            · rw [if_neg e]
              by_cases e2 : a ≤ j ∧ j < a + k
              · rw [if_pos e2, if_pos (by omega)]
              · rw [if_neg e2, if_neg (by omega)]
          · obtain rfl : k = t.size := by omega
            have hstr := hB.string
            rw [put_of hB.1 (by omega) h0 hl] at hstr
            clear hx hB hl
            go_wp2
            go_ret
            exact ⟨rfl, HX2.out⟩
end Go.Proofs.Ytgeoompgakdbiaa

/- The reference: pending, add. -/
namespace Go.Proofs.Ytgeoompgakdbiaa
open Go.RowKit Go.Maps
set_option linter.unusedSimpArgs false
set_option linter.unusedVariables false
set_option maxRecDepth 100000
theorem secs_at {S : Nat → Prop} {w : World} {qo : Option Addr} {n qc : Nat} {Q : List Sec} (h : RowF S 2 w (.slice qo n qc) n (secsC Q)) (hn : Q.length = n) {i : Nat} {p : Sec} (hp : Q[i]? = some p) : ∃ g off, qo = some ⟨g, off, none⟩ ∧ S g ∧ g < w.heap.size ∧ w.cell? ⟨g, off + i * 2, none⟩ = some (.int .i64 p.1) ∧ w.cell? ⟨g, off + i * 2 + 1, none⟩ = some (.int .i64 p.2) := by
  have hi := (List.getElem?_eq_some_iff.1 hp).1
  obtain ⟨g, off, h1, h2, h3, h4⟩ := h.place (by omega)
  obtain ⟨q1, q2⟩ := secsC_get Q i p hp
  exact ⟨g, off, h1, h2, h3, h4 _ _ q1, by rw [Nat.add_assoc]; exact h4 _ _ q2⟩
set_option maxHeartbeats 1000000
theorem pending62 {w : World} {b c : Nat} {M : Mod} {O S : Nat → Prop} (hd : RefAt w b M O S c) (f n : Int) : Calls Try.prog 62 #[.pointer (some ⟨b, 0, none⟩), .int .i64 f, .int .i64 n] w fun e w' => e = .returned (.bool (M.queue.contains (f, n))) ∧ w = w' := by
  have hcnt := hd.good.count
  have hsml := hd.good.small
  obtain ⟨fv, qv, kv, L, hbox, lb, cc, ff, o1, o2, o12, hF, hQ, ⟨ko, kc, rfl, hK⟩, hL⟩ := hd.cells
  obtain ⟨fo, fc, rfl⟩ := owns_shape hF
  obtain ⟨qo, qc, rfl⟩ := owns_shape hQ
  have c0 := cc 0
  have c1 := cc 1
  have c2 := cc 2
  have c3 := cc 3
  have c4 := cc 4
  have c5 := cc 5
  simp only [boxR, List.getElem?_toArray, List.getElem?_cons_zero, List.getElem?_cons_succ] at c0 c1 c2 c3 c4 c5
  clear cc
  obtain ⟨m, hm⟩ : ∃ n, M.queue.length = n := ⟨_, rfl⟩
  have HR := Lib.hid (RowF.of_owns hQ)
  rw [hm] at HR c1 hcnt
  have HN := Lib.hid hm
  clear hF hQ hK hL hd hbox hm
  go_enter Try.func62, Try.ntmps62
  go_wp2
  go_loopw [7] (fun si wr => ∃ k : Nat, si = .int .i64 k ∧ k ≤ m ∧ w = wr ∧ (M.queue.take k).contains (f, n) = false) (fun si _ => m - (intOf si).toNat)
  case atStart => exact ⟨0, rfl, Nat.zero_le _, rfl, rfl⟩
  case round =>
    obtain ⟨k, rfl, hk, rfl, hall⟩ := hrel
    have HALL := Lib.hid hall
    clear hall
    by_cases hlt : k < m
    · obtain ⟨p, hp⟩ : ∃ p, M.queue[k]? = some p := ⟨_, List.getElem?_eq_getElem (by rw [HN.out]; exact hlt)⟩
      obtain ⟨g, off, rfl, _, lg, e0, e1⟩ := secs_at HR.out HN.out hp
      have hnext : (p.1 == f) = false ∨ (p.2 == n) = false → (M.queue.take (k + 1)).contains (f, n) = false := fun h => by
        have hne : ¬ (f, n) = p := by
          rintro rfl
          simp at h
        rw [List.take_add_one, hp]
        have := HALL.out
        simp only [List.contains_eq_mem, List.mem_append, decide_eq_false_iff_not] at this ⊢
        rintro (h1 | h1)
        · exact this h1
        · exact hne (by simpa using h1)
      have hhit : p.1 = f → p.2 = n → M.queue.contains (f, n) = true := fun h1 h2 => by
        have : (f, n) = p := by rw [← h1, ← h2]
        rw [this]
        simp only [List.contains_eq_mem, decide_eq_true_eq]
        exact List.mem_of_getElem? hp
      obtain ⟨pf, pn⟩ := p
      simp only at e0 e1 hnext hhit
      have HX := Lib.hid hnext
      have HH := Lib.hid hhit
      clear hnext hhit hp
      by_cases h1 : pf = f
      · have q1 : (pf == f) = true := by simpa using h1
        by_cases h2 : pn = n
        · have q2 : (pn == n) = true := by simpa using h2
          have HF := Lib.hid (HH.out h1 h2)
          clear h1 h2
          go_wp2
          go_ret
          exact ⟨by rw [HF.out]; rfl, rfl⟩
        · have q2 : (pn == n) = false := by simpa using h2
          clear h1 h2
          go_wp2
          exact ⟨⟨k + 1, by go_num, by omega, trivial, HX.out (Or.inr q2)⟩, by simp [intOf]; omega⟩
      · have q1 : (pf == f) = false := by simpa using h1
        clear h1
        go_wp2
        exact ⟨⟨k + 1, by go_num, by omega, trivial, HX.out (Or.inl q1)⟩, by simp [intOf]; omega⟩
    · obtain rfl : k = m := by omega
      have hq : M.queue.contains (f, n) = false := by
        have := HALL.out
        rwa [List.take_of_length_le (by rw [HN.out]; exact Nat.le_refl _)] at this
      have HQ := Lib.hid hq
      clear hq
      go_wp2
      go_ret
      exact ⟨by rw [HQ.out]; rfl, rfl⟩
theorem AfterR.next {w w1 w2 : World} {b c2 : Nat} {M2 : Mod} {O S O' S' : Nat → Prop} (h2 : ∀ k, O' k → O k ∨ w.heap.size ≤ k) (h3 : ∀ k, S' k → S k ∨ w.heap.size ≤ k) (h4 : Touch O w w1) (h : AfterR w1 b M2 O' S' c2 w2) : AfterR w b M2 O S c2 w2 := by
  obtain ⟨O2, S2, g1, g2, g3, g4⟩ := h
  refine ⟨O2, S2, g1, fun k hk => ?_, fun k hk => ?_, h4.trans g4 h2⟩
  · rcases g2 k hk with h | h
    · exact h2 k h
    · exact Or.inr (Nat.le_trans h4.size h)
  · rcases g3 k hk with h | h
    · exact h3 k h
    · exact Or.inr (Nat.le_trans h4.size h)
/-- A pending sector more. -/
theorem RefAt.push {wr W w1 : World} {b c c' n g cg qc : Nat} {qo : Option Addr} {M : Mod} {O S : Nat → Prop} {p : Sec} (h : RefAt wr b M O S c) (hq : wr.cell? ⟨b, 1, none⟩ = some (.slice qo n qc)) (hx : Exts wr W) (hgrow : W.grownBy w1 (Value.slice qo n qc).ownBlock)
    (hrow : w1.ownsRow 0 78 2 (.slice (some ⟨g, 0, none⟩) (n + 1) cg) (n + 1) (secsC M.queue ++ [.int .i64 p.1, .int .i64 p.2])) (hat : (Value.slice qo n qc).ownBlock = some g ∨ g = W.heap.size) (hn : M.queue.length = n) (hg : Good { M with queue := M.queue ++ [p] } c') :
    AfterR wr b { M with queue := M.queue ++ [p] } O S c' (w1.setCell ⟨b, 1, none⟩ (.slice (some ⟨g, 0, none⟩) (n + 1) cg)) := by
  obtain ⟨fv, qv, kv, L, hb, lb, cc, ff, o1, o2, o12, hF, hQ, hK, hL⟩ := h.cells
  obtain rfl : qv = .slice qo n qc := by
    have := cc 1
    rw [hq] at this
    simpa [boxR] using this.symm
  have hsz := hx.below.size
  have t1 : Touch O wr w1 := (Touch.of_exts hx).then (Touch.of_grown hgrow (fun k hk => (o2 k hk).1))
  have ht : Touch O wr (w1.setCell ⟨b, 1, none⟩ (.slice (some ⟨g, 0, none⟩) (n + 1) cg)) := t1.then (Touch.setCell _ _ _ h.own)
  have hb1 : w1.heap[b]? = some (.cells (boxR fv (.slice qo n qc) kv M) 60 (0, 0)) := by
    rw [hgrow.block b (by omega) (fun e => (o2 b e.symm).2 rfl), hx.below.block b lb, hb]
  have hgb : g ≠ b := by
    rcases hat with h1 | h1
    · exact (o2 g h1).2
    · omega
  have hsb := heap_setCell_at w1 b 1 (.slice (some ⟨g, 0, none⟩) (n + 1) cg) hb1
  have hF1 : w1.ownsRow 0 65 3 fv L.length (filesC L) := (ownsRow_exts hF hx).kept hgrow (by
    cases hv : fv.ownBlock with
    | none => exact .inl rfl
    | some k => exact .inr (fun e => o12 k e.symm k hv rfl))
  refine h.remake ht fv (.slice (some ⟨g, 0, none⟩) (n + 1) cg) kv L ?_ (fun k hk => Or.inl (o1 k hk).1) (fun k hk => ?_) (ownsRow_touch hF1 (Touch.setCell (O := fun k => k = b) _ _ _ rfl) (fun k hk => (o1 k hk).2)) ?_ hK hL hg
  · rw [hsb]
    rfl
  · cases hk
    rcases hat with h1 | h1
    · exact Or.inl (o2 g h1).1
    · right
      show wr.heap.size ≤ g
      omega
  · have hl : (M.queue ++ [p]).length = n + 1 := by rw [List.length_append, hn]; rfl
    show World.ownsRow _ 0 78 2 _ (M.queue ++ [p]).length (secsC (M.queue ++ [p]))
    rw [hl, secsC_snoc]
    exact ownsRow_touch hrow (Touch.setCell (O := fun k => k = b) _ _ _ rfl) (fun k hk => by cases hk; exact hgb)
end Go.Proofs.Ytgeoompgakdbiaa

/- The reference: add. Conditions: at most 300 bytes. -/
namespace Go.Proofs.Ytgeoompgakdbiaa
open Go.RowKit Go.Maps
set_option linter.unusedSimpArgs false
set_option linter.unusedVariables false
set_option maxRecDepth 100000
/-- The write that is possible. -/
def addM (M : Mod) (f : Int) (a : Nat) (s : ByteArray) : Mod := if s.size = 0 then M else { M with files := setF M.files f (putB (M.files f).1 a s, (M.files f).2), queue := addK M.queue f (a / 64) ((a + s.size - 1) / 64 - a / 64 + 1) }
theorem info78 : (Try.prog.info? 78).map (fun i => (i.zero, i.size, i.bytes)) = some (some (.agg #[.int .i64 0, .int .i64 0]), 2, 16) := by kernel_rfl
set_option maxHeartbeats 2000000
theorem add54 {w : World} {b c : Nat} {M : Mod} {O S : Nat → Prop} (hd : RefAt w b M O S c) (f : Int) (a : Nat) (s : ByteArray) (h0 : 0 ≤ f) (h15 : f ≤ 15) (hs : s.size ≤ 300) (hat : a + s.size ≤ 16777216) (hc : c + 6 ≤ 1000000) : Calls Try.prog 54 #[.pointer (some ⟨b, 0, none⟩), .int .i64 f, .int .i64 a, .string s] w fun e w' => e = .returned (.tuple #[]) ∧ AfterR w b (addM M f a s) O S (c + 6) w' := by
  by_cases hz : s.size = 0
  · have HR := Lib.hid (show addM M f a s = M by unfold addM; rw [if_pos hz])
    have HA := Lib.hid ((AfterR.same hd (Touch.refl _ _)).more (c' := c + 6) (by omega) hc)
    have q0 : (s.size == 0) = true := by simpa using hz
    have q1 := empty_of q0
    clear hd hz
    go_enter Try.func54, Try.ntmps54
    go_wp2
    refine bodyPost_ret (results_none rfl _ _ _) rfl ?_
    rw [HR.out]
    exact ⟨rfl, HA.out⟩
  · have q0 : (s.size == 0) = false := by simpa using hz
    have q1 := empty_of q0
    obtain ⟨i0, hi0, hz0, hz1, hz2⟩ := info_parts info78
    have HD := Lib.hid hd
    have h39 := get39 hd f
    obtain ⟨⟨x, y⟩, hx⟩ : ∃ x, M.files f = x := ⟨_, rfl⟩
    have hxs := hd.good.sizes f
    rw [hx] at h39 hxs
    simp only [] at h39 hxs
    have H39 := Lib.hid h39
    have HX := Lib.hid hx
    obtain ⟨P, hP⟩ : ∃ P, putB x a s = P := ⟨_, rfl⟩
    have hPs : P.size ≤ maxFile := by
      rw [← hP, putB_size]
      unfold maxFile at hxs ⊢
      split
      · exact hxs.1
      · exact Nat.max_le.2 ⟨hxs.1, by omega⟩
    have hput : ∀ w : World, Calls Try.prog 61 #[.string x, .int .i64 a, .string s] w fun e w' => e = .returned (.string P) ∧ Exts w w' := fun w => hP ▸ refPut61 x s a w hxs.1 (by unfold maxFile; omega)
    have HPUT := Lib.hid hput
    have hc0 := hd.good.small
    have HP := Lib.hid hP
    clear hd h39 hx hput hP
    go_enter Try.func54, Try.ntmps54
    go_wp2_with (first | (go_at_call 39; ((with_reducible refine (Calls.mono H39.out) ?_); rintro e w1 ⟨rfl, hx1⟩)) | (go_at_call 39; ((with_reducible refine Calls.mono (get39_ext HD.out (by repeat (first | exact Exts.refl _ | apply Exts.andR | apply Exts.alloc | apply Exts.wext | apply Exts.drew | apply Exts.drewN)) HX.out) ?_); rintro e w1 ⟨rfl, hx1⟩)) | (go_at_call 61; ((with_reducible refine Calls.mono (HPUT.out _) ?_); rintro e w2 ⟨rfl, ⟨x2, rfl⟩⟩)) | (go_at_call 60; ((with_reducible refine (set60 (HD.out.exts (hx1.trans (by repeat (first | exact Exts.refl _ | apply Exts.andR | apply Exts.alloc | apply Exts.wext | apply Exts.drew | apply Exts.drewN)))) f P y h0 h15 hPs hxs.2).mono ?_); rintro e w3 ⟨rfl, hA3⟩; (have HA3 := Lib.hid (AfterR.ahead (Touch.of_exts (O := O) (hx1.trans (by repeat (first | exact Exts.refl _ | apply Exts.andR | apply Exts.alloc | apply Exts.wext | apply Exts.drew | apply Exts.drewN)))) hA3)); clear hA3)))
    obtain ⟨F', hF'⟩ : ∃ F', setF M.files f (P, y) = F' := ⟨_, rfl⟩
    have HA4 := Lib.hid (show AfterR w b { M with files := F' } O S c w3 from hF' ▸ HA3.out)
    obtain ⟨N, hN⟩ : ∃ N, (a + s.size - 1) / 64 - a / 64 + 1 = N := ⟨_, rfl⟩
    have HR := Lib.hid (show addM M f a s = { M with files := F', queue := addK M.queue f (a / 64) N } by
      unfold addM
      rw [if_neg hz, HX.out, HP.out, hF', hN])
    have hN6 : N ≤ 6 := by omega
    have hN1 : a / 64 + N = (a + s.size - 1) / 64 + 1 := by omega
    obtain ⟨i, hi⟩ : ∃ i, a / 64 = i := ⟨_, rfl⟩
    rw [hi] at HR hN1
    have HI2 := Lib.hid (show (a : Int) / 64 = (i : Int) by omega)
    have hi6 : i + N ≤ 262145 := by omega
    clear HA3 hN hi hx1 hF'
    go_loopw [9] (fun j wr => ∃ (m : Nat), m ≤ N ∧ j = .int .i64 (i + m : Nat) ∧ AfterR w b { M with files := F', queue := addK M.queue f i m } O S (c + m) wr) (fun j _ => i + N - (intOf j).toNat)
    case atStart => exact ⟨0, by omega, by rw [HI2.out]; rfl, HA4.out⟩
    case round =>
      obtain ⟨m, hm, rfl, hA⟩ := hrel
      have HA := Lib.hid hA
      by_cases hlt : m < N
      · obtain ⟨Q, hQ⟩ : ∃ Q, addK M.queue f i m = Q := ⟨_, rfl⟩
        have HQN := Lib.hid (show addK M.queue f i (m + 1) = if Q.contains (f, ((i + m : Nat) : Int)) = true then Q else Q ++ [(f, ((i + m : Nat) : Int))] by rw [← hQ]; rfl)
        rw [hQ] at hA
        obtain ⟨O', S', hr, ho, hs', ht⟩ := hA
        have HRR := Lib.hid hr
        have HO := Lib.hid ho
        have HS := Lib.hid hs'
        have HT := Lib.hid ht
        have y0 : decide (((i + m : Nat) : Int) ≤ ((a : Int) + (s.size : Int) - 1) / 64) = true := by simp; omega
        have hnr : i + m ≤ 262144 := by omega
        have hgr := hr.good
        obtain ⟨nn, hnn⟩ : ∃ n, i + m = n := ⟨_, rfl⟩
        rw [hnn] at HQN y0 ⊢ hnr
        obtain ⟨r, hcr⟩ : ∃ r, Q.contains (f, (nn : Int)) = r := ⟨_, rfl⟩
        have hpend := pending62 hr f (nn : Int)
        simp only [] at hpend
        rw [hcr] at hpend
        cases r with
        | true =>
          have HC := Lib.hid (HQN.out.trans (if_pos hcr))
          clear hr ho hs' ht hQ hcr HA
          go_wp2_with (first | (go_at_call 62; ((with_reducible refine hpend.mono ?_); rintro e w4 ⟨rfl, rfl⟩)))
          exact ⟨⟨m + 1, by omega, by go_num, by rw [HC.out]; exact AfterR.next HO.out HS.out HT.out ((AfterR.same HRR.out (Touch.refl _ _)).more (by omega) (by omega))⟩, by simp [intOf]; omega⟩
        | false =>
          have HC := Lib.hid (HQN.out.trans (if_neg (by rw [hcr]; decide)))
          have hql := hr.good.count
          obtain ⟨fv, qv, kv, L, hbox, lb, cc, ff, o1, o2, o12, hF, hQ2, hK, hL⟩ := hr.cells
          obtain ⟨qo, qc, rfl⟩ := owns_shape hQ2
          have c1 := cc 1
          simp only [boxR, List.getElem?_toArray, List.getElem?_cons_zero, List.getElem?_cons_succ] at c1
          simp only [] at hQ2 c1 hql o2
          obtain ⟨qn, hqn⟩ : ∃ n, Q.length = n := ⟨_, rfl⟩
          rw [hqn] at hQ2 c1 hql o2
          have HQ2 := Lib.hid hQ2
          have HC1 := Lib.hid c1
          have HQNN := Lib.hid hqn
          have HO2 := Lib.hid o2
          have HGR := Lib.hid hgr
          have hf1 := ff 1
          clear hr ho hs' ht hQ hcr HA hbox cc ff o1 o12 hF hQ2 hK hL hqn o2 hgr
          go_wp2_with (first | (go_at_call 62; ((with_reducible refine hpend.mono ?_); rintro e w4 ⟨rfl, rfl⟩)) | (at_builtin; refine wpList_append_lies _ rfl (.tmp 45) (.tmp 49) 58 rfl 0 78 i0 _ 2 16 Try.underlying58 hi0 hz0 hz1 hz2 rfl (by decide) (.slice qo qn qc) qn (secsC Q) rfl (ownsRow_exts HQ2.out (by repeat (first | exact Exts.refl _ | apply Exts.andR | apply Exts.alloc | apply Exts.wext | apply Exts.drew | apply Exts.drewN))) ⟨wr.heap.size, 0, none⟩ 1 1 [.int .i64 f, .int .i64 nn] rfl rfl (by intro t u hj; match t, hj with | 0, hj => (simp at hj; subst hj; simp [go_sem]) | 1, hj => (simp at hj; subst hj; simp [go_sem]) | t + 2, hj => (simp at hj)) (by intro u hu; simp at hu; rcases hu with rfl | rfl <;> rfl) (by decide) (by unfold maxLen; omega) (by omega) (Nat.zero_le _) _ rfl ?_; intro g' cg w5 hown' hgrow hat' hlt'; (have b0 : w5.cell? ⟨b, 1, none⟩ = some (.slice qo qn qc) := hgrow.cell (Exts.cell (by repeat (first | exact Exts.refl _ | apply Exts.andR | apply Exts.alloc | apply Exts.wext | apply Exts.drew | apply Exts.drewN)) HC1.out) (fun e => (HO2.out b e.symm).2 rfl)); (have lb1 : b < w5.heap.size := World.block_lt_of_cell? w5 _ b0); (have bf : w5.frozen? ⟨b, 1, none⟩ = false := (World.frozen?_of_block ((hgrow.block b (Nat.lt_of_lt_of_le lb (Exts.below (by repeat (first | exact Exts.refl _ | apply Exts.andR | apply Exts.alloc | apply Exts.wext | apply Exts.drew | apply Exts.drewN))).size) (fun e => (HO2.out b e.symm).2 rfl)).trans ((Exts.below (by repeat (first | exact Exts.refl _ | apply Exts.andR | apply Exts.alloc | apply Exts.wext | apply Exts.drew | apply Exts.drewN))).block b lb))).trans hf1)))
          have hP := RefAt.push (c' := c + m + 1) (p := (f, (nn : Int))) HRR.out HC1.out (by repeat (first | exact Exts.refl _ | apply Exts.andR | apply Exts.alloc | apply Exts.wext | apply Exts.drew | apply Exts.drewN)) hgrow hown' hat' HQNN.out ⟨HGR.out.lost, HGR.out.armed, by simp only []; rw [List.length_append, HQNN.out]; simp; omega, fun p hp => by
              rcases List.mem_append.1 hp with hp | hp
              · exact HGR.out.secs p hp
              · obtain rfl : p = (f, (nn : Int)) := by simpa using hp
                exact ⟨h0, h15, by simp only []; omega, by simp only []; omega⟩, HGR.out.sizes, HGR.out.keep, by omega⟩
          exact ⟨⟨m + 1, by omega, by go_num, by rw [HC.out]; exact AfterR.next HO.out HS.out HT.out hP⟩, by simp [intOf]; omega⟩
      · obtain rfl : m = N := by omega
        have y1 : decide (((i + m : Nat) : Int) ≤ ((a : Int) + (s.size : Int) - 1) / 64) = false := by simp; omega
        clear hA
        go_wp2
        go_end0
        refine ⟨rfl, ?_⟩
        rw [HR.out]
        exact HA.out.more (by omega) hc
end Go.Proofs.Ytgeoompgakdbiaa
