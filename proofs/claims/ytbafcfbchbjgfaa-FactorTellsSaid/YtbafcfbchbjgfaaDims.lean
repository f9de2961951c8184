/- Lists of dimensions, lists of numbers: how they are read; Atleast, Right of package factor. -/
import Derived.Test.YtbafcfbchbjgfaaClose
namespace Go.Proofs.Ytbafcfbchbjgfaa
open Go.RowKit
set_option linter.unusedSimpArgs false
set_option linter.unusedVariables false

abbrev Dm := Int × List Pr
/-- A slice of pairs, whatever its length. -/
def PrsV (w : World) (v : Value) (ps : List Pr) : Prop := ∃ po c, v = .slice po ps.length c ∧ Prs (fun _ => True) w po ps.length c ps
theorem PrsV.exts {w w' : World} {v : Value} {ps : List Pr} (h : PrsV w v ps) (he : Exts w w') : PrsV w' v ps := by
  obtain ⟨po, c, h1, h2⟩ := h
  exact ⟨po, c, h1, RowF.exts h2 he⟩
def Dims (S : Nat → Prop) (w : World) (lo : Option Addr) (n c : Nat) (D : List Dm) : Prop :=
  D.length = n ∧ ∃ xs, RowF S 2 w (.slice lo n c) n xs ∧ ∀ (i : Nat) (d : Dm), D[i]? = some d → ∃ b, xs[i * 2]? = some (.int .i64 d.1) ∧ xs[i * 2 + 1]? = some b ∧ PrsV w b d.2
theorem Dims.exts {S : Nat → Prop} {w w' : World} {lo : Option Addr} {n c : Nat} {D : List Dm} (h : Dims S w lo n c D) (he : Exts w w') : Dims S w' lo n c D := by
  obtain ⟨h1, xs, h2, h3⟩ := h
  exact ⟨h1, xs, h2.exts he, fun i d hd => let ⟨b, e1, e2, e3⟩ := h3 i d hd; ⟨b, e1, e2, e3.exts he⟩⟩
theorem Dims.nle {S : Nat → Prop} {w : World} {lo : Option Addr} {n c : Nat} {D : List Dm} (h : Dims S w lo n c D) : n ≤ maxLen := by
  obtain ⟨_, xs, h2, _⟩ := h
  exact RowF.nle h2
theorem Dims.get {S : Nat → Prop} {w : World} {lo : Option Addr} {n c : Nat} {D : List Dm} (h : Dims S w lo n c D) {i : Nat} (hi : i < n) :
    ∃ b off V ps po pc, lo = some ⟨b, off, none⟩ ∧ b < w.heap.size ∧ D[i]? = some (V, ps) ∧ w.cell? ⟨b, off + i * 2, none⟩ = some (.int .i64 V) ∧ w.cell? ⟨b, off + i * 2 + 1, none⟩ = some (.slice po ps.length pc) ∧ Prs (fun _ => True) w po ps.length pc ps := by
  obtain ⟨h1, xs, h2, h3⟩ := h
  have hp : D[i]? = some D[i] := List.getElem?_eq_getElem (by omega)
  obtain ⟨v, e1, e2, po, pc, rfl, e3⟩ := h3 i _ hp
  obtain ⟨q1, ao2, cap2, hv, q2, q3, q4, q5⟩ := h2
  simp only [Value.slice.injEq, true_and] at hv
  obtain ⟨rfl, rfl⟩ := hv
  obtain ⟨b, off, rfl, _, hb, hc⟩ := q5 (by omega)
  refine ⟨b, off, D[i].1, D[i].2, po, pc, rfl, hb, hp, hc _ _ e1, ?_, e3⟩
  rw [Nat.add_assoc]
  exact hc _ _ e2

abbrev intsC (l : List Int) : List Value := l.map (.int .i64 ·)
abbrev Ints (S : Nat → Prop) (w : World) (ao : Option Addr) (n c : Nat) (l : List Int) : Prop := RowF S 1 w (.slice ao n c) n (intsC l)
theorem ints_len {S : Nat → Prop} {w : World} {ao : Option Addr} {n c : Nat} {l : List Int} (h : Ints S w ao n c l) : l.length = n := by
  have := RowF.len h
  rw [List.length_map] at this
  omega
theorem ints_get {S : Nat → Prop} {w : World} {ao : Option Addr} {n c : Nat} {l : List Int} (h : Ints S w ao n c l) {i : Nat} (hi : i < n) :
    ∃ b off x, ao = some ⟨b, off, none⟩ ∧ b < w.heap.size ∧ l[i]? = some x ∧ w.cell? ⟨b, off + i, none⟩ = some (.int .i64 x) := by
  have hl := ints_len h
  obtain ⟨q1, ao2, cap2, hv, q2, q3, q4, q5⟩ := h
  simp only [Value.slice.injEq, true_and] at hv
  obtain ⟨rfl, rfl⟩ := hv
  obtain ⟨b, off, rfl, _, hb, hc⟩ := q5 (by omega)
  have hp : l[i]? = some l[i] := List.getElem?_eq_getElem (by omega)
  exact ⟨b, off, _, rfl, hb, hp, hc _ _ (by rw [List.getElem?_map, hp]; rfl)⟩

noncomputable def rightD (D : List Dm) : Bool := D.all (fun d => (closedD d.1 d.2).2) && decide (D.length ≤ 12)
def inV (V a : Int) : Bool := decide (0 ≤ a) && decide (a < V)
noncomputable def atD (V : Int) (ps : List Pr) (a b : Int) : Bool := (closedD V ps).2 && (inV V a && (inV V b && (closedD V ps).1 a.toNat b.toNat))
set_option maxRecDepth 100000
set_option maxHeartbeats 1000000
theorem closed31_D {S : Nat → Prop} (V : Int) (po : Option Addr) (n c : Nat) (ps : List Pr) (g : Rel) (o : Bool) (w : World) (h : Prs S w po n c ps) (hD : closedD V ps = (g, o)) :
    Calls Try.prog 31 #[.agg #[.int .i64 V, .slice po n c]] w fun e w' => e = .returned (.tuple #[.agg (matC g), .bool o]) ∧ Exts w w' := by
  have := closed31 V po n c ps w h
  rw [hD] at this
  exact this
theorem closed_valid {V : Int} {ps : List Pr} {g : Rel} (h : closedD V ps = (g, true)) : validB V ps = true ∧ cycB (clR (pairRel ps)) = false ∧ g = diagR (clR (pairRel ps)) V.toNat := by
  unfold closedD at h
  split at h
  · rename_i hc
    simp only [Prod.mk.injEq, and_true] at h
    exact ⟨hc.1, hc.2, h.symm⟩
  · simp at h
theorem atD_out {V : Int} {ps : List Pr} {a b : Int} (h : ¬ (0 ≤ a ∧ a < V ∧ 0 ≤ b ∧ b < V)) : atD V ps a b = false := by
  refine Bool.eq_false_iff.2 fun hc => h ?_
  simp only [atD, inV, Bool.and_eq_true, decide_eq_true_eq] at hc
  exact ⟨hc.2.1.1, hc.2.1.2, hc.2.2.1.1, hc.2.2.1.2⟩
theorem right19 {S : Nat → Prop} (lo : Option Addr) (n c : Nat) (D : List Dm) (w : World) (h : Dims S w lo n c D) :
    Calls Try.prog 19 #[.slice lo n c] w fun e w' => e = .returned (.bool (rightD D)) ∧ Exts w w' := by
  have hm := h.nle
  unfold maxLen at hm
  have hl := h.1
  have H := Lib.hid h
  have HL := Lib.hid hl
  clear h hl
  go_enter Try.func19, Try.ntmps19
  go_wp2
  go_loopw [9] (fun i wr => ∃ (k : Nat), k ≤ n ∧ i = .int .i64 k ∧ Exts w wr ∧ ∀ d ∈ D.take k, (closedD d.1 d.2).2 = true) (fun i _ => n - (intOf i).toNat)
  case atStart => exact ⟨0, by omega, rfl, Exts.refl _, by simp⟩
  case round =>
    obtain ⟨k, hk, rfl, ⟨x, rfl⟩, hin⟩ := hrel
    have HI := Lib.hid hin
    clear hin
    by_cases hlt : k < n
    · obtain ⟨b, off, V, ps, po, pc, rfl, hb, hd, e0, e1, hp⟩ := H.out.get hlt
      obtain ⟨⟨g, o⟩, hg⟩ : ∃ D, closedD V ps = D := ⟨_, rfl⟩
      have HG := Lib.hid hg
      have HP := Lib.hid hp
      have HD := Lib.hid hd
      clear hg hp hd
      cases o with
      | true =>
        go_wp2_with (first | (go_at_call 31; ((with_reducible refine (closed31_D _ _ _ _ ps _ _ _ (RowF.exts HP.out (by repeat (first | exact Exts.refl _ | apply Exts.andR | apply Exts.alloc | apply Exts.wext | apply Exts.drew | apply Exts.drewN))) HG.out).mono ?_); rintro e w' ⟨rfl, x1, rfl⟩)))
        refine ⟨⟨k + 1, by omega, by go_num, (by repeat (first | exact Exts.refl _ | apply Exts.andR | apply Exts.alloc | apply Exts.wext | apply Exts.drew | apply Exts.drewN)), fun q hq => ?_⟩, ?_⟩
        · rw [List.take_add_one, HD.out, List.mem_append] at hq
          rcases hq with hq | hq
          · exact HI.out q hq
          · simp at hq
            rw [hq]
            show (closedD V ps).2 = true
            rw [HG.out]
        · simp [intOf]; omega
      | false =>
        have HR := Lib.hid (show rightD D = false by
          refine Bool.eq_false_iff.2 fun hc => ?_
          simp only [rightD, Bool.and_eq_true, List.all_eq_true] at hc
          have := hc.1 (V, ps) (List.mem_of_getElem? HD.out)
          simp only [HG.out] at this
          cases this)
        go_wp2_with (first | (go_at_call 31; ((with_reducible refine (closed31_D _ _ _ _ ps _ _ _ (RowF.exts HP.out (by repeat (first | exact Exts.refl _ | apply Exts.andR | apply Exts.alloc | apply Exts.wext | apply Exts.drew | apply Exts.drewN))) HG.out).mono ?_); rintro e w' ⟨rfl, x1, rfl⟩)))
        go_ret
        exact ⟨by rw [HR.out]; rfl, (by repeat (first | exact Exts.refl _ | apply Exts.andR | apply Exts.alloc | apply Exts.wext | apply Exts.drew | apply Exts.drewN))⟩
    · obtain rfl : k = n := by omega
      have htk : D.take k = D := List.take_of_length_le (by rw [HL.out]; exact Nat.le_refl _)
      have HR := Lib.hid (show rightD D = decide ((k : Int) ≤ 12) by
        have := HI.out
        rw [htk] at this
        simp only [rightD, HL.out, List.all_eq_true.2 this, Bool.true_and]
        rw [decide_eq_decide]
        omega)
      clear htk
      go_wp2
      go_ret
      exact ⟨by rw [HR.out]; first | rfl | (simp; done), (by repeat (first | exact Exts.refl _ | apply Exts.andR | apply Exts.alloc | apply Exts.wext | apply Exts.drew | apply Exts.drewN))⟩
theorem atleast21 {S : Nat → Prop} (V : Int) (po : Option Addr) (n c : Nat) (ps : List Pr) (aa bb : Int) (w : World) (h : Prs S w po n c ps) :
    Calls Try.prog 21 #[.agg #[.int .i64 V, .slice po n c], .int .i64 aa, .int .i64 bb] w fun e w' => e = .returned (.bool (atD V ps aa bb)) ∧ Exts w w' := by
  obtain ⟨⟨g, o⟩, hg⟩ : ∃ D, closedD V ps = D := ⟨_, rfl⟩
  have H := Lib.hid h
  have HG := Lib.hid hg
  clear h hg
  cases o with
  | false =>
    have HR := Lib.hid (show atD V ps aa bb = false by simp [atD, HG.out])
    go_enter Try.func21, Try.ntmps21
    go_wp2_with (first | (go_at_call 31; ((with_reducible refine (closed31_D _ _ _ _ ps _ _ _ (RowF.exts H.out (by repeat (first | exact Exts.refl _ | apply Exts.andR | apply Exts.alloc | apply Exts.wext | apply Exts.drew | apply Exts.drewN))) HG.out).mono ?_); rintro e w' ⟨rfl, x1, rfl⟩)))
    go_ret
    exact ⟨by rw [HR.out]; rfl, (by repeat (first | exact Exts.refl _ | apply Exts.andR | apply Exts.alloc | apply Exts.wext | apply Exts.drew | apply Exts.drewN))⟩
  | true =>
    have hV := (valid_in (closed_valid HG.out).1).1.2
    by_cases q0 : bb < aa
    · by_cases q1 : 0 ≤ bb
      · have c1 : decide (0 ≤ bb) = true := by simpa using q1
        by_cases q2 : aa < V
        · have c2 : decide (aa < V) = true := by simpa using q2
          obtain ⟨u, rfl⟩ : ∃ u : Nat, aa = u := ⟨aa.toNat, by omega⟩
          obtain ⟨v, rfl⟩ : ∃ v : Nat, bb = v := ⟨bb.toNat, by omega⟩
          have hu : u < 12 := by omega
          have hv : v < 12 := by omega
          have HR := Lib.hid (show atD V ps u v = g u v by
            have := HG.out
            simp only [atD, this, inV, Bool.true_and]
            rw [decide_eq_true (by omega : (0 : Int) ≤ u), decide_eq_true (by omega : (u : Int) < V), decide_eq_true (by omega : (0 : Int) ≤ v), decide_eq_true (by omega : (v : Int) < V)]
            rfl)
          go_enter Try.func21, Try.ntmps21
          go_wp2_with (first | (go_at_call 31; ((with_reducible refine (closed31_D _ _ _ _ ps _ _ _ (RowF.exts H.out (by repeat (first | exact Exts.refl _ | apply Exts.andR | apply Exts.alloc | apply Exts.wext | apply Exts.drew | apply Exts.drewN))) HG.out).mono ?_); rintro e w' ⟨rfl, x1, rfl⟩)))
          go_ret
          exact ⟨by rw [HR.out]; rfl, (by repeat (first | exact Exts.refl _ | apply Exts.andR | apply Exts.alloc | apply Exts.wext | apply Exts.drew | apply Exts.drewN))⟩
        · have c2 : decide (aa < V) = false := by simpa using q2
          have HR := Lib.hid (atD_out (ps := ps) (a := aa) (b := bb) (V := V) (by omega))
          go_enter Try.func21, Try.ntmps21
          go_wp2_with (first | (go_at_call 31; ((with_reducible refine (closed31_D _ _ _ _ ps _ _ _ (RowF.exts H.out (by repeat (first | exact Exts.refl _ | apply Exts.andR | apply Exts.alloc | apply Exts.wext | apply Exts.drew | apply Exts.drewN))) HG.out).mono ?_); rintro e w' ⟨rfl, x1, rfl⟩)))
          go_ret
          exact ⟨by rw [HR.out]; rfl, (by repeat (first | exact Exts.refl _ | apply Exts.andR | apply Exts.alloc | apply Exts.wext | apply Exts.drew | apply Exts.drewN))⟩
      · have c1 : decide (0 ≤ bb) = false := by simpa using q1
        have HR := Lib.hid (atD_out (ps := ps) (a := aa) (b := bb) (V := V) (by omega))
        go_enter Try.func21, Try.ntmps21
        go_wp2_with (first | (go_at_call 31; ((with_reducible refine (closed31_D _ _ _ _ ps _ _ _ (RowF.exts H.out (by repeat (first | exact Exts.refl _ | apply Exts.andR | apply Exts.alloc | apply Exts.wext | apply Exts.drew | apply Exts.drewN))) HG.out).mono ?_); rintro e w' ⟨rfl, x1, rfl⟩)))
        go_ret
        exact ⟨by rw [HR.out]; rfl, (by repeat (first | exact Exts.refl _ | apply Exts.andR | apply Exts.alloc | apply Exts.wext | apply Exts.drew | apply Exts.drewN))⟩
    · by_cases q3 : aa < bb
      · by_cases q1 : 0 ≤ aa
        · have c1 : decide (0 ≤ aa) = true := by simpa using q1
          by_cases q2 : bb < V
          · have c2 : decide (bb < V) = true := by simpa using q2
            obtain ⟨u, rfl⟩ : ∃ u : Nat, aa = u := ⟨aa.toNat, by omega⟩
            obtain ⟨v, rfl⟩ : ∃ v : Nat, bb = v := ⟨bb.toNat, by omega⟩
            have hu : u < 12 := by omega
            have hv : v < 12 := by omega
            have HR := Lib.hid (show atD V ps u v = g u v by
              have := HG.out
              simp only [atD, this, inV, Bool.true_and]
              rw [decide_eq_true (by omega : (0 : Int) ≤ u), decide_eq_true (by omega : (u : Int) < V), decide_eq_true (by omega : (0 : Int) ≤ v), decide_eq_true (by omega : (v : Int) < V)]
              rfl)
            go_enter Try.func21, Try.ntmps21
            go_wp2_with (first | (go_at_call 31; ((with_reducible refine (closed31_D _ _ _ _ ps _ _ _ (RowF.exts H.out (by repeat (first | exact Exts.refl _ | apply Exts.andR | apply Exts.alloc | apply Exts.wext | apply Exts.drew | apply Exts.drewN))) HG.out).mono ?_); rintro e w' ⟨rfl, x1, rfl⟩)))
            go_ret
            exact ⟨by rw [HR.out]; rfl, (by repeat (first | exact Exts.refl _ | apply Exts.andR | apply Exts.alloc | apply Exts.wext | apply Exts.drew | apply Exts.drewN))⟩
          · have c2 : decide (bb < V) = false := by simpa using q2
            have HR := Lib.hid (atD_out (ps := ps) (a := aa) (b := bb) (V := V) (by omega))
            go_enter Try.func21, Try.ntmps21
            go_wp2_with (first | (go_at_call 31; ((with_reducible refine (closed31_D _ _ _ _ ps _ _ _ (RowF.exts H.out (by repeat (first | exact Exts.refl _ | apply Exts.andR | apply Exts.alloc | apply Exts.wext | apply Exts.drew | apply Exts.drewN))) HG.out).mono ?_); rintro e w' ⟨rfl, x1, rfl⟩)))
            go_ret
            exact ⟨by rw [HR.out]; rfl, (by repeat (first | exact Exts.refl _ | apply Exts.andR | apply Exts.alloc | apply Exts.wext | apply Exts.drew | apply Exts.drewN))⟩
        · have c1 : decide (0 ≤ aa) = false := by simpa using q1
          have HR := Lib.hid (atD_out (ps := ps) (a := aa) (b := bb) (V := V) (by omega))
          go_enter Try.func21, Try.ntmps21
          go_wp2_with (first | (go_at_call 31; ((with_reducible refine (closed31_D _ _ _ _ ps _ _ _ (RowF.exts H.out (by repeat (first | exact Exts.refl _ | apply Exts.andR | apply Exts.alloc | apply Exts.wext | apply Exts.drew | apply Exts.drewN))) HG.out).mono ?_); rintro e w' ⟨rfl, x1, rfl⟩)))
          go_ret
          exact ⟨by rw [HR.out]; rfl, (by repeat (first | exact Exts.refl _ | apply Exts.andR | apply Exts.alloc | apply Exts.wext | apply Exts.drew | apply Exts.drewN))⟩
      · obtain rfl : aa = bb := by omega
        by_cases q1 : 0 ≤ aa
        · have c1 : decide (0 ≤ aa) = true := by simpa using q1
          by_cases q2 : aa < V
          · have c2 : decide (aa < V) = true := by simpa using q2
            obtain ⟨u, rfl⟩ : ∃ u : Nat, aa = u := ⟨aa.toNat, by omega⟩
            have hu : u < 12 := by omega
            have HR := Lib.hid (show atD V ps u u = g u u by
              have := HG.out
              simp only [atD, this, inV, Bool.true_and]
              rw [decide_eq_true (by omega : (0 : Int) ≤ u), decide_eq_true (by omega : (u : Int) < V)]
              rfl)
            go_enter Try.func21, Try.ntmps21
            go_wp2_with (first | (go_at_call 31; ((with_reducible refine (closed31_D _ _ _ _ ps _ _ _ (RowF.exts H.out (by repeat (first | exact Exts.refl _ | apply Exts.andR | apply Exts.alloc | apply Exts.wext | apply Exts.drew | apply Exts.drewN))) HG.out).mono ?_); rintro e w' ⟨rfl, x1, rfl⟩)))
            go_ret
            exact ⟨by rw [HR.out]; rfl, (by repeat (first | exact Exts.refl _ | apply Exts.andR | apply Exts.alloc | apply Exts.wext | apply Exts.drew | apply Exts.drewN))⟩
          · have c2 : decide (aa < V) = false := by simpa using q2
            have HR := Lib.hid (atD_out (ps := ps) (a := aa) (b := aa) (V := V) (by omega))
            go_enter Try.func21, Try.ntmps21
            go_wp2_with (first | (go_at_call 31; ((with_reducible refine (closed31_D _ _ _ _ ps _ _ _ (RowF.exts H.out (by repeat (first | exact Exts.refl _ | apply Exts.andR | apply Exts.alloc | apply Exts.wext | apply Exts.drew | apply Exts.drewN))) HG.out).mono ?_); rintro e w' ⟨rfl, x1, rfl⟩)))
            go_ret
            exact ⟨by rw [HR.out]; rfl, (by repeat (first | exact Exts.refl _ | apply Exts.andR | apply Exts.alloc | apply Exts.wext | apply Exts.drew | apply Exts.drewN))⟩
        · have c1 : decide (0 ≤ aa) = false := by simpa using q1
          have HR := Lib.hid (atD_out (ps := ps) (a := aa) (b := aa) (V := V) (by omega))
          go_enter Try.func21, Try.ntmps21
          go_wp2_with (first | (go_at_call 31; ((with_reducible refine (closed31_D _ _ _ _ ps _ _ _ (RowF.exts H.out (by repeat (first | exact Exts.refl _ | apply Exts.andR | apply Exts.alloc | apply Exts.wext | apply Exts.drew | apply Exts.drewN))) HG.out).mono ?_); rintro e w' ⟨rfl, x1, rfl⟩)))
          go_ret
          exact ⟨by rw [HR.out]; rfl, (by repeat (first | exact Exts.refl _ | apply Exts.andR | apply Exts.alloc | apply Exts.wext | apply Exts.drew | apply Exts.drewN))⟩
end Go.Proofs.Ytbafcfbchbjgfaa
