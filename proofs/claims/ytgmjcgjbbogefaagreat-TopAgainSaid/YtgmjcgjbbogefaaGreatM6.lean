/- Lemmas that the laws of this seat share, 4 texts in one: ClosePlain, Close, Dims, Vecs. No condition of their own. -/
import Derived.Test.YtgmjcgjbbogefaaGreatM5
/- The closure of a relation, and of a dimension. Plain. -/
namespace Go.Proofs.YtgmjcgjbbogefaaGreat
open Go.RowKit
set_option linter.unusedSimpArgs false
set_option linter.unusedVariables false

open Classical in
/-- What is reached by one or more pairs. -/
noncomputable def clR (f : Rel) : Rel := fun a b => decide (Reach f a b)
theorem clR_iff {f : Rel} {a b : Nat} : clR f a b = true ↔ Reach f a b := by simp [clR]
theorem clR_mat {f g : Rel} (h : Between f g) (hc : Closed g) : matC g = matC (clR f) := matC_inj fun a b ha hb => by
  rw [Bool.eq_iff_iff, between_closed h hc ha hb, clR_iff]
theorem clR_at {f g : Rel} (h : Between f g) (hc : Closed g) {a b : Nat} (ha : a < 12) (hb : b < 12) : clR f a b = g a b := by
  rw [Bool.eq_iff_iff, between_closed h hc ha hb, clR_iff]
def cycB (g : Rel) : Bool := (List.range 12).any fun a => g a a
/-- A relation, and the first so many values related to themselves. -/
def diagR (g : Rel) (k : Nat) : Rel := fun a b => g a b || (a == b && decide (a < k))
theorem diagR_zero (g : Rel) : diagR g 0 = g := by
  funext a b
  simp [diagR]
theorem diagR_next (g : Rel) (k : Nat) : upd (diagR g k) k k true = diagR g (k + 1) := by
  funext a b
  unfold upd diagR
  by_cases h : a = k ∧ b = k
  · rw [if_pos h]
    obtain ⟨rfl, rfl⟩ := h
    simp
  · rw [if_neg h]
    by_cases hab : a = b
    · subst hab
      have : a ≠ k := fun hc => h ⟨hc, hc⟩
      have : decide (a < k) = decide (a < k + 1) := by
        rw [decide_eq_decide]
        omega
      rw [this]
    · rw [show (a == b) = false by simpa using hab, Bool.false_and, Bool.false_and]
/-- A dimension: its closure, if it is valid and has no circle. -/
noncomputable def closedD (V : Int) (ps : List Pr) : Rel × Bool := if validB V ps = true ∧ cycB (clR (pairRel ps)) = false then (diagR (clR (pairRel ps)) V.toNat, true) else (noRel, false)
theorem closed_yes {V : Int} {ps : List Pr} (h1 : validB V ps = true) (h2 : cycB (clR (pairRel ps)) = false) : closedD V ps = (diagR (clR (pairRel ps)) V.toNat, true) := if_pos ⟨h1, h2⟩
theorem closed_no {V : Int} {ps : List Pr} (h : validB V ps = false ∨ cycB (clR (pairRel ps)) = true) : closedD V ps = (noRel, false) := if_neg (by
  rintro ⟨h1, h2⟩
  rcases h with h | h
  · rw [h1] at h; cases h
  · rw [h2] at h; cases h)
end Go.Proofs.YtgmjcgjbbogefaaGreat


/- closed of package factor. -/
namespace Go.Proofs.YtgmjcgjbbogefaaGreat
open Go.RowKit
set_option linter.unusedSimpArgs false
set_option linter.unusedVariables false

theorem reach40_D (f : Rel) (w : World) : Calls Tryz.prog 73 #[.agg (matC f)] w fun e w' => e = .returned (.agg (matC (clR f))) ∧ Exts w w' :=
  (reach40 f w).mono fun e w' ⟨g, he, h1, h2, hx⟩ => ⟨by rw [he, clR_mat h1 h2], hx⟩
theorem res52b {fn : Func} {p q : Tmp} (h : fn.results = #[.cell p 133, .tmp q]) (tmps : Array Value) (w : World) (b : Nat) (f : Rel) (v : Value) (hp : tmps.getD p undef = .pointer (some ⟨b, 0, none⟩)) (hq : tmps.getD q undef = v) (hr : isRow w b 144) (hw : rowOf w b = matC f) :
    (results fn tmps).run Tryz.prog w = .ok (.tuple #[.agg (matC f), v]) w := by
  have hl : (loadVar 133 ⟨b, 0, none⟩).run Tryz.prog w = .ok (.agg (matC f)) w := by
    rw [← hw]
    exact load52 w b hr
  have hp' : tmps[p]?.getD undef = .pointer (some ⟨b, 0, none⟩) := by simpa using hp
  have hq' : tmps[q]?.getD undef = v := by simpa using hq
  simp [results, h, hp', hq', asAddr, hl]
set_option maxRecDepth 100000
set_option maxHeartbeats 1000000
theorem closed31 {S : Nat → Prop} (V : Int) (po : Option Addr) (n c : Nat) (ps : List Pr) (w : World) (h : Prs S w po n c ps) :
    Calls Tryz.prog 48 #[.agg #[.int .i64 V, .slice po n c]] w fun e w' => e = .returned (.tuple #[.agg (matC (closedD V ps).1), .bool (closedD V ps).2]) ∧ Exts w w' := by
  cases hv : validB V ps with
  | false =>
    have HV := Lib.hid hv
    have HR := Lib.hid (closed_no (V := V) (ps := ps) (.inl hv))
    have H := Lib.hid h
    clear hv h
    go_enter Tryz.func48, Tryz.ntmps48
    go_wp2_with (first | (go_at_call 49; ((with_reducible refine (valid32 _ _ _ _ ps _ (RowF.exts H.out (by repeat (first | exact Exts.refl _ | apply Exts.andR | apply Exts.alloc | apply Exts.wext | apply Exts.drew | apply Exts.drewN)))).mono ?_); rintro e w' ⟨rfl, x1, rfl⟩; rw [HV.out])))
    refine bodyPost_ret (v := .tuple #[.agg (matC noRel), .bool false]) (res52b rfl _ _ _ _ _ rfl rfl (by simp [go_sem]) (by simp [go_sem])) rfl ⟨by rw [HR.out], (by repeat (first | exact Exts.refl _ | apply Exts.andR | apply Exts.alloc | apply Exts.wext | apply Exts.drew | apply Exts.drewN))⟩
  | true =>
    obtain ⟨⟨v1, v2⟩, v3, v4⟩ := valid_in hv
    obtain ⟨m, rfl⟩ : ∃ m : Nat, V = m := ⟨V.toNat, by omega⟩
    have HV := Lib.hid hv
    have HI := Lib.hid (show ∀ p ∈ ps, 0 ≤ p.1 ∧ p.1 < 12 ∧ 0 ≤ p.2 ∧ p.2 < 12 from fun p hp => by have := v4 p hp; omega)
    have H := Lib.hid h
    clear hv h v3 v4
    go_enter Tryz.func48, Tryz.ntmps48
    go_wp2_with (first | (go_at_call 49; ((with_reducible refine (valid32 _ _ _ _ ps _ (RowF.exts H.out (by repeat (first | exact Exts.refl _ | apply Exts.andR | apply Exts.alloc | apply Exts.wext | apply Exts.drew | apply Exts.drewN)))).mono ?_); rintro e w' ⟨rfl, x1, rfl⟩; rw [HV.out])) | (go_at_call 51; ((with_reducible refine (steps34 _ _ _ _ ps _ (RowF.exts H.out (by repeat (first | exact Exts.refl _ | apply Exts.andR | apply Exts.alloc | apply Exts.wext | apply Exts.drew | apply Exts.drewN))) HI.out).mono ?_); rintro e w' ⟨rfl, x2, rfl⟩)) | (go_at_call 73; ((with_reducible refine (reach40_D _ _).mono ?_); rintro e w' ⟨rfl, x3, rfl⟩)))
    obtain ⟨g, hg⟩ : ∃ g, clR (pairRel ps) = g := ⟨_, rfl⟩
    rw [hg]
    have HG := Lib.hid hg
    clear hg
    go_loopw [14] (fun i wr => ∃ (k : Nat), k ≤ 12 ∧ i = .int .i64 k ∧ Exts ((wext ((w.alloc (.cells #[.int .i64 m, .slice po n c] 38)).alloc (.cells (matC noRel) 133)) ((x1.and x2).and x3)).alloc (.cells (matC g) 133)) wr ∧ ∀ a, a < k → g a a = false) (fun i _ => 12 - (intOf i).toNat)
    case atStart => exact ⟨0, by omega, rfl, Exts.refl _, fun a ha => by omega⟩
    case round =>
      obtain ⟨k, hk, rfl, ⟨x, rfl⟩, hin⟩ := hrel
      have HK := Lib.hid hin
      clear hin
      by_cases hlt : k < 12
      · cases hq : g k k with
        | true =>
          have HR := Lib.hid (closed_no (V := (m : Int)) (ps := ps) (.inr (by
            simp only [cycB, List.any_eq_true, List.mem_range]
            exact ⟨k, hlt, by rw [HG.out]; exact hq⟩)))
          go_wp2
          refine bodyPost_ret (v := .tuple #[.agg (matC noRel), .bool false]) (res52b rfl _ _ _ _ _ rfl rfl (by simp [go_sem]) (by simp [go_sem])) rfl ⟨by rw [HR.out], (by repeat (first | exact Exts.refl _ | apply Exts.andR | apply Exts.alloc | apply Exts.wext | apply Exts.drew | apply Exts.drewN))⟩
        | false =>
          have HQ := Lib.hid hq
          go_wp2
          refine ⟨⟨k + 1, by omega, by go_num, (by repeat (first | exact Exts.refl _ | apply Exts.andR | apply Exts.alloc | apply Exts.wext | apply Exts.drew | apply Exts.drewN)), fun a ha => ?_⟩, ?_⟩
          · by_cases hak : a = k
            · rw [hak]; exact HQ.out
            · exact HK.out a (by omega)
          · simp [intOf]; omega
      · obtain rfl : k = 12 := by omega
        have HR := Lib.hid (closed_yes (V := (m : Int)) (ps := ps) HV.out (by
          refine Bool.eq_false_iff.2 fun hc => ?_
          simp only [cycB, List.any_eq_true, List.mem_range] at hc
          obtain ⟨a, ha, h1⟩ := hc
          rw [HG.out, HK.out a ha] at h1
          cases h1))
        go_wp2
        go_loopw [26] (fun i wr => ∃ (k : Nat), k ≤ m ∧ i = .int .i64 k ∧ Exts ((wext ((w.alloc (.cells #[.int .i64 m, .slice po n c] 38)).alloc (.cells (matC noRel) 133)) ((x1.and x2).and x3)).alloc (.cells (matC (diagR g k)) 133)) wr) (fun i _ => m - (intOf i).toNat)
        case atStart => exact ⟨0, by omega, rfl, by rw [diagR_zero]; exact (by repeat (first | exact Exts.refl _ | apply Exts.andR | apply Exts.alloc | apply Exts.wext | apply Exts.drew | apply Exts.drewN))⟩
        case round =>
          obtain ⟨k, hk, rfl, x, rfl⟩ := hrel
          by_cases hlt : k < m
          · have hlt' : k < 12 := by omega
            have HN := Lib.hid (diagR_next g k)
            go_wp2
            rw [HN.out]
            refine ⟨⟨k + 1, by omega, by go_num, (by repeat (first | exact Exts.refl _ | apply Exts.andR | apply Exts.alloc | apply Exts.wext | apply Exts.drew | apply Exts.drewN))⟩, ?_⟩
            simp [intOf]; omega
          · obtain rfl : k = m := by omega
            go_wp2
            refine bodyPost_ret (v := .tuple #[.agg (matC (diagR g k)), .bool true]) (res52b rfl _ _ _ _ _ rfl rfl (by simp [go_sem]) (by simp [go_sem])) rfl ⟨by rw [HR.out, HG.out]; rfl, (by repeat (first | exact Exts.refl _ | apply Exts.andR | apply Exts.alloc | apply Exts.wext | apply Exts.drew | apply Exts.drewN))⟩
end Go.Proofs.YtgmjcgjbbogefaaGreat


/- Lists of dimensions, lists of numbers: how they are read; Atleast, Right of package factor. -/
namespace Go.Proofs.YtgmjcgjbbogefaaGreat
open Go.RowKit
set_option linter.unusedSimpArgs false
set_option linter.unusedVariables false

abbrev Dm := Int × List Pr
/-- A slice of pairs, whatever its length. -/
def PrsV (w : World) (v : Value) (ps : List Pr) : Prop := ∃ po c, v = .slice po ps.length c ∧ Prs (fun _ => True) w po ps.length c ps
theorem PrsV.exts {w w' : World} {v : Value} {ps : List Pr} (h : PrsV w v ps) (he : Exts w w') : PrsV w' v ps := by
  obtain ⟨po, c, h1, h2⟩ := h
  exact ⟨po, c, h1, RowF.exts h2 he⟩
def Dims (S : Nat → Prop) (w : World) (lo : Option Addr) (n c : Nat) (D : List Dm) : Prop :=
  D.length = n ∧ ∃ xs, RowF S 2 w (.slice lo n c) n xs ∧ ∀ (i : Nat) (d : Dm), D[i]? = some d → ∃ b, xs[i * 2]? = some (.int .i64 d.1) ∧ xs[i * 2 + 1]? = some b ∧ PrsV w b d.2
theorem Dims.exts {S : Nat → Prop} {w w' : World} {lo : Option Addr} {n c : Nat} {D : List Dm} (h : Dims S w lo n c D) (he : Exts w w') : Dims S w' lo n c D := by
  obtain ⟨h1, xs, h2, h3⟩ := h
  exact ⟨h1, xs, h2.exts he, fun i d hd => let ⟨b, e1, e2, e3⟩ := h3 i d hd; ⟨b, e1, e2, e3.exts he⟩⟩
theorem Dims.nle {S : Nat → Prop} {w : World} {lo : Option Addr} {n c : Nat} {D : List Dm} (h : Dims S w lo n c D) : n ≤ maxLen := by
  obtain ⟨_, xs, h2, _⟩ := h
  exact RowF.nle h2
theorem Dims.get {S : Nat → Prop} {w : World} {lo : Option Addr} {n c : Nat} {D : List Dm} (h : Dims S w lo n c D) {i : Nat} (hi : i < n) :
    ∃ b off V ps po pc, lo = some ⟨b, off, none⟩ ∧ b < w.heap.size ∧ D[i]? = some (V, ps) ∧ w.cell? ⟨b, off + i * 2, none⟩ = some (.int .i64 V) ∧ w.cell? ⟨b, off + i * 2 + 1, none⟩ = some (.slice po ps.length pc) ∧ Prs (fun _ => True) w po ps.length pc ps := by
  obtain ⟨h1, xs, h2, h3⟩ := h
  have hp : D[i]? = some D[i] := List.getElem?_eq_getElem (by omega)
  obtain ⟨v, e1, e2, po, pc, rfl, e3⟩ := h3 i _ hp
  obtain ⟨q1, ao2, cap2, hv, q2, q3, q4, q5⟩ := h2
  simp only [Value.slice.injEq, true_and] at hv
  obtain ⟨rfl, rfl⟩ := hv
  obtain ⟨b, off, rfl, _, hb, hc⟩ := q5 (by omega)
  refine ⟨b, off, D[i].1, D[i].2, po, pc, rfl, hb, hp, hc _ _ e1, ?_, e3⟩
  rw [Nat.add_assoc]
  exact hc _ _ e2

abbrev intsC (l : List Int) : List Value := l.map (.int .i64 ·)
abbrev Ints (S : Nat → Prop) (w : World) (ao : Option Addr) (n c : Nat) (l : List Int) : Prop := RowF S 1 w (.slice ao n c) n (intsC l)
theorem ints_len {S : Nat → Prop} {w : World} {ao : Option Addr} {n c : Nat} {l : List Int} (h : Ints S w ao n c l) : l.length = n := by
  have := RowF.len h
  rw [List.length_map] at this
  omega
theorem ints_get {S : Nat → Prop} {w : World} {ao : Option Addr} {n c : Nat} {l : List Int} (h : Ints S w ao n c l) {i : Nat} (hi : i < n) :
    ∃ b off x, ao = some ⟨b, off, none⟩ ∧ b < w.heap.size ∧ l[i]? = some x ∧ w.cell? ⟨b, off + i, none⟩ = some (.int .i64 x) := by
  have hl := ints_len h
  obtain ⟨q1, ao2, cap2, hv, q2, q3, q4, q5⟩ := h
  simp only [Value.slice.injEq, true_and] at hv
  obtain ⟨rfl, rfl⟩ := hv
  obtain ⟨b, off, rfl, _, hb, hc⟩ := q5 (by omega)
  have hp : l[i]? = some l[i] := List.getElem?_eq_getElem (by omega)
  exact ⟨b, off, _, rfl, hb, hp, hc _ _ (by rw [List.getElem?_map, hp]; rfl)⟩

noncomputable def rightD (D : List Dm) : Bool := D.all (fun d => (closedD d.1 d.2).2) && decide (D.length ≤ 12)
def inV (V a : Int) : Bool := decide (0 ≤ a) && decide (a < V)
noncomputable def atD (V : Int) (ps : List Pr) (a b : Int) : Bool := (closedD V ps).2 && (inV V a && (inV V b && (closedD V ps).1 a.toNat b.toNat))
set_option maxRecDepth 100000
set_option maxHeartbeats 1000000
theorem closed31_D {S : Nat → Prop} (V : Int) (po : Option Addr) (n c : Nat) (ps : List Pr) (g : Rel) (o : Bool) (w : World) (h : Prs S w po n c ps) (hD : closedD V ps = (g, o)) :
    Calls Tryz.prog 48 #[.agg #[.int .i64 V, .slice po n c]] w fun e w' => e = .returned (.tuple #[.agg (matC g), .bool o]) ∧ Exts w w' := by
  have := closed31 V po n c ps w h
  rw [hD] at this
  exact this
theorem closed_valid {V : Int} {ps : List Pr} {g : Rel} (h : closedD V ps = (g, true)) : validB V ps = true ∧ cycB (clR (pairRel ps)) = false ∧ g = diagR (clR (pairRel ps)) V.toNat := by
  unfold closedD at h
  split at h
  · rename_i hc
    simp only [Prod.mk.injEq, and_true] at h
    exact ⟨hc.1, hc.2, h.symm⟩
  · simp at h
theorem atD_out {V : Int} {ps : List Pr} {a b : Int} (h : ¬ (0 ≤ a ∧ a < V ∧ 0 ≤ b ∧ b < V)) : atD V ps a b = false := by
  refine Bool.eq_false_iff.2 fun hc => h ?_
  simp only [atD, inV, Bool.and_eq_true, decide_eq_true_eq] at hc
  exact ⟨hc.2.1.1, hc.2.1.2, hc.2.2.1.1, hc.2.2.1.2⟩
theorem right19 {S : Nat → Prop} (lo : Option Addr) (n c : Nat) (D : List Dm) (w : World) (h : Dims S w lo n c D) :
    Calls Tryz.prog 43 #[.slice lo n c] w fun e w' => e = .returned (.bool (rightD D)) ∧ Exts w w' := by
  have hm := h.nle
  unfold maxLen at hm
  have hl := h.1
  have H := Lib.hid h
  have HL := Lib.hid hl
  clear h hl
  go_enter Tryz.func43, Tryz.ntmps43
  go_wp2
  go_loopw [9] (fun i wr => ∃ (k : Nat), k ≤ n ∧ i = .int .i64 k ∧ Exts w wr ∧ ∀ d ∈ D.take k, (closedD d.1 d.2).2 = true) (fun i _ => n - (intOf i).toNat)
  case atStart => exact ⟨0, by omega, rfl, Exts.refl _, by simp⟩
  case round =>
    obtain ⟨k, hk, rfl, ⟨x, rfl⟩, hin⟩ := hrel
    have HI := Lib.hid hin
    clear hin
    by_cases hlt : k < n
    · obtain ⟨b, off, V, ps, po, pc, rfl, hb, hd, e0, e1, hp⟩ := H.out.get hlt
      obtain ⟨⟨g, o⟩, hg⟩ : ∃ D, closedD V ps = D := ⟨_, rfl⟩
      have HG := Lib.hid hg
      have HP := Lib.hid hp
      have HD := Lib.hid hd
      clear hg hp hd
      cases o with
      | true =>
        go_wp2_with (first | (go_at_call 48; ((with_reducible refine (closed31_D _ _ _ _ ps _ _ _ (RowF.exts HP.out (by repeat (first | exact Exts.refl _ | apply Exts.andR | apply Exts.alloc | apply Exts.wext | apply Exts.drew | apply Exts.drewN))) HG.out).mono ?_); rintro e w' ⟨rfl, x1, rfl⟩)))
        refine ⟨⟨k + 1, by omega, by go_num, (by repeat (first | exact Exts.refl _ | apply Exts.andR | apply Exts.alloc | apply Exts.wext | apply Exts.drew | apply Exts.drewN)), fun q hq => ?_⟩, ?_⟩
        · rw [List.take_add_one, HD.out, List.mem_append] at hq
          rcases hq with hq | hq
          · exact HI.out q hq
          · simp at hq
            rw [hq]
            show (closedD V ps).2 = true
            rw [HG.out]
        · simp [intOf]; omega
      | false =>
        have HR := Lib.hid (show rightD D = false by
          refine Bool.eq_false_iff.2 fun hc => ?_
          simp only [rightD, Bool.and_eq_true, List.all_eq_true] at hc
          have := hc.1 (V, ps) (List.mem_of_getElem? HD.out)
          simp only [HG.out] at this
          cases this)
        go_wp2_with (first | (go_at_call 48; ((with_reducible refine (closed31_D _ _ _ _ ps _ _ _ (RowF.exts HP.out (by repeat (first | exact Exts.refl _ | apply Exts.andR | apply Exts.alloc | apply Exts.wext | apply Exts.drew | apply Exts.drewN))) HG.out).mono ?_); rintro e w' ⟨rfl, x1, rfl⟩)))
        go_ret
        exact ⟨by rw [HR.out]; rfl, (by repeat (first | exact Exts.refl _ | apply Exts.andR | apply Exts.alloc | apply Exts.wext | apply Exts.drew | apply Exts.drewN))⟩
    · obtain rfl : k = n := by omega
      have htk : D.take k = D := List.take_of_length_le (by rw [HL.out]; exact Nat.le_refl _)
      have HR := Lib.hid (show rightD D = decide ((k : Int) ≤ 12) by
        have := HI.out
        rw [htk] at this
        simp only [rightD, HL.out, List.all_eq_true.2 this, Bool.true_and]
        rw [decide_eq_decide]
        omega)
      clear htk
      go_wp2
      go_ret
      exact ⟨by rw [HR.out]; first | rfl | (simp; done), (by repeat (first | exact Exts.refl _ | apply Exts.andR | apply Exts.alloc | apply Exts.wext | apply Exts.drew | apply Exts.drewN))⟩
theorem atleast21 {S : Nat → Prop} (V : Int) (po : Option Addr) (n c : Nat) (ps : List Pr) (aa bb : Int) (w : World) (h : Prs S w po n c ps) :
    Calls Tryz.prog 44 #[.agg #[.int .i64 V, .slice po n c], .int .i64 aa, .int .i64 bb] w fun e w' => e = .returned (.bool (atD V ps aa bb)) ∧ Exts w w' := by
  obtain ⟨⟨g, o⟩, hg⟩ : ∃ D, closedD V ps = D := ⟨_, rfl⟩
  have H := Lib.hid h
  have HG := Lib.hid hg
  clear h hg
  cases o with
  | false =>
    have HR := Lib.hid (show atD V ps aa bb = false by simp [atD, HG.out])
    go_enter Tryz.func44, Tryz.ntmps44
    go_wp2_with (first | (go_at_call 48; ((with_reducible refine (closed31_D _ _ _ _ ps _ _ _ (RowF.exts H.out (by repeat (first | exact Exts.refl _ | apply Exts.andR | apply Exts.alloc | apply Exts.wext | apply Exts.drew | apply Exts.drewN))) HG.out).mono ?_); rintro e w' ⟨rfl, x1, rfl⟩)))
    go_ret
    exact ⟨by rw [HR.out]; rfl, (by repeat (first | exact Exts.refl _ | apply Exts.andR | apply Exts.alloc | apply Exts.wext | apply Exts.drew | apply Exts.drewN))⟩
  | true =>
    have hV := (valid_in (closed_valid HG.out).1).1.2
    by_cases q0 : bb < aa
    · by_cases q1 : 0 ≤ bb
      · have c1 : decide (0 ≤ bb) = true := by simpa using q1
        by_cases q2 : aa < V
        · have c2 : decide (aa < V) = true := by simpa using q2
          obtain ⟨u, rfl⟩ : ∃ u : Nat, aa = u := ⟨aa.toNat, by omega⟩
          obtain ⟨v, rfl⟩ : ∃ v : Nat, bb = v := ⟨bb.toNat, by omega⟩
          have hu : u < 12 := by omega
          have hv : v < 12 := by omega
          have HR := Lib.hid (show atD V ps u v = g u v by
            have := HG.out
            simp only [atD, this, inV, Bool.true_and]
            rw [decide_eq_true (by omega : (0 : Int) ≤ u), decide_eq_true (by omega : (u : Int) < V), decide_eq_true (by omega : (0 : Int) ≤ v), decide_eq_true (by omega : (v : Int) < V)]
            rfl)
          go_enter Tryz.func44, Tryz.ntmps44
          go_wp2_with (first | (go_at_call 48; ((with_reducible refine (closed31_D _ _ _ _ ps _ _ _ (RowF.exts H.out (by repeat (first | exact Exts.refl _ | apply Exts.andR | apply Exts.alloc | apply Exts.wext | apply Exts.drew | apply Exts.drewN))) HG.out).mono ?_); rintro e w' ⟨rfl, x1, rfl⟩)))
          go_ret
          exact ⟨by rw [HR.out]; rfl, (by repeat (first | exact Exts.refl _ | apply Exts.andR | apply Exts.alloc | apply Exts.wext | apply Exts.drew | apply Exts.drewN))⟩
        · have c2 : decide (aa < V) = false := by simpa using q2
          have HR := Lib.hid (atD_out (ps := ps) (a := aa) (b := bb) (V := V) (by omega))
          go_enter Tryz.func44, Tryz.ntmps44
          go_wp2_with (first | (go_at_call 48; ((with_reducible refine (closed31_D _ _ _ _ ps _ _ _ (RowF.exts H.out (by repeat (first | exact Exts.refl _ | apply Exts.andR | apply Exts.alloc | apply Exts.wext | apply Exts.drew | apply Exts.drewN))) HG.out).mono ?_); rintro e w' ⟨rfl, x1, rfl⟩)))
          go_ret
          exact ⟨by rw [HR.out]; rfl, (by repeat (first | exact Exts.refl _ | apply Exts.andR | apply Exts.alloc | apply Exts.wext | apply Exts.drew | apply Exts.drewN))⟩
      · have c1 : decide (0 ≤ bb) = false := by simpa using q1
        have HR := Lib.hid (atD_out (ps := ps) (a := aa) (b := bb) (V := V) (by omega))
        go_enter Tryz.func44, Tryz.ntmps44
        go_wp2_with (first | (go_at_call 48; ((with_reducible refine (closed31_D _ _ _ _ ps _ _ _ (RowF.exts H.out (by repeat (first | exact Exts.refl _ | apply Exts.andR | apply Exts.alloc | apply Exts.wext | apply Exts.drew | apply Exts.drewN))) HG.out).mono ?_); rintro e w' ⟨rfl, x1, rfl⟩)))
        go_ret
        exact ⟨by rw [HR.out]; rfl, (by repeat (first | exact Exts.refl _ | apply Exts.andR | apply Exts.alloc | apply Exts.wext | apply Exts.drew | apply Exts.drewN))⟩
    · by_cases q3 : aa < bb
      · by_cases q1 : 0 ≤ aa
        · have c1 : decide (0 ≤ aa) = true := by simpa using q1
          by_cases q2 : bb < V
          · have c2 : decide (bb < V) = true := by simpa using q2
            obtain ⟨u, rfl⟩ : ∃ u : Nat, aa = u := ⟨aa.toNat, by omega⟩
            obtain ⟨v, rfl⟩ : ∃ v : Nat, bb = v := ⟨bb.toNat, by omega⟩
            have hu : u < 12 := by omega
            have hv : v < 12 := by omega
            have HR := Lib.hid (show atD V ps u v = g u v by
              have := HG.out
              simp only [atD, this, inV, Bool.true_and]
              rw [decide_eq_true (by omega : (0 : Int) ≤ u), decide_eq_true (by omega : (u : Int) < V), decide_eq_true (by omega : (0 : Int) ≤ v), decide_eq_true (by omega : (v : Int) < V)]
              rfl)
            go_enter Tryz.func44, Tryz.ntmps44
            go_wp2_with (first | (go_at_call 48; ((with_reducible refine (closed31_D _ _ _ _ ps _ _ _ (RowF.exts H.out (by repeat (first | exact Exts.refl _ | apply Exts.andR | apply Exts.alloc | apply Exts.wext | apply Exts.drew | apply Exts.drewN))) HG.out).mono ?_); rintro e w' ⟨rfl, x1, rfl⟩)))
            go_ret
            exact ⟨by rw [HR.out]; rfl, (by repeat (first | exact Exts.refl _ | apply Exts.andR | apply Exts.alloc | apply Exts.wext | apply Exts.drew | apply Exts.drewN))⟩
          · have c2 : decide (bb < V) = false := by simpa using q2
            have HR := Lib.hid (atD_out (ps := ps) (a := aa) (b := bb) (V := V) (by omega))
            go_enter Tryz.func44, Tryz.ntmps44
            go_wp2_with (first | (go_at_call 48; ((with_reducible refine (closed31_D _ _ _ _ ps _ _ _ (RowF.exts H.out (by repeat (first | exact Exts.refl _ | apply Exts.andR | apply Exts.alloc | apply Exts.wext | apply Exts.drew | apply Exts.drewN))) HG.out).mono ?_); rintro e w' ⟨rfl, x1, rfl⟩)))
            go_ret
            exact ⟨by rw [HR.out]; rfl, (by repeat (first | exact Exts.refl _ | apply Exts.andR | apply Exts.alloc | apply Exts.wext | apply Exts.drew | apply Exts.drewN))⟩
        · have c1 : decide (0 ≤ aa) = false := by simpa using q1
          have HR := Lib.hid (atD_out (ps := ps) (a := aa) (b := bb) (V := V) (by omega))
          go_enter Tryz.func44, Tryz.ntmps44
          go_wp2_with (first | (go_at_call 48; ((with_reducible refine (closed31_D _ _ _ _ ps _ _ _ (RowF.exts H.out (by repeat (first | exact Exts.refl _ | apply Exts.andR | apply Exts.alloc | apply Exts.wext | apply Exts.drew | apply Exts.drewN))) HG.out).mono ?_); rintro e w' ⟨rfl, x1, rfl⟩)))
          go_ret
          exact ⟨by rw [HR.out]; rfl, (by repeat (first | exact Exts.refl _ | apply Exts.andR | apply Exts.alloc | apply Exts.wext | apply Exts.drew | apply Exts.drewN))⟩
      · obtain rfl : aa = bb := by omega
        by_cases q1 : 0 ≤ aa
        · have c1 : decide (0 ≤ aa) = true := by simpa using q1
          by_cases q2 : aa < V
          · have c2 : decide (aa < V) = true := by simpa using q2
            obtain ⟨u, rfl⟩ : ∃ u : Nat, aa = u := ⟨aa.toNat, by omega⟩
            have hu : u < 12 := by omega
            have HR := Lib.hid (show atD V ps u u = g u u by
              have := HG.out
              simp only [atD, this, inV, Bool.true_and]
              rw [decide_eq_true (by omega : (0 : Int) ≤ u), decide_eq_true (by omega : (u : Int) < V)]
              rfl)
            go_enter Tryz.func44, Tryz.ntmps44
            go_wp2_with (first | (go_at_call 48; ((with_reducible refine (closed31_D _ _ _ _ ps _ _ _ (RowF.exts H.out (by repeat (first | exact Exts.refl _ | apply Exts.andR | apply Exts.alloc | apply Exts.wext | apply Exts.drew | apply Exts.drewN))) HG.out).mono ?_); rintro e w' ⟨rfl, x1, rfl⟩)))
            go_ret
            exact ⟨by rw [HR.out]; rfl, (by repeat (first | exact Exts.refl _ | apply Exts.andR | apply Exts.alloc | apply Exts.wext | apply Exts.drew | apply Exts.drewN))⟩
          · have c2 : decide (aa < V) = false := by simpa using q2
            have HR := Lib.hid (atD_out (ps := ps) (a := aa) (b := aa) (V := V) (by omega))
            go_enter Tryz.func44, Tryz.ntmps44
            go_wp2_with (first | (go_at_call 48; ((with_reducible refine (closed31_D _ _ _ _ ps _ _ _ (RowF.exts H.out (by repeat (first | exact Exts.refl _ | apply Exts.andR | apply Exts.alloc | apply Exts.wext | apply Exts.drew | apply Exts.drewN))) HG.out).mono ?_); rintro e w' ⟨rfl, x1, rfl⟩)))
            go_ret
            exact ⟨by rw [HR.out]; rfl, (by repeat (first | exact Exts.refl _ | apply Exts.andR | apply Exts.alloc | apply Exts.wext | apply Exts.drew | apply Exts.drewN))⟩
        · have c1 : decide (0 ≤ aa) = false := by simpa using q1
          have HR := Lib.hid (atD_out (ps := ps) (a := aa) (b := aa) (V := V) (by omega))
          go_enter Tryz.func44, Tryz.ntmps44
          go_wp2_with (first | (go_at_call 48; ((with_reducible refine (closed31_D _ _ _ _ ps _ _ _ (RowF.exts H.out (by repeat (first | exact Exts.refl _ | apply Exts.andR | apply Exts.alloc | apply Exts.wext | apply Exts.drew | apply Exts.drewN))) HG.out).mono ?_); rintro e w' ⟨rfl, x1, rfl⟩)))
          go_ret
          exact ⟨by rw [HR.out]; rfl, (by repeat (first | exact Exts.refl _ | apply Exts.andR | apply Exts.alloc | apply Exts.wext | apply Exts.drew | apply Exts.drewN))⟩
end Go.Proofs.YtgmjcgjbbogefaaGreat


/- vectors of package factor. -/
namespace Go.Proofs.YtgmjcgjbbogefaaGreat
open Go.RowKit
set_option linter.unusedSimpArgs false
set_option linter.unusedVariables false

/-- A vector: as many numbers as dimensions, each one a value of its dimension. -/
def inD : List Dm → List Int → Bool
  | d :: D, a :: l => inV d.1 a && inD D l
  | [], [] => true
  | _, _ => false
theorem inD_iff : ∀ {D : List Dm} {l : List Int}, inD D l = true ↔ l.length = D.length ∧ ∀ (i : Nat) (d : Dm) (x : Int), D[i]? = some d → l[i]? = some x → inV d.1 x = true
  | [], [] => by simp [inD]
  | [], a :: l => by simp [inD]
  | d :: D, [] => by simp [inD]
  | d :: D, a :: l => by
    simp only [inD, Bool.and_eq_true, inD_iff (D := D) (l := l), List.length_cons, Nat.add_right_cancel_iff]
    constructor
    · rintro ⟨h1, h2, h3⟩
      refine ⟨h2, fun i e x hd hx => ?_⟩
      cases i with
      | zero => simp at hd hx; subst hd hx; exact h1
      | succ i => simp at hd hx; exact h3 i e x hd hx
    · rintro ⟨h2, h3⟩
      exact ⟨h3 0 d a rfl rfl, h2, fun i e x hd hx => h3 (i + 1) e x (by simpa using hd) (by simpa using hx)⟩
noncomputable def vecD (D : List Dm) (a b : List Int) : Bool := rightD D && (inD D a && inD D b)
def InK (D : List Dm) (a b : List Int) (k : Nat) : Prop := ∀ (i : Nat) (d : Dm) (x y : Int), i < k → D[i]? = some d → a[i]? = some x → b[i]? = some y → inV d.1 x = true ∧ inV d.1 y = true
theorem vec_bad {D : List Dm} {a b : List Int} {k : Nat} {V : Int} {ps : List Pr} {x y : Int} (hd : D[k]? = some (V, ps)) (ha : a[k]? = some x) (hb : b[k]? = some y) (h : ¬ (0 ≤ x ∧ x < V ∧ 0 ≤ y ∧ y < V)) : vecD D a b = false := by
  refine Bool.eq_false_iff.2 fun hc => h ?_
  simp only [vecD, Bool.and_eq_true] at hc
  have h1 := (inD_iff.1 hc.2.1).2 k _ x hd ha
  have h2 := (inD_iff.1 hc.2.2).2 k _ y hd hb
  simp only [inV, Bool.and_eq_true, decide_eq_true_eq] at h1 h2
  exact ⟨h1.1, h1.2, h2.1, h2.2⟩
theorem inK_next {D : List Dm} {a b : List Int} {k : Nat} {V : Int} {ps : List Pr} {x y : Int} (h : InK D a b k) (hd : D[k]? = some (V, ps)) (ha : a[k]? = some x) (hb : b[k]? = some y) (h2 : 0 ≤ x ∧ x < V ∧ 0 ≤ y ∧ y < V) : InK D a b (k + 1) := by
  intro i d p q hi h3 h4 h5
  by_cases hk : i = k
  · subst hk
    rw [hd] at h3
    rw [ha] at h4
    rw [hb] at h5
    cases h3; cases h4; cases h5
    simp only [inV, Bool.and_eq_true, decide_eq_true_eq]
    omega
  · exact h i d p q (by omega) h3 h4 h5
theorem vec_len {D : List Dm} {a b : List Int} (h : a.length ≠ D.length ∨ b.length ≠ D.length) : vecD D a b = false := by
  refine Bool.eq_false_iff.2 fun hc => ?_
  simp only [vecD, Bool.and_eq_true] at hc
  have h1 := (inD_iff.1 hc.2.1).1
  have h2 := (inD_iff.1 hc.2.2).1
  rcases h with h | h
  · exact h h1
  · exact h h2
theorem vec_yes {D : List Dm} {a b : List Int} {n : Nat} (hr : rightD D = true) (hn : D.length = n) (ha : a.length = n) (hb : b.length = n) (h : InK D a b n) : vecD D a b = true := by
  simp only [vecD, hr, Bool.true_and, Bool.and_eq_true, inD_iff]
  refine ⟨⟨by omega, fun i d x hd hx => ?_⟩, by omega, fun i d y hd hy => ?_⟩
  · have hi := (List.getElem?_eq_some_iff.1 hd).1
    exact (h i d x _ (by omega) hd hx (List.getElem?_eq_getElem (by omega))).1
  · have hi := (List.getElem?_eq_some_iff.1 hd).1
    exact (h i d _ y (by omega) hd (List.getElem?_eq_getElem (by omega)) hy).2
theorem right19_D {S : Nat → Prop} (lo : Option Addr) (n c : Nat) (D : List Dm) (r : Bool) (w : World) (h : Dims S w lo n c D) (hD : rightD D = r) :
    Calls Tryz.prog 43 #[.slice lo n c] w fun e w' => e = .returned (.bool r) ∧ Exts w w' := by
  subst hD
  exact right19 lo n c D w h
set_option maxRecDepth 100000
set_option maxHeartbeats 2000000
theorem vectors39 {S S1 S2 : Nat → Prop} (lo ao bo : Option Addr) (n c na ca nb cb : Nat) (D : List Dm) (al bl : List Int) (w : World) (h : Dims S w lo n c D) (ha : Ints S1 w ao na ca al) (hb : Ints S2 w bo nb cb bl) :
    Calls Tryz.prog 34 #[.slice lo n c, .slice ao na ca, .slice bo nb cb] w fun e w' => e = .returned (.bool (vecD D al bl)) ∧ Exts w w' := by
  have hm := h.nle
  unfold maxLen at hm
  have HL := Lib.hid h.1
  have HLA := Lib.hid (ints_len ha)
  have HLB := Lib.hid (ints_len hb)
  obtain ⟨r, hr⟩ : ∃ r, rightD D = r := ⟨_, rfl⟩
  have H := Lib.hid h
  have HAA := Lib.hid ha
  have HBB := Lib.hid hb
  have HRD := Lib.hid hr
  have hma := RowF.nle ha
  have hmb := RowF.nle hb
  unfold maxLen at hma hmb
  clear h ha hb hr
  cases r with
  | false =>
    have HR := Lib.hid (show vecD D al bl = false by simp [vecD, HRD.out])
    go_enter Tryz.func34, Tryz.ntmps34
    go_wp2_with (first | (go_at_call 43; ((with_reducible refine (right19_D _ _ _ D _ _ (H.out.exts (by repeat (first | exact Exts.refl _ | apply Exts.andR | apply Exts.alloc | apply Exts.wext | apply Exts.drew | apply Exts.drewN))) HRD.out).mono ?_); rintro e w' ⟨rfl, x0, rfl⟩)))
    go_ret
    exact ⟨by rw [HR.out]; rfl, (by repeat (first | exact Exts.refl _ | apply Exts.andR | apply Exts.alloc | apply Exts.wext | apply Exts.drew | apply Exts.drewN))⟩
  | true =>
    by_cases h1 : na = n
    · by_cases h2 : nb = n
      · subst h1 h2
        go_enter Tryz.func34, Tryz.ntmps34
        go_wp2_with (first | (go_at_call 43; ((with_reducible refine (right19_D _ _ _ D _ _ (H.out.exts (by repeat (first | exact Exts.refl _ | apply Exts.andR | apply Exts.alloc | apply Exts.wext | apply Exts.drew | apply Exts.drewN))) HRD.out).mono ?_); rintro e w' ⟨rfl, x0, rfl⟩)))
        go_loopw [28] (fun i wr => ∃ (k : Nat), k ≤ nb ∧ i = .int .i64 k ∧ Exts w wr ∧ InK D al bl k) (fun i _ => nb - (intOf i).toNat)
        case atStart => exact ⟨0, by omega, rfl, (by repeat (first | exact Exts.refl _ | apply Exts.andR | apply Exts.alloc | apply Exts.wext | apply Exts.drew | apply Exts.drewN)), fun i d x y hi => by omega⟩
        case round =>
          obtain ⟨k, hk, rfl, ⟨x, rfl⟩, hin⟩ := hrel
          have HI := Lib.hid hin
          clear hin
          by_cases hlt : k < nb
          · obtain ⟨b, off, V, ps, po, pc, rfl, hb, hd, e0, e1, hp⟩ := H.out.get hlt
            obtain ⟨b1, off1, xa, rfl, hb1, hxa, f1⟩ := ints_get HAA.out hlt
            obtain ⟨b2, off2, xb, rfl, hb2, hxb, f2⟩ := ints_get HBB.out hlt
            have HD := Lib.hid hd
            have HA := Lib.hid hxa
            have HB := Lib.hid hxb
            clear hd hxa hxb hp
            by_cases q0 : xb < xa
            · by_cases q1 : xb < 0
              · have HR := Lib.hid (vec_bad HD.out HA.out HB.out (by omega) : vecD D al bl = false)
                have c1 : decide (xb < 0) = true := by simpa using q1
                go_wp2
                first | refine wp_region_ext_lit2 (by kernel_rfl) (by kernel_rfl) ?_ | refine wp_region_ext_lit (by kernel_rfl) (by kernel_rfl) ?_
                repeat (go_big_quiet_step (fail))
                refine wpQuiet_nil ?_
                intro _ hwq'
                obtain ⟨xq, hwq''⟩ := hwq'
                subst hwq''
                go_wp2
                go_ret
                exact ⟨by rw [HR.out]; rfl, (by repeat (first | exact Exts.refl _ | apply Exts.andR | apply Exts.alloc | apply Exts.wext | apply Exts.drew | apply Exts.drewN))⟩
              · have c1 : decide (xb < 0) = false := by simpa using q1
                by_cases q2 : V ≤ xa
                · have HR := Lib.hid (vec_bad HD.out HA.out HB.out (by omega) : vecD D al bl = false)
                  have c2 : decide (V ≤ xa) = true := by simpa using q2
                  go_wp2
                  first | refine wp_region_ext_lit2 (by kernel_rfl) (by kernel_rfl) ?_ | refine wp_region_ext_lit (by kernel_rfl) (by kernel_rfl) ?_
                  repeat (go_big_quiet_step (fail))
                  refine wpQuiet_nil ?_
                  intro _ hwq'
                  obtain ⟨xq, hwq''⟩ := hwq'
                  subst hwq''
                  go_wp2
                  go_ret
                  exact ⟨by rw [HR.out]; rfl, (by repeat (first | exact Exts.refl _ | apply Exts.andR | apply Exts.alloc | apply Exts.wext | apply Exts.drew | apply Exts.drewN))⟩
                · have c2 : decide (V ≤ xa) = false := by simpa using q2
                  have HQ := Lib.hid (inK_next HI.out HD.out HA.out HB.out (by omega))
                  go_wp2
                  first | refine wp_region_ext_lit2 (by kernel_rfl) (by kernel_rfl) ?_ | refine wp_region_ext_lit (by kernel_rfl) (by kernel_rfl) ?_
                  repeat (go_big_quiet_step (fail))
                  refine wpQuiet_nil ?_
                  intro _ hwq'
                  obtain ⟨xq, hwq''⟩ := hwq'
                  subst hwq''
                  go_wp2
                  refine ⟨⟨k + 1, by omega, by go_num, (by repeat (first | exact Exts.refl _ | apply Exts.andR | apply Exts.alloc | apply Exts.wext | apply Exts.drew | apply Exts.drewN)), HQ.out⟩, ?_⟩
                  simp [intOf]; omega
            · by_cases q3 : xa < xb
              · by_cases q1 : xa < 0
                · have HR := Lib.hid (vec_bad HD.out HA.out HB.out (by omega) : vecD D al bl = false)
                  have c1 : decide (xa < 0) = true := by simpa using q1
                  go_wp2
                  first | refine wp_region_ext_lit2 (by kernel_rfl) (by kernel_rfl) ?_ | refine wp_region_ext_lit (by kernel_rfl) (by kernel_rfl) ?_
                  repeat (go_big_quiet_step (fail))
                  refine wpQuiet_nil ?_
                  intro _ hwq'
                  obtain ⟨xq, hwq''⟩ := hwq'
                  subst hwq''
                  go_wp2
                  go_ret
                  exact ⟨by rw [HR.out]; rfl, (by repeat (first | exact Exts.refl _ | apply Exts.andR | apply Exts.alloc | apply Exts.wext | apply Exts.drew | apply Exts.drewN))⟩
                · have c1 : decide (xa < 0) = false := by simpa using q1
                  by_cases q2 : V ≤ xb
                  · have HR := Lib.hid (vec_bad HD.out HA.out HB.out (by omega) : vecD D al bl = false)
                    have c2 : decide (V ≤ xb) = true := by simpa using q2
                    go_wp2
                    first | refine wp_region_ext_lit2 (by kernel_rfl) (by kernel_rfl) ?_ | refine wp_region_ext_lit (by kernel_rfl) (by kernel_rfl) ?_
                    repeat (go_big_quiet_step (fail))
                    refine wpQuiet_nil ?_
                    intro _ hwq'
                    obtain ⟨xq, hwq''⟩ := hwq'
                    subst hwq''
                    go_wp2
                    go_ret
                    exact ⟨by rw [HR.out]; rfl, (by repeat (first | exact Exts.refl _ | apply Exts.andR | apply Exts.alloc | apply Exts.wext | apply Exts.drew | apply Exts.drewN))⟩
                  · have c2 : decide (V ≤ xb) = false := by simpa using q2
                    have HQ := Lib.hid (inK_next HI.out HD.out HA.out HB.out (by omega))
                    go_wp2
                    first | refine wp_region_ext_lit2 (by kernel_rfl) (by kernel_rfl) ?_ | refine wp_region_ext_lit (by kernel_rfl) (by kernel_rfl) ?_
                    repeat (go_big_quiet_step (fail))
                    refine wpQuiet_nil ?_
                    intro _ hwq'
                    obtain ⟨xq, hwq''⟩ := hwq'
                    subst hwq''
                    go_wp2
                    refine ⟨⟨k + 1, by omega, by go_num, (by repeat (first | exact Exts.refl _ | apply Exts.andR | apply Exts.alloc | apply Exts.wext | apply Exts.drew | apply Exts.drewN)), HQ.out⟩, ?_⟩
                    simp [intOf]; omega
              · obtain rfl : xa = xb := by omega
                by_cases q1 : xa < 0
                · have HR := Lib.hid (vec_bad HD.out HA.out HB.out (by omega) : vecD D al bl = false)
                  have c1 : decide (xa < 0) = true := by simpa using q1
                  go_wp2
                  first | refine wp_region_ext_lit2 (by kernel_rfl) (by kernel_rfl) ?_ | refine wp_region_ext_lit (by kernel_rfl) (by kernel_rfl) ?_
                  repeat (go_big_quiet_step (fail))
                  refine wpQuiet_nil ?_
                  intro _ hwq'
                  obtain ⟨xq, hwq''⟩ := hwq'
                  subst hwq''
                  go_wp2
                  go_ret
                  exact ⟨by rw [HR.out]; rfl, (by repeat (first | exact Exts.refl _ | apply Exts.andR | apply Exts.alloc | apply Exts.wext | apply Exts.drew | apply Exts.drewN))⟩
                · have c1 : decide (xa < 0) = false := by simpa using q1
                  by_cases q2 : V ≤ xa
                  · have HR := Lib.hid (vec_bad HD.out HA.out HB.out (by omega) : vecD D al bl = false)
                    have c2 : decide (V ≤ xa) = true := by simpa using q2
                    go_wp2
                    first | refine wp_region_ext_lit2 (by kernel_rfl) (by kernel_rfl) ?_ | refine wp_region_ext_lit (by kernel_rfl) (by kernel_rfl) ?_
                    repeat (go_big_quiet_step (fail))
                    refine wpQuiet_nil ?_
                    intro _ hwq'
                    obtain ⟨xq, hwq''⟩ := hwq'
                    subst hwq''
                    go_wp2
                    go_ret
                    exact ⟨by rw [HR.out]; rfl, (by repeat (first | exact Exts.refl _ | apply Exts.andR | apply Exts.alloc | apply Exts.wext | apply Exts.drew | apply Exts.drewN))⟩
                  · have c2 : decide (V ≤ xa) = false := by simpa using q2
                    have HQ := Lib.hid (inK_next HI.out HD.out HA.out HB.out (by omega))
                    go_wp2
                    first | refine wp_region_ext_lit2 (by kernel_rfl) (by kernel_rfl) ?_ | refine wp_region_ext_lit (by kernel_rfl) (by kernel_rfl) ?_
                    repeat (go_big_quiet_step (fail))
                    refine wpQuiet_nil ?_
                    intro _ hwq'
                    obtain ⟨xq, hwq''⟩ := hwq'
                    subst hwq''
                    go_wp2
                    refine ⟨⟨k + 1, by omega, by go_num, (by repeat (first | exact Exts.refl _ | apply Exts.andR | apply Exts.alloc | apply Exts.wext | apply Exts.drew | apply Exts.drewN)), HQ.out⟩, ?_⟩
                    simp [intOf]; omega
          · obtain rfl : k = nb := by omega
            have HR := Lib.hid (vec_yes HRD.out HL.out HLA.out HLB.out HI.out)
            go_wp2
            go_ret
            exact ⟨by rw [HR.out]; rfl, (by repeat (first | exact Exts.refl _ | apply Exts.andR | apply Exts.alloc | apply Exts.wext | apply Exts.drew | apply Exts.drewN))⟩
      · have q2 : ((nb : Int) == (n : Int)) = false := by simp; omega
        have q1 : ((nb : Int) != (n : Int)) = true := by simp; omega
        have q3 : (nb == n) = false := by simpa using h2
        have q4 : (nb != n) = true := by simpa using h2
        have HR := Lib.hid (vec_len (D := D) (a := al) (b := bl) (.inr (by have := HL.out; have := HLB.out; omega)))
        subst h1
        go_enter Tryz.func34, Tryz.ntmps34
        go_wp2_with (first | (go_at_call 43; ((with_reducible refine (right19_D _ _ _ D _ _ (H.out.exts (by repeat (first | exact Exts.refl _ | apply Exts.andR | apply Exts.alloc | apply Exts.wext | apply Exts.drew | apply Exts.drewN))) HRD.out).mono ?_); rintro e w' ⟨rfl, x0, rfl⟩)))
        go_ret
        exact ⟨by rw [HR.out]; rfl, (by repeat (first | exact Exts.refl _ | apply Exts.andR | apply Exts.alloc | apply Exts.wext | apply Exts.drew | apply Exts.drewN))⟩
    · have q2 : ((na : Int) == (n : Int)) = false := by simp; omega
      have q1 : ((na : Int) != (n : Int)) = true := by simp; omega
      have q3 : (na == n) = false := by simpa using h1
      have q4 : (na != n) = true := by simpa using h1
      have HR := Lib.hid (vec_len (D := D) (a := al) (b := bl) (.inl (by have := HL.out; have := HLA.out; omega)))
      go_enter Tryz.func34, Tryz.ntmps34
      go_wp2_with (first | (go_at_call 43; ((with_reducible refine (right19_D _ _ _ D _ _ (H.out.exts (by repeat (first | exact Exts.refl _ | apply Exts.andR | apply Exts.alloc | apply Exts.wext | apply Exts.drew | apply Exts.drewN))) HRD.out).mono ?_); rintro e w' ⟨rfl, x0, rfl⟩)))
      go_ret
      exact ⟨by rw [HR.out]; rfl, (by repeat (first | exact Exts.refl _ | apply Exts.andR | apply Exts.alloc | apply Exts.wext | apply Exts.drew | apply Exts.drewN))⟩
end Go.Proofs.YtgmjcgjbbogefaaGreat

