/- Lemmas that the laws of this seat share, 4 texts in one: RefCircPlain, Has, Way, RefCirc. No condition of their own. -/
import Derived.Test.YtodgohilfbggjaaM8
import Derived.Test.YtodgohilfbggjaaM6
import Derived.Test.YtodgohilfbggjaaM3
import Derived.Deep.AppendLies
import Derived.Deep.OwnRows
import Derived.BigRegion
import Derived.Deep.LoopGhost
/- The circle of the reference, and what leads where: plain. -/
namespace Go.Proofs.Ytodgohilfbggjaa
open Go.RowKit
set_option linter.unusedSimpArgs false
set_option linter.unusedVariables false

/-- Every walk of at least one pair can be cut to one of at most m pairs, m values being all that there are. -/
theorem wk_cut {f : Rel} {m lo : Nat} (hin : ∀ x y, f x y = true → x < m ∧ y < m) : ∀ (k n a b : Nat), n ≤ k → 1 ≤ n → Wk f lo n a b → ∃ n', 1 ≤ n' ∧ n' ≤ m ∧ Wk f lo n' a b
  | 0, n, a, b, h1, h2, _ => by omega
  | k + 1, n, a, b, h1, h2, hw => by
    obtain ⟨L, hl, hL⟩ := wk_nodes hw
    by_cases hn : n ≤ m
    · exact ⟨n, h2, hn, hw⟩
    · by_cases hd : L.Nodup
      · have := nodup_le (m := m) (fun x hx => by
          obtain ⟨i, hi⟩ := List.getElem?_of_mem hx
          obtain ⟨_, g2, _⟩ := hL i x hi
          obtain ⟨u, _, g4, _⟩ := wk_last.1 g2
          exact (hin _ _ g4).2) hd
        omega
      · have : ∃ (i j v : Nat), i < j ∧ L[i]? = some v ∧ L[j]? = some v := by
          refine Classical.byContradiction fun hc => hd ?_
          rw [List.Nodup, List.pairwise_iff_getElem]
          intro i j hi hj hij he
          exact hc ⟨i, j, L[i], hij, List.getElem?_eq_getElem hi, by rw [List.getElem?_eq_getElem hj, he]⟩
        obtain ⟨i, j, v, hij, hi, hj⟩ := this
        have hjl := (List.getElem?_eq_some_iff.1 hj).1
        exact wk_cut hin k (i + 1 + (n - (j + 1))) a b (by omega) (by omega) ((hL i v hi).2.1.app (hL j v hj).2.2)
/-- The search for the smallest circle, ahead of the value s. -/
structure BestR (f : Rel) (m s best at' : Nat) : Prop where
  le : best ≤ m
  zero : best = 0 → at' = 0 ∧ ∀ s' j, s' < s → 1 ≤ j → j ≤ m → ¬ Wk f s' j s' s'
  pos : best ≠ 0 → at' < s ∧ Wk f at' best at' at' ∧ (∀ s' j, s' < s → 1 ≤ j → j ≤ m → Wk f s' j s' s' → best ≤ j) ∧ ∀ s' j, s' < at' → 1 ≤ j → j ≤ m → Wk f s' j s' s' → best < j
theorem BestR.start (f : Rel) (m : Nat) : BestR f m 0 0 0 := ⟨Nat.zero_le _, fun _ => ⟨rfl, fun s' j h => by omega⟩, fun h => absurd rfl h⟩
theorem BestR.yes {f : Rel} {m s best at' : Nat} (h : BestR f m s best at') (h0 : 0 < wayN f m s s s) (hb : best = 0 ∨ wayN f m s s s < best) : BestR f m (s + 1) (wayN f m s s s) s := by
  refine ⟨wayN_le _ _ _ _ _, fun hc => by omega, fun _ => ⟨by omega, wayN_wk h0, fun s' j h1 h2 h3 h4 => ?_, fun s' j h1 h2 h3 h4 => ?_⟩⟩
  · by_cases hs : s' = s
    · subst hs
      exact (wayN_low h2 h3 h4).2
    · by_cases hz : best = 0
      · exact absurd h4 ((h.zero hz).2 s' j (by omega) h2 h3)
      · have := (h.pos hz).2.2.1 s' j (by omega) h2 h3 h4
        omega
  · by_cases hz : best = 0
    · exact absurd h4 ((h.zero hz).2 s' j (by omega) h2 h3)
    · have := (h.pos hz).2.2.1 s' j (by omega) h2 h3 h4
      omega
theorem BestR.no {f : Rel} {m s best at' : Nat} (h : BestR f m s best at') (hb : wayN f m s s s = 0 ∨ (best ≠ 0 ∧ best ≤ wayN f m s s s)) : BestR f m (s + 1) best at' := by
  refine ⟨h.le, fun hz => ⟨(h.zero hz).1, fun s' j h1 h2 h3 h4 => ?_⟩, fun hz => ⟨by have := (h.pos hz).1; omega, (h.pos hz).2.1, fun s' j h1 h2 h3 h4 => ?_, (h.pos hz).2.2.2⟩⟩
  · by_cases hs : s' = s
    · subst hs
      have := (wayN_low h2 h3 h4).1
      omega
    · exact (h.zero hz).2 s' j (by omega) h2 h3 h4
  · by_cases hs : s' = s
    · subst hs
      have := wayN_low h2 h3 h4
      omega
    · exact (h.pos hz).2.2.1 s' j (by omega) h2 h3 h4
theorem wk_ends {f : Rel} {m lo j a b : Nat} (hin : ∀ x y, f x y = true → x < m ∧ y < m) (hj : 1 ≤ j) (h : Wk f lo j a b) : a < m ∧ b < m := by
  obtain ⟨q, rfl⟩ : ∃ q, j = q + 1 := ⟨j - 1, by omega⟩
  obtain ⟨u, _, h2, _⟩ := wk_last.1 h
  obtain ⟨c, _, _, h3, _⟩ := h
  exact ⟨(hin _ _ h3).1, (hin _ _ h2).2⟩
theorem BestR.none {f : Rel} {m at' : Nat} (h : BestR f m m 0 at') (hin : ∀ x y, f x y = true → x < m ∧ y < m) : NoCyc f := fun s j hs h1 _ hw => by
  obtain ⟨n', g1, g2, g3⟩ := wk_cut hin j j s s (Nat.le_refl _) h1 hw
  exact (h.zero rfl).2 s n' (wk_ends hin h1 hw).1 g1 g2 g3
theorem BestR.min {f : Rel} {m best at' : Nat} (h : BestR f m m best at') (hb : best ≠ 0) (hm : m ≤ 12) (hin : ∀ x y, f x y = true → x < m ∧ y < m) : MinCyc f best at' := by
  obtain ⟨h1, h2, h3, h4⟩ := h.pos hb
  have hle := h.le
  refine ⟨by omega, by omega, by omega, h2, fun s n hs hn hw => ?_, fun s n hs hn hw => ?_⟩
  · by_cases hnm : n ≤ m
    · exact h3 s n (wk_ends hin hn hw).1 hn hnm hw
    · omega
  · by_cases hnm : n ≤ m
    · exact h4 s n hs hn hnm hw
    · omega
theorem least_ex {P : Nat → Prop} : ∀ (k j : Nat), j ≤ k → P j → ∃ i, i ≤ j ∧ P i ∧ ∀ i', i' < i → ¬ P i'
  | 0, j, h, hp => ⟨j, Nat.le_refl _, hp, fun i' hi => by omega⟩
  | k + 1, j, h, hp => by
    by_cases hl : ∃ i, i < j ∧ P i
    · obtain ⟨i, g1, g2⟩ := hl
      obtain ⟨i2, q1, q2, q3⟩ := least_ex k i (by omega) g2
      exact ⟨i2, by omega, q2, q3⟩
    · exact ⟨j, Nat.le_refl _, hp, fun i' hi hc => hl ⟨i', hi, hc⟩⟩
/-- Distances there are. -/
theorem isDist_ex (f : Rel) (to : Nat) : ∃ d, IsDist f to d := by
  have key : ∀ v, ∃ k, k ≤ 13 ∧ (k < 13 → to ≤ v ∧ Wk f to k v to) ∧ ∀ n, n ≤ 12 → to ≤ v → Wk f to n v to → k ≤ n := fun v => by
    by_cases h : to ≤ v ∧ ∃ j, j ≤ 12 ∧ Wk f to j v to
    · obtain ⟨h1, j, h2, h3⟩ := h
      obtain ⟨i, g1, g2, g3⟩ := least_ex (P := fun j => Wk f to j v to) j j (Nat.le_refl _) h3
      exact ⟨i, by omega, fun _ => ⟨h1, g2⟩, fun n _ _ hw => by
        refine Classical.byContradiction fun hc => g3 n (by omega) hw⟩
    · exact ⟨13, Nat.le_refl _, fun hc => by omega, fun n h1 h2 h3 => absurd ⟨h2, n, h1, h3⟩ h⟩
  refine ⟨fun v => Classical.choose (key v), ?_, fun v _ => (Classical.choose_spec (key v)).1, fun v _ h => (Classical.choose_spec (key v)).2.1 h, fun n v h1 h2 _ h3 => (Classical.choose_spec (key v)).2.2 n h1 h2 h3⟩
  have := (Classical.choose_spec (key to)).2.2 0 (by omega) (Nat.le_refl _) rfl
  omega
theorem way_dist {f : Rel} {to v m k : Nat} {d : Arr} (hd : IsDist f to d) (hv : to ≤ v) (hv12 : v < 12) (hne : v ≠ to) (hm : m ≤ 12) (hk : 1 ≤ k) (hkm : k ≤ m) : wayN f m to v to = k ↔ d v = k := by
  constructor
  · intro h
    rcases wayN_is f m to v to with ⟨h1, _⟩ | ⟨_, _, h3, h4⟩
    · omega
    · rw [h] at h3 h4
      have h5 := hd.up k v (by omega) hv hv12 h3
      have h6 := (hd.wk v hv12 (by omega)).2
      by_cases h0 : d v = 0
      · rw [h0] at h6
        exact absurd h6 hne
      · by_cases hlt : d v < k
        · exact absurd h6 (h4 _ (by omega) hlt)
        · omega
  · intro h
    have h6 := (hd.wk v hv12 (by omega)).2
    rw [h] at h6
    refine wayN_eq (.inr ⟨hk, hkm, h6, fun j h1 h2 h3 => ?_⟩)
    have := hd.up j v (by omega) hv hv12 h3
    omega
/-- Related in the closure: the same value, or a way. -/
theorem strong_rel {f : Rel} {m a b : Nat} (hin : ∀ x y, f x y = true → x < m ∧ y < m) (ha : a < m) : (a == b || decide (0 < wayN f m 0 a b)) = diagR (clR f) m a b := by
  rw [Bool.eq_iff_iff]
  simp only [diagR, Bool.or_eq_true, clR_iff, Bool.and_eq_true, beq_iff_eq, decide_eq_true_eq]
  constructor
  · rintro (rfl | h)
    · exact .inr ⟨rfl, ha⟩
    · left
      have hw := wayN_wk h
      obtain ⟨q, hq⟩ : ∃ q, wayN f m 0 a b = q + 1 := ⟨wayN f m 0 a b - 1, by omega⟩
      rw [hq] at hw
      exact ⟨q, hw⟩
  · rintro (⟨n, hw⟩ | ⟨rfl, _⟩)
    · obtain ⟨n', g1, g2, g3⟩ := wk_cut hin (n + 1) (n + 1) a b (Nat.le_refl _) (by omega) hw
      exact .inr (wayN_low g1 g2 g3).1
    · exact .inl rfl
/-- A circle there is exactly where some value leads back to itself. -/
theorem circ_nil {f : Rel} {C : List Nat} (h : IsCirc f C) : cycB (clR f) = decide (0 < C.length) := by
  rcases h with ⟨rfl, hno⟩ | ⟨best, at', d, last, hm, hd, hlen, hp⟩
  · have : cycB (clR f) = false := by
      refine Bool.eq_false_iff.2 fun hc => ?_
      simp only [cycB, List.any_eq_true, clR_iff] at hc
      obtain ⟨a, _, hr⟩ := hc
      exact nocyc_reach hno a hr
    rw [this]
    rfl
  · have h1 := hm.pos
    have : cycB (clR f) = true := by
      simp only [cycB, List.any_eq_true, List.mem_range, clR_iff]
      refine ⟨at', hm.lt, ?_⟩
      obtain ⟨q, rfl⟩ : ∃ q, best = q + 1 := ⟨best - 1, by omega⟩
      exact ⟨q, wk_lo (Nat.zero_le _) hm.wk⟩
    rw [this]
    simp; omega
/-- There is one circle to report. -/
theorem circ_one {f : Rel} {C C' : List Nat} (h : IsCirc f C) (h' : IsCirc f C') : C = C' := by
  have hl : (0 < C.length) ↔ (0 < C'.length) := by
    have := circ_nil h
    rw [circ_nil h', decide_eq_decide] at this
    exact this.symm
  rcases h with ⟨rfl, hno⟩ | ⟨best, at', d, last, hm, hd, hlen, hp⟩
  · have : ¬ 0 < C'.length := fun hc => by have := hl.2 hc; simp at this
    exact (List.eq_nil_of_length_eq_zero (by omega)).symm
  · rcases h' with ⟨rfl, hno⟩ | ⟨best', at2, d', last', hm', hd', hlen', hp'⟩
    · have h1 := hp.len
      have := hl.1 (by omega)
      simp at this
    · have e1 : best = best' := by
        have h1 := hm.low at2 best' hm'.lt hm'.pos hm'.wk
        have h2 := hm'.low at' best hm.lt hm.pos hm.wk
        omega
      subst e1
      have e2 : at' = at2 := by
        by_cases h1 : at' < at2
        · have := hm'.first at' best h1 hm.pos hm.wk
          omega
        · by_cases h2 : at2 < at'
          · have := hm.first at2 best h2 hm'.pos hm'.wk
            omega
          · omega
      subst e2
      have hdd : ∀ v, at' ≤ v → v < 12 → d v = d' v := fun v hv hv12 => by
        have a1 := hd.le v hv12
        have a2 := hd'.le v hv12
        by_cases h1 : d v < 13
        · have := hd'.up (d v) v (by omega) hv hv12 (hd.wk v hv12 h1).2
          by_cases h2 : d' v < 13
          · have := hd.up (d' v) v (by omega) hv hv12 (hd'.wk v hv12 h2).2
            omega
          · omega
        · by_cases h2 : d' v < 13
          · have := hd.up (d' v) v (by omega) hv hv12 (hd'.wk v hv12 h2).2
            omega
          · omega
      have key : ∀ i, i < best → C[i]? = C'[i]? := fun i => by
        induction i with
        | zero => intro _; rw [hp.head, hp'.head]
        | succ i ih =>
          intro hi
          obtain ⟨u, v, g1, g2, g3⟩ := hp.next i (by omega)
          obtain ⟨u', v', q1, q2, q3⟩ := hp'.next i (by omega)
          have := ih (by omega)
          rw [g1, q1] at this
          cases this
          rw [g2, q2]
          have : v = v' := by
            by_cases h1 : v < v'
            · exact absurd ⟨g3.pair, by rw [← hdd v g3.lo g3.lt]; exact g3.dist⟩ (q3.least v g3.lo h1)
            · by_cases h2 : v' < v
              · exact absurd ⟨q3.pair, by rw [hdd v' q3.lo q3.lt]; exact q3.dist⟩ (g3.least v' q3.lo h2)
              · omega
          rw [this]
      apply List.ext_getElem?
      intro i
      by_cases hi : i < best
      · exact key i hi
      · rw [List.getElem?_eq_none (by omega), List.getElem?_eq_none (by omega)]
end Go.Proofs.Ytodgohilfbggjaa

/- has of the reference of chapter 38. No condition. -/
namespace Go.Proofs.Ytodgohilfbggjaa
open Go.RowKit
set_option linter.unusedSimpArgs false
set_option linter.unusedVariables false
set_option maxRecDepth 100000
set_option maxHeartbeats 2000000
theorem has43 {S : Nat → Prop} (V : Int) (po : Option Addr) (n c : Nat) (ps : List Pr) (a b : Int) (w : World) (h : Prs S w po n c ps) :
    Calls Try.prog 66 #[.agg #[.int .i64 V, .slice po n c], .int .i64 a, .int .i64 b] w fun e w' => e = .returned (.bool (hasP ps a b)) ∧ Exts w w' := by
  have hl := h.len
  have hm := h.nle
  unfold maxLen at hm
  have H := Lib.hid h
  have HL := Lib.hid hl
  clear h hl
  go_enter Try.func66, Try.ntmps66
  go_wp2
  go_loopw [7] (fun i wr => ∃ (k : Nat), k ≤ n ∧ i = .int .i64 k ∧ Exts (w.alloc (.cells #[.int .i64 V, .slice po n c] 52)) wr ∧ hasP (ps.take k) a b = false) (fun i _ => n - (intOf i).toNat)
  case atStart => exact ⟨0, by omega, rfl, Exts.refl _, by simp [hasP]⟩
  case round =>
    obtain ⟨k, hk, rfl, ⟨x, rfl⟩, hin⟩ := hrel
    have HI := Lib.hid hin
    clear hin
    by_cases hlt : k < n
    · obtain ⟨pb, off, ⟨p1, p2⟩, rfl, hb, hp, e0, e1⟩ := H.out.get hlt
      simp only at e0 e1
      have HP := Lib.hid hp
      clear hp
      by_cases q1 : p1 = a
      · have c1 : (p1 == a) = true := by simpa using q1
        by_cases q2 : p2 = b
        · have c2 : (p2 == b) = true := by simpa using q2
          have HR := Lib.hid (show hasP ps a b = true by
            simp only [hasP, List.any_eq_true]
            exact ⟨_, List.mem_of_getElem? HP.out, by simp [q1, q2]⟩)
          clear q1 q2
          go_wp2
          (try (go_region; go_wp2))
          go_ret
          exact ⟨by rw [HR.out]; rfl, (by repeat (first | exact Exts.refl _ | apply Exts.andR | apply Exts.alloc | apply Exts.wext | apply Exts.drew | apply Exts.drewN))⟩
        · have c2 : (p2 == b) = false := by simpa using q2
          have HQ := Lib.hid (show ((p1 == a) && (p2 == b)) = false by simp; omega)
          clear q1 q2
          go_wp2
          (try (go_region; go_wp2))
          refine ⟨⟨k + 1, by omega, by go_num, (by repeat (first | exact Exts.refl _ | apply Exts.andR | apply Exts.alloc | apply Exts.wext | apply Exts.drew | apply Exts.drewN)), ?_⟩, ?_⟩
          · have := HI.out
            unfold hasP at this ⊢
            rw [List.take_add_one, HP.out, List.any_append, this]
            simpa using HQ.out
          · simp [intOf]; omega
      · have c1 : (p1 == a) = false := by simpa using q1
        have HQ := Lib.hid (show ((p1 == a) && (p2 == b)) = false by simp; omega)
        clear q1
        go_wp2
        (try (go_region; go_wp2))
        refine ⟨⟨k + 1, by omega, by go_num, (by repeat (first | exact Exts.refl _ | apply Exts.andR | apply Exts.alloc | apply Exts.wext | apply Exts.drew | apply Exts.drewN)), ?_⟩, ?_⟩
        · have := HI.out
          unfold hasP at this ⊢
          rw [List.take_add_one, HP.out, List.any_append, this]
          simpa using HQ.out
        · simp [intOf]; omega
    · obtain rfl : k = n := by omega
      have htk : ps.take k = ps := List.take_of_length_le (by rw [HL.out]; exact Nat.le_refl _)
      have HR := Lib.hid (show hasP ps a b = false by
        have := HI.out
        rw [htk] at this
        exact this)
      clear htk
      go_wp2
      go_ret
      exact ⟨by rw [HR.out]; rfl, (by repeat (first | exact Exts.refl _ | apply Exts.andR | apply Exts.alloc | apply Exts.wext | apply Exts.drew | apply Exts.drewN))⟩
theorem hasP_rel (ps : List Pr) (u v : Nat) : hasP ps (u : Int) (v : Int) = pairRel ps u v := rfl
theorem has43_D {S : Nat → Prop} (V : Int) (po : Option Addr) (n c : Nat) (ps : List Pr) (u v : Nat) (r : Bool) (w : World) (h : Prs S w po n c ps) (hr : pairRel ps u v = r) :
    Calls Try.prog 66 #[.agg #[.int .i64 V, .slice po n c], .int .i64 u, .int .i64 v] w fun e w' => e = .returned (.bool r) ∧ Exts w w' := by
  subst hr
  exact has43 V po n c ps u v w h
end Go.Proofs.Ytodgohilfbggjaa

/- way of the reference of chapter 38: a walk breadth first. No condition but valid pairs. -/
namespace Go.Proofs.Ytodgohilfbggjaa
open Go.RowKit Go.Deep
set_option linter.unusedSimpArgs false
set_option linter.unusedVariables false

def natsC (L : List Nat) : List Value := intsC (L.map Int.ofNat)
theorem natsC_get {L : List Nat} {i u : Nat} (h : L[i]? = some u) : (natsC L)[i]? = some (.int .i64 u) := by simp [natsC, intsC, h]
theorem natsC_snoc (L : List Nat) (v : Nat) : natsC L ++ [.int .i64 v] = natsC (L ++ [v]) := by simp [natsC, intsC]
theorem grown_set (w : World) (sb i : Nat) (v : Value) : w.grownBy (w.setCell ⟨sb, i, none⟩ v) (some sb) := by
  refine ⟨rfl, rfl, rfl, by simp [World.setCell], fun k hk hne => ?_⟩
  have hk2 : ¬ sb = k := fun hc => hne (by rw [hc])
  simp only [World.setCell, Array.getElem?_modify]
  rw [if_neg hk2]
theorem set_cells {w : World} {sb : Nat} {c : Array Value} {t : TypeId} {fr : Nat × Nat} (i : Nat) (v : Value) (h : w.heap[sb]? = some (.cells c t fr)) : (w.setCell ⟨sb, i, none⟩ v).heap[sb]? = some (.cells (c.setIfInBounds i v) t fr) := by
  simp [World.setCell, Array.getElem?_modify, h]
/-- The memory of way. -/
structure WaySt (w1 wr : World) (sb base m : Nat) (S : Nat → Bool) (nv : Value) (L : List Nat) (xv : Value) (N : List Nat) : Prop where
  ext : Exts w1 wr
  sbw : w1.heap.size ≤ sb
  seen : wr.heap[sb]? = some (.cells (boolC S m) 4 (0, 0))
  sbb : sb < base
  now : wr.ownsRow w1.heap.size 3 1 nv L.length (natsC L)
  nowlt : ∀ g, nv.ownBlock = some g → g < base
  nxt : wr.ownsRow base 3 1 xv N.length (natsC N)
  bas : base ≤ wr.heap.size
theorem WaySt.ne_now {w1 wr : World} {sb base m : Nat} {S : Nat → Bool} {nv : Value} {L : List Nat} {xv : Value} {N : List Nat} (h : WaySt w1 wr sb base m S nv L xv N) : some sb ≠ nv.ownBlock := fun hc => by
  obtain ⟨c, hg⟩ := TypedBy.of_owns h.now sb hc.symm
  have := h.seen
  rw [hg] at this
  simp at this
theorem WaySt.ne_nxt {w1 wr : World} {sb base m : Nat} {S : Nat → Bool} {nv : Value} {L : List Nat} {xv : Value} {N : List Nat} (h : WaySt w1 wr sb base m S nv L xv N) : some sb ≠ xv.ownBlock := fun hc => by
  obtain ⟨c, hg⟩ := TypedBy.of_owns h.nxt sb hc.symm
  have := h.seen
  rw [hg] at this
  simp at this
theorem owns_base {w : World} {base e k n g : Nat} {v : Value} {xs : List Value} (h : w.ownsRow base e k v n xs) (hg : v.ownBlock = some g) : base ≤ g := by
  obtain ⟨_, ⟨rfl, _⟩ | ⟨g', cap, cur, rfl, hb, _⟩⟩ := h
  · cases hg
  · cases hg
    exact hb
theorem WaySt.exts {w1 wr wr' : World} {sb base m : Nat} {S : Nat → Bool} {nv : Value} {L : List Nat} {xv : Value} {N : List Nat} (h : WaySt w1 wr sb base m S nv L xv N) (he : Exts wr wr') : WaySt w1 wr' sb base m S nv L xv N :=
  ⟨h.ext.trans he, h.sbw, (he.below.block sb (Array.getElem?_eq_some_iff.1 h.seen).1).trans h.seen, h.sbb, ownsRow_exts h.now he, h.nowlt, ownsRow_exts h.nxt he, Nat.le_trans h.bas he.below.size⟩
theorem WaySt.store {w1 wr : World} {sb base m : Nat} {S : Nat → Bool} {nv : Value} {L : List Nat} {xv : Value} {N : List Nat} (h : WaySt w1 wr sb base m S nv L xv N) (v : Nat) : WaySt w1 (wr.setCell ⟨sb, v, none⟩ (.bool true)) sb base m (updB S v true) nv L xv N := by
  have hg := grown_set wr sb v (.bool true)
  refine ⟨exts_of_grown h.ext hg fun b hb => by cases hb; exact h.sbw, h.sbw, ?_, h.sbb, h.now.kept hg ?_, h.nowlt, h.nxt.kept hg ?_, Nat.le_trans h.bas hg.size⟩
  · rw [set_cells _ _ h.seen, boolC_set]
  · cases hv : nv.ownBlock with
    | none => simp
    | some g =>
      right
      intro hc
      cases hc
      exact h.ne_now hv.symm
  · cases hv : xv.ownBlock with
    | none => simp
    | some g =>
      right
      intro hc
      cases hc
      exact h.ne_nxt hv.symm
theorem WaySt.app {w1 wr w' : World} {sb base m v : Nat} {S : Nat → Bool} {nv : Value} {L : List Nat} {xv xv' : Value} {N : List Nat} (h : WaySt w1 wr sb base m S nv L xv N) (hg : wr.grownBy w' xv.ownBlock) (hown : w'.ownsRow base 3 1 xv' (N.length + 1) (natsC N ++ [.int .i64 v])) : WaySt w1 w' sb base m S nv L xv' (N ++ [v]) := by
  refine ⟨exts_of_grown h.ext hg fun b hb => ?_, h.sbw, ?_, h.sbb, h.now.kept hg ?_, h.nowlt, by rw [List.length_append, ← natsC_snoc]; exact hown, Nat.le_trans h.bas hg.size⟩
  · have h1 := owns_base h.nxt hb
    have h2 := h.sbb
    have h3 := h.sbw
    omega
  · rw [hg.block sb (Array.getElem?_eq_some_iff.1 h.seen).1 h.ne_nxt]
    exact h.seen
  · cases hv : nv.ownBlock with
    | none => simp
    | some g =>
      right
      intro hc
      have h1 := owns_base h.nxt hc.symm
      have h2 := h.nowlt g hv
      omega
/-- A new round: what was found is the level, nothing is found yet. -/
theorem WaySt.turn {w1 wr : World} {sb base m : Nat} {S : Nat → Bool} {nv : Value} {L : List Nat} {xv : Value} {N : List Nat} (h : WaySt w1 wr sb base m S nv L xv N) : WaySt w1 wr sb wr.heap.size m S xv N (.slice none 0 0) [] where
  ext := h.ext
  sbw := h.sbw
  seen := h.seen
  sbb := (Array.getElem?_eq_some_iff.1 h.seen).1
  now := by
    obtain ⟨h1, h2 | ⟨g, cap, cur, e1, e2, e3⟩⟩ := h.nxt
    · exact ⟨h1, .inl h2⟩
    · exact ⟨h1, .inr ⟨g, cap, cur, e1, by have := h.sbb; have := h.sbw; omega, e3⟩⟩
  nowlt := fun g hg => (h.nxt.lt g hg).2
  nxt := World.ownsRow_nil _ _ _ _
  bas := Nat.le_refl _
theorem owns_cell {w : World} {base n cp : Nat} {e : TypeId} {ao : Option Addr} {xs : List Value} {i : Nat} {x : Value} (h : w.ownsRow base e 1 (.slice ao n cp) n xs) (hx : xs[i]? = some x) : ∃ g, ao = some ⟨g, 0, none⟩ ∧ g < w.heap.size ∧ w.cell? ⟨g, i, none⟩ = some x := by
  obtain ⟨h1, ⟨_, rfl⟩ | ⟨g, cap, cur, e1, _, hg, _, _, hs, htk⟩⟩ := h
  · have := (List.getElem?_eq_some_iff.1 hx).1
    omega
  · simp only [Value.slice.injEq, true_and] at e1
    obtain ⟨rfl, rfl⟩ := e1
    refine ⟨g, rfl, (Array.getElem?_eq_some_iff.1 hg).1, ?_⟩
    have hi := (List.getElem?_eq_some_iff.1 hx).1
    rw [← htk, List.getElem?_take_of_lt (by omega)] at hx
    rw [cell_of_row w g i cur e (0, 0) hg]
    simpa using hx
theorem frozen_row {w : World} {b : Nat} {c : Array Value} {t : TypeId} (i : Nat) (h : w.heap[b]? = some (.cells c t (0, 0))) : w.frozen? ⟨b, i, none⟩ = false := by simp [World.frozen?, h]
theorem info3b : (Try.prog.info? 3).map (fun i => (i.zero, i.size, i.bytes)) = some (some (.int .i64 0), 1, 8) := by kernel_rfl
set_option maxRecDepth 100000
set_option maxHeartbeats 4000000
theorem way42 {S' : Nat → Prop} (m : Nat) (po : Option Addr) (n c : Nat) (ps : List Pr) (a b lo : Nat) (w : World) (h : Prs S' w po n c ps) (hm12 : m ≤ 12) (hin : ∀ p ∈ ps, 0 ≤ p.1 ∧ p.1 < (m : Int) ∧ 0 ≤ p.2 ∧ p.2 < (m : Int)) (ha : a < m) (hlo : lo ≤ m) :
    Calls Try.prog 65 #[.agg #[.int .i64 m, .slice po n c], .int .i64 a, .int .i64 b, .int .i64 lo] w fun e w' => e = .returned (.int .i64 (wayN (pairRel ps) m lo a b)) ∧ Exts w w' := by
  have hm := RowF.nle h
  unfold maxLen at hm
  have hpin : ∀ x y, pairRel ps x y = true → x < m ∧ y < m := fun x y h => by
    simp only [pairRel, List.any_eq_true, Bool.and_eq_true, beq_iff_eq] at h
    obtain ⟨p, hp, h1, h2⟩ := h
    have := hin p hp
    omega
  have HPI := Lib.hid hpin
  have H := Lib.hid h
  have hmk := run_make_row' (P := Try.prog) 91 4 (.bool false) 1 Try.underlying91 info4b rfl .i64 .i64 m (by omega) (by omega)
  rw [made_bools] at hmk
  obtain ⟨i0, hi, hz0, hz1, hz2⟩ := info_parts info3b
  clear h hpin hin
  obtain ⟨f, hf⟩ : ∃ f, pairRel ps = f := ⟨_, rfl⟩
  go_enter Try.func65, Try.ntmps65
  rw [hf] at HPI ⊢
  have HF := Lib.hid hf
  clear hf
  go_wp2
  obtain ⟨w1, hw1⟩ : ∃ w1, w.alloc (.cells #[.int .i64 m, .slice po n c] 52) = w1 := ⟨_, rfl⟩
  have HX := Lib.hid (show Exts w w1 by rw [← hw1]; exact (Exts.refl w).alloc _)
  have HP := Lib.hid (show Prs S' w1 po n c ps from RowF.exts H.out HX.out)
  have cO0 : w1.cell? ⟨w.heap.size, 0, none⟩ = some (.int .i64 m) := by rw [← hw1]; simp [go_sem]
  have cO1 : w1.cell? ⟨w.heap.size, 1, none⟩ = some (.slice po n c) := by rw [← hw1]; simp [go_sem]
  have lO : w1.heap.size = w.heap.size + 1 := by rw [← hw1]; simp
  rw [hw1]
  clear hw1 H
  go_loopw [10, 11] (fun nw i wr => ∃ (j sb : Nat) (S0 : Nat → Bool) (L : List Nat), 1 ≤ j ∧ j ≤ m + 1 ∧ i = .int .i64 j ∧ sb = w.heap.size + 1 ∧ Lvl f m lo a b j S0 L ∧ WaySt w1 wr sb wr.heap.size m S0 nw L (.slice none 0 0) []) (fun _ i _ => m + 1 - (intOf i).toNat)
  case atStart =>
    refine ⟨1, _, _, [a], Nat.le_refl _, by omega, rfl, rfl, Lvl.start f lo b ha, ?_⟩
    refine ⟨(by repeat (first | exact Exts.refl _ | apply Exts.andR | apply Exts.alloc | apply Exts.wext | apply Exts.drew | apply Exts.drewN)), by omega, ?_, by simp; omega, ⟨by simp [natsC, intsC], .inr ⟨w1.heap.size + 1, 1, #[.int .i64 a], by simp [lO], by omega, ?_, Nat.le_refl _, by decide, rfl, rfl⟩⟩, ?_, World.ownsRow_nil _ _ _ _, Nat.le_refl _⟩
    · rw [heap_alloc_if, if_pos (by simp; omega), heap_alloc_if, if_neg (by omega), if_pos (by omega)]
    · rw [heap_alloc_if, if_neg (by simp), if_pos (by simp)]
    · intro g hg
      simp [Value.ownBlock] at hg
      subst hg
      simp
      omega
  case round =>
    obtain ⟨j, sb, S0, L, hj1, hjm, rfl, rfl, hlv, hst⟩ := hrel
    have HLV := Lib.hid hlv
    have HST := Lib.hid hst
    have lLen := hlv.len
    obtain ⟨nao, ncp, rfl⟩ := owns_shape hst.now
    have lO' : w.heap.size < wr.heap.size := by have := hst.ext.below.size; omega
    have cO0' := Exts.cell hst.ext cO0
    obtain ⟨B, hB⟩ : ∃ B, wr.heap.size = B := ⟨_, rfl⟩
    rw [hB] at HST
    clear hlv hst
    by_cases hj : j ≤ m
    · have b1 : decide ((j : Int) ≤ (m : Int)) = true := by simp; omega
      go_wp2
      go_loopw [12, 13] (fun xv i wr2 => ∃ (k : Nat) (S : Nat → Bool) (N : List Nat), k ≤ L.length ∧ i = .int .i64 k ∧ WaySt w1 wr2 (w.heap.size + 1) B m S (.slice nao L.length ncp) L xv N ∧ Mid f m lo b S0 L k lo S N) (fun _ i _ => L.length - (intOf i).toNat)
      case atStart => exact ⟨0, S0, [], by omega, rfl, HST.out, Mid.start f m lo b S0 L⟩
      case round =>
        obtain ⟨k, S, N, hk, rfl, hst, hmid⟩ := hrel
        have HST := Lib.hid hst
        have HMID := Lib.hid hmid
        have lO2 : w.heap.size < wr.heap.size := by have := hst.ext.below.size; omega
        have cO0' := Exts.cell hst.ext cO0
        clear hst hmid
        by_cases hkl : k < L.length
        · obtain ⟨u, hu⟩ : ∃ u, L[k]? = some u := ⟨_, List.getElem?_eq_getElem hkl⟩
          have HU := Lib.hid hu
          obtain ⟨nb, rfl, _, _⟩ := owns_cell HST.out.now (natsC_get hu)
          clear hu
          go_wp2
          go_loopw [12, 14] (fun xv i wr3 => ∃ (v : Nat) (S : Nat → Bool) (N : List Nat), lo ≤ v ∧ v ≤ m ∧ i = .int .i64 v ∧ WaySt w1 wr3 (w.heap.size + 1) B m S (.slice (some ⟨nb, 0, none⟩) L.length ncp) L xv N ∧ Mid f m lo b S0 L k v S N) (fun _ i _ => m - (intOf i).toNat)
          case atStart => exact ⟨lo, S, N, Nat.le_refl _, hlo, rfl, HST.out, HMID.out⟩
          case round =>
            obtain ⟨v, S, N, hlv, hvm, rfl, hst, hmid⟩ := hrel
            have HST := Lib.hid hst
            have HMID := Lib.hid hmid
            have lO3 : w.heap.size < wr.heap.size := by have := hst.ext.below.size; omega
            have cO0' := Exts.cell hst.ext cO0
            have cO1' := Exts.cell hst.ext cO1
            have HP3 := Lib.hid (show Prs S' wr po n c ps from RowF.exts HP.out hst.ext)
            have lsb := (Array.getElem?_eq_some_iff.1 hst.seen).1
            obtain ⟨_, e, lnb, cnb⟩ := owns_cell hst.now (natsC_get HU.out)
            cases e
            clear hst hmid
            by_cases hv : v < m
            · have cS : wr.cell? ⟨w.heap.size + 1, v, none⟩ = some (.bool (S v)) := by rw [cell_of_row _ _ _ _ _ _ HST.out.seen]; exact boolC_get _ _ _ hv
              cases hfv : f u v with
              | false =>
                have HFV := Lib.hid hfv
                have HR := Lib.hid (show pairRel ps u v = false by rw [HF.out]; exact hfv)
                clear hfv
                go_wp2
                first | refine wp_region_ext_lit2 (by kernel_rfl) (by kernel_rfl) ?_ | refine wp_region_ext_lit (by kernel_rfl) (by kernel_rfl) ?_
                repeat (go_big_quiet_step (((first | (go_at_call 66; exact Calls.ext_of (has43_D _ _ _ _ ps _ _ _ _ (RowF.exts HP3.out (by repeat (first | exact Exts.refl _ | apply Exts.andR | apply Exts.alloc | apply Exts.wext | apply Exts.drew | apply Exts.drewN))) HR.out))))))
                refine wpQuiet_nil ?_
                intro _ hwq'
                obtain ⟨xq, hwq''⟩ := hwq'
                subst hwq''
                go_wp2
                refine ⟨⟨v + 1, S, N, by omega, by omega, by go_num, HST.out.exts (by repeat (first | exact Exts.refl _ | apply Exts.andR | apply Exts.alloc | apply Exts.wext | apply Exts.drew | apply Exts.drewN)), HMID.out.no HU.out HFV.out⟩, ?_⟩
                simp [intOf]; omega
              | true =>
                have HFV := Lib.hid hfv
                have HR := Lib.hid (show pairRel ps u v = true by rw [HF.out]; exact hfv)
                clear hfv
                by_cases hvb : v = b
                · subst hvb
                  have HW := Lib.hid (HLV.out.found hj hm12 (List.mem_of_getElem? HU.out) HFV.out hlv hv)
                  go_wp2
                  first | refine wp_region_ext_lit2 (by kernel_rfl) (by kernel_rfl) ?_ | refine wp_region_ext_lit (by kernel_rfl) (by kernel_rfl) ?_
                  repeat (go_big_quiet_step (((first | (go_at_call 66; exact Calls.ext_of (has43_D _ _ _ _ ps _ _ _ _ (RowF.exts HP3.out (by repeat (first | exact Exts.refl _ | apply Exts.andR | apply Exts.alloc | apply Exts.wext | apply Exts.drew | apply Exts.drewN))) HR.out))))))
                  refine wpQuiet_nil ?_
                  intro _ hwq'
                  obtain ⟨xq, hwq''⟩ := hwq'
                  subst hwq''
                  go_wp2
                  go_ret
                  exact ⟨by rw [HW.out]; rfl, HX.out.trans (HST.out.ext.trans (by repeat (first | exact Exts.refl _ | apply Exts.andR | apply Exts.alloc | apply Exts.wext | apply Exts.drew | apply Exts.drewN)))⟩
                · have e1 : ((v : Int) == (b : Int)) = false := by simp; omega
                  have e2 : (v == b) = false := by simpa using hvb
                  have HVB := Lib.hid hvb
                  have HM1 := HMID.out.len
                  clear hvb
                  cases hs : S v with
                  | true =>
                    have HS := Lib.hid hs
                    rw [hs] at cS
                    clear hs
                    go_wp2
                    first | refine wp_region_ext_lit2 (by kernel_rfl) (by kernel_rfl) ?_ | refine wp_region_ext_lit (by kernel_rfl) (by kernel_rfl) ?_
                    repeat (go_big_quiet_step (((first | (go_at_call 66; exact Calls.ext_of (has43_D _ _ _ _ ps _ _ _ _ (RowF.exts HP3.out (by repeat (first | exact Exts.refl _ | apply Exts.andR | apply Exts.alloc | apply Exts.wext | apply Exts.drew | apply Exts.drewN))) HR.out))))))
                    refine wpQuiet_nil ?_
                    intro _ hwq'
                    obtain ⟨xq, hwq''⟩ := hwq'
                    subst hwq''
                    go_wp2
                    refine ⟨⟨v + 1, S, N, by omega, by omega, by go_num, HST.out.exts (by repeat (first | exact Exts.refl _ | apply Exts.andR | apply Exts.alloc | apply Exts.wext | apply Exts.drew | apply Exts.drewN)), HMID.out.old HU.out HFV.out hlv hv HVB.out HS.out⟩, ?_⟩
                    simp [intOf]; omega
                  | false =>
                    have HS := Lib.hid hs
                    rw [hs] at cS
                    clear hs
                    go_wp2
                    first | refine wp_region_ext_lit2 (by kernel_rfl) (by kernel_rfl) ?_ | refine wp_region_ext_lit (by kernel_rfl) (by kernel_rfl) ?_
                    repeat (go_big_quiet_step (((first | (go_at_call 66; exact Calls.ext_of (has43_D _ _ _ _ ps _ _ _ _ (RowF.exts HP3.out (by repeat (first | exact Exts.refl _ | apply Exts.andR | apply Exts.alloc | apply Exts.wext | apply Exts.drew | apply Exts.drewN))) HR.out))))))
                    refine wpQuiet_nil ?_
                    intro _ hwq'
                    obtain ⟨xq, hwq''⟩ := hwq'
                    subst hwq''
                    have HST2 := Lib.hid (HST.out.store v)
                    have cF := frozen_row v HST.out.seen
                    go_wp2_with (at_builtin; refine wpList_append_lies _ rfl (.tmp 59) (.tmp 61) 24 rfl B 3 i0 _ 1 8 Try.underlying24 hi hz0 hz1 hz2 rfl (by decide) u12 N.length (natsC N) rfl (ownsRow_exts HST2.out.nxt (by repeat (first | exact Exts.refl _ | apply Exts.andR | apply Exts.alloc | apply Exts.wext | apply Exts.drew | apply Exts.drewN))) ⟨_, 0, none⟩ 1 1 [.int .i64 v] rfl rfl (by intro j u hj; match j, hj with | 0, hj => (simp at hj; subst hj; simp [go_sem])) (int_one _) (by decide) (by unfold maxLen; omega) (by omega) (HST2.out.exts (by repeat (first | exact Exts.refl _ | apply Exts.andR | apply Exts.alloc | apply Exts.wext | apply Exts.drew | apply Exts.drewN))).bas _ rfl ?_; intro g2 cg w9 hown' hgrow hat hlt')
                    refine ⟨⟨v + 1, _, _, by omega, by omega, by go_num, (HST2.out.exts (by repeat (first | exact Exts.refl _ | apply Exts.andR | apply Exts.alloc | apply Exts.wext | apply Exts.drew | apply Exts.drewN))).app hgrow hown', HMID.out.add HU.out HFV.out hlv hv HVB.out HS.out⟩, ?_⟩
                    simp [intOf]; omega
            · obtain rfl : v = m := by omega
              go_wp2
              refine ⟨⟨k + 1, S, N, by omega, by go_num, HST.out, HMID.out.row HU.out (.inl rfl) HPI.out⟩, ?_⟩
              simp [intOf]; omega
        · obtain rfl : k = L.length := by omega
          go_wp2
          refine ⟨⟨j + 1, _, S, N, by omega, by omega, by go_num, rfl, HLV.out.next hm12 HMID.out rfl HPI.out, HST.out.turn⟩, ?_⟩
          simp [intOf]; omega
    · have b1 : decide ((j : Int) ≤ (m : Int)) = false := by simp; omega
      obtain rfl : j = m + 1 := by omega
      have HW := Lib.hid HLV.out.end
      go_wp2
      go_ret
      exact ⟨by rw [HW.out]; rfl, HX.out.trans HST.out.ext⟩
end Go.Proofs.Ytodgohilfbggjaa

/- Circle of the reference of chapter 38. No condition but a valid dimension. -/
namespace Go.Proofs.Ytodgohilfbggjaa
open Go.RowKit
set_option linter.unusedSimpArgs false
set_option linter.unusedVariables false

theorem way42_D {S : Nat → Prop} (m : Nat) (po : Option Addr) (n c : Nat) (ps : List Pr) (a b lo r : Nat) (w : World) (h : Prs S w po n c ps) (hm12 : m ≤ 12) (hin : ∀ p ∈ ps, 0 ≤ p.1 ∧ p.1 < (m : Int) ∧ 0 ≤ p.2 ∧ p.2 < (m : Int)) (ha : a < m) (hlo : lo ≤ m) (hr : wayN (pairRel ps) m lo a b = r) :
    Calls Try.prog 65 #[.agg #[.int .i64 m, .slice po n c], .int .i64 a, .int .i64 b, .int .i64 lo] w fun e w' => e = .returned (.int .i64 r) ∧ Exts w w' := by
  subst hr
  exact way42 m po n c ps a b lo w h hm12 hin ha hlo
set_option maxRecDepth 100000
set_option maxHeartbeats 4000000
theorem circle36 {S' : Nat → Prop} (m : Nat) (po : Option Addr) (n c : Nat) (ps : List Pr) (w : World) (h : Prs S' w po n c ps) (hm12 : m ≤ 12) (hin : ∀ p ∈ ps, 0 ≤ p.1 ∧ p.1 < (m : Int) ∧ 0 ≤ p.2 ∧ p.2 < (m : Int)) :
    Calls Try.prog 58 #[.agg #[.int .i64 m, .slice po n c]] w fun e w' => ∃ (C : List Nat) (ro : Option Addr) (rc : Nat), e = .returned (.slice ro C.length rc) ∧ IsCirc (pairRel ps) C ∧ Exts w w' ∧ Ints (fun b => w.heap.size ≤ b) w' ro C.length rc (C.map Int.ofNat) := by
  have hm := RowF.nle h
  unfold maxLen at hm
  have hpin : ∀ x y, pairRel ps x y = true → x < m ∧ y < m := fun x y h => by
    simp only [pairRel, List.any_eq_true, Bool.and_eq_true, beq_iff_eq] at h
    obtain ⟨p, hp, h1, h2⟩ := h
    have := hin p hp
    omega
  have HPI := Lib.hid hpin
  have HIN := Lib.hid hin
  have H := Lib.hid h
  obtain ⟨i0, hi, hz0, hz1, hz2⟩ := info_parts info3b
  clear h hpin hin
  obtain ⟨f, hf⟩ : ∃ f, pairRel ps = f := ⟨_, rfl⟩
  go_enter Try.func58, Try.ntmps58
  rw [hf] at HPI ⊢
  have HF := Lib.hid hf
  clear hf
  go_wp2
  obtain ⟨w1, hw1⟩ : ∃ w1, w.alloc (.cells #[.int .i64 m, .slice po n c] 52) = w1 := ⟨_, rfl⟩
  have HX := Lib.hid (show Exts w w1 by rw [← hw1]; exact (Exts.refl w).alloc _)
  have HP := Lib.hid (show Prs S' w1 po n c ps from RowF.exts H.out HX.out)
  have cO0 : w1.cell? ⟨w.heap.size, 0, none⟩ = some (.int .i64 m) := by rw [← hw1]; simp [go_sem]
  have cO1 : w1.cell? ⟨w.heap.size, 1, none⟩ = some (.slice po n c) := by rw [← hw1]; simp [go_sem]
  have lO : w1.heap.size = w.heap.size + 1 := by rw [← hw1]; simp
  rw [hw1]
  clear hw1 H
  go_loopw [3, 4, 5] (fun b a i wr => ∃ (s best at' : Nat), s ≤ m ∧ i = .int .i64 s ∧ b = .int .i64 best ∧ a = .int .i64 at' ∧ BestR f m s best at' ∧ Exts w1 wr) (fun _ _ i _ => m - (intOf i).toNat)
  case atStart => exact ⟨0, 0, 0, by omega, rfl, rfl, rfl, BestR.start f m, Exts.refl _⟩
  case round =>
    obtain ⟨s, best, at', hs, rfl, rfl, rfl, hb, x, rfl⟩ := hrel
    have HB := Lib.hid hb
    clear hb
    by_cases hlt : s < m
    · obtain ⟨r, hr⟩ : ∃ r, wayN f m s s s = r := ⟨_, rfl⟩
      have hr12 : r ≤ m := by rw [← hr]; exact wayN_le _ _ _ _ _
      have HR := Lib.hid (show wayN (pairRel ps) m s s s = r by rw [HF.out]; exact hr)
      have HR2 := Lib.hid hr
      clear hr
      by_cases hr0 : r = 0
      · have HN := Lib.hid (HB.out.no (.inl (HR2.out.trans hr0)))
        have q1 : decide ((0 : Int) < (r : Int)) = false := by simp; omega
        have q2 : decide (0 < r) = false := by simp; omega
        clear hr0
        go_wp2_with (first | (go_at_call 65; ((with_reducible refine (way42_D _ _ _ _ ps _ _ _ r _ (RowF.exts HP.out (by repeat (first | exact Exts.refl _ | apply Exts.andR | apply Exts.alloc | apply Exts.wext | apply Exts.drew | apply Exts.drewN))) hm12 HIN.out hlt (Nat.le_of_lt hlt) HR.out).mono ?_); rintro e w' ⟨rfl, x1, rfl⟩)))
        refine ⟨⟨s + 1, best, at', by omega, by go_num, rfl, rfl, HN.out, (by repeat (first | exact Exts.refl _ | apply Exts.andR | apply Exts.alloc | apply Exts.wext | apply Exts.drew | apply Exts.drewN))⟩, ?_⟩
        simp [intOf]; omega

      · have q1 : decide ((0 : Int) < (r : Int)) = true := by simp; omega
        have q2 : decide (0 < r) = true := by simp; omega
        by_cases hb0 : best = 0
        · have HN := Lib.hid (HB.out.yes (by rw [HR2.out]; omega) (.inl hb0))
          rw [HR2.out] at HN
          subst hb0
          clear hr0
          go_wp2_with (first | (go_at_call 65; ((with_reducible refine (way42_D _ _ _ _ ps _ _ _ r _ (RowF.exts HP.out (by repeat (first | exact Exts.refl _ | apply Exts.andR | apply Exts.alloc | apply Exts.wext | apply Exts.drew | apply Exts.drewN))) hm12 HIN.out hlt (Nat.le_of_lt hlt) HR.out).mono ?_); rintro e w' ⟨rfl, x1, rfl⟩)))
          refine ⟨⟨s + 1, r, s, by omega, by go_num, rfl, rfl, HN.out, (by repeat (first | exact Exts.refl _ | apply Exts.andR | apply Exts.alloc | apply Exts.wext | apply Exts.drew | apply Exts.drewN))⟩, ?_⟩
          simp [intOf]; omega

        · have q3 : ((best : Int) == 0) = false := by simp; omega
          have q4 : (best == 0) = false := by simpa using hb0
          by_cases hrb : r < best
          · have HN := Lib.hid (HB.out.yes (by rw [HR2.out]; omega) (.inr (by rw [HR2.out]; exact hrb)))
            rw [HR2.out] at HN
            have q5 : decide ((r : Int) < (best : Int)) = true := by simp; omega
            have q6 : decide (r < best) = true := by simp; omega
            clear hr0 hb0 hrb
            go_wp2_with (first | (go_at_call 65; ((with_reducible refine (way42_D _ _ _ _ ps _ _ _ r _ (RowF.exts HP.out (by repeat (first | exact Exts.refl _ | apply Exts.andR | apply Exts.alloc | apply Exts.wext | apply Exts.drew | apply Exts.drewN))) hm12 HIN.out hlt (Nat.le_of_lt hlt) HR.out).mono ?_); rintro e w' ⟨rfl, x1, rfl⟩)))
            refine ⟨⟨s + 1, r, s, by omega, by go_num, rfl, rfl, HN.out, (by repeat (first | exact Exts.refl _ | apply Exts.andR | apply Exts.alloc | apply Exts.wext | apply Exts.drew | apply Exts.drewN))⟩, ?_⟩
            simp [intOf]; omega

          · have HN := Lib.hid (HB.out.no (.inr ⟨hb0, by rw [HR2.out]; omega⟩))
            have q5 : decide ((r : Int) < (best : Int)) = false := by simp; omega
            have q6 : decide (r < best) = false := by simp; omega
            clear hr0 hb0 hrb
            go_wp2_with (first | (go_at_call 65; ((with_reducible refine (way42_D _ _ _ _ ps _ _ _ r _ (RowF.exts HP.out (by repeat (first | exact Exts.refl _ | apply Exts.andR | apply Exts.alloc | apply Exts.wext | apply Exts.drew | apply Exts.drewN))) hm12 HIN.out hlt (Nat.le_of_lt hlt) HR.out).mono ?_); rintro e w' ⟨rfl, x1, rfl⟩)))
            refine ⟨⟨s + 1, best, at', by omega, by go_num, rfl, rfl, HN.out, (by repeat (first | exact Exts.refl _ | apply Exts.andR | apply Exts.alloc | apply Exts.wext | apply Exts.drew | apply Exts.drewN))⟩, ?_⟩
            simp [intOf]; omega

    · obtain rfl : m = s := by omega
      by_cases hb0 : best = 0
      · subst hb0
        have HR := Lib.hid (HB.out.none HPI.out)
        go_wp2
        go_ret
        exact ⟨[], none, 0, rfl, .inl ⟨rfl, HR.out⟩, HX.out.trans (by repeat (first | exact Exts.refl _ | apply Exts.andR | apply Exts.alloc | apply Exts.wext | apply Exts.drew | apply Exts.drewN)), RowF.nil _ _ _⟩
      · have hle := HB.out.le
        have hmin := HB.out.min hb0 hm12 HPI.out
        have HM := Lib.hid hmin
        have hat : at' < m := (HB.out.pos hb0).1
        have hpos := hmin.pos
        have q1 : ((best : Int) == 0) = false := by simp; omega
        have q2 : (best == 0) = false := by simpa using hb0
        clear hmin hb0
        obtain ⟨d, hd⟩ := isDist_ex f at'
        have HD := Lib.hid hd
        clear hd
        go_wp2
        go_loopg [7] best (fun k o wr => ∃ (C : List Nat) (last : Nat), CirPre f best at' d C last ∧ best - C.length ≤ k ∧ Exts w1 wr ∧ wr.ownsRow w1.heap.size 3 1 o C.length (intsC (C.map Int.ofNat)))
        case atStart =>
          refine ⟨[at'], at', CirPre.start HM.out, by simp, (by repeat (first | exact Exts.refl _ | apply Exts.andR | apply Exts.alloc | apply Exts.wext | apply Exts.drew | apply Exts.drewN)), ⟨by simp, .inr ⟨w1.heap.size + x.bs.size, 1, #[.int .i64 at'], by simp [lO], by omega, ?_, Nat.le_refl _, by decide, rfl, rfl⟩⟩⟩
          rw [heap_alloc_if, if_neg (by simp), if_pos (by simp)]
        case round =>
          obtain ⟨C, last, hcp, hk, hwr, hown⟩ := hrel
          obtain ⟨q, hq⟩ : ∃ q, C.length = q + 1 := ⟨C.length - 1, by have := hcp.len; omega⟩
          obtain ⟨_, ⟨h1, _⟩ | ⟨g, cap, cur, rfl, hgb, hg, hcap, hmax, hcs, htk⟩⟩ := id hown
          · omega
          · have HCP := Lib.hid hcp
            have HO := Lib.hid hown
            have HWR := Lib.hid hwr
            have HQ := Lib.hid hq
            have hl12 := hcp.lt
            have hle := hcp.le
            have HK := Lib.hid hk
            have cl : wr.cell? ⟨g, q, none⟩ = some (.int .i64 last) := by
              have h2 := hcp.lst
              rw [hq, Nat.add_sub_cancel] at h2
              have h3 : (intsC (C.map Int.ofNat))[q]? = some (.int .i64 last) := by simp [intsC, h2]
              rw [← htk, List.getElem?_take_of_lt (by omega)] at h3
              rw [cell_of_row wr g q cur 3 (0, 0) hg]
              simpa using h3
            have lg : g < wr.heap.size := (Array.getElem?_eq_some_iff.1 hg).1
            have lm : w.heap.size < wr.heap.size := by have := hwr.below.size; omega
            have cO0' := Exts.cell hwr cO0
            have cO1' := Exts.cell hwr cO1
            have HPw := Lib.hid (show Prs S' wr po n c ps from RowF.exts HP.out hwr)
            have HGB := Lib.hid hgb
            have HBAS := Lib.hid (show w1.heap.size ≤ wr.heap.size from hwr.below.size)
            rw [hq] at hle ⊢
            clear hcp hown hwr hq hg hcs htk hk
            by_cases hlt : q + 1 < best
            · obtain ⟨c', hc1, hc2, hc3, hc4⟩ := HCP.out.ex HM.out HD.out (by rw [HQ.out]; exact hlt)
              rw [HQ.out] at hc4
              have hcm := (HPI.out _ _ hc3).2
              have hlm := (HPI.out _ _ hc3).1
              have hca : at' + 1 ≤ c' := by
                by_cases he : c' = at'
                · rw [he, HD.out.zero] at hc4; omega
                · omega
              have qlt : decide ((q : Int) + 1 < (best : Int)) = true := by simp; omega
              have HC3 := Lib.hid hc3
              have HC4 := Lib.hid hc4
              clear hc3 hc4
              go_wp2
              go_loopg [7, 9] 12 (fun k o i wr2 => ∃ v, at' + 1 ≤ v ∧ v ≤ c' ∧ i = .int .i64 v ∧ o = .slice (some ⟨g, 0, none⟩) (q + 1) cap ∧ Exts wr wr2 ∧ 12 - v ≤ k ∧ ∀ z, at' ≤ z → z < v → ¬ (f last z = true ∧ d z = best - (q + 1)))
              case atStart =>
                refine ⟨at' + 1, Nat.le_refl _, hca, by go_num, rfl, Exts.refl _, by omega, fun z h1 h2 => ?_⟩
                obtain rfl : z = at' := by omega
                rw [HD.out.zero]
                omega
              case round =>
                obtain ⟨v, hv1, hv2, rfl, rfl, ⟨y, rfl⟩, hvk, hinz⟩ := hrel
                have HI := Lib.hid hinz
                clear hinz
                have hvm : v < m := by omega
                have hne : v ≠ at' := by omega
                have HNE := Lib.hid hne
                clear hne
                cases hfv : f last v with
                | false =>
                  have HFV := Lib.hid hfv
                  have HR := Lib.hid (show pairRel ps last v = false by rw [HF.out]; exact hfv)
                  clear hfv
                  go_wp2_with (first | (go_at_call 66; ((with_reducible refine (has43_D _ _ _ _ ps _ _ _ _ (RowF.exts HPw.out (by repeat (first | exact Exts.refl _ | apply Exts.andR | apply Exts.alloc | apply Exts.wext | apply Exts.drew | apply Exts.drewN))) HR.out).mono ?_); rintro e w' ⟨rfl, x1, rfl⟩)))
                  go_roundg (12 - (v + 1))
                  case measure => omega
                  case rel =>
                    refine ⟨v + 1, by omega, ?_, by go_num, rfl, (by repeat (first | exact Exts.refl _ | apply Exts.andR | apply Exts.alloc | apply Exts.wext | apply Exts.drew | apply Exts.drewN)), Nat.le_refl _, fun z h1 h2 => ?_⟩
                    · by_cases hvc : v = c'
                      · have := HC3.out
                        rw [← hvc, HFV.out] at this
                        cases this
                      · omega
                    · by_cases hz : z = v
                      · rw [hz]
                        rintro ⟨h3, h4⟩
                        rw [HFV.out] at h3; cases h3
                      · exact HI.out z h1 (by omega)
                | true =>
                  have HFV := Lib.hid hfv
                  have HR := Lib.hid (show pairRel ps last v = true by rw [HF.out]; exact hfv)
                  clear hfv
                  obtain ⟨r, hr⟩ : ∃ r, wayN f m at' v at' = r := ⟨_, rfl⟩
                  have hr12 : r ≤ m := by rw [← hr]; exact wayN_le _ _ _ _ _
                  have HRW := Lib.hid (show wayN (pairRel ps) m at' v at' = r by rw [HF.out]; exact hr)
                  have HWD := Lib.hid (show r = best - (q + 1) ↔ d v = best - (q + 1) by rw [← hr]; exact way_dist HD.out (by omega) (by omega) HNE.out hm12 (by omega) (by omega))
                  clear hr
                  by_cases he : r = best - (q + 1)
                  · have q3 : ((r : Int) == (best : Int) - ((q : Int) + 1)) = true := by simp; omega
                    have HN := Lib.hid (HCP.out.snoc HM.out HD.out (by rw [HQ.out]; exact hlt) ⟨by omega, by omega, HFV.out, by rw [HQ.out]; exact HWD.out.1 he, by rw [HQ.out]; exact HI.out⟩)
                    clear he
                    go_wp2_with (first | (go_at_call 66; ((with_reducible refine (has43_D _ _ _ _ ps _ _ _ _ (RowF.exts HPw.out (by repeat (first | exact Exts.refl _ | apply Exts.andR | apply Exts.alloc | apply Exts.wext | apply Exts.drew | apply Exts.drewN))) HR.out).mono ?_); rintro e w' ⟨rfl, x1, rfl⟩)) | (go_at_call 65; ((with_reducible refine (way42_D _ _ _ _ ps _ _ _ r _ (RowF.exts HPw.out (by repeat (first | exact Exts.refl _ | apply Exts.andR | apply Exts.alloc | apply Exts.wext | apply Exts.drew | apply Exts.drewN))) hm12 HIN.out hvm (by omega) HRW.out).mono ?_); rintro e w' ⟨rfl, x2, rfl⟩)) | (at_builtin; refine wpList_append_lies _ rfl (.tmp 72) (.tmp 74) 24 rfl w1.heap.size 3 i0 _ 1 8 Try.underlying24 hi hz0 hz1 hz2 rfl (by decide) (.slice (some ⟨g, 0, none⟩) (q + 1) cap) (q + 1) (intsC (C.map Int.ofNat)) rfl (ownsRow_exts (HQ.out ▸ HO.out) (by repeat (first | exact Exts.refl _ | apply Exts.andR | apply Exts.alloc | apply Exts.wext | apply Exts.drew | apply Exts.drewN))) ⟨_, 0, none⟩ 1 1 [.int .i64 v] rfl rfl (by intro j u hj; match j, hj with | 0, hj => (simp at hj; subst hj; simp [go_sem])) (int_one _) (by decide) (by unfold maxLen; omega) (by omega) (by have := HBAS.out; simp; omega) _ rfl ?_; intro g2 cg w9 hown' hgrow hat9 hlt'))
                    go_roundg (best - (q + 2))
                    case measure =>
                      have h1 := HK.out
                      rw [HQ.out] at h1
                      omega
                    case rel =>
                      have hlen : (C ++ [v]).length = q + 1 + 1 := by rw [List.length_append, HQ.out]; rfl
                      refine ⟨C ++ [v], v, HN.out, by rw [hlen]; omega, exts_of_grown (W := w1) (HWR.out.trans (by repeat (first | exact Exts.refl _ | apply Exts.andR | apply Exts.alloc | apply Exts.wext | apply Exts.drew | apply Exts.drewN))) hgrow (fun b hb => by cases hb; exact HGB.out), by rw [hlen, List.map_append, show intsC (List.map Int.ofNat C ++ List.map Int.ofNat [v]) = intsC (List.map Int.ofNat C) ++ [.int .i64 (v : Int)] by simp [intsC]]; exact hown'⟩
                  · have q3 : ((r : Int) == (best : Int) - ((q : Int) + 1)) = false := by simp; omega
                    have HE := Lib.hid (show ¬ d v = best - (q + 1) from fun hc => he (HWD.out.2 hc))
                    clear he
                    go_wp2_with (first | (go_at_call 66; ((with_reducible refine (has43_D _ _ _ _ ps _ _ _ _ (RowF.exts HPw.out (by repeat (first | exact Exts.refl _ | apply Exts.andR | apply Exts.alloc | apply Exts.wext | apply Exts.drew | apply Exts.drewN))) HR.out).mono ?_); rintro e w' ⟨rfl, x1, rfl⟩)) | (go_at_call 65; ((with_reducible refine (way42_D _ _ _ _ ps _ _ _ r _ (RowF.exts HPw.out (by repeat (first | exact Exts.refl _ | apply Exts.andR | apply Exts.alloc | apply Exts.wext | apply Exts.drew | apply Exts.drewN))) hm12 HIN.out hvm (by omega) HRW.out).mono ?_); rintro e w' ⟨rfl, x2, rfl⟩)))
                    go_roundg (12 - (v + 1))
                    case measure => omega
                    case rel =>
                      refine ⟨v + 1, by omega, ?_, by go_num, rfl, (by repeat (first | exact Exts.refl _ | apply Exts.andR | apply Exts.alloc | apply Exts.wext | apply Exts.drew | apply Exts.drewN)), Nat.le_refl _, fun z h1 h2 => ?_⟩
                      · by_cases hvc : v = c'
                        · exact absurd (hvc ▸ HC4.out) HE.out
                        · omega
                      · by_cases hz : z = v
                        · rw [hz]
                          rintro ⟨h3, h4⟩
                          exact HE.out h4
                        · exact HI.out z h1 (by omega)
            · have hqb : q + 1 = best := by omega
              go_wp2
              go_ret
              exact ⟨C, some ⟨g, 0, none⟩, cap, by rw [HQ.out]; rfl, .inr ⟨best, at', d, last, HM.out, HD.out, by rw [HQ.out]; exact hqb, HCP.out⟩, HX.out.trans HWR.out, (RowF.of_owns HO.out).mono fun b hb => by omega⟩
end Go.Proofs.Ytodgohilfbggjaa
