/- Below is reflexive, transitive and antisymmetric; a join is the least bound. Plain. -/
import Derived.Test.YtbafcfbchbjgfaaJoins
namespace Go.Proofs.Ytbafcfbchbjgfaa
open Go.RowKit
set_option linter.unusedSimpArgs false
set_option linter.unusedVariables false

theorem closed_ok {V : Int} {ps : List Pr} (h : (closedD V ps).2 = true) : ∃ g, closedD V ps = (g, true) := ⟨(closedD V ps).1, Prod.ext rfl h⟩
theorem cyc_no {f : Rel} (h : cycB (clR f) = false) {u : Nat} (hu : u < 12) : ¬ Reach f u u := fun hr => by
  have : cycB (clR f) = true := by
    simp only [cycB, List.any_eq_true, List.mem_range]
    exact ⟨u, hu, clR_iff.2 hr⟩
  rw [h] at this
  cases this
theorem valid_le {V : Int} {ps : List Pr} (h : validB V ps = true) : V ≤ 12 := by
  simp only [validB, Bool.and_eq_true, decide_eq_true_eq] at h
  exact h.1.2
theorem at_iff {V : Int} {ps : List Pr} {a b : Int} (h : (closedD V ps).2 = true) : atD V ps a b = true ↔ (0 ≤ a ∧ a < V) ∧ (0 ≤ b ∧ b < V) ∧ (Reach (pairRel ps) a.toNat b.toNat ∨ a = b) := by
  obtain ⟨g, hg⟩ := closed_ok h
  obtain ⟨hv, hc, rfl⟩ := closed_valid hg
  unfold atD
  rw [hg]
  simp only [inV, diagR, Bool.true_and, Bool.and_eq_true, decide_eq_true_eq, Bool.or_eq_true, beq_iff_eq, clR_iff]
  constructor
  · rintro ⟨h1, h2, h3 | ⟨h3, _⟩⟩
    · exact ⟨h1, h2, .inl h3⟩
    · exact ⟨h1, h2, .inr (by omega)⟩
  · rintro ⟨h1, h2, h3 | h3⟩
    · exact ⟨h1, h2, .inl h3⟩
    · exact ⟨h1, h2, .inr ⟨by omega, by omega⟩⟩
theorem at_refl {V : Int} {ps : List Pr} {a : Int} (h : (closedD V ps).2 = true) (ha : inV V a = true) : atD V ps a a = true := by
  simp only [inV, Bool.and_eq_true, decide_eq_true_eq] at ha
  exact (at_iff h).2 ⟨ha, ha, .inr rfl⟩
theorem at_trans {V : Int} {ps : List Pr} {a b c : Int} (h : (closedD V ps).2 = true) (h1 : atD V ps a b = true) (h2 : atD V ps b c = true) : atD V ps a c = true := by
  rw [at_iff h] at *
  obtain ⟨ha, hb, h1⟩ := h1
  obtain ⟨_, hc, h2⟩ := h2
  refine ⟨ha, hc, ?_⟩
  rcases h1 with h1 | rfl
  · rcases h2 with h2 | rfl
    · exact .inl (h1.trans h2)
    · exact .inl h1
  · exact h2
theorem at_anti {V : Int} {ps : List Pr} {a b : Int} (h : (closedD V ps).2 = true) (h1 : atD V ps a b = true) (h2 : atD V ps b a = true) : a = b := by
  obtain ⟨g, hg⟩ := closed_ok h
  obtain ⟨hv, hcy, _⟩ := closed_valid hg
  have hV := valid_le hv
  rw [at_iff h] at *
  obtain ⟨ha, hb, h1⟩ := h1
  obtain ⟨_, _, h2⟩ := h2
  rcases h1 with h1 | h1
  · rcases h2 with h2 | h2
    · exact absurd (h1.trans h2) (cyc_no hcy (by omega))
    · exact h2.symm
  · exact h1
theorem right_at {D : List Dm} (hr : rightD D = true) {i : Nat} {V : Int} {ps : List Pr} (hd : D[i]? = some (V, ps)) : (closedD V ps).2 = true := by
  simp only [rightD, Bool.and_eq_true, List.all_eq_true] at hr
  exact hr.1 _ (List.mem_of_getElem? hd)
theorem below_iff {D : List Dm} {a b : List Int} (hr : rightD D = true) (ha : inD D a = true) (hb : inD D b = true) : belowD D a b = true ↔ ∀ (i : Nat) V ps x y, D[i]? = some (V, ps) → a[i]? = some x → b[i]? = some y → atD V ps x y = true := by
  have hv : vecD D a b = true := by simp [vecD, hr, ha, hb]
  have h1 := (inD_iff.1 ha).1
  have h2 := (inD_iff.1 hb).1
  unfold belowD blocksD
  rw [if_pos hv, hv, Bool.true_and, List.isEmpty_iff, blkK, List.map_eq_nil_iff, List.filter_eq_nil_iff]
  constructor
  · intro h i V ps x y hd hx hy
    have := h i (by simpa using (List.getElem?_eq_some_iff.1 hd).1)
    rw [atI_of hd hx hy] at this
    simpa using this
  · intro h i hi
    have hi := List.mem_range.1 hi
    have hd : D[i]? = some (D[i].1, D[i].2) := List.getElem?_eq_getElem hi
    have hx : a[i]? = some (a[i]'(by omega)) := List.getElem?_eq_getElem (by omega)
    have hy : b[i]? = some (b[i]'(by omega)) := List.getElem?_eq_getElem (by omega)
    rw [atI_of hd hx hy, h i _ _ _ _ hd hx hy]
    decide
theorem in_at {D : List Dm} {a : List Int} (ha : inD D a = true) {i : Nat} {V : Int} {ps : List Pr} (hd : D[i]? = some (V, ps)) : ∃ x, a[i]? = some x ∧ inV V x = true := by
  have h1 := (inD_iff.1 ha).1
  have hi := (List.getElem?_eq_some_iff.1 hd).1
  have hx : a[i]? = some (a[i]'(by omega)) := List.getElem?_eq_getElem (by omega)
  exact ⟨_, hx, (inD_iff.1 ha).2 i _ _ hd hx⟩
theorem below_refl {D : List Dm} {a : List Int} (hr : rightD D = true) (ha : inD D a = true) : belowD D a a = true := (below_iff hr ha ha).2 fun i V ps x y hd hx hy => by
  rw [hx] at hy
  cases hy
  exact at_refl (right_at hr hd) ((inD_iff.1 ha).2 i _ _ hd hx)
theorem below_trans {D : List Dm} {a b c : List Int} (hr : rightD D = true) (ha : inD D a = true) (hb : inD D b = true) (hc : inD D c = true) (h1 : belowD D a b = true) (h2 : belowD D b c = true) : belowD D a c = true := (below_iff hr ha hc).2 fun i V ps x y hd hx hy => by
  obtain ⟨z, hz, _⟩ := in_at hb hd
  exact at_trans (right_at hr hd) ((below_iff hr ha hb).1 h1 i V ps x z hd hx hz) ((below_iff hr hb hc).1 h2 i V ps z y hd hz hy)
theorem below_anti {D : List Dm} {a b : List Int} (hr : rightD D = true) (ha : inD D a = true) (hb : inD D b = true) (h1 : belowD D a b = true) (h2 : belowD D b a = true) : a = b := by
  have l1 := (inD_iff.1 ha).1
  have l2 := (inD_iff.1 hb).1
  apply List.ext_getElem? 
  intro i
  by_cases hi : i < D.length
  · have hd : D[i]? = some (D[i].1, D[i].2) := List.getElem?_eq_getElem hi
    obtain ⟨x, hx, _⟩ := in_at ha hd
    obtain ⟨y, hy, _⟩ := in_at hb hd
    rw [hx, hy, at_anti (right_at hr hd) ((below_iff hr ha hb).1 h1 i _ _ x y hd hx hy) ((below_iff hr hb ha).1 h2 i _ _ y x hd hy hx)]
  · rw [List.getElem?_eq_none (by omega), List.getElem?_eq_none (by omega)]
theorem vec_of {D : List Dm} {a b : List Int} (hr : rightD D = true) (ha : inD D a = true) (hb : inD D b = true) : vecD D a b = true := by simp [vecD, hr, ha, hb]
theorem below_blocks {D : List Dm} {a b : List Int} (hr : rightD D = true) (ha : inD D a = true) (hb : inD D b = true) {r : Bool} (h : belowD D a b = r) : (blocksD D a b).isEmpty = r := by
  unfold belowD at h
  rw [vec_of hr ha hb, Bool.true_and] at h
  exact h
/-! Joins. -/
theorem least_comm (g : Rel) (u v c k : Nat) : leastK g u v c k = leastK g v u c k := by
  unfold leastK
  rw [Bool.and_comm (g u c)]
  congr 2
  funext d
  rw [Bool.or_comm (!g u d)]
theorem join_comm (V : Int) (ps : List Pr) (a b : Int) : joinD V ps a b = joinD V ps b a := by
  unfold joinD joinF
  rw [Bool.and_comm (inV V a)]
  congr 4
  funext c
  exact least_comm ..
theorem join_some {V : Int} {ps : List Pr} {a b x : Int} (h : joinD V ps a b = (x, true)) : ∃ c : Nat, x = c ∧ c < V.toNat ∧ (closedD V ps).2 = true ∧ inV V a = true ∧ inV V b = true ∧ leastK (closedD V ps).1 a.toNat b.toNat c V.toNat = true := by
  unfold joinD at h
  split at h
  · rename_i hc
    simp only [Bool.and_eq_true] at hc
    generalize hj : joinF (closedD V ps).1 V.toNat a.toNat b.toNat = o at h
    match o, h with
    | some c, h =>
      simp only [outO, Prod.mk.injEq, and_true] at h
      have h2 := List.find?_some hj
      have h3 := List.mem_range.1 (List.mem_of_find?_eq_some hj)
      exact ⟨c, h.symm, h3, hc.1, hc.2.1, hc.2.2, h2⟩
    | none, h => simp [outO] at h
  · simp at h
theorem at_of {V : Int} {ps : List Pr} {a : Int} {c : Nat} (h : (closedD V ps).2 = true) (ha : inV V a = true) (hc : c < V.toNat) (hg : (closedD V ps).1 a.toNat c = true) : atD V ps a c = true := by
  unfold atD
  rw [h, ha, Int.toNat_natCast, hg]
  simp [inV]
  omega
theorem of_at {V : Int} {ps : List Pr} {a b : Int} (h : atD V ps a b = true) : inV V a = true ∧ inV V b = true ∧ (closedD V ps).1 a.toNat b.toNat = true := by
  simp only [atD, Bool.and_eq_true] at h
  exact h.2
theorem join_spec {V : Int} {ps : List Pr} {a b x : Int} (h : joinD V ps a b = (x, true)) : inV V x = true ∧ atD V ps a x = true ∧ atD V ps b x = true ∧ ∀ d, atD V ps a d = true → atD V ps b d = true → atD V ps x d = true := by
  obtain ⟨c, rfl, hc, hok, ha, hb, hl⟩ := join_some h
  simp only [leastK, Bool.and_eq_true, List.all_eq_true, List.mem_range] at hl
  refine ⟨by simp [inV]; omega, at_of hok ha hc hl.1.1, at_of hok hb hc hl.1.2, fun d h1 h2 => ?_⟩
  have h1 := of_at h1
  have h2 := of_at h2
  have hd : 0 ≤ d ∧ d < V := by simpa [inV] using h1.2.1
  have := hl.2 d.toNat (by omega)
  rw [h1.2.2, h2.2.2] at this
  unfold atD
  rw [hok, h1.2.1, Bool.true_and, Bool.true_and, Bool.and_eq_true]
  exact ⟨by simp [inV]; omega, by simpa using this⟩
theorem join_le {V : Int} {ps : List Pr} {a b : Int} (h : atD V ps a b = true) : joinD V ps a b = (b, true) := by
  have hok : (closedD V ps).2 = true := by
    simp only [atD, Bool.and_eq_true] at h
    exact h.1
  obtain ⟨ha, hb, hg⟩ := of_at h
  have hb' : 0 ≤ b ∧ b < V := by simpa [inV] using hb
  have hbb := (of_at (at_refl hok hb)).2.2
  have key : joinF (closedD V ps).1 V.toNat a.toNat b.toNat = some b.toNat := find_range (by omega) (fun i hi => Bool.eq_false_iff.2 fun hc => by
      simp only [leastK, Bool.and_eq_true, List.all_eq_true, List.mem_range] at hc
      have h1 := hc.2 b.toNat (by omega)
      rw [hg, hbb] at h1
      have h2 : atD V ps (i : Int) b = true := by
        unfold atD
        rw [hok, hb, Bool.true_and, Bool.true_and, Bool.and_eq_true]
        exact ⟨by simp [inV]; omega, by simpa using h1⟩
      have h3 : atD V ps b (i : Int) = true := at_of hok hb (by omega) hc.1.2
      have := at_anti hok h2 h3
      omega) (by
      simp only [leastK, Bool.and_eq_true, List.all_eq_true, List.mem_range, Bool.or_eq_true, Bool.not_eq_true']
      refine ⟨⟨hg, hbb⟩, fun d _ => ?_⟩
      cases (closedD V ps).1 b.toNat d <;> simp)
  unfold joinD
  rw [hok, ha, hb, if_pos (show (true && (true && true)) = true from rfl), key]
  simp only [outO, Prod.mk.injEq, and_true]
  omega
theorem jnI_comm (D : List Dm) (a b : List Int) (i : Nat) : jnI D a b i = jnI D b a i := by
  unfold jnI
  cases D[i]? <;> cases a[i]? <;> cases b[i]? <;> try rfl
  exact join_comm ..
theorem joins_comm (D : List Dm) (a b : List Int) : joinsD D a b = joinsD D b a := by
  have h1 : jnI D a b = jnI D b a := funext (jnI_comm D a b)
  have h2 : vecD D a b = vecD D b a := by unfold vecD; rw [Bool.and_comm (inD D a)]
  unfold joinsD jnB jnK
  rw [h1, h2]
theorem joins_some {D : List Dm} {a b js : List Int} (h : joinsD D a b = (js, true)) : js.length = D.length ∧ ∀ (i : Nat) V ps x y, D[i]? = some (V, ps) → a[i]? = some x → b[i]? = some y → ∃ z, js[i]? = some z ∧ joinD V ps x y = (z, true) := by
  unfold joinsD at h
  split at h
  · rename_i hc
    simp only [Prod.mk.injEq, and_true] at h
    subst h
    simp only [jnB, Bool.and_eq_true, List.all_eq_true, List.mem_range] at hc
    refine ⟨by simp, fun i V ps x y hd hx hy => ?_⟩
    have hi := (List.getElem?_eq_some_iff.1 hd).1
    have h2 := hc.2 i hi
    rw [jnI_of hd hx hy] at h2
    refine ⟨(joinD V ps x y).1, ?_, Prod.ext rfl h2⟩
    simp [jnK, hi, jnI_of hd hx hy]
  · simp at h
theorem joins_nil {D : List Dm} {a b js : List Int} (h : joinsD D a b = (js, false)) : js = [] := by
  unfold joinsD at h
  split at h
  · simp at h
  · simp at h; exact h
theorem joins_in {D : List Dm} {a b js : List Int} (ha : inD D a = true) (hb : inD D b = true) (h : joinsD D a b = (js, true)) : inD D js = true := by
  obtain ⟨h1, h2⟩ := joins_some h
  refine inD_iff.2 ⟨h1, fun i d z hd hz => ?_⟩
  obtain ⟨V, ps⟩ := d
  obtain ⟨x, hx, _⟩ := in_at ha hd
  obtain ⟨y, hy, _⟩ := in_at hb hd
  obtain ⟨z', hz', hj⟩ := h2 i V ps x y hd hx hy
  rw [hz] at hz'
  cases hz'
  exact (join_spec hj).1
theorem joins_above {D : List Dm} {a b js : List Int} (hr : rightD D = true) (ha : inD D a = true) (hb : inD D b = true) (h : joinsD D a b = (js, true)) : belowD D a js = true ∧ belowD D b js = true := by
  obtain ⟨h1, h2⟩ := joins_some h
  constructor
  · refine (below_iff hr ha (joins_in ha hb h)).2 fun i V ps x z hd hx hz => ?_
    obtain ⟨y, hy, _⟩ := in_at hb hd
    obtain ⟨z', hz', hj⟩ := h2 i V ps x y hd hx hy
    rw [hz] at hz'
    cases hz'
    exact (join_spec hj).2.1
  · refine (below_iff hr hb (joins_in ha hb h)).2 fun i V ps y z hd hy hz => ?_
    obtain ⟨x, hx, _⟩ := in_at ha hd
    obtain ⟨z', hz', hj⟩ := h2 i V ps x y hd hx hy
    rw [hz] at hz'
    cases hz'
    exact (join_spec hj).2.2.1
theorem joins_least {D : List Dm} {a b c js : List Int} (hr : rightD D = true) (ha : inD D a = true) (hb : inD D b = true) (hc : inD D c = true) (h : joinsD D a b = (js, true)) (h3 : belowD D a c = true) (h4 : belowD D b c = true) : belowD D js c = true := by
  obtain ⟨h1, h2⟩ := joins_some h
  refine (below_iff hr (joins_in ha hb h) hc).2 fun i V ps z d hd hz hcd => ?_
  obtain ⟨x, hx, _⟩ := in_at ha hd
  obtain ⟨y, hy, _⟩ := in_at hb hd
  obtain ⟨z', hz', hj⟩ := h2 i V ps x y hd hx hy
  rw [hz] at hz'
  cases hz'
  exact (join_spec hj).2.2.2 d ((below_iff hr ha hc).1 h3 i V ps x d hd hx hcd) ((below_iff hr hb hc).1 h4 i V ps y d hd hy hcd)
theorem joins_le {D : List Dm} {a b : List Int} (hr : rightD D = true) (ha : inD D a = true) (hb : inD D b = true) (h : belowD D a b = true) : joinsD D a b = (b, true) := by
  have l1 := (inD_iff.1 ha).1
  have l2 := (inD_iff.1 hb).1
  have key : ∀ i, i < D.length → ∃ y, b[i]? = some y ∧ jnI D a b i = (y, true) := fun i hi => by
    have hd : D[i]? = some (D[i].1, D[i].2) := List.getElem?_eq_getElem hi
    obtain ⟨x, hx, _⟩ := in_at ha hd
    obtain ⟨y, hy, _⟩ := in_at hb hd
    exact ⟨y, hy, (jnI_of hd hx hy).trans (join_le ((below_iff hr ha hb).1 h i _ _ x y hd hx hy))⟩
  rw [joins_yes (vec_of hr ha hb) fun i hi => by obtain ⟨y, _, h⟩ := key i hi; rw [h]]
  refine Prod.ext (List.ext_getElem? fun i => ?_) rfl
  by_cases hi : i < D.length
  · obtain ⟨y, hy, hj⟩ := key i hi
    rw [hy]
    simp [jnK, hi, hj]
  · rw [List.getElem?_eq_none (l := b) (by omega)]
    exact List.getElem?_eq_none (by rw [jnK_len]; omega)
end Go.Proofs.Ytbafcfbchbjgfaa
