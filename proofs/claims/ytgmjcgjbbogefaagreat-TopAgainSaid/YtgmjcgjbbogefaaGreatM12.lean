/- Lemmas that the laws of this seat share, 4 texts in one: IsVec, Keeps, Maps, Check. No condition of their own. -/
import Derived.Test.YtgmjcgjbbogefaaGreatM11
import Derived.Test.YtgmjcgjbbogefaaGreatM7
import Derived.BigRegion
import Derived.Test.YtgmjcgjbbogefaaGreatM1
import Derived.Maps.OwnOps
import Derived.Maps.OwnSet
/- isVector, blocks and keeps of package precedent. No condition but that the closures lie there. -/
namespace Go.Proofs.YtgmjcgjbbogefaaGreat
open Go.RowKit
set_option linter.unusedSimpArgs false
set_option linter.unusedVariables false
set_option maxRecDepth 100000
set_option maxHeartbeats 2000000
theorem isVector32 {S : Nat → Prop} (mo ao : Option Addr) (n mc na ca : Nat) (D : List Dm) (al : List Int) (w : World) (h : Ords w mo n mc D) (ha : Ints S w ao na ca al) :
    Calls Tryz.prog 27 #[.slice mo n mc, .slice ao na ca] w fun e w' => e = .returned (.bool (inD D al)) ∧ Exts w w' := by
  have hm := h.nle
  have hma := RowF.nle ha
  unfold maxLen at hm hma
  have hl := h.1
  have hla := ints_len ha
  have H := Lib.hid h
  have HA := Lib.hid ha
  have HL := Lib.hid hl
  have HLA := Lib.hid hla
  clear h ha hl hla
  by_cases hne : na = n
  · subst hne
    go_enter Tryz.func27, Tryz.ntmps27
    go_wp2
    go_loopw [14] (fun i wr => ∃ (k : Nat), k ≤ na ∧ i = .int .i64 k ∧ Exts w wr ∧ ∀ (i : Nat) (d : Dm) (x : Int), i < k → D[i]? = some d → al[i]? = some x → inV d.1 x = true) (fun i _ => na - (intOf i).toNat)
    case atStart => exact ⟨0, by omega, rfl, Exts.refl _, fun i d x hi => by omega⟩
    case round =>
      obtain ⟨k, hk, rfl, ⟨x, rfl⟩, hin⟩ := hrel
      have HI := Lib.hid hin
      clear hin
      by_cases hlt : k < na
      · obtain ⟨b, off, m, ps, g, b2, o2, rc, rb, rof, rcap, rfl, hb, hd, hg, e0, _⟩ := H.out.get hlt
        obtain ⟨b1, off1, xa, rfl, hb1, hxa, f1⟩ := ints_get HA.out hlt
        have HD := Lib.hid hd
        have HXA := Lib.hid hxa
        clear hd hxa hg
        by_cases h0 : xa < 0
        · have q1 : decide (xa < 0) = true := by simpa using h0
          have HR := Lib.hid (inD_no HD.out HXA.out (by omega))
          go_wp2
          go_ret
          exact ⟨by rw [HR.out]; rfl, (by repeat (first | exact Exts.refl _ | apply Exts.andR | apply Exts.alloc | apply Exts.wext | apply Exts.drew | apply Exts.drewN))⟩
        · have q1 : decide (xa < 0) = false := by simpa using h0
          by_cases h1 : (m : Int) ≤ xa
          · have q2 : decide ((m : Int) ≤ xa) = true := by simpa using h1
            have HR := Lib.hid (inD_no HD.out HXA.out (by omega))
            go_wp2
            go_ret
            exact ⟨by rw [HR.out]; rfl, (by repeat (first | exact Exts.refl _ | apply Exts.andR | apply Exts.alloc | apply Exts.wext | apply Exts.drew | apply Exts.drewN))⟩
          · have q2 : decide ((m : Int) ≤ xa) = false := by simpa using h1
            have HQ := Lib.hid (show inV (m : Int) xa = true by simp [inV]; omega)
            clear h0 h1
            go_wp2
            refine ⟨⟨k + 1, by omega, by go_num, (by repeat (first | exact Exts.refl _ | apply Exts.andR | apply Exts.alloc | apply Exts.wext | apply Exts.drew | apply Exts.drewN)), fun i d y hi h1 h2 => ?_⟩, ?_⟩
            · by_cases hik : i = k
              · rw [hik, HD.out] at h1
                rw [hik, HXA.out] at h2
                cases h1; cases h2
                exact HQ.out
              · exact HI.out i d y (by omega) h1 h2
            · simp [intOf]; omega
      · obtain rfl : k = na := by omega
        have HR := Lib.hid (show inD D al = true from inD_iff.2 ⟨by rw [HL.out, HLA.out], fun i d x h1 h2 => HI.out i d x (by have := (List.getElem?_eq_some_iff.1 h2).1; have := HLA.out; omega) h1 h2⟩)
        go_wp2
        go_ret
        exact ⟨by rw [HR.out]; rfl, (by repeat (first | exact Exts.refl _ | apply Exts.andR | apply Exts.alloc | apply Exts.wext | apply Exts.drew | apply Exts.drewN))⟩
  · have q1 : ((na : Int) == (n : Int)) = false := by simp; omega
    have q2 : ((na : Int) != (n : Int)) = true := by simp; omega
    have q3 : ¬ ((na : Int) = (n : Int)) := by omega
    have HR := Lib.hid (show inD D al = false by
      refine Bool.eq_false_iff.2 fun hc => hne ?_
      have := (inD_iff.1 hc).1
      have := HL.out
      have := HLA.out
      omega)
    clear hne
    go_enter Tryz.func27, Tryz.ntmps27
    go_wp2
    go_ret
    exact ⟨by rw [HR.out]; rfl, (by repeat (first | exact Exts.refl _ | apply Exts.andR | apply Exts.alloc | apply Exts.wext | apply Exts.drew | apply Exts.drewN))⟩
theorem in_at3 {D : List Dm} {al : List Int} {V x : Int} {ps : List Pr} {i : Nat} (h : inD D al = true) (hd : D[i]? = some (V, ps)) (hx : al[i]? = some x) : 0 ≤ x ∧ x < V := by
  have := (inD_iff.1 h).2 i (V, ps) x hd hx
  simpa [inV] using this
theorem atD_in {m u v : Nat} {ps : List Pr} {g : Rel} (hg : closedD (m : Int) ps = (g, true)) (hu : u < m) (hv : v < m) : atD (m : Int) ps u v = g u v := by
  have h1 : inV (m : Int) u = true := by simp [inV]; omega
  have h2 : inV (m : Int) v = true := by simp [inV]; omega
  unfold atD
  rw [hg, h1, h2]
  simp
theorem blocks39 {S S1 : Nat → Prop} (mo ao bo : Option Addr) (n mc na ca nb cb : Nat) (D : List Dm) (al bl : List Int) (w : World) (h : Ords w mo n mc D) (ha : Ints S w ao na ca al) (hb : Ints S1 w bo nb cb bl) (hia : inD D al = true) (hib : inD D bl = true) :
    Calls Tryz.prog 16 #[.slice mo n mc, .slice ao na ca, .slice bo nb cb] w fun e w' => ∃ ro rc, e = .returned (.slice ro (blkD D al bl).length rc) ∧ Exts w w' ∧ Ints (fun b => w.heap.size ≤ b) w' ro (blkD D al bl).length rc (blkD D al bl) ∧ TypedBy 3 w' (.slice ro (blkD D al bl).length rc) := by
  obtain ⟨i0, hi, hz0, hz1, hz2⟩ := info_parts info3
  have hm := h.nle
  have hn12 := h.le12
  have hma := RowF.nle ha
  have hmb := RowF.nle hb
  unfold maxLen at hm hma hmb
  have hl := h.1
  have hla := ints_len ha
  have hlb := ints_len hb
  have hA := (inD_iff.1 hia).1
  have hB := (inD_iff.1 hib).1
  obtain ⟨rfl, rfl⟩ : na = n ∧ nb = n := by omega
  have H := Lib.hid h
  have HA := Lib.hid ha
  have HB := Lib.hid hb
  have HIA := Lib.hid hia
  have HIB := Lib.hid hib
  have HL := Lib.hid hl
  clear h ha hb hl hla hlb hA hB hia hib
  have HR := Lib.hid (show blkD D al bl = blkK D al bl nb by unfold blkD; rw [HL.out])
  go_enter Tryz.func16, Tryz.ntmps16
  go_wp2
  go_loopw [7, 11] (fun o i wr => ∃ (k m : Nat), k ≤ nb ∧ (blkK D al bl k).length = m ∧ i = .int .i64 k ∧ Exts w wr ∧ wr.ownsRow w.heap.size 3 1 o m (intsC (blkK D al bl k))) (fun _ i _ => nb - (intOf i).toNat)
  case atStart => exact ⟨0, 0, by omega, rfl, rfl, (by repeat (first | exact Exts.refl _ | apply Exts.andR | apply Exts.alloc | apply Exts.wext | apply Exts.drew | apply Exts.drewN)), World.ownsRow_nil _ _ _ _⟩
  case round =>
    obtain ⟨k, m, hk, hmk, rfl, hx, hown⟩ := hrel
    have HX := Lib.hid hx
    have HBS := Lib.hid (show w.heap.size ≤ wr.heap.size from hx.below.size)
    obtain ⟨ao2, c2, rfl⟩ := owns_shape hown
    have hmle := blkK_len D al bl k
    rw [hmk] at hmle
    have HO := Lib.hid hown
    have HMK := Lib.hid hmk
    clear hx hown hmk
    by_cases hlt : k < nb
    · obtain ⟨b, off, mm, ps, g, b2, o2, rc, rb, rof, rcap, rfl, lb, hd, hg, e0, lb2, e1, lr, e2⟩ := (H.out.exts HX.out).get hlt
      obtain ⟨b1, off1, xa, rfl, hb1, hxa, f1⟩ := ints_get (RowF.exts HA.out HX.out) hlt
      obtain ⟨b3, off3, xb, rfl, hb3, hxb, f2⟩ := ints_get (RowF.exts HB.out HX.out) hlt
      obtain ⟨a1, a2⟩ := in_at3 HIA.out hd hxa
      obtain ⟨a3, a4⟩ := in_at3 HIB.out hd hxb
      obtain ⟨u, rfl⟩ : ∃ u : Nat, xa = u := ⟨xa.toNat, by omega⟩
      obtain ⟨v, rfl⟩ : ∃ v : Nat, xb = v := ⟨xb.toNat, by omega⟩
      have hu : u < mm := by omega
      have hv : v < mm := by omega
      have c1 := e1 u hu
      have l1 := lr u hu
      have c2' := e2 u v hu hv
      obtain ⟨t, ht⟩ : ∃ t, g u v = t := ⟨_, rfl⟩
      rw [ht] at c2'
      have hat := atI_of hd hxa hxb
      rw [atD_in hg hu hv, ht] at hat
      have HN := Lib.hid (blkK_next D al bl k)
      have HAT := Lib.hid hat
      clear hd hxa hxb hat hg a1 a2 a3 a4 e1 e2 lr ht
      cases t with
      | true =>
        have HE := Lib.hid (show blkK D al bl (k + 1) = blkK D al bl k by rw [HN.out, HAT.out]; rfl)
        go_wp2
        first | refine wp_region_ext_lit2 (by kernel_rfl) (by kernel_rfl) ?_ | refine wp_region_ext_lit (by kernel_rfl) (by kernel_rfl) ?_
        repeat (go_big_quiet_step (fail))
        refine wpQuiet_nil ?_
        intro _ hwq'
        obtain ⟨xq, hwq''⟩ := hwq'
        subst hwq''
        go_wp2
        refine ⟨⟨k + 1, m, by omega, by rw [HE.out]; exact HMK.out, by go_num, HX.out.trans (by repeat (first | exact Exts.refl _ | apply Exts.andR | apply Exts.alloc | apply Exts.wext | apply Exts.drew | apply Exts.drewN)), by rw [HE.out]; exact ownsRow_exts HO.out (by repeat (first | exact Exts.refl _ | apply Exts.andR | apply Exts.alloc | apply Exts.wext | apply Exts.drew | apply Exts.drewN))⟩, ?_⟩
        simp [intOf]; omega
      | false =>
        have HE := Lib.hid (show blkK D al bl (k + 1) = blkK D al bl k ++ [(k : Int)] by rw [HN.out, HAT.out]; rfl)
        go_wp2
        first | refine wp_region_ext_lit2 (by kernel_rfl) (by kernel_rfl) ?_ | refine wp_region_ext_lit (by kernel_rfl) (by kernel_rfl) ?_
        repeat (go_big_quiet_step (fail))
        refine wpQuiet_nil ?_
        intro _ hwq'
        obtain ⟨xq, hwq''⟩ := hwq'
        subst hwq''
        go_wp2_with (at_builtin; refine wpList_append_lies _ rfl (.tmp 31) (.tmp 33) 24 rfl w.heap.size 3 i0 _ 1 8 Tryz.underlying24 hi hz0 hz1 hz2 rfl (by decide) (.slice ao2 m c2) m (intsC (blkK D al bl k)) rfl (ownsRow_exts HO.out (by repeat (first | exact Exts.refl _ | apply Exts.andR | apply Exts.alloc | apply Exts.wext | apply Exts.drew | apply Exts.drewN))) ⟨_, 0, none⟩ 1 1 [.int .i64 k] rfl rfl (by intro j u hj; match j, hj with | 0, hj => (simp at hj; subst hj; simp [go_sem])) (int_one _) (by decide) (by unfold maxLen; omega) (by omega) (by have := HBS.out; simp; omega) _ rfl ?_; intro g2 cg w1 hown' hgrow hat hlt')
        refine ⟨⟨k + 1, m + 1, by omega, by rw [HE.out, List.length_append, HMK.out]; rfl, by go_num, exts_of_grown (W := w) (HX.out.trans (by repeat (first | exact Exts.refl _ | apply Exts.andR | apply Exts.alloc | apply Exts.wext | apply Exts.drew | apply Exts.drewN))) hgrow (fun b hb => (HO.out.lt b hb).1), by rw [HE.out, intsC_snoc]; exact hown'⟩, ?_⟩
        simp [intOf]; omega
    · obtain rfl : k = nb := by omega
      go_wp2
      go_ret
      exact ⟨ao2, c2, by rw [HR.out, HMK.out]; rfl, HX.out.trans (by repeat (first | exact Exts.refl _ | apply Exts.andR | apply Exts.alloc | apply Exts.wext | apply Exts.drew | apply Exts.drewN)), by rw [HR.out, HMK.out]; exact RowF.of_owns (ownsRow_exts HO.out (by repeat (first | exact Exts.refl _ | apply Exts.andR | apply Exts.alloc | apply Exts.wext | apply Exts.drew | apply Exts.drewN))), by rw [HR.out, HMK.out]; exact TypedBy.of_owns (ownsRow_exts HO.out (by repeat (first | exact Exts.refl _ | apply Exts.andR | apply Exts.alloc | apply Exts.wext | apply Exts.drew | apply Exts.drewN)))⟩
end Go.Proofs.YtgmjcgjbbogefaaGreat


/- blocks of the reference of chapter 39; keeps and against. No condition but that the closures lie there. -/
namespace Go.Proofs.YtgmjcgjbbogefaaGreat
open Go.RowKit
set_option linter.unusedSimpArgs false
set_option linter.unusedVariables false
set_option maxRecDepth 100000
set_option maxHeartbeats 2000000
theorem blocks39_N {S S1 : Nat → Prop} (mo ao bo : Option Addr) (n mc na ca nb cb : Nat) (D : List Dm) (al bl ks : List Int) (m : Nat) (w : World) (h : Ords w mo n mc D) (ha : Ints S w ao na ca al) (hb : Ints S1 w bo nb cb bl) (hia : inD D al = true) (hib : inD D bl = true) (hk : blkD D al bl = ks) (hm : ks.length = m) :
    Calls Tryz.prog 16 #[.slice mo n mc, .slice ao na ca, .slice bo nb cb] w fun e w' => ∃ ro rc, e = .returned (.slice ro m rc) ∧ Exts w w' ∧ Ints (fun b => w.heap.size ≤ b) w' ro m rc ks ∧ TypedBy 3 w' (.slice ro m rc) := by
  subst hk hm
  exact blocks39 mo ao bo n mc na ca nb cb D al bl w h ha hb hia hib
theorem keeps43 {S S1 : Nat → Prop} (mo vo ao : Option Addr) (n mc vn vc na ca : Nat) (D : List Dm) (id : Int) (vs al : List Int) (gr : Bool) (ks : List Int) (m : Nat) (w : World) (h : Ords w mo n mc D) (hv : Ints S w vo vn vc vs) (ha : Ints S1 w ao na ca al) (hiv : inD D vs = true) (hia : inD D al = true) (hk : keepsD D ⟨id, vs, gr⟩ al = ks) (hm : ks.length = m) :
    Calls Tryz.prog 32 #[.slice mo n mc, .agg #[.int .i64 id, .slice vo vn vc, .bool gr], .slice ao na ca] w fun e w' => ∃ ro rc, e = .returned (.slice ro m rc) ∧ Exts w w' ∧ Ints (fun b => w.heap.size ≤ b) w' ro m rc ks ∧ TypedBy 3 w' (.slice ro m rc) := by
  have H := Lib.hid h
  have HV := Lib.hid hv
  have HA := Lib.hid ha
  have HIV := Lib.hid hiv
  have HIA := Lib.hid hia
  have HM := Lib.hid hm
  cases gr with
  | true =>
    have HK := Lib.hid (show blkD D vs al = ks from hk)
    clear h hv ha hiv hia hk hm
    go_enter Tryz.func32, Tryz.ntmps32
    go_wp2_with (first | (go_at_call 16; ((with_reducible refine (blocks39_N _ _ _ _ _ _ _ _ _ D vs al ks m _ (H.out.exts (by repeat (first | exact Exts.refl _ | apply Exts.andR | apply Exts.alloc | apply Exts.wext | apply Exts.drew | apply Exts.drewN))) (RowF.exts HV.out (by repeat (first | exact Exts.refl _ | apply Exts.andR | apply Exts.alloc | apply Exts.wext | apply Exts.drew | apply Exts.drewN))) (RowF.exts HA.out (by repeat (first | exact Exts.refl _ | apply Exts.andR | apply Exts.alloc | apply Exts.wext | apply Exts.drew | apply Exts.drewN))) HIV.out HIA.out HK.out HM.out).mono ?_); rintro e w' ⟨ro, rc, rfl, ⟨x1, rfl⟩, hr⟩; (have HR := Lib.hid hr); clear hr)))
    go_ret
    exact ⟨ro, rc, rfl, (by repeat (first | exact Exts.refl _ | apply Exts.andR | apply Exts.alloc | apply Exts.wext | apply Exts.drew | apply Exts.drewN)), (RowF.exts HR.out.1 (by repeat (first | exact Exts.refl _ | apply Exts.andR | apply Exts.alloc | apply Exts.wext | apply Exts.drew | apply Exts.drewN))).up (by simp), HR.out.2.exts (by repeat (first | exact Exts.refl _ | apply Exts.andR | apply Exts.alloc | apply Exts.wext | apply Exts.drew | apply Exts.drewN))⟩
  | false =>
    have HK := Lib.hid (show blkD D al vs = ks from hk)
    clear h hv ha hiv hia hk hm
    go_enter Tryz.func32, Tryz.ntmps32
    go_wp2_with (first | (go_at_call 16; ((with_reducible refine (blocks39_N _ _ _ _ _ _ _ _ _ D al vs ks m _ (H.out.exts (by repeat (first | exact Exts.refl _ | apply Exts.andR | apply Exts.alloc | apply Exts.wext | apply Exts.drew | apply Exts.drewN))) (RowF.exts HA.out (by repeat (first | exact Exts.refl _ | apply Exts.andR | apply Exts.alloc | apply Exts.wext | apply Exts.drew | apply Exts.drewN))) (RowF.exts HV.out (by repeat (first | exact Exts.refl _ | apply Exts.andR | apply Exts.alloc | apply Exts.wext | apply Exts.drew | apply Exts.drewN))) HIA.out HIV.out HK.out HM.out).mono ?_); rintro e w' ⟨ro, rc, rfl, ⟨x1, rfl⟩, hr⟩; (have HR := Lib.hid hr); clear hr)))
    go_ret
    exact ⟨ro, rc, rfl, (by repeat (first | exact Exts.refl _ | apply Exts.andR | apply Exts.alloc | apply Exts.wext | apply Exts.drew | apply Exts.drewN)), (RowF.exts HR.out.1 (by repeat (first | exact Exts.refl _ | apply Exts.andR | apply Exts.alloc | apply Exts.wext | apply Exts.drew | apply Exts.drewN))).up (by simp), HR.out.2.exts (by repeat (first | exact Exts.refl _ | apply Exts.andR | apply Exts.alloc | apply Exts.wext | apply Exts.drew | apply Exts.drewN))⟩
end Go.Proofs.YtgmjcgjbbogefaaGreat


/- Maps to bools that a call makes: sets of numbers, and of sides. No program in sight but the types. -/
namespace Go.Proofs.YtgmjcgjbbogefaaGreat
open Go.RowKit Go.Maps
set_option linter.unusedSimpArgs false
set_option linter.unusedVariables false

theorem lawI : Keyed Tryz.prog 3 := int_keyed Tryz.underlying3
theorem lawB : Keyed Tryz.prog 4 := bool_keyed Tryz.underlying4
theorem zeroB (w : World) : (zeroValue 4).run Tryz.prog w = .ok (.bool false) w := by kernel_rfl
theorem plainElem_bool_inv {H : Type} {e : TypeId} (he : Tryz.prog.underlying e = some .bool) {v : Value} {z : DataW H × List MemPlace} (h : plainElem Tryz.prog e v = some z) : ∃ x, v = .bool x ∧ z = (.lit (.bool x), []) := by
  unfold plainElem at h
  split at h
  · cases h
    exact ⟨_, rfl, rfl⟩
  · rename_i h1
    rw [he] at h1
    cases h1
  · rename_i h1
    rw [he] at h1
    cases h1
  · cases h
/-- A map to bools, as a function of the keys' data. -/
def MapB (w : World) (k : TypeId) (b n : Nat) (f : Lit → Bool) : Prop := ∃ D : DataW Unit, w.ownsMap Tryz.prog k (plainElem Tryz.prog 4) b n D ∧ ∀ l, D.atKey l (.lit (.bool false)) = .lit (.bool (f l))
open Classical in
noncomputable def putF (f : Lit → Bool) (kl : Lit) (x : Bool) : Lit → Bool := fun l => if l = kl then x else f l
theorem putF_same (f : Lit → Bool) (kl : Lit) (x : Bool) : putF f kl x kl = x := by simp [putF]
theorem putF_other (f : Lit → Bool) {kl l : Lit} (x : Bool) (h : l ≠ kl) : putF f kl x l = f l := by simp [putF, h]
theorem MapB.made (w : World) (k : TypeId) : MapB (w.alloc (.map #[] 0)) k w.heap.size 0 fun _ => false := ⟨_, World.ownsMap_made _ _ _ _, fun l => rfl⟩
theorem MapB.kept {w w' : World} {k : TypeId} {b n : Nat} {f : Lit → Bool} {row : Option Nat} (h : MapB w k b n f) (hg : w.grownBy w' row) (hne : some b ≠ row) : MapB w' k b n f := by
  obtain ⟨D, h1, h2⟩ := h
  exact ⟨D, h1.kept hg hne, h2⟩
theorem MapB.exts {w w' : World} {k : TypeId} {b n : Nat} {f : Lit → Bool} (h : MapB w k b n f) (he : Exts w w') : MapB w' k b n f := h.kept (grownBy_exts he none) (by simp)
theorem MapB.lt {w : World} {k : TypeId} {b n : Nat} {f : Lit → Bool} (h : MapB w k b n f) : b < w.heap.size := by
  obtain ⟨D, h1, _⟩ := h
  exact h1.lt
theorem MapB.look {w : World} {k t b n : Nat} {f : Lit → Bool} {key : Value} {kl : Lit} (h : MapB w k b n f) (K : Keyed Tryz.prog k) (ht : Tryz.prog.underlying t = some (.map k 4)) (hkey : keyOf Tryz.prog k key = some kl) : (Instr.lookup t (.map (some b)) key false).run Tryz.prog w = .ok (.bool (f kl)) w := by
  obtain ⟨D, h1, h2⟩ := h
  obtain ⟨v, ps, hrun, hv⟩ := h1.lookup K ht (zeroB w) (plainElem_bool Tryz.underlying4 false) hkey
  obtain ⟨x, rfl, hx⟩ := plainElem_bool_inv Tryz.underlying4 hv
  rw [hrun]
  have := h2 kl
  simp only [Prod.mk.injEq] at hx
  rw [hx.1] at this
  cases this
  rfl
theorem MapB.put {w : World} {k t b n : Nat} {f : Lit → Bool} {key : Value} {kl : Lit} (h : MapB w k b n f) (K : Keyed Tryz.prog k) (ht : Tryz.prog.underlying t = some (.map k 4)) (hn : n < maxLen) (hkey : keyOf Tryz.prog k key = some kl) (hk : WideAt.IsKeyLit kl) (x : Bool) : ∃ w', (Instr.mapUpdate t (.map (some b)) key (.bool x)).run Tryz.prog w = .ok () w' ∧ MapB w' k b (n + 1) (putF f kl x) ∧ w.grownBy w' (some b) := by
  obtain ⟨D, h1, h2⟩ := h
  obtain ⟨w', r1, r2, r3⟩ := h1.update K ht hn hkey (plainElem_bool Tryz.underlying4 x)
  refine ⟨w', r1, ⟨_, r2, fun l => ?_⟩, r3⟩
  by_cases hl : l = kl
  · subst hl
    rw [putF_same]
    exact atKey_put_same h1.isMap hk _ _
  · rw [putF_other f x hl, atKey_put_other hl]
    exact h2 l
theorem mapB_update {w : World} {ops : Array Oper} {rest : List Oper} {o : Oper} {a : Act} {Q : Exit → Act → World → Prop}
    (hg : o.guard = none) (m x v : Operand) (t k : TypeId) (hop : o.op = Op.mapUpdate t m x v) (K : Keyed Tryz.prog k) (ht : Tryz.prog.underlying t = some (.map k 4)) (b n : Nat) (f : Lit → Bool)
    (hm : a.eval m = .map (some b)) (hown : MapB w k b n f) (hn : n < maxLen) (key : Value) (y : Bool) (kl : Lit) (hx : a.eval x = key) (hv : a.eval v = .bool y) (hkey : keyOf Tryz.prog k key = some kl) (hk : WideAt.IsKeyLit kl)
    (hK : ∀ w', MapB w' k b (n + 1) (putF f kl y) → w.grownBy w' (some b) → wpList Tryz.prog ops Q rest (a.put o.dst undef) w') :
    wpList Tryz.prog ops Q (o :: rest) a w := by
  refine wpList_plain hg fun K' hK' => ?_
  obtain ⟨w', hrun, r1, r2⟩ := hown.put K ht hn hkey hk y
  unfold Oper.wp
  simp [execOp, hop, hm, hx, hv, hrun, Result.andThen]
  exact hK' _ _ (hK w' r1 r2)
theorem isKey_int (a : Int) : WideAt.IsKeyLit (.int .i64 a) := by trivial
theorem isKey_bool (a : Bool) : WideAt.IsKeyLit (.bool a) := by trivial
end Go.Proofs.YtgmjcgjbbogefaaGreat


/- check of package precedent. No condition but at most 2000 cases. -/
namespace Go.Proofs.YtgmjcgjbbogefaaGreat
open Go.RowKit Go.Maps
set_option linter.unusedSimpArgs false
set_option linter.unusedVariables false

theorem key_int {x : Int} (h : I64 x) : keyOf Tryz.prog 3 (.int .i64 x) = some (.int .i64 x) := keyOf_int_mk Tryz.underlying3 (by
  obtain ⟨h1, h2⟩ := h
  simp [Lit.wf, IntKind.min, IntKind.max, IntKind.signed, IntKind.bits]
  omega)
/-- The Ids so far. -/
def idsF (L : List Cs) : Lit → Bool
  | .int .i64 x => L.any fun c => c.id == x
  | _ => false
theorem idsF_next {B : List Cs} {k : Nat} {c : Cs} (h : B[k]? = some c) (l : Lit) : putF (idsF (B.take k)) (.int .i64 c.id) true l = idsF (B.take (k + 1)) l := by
  by_cases hl : l = .int .i64 c.id
  · rw [hl, putF_same]
    simp [idsF, List.take_add_one, h]
  · rw [putF_other _ _ hl]
    cases l with
    | int q x =>
      cases q <;> try rfl
      simp only [idsF]
      rw [List.take_add_one, h, List.any_append]
      have : (c.id == x) = false := by
        have : ¬ c.id = x := fun hc => hl (by rw [hc])
        simpa using this
      simp [this]
    | _ => rfl
theorem MapB.congr {w : World} {k : TypeId} {b n : Nat} {f f' : Lit → Bool} (h : MapB w k b n f) (he : ∀ l, f l = f' l) : MapB w k b n f' := by
  obtain ⟨D, h1, h2⟩ := h
  exact ⟨D, h1, fun l => by rw [h2 l, he l]⟩
/-- The first k cases are right. -/
def OkK (D : List Dm) (B : List Cs) (k : Nat) : Prop := (∀ c ∈ B.take k, inD D c.vals = true) ∧ ((B.take k).map Cs.id).Nodup
theorem OkK.zero (D : List Dm) (B : List Cs) : OkK D B 0 := ⟨by simp, by simp⟩
theorem OkK.next {D : List Dm} {B : List Cs} {k : Nat} {c : Cs} (h : OkK D B k) (hc : B[k]? = some c) (hv : inD D c.vals = true) (hi : ((B.take k).any fun d => d.id == c.id) = false) : OkK D B (k + 1) := by
  obtain ⟨h1, h2⟩ := h
  constructor
  · intro d hd
    rw [List.take_add_one, hc, List.mem_append] at hd
    rcases hd with hd | hd
    · exact h1 d hd
    · simp at hd
      rw [hd]; exact hv
  · rw [List.take_add_one, hc, List.map_append, List.nodup_append]
    refine ⟨h2, by simp, fun x hx y hy => ?_⟩
    simp at hy
    subst hy
    intro he
    subst he
    obtain ⟨d, hd, e⟩ := List.mem_map.1 hx
    rw [List.any_eq_false] at hi
    exact hi d hd (by simpa using e)
theorem check_all {D : List Dm} {B : List Cs} (hr : rightD D = true) (h : OkK D B B.length) : checkD D B = true := by
  obtain ⟨h1, h2⟩ := h
  rw [List.take_of_length_le (Nat.le_refl _)] at h1 h2
  unfold checkD
  rw [hr]
  simp only [Bool.true_and, Bool.and_eq_true, List.all_eq_true, decide_eq_true_eq]
  exact ⟨h1, h2⟩
theorem check_vec {D : List Dm} {B : List Cs} {k : Nat} {c : Cs} (hc : B[k]? = some c) (hv : inD D c.vals = false) : checkD D B = false := by
  refine Bool.eq_false_iff.2 fun h => ?_
  simp only [checkD, Bool.and_eq_true, List.all_eq_true] at h
  have := h.2.1 c (List.mem_of_getElem? hc)
  rw [hv] at this
  cases this
theorem check_twice {D : List Dm} {B : List Cs} {k : Nat} {c : Cs} (hc : B[k]? = some c) (hi : ((B.take k).any fun d => d.id == c.id) = true) : checkD D B = false := by
  refine Bool.eq_false_iff.2 fun h => ?_
  simp only [checkD, Bool.and_eq_true, decide_eq_true_eq] at h
  rw [List.any_eq_true] at hi
  obtain ⟨d, hd, he⟩ := hi
  obtain ⟨j, hj⟩ := List.getElem?_of_mem hd
  have hjk : j < k := by
    have := (List.getElem?_eq_some_iff.1 hj).1
    rw [List.length_take] at this
    omega
  rw [List.getElem?_take_of_lt hjk] at hj
  have hn := h.2.2
  rw [List.Nodup, List.pairwise_iff_getElem] at hn
  have hl1 := (List.getElem?_eq_some_iff.1 hj).1
  have hl2 := (List.getElem?_eq_some_iff.1 hc).1
  refine hn j k (by simpa using hl1) (by simpa using hl2) hjk ?_
  simp only [List.getElem_map]
  have e1 : B[j] = d := (List.getElem?_eq_some_iff.1 hj).2
  have e2 : B[k] = c := (List.getElem?_eq_some_iff.1 hc).2
  rw [e1, e2]
  simpa using he
theorem isVector32_D {S : Nat → Prop} (mo ao : Option Addr) (n mc na ca : Nat) (D : List Dm) (al : List Int) (r : Bool) (w : World) (h : Ords w mo n mc D) (ha : Ints S w ao na ca al) (hr : inD D al = r) :
    Calls Tryz.prog 27 #[.slice mo n mc, .slice ao na ca] w fun e w' => e = .returned (.bool r) ∧ Exts w w' := by
  subst hr
  exact isVector32 mo ao n mc na ca D al w h ha
set_option maxRecDepth 100000
set_option maxHeartbeats 4000000
theorem check31_no {S S1 : Nat → Prop} (lo bo : Option Addr) (n1 c1 n c : Nat) (D : List Dm) (B : List Cs) (w : World) (hd : Dims S w lo n1 c1 D) (hb : Cases S1 w bo n c B) (hr : rightD D = false) (hn : n ≤ 2000) :
    Calls Tryz.prog 13 #[.slice lo n1 c1, .slice bo n c] w fun e w' => e = .returned (.tuple #[.slice none 0 0, .bool false]) ∧ Exts w w' := by
  have hmm := @run_makeMap Tryz.prog
  have HD := Lib.hid hd
  have HB := Lib.hid hb
  have HR := Lib.hid hr
  clear hd hb hr
  go_enter Tryz.func13, Tryz.ntmps13
  go_wp2_with (first | (go_at_call 26; ((with_reducible refine (read54_no _ _ _ D _ (HD.out.exts (by repeat (first | exact Exts.refl _ | apply Exts.andR | apply Exts.alloc | apply Exts.wext | apply Exts.drew | apply Exts.drewN))) HR.out).mono ?_); rintro e w' ⟨rfl, x1, rfl⟩)))
  go_loopw [19] (fun i wr => i = .int .i64 0 ∧ Exts w wr) (fun _ _ => 0)
  case atStart => exact ⟨rfl, (by repeat (first | exact Exts.refl _ | apply Exts.andR | apply Exts.alloc | apply Exts.wext | apply Exts.drew | apply Exts.drewN))⟩
  case round =>
    obtain ⟨rfl, x, rfl⟩ := hrel
    by_cases hlt : 0 < n
    · obtain ⟨b, off, id, vs, gr, vo, vc, rfl, lb, hc, e0, e1, e2, hv, hid⟩ := HB.out.get hlt
      rw [Nat.zero_mul, Nat.add_zero] at e0 e1 e2
      clear hc hv hid
      go_wp2
      go_ret2
      exact ⟨rfl, (by repeat (first | exact Exts.refl _ | apply Exts.andR | apply Exts.alloc | apply Exts.wext | apply Exts.drew | apply Exts.drewN))⟩
    · obtain rfl : n = 0 := by omega
      go_wp2
      go_ret2
      exact ⟨rfl, (by repeat (first | exact Exts.refl _ | apply Exts.andR | apply Exts.alloc | apply Exts.wext | apply Exts.drew | apply Exts.drewN))⟩
theorem check31_yes {S S1 : Nat → Prop} (lo bo : Option Addr) (n1 c1 n c : Nat) (D : List Dm) (B : List Cs) (w : World) (hd : Dims S w lo n1 c1 D) (hb : Cases S1 w bo n c B) (hr : rightD D = true) (hn : n ≤ 2000) :
    Calls Tryz.prog 13 #[.slice lo n1 c1, .slice bo n c] w fun e w' => ∃ mo N mc, e = .returned (.tuple #[.slice mo N mc, .bool (checkD D B)]) ∧ Exts w w' ∧ (checkD D B = true → N = n1 ∧ Ords w' mo n1 mc D) := by
  have hmm := @run_makeMap Tryz.prog
  have HL := Lib.hid hb.1
  have HD := Lib.hid hd
  have HB := Lib.hid hb
  have HR := Lib.hid hr
  clear hd hb hr
  go_enter Tryz.func13, Tryz.ntmps13
  go_wp2_with (first | (go_at_call 26; ((with_reducible refine (read54_yes _ _ _ D _ (HD.out.exts (by repeat (first | exact Exts.refl _ | apply Exts.andR | apply Exts.alloc | apply Exts.wext | apply Exts.drew | apply Exts.drewN))) HR.out).mono ?_); rintro e w' ⟨mo, mc, rfl, ⟨x1, rfl⟩, hm⟩; (have HM := Lib.hid hm); clear hm)))
  obtain ⟨w1, hw1⟩ : ∃ w1, wext w x1 = w1 := ⟨_, rfl⟩
  have HX := Lib.hid (show Exts w w1 by rw [← hw1]; exact (by repeat (first | exact Exts.refl _ | apply Exts.andR | apply Exts.alloc | apply Exts.wext | apply Exts.drew | apply Exts.drewN)))
  have lW : w1.heap.size = w.heap.size + x1.bs.size := by rw [← hw1]; simp
  rw [hw1] at HM ⊢
  have HB1 := Lib.hid (HB.out.exts HX.out)
  clear hw1 HB HD
  go_loopw [19] (fun i wr => ∃ (k : Nat), k ≤ n ∧ i = .int .i64 k ∧ Exts w1 wr ∧ MapB wr 3 (w.heap.size + x1.bs.size) k (idsF (B.take k)) ∧ OkK D B k) (fun i _ => n - (intOf i).toNat)
  case atStart =>
    refine ⟨0, by omega, rfl, (by repeat (first | exact Exts.refl _ | apply Exts.andR | apply Exts.alloc | apply Exts.wext | apply Exts.drew | apply Exts.drewN)), ?_, OkK.zero D B⟩
    have := MapB.made w1 3
    rw [lW] at this
    exact this.congr fun l => by cases l <;> first | rfl | (rename_i q x; cases q <;> rfl)
  case round =>
    obtain ⟨k, hk, rfl, hx, hmap, hok⟩ := hrel
    have HX2 := Lib.hid hx
    have HMAP := Lib.hid hmap
    have HOK := Lib.hid hok
    have lmap := hmap.lt
    clear hx hmap hok
    by_cases hlt : k < n
    · obtain ⟨b, off, id, vs, gr, vo, vc, rfl, lb, hc, e0, e1, e2, hvs, hid⟩ := (HB1.out.exts HX2.out).get hlt
      have HC := Lib.hid hc
      have HVS := Lib.hid hvs
      have HKI := Lib.hid (key_int hid)
      have HMW := HM
      have HM := Lib.hid (HMW.out.exts HX2.out)
      obtain ⟨f, hf⟩ : ∃ f, ((B.take k).any fun d => d.id == id) = f := ⟨_, rfl⟩
      have hlook : ∀ w', Exts wr w' → (Instr.lookup 103 (.map (some (w.heap.size + x1.bs.size))) (.int .i64 id) false).run Tryz.prog w' = .ok (.bool f) w' := fun w' he => by
        rw [← hf]
        exact (HMAP.out.exts he).look lawI Tryz.underlying103 HKI.out
      have HF := Lib.hid hf
      obtain ⟨r, hr⟩ : ∃ r, inD D vs = r := ⟨_, rfl⟩
      have HIN := Lib.hid hr
      clear hc hvs hid hf hr HMW
      cases f with
      | true =>
        have HN := Lib.hid (check_twice (D := D) HC.out HF.out)
        go_wp2
        go_ret2
        exact ⟨none, 0, 0, by rw [HN.out]; rfl, HX.out.trans (HX2.out.trans (by repeat (first | exact Exts.refl _ | apply Exts.andR | apply Exts.alloc | apply Exts.wext | apply Exts.drew | apply Exts.drewN))), fun h => by rw [HN.out] at h; cases h⟩
      | false =>
        cases r with
        | false =>
          have HN := Lib.hid (check_vec HC.out HIN.out)
          go_wp2_with (first | (go_at_call 27; ((with_reducible refine (isVector32_D _ _ _ _ _ _ D vs _ _ (HM.out.exts (by repeat (first | exact Exts.refl _ | apply Exts.andR | apply Exts.alloc | apply Exts.wext | apply Exts.drew | apply Exts.drewN))) (RowF.exts HVS.out (by repeat (first | exact Exts.refl _ | apply Exts.andR | apply Exts.alloc | apply Exts.wext | apply Exts.drew | apply Exts.drewN))) HIN.out).mono ?_); rintro e w' ⟨rfl, x2, rfl⟩)))
          go_ret2
          exact ⟨none, 0, 0, by rw [HN.out]; rfl, HX.out.trans (HX2.out.trans (by repeat (first | exact Exts.refl _ | apply Exts.andR | apply Exts.alloc | apply Exts.wext | apply Exts.drew | apply Exts.drewN))), fun h => by rw [HN.out] at h; cases h⟩
        | true =>
          go_wp2_with (first | (go_at_call 27; ((with_reducible refine (isVector32_D _ _ _ _ _ _ D vs _ _ (HM.out.exts (by repeat (first | exact Exts.refl _ | apply Exts.andR | apply Exts.alloc | apply Exts.wext | apply Exts.drew | apply Exts.drewN))) (RowF.exts HVS.out (by repeat (first | exact Exts.refl _ | apply Exts.andR | apply Exts.alloc | apply Exts.wext | apply Exts.drew | apply Exts.drewN))) HIN.out).mono ?_); rintro e w' ⟨rfl, x2, rfl⟩)) | (at_mapUpdate; refine mapB_update rfl _ _ _ 103 3 rfl lawI Tryz.underlying103 (w.heap.size + x1.bs.size) k _ rfl (HMAP.out.exts (by repeat (first | exact Exts.refl _ | apply Exts.andR | apply Exts.alloc | apply Exts.wext | apply Exts.drew | apply Exts.drewN))) (by unfold maxLen; omega) _ _ _ rfl rfl HKI.out (isKey_int _) ?_; intro w9 hmap' hgrow))
          refine ⟨⟨k + 1, by omega, by go_num, exts_of_grown (W := w1) (HX2.out.trans (by repeat (first | exact Exts.refl _ | apply Exts.andR | apply Exts.alloc | apply Exts.wext | apply Exts.drew | apply Exts.drewN))) hgrow (fun b hb => by cases hb; omega), hmap'.congr (idsF_next HC.out), HOK.out.next HC.out HIN.out HF.out⟩, ?_⟩
          simp [intOf]; omega
    · obtain rfl : k = n := by omega
      have HN := Lib.hid (check_all HR.out (by rw [HL.out]; exact HOK.out))
      have q1 : decide ((k : Int) ≤ 2000) = true := by simp; omega
      go_wp2
      go_ret2
      exact ⟨mo, n1, mc, by rw [HN.out]; rfl, HX.out.trans (HX2.out.trans (by repeat (first | exact Exts.refl _ | apply Exts.andR | apply Exts.alloc | apply Exts.wext | apply Exts.drew | apply Exts.drewN))), fun _ => ⟨rfl, HM.out.exts (HX2.out.trans (by repeat (first | exact Exts.refl _ | apply Exts.andR | apply Exts.alloc | apply Exts.wext | apply Exts.drew | apply Exts.drewN)))⟩⟩
/-- check: the closures, where the base is right for the dimensions. -/
theorem check31 {S S1 : Nat → Prop} (lo bo : Option Addr) (n1 c1 n c : Nat) (D : List Dm) (B : List Cs) (r : Bool) (w : World) (hd : Dims S w lo n1 c1 D) (hb : Cases S1 w bo n c B) (hn : n ≤ 2000) (hr : checkD D B = r) :
    Calls Tryz.prog 13 #[.slice lo n1 c1, .slice bo n c] w fun e w' => ∃ mo N mc, e = .returned (.tuple #[.slice mo N mc, .bool r]) ∧ Exts w w' ∧ (r = true → N = n1 ∧ Ords w' mo n1 mc D) := by
  subst hr
  cases h : rightD D with
  | true => exact check31_yes lo bo n1 c1 n c D B w hd hb h hn
  | false =>
    have hc : checkD D B = false := by simp [checkD, h]
    refine (check31_no lo bo n1 c1 n c D B w hd hb h hn).mono ?_
    rintro e w' ⟨rfl, hx⟩
    exact ⟨none, 0, 0, by rw [hc], hx, fun h => by rw [hc] at h; cases h⟩
end Go.Proofs.YtgmjcgjbbogefaaGreat

