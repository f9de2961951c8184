/- Lemmas that the laws of this seat share, 4 texts in one: RefFor, ForcedT, Cons, Clone. No condition of their own. -/
import Derived.Test.YtodgohilfbggjaaM12
import Derived.Deep.RegionHeld3
import Derived.OwnWalk
/- forced of the reference of chapter 39. No condition but a right base of at most 2000 cases. -/
namespace Go.Proofs.Ytodgohilfbggjaa
open Go.RowKit Go.Maps
set_option linter.unusedSimpArgs false
set_option linter.unusedVariables false

/-- The precedents that force, but for one. -/
noncomputable def forB (D : List Dm) (B : List Cs) (l : List Int) (but : Int) (i : Nat) : Bool := !((i : Int) == but) && forI D B l i
noncomputable def byBK (D : List Dm) (B : List Cs) (l : List Int) (but : Int) (k : Nat) : List Int := ((List.range k).filter (forB D B l but)).map Int.ofNat
def grantI (B : List Cs) (i : Nat) : Bool := match B[i]? with | some c => c.grant | none => false
noncomputable def grK (D : List Dm) (B : List Cs) (l : List Int) (but : Int) (k : Nat) : Nat := ((List.range k).filter fun i => forB D B l but i && grantI B i).length
theorem byBK_next (D : List Dm) (B : List Cs) (l : List Int) (but : Int) (k : Nat) : byBK D B l but (k + 1) = if forB D B l but k = true then byBK D B l but k ++ [Int.ofNat k] else byBK D B l but k := by
  unfold byBK
  rw [List.range_succ, List.filter_append, List.map_append]
  cases h : forB D B l but k <;> simp [h]
theorem grK_next (D : List Dm) (B : List Cs) (l : List Int) (but : Int) (k : Nat) : grK D B l but (k + 1) = if (forB D B l but k && grantI B k) = true then grK D B l but k + 1 else grK D B l but k := by
  unfold grK
  rw [List.range_succ, List.filter_append, List.length_append]
  cases h : (forB D B l but k && grantI B k) <;> simp [h]
theorem byBK_len (D : List Dm) (B : List Cs) (l : List Int) (but : Int) (k : Nat) : (byBK D B l but k).length ≤ k := by
  unfold byBK
  rw [List.length_map]
  exact Nat.le_trans (List.length_filter_le _ _) (by simp)
theorem grK_le (D : List Dm) (B : List Cs) (l : List Int) (but : Int) (k : Nat) : grK D B l but k ≤ (byBK D B l but k).length := by
  unfold grK byBK
  rw [List.length_map]
  induction List.range k with
  | nil => simp
  | cons x xs ih =>
    cases h : forB D B l but x with
    | true =>
      cases h2 : grantI B x with
      | true => simp [h, h2]; exact ih
      | false => simp [h, h2]; exact Nat.le_succ_of_le ih
    | false => simp [h]; exact ih
noncomputable def whatBD (D : List Dm) (B : List Cs) (l : List Int) (but : Int) (n : Nat) : Int := if (byBK D B l but n).length = 0 then 0 else if grK D B l but n = (byBK D B l but n).length then 1 else if grK D B l but n = 0 then 2 else 3
set_option maxRecDepth 100000
set_option maxHeartbeats 4000000
theorem refForced35 {S S1 : Nat → Prop} (mo bo ao : Option Addr) (n1 mc n c na ca : Nat) (D : List Dm) (B : List Cs) (al : List Int) (but : Int) (w : World) (h : Ords w mo n1 mc D) (hb : Cases S w bo n c B) (ha : Ints S1 w ao na ca al) (hn : n ≤ 2000) (hv : ∀ c ∈ B, inD D c.vals = true) (hia : inD D al = true) :
    Calls Try.prog 35 #[.slice mo n1 mc, .slice bo n c, .slice ao na ca, .int .i64 but] w fun e w' => ∃ ro rc, e = .returned (.tuple #[.int .i64 (whatBD D B al but n), .slice ro (byBK D B al but n).length rc]) ∧ Exts w w' ∧ Ints (fun b => w.heap.size ≤ b) w' ro (byBK D B al but n).length rc (byBK D B al but n) := by
  obtain ⟨i0, hi, hz0, hz1, hz2⟩ := info_parts info3
  have hm := h.nle
  have hn12 := h.le12
  have hma := RowF.nle ha
  unfold maxLen at hm hma
  have HL := Lib.hid hb.1
  have H := Lib.hid h
  have HB := Lib.hid hb
  have HA := Lib.hid ha
  have HV := Lib.hid hv
  have HIA := Lib.hid hia
  clear h hb ha hv hia
  go_enter Try.func35, Try.ntmps35
  go_wp2
  go_loopw [10, 11, 12] (fun o gv i wr => ∃ (k m g : Nat), k ≤ n ∧ i = .int .i64 k ∧ (byBK D B al but k).length = m ∧ gv = .int .i64 g ∧ grK D B al but k = g ∧ Exts w wr ∧ wr.ownsRow w.heap.size 3 1 o m (intsC (byBK D B al but k))) (fun _ _ i _ => n - (intOf i).toNat)
  case atStart => exact ⟨0, 0, 0, by omega, rfl, rfl, rfl, rfl, (by repeat (first | exact Exts.refl _ | apply Exts.andR | apply Exts.alloc | apply Exts.wext | apply Exts.drew | apply Exts.drewN)), World.ownsRow_nil _ _ _ _⟩
  case round =>
    obtain ⟨k, m, g, hk, rfl, hmk, rfl, hgk, hx, hown⟩ := hrel
    have HX := Lib.hid hx
    have HBS := Lib.hid (show w.heap.size ≤ wr.heap.size from hx.below.size)
    have HO := Lib.hid hown
    have HMK := Lib.hid hmk
    have HGK := Lib.hid hgk
    have hmle := byBK_len D B al but k
    rw [hmk] at hmle
    have hgle := grK_le D B al but k
    rw [hmk, hgk] at hgle
    obtain ⟨oo, oc, rfl⟩ := owns_shape hown
    clear hown hmk hgk
    by_cases hlt : k < n
    · obtain ⟨b, off, id, vs, gr, vo, vc, rfl, lb0, hc, e0, e1, e2, hvs, hid⟩ := HB.out.get hlt
      have lb : b < wr.heap.size := Nat.lt_of_lt_of_le lb0 hx.below.size
      have e0' := Exts.cell hx e0
      have e1' := Exts.cell hx e1
      have e2' := Exts.cell hx e2
      have HC := Lib.hid hc
      have HVS := Lib.hid (RowF.exts hvs hx)
      have HIV := Lib.hid (show inD D vs = true from HV.out _ (List.mem_of_getElem? hc))
      have HA2 := Lib.hid (RowF.exts HA.out hx)
      have HOR := Lib.hid (H.out.exts hx)
      obtain ⟨ks, hks⟩ : ∃ ks, keepsD D ⟨id, vs, gr⟩ al = ks := ⟨_, rfl⟩
      obtain ⟨m', hm'⟩ : ∃ m', ks.length = m' := ⟨_, rfl⟩
      have HK := Lib.hid hks
      have HM := Lib.hid hm'
      have hfor : forcesD D al ⟨id, vs, gr⟩ = decide (m' = 0) := by
        unfold forcesD
        rw [hks, ← hm']
        cases ks <;> simp
      have hat := forI_of (D := D) (l := al) hc
      rw [hfor] at hat
      have HAT := Lib.hid hat
      have HGI := Lib.hid (show grantI B k = gr by unfold grantI; rw [hc])
      have HN := Lib.hid (byBK_next D B al but k)
      have HN2 := Lib.hid (grK_next D B al but k)
      clear hc hvs hid hks hm' hfor hat e0 e1 e2 hx
      by_cases hbut : (k : Int) = but
      · have q1 : ((k : Int) == but) = true := by simpa using hbut
        have HFB := Lib.hid (show forB D B al but k = false by unfold forB; rw [q1]; rfl)
        have HE := Lib.hid (show byBK D B al but (k + 1) = byBK D B al but k by rw [HN.out, HFB.out]; rfl)
        have HE2 := Lib.hid (show grK D B al but (k + 1) = grK D B al but k by rw [HN2.out, HFB.out]; rfl)
        clear hbut
        go_wp2
        refine ⟨⟨k + 1, m, g, by omega, by go_num, by rw [HE.out]; exact HMK.out, rfl, by rw [HE2.out]; exact HGK.out, HX.out.trans (by repeat (first | exact Exts.refl _ | apply Exts.andR | apply Exts.alloc | apply Exts.wext | apply Exts.drew | apply Exts.drewN)), by rw [HE.out]; exact ownsRow_exts HO.out (by repeat (first | exact Exts.refl _ | apply Exts.andR | apply Exts.alloc | apply Exts.wext | apply Exts.drew | apply Exts.drewN))⟩, ?_⟩
        simp [intOf]; omega
      · have q1 : ((k : Int) == but) = false := by simpa using hbut
        have HB1 := Lib.hid q1
        clear hbut
        by_cases h0 : m' = 0
        · have q2 : decide ((0 : Int) < (m' : Int)) = false := by simp; omega
          have q3 : decide (0 < m') = false := by simp; omega
          have HFB := Lib.hid (show forB D B al but k = true by unfold forB; rw [HB1.out, HAT.out, h0]; rfl)
          have HE := Lib.hid (show byBK D B al but (k + 1) = byBK D B al but k ++ [(k : Int)] by rw [HN.out, HFB.out]; rfl)
          clear h0
          cases gr with
          | true =>
            have HE2 := Lib.hid (show grK D B al but (k + 1) = grK D B al but k + 1 by rw [HN2.out, HFB.out, HGI.out]; rfl)
            go_wp2_with (first | (go_at_call 45; ((with_reducible refine (keeps45 _ _ _ _ _ _ _ _ _ D id vs al _ ks m' _ (HOR.out.exts (by repeat (first | exact Exts.refl _ | apply Exts.andR | apply Exts.alloc | apply Exts.wext | apply Exts.drew | apply Exts.drewN))) (RowF.exts HVS.out (by repeat (first | exact Exts.refl _ | apply Exts.andR | apply Exts.alloc | apply Exts.wext | apply Exts.drew | apply Exts.drewN))) (RowF.exts HA2.out (by repeat (first | exact Exts.refl _ | apply Exts.andR | apply Exts.alloc | apply Exts.wext | apply Exts.drew | apply Exts.drewN))) HIV.out HIA.out HK.out HM.out).mono ?_); rintro e w' ⟨ro, rc, rfl, ⟨x2, rfl⟩, hks⟩; clear hks)) | (at_builtin; refine wpList_append_lies _ rfl (.tmp 33) (.tmp 35) 24 rfl w.heap.size 3 i0 _ 1 8 Try.underlying24 hi hz0 hz1 hz2 rfl (by decide) (.slice oo m oc) m (intsC (byBK D B al but k)) rfl (ownsRow_exts HO.out (by repeat (first | exact Exts.refl _ | apply Exts.andR | apply Exts.alloc | apply Exts.wext | apply Exts.drew | apply Exts.drewN))) ⟨_, 0, none⟩ 1 1 [.int .i64 k] rfl rfl (by intro j u hj; match j, hj with | 0, hj => (simp at hj; subst hj; simp [go_sem])) (int_one _) (by decide) (by unfold maxLen; omega) (by omega) (by have := HBS.out; simp; omega) _ rfl ?_; intro g2 cg w9 hown' hgrow hat hlt'; (have c9 := (World.cell?_of_block (a := ⟨b, off + k * 3 + 2, none⟩) (hgrow.block b (by simp; omega) (fun hc => by have := owns_base HO.out hc.symm; omega))).trans (Exts.cell (by repeat (first | exact Exts.refl _ | apply Exts.andR | apply Exts.alloc | apply Exts.wext | apply Exts.drew | apply Exts.drewN)) e2')); (have l9 : b < w9.heap.size := by have := hgrow.size; simp at this; omega)))
            refine ⟨⟨k + 1, m + 1, g + 1, by omega, by go_num, by rw [HE.out, List.length_append, HMK.out]; rfl, by go_num, by rw [HE2.out, HGK.out], exts_of_grown (W := w) (HX.out.trans (by repeat (first | exact Exts.refl _ | apply Exts.andR | apply Exts.alloc | apply Exts.wext | apply Exts.drew | apply Exts.drewN))) hgrow (fun b hb => owns_base HO.out hb), by rw [HE.out, intsC_snoc]; exact hown'⟩, ?_⟩
            simp [intOf]; omega
          | false =>
            have HE2 := Lib.hid (show grK D B al but (k + 1) = grK D B al but k by rw [HN2.out, HFB.out, HGI.out]; rfl)
            go_wp2_with (first | (go_at_call 45; ((with_reducible refine (keeps45 _ _ _ _ _ _ _ _ _ D id vs al _ ks m' _ (HOR.out.exts (by repeat (first | exact Exts.refl _ | apply Exts.andR | apply Exts.alloc | apply Exts.wext | apply Exts.drew | apply Exts.drewN))) (RowF.exts HVS.out (by repeat (first | exact Exts.refl _ | apply Exts.andR | apply Exts.alloc | apply Exts.wext | apply Exts.drew | apply Exts.drewN))) (RowF.exts HA2.out (by repeat (first | exact Exts.refl _ | apply Exts.andR | apply Exts.alloc | apply Exts.wext | apply Exts.drew | apply Exts.drewN))) HIV.out HIA.out HK.out HM.out).mono ?_); rintro e w' ⟨ro, rc, rfl, ⟨x2, rfl⟩, hks⟩; clear hks)) | (at_builtin; refine wpList_append_lies _ rfl (.tmp 33) (.tmp 35) 24 rfl w.heap.size 3 i0 _ 1 8 Try.underlying24 hi hz0 hz1 hz2 rfl (by decide) (.slice oo m oc) m (intsC (byBK D B al but k)) rfl (ownsRow_exts HO.out (by repeat (first | exact Exts.refl _ | apply Exts.andR | apply Exts.alloc | apply Exts.wext | apply Exts.drew | apply Exts.drewN))) ⟨_, 0, none⟩ 1 1 [.int .i64 k] rfl rfl (by intro j u hj; match j, hj with | 0, hj => (simp at hj; subst hj; simp [go_sem])) (int_one _) (by decide) (by unfold maxLen; omega) (by omega) (by have := HBS.out; simp; omega) _ rfl ?_; intro g2 cg w9 hown' hgrow hat hlt'; (have c9 := (World.cell?_of_block (a := ⟨b, off + k * 3 + 2, none⟩) (hgrow.block b (by simp; omega) (fun hc => by have := owns_base HO.out hc.symm; omega))).trans (Exts.cell (by repeat (first | exact Exts.refl _ | apply Exts.andR | apply Exts.alloc | apply Exts.wext | apply Exts.drew | apply Exts.drewN)) e2')); (have l9 : b < w9.heap.size := by have := hgrow.size; simp at this; omega)))
            refine ⟨⟨k + 1, m + 1, g, by omega, by go_num, by rw [HE.out, List.length_append, HMK.out]; rfl, rfl, by rw [HE2.out]; exact HGK.out, exts_of_grown (W := w) (HX.out.trans (by repeat (first | exact Exts.refl _ | apply Exts.andR | apply Exts.alloc | apply Exts.wext | apply Exts.drew | apply Exts.drewN))) hgrow (fun b hb => owns_base HO.out hb), by rw [HE.out, intsC_snoc]; exact hown'⟩, ?_⟩
            simp [intOf]; omega
        · have q2 : decide ((0 : Int) < (m' : Int)) = true := by simp; omega
          have q3 : decide (0 < m') = true := by simp; omega
          have HFB := Lib.hid (show forB D B al but k = false by unfold forB; rw [HB1.out, HAT.out]; simp [h0])
          have HE := Lib.hid (show byBK D B al but (k + 1) = byBK D B al but k by rw [HN.out, HFB.out]; rfl)
          have HE2 := Lib.hid (show grK D B al but (k + 1) = grK D B al but k by rw [HN2.out, HFB.out]; rfl)
          clear h0
          go_wp2_with (first | (go_at_call 45; ((with_reducible refine (keeps45 _ _ _ _ _ _ _ _ _ D id vs al _ ks m' _ (HOR.out.exts (by repeat (first | exact Exts.refl _ | apply Exts.andR | apply Exts.alloc | apply Exts.wext | apply Exts.drew | apply Exts.drewN))) (RowF.exts HVS.out (by repeat (first | exact Exts.refl _ | apply Exts.andR | apply Exts.alloc | apply Exts.wext | apply Exts.drew | apply Exts.drewN))) (RowF.exts HA2.out (by repeat (first | exact Exts.refl _ | apply Exts.andR | apply Exts.alloc | apply Exts.wext | apply Exts.drew | apply Exts.drewN))) HIV.out HIA.out HK.out HM.out).mono ?_); rintro e w' ⟨ro, rc, rfl, ⟨x2, rfl⟩, hks⟩; clear hks)))
          refine ⟨⟨k + 1, m, g, by omega, by go_num, by rw [HE.out]; exact HMK.out, rfl, by rw [HE2.out]; exact HGK.out, HX.out.trans (by repeat (first | exact Exts.refl _ | apply Exts.andR | apply Exts.alloc | apply Exts.wext | apply Exts.drew | apply Exts.drewN)), by rw [HE.out]; exact ownsRow_exts HO.out (by repeat (first | exact Exts.refl _ | apply Exts.andR | apply Exts.alloc | apply Exts.wext | apply Exts.drew | apply Exts.drewN))⟩, ?_⟩
          simp [intOf]; omega
    · obtain rfl : k = n := by omega
      have HW := Lib.hid (show whatBD D B al but k = (if m = 0 then 0 else if g = m then 1 else if g = 0 then 2 else 3) by unfold whatBD; rw [HMK.out, HGK.out])
      clear hx
      by_cases h0 : m = 0
      · subst h0
        have HNIL := Lib.hid (show byBK D B al but k = [] from List.eq_nil_of_length_eq_zero HMK.out)
        go_wp2
        go_ret2
        exact ⟨none, 0, by rw [HW.out, HNIL.out]; rfl, HX.out.trans (by repeat (first | exact Exts.refl _ | apply Exts.andR | apply Exts.alloc | apply Exts.wext | apply Exts.drew | apply Exts.drewN)), by rw [HNIL.out]; exact RowF.nil _ _ _⟩
      · have q1 : ((m : Int) == 0) = false := by simp; omega
        have q1' : (m == 0) = false := by simpa using h0
        by_cases h1 : g = m
        · have HW2 := Lib.hid (HW.out.trans (show _ = (1 : Int) by rw [if_neg h0, if_pos h1]))
          have q2 : ((g : Int) == (m : Int)) = true := by simp; omega
          have q2' : (g == m) = true := by simpa using h1
          clear h0 h1
          go_wp2
          go_ret2
          exact ⟨oo, oc, by rw [HW2.out, HMK.out]; rfl, HX.out.trans (by repeat (first | exact Exts.refl _ | apply Exts.andR | apply Exts.alloc | apply Exts.wext | apply Exts.drew | apply Exts.drewN)), by rw [HMK.out]; exact RowF.of_owns (ownsRow_exts HO.out (by repeat (first | exact Exts.refl _ | apply Exts.andR | apply Exts.alloc | apply Exts.wext | apply Exts.drew | apply Exts.drewN)))⟩
        · have q2 : ((g : Int) == (m : Int)) = false := by simp; omega
          have q2' : (g == m) = false := by simpa using h1
          by_cases h2 : g = 0
          · have HW2 := Lib.hid (HW.out.trans (show _ = (2 : Int) by rw [if_neg h0, if_neg h1, if_pos h2]))
            have q3 : ((g : Int) == 0) = true := by simp; omega
            have q3' : (g == 0) = true := by simpa using h2
            clear h0 h1 h2
            go_wp2
            go_ret2
            exact ⟨oo, oc, by rw [HW2.out, HMK.out]; rfl, HX.out.trans (by repeat (first | exact Exts.refl _ | apply Exts.andR | apply Exts.alloc | apply Exts.wext | apply Exts.drew | apply Exts.drewN)), by rw [HMK.out]; exact RowF.of_owns (ownsRow_exts HO.out (by repeat (first | exact Exts.refl _ | apply Exts.andR | apply Exts.alloc | apply Exts.wext | apply Exts.drew | apply Exts.drewN)))⟩
          · have HW2 := Lib.hid (HW.out.trans (show _ = (3 : Int) by rw [if_neg h0, if_neg h1, if_neg h2]))
            have q3 : ((g : Int) == 0) = false := by simp; omega
            have q3' : (g == 0) = false := by simpa using h2
            clear h0 h1 h2
            go_wp2
            go_ret2
            exact ⟨oo, oc, by rw [HW2.out, HMK.out]; rfl, HX.out.trans (by repeat (first | exact Exts.refl _ | apply Exts.andR | apply Exts.alloc | apply Exts.wext | apply Exts.drew | apply Exts.drewN)), by rw [HMK.out]; exact RowF.of_owns (ownsRow_exts HO.out (by repeat (first | exact Exts.refl _ | apply Exts.andR | apply Exts.alloc | apply Exts.wext | apply Exts.drew | apply Exts.drewN)))⟩
end Go.Proofs.Ytodgohilfbggjaa

/- Forced of package precedent, and of the reference; Right. No condition but at most 2000 cases. -/
namespace Go.Proofs.Ytodgohilfbggjaa
open Go.RowKit Go.Maps
set_option linter.unusedSimpArgs false
set_option linter.unusedVariables false

theorem byBK_all (D : List Dm) (B : List Cs) (l : List Int) (k : Nat) : byBK D B l (-1) k = byK D B l k := rfl
/-- By how many granted ones: none, all, or some. -/
theorem filter_none {α : Type} {p q : α → Bool} {L : List α} (h : (L.filter fun x => p x && q x).length = 0) : ∀ x ∈ L, p x = true → q x = false := by
  intro x hx hp
  cases hq : q x with
  | false => rfl
  | true =>
    have : x ∈ L.filter fun x => p x && q x := by rw [List.mem_filter]; exact ⟨hx, by rw [hp, hq]; rfl⟩
    rw [List.eq_nil_of_length_eq_zero h] at this
    cases this
theorem filter_full {α : Type} {p q : α → Bool} : ∀ {L : List α}, (L.filter fun x => p x && q x).length = (L.filter p).length → ∀ x ∈ L, p x = true → q x = true
  | [], _, x, hx, _ => by cases hx
  | y :: L, h, x, hx, hp => by
    have hle : (L.filter fun x => p x && q x).length ≤ (L.filter p).length := by
      rw [← List.filter_filter]
      rw [show (List.filter (fun a => p a) (List.filter q L)) = List.filter q (List.filter p L) by rw [List.filter_filter, List.filter_filter]; congr 1; funext a; exact Bool.and_comm _ _]
      exact List.length_filter_le _ _
    cases hpy : p y with
    | false =>
      simp only [List.filter_cons, hpy, Bool.false_and] at h
      rcases List.mem_cons.1 hx with rfl | hx
      · rw [hpy] at hp; cases hp
      · exact filter_full h x hx hp
    | true =>
      cases hqy : q y with
      | true =>
        simp only [List.filter_cons, hpy, hqy, Bool.and_self, if_true, List.length_cons] at h
        rcases List.mem_cons.1 hx with rfl | hx
        · exact hqy
        · exact filter_full (by omega) x hx hp
      | false =>
        simp only [List.filter_cons, hpy, hqy, Bool.and_false, if_true, List.length_cons] at h
        simp at h
        omega
theorem whatBD_all {D : List Dm} {B : List Cs} {l : List Int} : whatBD D B l (-1) B.length = whatD D B l := by
  have hby := byBK_all D B l B.length
  have hfb : ∀ i, forB D B l (-1) i = forI D B l i := fun i => rfl
  have hgr : grK D B l (-1) B.length = ((List.range B.length).filter fun i => forI D B l i && grantI B i).length := rfl
  have hlen : (byBK D B l (-1) B.length).length = ((List.range B.length).filter fun i => forI D B l i).length := by
    rw [hby]
    unfold byK
    rw [List.length_map]
  have side : ∀ s, sideB D B l s = true ↔ ∃ i, i < B.length ∧ forI D B l i = true ∧ grantI B i = s := fun s => by
    simp only [sideB, List.any_eq_true, Bool.and_eq_true, beq_iff_eq]
    constructor
    · rintro ⟨c, hc, h1, h2⟩
      obtain ⟨i, hi⟩ := List.getElem?_of_mem hc
      exact ⟨i, (List.getElem?_eq_some_iff.1 hi).1, by rw [forI_of hi]; exact h2, by unfold grantI; rw [hi]; exact h1⟩
    · rintro ⟨i, hi, h1, h2⟩
      have hc : B[i]? = some B[i] := List.getElem?_eq_getElem hi
      rw [forI_of hc] at h1
      unfold grantI at h2
      rw [hc] at h2
      exact ⟨B[i], List.getElem_mem hi, h2, h1⟩
  unfold whatBD whatD
  rw [hlen, hgr]
  by_cases h0 : ((List.range B.length).filter fun i => forI D B l i).length = 0
  · rw [if_pos h0]
    have hno : ∀ s, sideB D B l s = false := fun s => by
      refine Bool.eq_false_iff.2 fun hc => ?_
      obtain ⟨i, hi, h1, _⟩ := (side s).1 hc
      have : i ∈ (List.range B.length).filter fun i => forI D B l i := by rw [List.mem_filter]; exact ⟨List.mem_range.2 hi, h1⟩
      rw [List.eq_nil_of_length_eq_zero h0] at this
      cases this
    rw [hno, hno]
    rfl
  · rw [if_neg h0]
    obtain ⟨i, hi⟩ : ∃ i, i ∈ (List.range B.length).filter fun i => forI D B l i := by
      cases hL : (List.range B.length).filter fun i => forI D B l i with
      | nil => rw [hL] at h0; simp at h0
      | cons a L => exact ⟨a, by simp⟩
    rw [List.mem_filter, List.mem_range] at hi
    by_cases h1 : ((List.range B.length).filter fun i => forI D B l i && grantI B i).length = ((List.range B.length).filter fun i => forI D B l i).length
    · rw [if_pos h1]
      have hall := filter_full h1
      have st : sideB D B l true = true := (side true).2 ⟨i, hi.1, hi.2, hall i (List.mem_range.2 hi.1) hi.2⟩
      have sf : sideB D B l false = false := by
        refine Bool.eq_false_iff.2 fun hc => ?_
        obtain ⟨j, hj, q1, q2⟩ := (side false).1 hc
        have := hall j (List.mem_range.2 hj) q1
        rw [q2] at this; cases this
      rw [st, sf]
      rfl
    · rw [if_neg h1]
      have sf : sideB D B l false = true := by
        refine Classical.byContradiction fun hc => h1 ?_
        congr 1
        apply List.filter_congr
        intro j hj
        cases hf : forI D B l j with
        | false => rfl
        | true =>
          cases hg : grantI B j with
          | true => rfl
          | false => exact absurd ((side false).2 ⟨j, List.mem_range.1 hj, hf, hg⟩) hc
      by_cases h2 : ((List.range B.length).filter fun i => forI D B l i && grantI B i).length = 0
      · rw [if_pos h2]
        have hnone := filter_none h2
        have st : sideB D B l true = false := by
          refine Bool.eq_false_iff.2 fun hc => ?_
          obtain ⟨j, hj, q1, q2⟩ := (side true).1 hc
          have := hnone j (List.mem_range.2 hj) q1
          rw [q2] at this; cases this
        rw [st, sf]
        rfl
      · rw [if_neg h2]
        obtain ⟨j, hj⟩ : ∃ j, j ∈ (List.range B.length).filter fun i => forI D B l i && grantI B i := by
          cases hL : (List.range B.length).filter fun i => forI D B l i && grantI B i with
          | nil => rw [hL] at h2; simp at h2
          | cons a L => exact ⟨a, by simp⟩
        rw [List.mem_filter, List.mem_range, Bool.and_eq_true] at hj
        have st : sideB D B l true = true := (side true).2 ⟨j, hj.1, hj.2.1, hj.2.2⟩
        rw [st, sf]
        rfl
noncomputable def forD (D : List Dm) (B : List Cs) (al : List Int) : Int × List Int × Int := if (checkD D B && inD D al) = true then (whatD D B al, byK D B al B.length, 0) else (0, [], 1)
theorem check31_ok {S S1 : Nat → Prop} (lo bo : Option Addr) (n1 c1 n c : Nat) (D : List Dm) (B : List Cs) (w : World) (hd : Dims S w lo n1 c1 D) (hb : Cases S1 w bo n c B) (hn : n ≤ 2000) (hr : checkD D B = true) :
    Calls Try.prog 31 #[.slice lo n1 c1, .slice bo n c] w fun e w' => ∃ mo mc, e = .returned (.tuple #[.slice mo n1 mc, .bool true]) ∧ Exts w w' ∧ Ords w' mo n1 mc D := by
  refine (check31 lo bo n1 c1 n c D B true w hd hb hn hr).mono ?_
  rintro e w' ⟨mo, N, mc, rfl, hx, hm⟩
  obtain ⟨rfl, h⟩ := hm rfl
  exact ⟨mo, mc, rfl, hx, h⟩
theorem check_vecs {D : List Dm} {B : List Cs} (h : checkD D B = true) : ∀ c ∈ B, inD D c.vals = true := by
  simp only [checkD, Bool.and_eq_true, List.all_eq_true] at h
  exact h.2.1
theorem check_right {D : List Dm} {B : List Cs} (h : checkD D B = true) : rightD D = true := by
  simp only [checkD, Bool.and_eq_true] at h
  exact h.1
theorem forced33_D {S S1 : Nat → Prop} (mo bo ao : Option Addr) (n1 mc n c na ca : Nat) (D : List Dm) (B : List Cs) (al : List Int) (wh : Int) (by' : List Int) (bm : Nat) (w : World) (h : Ords w mo n1 mc D) (hb : Cases S w bo n c B) (ha : Ints S1 w ao na ca al) (hn : n ≤ 2000) (hv : ∀ c ∈ B, inD D c.vals = true) (hia : inD D al = true) (hw : whatD D B al = wh) (hby : byK D B al n = by') (hbm : by'.length = bm) :
    Calls Try.prog 33 #[.slice mo n1 mc, .slice bo n c, .slice ao na ca] w fun e w' => ∃ ro rc, e = .returned (.tuple #[.int .i64 wh, .slice ro bm rc]) ∧ Exts w w' ∧ Ints (fun b => w.heap.size ≤ b) w' ro bm rc by' := by
  subst hw hby hbm
  exact forced33 mo bo ao n1 mc n c na ca D B al w h hb ha hn hv hia
set_option maxRecDepth 100000
set_option maxHeartbeats 2000000
theorem right24 {S S1 : Nat → Prop} (lo bo : Option Addr) (n1 c1 n c : Nat) (D : List Dm) (B : List Cs) (r : Bool) (w : World) (hd : Dims S w lo n1 c1 D) (hb : Cases S1 w bo n c B) (hn : n ≤ 2000) (hr : checkD D B = r) :
    Calls Try.prog 24 #[.slice lo n1 c1, .slice bo n c] w fun e w' => e = .returned (.bool r) ∧ Exts w w' := by
  have HD := Lib.hid hd
  have HB := Lib.hid hb
  have HCK := Lib.hid hr
  clear hd hb hr
  go_enter Try.func24, Try.ntmps24
  go_wp2_with (first | (go_at_call 31; ((with_reducible refine (check31 _ _ _ _ _ _ D B _ _ (HD.out.exts (by repeat (first | exact Exts.refl _ | apply Exts.andR | apply Exts.alloc | apply Exts.wext | apply Exts.drew | apply Exts.drewN))) (HB.out.exts (by repeat (first | exact Exts.refl _ | apply Exts.andR | apply Exts.alloc | apply Exts.wext | apply Exts.drew | apply Exts.drewN))) hn HCK.out).mono ?_); rintro e w' ⟨mo, N, mc, rfl, ⟨x1, rfl⟩, hm⟩; (try simp only [wext_and] at hm); (have HM := Lib.hid hm); clear hm)))
  go_ret
  exact ⟨rfl, (by repeat (first | exact Exts.refl _ | apply Exts.andR | apply Exts.alloc | apply Exts.wext | apply Exts.drew | apply Exts.drewN))⟩
theorem forced11 {S S1 S2 : Nat → Prop} (lo bo ao : Option Addr) (n1 c1 n c na ca : Nat) (D : List Dm) (B : List Cs) (al : List Int) (w : World) (hd : Dims S w lo n1 c1 D) (hb : Cases S1 w bo n c B) (ha : Ints S2 w ao na ca al) (hn : n ≤ 2000) :
    Calls Try.prog 11 #[.slice lo n1 c1, .slice bo n c, .slice ao na ca] w fun e w' => ∃ ro rc, e = .returned (.tuple #[.int .i64 (forD D B al).1, .slice ro (forD D B al).2.1.length rc, .int .i64 (forD D B al).2.2]) ∧ Exts w w' ∧ Ints (fun b => w.heap.size ≤ b) w' ro (forD D B al).2.1.length rc (forD D B al).2.1 := by
  have HL := Lib.hid hb.1
  have HD := Lib.hid hd
  have HB := Lib.hid hb
  have HA := Lib.hid ha
  clear hd hb ha
  cases hck : checkD D B with
  | false =>
    have HCK := Lib.hid hck
    have HR := Lib.hid (show forD D B al = (0, [], 1) by unfold forD; rw [hck]; rfl)
    clear hck
    go_enter Try.func11, Try.ntmps11
    go_wp2_with (first | (go_at_call 31; ((with_reducible refine (check31 _ _ _ _ _ _ D B _ _ (HD.out.exts (by repeat (first | exact Exts.refl _ | apply Exts.andR | apply Exts.alloc | apply Exts.wext | apply Exts.drew | apply Exts.drewN))) (HB.out.exts (by repeat (first | exact Exts.refl _ | apply Exts.andR | apply Exts.alloc | apply Exts.wext | apply Exts.drew | apply Exts.drewN))) hn HCK.out).mono ?_); rintro e w' ⟨mo, N, mc, rfl, ⟨x1, rfl⟩, hm⟩; (try simp only [wext_and] at hm); (have HM := Lib.hid hm); clear hm)))
    go_ret3
    exact ⟨none, 0, by rw [HR.out]; rfl, (by repeat (first | exact Exts.refl _ | apply Exts.andR | apply Exts.alloc | apply Exts.wext | apply Exts.drew | apply Exts.drewN)), by rw [HR.out]; exact RowF.nil _ _ _⟩
  | true =>
    have HCK := Lib.hid hck
    have HV := Lib.hid (check_vecs hck)
    cases hin : inD D al with
    | false =>
      have HIN := Lib.hid hin
      have HR := Lib.hid (show forD D B al = (0, [], 1) by unfold forD; rw [hck, hin]; rfl)
      clear hck hin
      go_enter Try.func11, Try.ntmps11
      go_wp2_with (first | (go_at_call 31; ((with_reducible refine (check31_ok _ _ _ _ _ _ D B _ (HD.out.exts (by repeat (first | exact Exts.refl _ | apply Exts.andR | apply Exts.alloc | apply Exts.wext | apply Exts.drew | apply Exts.drewN))) (HB.out.exts (by repeat (first | exact Exts.refl _ | apply Exts.andR | apply Exts.alloc | apply Exts.wext | apply Exts.drew | apply Exts.drewN))) hn HCK.out).mono ?_); rintro e w' ⟨mo, mc, rfl, ⟨x1, rfl⟩, hm⟩; (try simp only [wext_and] at hm); (have HM := Lib.hid hm); clear hm)) | (go_at_call 32; ((with_reducible refine (isVector32_D _ _ _ _ _ _ D al _ _ (HM.out.exts (by repeat (first | exact Exts.refl _ | apply Exts.andR | apply Exts.alloc | apply Exts.wext | apply Exts.drew | apply Exts.drewN))) (RowF.exts HA.out (by repeat (first | exact Exts.refl _ | apply Exts.andR | apply Exts.alloc | apply Exts.wext | apply Exts.drew | apply Exts.drewN))) HIN.out).mono ?_); rintro e w' ⟨rfl, x2, rfl⟩)))
      go_ret3
      exact ⟨none, 0, by rw [HR.out]; rfl, (by repeat (first | exact Exts.refl _ | apply Exts.andR | apply Exts.alloc | apply Exts.wext | apply Exts.drew | apply Exts.drewN)), by rw [HR.out]; exact RowF.nil _ _ _⟩
    | true =>
      have HIN := Lib.hid hin
      obtain ⟨wh, hwh⟩ : ∃ wh, whatD D B al = wh := ⟨_, rfl⟩
      obtain ⟨by', hby⟩ : ∃ b, byK D B al n = b := ⟨_, rfl⟩
      obtain ⟨bm, hbm⟩ : ∃ b, by'.length = b := ⟨_, rfl⟩
      have HR := Lib.hid (show forD D B al = (wh, by', 0) by unfold forD; rw [hck, hin, hwh, HL.out, hby]; rfl)
      have HWH := Lib.hid hwh
      have HBY := Lib.hid hby
      have HBM := Lib.hid hbm
      clear hck hin hwh hby hbm
      go_enter Try.func11, Try.ntmps11
      go_wp2_with (first | (go_at_call 31; ((with_reducible refine (check31_ok _ _ _ _ _ _ D B _ (HD.out.exts (by repeat (first | exact Exts.refl _ | apply Exts.andR | apply Exts.alloc | apply Exts.wext | apply Exts.drew | apply Exts.drewN))) (HB.out.exts (by repeat (first | exact Exts.refl _ | apply Exts.andR | apply Exts.alloc | apply Exts.wext | apply Exts.drew | apply Exts.drewN))) hn HCK.out).mono ?_); rintro e w' ⟨mo, mc, rfl, ⟨x1, rfl⟩, hm⟩; (try simp only [wext_and] at hm); (have HM := Lib.hid hm); clear hm)) | (go_at_call 32; ((with_reducible refine (isVector32_D _ _ _ _ _ _ D al _ _ (HM.out.exts (by repeat (first | exact Exts.refl _ | apply Exts.andR | apply Exts.alloc | apply Exts.wext | apply Exts.drew | apply Exts.drewN))) (RowF.exts HA.out (by repeat (first | exact Exts.refl _ | apply Exts.andR | apply Exts.alloc | apply Exts.wext | apply Exts.drew | apply Exts.drewN))) HIN.out).mono ?_); rintro e w' ⟨rfl, x2, rfl⟩)) | (go_at_call 33; ((with_reducible refine (forced33_D _ _ _ _ _ _ _ _ _ D B al wh by' bm _ (HM.out.exts (by repeat (first | exact Exts.refl _ | apply Exts.andR | apply Exts.alloc | apply Exts.wext | apply Exts.drew | apply Exts.drewN))) (HB.out.exts (by repeat (first | exact Exts.refl _ | apply Exts.andR | apply Exts.alloc | apply Exts.wext | apply Exts.drew | apply Exts.drewN))) (RowF.exts HA.out (by repeat (first | exact Exts.refl _ | apply Exts.andR | apply Exts.alloc | apply Exts.wext | apply Exts.drew | apply Exts.drewN))) hn HV.out HIN.out HWH.out HBY.out HBM.out).mono ?_); rintro e w' ⟨ro, rc, rfl, ⟨x3, rfl⟩, hby⟩; (try simp only [wext_and] at hby); (have HBR := Lib.hid hby); clear hby)))
      go_ret3
      exact ⟨ro, rc, by rw [HR.out, ← HBM.out]; rfl, (by repeat (first | exact Exts.refl _ | apply Exts.andR | apply Exts.alloc | apply Exts.wext | apply Exts.drew | apply Exts.drewN)), by rw [HR.out, HBM.out]; exact (RowF.exts HBR.out (by repeat (first | exact Exts.refl _ | apply Exts.andR | apply Exts.alloc | apply Exts.wext | apply Exts.drew | apply Exts.drewN))).up (by simp <;> omega)⟩
end Go.Proofs.Ytodgohilfbggjaa

/- Consistent of package precedent. No condition but at most 2000 cases. -/
namespace Go.Proofs.Ytodgohilfbggjaa
open Go.RowKit Go.Maps
set_option linter.unusedSimpArgs false
set_option linter.unusedVariables false

/-- Two cases that contradict each other. -/
noncomputable def clashD (D : List Dm) (c d : Cs) : Bool := c.grant && (!d.grant && (blkD D c.vals d.vals).isEmpty)
noncomputable def hitI (D : List Dm) (B : List Cs) (vs : List Int) (k : Nat) : Bool := match B[k]? with | some d => !d.grant && (blkD D vs d.vals).isEmpty | none => false
noncomputable def hitF (D : List Dm) (B : List Cs) (vs : List Int) : Option Nat := (List.range B.length).find? (hitI D B vs)
def outI (o : Option Nat) : Int := match o with | some k => (k : Int) | none => -1
theorem hitI_of {D : List Dm} {B : List Cs} {vs : List Int} {k : Nat} {d : Cs} (h : B[k]? = some d) : hitI D B vs k = (!d.grant && (blkD D vs d.vals).isEmpty) := by
  unfold hitI
  rw [h]
set_option maxRecDepth 100000
set_option maxHeartbeats 2000000
theorem con38 {S S1 : Nat → Prop} (mb cb : Nat) (mo vo dso : Option Addr) (n1 mc vn vc dn dc : Nat) (D : List Dm) (id : Int) (vs ds : List Int) (gr : Bool) (r : Bool) (w : World) (h : Ords w mo n1 mc D) (hvs : Ints S w vo vn vc vs) (hds : Ints S1 w dso dn dc ds) (hiv : inD D vs = true) (hid : inD D ds = true) (cm : w.cell? ⟨mb, 0, none⟩ = some (.slice mo n1 mc)) (cc : w.cell? ⟨cb, 1, none⟩ = some (.slice vo vn vc)) (hr : (!gr && (blkD D vs ds).isEmpty) = r) :
    Calls Try.prog 38 #[.agg #[.int .i64 id, .slice dso dn dc, .bool gr], .pointer (some ⟨mb, 0, none⟩), .pointer (some ⟨cb, 0, none⟩)] w fun e w' => e = .returned (.bool r) ∧ Exts w w' := by
  have lm : mb < w.heap.size := World.block_lt_of_cell? w _ cm
  have lc : cb < w.heap.size := World.block_lt_of_cell? w _ cc
  have HOR := Lib.hid h
  have HVS := Lib.hid hvs
  have HDS := Lib.hid hds
  have HIV := Lib.hid hiv
  have HID := Lib.hid hid
  obtain ⟨ks, hks⟩ : ∃ ks, blkD D vs ds = ks := ⟨_, rfl⟩
  obtain ⟨m', hm'⟩ : ∃ m', ks.length = m' := ⟨_, rfl⟩
  have HK := Lib.hid hks
  have HM := Lib.hid hm'
  rw [hks, show ks.isEmpty = decide (m' = 0) by rw [← hm']; cases ks <;> simp] at hr
  have HR := Lib.hid hr
  clear h hvs hds hiv hid hks hm' hr
  cases gr with
  | true =>
    go_enter Try.func38, Try.ntmps38
    go_wp2_with (first | (go_at_call 39; ((with_reducible refine (blocks39_N _ _ _ _ _ _ _ _ _ D vs ds ks m' _ (HOR.out.exts (by repeat (first | exact Exts.refl _ | apply Exts.andR | apply Exts.alloc | apply Exts.wext | apply Exts.drew | apply Exts.drewN))) (RowF.exts HVS.out (by repeat (first | exact Exts.refl _ | apply Exts.andR | apply Exts.alloc | apply Exts.wext | apply Exts.drew | apply Exts.drewN))) (RowF.exts HDS.out (by repeat (first | exact Exts.refl _ | apply Exts.andR | apply Exts.alloc | apply Exts.wext | apply Exts.drew | apply Exts.drewN))) HIV.out HID.out HK.out HM.out).mono ?_); rintro e w' ⟨ro, rc, rfl, ⟨x2, rfl⟩, hks⟩; clear hks)))
    go_ret
    exact ⟨by rw [← HR.out]; rfl, (by repeat (first | exact Exts.refl _ | apply Exts.andR | apply Exts.alloc | apply Exts.wext | apply Exts.drew | apply Exts.drewN))⟩
  | false =>
    by_cases h0 : m' = 0
    · have q1 : ((m' : Int) == 0) = true := by simp; omega
      have q2 : (m' == 0) = true := by simpa using h0
      have HR2 := Lib.hid (show r = true by rw [← HR.out, h0]; rfl)
      clear h0
      go_enter Try.func38, Try.ntmps38
      go_wp2_with (first | (go_at_call 39; ((with_reducible refine (blocks39_N _ _ _ _ _ _ _ _ _ D vs ds ks m' _ (HOR.out.exts (by repeat (first | exact Exts.refl _ | apply Exts.andR | apply Exts.alloc | apply Exts.wext | apply Exts.drew | apply Exts.drewN))) (RowF.exts HVS.out (by repeat (first | exact Exts.refl _ | apply Exts.andR | apply Exts.alloc | apply Exts.wext | apply Exts.drew | apply Exts.drewN))) (RowF.exts HDS.out (by repeat (first | exact Exts.refl _ | apply Exts.andR | apply Exts.alloc | apply Exts.wext | apply Exts.drew | apply Exts.drewN))) HIV.out HID.out HK.out HM.out).mono ?_); rintro e w' ⟨ro, rc, rfl, ⟨x2, rfl⟩, hks⟩; clear hks)))
      go_ret
      exact ⟨by rw [HR2.out]; rfl, (by repeat (first | exact Exts.refl _ | apply Exts.andR | apply Exts.alloc | apply Exts.wext | apply Exts.drew | apply Exts.drewN))⟩
    · have q1 : ((m' : Int) == 0) = false := by simp; omega
      have q2 : (m' == 0) = false := by simpa using h0
      have HR2 := Lib.hid (show r = false by rw [← HR.out]; simp [h0])
      clear h0
      go_enter Try.func38, Try.ntmps38
      go_wp2_with (first | (go_at_call 39; ((with_reducible refine (blocks39_N _ _ _ _ _ _ _ _ _ D vs ds ks m' _ (HOR.out.exts (by repeat (first | exact Exts.refl _ | apply Exts.andR | apply Exts.alloc | apply Exts.wext | apply Exts.drew | apply Exts.drewN))) (RowF.exts HVS.out (by repeat (first | exact Exts.refl _ | apply Exts.andR | apply Exts.alloc | apply Exts.wext | apply Exts.drew | apply Exts.drewN))) (RowF.exts HDS.out (by repeat (first | exact Exts.refl _ | apply Exts.andR | apply Exts.alloc | apply Exts.wext | apply Exts.drew | apply Exts.drewN))) HIV.out HID.out HK.out HM.out).mono ?_); rintro e w' ⟨ro, rc, rfl, ⟨x2, rfl⟩, hks⟩; clear hks)))
      go_ret
      exact ⟨by rw [HR2.out]; rfl, (by repeat (first | exact Exts.refl _ | apply Exts.andR | apply Exts.alloc | apply Exts.wext | apply Exts.drew | apply Exts.drewN))⟩
theorem find_range' {p : Nat → Bool} {n k : Nat} (hk : k < n) (h1 : ∀ i, i < k → p i = false) (h2 : p k = true) : (List.range n).find? p = some k := by
  rw [List.find?_eq_some_iff_getElem]
  refine ⟨h2, k, by simpa using hk, by simp, fun j hj => ?_⟩
  rw [List.getElem_range, h1 j hj]
  rfl
theorem index37 {S S1 : Nat → Prop} (mb cb : Nat) (mo vo bo : Option Addr) (n1 mc vn vc n c : Nat) (D : List Dm) (B : List Cs) (vs : List Int) (w : World) (h : Ords w mo n1 mc D) (hvs : Ints S w vo vn vc vs) (hb : Cases S1 w bo n c B) (hv : ∀ c ∈ B, inD D c.vals = true) (hiv : inD D vs = true) (cm : w.cell? ⟨mb, 0, none⟩ = some (.slice mo n1 mc)) (cc : w.cell? ⟨cb, 1, none⟩ = some (.slice vo vn vc)) :
    Calls Try.prog 37 #[.slice bo n c, .func (.func 38) #[] #[.pointer (some ⟨mb, 0, none⟩), .pointer (some ⟨cb, 0, none⟩)]] w fun e w' => e = .returned (.int .i64 (outI (hitF D B vs))) ∧ Exts w w' := by
  have hm := hb.nle
  unfold maxLen at hm
  have lm : mb < w.heap.size := World.block_lt_of_cell? w _ cm
  have lc : cb < w.heap.size := World.block_lt_of_cell? w _ cc
  have HL := Lib.hid hb.1
  have H := Lib.hid h
  have HB := Lib.hid hb
  have HVS := Lib.hid hvs
  have HV := Lib.hid hv
  have HIV := Lib.hid hiv
  have CM := Lib.hid cm
  have CC := Lib.hid cc
  clear h hb hvs hv hiv
  go_enter Try.func37, Try.ntmps37
  go_wp2
  go_loopw [8] (fun i wr => ∃ (k : Nat), k ≤ n ∧ i = .int .i64 k ∧ Exts w wr ∧ ∀ j, j < k → hitI D B vs j = false) (fun i _ => n - (intOf i).toNat)
  case atStart => exact ⟨0, by omega, rfl, Exts.refl _, fun j hj => by omega⟩
  case round =>
    obtain ⟨k, hk, rfl, ⟨x, rfl⟩, hin⟩ := hrel
    have HI := Lib.hid hin
    clear hin
    by_cases hlt : k < n
    · obtain ⟨b, off, id, ds, gr, vo2, vc2, rfl, lb, hc, e0, e1, e2, hds, hid⟩ := HB.out.get hlt
      have HDS := Lib.hid hds
      have HC := Lib.hid hc
      have HIV2 := Lib.hid (show inD D ds = true from HV.out _ (List.mem_of_getElem? hc))
      obtain ⟨r, hr⟩ : ∃ r, (!gr && (blkD D vs ds).isEmpty) = r := ⟨_, rfl⟩
      have HH := Lib.hid (show hitI D B vs k = r by rw [hitI_of hc]; exact hr)
      have HR := Lib.hid hr
      clear hds hc hid hr
      cases r with
      | true =>
        have HO := Lib.hid (show hitF D B vs = some k from find_range' (by rw [HL.out]; exact hlt) HI.out HH.out)
        go_wp2_with (first | (go_at_call 38; ((with_reducible refine (con38 _ _ _ _ _ _ _ _ _ _ _ D _ vs ds _ _ _ (H.out.exts (by repeat (first | exact Exts.refl _ | apply Exts.andR | apply Exts.alloc | apply Exts.wext | apply Exts.drew | apply Exts.drewN))) (RowF.exts HVS.out (by repeat (first | exact Exts.refl _ | apply Exts.andR | apply Exts.alloc | apply Exts.wext | apply Exts.drew | apply Exts.drewN))) (RowF.exts HDS.out (by repeat (first | exact Exts.refl _ | apply Exts.andR | apply Exts.alloc | apply Exts.wext | apply Exts.drew | apply Exts.drewN))) HIV.out HIV2.out (Exts.cell (by repeat (first | exact Exts.refl _ | apply Exts.andR | apply Exts.alloc | apply Exts.wext | apply Exts.drew | apply Exts.drewN)) CM.out) (Exts.cell (by repeat (first | exact Exts.refl _ | apply Exts.andR | apply Exts.alloc | apply Exts.wext | apply Exts.drew | apply Exts.drewN)) CC.out) HR.out).mono ?_); rintro e w' ⟨rfl, x2, rfl⟩)))
        go_ret
        exact ⟨by rw [HO.out]; rfl, (by repeat (first | exact Exts.refl _ | apply Exts.andR | apply Exts.alloc | apply Exts.wext | apply Exts.drew | apply Exts.drewN))⟩
      | false =>
        go_wp2_with (first | (go_at_call 38; ((with_reducible refine (con38 _ _ _ _ _ _ _ _ _ _ _ D _ vs ds _ _ _ (H.out.exts (by repeat (first | exact Exts.refl _ | apply Exts.andR | apply Exts.alloc | apply Exts.wext | apply Exts.drew | apply Exts.drewN))) (RowF.exts HVS.out (by repeat (first | exact Exts.refl _ | apply Exts.andR | apply Exts.alloc | apply Exts.wext | apply Exts.drew | apply Exts.drewN))) (RowF.exts HDS.out (by repeat (first | exact Exts.refl _ | apply Exts.andR | apply Exts.alloc | apply Exts.wext | apply Exts.drew | apply Exts.drewN))) HIV.out HIV2.out (Exts.cell (by repeat (first | exact Exts.refl _ | apply Exts.andR | apply Exts.alloc | apply Exts.wext | apply Exts.drew | apply Exts.drewN)) CM.out) (Exts.cell (by repeat (first | exact Exts.refl _ | apply Exts.andR | apply Exts.alloc | apply Exts.wext | apply Exts.drew | apply Exts.drewN)) CC.out) HR.out).mono ?_); rintro e w' ⟨rfl, x2, rfl⟩)))
        refine ⟨⟨k + 1, by omega, by go_num, (by repeat (first | exact Exts.refl _ | apply Exts.andR | apply Exts.alloc | apply Exts.wext | apply Exts.drew | apply Exts.drewN)), fun j hj => ?_⟩, ?_⟩
        · by_cases hjk : j = k
          · rw [hjk]; exact HH.out
          · exact HI.out j (by omega)
        · simp [intOf]; omega
    · obtain rfl : k = n := by omega
      have HO := Lib.hid (show hitF D B vs = none by
        unfold hitF
        rw [List.find?_eq_none]
        intro j hj
        rw [HI.out j (by have := List.mem_range.1 hj; rw [HL.out] at this; exact this)]
        simp)
      go_wp2
      go_ret
      exact ⟨by rw [HO.out]; rfl, (by repeat (first | exact Exts.refl _ | apply Exts.andR | apply Exts.alloc | apply Exts.wext | apply Exts.drew | apply Exts.drewN))⟩
end Go.Proofs.Ytodgohilfbggjaa

/- clone of package precedent; ContainsFunc over its closure. No condition. -/
namespace Go.Proofs.Ytodgohilfbggjaa
open Go.RowKit Go.Maps
set_option linter.unusedSimpArgs false
set_option linter.unusedVariables false

set_option maxHeartbeats 400000 in
theorem clone56 (v : Value) (n : Nat) (xs : List Value) (w : World) {S : Nat → Prop} (h : RowF S 1 w v n xs) (h1 : ∀ u ∈ xs, u.oneCell' = true) (hb : n * 8 ≤ 140737488355328) :
    Calls Try.prog 56 #[v] w fun e w' => ∃ ao' c', e = .returned (.slice ao' n c') ∧ Exts w w' ∧ RowF (fun b => w.heap.size ≤ b) 1 w' (.slice ao' n c') n xs ∧ TypedBy 3 w' (.slice ao' n c') := by
  obtain ⟨i0, hi, hz0, hz1, hz2⟩ := info_parts info3
  have hnle := h.nle
  have hlen := h.len
  obtain ⟨_, ao, cap, rfl, h2, h3, h4, h5⟩ := id h
  cases ao with
  | none =>
    have hc := h4 rfl
    subst hc
    obtain rfl : n = 0 := by omega
    obtain rfl : xs = [] := List.eq_nil_of_length_eq_zero (by simpa using hlen)
    have e := fun w => Lib.run_eql_slice_nil (P := Try.prog) w 24 3 none 0 0 0 0 Try.underlying24
    go_enter Try.func56, Try.ntmps56
    go_wp2
    go_ret
    exact ⟨none, 0, rfl, Exts.refl _, RowF.nil _ 1 w, fun b hb => by cases hb⟩
  | some a =>
    have e := fun w => Lib.run_eql_slice_nil (P := Try.prog) w 24 3 (some a) n cap 0 0 Try.underlying24
    have hx : ∀ j u, xs[j]? = some u → (w.alloc (.cells #[] 3)).cell? (a.add j) = some u := by
      intro j u hj
      have hn : 0 < n := by
        have := (List.getElem?_eq_some_iff.1 hj).1
        rw [hlen] at this
        exact Nat.pos_of_ne_zero (fun h0 => by subst h0; simp at this)
      obtain ⟨b, off, hab, _, hbs, hc⟩ := h5 hn
      cases hab
      rw [Addr.add_lit, World.cell?_alloc_lt _ _ _ hbs]
      exact hc j u hj
    clear h2 h3 h4 h5 h
    unfold maxLen at hnle
    go_enter Try.func56, Try.ntmps56
    go_wp2_with (at_builtin; refine wpList_append_own _ rfl _ _ 24 rfl w.heap.size 3 i0 _ 1 8 Try.underlying24 hi hz0 hz1 hz2 rfl (by decide) _ 0 [] rfl (World.ownsRow_made w #[] 0 (Nat.le_refl _) (by decide) rfl) a n cap xs rfl hlen hx h1 (by unfold maxLen; omega) (by omega) (by simp) ?_; intro v' w1 hown hgrow hnil)
    go_ret
    simp only [Nat.zero_add, List.nil_append] at hown
    have hrow := RowF.of_owns hown
    obtain ⟨_, ao', c', rfl, _⟩ := id hrow
    exact ⟨ao', c', rfl, exts_of_grown ((Exts.refl w).alloc _) hgrow (fun b hb => by cases hb; exact Nat.le_refl _), hrow, TypedBy.of_owns hown⟩
theorem heap_two (w : World) (o1 o2 : Obj) (x : Ex) (b : Nat) : (wext ((w.alloc o1).alloc o2) x).heap[b]? = if b < w.heap.size then w.heap[b]? else if b = w.heap.size then some o1 else if b = w.heap.size + 1 then some o2 else x.bs[b - (w.heap.size + 2)]? := by
  by_cases h : b < ((w.alloc o1).alloc o2).heap.size
  · rw [wext_heap_old _ _ _ h, heap_alloc_if, heap_alloc_if]
    simp only [World.size_alloc] at h ⊢
    by_cases h1 : b < w.heap.size
    · have h3 : b < w.heap.size + 1 := by omega
      simp only [h1, h3, if_true]
    · by_cases h2 : b = w.heap.size
      · have h3 : b < w.heap.size + 1 := by omega
        simp only [h1, h2, h3, if_true, if_false, Nat.lt_irrefl, Nat.lt_succ_self]
      · have h3 : ¬ b < w.heap.size + 1 := by omega
        have h4 : b = w.heap.size + 1 := by omega
        simp only [h1, h2, h3, if_false]
        simp only [h4, if_true]
  · simp only [World.size_alloc] at h
    rw [if_neg (by omega), if_neg (by omega), if_neg (by omega)]
    simp only [wext, Array.getElem?_append]
    rw [if_neg (by simp; omega)]
    congr 1
    simp
theorem typed_two {w : World} {o1 o2 o1' o2' : Obj} {x : Ex} {e : TypeId} {v : Value} (h1 : ∀ c, o1 ≠ .cells c e (0, 0)) (h2 : ∀ c, o2 ≠ .cells c e (0, 0)) (h : TypedBy e (wext ((w.alloc o1).alloc o2) x) v) : TypedBy e (wext ((w.alloc o1').alloc o2') x) v := by
  intro b hb
  obtain ⟨c, hc⟩ := h b hb
  refine ⟨c, ?_⟩
  rw [heap_two] at hc ⊢
  by_cases q1 : b < w.heap.size
  · rw [if_pos q1] at hc ⊢
    exact hc
  · rw [if_neg q1] at hc ⊢
    by_cases q2 : b = w.heap.size
    · rw [if_pos q2] at hc
      simp only [Option.some.injEq] at hc
      exact absurd hc (h1 c)
    · rw [if_neg q2] at hc ⊢
      by_cases q3 : b = w.heap.size + 1
      · rw [if_pos q3] at hc
        simp only [Option.some.injEq] at hc
        exact absurd hc (h2 c)
      · rw [if_neg q3] at hc ⊢
        exact hc
theorem int_all (l : List Int) : ∀ u ∈ intsC l, u.oneCell' = true := by
  intro u hu
  simp [intsC] at hu
  obtain ⟨b, _, rfl⟩ := hu
  rfl
theorem clone56_I {S : Nat → Prop} (vo : Option Addr) (n vc : Nat) (l : List Int) (w : World) (h : Ints S w vo n vc l) (hn : n ≤ 1000) :
    Calls Try.prog 56 #[.slice vo n vc] w fun e w' => ∃ ao' c', e = .returned (.slice ao' n c') ∧ Exts w w' ∧ Ints (fun b => w.heap.size ≤ b) w' ao' n c' l ∧ TypedBy 3 w' (.slice ao' n c') :=
  clone56 _ n (intsC l) w h (int_all l) (by omega)
set_option maxRecDepth 100000
set_option maxHeartbeats 2000000
theorem clone44 {S : Nat → Prop} (id : Int) (vo : Option Addr) (n vc : Nat) (l : List Int) (gr : Bool) (w : World) (h : Ints S w vo n vc l) (hn : n ≤ 1000) :
    Calls Try.prog 44 #[.agg #[.int .i64 id, .slice vo n vc, .bool gr]] w fun e w' => ∃ ao' c', e = .returned (.agg #[.int .i64 id, .slice ao' n c', .bool gr]) ∧ Exts w w' ∧ Ints (fun b => w.heap.size ≤ b) w' ao' n c' l ∧ TypedBy 3 w' (.slice ao' n c') := by
  have H := Lib.hid h
  clear h
  go_enter Try.func44, Try.ntmps44
  go_wp2_with (first | (go_at_call 56; ((with_reducible refine (clone56_I _ _ _ l _ (RowF.exts H.out (by repeat (first | exact Exts.refl _ | apply Exts.andR | apply Exts.alloc | apply Exts.wext | apply Exts.drew | apply Exts.drewN))) hn).mono ?_); rintro e w' ⟨ao', c', rfl, ⟨x1, rfl⟩, hr, ht⟩; (have HR := Lib.hid hr); (have HT := Lib.hid ht); clear hr ht)))
  refine bodyPost_ret (v := .agg #[.int .i64 id, .slice ao' n c', .bool gr]) (by simp [results, go_sem]) rfl ⟨ao', c', rfl, (by repeat (first | exact Exts.refl _ | apply Exts.andR | apply Exts.alloc | apply Exts.wext | apply Exts.drew | apply Exts.drewN)), (HR.out.keeps (Keeps.base rfl (by simp))).up (by simp; omega), ?_⟩
  exact typed_two (fun c hc => by simp at hc) (fun c hc => by simp at hc) HT.out
end Go.Proofs.Ytodgohilfbggjaa
