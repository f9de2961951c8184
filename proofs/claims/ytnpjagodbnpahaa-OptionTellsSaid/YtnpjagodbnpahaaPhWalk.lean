/- option.phases copies phases. Conditions: their numbers are small. -/
import Derived.Test.YtnpjagodbnpahaaPhases
import Derived.Deep.AppendLies
namespace Go.Proofs.Ytnpjagodbnpahaa
open Go.RowKit
set_option linter.unusedSimpArgs false
set_option linter.unusedVariables false

theorem info33 : (Try.prog.info? 33).map (fun i => (i.zero, i.size, i.bytes)) = some (some (.agg #[.slice none 0 0, .slice none 0 0]), 2, 48) := by kernel_rfl

/-- What one round of a copy leaves: the phases copied so far, and one more. -/
theorem phs_round {B k : Nat} {Wr Wp w1 : World} {u : Value} {ys : List Value} {P : List PhC} {p : PhC} {sa sb : Value} (hex : Exts Wr Wp) (hown : Wr.ownsRow B 33 2 u k ys)
    (hin : ∀ i p, i < k → P[i]? = some p → ∃ a b, ys[i * 2]? = some a ∧ ys[i * 2 + 1]? = some b ∧ Vols (fun b => B ≤ b) Wr a p.1 ∧ Ents (fun b => B ≤ b) Wr b p.2 ∧ TypedBy 61 Wr a ∧ TypedBy 63 Wr b)
    (hpk : P[k]? = some p) (ra : Vols (fun b => B ≤ b) Wp sa p.1) (rb : Ents (fun b => B ≤ b) Wp sb p.2) (ta : TypedBy 61 Wp sa) (tb : TypedBy 63 Wp sb) (hg : Wp.grownBy w1 u.ownBlock) :
    ∀ i q, i < k + 1 → P[i]? = some q → ∃ a b, (ys ++ [sa, sb])[i * 2]? = some a ∧ (ys ++ [sa, sb])[i * 2 + 1]? = some b ∧ Vols (fun b => B ≤ b) w1 a q.1 ∧ Ents (fun b => B ≤ b) w1 b q.2 ∧ TypedBy 61 w1 a ∧ TypedBy 63 w1 b := by
  intro i q hi hq
  have tu : TypedBy 33 Wp u := TypedBy.of_owns (ownsRow_exts hown hex)
  have hl : ys.length = k * 2 := hown.1
  by_cases hik : i < k
  · obtain ⟨a, b, h1, h2, h3, h4, h5, h6⟩ := hin i q hik hq
    have n1 := (h5.exts hex).ne tu (by decide)
    have n2 := (h6.exts hex).ne tu (by decide)
    exact ⟨a, b, by rw [List.getElem?_append_left (by omega)]; exact h1, by rw [List.getElem?_append_left (by omega)]; exact h2,
      (h3.exts hex).grown hg n1, (h4.exts hex).grown hg n2, (h5.exts hex).grown hg n1, (h6.exts hex).grown hg n2⟩
  · obtain rfl : i = k := by omega
    rw [hpk] at hq
    cases hq
    have n1 := ta.ne tu (by decide)
    have n2 := tb.ne tu (by decide)
    refine ⟨sa, sb, ?_, ?_, ra.grown hg n1, rb.grown hg n2, ta.grown hg n1, tb.grown hg n2⟩
    · rw [List.getElem?_append_right (by omega), hl]; simp
    · rw [List.getElem?_append_right (by omega), hl]; simp

/-- At the end. -/
theorem phs_end {B k : Nat} {w : World} {u : Value} {ys : List Value} {P : List PhC} (hk : k = P.length) (hown : w.ownsRow B 33 2 u k ys)
    (hin : ∀ i p, i < k → P[i]? = some p → ∃ a b, ys[i * 2]? = some a ∧ ys[i * 2 + 1]? = some b ∧ Vols (fun b => B ≤ b) w a p.1 ∧ Ents (fun b => B ≤ b) w b p.2 ∧ TypedBy 61 w a ∧ TypedBy 63 w b) : Phs (fun b => B ≤ b) w u P ∧ ∃ ao c, u = .slice ao P.length c := by
  subst hk
  have hr := RowF.of_owns hown
  refine ⟨⟨ys, hr, fun i p hp => ?_⟩, ?_⟩
  · obtain ⟨a, b, h1, h2, h3, h4, _, _⟩ := hin i p (List.getElem?_eq_some_iff.1 hp).1 hp
    exact ⟨a, b, h1, h2, h3, h4⟩
  · obtain ⟨_, ao, c, hv, _⟩ := hr
    exact ⟨ao, c, hv⟩

set_option maxRecDepth 100000
set_option maxHeartbeats 1000000 in
theorem phases30 (v : Value) (P : List PhC) (w : World) {S : Nat → Prop} (h : Phs S w v P) (hf : Fits P) :
    Calls Try.prog 30 #[v] w fun e w' => ∃ ao c, e = .returned (.slice ao P.length c) ∧ Exts w w' ∧ Phs (fun b => w.heap.size ≤ b) w' (.slice ao P.length c) P := by
  obtain ⟨i0, hi, hz0, hz1, hz2⟩ := info_parts info33
  obtain ⟨xs, hr, hp⟩ := h
  have hnle := hr.nle
  have hlen := hr.len
  obtain ⟨_, ao, cap, rfl, h2, h3, h4, h5⟩ := id hr
  obtain ⟨hf1, hf2⟩ := hf
  have HP := Lib.hid hp
  have HF := Lib.hid hf2
  have H5 := Lib.hid h5
  have HR := Lib.hid hr
  clear hp hf2 h5 hr
  go_enter Try.func30, Try.ntmps30
  go_wp2
  go_loopw [3, 8] (fun o i wr => ∃ (k : Nat) (ys : List Value), k ≤ P.length ∧ i = .int .i64 k ∧ Exts w wr ∧ wr.ownsRow w.heap.size 33 2 o k ys ∧
      (∀ i p, i < k → P[i]? = some p → ∃ a b, ys[i * 2]? = some a ∧ ys[i * 2 + 1]? = some b ∧ Vols (fun b => w.heap.size ≤ b) wr a p.1 ∧ Ents (fun b => w.heap.size ≤ b) wr b p.2 ∧ TypedBy 61 wr a ∧ TypedBy 63 wr b)) (fun _ i _ => P.length - (intOf i).toNat)
  case atStart => exact ⟨0, [], by omega, rfl, Exts.refl _, World.ownsRow_nil _ _ _ _, fun i p hi => by omega⟩
  case round =>
    obtain ⟨k, ys, hk, rfl, ⟨x, rfl⟩, hown, hin⟩ := hrel
    by_cases hlt : k < P.length
    · obtain ⟨b, off, rfl, _, hb, hc⟩ := H5.out (by omega)
      obtain ⟨p, hpk⟩ : ∃ p, P[k]? = some p := ⟨P[k], List.getElem?_eq_getElem hlt⟩
      obtain ⟨a, b', ha, hb', hva, heb⟩ := HP.out k p hpk
      obtain ⟨_, aa, ca, rfl, _, _, _, _⟩ := id hva
      obtain ⟨_, ab, cb, rfl, _, _, _, _⟩ := id heb
      have c0 := hc _ _ ha
      have c1 := hc _ _ hb'
      rw [← Nat.add_assoc] at c1
      have fa := (HF.out p (List.mem_of_getElem? hpk)).1
      have fb := (HF.out p (List.mem_of_getElem? hpk)).2
      have HO := Lib.hid hown
      have HI := Lib.hid hin
      have HC := Lib.hid hc
      have HA := Lib.hid hva
      have HB := Lib.hid heb
      clear hown hin hc hva heb ha hb'
      go_wp2_with fail
      refine wp_name ?_
      intro W1 hW1
      have e1 : Exts w W1 := by rw [hW1]; exact (by repeat (first | exact Exts.refl _ | apply Exts.andR | apply Exts.alloc | apply Exts.wext | apply Exts.drew | apply Exts.drewN))
      have e2 : Exts (wext w x) W1 := by rw [hW1]; exact (by repeat (first | exact Exts.refl _ | apply Exts.andR | apply Exts.alloc | apply Exts.wext | apply Exts.drew | apply Exts.drewN))
      have f0 : W1.cell? ⟨w.heap.size + x.bs.size, 0, none⟩ = some (.slice aa p.1.length ca) := by rw [hW1]; simp [go_sem]
      have f1 : W1.cell? ⟨w.heap.size + x.bs.size, 1, none⟩ = some (.slice ab p.2.length cb) := by rw [hW1]; simp [go_sem]
      have s0 : w.heap.size + x.bs.size < W1.heap.size := World.block_lt_of_cell? W1 _ f0
      have HE1 := Lib.hid e1
      have HE2 := Lib.hid e2
      clear hW1 e1 e2 c0 c1
      have hu : ∀ g, u3.ownBlock = some g → g < w.heap.size + x.bs.size := fun g hg => by have := (HO.out.lt g hg).2; simpa using this
      have hne : some (w.heap.size + x.bs.size) ≠ u3.ownBlock := fun h => by have := hu _ h.symm; omega
      have HU := Lib.hid hu
      have HNE := Lib.hid hne
      clear hu hne
      go_region_held3 (fun w' => w'.cell? ⟨w.heap.size + x.bs.size, 0, none⟩ = some (.slice aa p.1.length ca) ∧ w'.cell? ⟨w.heap.size + x.bs.size, 1, none⟩ = some (.slice ab p.2.length cb)) (first | (simp [go_sem, *]; done) | exact ⟨World.grownBy.cell hgrow (by simp [go_sem, *]) HNE.out, World.grownBy.cell hgrow (by simp [go_sem, *]) HNE.out⟩) ((first | (go_at_call 34; refine (clone30 _ _ (volFlat p.1) _ (RowF.exts HA.out (HE1.out.trans (by repeat (first | exact Exts.refl _ | apply Exts.andR | apply Exts.alloc | apply Exts.wext | apply Exts.drew | apply Exts.drewN)))) (volFlat_one p.1) (by omega)).mono ?_; rintro e w' ⟨va, na, rfl, ⟨xa, rfl⟩, ra, ta⟩) | (go_at_call 35; refine (clone31 _ _ (entFlat p.2) _ (RowF.exts HB.out (HE1.out.trans (by repeat (first | exact Exts.refl _ | apply Exts.andR | apply Exts.alloc | apply Exts.wext | apply Exts.drew | apply Exts.drewN)))) (entFlat_one p.2) (by omega)).mono ?_; rintro e w' ⟨vb, nb, rfl, ⟨xb, rfl⟩, rb, tb⟩) | (refine step_append_lies _ rfl (.tmp 12) (.tmp 20) 22 rfl w.heap.size 33 i0 _ 2 48 Try.underlying22 hi hz0 hz1 hz2 rfl (by decide) u3 k ys (by simp [Act.eval, Act.put]) (ownsRow_exts HO.out (HE2.out.trans (by repeat (first | exact Exts.refl _ | apply Exts.andR | apply Exts.alloc | apply Exts.wext | apply Exts.drew | apply Exts.drewN)))) ⟨W1.heap.size + xa.bs.size + xb.bs.size, 0, none⟩ 1 1 [.slice va p.1.length na, .slice vb p.2.length nb] (by simp [Act.eval, Act.put]) rfl (by intro j u hj; match j, hj with | 0, hj => (simp at hj; subst hj; simp [go_sem]) | 1, hj => (simp at hj; subst hj; simp [go_sem])) (by intro u hu; simp at hu; rcases hu with rfl | rfl <;> rfl) (by decide) (by unfold maxLen; omega) (by omega) (by simp; omega) _ rfl ?_; intro g cg w1 hown' hgrow hat hlt')))
      go_wp2
      simp only [wext_and, wext_of_drew] at ra rb ta tb
      have R := phs_round (HE2.out.trans (by repeat (first | exact Exts.refl _ | apply Exts.andR | apply Exts.alloc | apply Exts.wext | apply Exts.drew | apply Exts.drewN))) HO.out HI.out hpk ((RowF.exts ra (by repeat (first | exact Exts.refl _ | apply Exts.andR | apply Exts.alloc | apply Exts.wext | apply Exts.drew | apply Exts.drewN))).mono fun b hb => Nat.le_trans (HE1.out.trans (by repeat (first | exact Exts.refl _ | apply Exts.andR | apply Exts.alloc | apply Exts.wext | apply Exts.drew | apply Exts.drewN))).below.size hb) ((RowF.exts rb (by repeat (first | exact Exts.refl _ | apply Exts.andR | apply Exts.alloc | apply Exts.wext | apply Exts.drew | apply Exts.drewN))).mono fun b hb => Nat.le_trans (HE1.out.trans (by repeat (first | exact Exts.refl _ | apply Exts.andR | apply Exts.alloc | apply Exts.wext | apply Exts.drew | apply Exts.drewN))).below.size hb) (TypedBy.exts ta (by repeat (first | exact Exts.refl _ | apply Exts.andR | apply Exts.alloc | apply Exts.wext | apply Exts.drew | apply Exts.drewN))) (TypedBy.exts tb (by repeat (first | exact Exts.refl _ | apply Exts.andR | apply Exts.alloc | apply Exts.wext | apply Exts.drew | apply Exts.drewN))) hgrow
      go_roundw
      case rel => exact ⟨k + 1, _, by omega, by go_num, exts_of_grown (HE1.out.trans (by repeat (first | exact Exts.refl _ | apply Exts.andR | apply Exts.alloc | apply Exts.wext | apply Exts.drew | apply Exts.drewN))) hgrow (fun b hb => (HO.out.lt b hb).1), hown', R⟩
      case measure => simp [intOf]; omega
    · obtain rfl : k = P.length := by omega
      obtain ⟨E, ao, c, rfl⟩ := phs_end rfl hown hin
      go_wp2
      go_ret
      exact ⟨ao, c, rfl, (by repeat (first | exact Exts.refl _ | apply Exts.andR | apply Exts.alloc | apply Exts.wext | apply Exts.drew | apply Exts.drewN)), E⟩
end Go.Proofs.Ytnpjagodbnpahaa
