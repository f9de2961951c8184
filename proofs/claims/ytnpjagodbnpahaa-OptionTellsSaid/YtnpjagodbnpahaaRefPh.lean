/- phases of the reference copies phases. Conditions: their numbers are small. -/
import Derived.Test.YtnpjagodbnpahaaPhWalk
import Derived.Test.YtnpjagodbnpahaaAppEmpty
namespace Go.Proofs.Ytnpjagodbnpahaa
open Go.RowKit
set_option linter.unusedSimpArgs false
set_option linter.unusedVariables false

theorem RowF.zero {S : Nat → Prop} {k : Nat} {w w' : World} {v : Value} {xs : List Value} (h : RowF S k w v 0 xs) : RowF S k w' v 0 xs := by
  obtain ⟨h1, ao, cap, rfl, h2, h3, h4, h5⟩ := h
  exact ⟨h1, ao, cap, rfl, h2, h3, h4, fun hn => by omega⟩
def TyOr (n : Nat) (e : TypeId) (w : World) (v : Value) : Prop := n = 0 ∨ TypedBy e w v
theorem TyOr.exts {n : Nat} {e : TypeId} {w w' : World} {v : Value} (h : TyOr n e w v) (he : Exts w w') : TyOr n e w' v := h.imp id fun h => h.exts he
theorem keep_or {S : Nat → Prop} {n k : Nat} {e e' : TypeId} {w w' : World} {v u : Value} {xs : List Value} (h : RowF S k w v n xs) (t : TyOr n e w v) (tu : TypedBy e' w u) (hne : e ≠ e') (hg : w.grownBy w' u.ownBlock) : RowF S k w' v n xs ∧ TyOr n e w' v := by
  rcases t with rfl | t
  · exact ⟨h.zero, .inl rfl⟩
  · have n1 := t.ne tu hne
    exact ⟨h.grown hg n1, .inr (t.grown hg n1)⟩

theorem phs_round2 {B k : Nat} {Wr Wp w1 : World} {u : Value} {ys : List Value} {P : List PhC} {p : PhC} {sa sb : Value} (hex : Exts Wr Wp) (hown : Wr.ownsRow B 33 2 u k ys)
    (hin : ∀ i p, i < k → P[i]? = some p → ∃ a b, ys[i * 2]? = some a ∧ ys[i * 2 + 1]? = some b ∧ Vols (fun b => B ≤ b) Wr a p.1 ∧ Ents (fun b => B ≤ b) Wr b p.2 ∧ TyOr p.1.length 61 Wr a ∧ TyOr p.2.length 63 Wr b)
    (hpk : P[k]? = some p) (ra : Vols (fun b => B ≤ b) Wp sa p.1) (rb : Ents (fun b => B ≤ b) Wp sb p.2) (ta : TyOr p.1.length 61 Wp sa) (tb : TyOr p.2.length 63 Wp sb) (hg : Wp.grownBy w1 u.ownBlock) :
    ∀ i q, i < k + 1 → P[i]? = some q → ∃ a b, (ys ++ [sa, sb])[i * 2]? = some a ∧ (ys ++ [sa, sb])[i * 2 + 1]? = some b ∧ Vols (fun b => B ≤ b) w1 a q.1 ∧ Ents (fun b => B ≤ b) w1 b q.2 ∧ TyOr q.1.length 61 w1 a ∧ TyOr q.2.length 63 w1 b := by
  intro i q hi hq
  have tu : TypedBy 33 Wp u := TypedBy.of_owns (ownsRow_exts hown hex)
  have hl : ys.length = k * 2 := hown.1
  by_cases hik : i < k
  · obtain ⟨a, b, h1, h2, h3, h4, h5, h6⟩ := hin i q hik hq
    obtain ⟨k1, k2⟩ := keep_or (h3.exts hex) (h5.exts hex) tu (by decide) hg
    obtain ⟨k3, k4⟩ := keep_or (h4.exts hex) (h6.exts hex) tu (by decide) hg
    exact ⟨a, b, by rw [List.getElem?_append_left (by omega)]; exact h1, by rw [List.getElem?_append_left (by omega)]; exact h2, k1, k3, k2, k4⟩
  · obtain rfl : i = k := by omega
    rw [hpk] at hq
    cases hq
    obtain ⟨k1, k2⟩ := keep_or ra ta tu (by decide) hg
    obtain ⟨k3, k4⟩ := keep_or rb tb tu (by decide) hg
    refine ⟨sa, sb, ?_, ?_, k1, k3, k2, k4⟩
    · rw [List.getElem?_append_right (by omega), hl]; simp
    · rw [List.getElem?_append_right (by omega), hl]; simp
theorem phs_end2 {B k : Nat} {w : World} {u : Value} {ys : List Value} {P : List PhC} (hk : k = P.length) (hown : w.ownsRow B 33 2 u k ys)
    (hin : ∀ i p, i < k → P[i]? = some p → ∃ a b, ys[i * 2]? = some a ∧ ys[i * 2 + 1]? = some b ∧ Vols (fun b => B ≤ b) w a p.1 ∧ Ents (fun b => B ≤ b) w b p.2 ∧ TyOr p.1.length 61 w a ∧ TyOr p.2.length 63 w b) : Phs (fun b => B ≤ b) w u P ∧ ∃ ao c, u = .slice ao P.length c := by
  subst hk
  have hr := RowF.of_owns hown
  refine ⟨⟨ys, hr, fun i p hp => ?_⟩, ?_⟩
  · obtain ⟨a, b, h1, h2, h3, h4, _, _⟩ := hin i p (List.getElem?_eq_some_iff.1 hp).1 hp
    exact ⟨a, b, h1, h2, h3, h4⟩
  · obtain ⟨_, ao, c, hv, _⟩ := hr
    exact ⟨ao, c, hv⟩

set_option maxRecDepth 100000
set_option maxHeartbeats 4000000 in
theorem refPhases33 (v : Value) (P : List PhC) (w : World) {S : Nat → Prop} (h : Phs S w v P) (hf : Fits P) :
    Calls Try.prog 33 #[v] w fun e w' => ∃ ao c, e = .returned (.slice ao P.length c) ∧ Exts w w' ∧ Phs (fun b => w.heap.size ≤ b) w' (.slice ao P.length c) P := by
  obtain ⟨i0, hi, hz0, hz1, hz2⟩ := info_parts info33
  obtain ⟨iv, hv, hv0, hv1, hv2⟩ := info_parts info61
  obtain ⟨ie, he, he0, he1, he2⟩ := info_parts info63
  obtain ⟨xs, hr, hp⟩ := h
  have hnle := hr.nle
  have hlen := hr.len
  obtain ⟨_, ao, cap, rfl, h2, h3, h4, h5⟩ := id hr
  obtain ⟨hf1, hf2⟩ := hf
  have HP := Lib.hid hp
  have HF := Lib.hid hf2
  have H5 := Lib.hid h5
  have HR := Lib.hid hr
  clear hp hf2 h5 hr
  go_enter Try.func33, Try.ntmps33
  go_wp2
  go_loopw [3, 4] (fun o i wr => ∃ (k : Nat) (ys : List Value), k ≤ P.length ∧ i = .int .i64 k ∧ Exts w wr ∧ wr.ownsRow w.heap.size 33 2 o k ys ∧
      (∀ i p, i < k → P[i]? = some p → ∃ a b, ys[i * 2]? = some a ∧ ys[i * 2 + 1]? = some b ∧ Vols (fun b => w.heap.size ≤ b) wr a p.1 ∧ Ents (fun b => w.heap.size ≤ b) wr b p.2 ∧ TyOr p.1.length 61 wr a ∧ TyOr p.2.length 63 wr b)) (fun _ i _ => P.length - (intOf i).toNat)
  case atStart => exact ⟨0, [], by omega, rfl, Exts.refl _, World.ownsRow_nil _ _ _ _, fun i p hi => by omega⟩
  case round =>
    obtain ⟨k, ys, hk, rfl, hwx, hown, hin⟩ := hrel
    by_cases hlt : k < P.length
    · obtain ⟨b, off, rfl, _, hb, hc⟩ := H5.out (by omega)
      obtain ⟨p, hpk⟩ : ∃ p, P[k]? = some p := ⟨P[k], List.getElem?_eq_getElem hlt⟩
      obtain ⟨a, b', ha, hb', hva, heb⟩ := HP.out k p hpk
      obtain ⟨_, aa, ca, rfl, _, _, _, _⟩ := id hva
      obtain ⟨_, ab, cb, rfl, _, _, _, _⟩ := id heb
      have c0 := hc _ _ ha
      have c1 := hc _ _ hb'
      rw [← Nat.add_assoc] at c1
      have fa := (HF.out p (List.mem_of_getElem? hpk)).1
      have fb := (HF.out p (List.mem_of_getElem? hpk)).2
      have HO := Lib.hid hown
      have HI := Lib.hid hin
      have HC := Lib.hid hc
      have HPK := Lib.hid hpk
      go_wp2_with fail
      refine wp_name ?_
      intro W1 hW1
      have e1 : Exts w W1 := by rw [hW1]; exact hwx
      have HE2 := Lib.hid (show Exts _ W1 by rw [hW1]; exact Exts.refl _)
      have G0 := Lib.hid (Exts.cell e1 c0)
      have G1 := Lib.hid (Exts.cell e1 c1)
      have hu : ∀ g, u3.ownBlock = some g → w.heap.size ≤ g := fun g hg => (HO.out.lt g hg).1
      have NE := Lib.hid (show some b ≠ u3.ownBlock from fun h => by have := hu _ h.symm; omega)
      clear hu
      have HE1 := Lib.hid e1
      have HA := Lib.hid (RowF.exts hva e1)
      have HB := Lib.hid (RowF.exts heb e1)
      have hk0 : (0 : Int) ≤ (k : Int) := by omega
      have hk1 : (k : Int) < (P.length : Int) := by omega
      clear hown hin hc hva heb ha hb' hW1 e1 c0 c1 hwx hpk
      go_region_held3 (fun w' => w'.cell? ⟨b, off + k * 2, none⟩ = some (.slice aa p.1.length ca) ∧ w'.cell? ⟨b, off + k * 2 + 1, none⟩ = some (.slice ab p.2.length cb)) (first | exact ⟨World.grownBy.cell hgrow (Exts.cell (by repeat (first | exact Exts.refl _ | apply Exts.andR | apply Exts.alloc | apply Exts.wext | apply Exts.drew | apply Exts.drewN)) G0.out) NE.out, World.grownBy.cell hgrow (Exts.cell (by repeat (first | exact Exts.refl _ | apply Exts.andR | apply Exts.alloc | apply Exts.wext | apply Exts.drew | apply Exts.drewN)) G1.out) NE.out⟩ | exact ⟨Exts.cell (by repeat (first | exact Exts.refl _ | apply Exts.andR | apply Exts.alloc | apply Exts.wext | apply Exts.drew | apply Exts.drewN)) G0.out, Exts.cell (by repeat (first | exact Exts.refl _ | apply Exts.andR | apply Exts.alloc | apply Exts.wext | apply Exts.drew | apply Exts.drewN)) G1.out⟩) ((first | (refine step_append_empty rfl (.tmp 12) (.tmp 17) 30 rfl 61 iv _ 9 72 Try.underlying30 hv hv0 hv1 hv2 rfl (by decide) _ rfl aa p.1.length ca (volFlat p.1) rfl (RowF.exts HA.out (by repeat (first | exact Exts.refl _ | apply Exts.andR | apply Exts.alloc | apply Exts.wext | apply Exts.drew | apply Exts.drewN))) (volFlat_one p.1) (by unfold maxLen; omega) (by omega) ?_; rintro va na w' ⟨xa, rfl⟩ ra ta) | (refine step_append_empty rfl (.tmp 19) (.tmp 24) 31 rfl 63 ie _ 2 24 Try.underlying31 he he0 he1 he2 rfl (by decide) _ rfl ab p.2.length cb (entFlat p.2) rfl (RowF.exts HB.out (by repeat (first | exact Exts.refl _ | apply Exts.andR | apply Exts.alloc | apply Exts.wext | apply Exts.drew | apply Exts.drewN))) (entFlat_one p.2) (by unfold maxLen; omega) (by omega) ?_; rintro vb nb w' ⟨xb, rfl⟩ rb tb) | (refine step_append_lies _ rfl (.tmp 11) (.tmp 27) 22 rfl w.heap.size 33 i0 _ 2 48 Try.underlying22 hi hz0 hz1 hz2 rfl (by decide) u3 k ys rfl (ownsRow_exts HO.out (HE2.out.trans (by repeat (first | exact Exts.refl _ | apply Exts.andR | apply Exts.alloc | apply Exts.wext | apply Exts.drew | apply Exts.drewN)))) ⟨_, 0, none⟩ 1 1 [.slice va p.1.length na, .slice vb p.2.length nb] rfl rfl (by intro j u hj; match j, hj with | 0, hj => (simp at hj; subst hj; simp [go_sem]) | 1, hj => (simp at hj; subst hj; simp [go_sem])) (by intro u hu; simp at hu; rcases hu with rfl | rfl <;> rfl) (by decide) (by unfold maxLen; omega) (by omega) (by have := HE1.out.below.size; simp; omega) _ rfl ?_; intro g cg w1 hown' hgrow hat hlt')))
      all_goals
        go_wp2
        simp only [wext_and, wext_of_drew] at ra rb ta tb
        have R := phs_round2 (HE2.out.trans (by repeat (first | exact Exts.refl _ | apply Exts.andR | apply Exts.alloc | apply Exts.wext | apply Exts.drew | apply Exts.drewN))) HO.out HI.out HPK.out ((RowF.exts ra (by repeat (first | exact Exts.refl _ | apply Exts.andR | apply Exts.alloc | apply Exts.wext | apply Exts.drew | apply Exts.drewN))).mono fun b hb => Nat.le_trans (HE1.out.trans (by repeat (first | exact Exts.refl _ | apply Exts.andR | apply Exts.alloc | apply Exts.wext | apply Exts.drew | apply Exts.drewN))).below.size hb) ((RowF.exts rb (by repeat (first | exact Exts.refl _ | apply Exts.andR | apply Exts.alloc | apply Exts.wext | apply Exts.drew | apply Exts.drewN))).mono fun b hb => Nat.le_trans (HE1.out.trans (by repeat (first | exact Exts.refl _ | apply Exts.andR | apply Exts.alloc | apply Exts.wext | apply Exts.drew | apply Exts.drewN))).below.size hb) (TyOr.exts ta (by repeat (first | exact Exts.refl _ | apply Exts.andR | apply Exts.alloc | apply Exts.wext | apply Exts.drew | apply Exts.drewN))) (TyOr.exts tb (by repeat (first | exact Exts.refl _ | apply Exts.andR | apply Exts.alloc | apply Exts.wext | apply Exts.drew | apply Exts.drewN))) hgrow
        go_roundw
        case rel => exact ⟨k + 1, _, by omega, by go_num, exts_of_grown (HE1.out.trans (by repeat (first | exact Exts.refl _ | apply Exts.andR | apply Exts.alloc | apply Exts.wext | apply Exts.drew | apply Exts.drewN))) hgrow (fun b hb => (HO.out.lt b hb).1), hown', R⟩
        case measure => simp [intOf]; omega
    · obtain rfl : k = P.length := by omega
      obtain ⟨E, ao, c, rfl⟩ := phs_end2 rfl hown hin
      have HX := Lib.hid hwx
      have HE := Lib.hid E
      clear hwx hown hin E
      go_wp2
      go_ret
      exact ⟨ao, c, rfl, HX.out, HE.out⟩
end Go.Proofs.Ytnpjagodbnpahaa
