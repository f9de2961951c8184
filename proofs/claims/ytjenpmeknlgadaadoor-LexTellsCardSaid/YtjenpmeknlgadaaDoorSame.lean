/- Same and Like of the reference of chapter 14, where the two sides are alike. Conditions: the lists are not too long. -/
import Derived.Test.YtjenpmeknlgadaaDoorText
namespace Go.Proofs.YtjenpmeknlgadaaDoor
open Go.RowKit
set_option linter.unusedSimpArgs false
set_option linter.unusedVariables false

set_option maxRecDepth 100000
set_option maxHeartbeats 2000000 in
theorem same15 {S S' : Nat → Prop} (ao bo : Option Addr) (n ca cb : Nat) (ts : List TP) (w : World) (h1 : RowF S 4 w (.slice ao n ca) n (tokFlat ts)) (h2 : RowF S' 4 w (.slice bo n cb) n (tokFlat ts)) (hn : ts.length = n) (hm : n ≤ 100000) :
    Calls Tryd.prog 15 #[.slice ao n ca, .slice bo n cb] w fun e w' => e = .returned (.bool true) ∧ Exts w w' := by
  have H1 := Lib.hid h1
  have H2 := Lib.hid h2
  have HN := Lib.hid hn
  clear h1 h2 hn
  go_enter Tryd.func15, Tryd.ntmps15
  go_wp2
  go_loopw [5] (fun i wr => ∃ (k : Nat) (x : Ex), k ≤ n ∧ i = .int .i64 k ∧ wr = wext w x) (fun i _ => n - (intOf i).toNat)
  case atStart => exact ⟨0, _, by omega, rfl, (wext_self _).symm⟩
  case round =>
    obtain ⟨k, x, hk, rfl, rfl⟩ := hrel
    by_cases hlt : k < n
    · obtain ⟨t, ht⟩ : ∃ t, ts[k]? = some t := ⟨ts[k]'(by rw [HN.out]; exact hlt), List.getElem?_eq_getElem (by rw [HN.out]; exact hlt)⟩
      obtain ⟨b, off, rfl, hb, e0, e1, e2, e3⟩ := Toks.get H1.out ht
      obtain ⟨b', off', rfl, hb', d0, d1, d2, d3⟩ := Toks.get H2.out ht
      clear ht
      go_wp2
      first | refine wp_region_ext_lit2 (by kernel_rfl) (by kernel_rfl) ?_ | refine wp_region_ext_lit (by kernel_rfl) (by kernel_rfl) ?_
      repeat (go_big_quiet_step (fail))
      refine wpQuiet_nil ?_
      intro _ hwq'
      obtain ⟨xq, hwq''⟩ := hwq'
      subst hwq''
      go_wp2
      go_roundw
      case rel => exact ⟨k + 1, xq, by omega, by go_num, rfl⟩
      case measure => simp [intOf]; omega
    · go_wp2
      go_ret
      exact ⟨rfl, (by repeat (first | exact Exts.refl _ | apply Exts.andR | apply Exts.alloc | apply Exts.wext | apply Exts.drew | apply Exts.drewN))⟩

def likeT (s t : TP) : Prop := s.kind = t.kind ∧ s.text = t.text ∧ s.n = t.n
set_option maxHeartbeats 2000000 in
theorem like20 {S S' : Nat → Prop} (ao bo : Option Addr) (n ca cb : Nat) (ts us : List TP) (w : World) (h1 : RowF S 4 w (.slice ao n ca) n (tokFlat ts)) (h2 : RowF S' 4 w (.slice bo n cb) n (tokFlat us)) (hn : ts.length = n) (hu : us.length = n) (hm : n ≤ 100000)
    (hl : ∀ (i : Nat) (s t : TP), ts[i]? = some s → us[i]? = some t → likeT s t) :
    Calls Tryd.prog 20 #[.slice ao n ca, .slice bo n cb] w fun e w' => e = .returned (.bool true) ∧ Exts w w' := by
  have H1 := Lib.hid h1
  have H2 := Lib.hid h2
  have HN := Lib.hid hn
  have HU := Lib.hid hu
  have HL := Lib.hid hl
  clear h1 h2 hn hu hl
  go_enter Tryd.func20, Tryd.ntmps20
  go_wp2
  go_loopw [5] (fun i wr => ∃ (k : Nat) (x : Ex), k ≤ n ∧ i = .int .i64 k ∧ wr = wext w x) (fun i _ => n - (intOf i).toNat)
  case atStart => exact ⟨0, _, by omega, rfl, (wext_self _).symm⟩
  case round =>
    obtain ⟨k, x, hk, rfl, rfl⟩ := hrel
    by_cases hlt : k < n
    · obtain ⟨⟨tk, tt, tn, tp⟩, ht⟩ : ∃ t, ts[k]? = some t := ⟨ts[k]'(by rw [HN.out]; exact hlt), List.getElem?_eq_getElem (by rw [HN.out]; exact hlt)⟩
      obtain ⟨⟨uk, ut, un, up⟩, hu⟩ : ∃ t, us[k]? = some t := ⟨us[k]'(by rw [HU.out]; exact hlt), List.getElem?_eq_getElem (by rw [HU.out]; exact hlt)⟩
      obtain ⟨b, off, rfl, hb, e0, e1, e2, e3⟩ := Toks.get H1.out ht
      obtain ⟨b', off', rfl, hb', d0, d1, d2, d3⟩ := Toks.get H2.out hu
      obtain ⟨q1, q2, q3⟩ := HL.out k _ _ ht hu
      simp only at q1 q2 q3
      subst q1 q2 q3
      clear ht hu
      go_wp2
      first | refine wp_region_ext_lit2 (by kernel_rfl) (by kernel_rfl) ?_ | refine wp_region_ext_lit (by kernel_rfl) (by kernel_rfl) ?_
      repeat (go_big_quiet_step (fail))
      refine wpQuiet_nil ?_
      intro _ hwq'
      obtain ⟨xq, hwq''⟩ := hwq'
      subst hwq''
      go_wp2
      go_roundw
      case rel => exact ⟨k + 1, xq, by omega, by go_num, rfl⟩
      case measure => simp [intOf]; omega
    · go_wp2
      go_ret
      exact ⟨rfl, (by repeat (first | exact Exts.refl _ | apply Exts.andR | apply Exts.alloc | apply Exts.wext | apply Exts.drew | apply Exts.drewN))⟩
end Go.Proofs.YtjenpmeknlgadaaDoor
