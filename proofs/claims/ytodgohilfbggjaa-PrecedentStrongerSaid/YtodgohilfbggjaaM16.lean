/- Lemmas that the laws of this seat share, 4 texts in one: Dist, RefDist, Same, Few. No condition of their own. -/
import Derived.Test.YtodgohilfbggjaaM15
import Derived.Deep.RegionHeld3
import Derived.Test.YtodgohilfbggjaaM14
/- Distinguish of package precedent, and of the reference. No condition but at most 2000 cases. -/
namespace Go.Proofs.Ytodgohilfbggjaa
open Go.RowKit Go.Maps
set_option linter.unusedSimpArgs false
set_option linter.unusedVariables false

/-- Lists of numbers, in a slice. -/
def ListsIn (w : World) (rows : List Value) (LL : List (List Int)) : Prop := rows.length = LL.length ∧ ∀ (i : Nat) (l : List Int), LL[i]? = some l → ∃ v, rows[i]? = some v ∧ IntsV w v l ∧ TypedBy 3 w v
def Lists (w : World) (o : Option Addr) (n c : Nat) (LL : List (List Int)) : Prop := ∃ rows, RowF (fun _ => True) 1 w (.slice o n c) n rows ∧ ListsIn w rows LL
theorem ListsIn.exts {w w' : World} {rows : List Value} {LL : List (List Int)} (h : ListsIn w rows LL) (he : Exts w w') : ListsIn w' rows LL :=
  ⟨h.1, fun i l hl => let ⟨v, e1, e2, e3⟩ := h.2 i l hl; ⟨v, e1, e2.exts he, e3.exts he⟩⟩
theorem Lists.exts {w w' : World} {o : Option Addr} {n c : Nat} {LL : List (List Int)} (h : Lists w o n c LL) (he : Exts w w') : Lists w' o n c LL :=
  let ⟨rows, h1, h2⟩ := h; ⟨rows, h1.exts he, h2.exts he⟩
theorem Lists.nil (w : World) : Lists w none 0 0 [] := ⟨[], RowF.nil _ _ _, rfl, fun i l hl => by simp at hl⟩
theorem IntsV.grown {e : TypeId} {w w' : World} {v u : Value} {l : List Int} (h : IntsV w v l) (ht : TypedBy 3 w v) (hg : w.grownBy w' u.ownBlock) (hu : TypedBy e w u) (hne : 3 ≠ e) : IntsV w' v l := by
  obtain ⟨ao, c, rfl, h2⟩ := h
  exact ⟨ao, c, rfl, RowF.grown h2 hg (ht.ne hu hne)⟩
theorem ListsIn.grown {e : TypeId} {w w' : World} {u : Value} {rows : List Value} {LL : List (List Int)} (h : ListsIn w rows LL) (hg : w.grownBy w' u.ownBlock) (hu : TypedBy e w u) (hne : 3 ≠ e) : ListsIn w' rows LL :=
  ⟨h.1, fun i l hl => let ⟨v, e1, e2, e3⟩ := h.2 i l hl; ⟨v, e1, e2.grown e3 hg hu hne, e3.grown hg (e3.ne hu hne)⟩⟩
theorem ListsIn.snoc {w : World} {rows : List Value} {LL : List (List Int)} {v : Value} {l : List Int} (h : ListsIn w rows LL) (hv : IntsV w v l) (ht : TypedBy 3 w v) : ListsIn w (rows ++ [v]) (LL ++ [l]) := by
  refine ⟨by simp [h.1], fun i l' hl => ?_⟩
  by_cases hi : i < LL.length
  · rw [List.getElem?_append_left hi] at hl
    obtain ⟨v', e1, e2⟩ := h.2 i l' hl
    exact ⟨v', by rw [List.getElem?_append_left (by rw [h.1]; exact hi)]; exact e1, e2⟩
  · rw [List.getElem?_append_right (by omega)] at hl
    obtain ⟨hi2, rfl⟩ : i - LL.length = 0 ∧ l = l' := by
      cases hq : i - LL.length with
      | zero => rw [hq] at hl; simp at hl; exact ⟨rfl, hl⟩
      | succ q => rw [hq] at hl; simp at hl
    exact ⟨v, by rw [List.getElem?_append_right (by rw [h.1]; omega), h.1, hi2]; rfl, hv, ht⟩
theorem ListsIn.step {S : Nat → Prop} {wr V w9 : World} {base m m' oc rc : Nat} {oo ro : Option Addr} {rows : List Value} {LL : List (List Int)} {ks : List Int} (hI : ListsIn wr rows LL) (hO : wr.ownsRow base 24 1 (.slice oo m oc) m rows) (hV : Exts wr V) (hks : Ints S V ro m' rc ks) (hm : ks.length = m') (ht : TypedBy 3 V (.slice ro m' rc)) (hg : V.grownBy w9 (Value.slice oo m oc).ownBlock) : ListsIn w9 (rows ++ [.slice ro m' rc]) (LL ++ [ks]) := by
  subst hm
  have hu := (TypedBy.of_owns hO).exts hV
  refine ((hI.exts hV).grown hg hu (by decide)).snoc ?_ (ht.grown hg (ht.ne hu (by decide)))
  exact IntsV.grown (e := 24) ⟨ro, rc, rfl, RowF.mono hks fun _ _ => trivial⟩ ht hg hu (by decide)
theorem Lists.get {w : World} {o : Option Addr} {n c : Nat} {LL : List (List Int)} (h : Lists w o n c LL) {i : Nat} (hi : i < n) : ∃ b off l vo vc, o = some ⟨b, off, none⟩ ∧ b < w.heap.size ∧ LL[i]? = some l ∧ w.cell? ⟨b, off + i, none⟩ = some (.slice vo l.length vc) ∧ Ints (fun _ => True) w vo l.length vc l := by
  obtain ⟨rows, ⟨q1, ao2, cap2, hv, q2, q3, q4, q5⟩, h1, h2⟩ := h
  simp only [Value.slice.injEq, true_and] at hv
  obtain ⟨rfl, rfl⟩ := hv
  obtain ⟨b, off, rfl, _, hb, hc⟩ := q5 (by omega)
  have hl : LL[i]? = some (LL[i]'(by omega)) := List.getElem?_eq_getElem (by omega)
  obtain ⟨v, e1, ⟨vo, vc, rfl, e2⟩, _⟩ := h2 i _ hl
  exact ⟨b, off, _, vo, vc, rfl, hb, hl, hc _ _ e1, e2⟩
theorem Lists.len {w : World} {o : Option Addr} {n c : Nat} {LL : List (List Int)} (h : Lists w o n c LL) : LL.length = n := by
  obtain ⟨rows, h1, h2, _⟩ := h
  have := h1.len
  omega
theorem info24 : (Try.prog.info? 24).map (fun i => (i.zero, i.size, i.bytes)) = some (some (.slice none 0 0), 1, 24) := by kernel_rfl
/-- What distinguishes a vector from the precedents of the other side. -/
noncomputable def distK (D : List Dm) (B : List Cs) (al : List Int) (s : Bool) (k : Nat) : List (List Int) := ((B.take k).filter fun c => c.grant != s).map fun c => keepsD D c al
theorem distK_next {D : List Dm} {B : List Cs} {al : List Int} {s : Bool} {k : Nat} {c : Cs} (h : B[k]? = some c) : distK D B al s (k + 1) = if (c.grant != s) = true then distK D B al s k ++ [keepsD D c al] else distK D B al s k := by
  unfold distK
  rw [List.take_add_one, h, List.filter_append, List.map_append]
  cases hq : c.grant != s <;> simp [hq]
theorem distK_len (D : List Dm) (B : List Cs) (al : List Int) (s : Bool) (k : Nat) : (distK D B al s k).length ≤ k := by
  unfold distK
  rw [List.length_map]
  exact Nat.le_trans (List.length_filter_le _ _) (by rw [List.length_take]; exact Nat.min_le_left _ _)
noncomputable def distD (D : List Dm) (B : List Cs) (al : List Int) (s : Bool) : List (List Int) × Int := if (checkD D B && inD D al) = true then (distK D B al s B.length, 0) else ([], 1)
set_option maxRecDepth 100000
set_option maxHeartbeats 4000000
theorem dist17 {S S1 S2 : Nat → Prop} (lo bo ao : Option Addr) (n1 c1 n c na ca : Nat) (D : List Dm) (B : List Cs) (al : List Int) (s : Bool) (w : World) (hd : Dims S w lo n1 c1 D) (hb : Cases S1 w bo n c B) (ha : Ints S2 w ao na ca al) (hn : n ≤ 2000) :
    Calls Try.prog 17 #[.slice lo n1 c1, .slice bo n c, .slice ao na ca, .bool s] w fun e w' => ∃ ro rc, e = .returned (.tuple #[.slice ro (distD D B al s).1.length rc, .int .i64 (distD D B al s).2]) ∧ Exts w w' ∧ Lists w' ro (distD D B al s).1.length rc (distD D B al s).1 := by
  have hl := hb.1
  have HD := Lib.hid hd
  have HB := Lib.hid hb
  have HA := Lib.hid ha
  obtain ⟨i0, hi, hz0, hz1, hz2⟩ := info_parts info24
  clear hd hb ha
  cases hck : checkD D B with
  | false =>
    have HCK := Lib.hid hck
    have HR := Lib.hid (show distD D B al s = ([], 1) by unfold distD; rw [hck]; rfl)
    clear hck hl
    go_enter Try.func17, Try.ntmps17
    go_wp2_with (first | (go_at_call 31; ((with_reducible refine (check31 _ _ _ _ _ _ D B _ _ (HD.out.exts (by repeat (first | exact Exts.refl _ | apply Exts.andR | apply Exts.alloc | apply Exts.wext | apply Exts.drew | apply Exts.drewN))) (HB.out.exts (by repeat (first | exact Exts.refl _ | apply Exts.andR | apply Exts.alloc | apply Exts.wext | apply Exts.drew | apply Exts.drewN))) hn HCK.out).mono ?_); rintro e w' ⟨mo, N, mc, rfl, ⟨x1, rfl⟩, hm⟩; (try simp only [wext_and] at hm); (have HM := Lib.hid hm); clear hm)))
    go_ret2
    exact ⟨none, 0, by rw [HR.out]; rfl, (by repeat (first | exact Exts.refl _ | apply Exts.andR | apply Exts.alloc | apply Exts.wext | apply Exts.drew | apply Exts.drewN)), by rw [HR.out]; exact Lists.nil _⟩
  | true =>
    have HCK := Lib.hid hck
    have HV := Lib.hid (check_vecs hck)
    cases hin : inD D al with
    | false =>
      have HIN := Lib.hid hin
      have HR := Lib.hid (show distD D B al s = ([], 1) by unfold distD; rw [hck, hin]; rfl)
      clear hck hin hl
      go_enter Try.func17, Try.ntmps17
      go_wp2_with (first | (go_at_call 31; ((with_reducible refine (check31_ok _ _ _ _ _ _ D B _ (HD.out.exts (by repeat (first | exact Exts.refl _ | apply Exts.andR | apply Exts.alloc | apply Exts.wext | apply Exts.drew | apply Exts.drewN))) (HB.out.exts (by repeat (first | exact Exts.refl _ | apply Exts.andR | apply Exts.alloc | apply Exts.wext | apply Exts.drew | apply Exts.drewN))) hn HCK.out).mono ?_); rintro e w' ⟨mo, mc, rfl, ⟨x1, rfl⟩, hm⟩; (try simp only [wext_and] at hm); (have HM := Lib.hid hm); clear hm)) | (go_at_call 32; ((with_reducible refine (isVector32_D _ _ _ _ _ _ D al _ _ (HM.out.exts (by repeat (first | exact Exts.refl _ | apply Exts.andR | apply Exts.alloc | apply Exts.wext | apply Exts.drew | apply Exts.drewN))) (RowF.exts HA.out (by repeat (first | exact Exts.refl _ | apply Exts.andR | apply Exts.alloc | apply Exts.wext | apply Exts.drew | apply Exts.drewN))) HIN.out).mono ?_); rintro e w' ⟨rfl, x2, rfl⟩)))
      go_ret2
      exact ⟨none, 0, by rw [HR.out]; rfl, (by repeat (first | exact Exts.refl _ | apply Exts.andR | apply Exts.alloc | apply Exts.wext | apply Exts.drew | apply Exts.drewN)), by rw [HR.out]; exact Lists.nil _⟩
    | true =>
      have HIN := Lib.hid hin
      have HR := Lib.hid (show distD D B al s = (distK D B al s n, 0) by unfold distD; rw [hck, hin, hl]; rfl)
      clear hck hin hl
      go_enter Try.func17, Try.ntmps17
      go_wp2_with (first | (go_at_call 31; ((with_reducible refine (check31_ok _ _ _ _ _ _ D B _ (HD.out.exts (by repeat (first | exact Exts.refl _ | apply Exts.andR | apply Exts.alloc | apply Exts.wext | apply Exts.drew | apply Exts.drewN))) (HB.out.exts (by repeat (first | exact Exts.refl _ | apply Exts.andR | apply Exts.alloc | apply Exts.wext | apply Exts.drew | apply Exts.drewN))) hn HCK.out).mono ?_); rintro e w' ⟨mo, mc, rfl, ⟨x1, rfl⟩, hm⟩; (try simp only [wext_and] at hm); (have HM := Lib.hid hm); clear hm)) | (go_at_call 32; ((with_reducible refine (isVector32_D _ _ _ _ _ _ D al _ _ (HM.out.exts (by repeat (first | exact Exts.refl _ | apply Exts.andR | apply Exts.alloc | apply Exts.wext | apply Exts.drew | apply Exts.drewN))) (RowF.exts HA.out (by repeat (first | exact Exts.refl _ | apply Exts.andR | apply Exts.alloc | apply Exts.wext | apply Exts.drew | apply Exts.drewN))) HIN.out).mono ?_); rintro e w' ⟨rfl, x2, rfl⟩)))
      refine wp_name ?_
      intro W hW
      have HX := Lib.hid (show Exts w W by rw [hW]; exact (by repeat (first | exact Exts.refl _ | apply Exts.andR | apply Exts.alloc | apply Exts.wext | apply Exts.drew | apply Exts.drewN)))
      have HMW := Lib.hid (show Ords W mo n1 mc D by rw [hW]; exact HM.out.exts (by repeat (first | exact Exts.refl _ | apply Exts.andR | apply Exts.alloc | apply Exts.wext | apply Exts.drew | apply Exts.drewN)))
      clear hW HM
      go_loopw [12, 31] (fun o i wr => ∃ (k m : Nat) (rows : List Value), k ≤ n ∧ i = .int .i64 k ∧ (distK D B al s k).length = m ∧ Exts W wr ∧ wr.ownsRow W.heap.size 24 1 o m rows ∧ ListsIn wr rows (distK D B al s k)) (fun _ i _ => n - (intOf i).toNat)
      case atStart => exact ⟨0, 0, [], by omega, rfl, rfl, Exts.refl _, World.ownsRow_nil _ _ _ _, rfl, fun i l hl => by simp [distK] at hl⟩
      case round =>
        obtain ⟨k, m, rows, hk, rfl, hmk, hx, hown, hin⟩ := hrel
        have HX2 := Lib.hid hx
        have HBS := Lib.hid (show W.heap.size ≤ wr.heap.size from hx.below.size)
        have HO := Lib.hid hown
        have HI := Lib.hid hin
        have HMK := Lib.hid hmk
        have hmle := distK_len D B al s k
        rw [hmk] at hmle
        obtain ⟨oo, oc, rfl⟩ := owns_shape hown
        clear hx hown hin hmk
        by_cases hlt : k < n
        · obtain ⟨b, off, id, vs, gr, vo, vc, rfl, lb, hc, e0, e1, e2, hvs, hid⟩ := (HB.out.exts (HX.out.trans HX2.out)).get hlt
          have HVS := Lib.hid hvs
          have HIV := Lib.hid (show inD D vs = true from HV.out _ (List.mem_of_getElem? hc))
          have HM := Lib.hid (HMW.out.exts HX2.out)
          have HA0 := HA
          have HA := Lib.hid (RowF.exts HA0.out (HX.out.trans HX2.out))
          obtain ⟨ks, hks⟩ : ∃ ks, keepsD D ⟨id, vs, gr⟩ al = ks := ⟨_, rfl⟩
          obtain ⟨m', hm'⟩ : ∃ m', ks.length = m' := ⟨_, rfl⟩
          have HK := Lib.hid hks
          have HMM := Lib.hid hm'
          have HN := Lib.hid (distK_next (D := D) (al := al) (s := s) hc)
          clear hvs hc hid hks hm' HA0
          by_cases hg : gr = s
          · have q1 : (gr == s) = true := by simpa using hg
            have q2 : (gr != s) = false := by simpa using hg
            have HE := Lib.hid (show distK D B al s (k + 1) = distK D B al s k by rw [HN.out]; simp [hg])
            clear hg
            go_wp2
            refine ⟨⟨k + 1, m, rows, by omega, by go_num, by rw [HE.out]; exact HMK.out, HX2.out.trans (by repeat (first | exact Exts.refl _ | apply Exts.andR | apply Exts.alloc | apply Exts.wext | apply Exts.drew | apply Exts.drewN)), ownsRow_exts HO.out (by repeat (first | exact Exts.refl _ | apply Exts.andR | apply Exts.alloc | apply Exts.wext | apply Exts.drew | apply Exts.drewN)), by rw [HE.out]; exact HI.out.exts (by repeat (first | exact Exts.refl _ | apply Exts.andR | apply Exts.alloc | apply Exts.wext | apply Exts.drew | apply Exts.drewN))⟩, ?_⟩
            simp [intOf]; omega
          · have q1 : (gr == s) = false := by simpa using hg
            have q2 : (gr != s) = true := by simpa using hg
            have HE := Lib.hid (show distK D B al s (k + 1) = distK D B al s k ++ [ks] by rw [HN.out, if_pos (show ((⟨id, vs, gr⟩ : Cs).grant != s) = true from q2), HK.out])
            clear hg
            go_wp2_with (first | (go_at_call 43; ((with_reducible refine (keeps43 _ _ _ _ _ _ _ _ _ D _ vs al _ ks m' _ (HM.out.exts (by repeat (first | exact Exts.refl _ | apply Exts.andR | apply Exts.alloc | apply Exts.wext | apply Exts.drew | apply Exts.drewN))) (RowF.exts HVS.out (by repeat (first | exact Exts.refl _ | apply Exts.andR | apply Exts.alloc | apply Exts.wext | apply Exts.drew | apply Exts.drewN))) (RowF.exts HA.out (by repeat (first | exact Exts.refl _ | apply Exts.andR | apply Exts.alloc | apply Exts.wext | apply Exts.drew | apply Exts.drewN))) HIV.out HIN.out HK.out HMM.out).mono ?_); rintro e w' ⟨ro, rc, rfl, ⟨x5, rfl⟩, hks⟩; (have HKS := Lib.hid hks); clear hks)) | (at_builtin; refine wpList_append_lies _ rfl (.tmp 39) (.tmp 44) 36 rfl W.heap.size 24 i0 _ 1 24 Try.underlying36 hi hz0 hz1 hz2 rfl (by decide) (.slice oo m oc) m rows rfl (ownsRow_exts HO.out (by repeat (first | exact Exts.refl _ | apply Exts.andR | apply Exts.alloc | apply Exts.wext | apply Exts.drew | apply Exts.drewN))) ⟨_, 0, none⟩ 1 1 [.slice ro m' rc] rfl rfl (by intro j u hj; match j, hj with | 0, hj => (simp at hj; subst hj; simp [go_sem])) (by intro u hu; simp at hu; subst hu; rfl) (by decide) (by unfold maxLen; omega) (by omega) (by have := HBS.out; simp; omega) _ rfl ?_; intro g2 cg w9 hown' hgrow hat hlt'))
            refine ⟨⟨k + 1, m + 1, rows ++ [.slice ro m' rc], by omega, by go_num, by rw [HE.out, List.length_append, HMK.out]; rfl, exts_of_grown (W := W) (HX2.out.trans (by repeat (first | exact Exts.refl _ | apply Exts.andR | apply Exts.alloc | apply Exts.wext | apply Exts.drew | apply Exts.drewN))) hgrow (fun b hb => owns_base HO.out hb), hown', by rw [HE.out]; exact HI.out.step HO.out (by repeat (first | exact Exts.refl _ | apply Exts.andR | apply Exts.alloc | apply Exts.wext | apply Exts.drew | apply Exts.drewN)) (RowF.exts HKS.out.1 (by repeat (first | exact Exts.refl _ | apply Exts.andR | apply Exts.alloc | apply Exts.wext | apply Exts.drew | apply Exts.drewN))) HMM.out (HKS.out.2.exts (by repeat (first | exact Exts.refl _ | apply Exts.andR | apply Exts.alloc | apply Exts.wext | apply Exts.drew | apply Exts.drewN))) hgrow⟩, ?_⟩
            simp [intOf]; omega
        · obtain rfl : k = n := by omega
          go_wp2
          go_ret2
          exact ⟨oo, oc, by rw [HR.out]; simp only [HMK.out]; rfl, HX.out.trans (HX2.out.trans (by repeat (first | exact Exts.refl _ | apply Exts.andR | apply Exts.alloc | apply Exts.wext | apply Exts.drew | apply Exts.drewN))), by rw [HR.out]; simp only [HMK.out]; exact ⟨rows, (RowF.of_owns HO.out).mono fun _ _ => trivial, HI.out⟩⟩
end Go.Proofs.Ytodgohilfbggjaa

/- Distinguish of the reference; lists of lists compared. No condition but at most 2000 cases. -/
namespace Go.Proofs.Ytodgohilfbggjaa
open Go.RowKit Go.Maps
set_option linter.unusedSimpArgs false
set_option linter.unusedVariables false
set_option maxRecDepth 100000
set_option maxHeartbeats 4000000
theorem dist18 {S S1 S2 : Nat → Prop} (lo bo ao : Option Addr) (n1 c1 n c na ca : Nat) (D : List Dm) (B : List Cs) (al : List Int) (s : Bool) (w : World) (hd : Dims S w lo n1 c1 D) (hb : Cases S1 w bo n c B) (ha : Ints S2 w ao na ca al) (hn : n ≤ 2000) :
    Calls Try.prog 18 #[.slice lo n1 c1, .slice bo n c, .slice ao na ca, .bool s] w fun e w' => ∃ ro rc, e = .returned (.tuple #[.slice ro (distD D B al s).1.length rc, .int .i64 (distD D B al s).2]) ∧ Exts w w' ∧ Lists w' ro (distD D B al s).1.length rc (distD D B al s).1 := by
  have hl := hb.1
  have HD := Lib.hid hd
  have HB := Lib.hid hb
  have HA := Lib.hid ha
  obtain ⟨i0, hi, hz0, hz1, hz2⟩ := info_parts info24
  clear hd hb ha
  cases hck : checkD D B with
  | false =>
    have HCK := Lib.hid hck
    have HR := Lib.hid (show distD D B al s = ([], 1) by unfold distD; rw [hck]; rfl)
    clear hck hl
    go_enter Try.func18, Try.ntmps18
    go_wp2_with (first | (go_at_call 25; ((with_reducible refine (refRight25 _ _ _ _ _ _ D B _ _ (HD.out.exts (by repeat (first | exact Exts.refl _ | apply Exts.andR | apply Exts.alloc | apply Exts.wext | apply Exts.drew | apply Exts.drewN))) (HB.out.exts (by repeat (first | exact Exts.refl _ | apply Exts.andR | apply Exts.alloc | apply Exts.wext | apply Exts.drew | apply Exts.drewN))) hn HCK.out).mono ?_); rintro e w' ⟨rfl, x1, rfl⟩)))
    go_ret2
    exact ⟨none, 0, by rw [HR.out]; rfl, (by repeat (first | exact Exts.refl _ | apply Exts.andR | apply Exts.alloc | apply Exts.wext | apply Exts.drew | apply Exts.drewN)), by rw [HR.out]; exact Lists.nil _⟩
  | true =>
    have HCK := Lib.hid hck
    have HV := Lib.hid (check_vecs hck)
    have HRT := Lib.hid (check_right hck)
    cases hin : inD D al with
    | false =>
      have HIN := Lib.hid hin
      have HR := Lib.hid (show distD D B al s = ([], 1) by unfold distD; rw [hck, hin]; rfl)
      clear hck hin hl
      go_enter Try.func18, Try.ntmps18
      go_wp2_with (first | (go_at_call 25; ((with_reducible refine (refRight25 _ _ _ _ _ _ D B _ _ (HD.out.exts (by repeat (first | exact Exts.refl _ | apply Exts.andR | apply Exts.alloc | apply Exts.wext | apply Exts.drew | apply Exts.drewN))) (HB.out.exts (by repeat (first | exact Exts.refl _ | apply Exts.andR | apply Exts.alloc | apply Exts.wext | apply Exts.drew | apply Exts.drewN))) hn HCK.out).mono ?_); rintro e w' ⟨rfl, x1, rfl⟩)) | (go_at_call 34; ((with_reducible refine (vector34_D _ _ _ _ _ _ D al _ _ (HD.out.exts (by repeat (first | exact Exts.refl _ | apply Exts.andR | apply Exts.alloc | apply Exts.wext | apply Exts.drew | apply Exts.drewN))) (RowF.exts HA.out (by repeat (first | exact Exts.refl _ | apply Exts.andR | apply Exts.alloc | apply Exts.wext | apply Exts.drew | apply Exts.drewN))) HIN.out).mono ?_); rintro e w' ⟨rfl, x2, rfl⟩)))
      go_ret2
      exact ⟨none, 0, by rw [HR.out]; rfl, (by repeat (first | exact Exts.refl _ | apply Exts.andR | apply Exts.alloc | apply Exts.wext | apply Exts.drew | apply Exts.drewN)), by rw [HR.out]; exact Lists.nil _⟩
    | true =>
      have HIN := Lib.hid hin
      have HR := Lib.hid (show distD D B al s = (distK D B al s n, 0) by unfold distD; rw [hck, hin, hl]; rfl)
      clear hck hin hl
      go_enter Try.func18, Try.ntmps18
      go_wp2_with (first | (go_at_call 25; ((with_reducible refine (refRight25 _ _ _ _ _ _ D B _ _ (HD.out.exts (by repeat (first | exact Exts.refl _ | apply Exts.andR | apply Exts.alloc | apply Exts.wext | apply Exts.drew | apply Exts.drewN))) (HB.out.exts (by repeat (first | exact Exts.refl _ | apply Exts.andR | apply Exts.alloc | apply Exts.wext | apply Exts.drew | apply Exts.drewN))) hn HCK.out).mono ?_); rintro e w' ⟨rfl, x1, rfl⟩)) | (go_at_call 34; ((with_reducible refine (vector34_D _ _ _ _ _ _ D al _ _ (HD.out.exts (by repeat (first | exact Exts.refl _ | apply Exts.andR | apply Exts.alloc | apply Exts.wext | apply Exts.drew | apply Exts.drewN))) (RowF.exts HA.out (by repeat (first | exact Exts.refl _ | apply Exts.andR | apply Exts.alloc | apply Exts.wext | apply Exts.drew | apply Exts.drewN))) HIN.out).mono ?_); rintro e w' ⟨rfl, x2, rfl⟩)) | (go_at_call 36; ((with_reducible refine (closures36 _ _ _ D _ (HD.out.exts (by repeat (first | exact Exts.refl _ | apply Exts.andR | apply Exts.alloc | apply Exts.wext | apply Exts.drew | apply Exts.drewN))) HRT.out).mono ?_); rintro e w' ⟨mo, mc, rfl, ⟨x3, rfl⟩, hm⟩; (try simp only [wext_and] at hm); (have HM := Lib.hid hm); clear hm)))
      refine wp_name ?_
      intro W hW
      have HX := Lib.hid (show Exts w W by rw [hW]; exact (by repeat (first | exact Exts.refl _ | apply Exts.andR | apply Exts.alloc | apply Exts.wext | apply Exts.drew | apply Exts.drewN)))
      have HMW := Lib.hid (show Ords W mo n1 mc D by rw [hW]; exact HM.out.exts (by repeat (first | exact Exts.refl _ | apply Exts.andR | apply Exts.alloc | apply Exts.wext | apply Exts.drew | apply Exts.drewN)))
      clear hW HM
      go_loopw [11, 12] (fun o i wr => ∃ (k m : Nat) (rows : List Value), k ≤ n ∧ i = .int .i64 k ∧ (distK D B al s k).length = m ∧ Exts W wr ∧ wr.ownsRow W.heap.size 24 1 o m rows ∧ ListsIn wr rows (distK D B al s k)) (fun _ i _ => n - (intOf i).toNat)
      case atStart => exact ⟨0, 0, [], by omega, rfl, rfl, Exts.refl _, World.ownsRow_nil _ _ _ _, rfl, fun i l hl => by simp [distK] at hl⟩
      case round =>
        obtain ⟨k, m, rows, hk, rfl, hmk, hx, hown, hin⟩ := hrel
        have HX2 := Lib.hid hx
        have HBS := Lib.hid (show W.heap.size ≤ wr.heap.size from hx.below.size)
        have HO := Lib.hid hown
        have HI := Lib.hid hin
        have HMK := Lib.hid hmk
        have hmle := distK_len D B al s k
        rw [hmk] at hmle
        obtain ⟨oo, oc, rfl⟩ := owns_shape hown
        clear hx hown hin hmk
        by_cases hlt : k < n
        · obtain ⟨b, off, id, vs, gr, vo, vc, rfl, lb, hc, e0, e1, e2, hvs, hid⟩ := (HB.out.exts (HX.out.trans HX2.out)).get hlt
          have HVS := Lib.hid hvs
          have HIV := Lib.hid (show inD D vs = true from HV.out _ (List.mem_of_getElem? hc))
          have HM := Lib.hid (HMW.out.exts HX2.out)
          have HA0 := HA
          have HA := Lib.hid (RowF.exts HA0.out (HX.out.trans HX2.out))
          obtain ⟨ks, hks⟩ : ∃ ks, keepsD D ⟨id, vs, gr⟩ al = ks := ⟨_, rfl⟩
          obtain ⟨m', hm'⟩ : ∃ m', ks.length = m' := ⟨_, rfl⟩
          have HK := Lib.hid hks
          have HMM := Lib.hid hm'
          have HN := Lib.hid (distK_next (D := D) (al := al) (s := s) hc)
          clear hvs hc hid hks hm' HA0
          by_cases hg : gr = s
          · have q1 : (gr == s) = true := by simpa using hg
            have q2 : (gr != s) = false := by simpa using hg
            have HE := Lib.hid (show distK D B al s (k + 1) = distK D B al s k by rw [HN.out]; simp [hg])
            clear hg
            go_wp2
            refine ⟨⟨k + 1, m, rows, by omega, by go_num, by rw [HE.out]; exact HMK.out, HX2.out.trans (by repeat (first | exact Exts.refl _ | apply Exts.andR | apply Exts.alloc | apply Exts.wext | apply Exts.drew | apply Exts.drewN)), ownsRow_exts HO.out (by repeat (first | exact Exts.refl _ | apply Exts.andR | apply Exts.alloc | apply Exts.wext | apply Exts.drew | apply Exts.drewN)), by rw [HE.out]; exact HI.out.exts (by repeat (first | exact Exts.refl _ | apply Exts.andR | apply Exts.alloc | apply Exts.wext | apply Exts.drew | apply Exts.drewN))⟩, ?_⟩
            simp [intOf]; omega
          · have q1 : (gr == s) = false := by simpa using hg
            have q2 : (gr != s) = true := by simpa using hg
            have HE := Lib.hid (show distK D B al s (k + 1) = distK D B al s k ++ [ks] by rw [HN.out, if_pos (show ((⟨id, vs, gr⟩ : Cs).grant != s) = true from q2), HK.out])
            clear hg
            go_wp2_with (first | (go_at_call 45; ((with_reducible refine (keeps45 _ _ _ _ _ _ _ _ _ D _ vs al _ ks m' _ (HM.out.exts (by repeat (first | exact Exts.refl _ | apply Exts.andR | apply Exts.alloc | apply Exts.wext | apply Exts.drew | apply Exts.drewN))) (RowF.exts HVS.out (by repeat (first | exact Exts.refl _ | apply Exts.andR | apply Exts.alloc | apply Exts.wext | apply Exts.drew | apply Exts.drewN))) (RowF.exts HA.out (by repeat (first | exact Exts.refl _ | apply Exts.andR | apply Exts.alloc | apply Exts.wext | apply Exts.drew | apply Exts.drewN))) HIV.out HIN.out HK.out HMM.out).mono ?_); rintro e w' ⟨ro, rc, rfl, ⟨x5, rfl⟩, hks⟩; (have HKS := Lib.hid hks); clear hks)) | (at_builtin; refine wpList_append_lies _ rfl (.tmp 38) (.tmp 46) 36 rfl W.heap.size 24 i0 _ 1 24 Try.underlying36 hi hz0 hz1 hz2 rfl (by decide) (.slice oo m oc) m rows rfl (ownsRow_exts HO.out (by repeat (first | exact Exts.refl _ | apply Exts.andR | apply Exts.alloc | apply Exts.wext | apply Exts.drew | apply Exts.drewN))) ⟨_, 0, none⟩ 1 1 [.slice ro m' rc] rfl rfl (by intro j u hj; match j, hj with | 0, hj => (simp at hj; subst hj; simp [go_sem])) (by intro u hu; simp at hu; subst hu; rfl) (by decide) (by unfold maxLen; omega) (by omega) (by have := HBS.out; simp; omega) _ rfl ?_; intro g2 cg w9 hown' hgrow hat hlt'))
            refine ⟨⟨k + 1, m + 1, rows ++ [.slice ro m' rc], by omega, by go_num, by rw [HE.out, List.length_append, HMK.out]; rfl, exts_of_grown (W := W) (HX2.out.trans (by repeat (first | exact Exts.refl _ | apply Exts.andR | apply Exts.alloc | apply Exts.wext | apply Exts.drew | apply Exts.drewN))) hgrow (fun b hb => owns_base HO.out hb), hown', by rw [HE.out]; exact HI.out.step HO.out (by repeat (first | exact Exts.refl _ | apply Exts.andR | apply Exts.alloc | apply Exts.wext | apply Exts.drew | apply Exts.drewN)) (RowF.exts HKS.out.1 (by repeat (first | exact Exts.refl _ | apply Exts.andR | apply Exts.alloc | apply Exts.wext | apply Exts.drew | apply Exts.drewN))) HMM.out (HKS.out.2.exts (by repeat (first | exact Exts.refl _ | apply Exts.andR | apply Exts.alloc | apply Exts.wext | apply Exts.drew | apply Exts.drewN))) hgrow⟩, ?_⟩
            simp [intOf]; omega
        · obtain rfl : k = n := by omega
          go_wp2
          go_ret2
          exact ⟨oo, oc, by rw [HR.out]; simp only [HMK.out]; rfl, HX.out.trans (HX2.out.trans (by repeat (first | exact Exts.refl _ | apply Exts.andR | apply Exts.alloc | apply Exts.wext | apply Exts.drew | apply Exts.drewN))), by rw [HR.out]; simp only [HMK.out]; exact ⟨rows, (RowF.of_owns HO.out).mono fun _ _ => trivial, HI.out⟩⟩
theorem ints21_D {S1 S2 : Nat → Prop} (ao bo : Option Addr) (na ca nb cb : Nat) (al bl : List Int) (r : Bool) (w : World) (ha : Ints S1 w ao na ca al) (hb : Ints S2 w bo nb cb bl) (hD : decide (al = bl) = r) :
    Calls Try.prog 21 #[.slice ao na ca, .slice bo nb cb] w fun e w' => e = .returned (.bool r) ∧ Exts w w' := by
  subst hD
  exact ints12 ao bo na ca nb cb al bl w ha hb
theorem ints21_E {S1 S2 : Nat → Prop} (ao bo : Option Addr) (n ca cb : Nat) (l : List Int) (w : World) (ha : Ints S1 w ao n ca l) (hb : Ints S2 w bo n cb l) :
    Calls Try.prog 21 #[.slice ao n ca, .slice bo n cb] w fun e w' => e = .returned (.bool true) ∧ Exts w w' :=
  ints21_D ao bo n ca n cb l l true w ha hb (by simp)
theorem sameLists23 (ao bo : Option Addr) (n ca cb : Nat) (LL : List (List Int)) (w : World) (ha : Lists w ao n ca LL) (hb : Lists w bo n cb LL) :
    Calls Try.prog 23 #[.slice ao n ca, .slice bo n cb] w fun e w' => e = .returned (.bool true) ∧ Exts w w' := by
  have hm : n ≤ maxLen := by
    obtain ⟨rows, h1, _⟩ := ha
    exact RowF.nle h1
  unfold maxLen at hm
  have HA := Lib.hid ha
  have HB := Lib.hid hb
  clear ha hb
  go_enter Try.func23, Try.ntmps23
  go_wp2
  go_loopw [5] (fun i wr => ∃ (k : Nat), k ≤ n ∧ i = .int .i64 k ∧ Exts w wr) (fun i _ => n - (intOf i).toNat)
  case atStart => exact ⟨0, by omega, rfl, Exts.refl _⟩
  case round =>
    obtain ⟨k, hk, rfl, hx⟩ := hrel
    have HX := Lib.hid hx
    clear hx
    by_cases hlt : k < n
    · obtain ⟨b1, o1, l, v1, c1, rfl, l1, hl, e1, i1⟩ := (HA.out.exts HX.out).get hlt
      obtain ⟨b2, o2, l', v2, c2, rfl, l2, hl', e2, i2⟩ := (HB.out.exts HX.out).get hlt
      rw [hl] at hl'
      cases hl'
      have HI1 := Lib.hid i1
      have HI2 := Lib.hid i2
      clear hl i1 i2
      go_wp2
      first | refine wp_region_ext_lit2 (by kernel_rfl) (by kernel_rfl) ?_ | refine wp_region_ext_lit (by kernel_rfl) (by kernel_rfl) ?_
      repeat (go_big_quiet_step (((first | (go_at_call 21; exact Calls.ext_of (ints21_E _ _ _ _ _ l _ (RowF.exts HI1.out (by repeat (first | exact Exts.refl _ | apply Exts.andR | apply Exts.alloc | apply Exts.wext | apply Exts.drew | apply Exts.drewN))) (RowF.exts HI2.out (by repeat (first | exact Exts.refl _ | apply Exts.andR | apply Exts.alloc | apply Exts.wext | apply Exts.drew | apply Exts.drewN)))))))))
      refine wpQuiet_nil ?_
      intro _ hwq'
      obtain ⟨xq, hwq''⟩ := hwq'
      subst hwq''
      go_wp2
      refine ⟨⟨k + 1, by omega, by go_num, HX.out.trans (by repeat (first | exact Exts.refl _ | apply Exts.andR | apply Exts.alloc | apply Exts.wext | apply Exts.drew | apply Exts.drewN))⟩, ?_⟩
      simp [intOf]; omega
    · obtain rfl : k = n := by omega
      go_wp2
      go_ret
      exact ⟨rfl, HX.out⟩
end Go.Proofs.Ytodgohilfbggjaa

/- Two bases compared: equal ones. -/
namespace Go.Proofs.Ytodgohilfbggjaa
open Go.RowKit Go.Maps
set_option linter.unusedSimpArgs false
set_option linter.unusedVariables false
set_option maxRecDepth 100000
set_option maxHeartbeats 2000000
theorem same22 {S1 S2 : Nat → Prop} (ao bo : Option Addr) (n ca cb : Nat) (B : List Cs) (w : World) (ha : Cases S1 w ao n ca B) (hb : Cases S2 w bo n cb B) :
    Calls Try.prog 22 #[.slice ao n ca, .slice bo n cb] w fun e w' => e = .returned (.bool true) ∧ Exts w w' := by
  have hm := ha.nle
  unfold maxLen at hm
  have HA := Lib.hid ha
  have HB := Lib.hid hb
  clear ha hb
  go_enter Try.func22, Try.ntmps22
  go_wp2
  go_loopw [5] (fun i wr => ∃ (k : Nat), k ≤ n ∧ i = .int .i64 k ∧ Exts w wr) (fun i _ => n - (intOf i).toNat)
  case atStart => exact ⟨0, by omega, rfl, Exts.refl _⟩
  case round =>
    obtain ⟨k, hk, rfl, hx⟩ := hrel
    have HX := Lib.hid hx
    clear hx
    by_cases hlt : k < n
    · obtain ⟨b1, o1, id, vs, gr, v1, c1, rfl, l1, hc, e10, e11, e12, i1, hid⟩ := (HA.out.exts HX.out).get hlt
      obtain ⟨b2, o2, id', vs', gr', v2, c2, rfl, l2, hc', e20, e21, e22, i2, hid'⟩ := (HB.out.exts HX.out).get hlt
      rw [hc] at hc'
      cases hc'
      have HI1 := Lib.hid i1
      have HI2 := Lib.hid i2
      have q1 : (id != id) = false := by simp
      have q2 : (gr != gr) = false := by simp
      clear hc i1 i2 hid hid'
      go_wp2
      first | refine wp_region_ext_lit2 (by kernel_rfl) (by kernel_rfl) ?_ | refine wp_region_ext_lit (by kernel_rfl) (by kernel_rfl) ?_
      repeat (go_big_quiet_step (((first | (go_at_call 21; exact Calls.ext_of (ints21_E _ _ _ _ _ vs _ (RowF.exts HI1.out (by repeat (first | exact Exts.refl _ | apply Exts.andR | apply Exts.alloc | apply Exts.wext | apply Exts.drew | apply Exts.drewN))) (RowF.exts HI2.out (by repeat (first | exact Exts.refl _ | apply Exts.andR | apply Exts.alloc | apply Exts.wext | apply Exts.drew | apply Exts.drewN)))))))))
      refine wpQuiet_nil ?_
      intro _ hwq'
      obtain ⟨xq, hwq''⟩ := hwq'
      subst hwq''
      go_wp2
      refine ⟨⟨k + 1, by omega, by go_num, HX.out.trans (by repeat (first | exact Exts.refl _ | apply Exts.andR | apply Exts.alloc | apply Exts.wext | apply Exts.drew | apply Exts.drewN))⟩, ?_⟩
      simp [intOf]; omega
    · obtain rfl : k = n := by omega
      go_wp2
      go_ret
      exact ⟨rfl, HX.out⟩
end Go.Proofs.Ytodgohilfbggjaa

/- Few of the reference of chapter 39. No condition. -/
namespace Go.Proofs.Ytodgohilfbggjaa
open Go.RowKit Go.Maps
set_option linter.unusedSimpArgs false
set_option linter.unusedVariables false
def shortC (B : List Cs) : Bool := B.all fun c => decide (c.vals.length ≤ 8)
noncomputable def fewBD (D : List Dm) (B : List Cs) : Bool := shortC (B.take 17) && (fewD D && decide (B.length ≤ 16))
theorem shortC_next {B : List Cs} {k : Nat} {c : Cs} (h : B[k]? = some c) : shortC (B.take (k + 1)) = (shortC (B.take k) && decide (c.vals.length ≤ 8)) := by
  unfold shortC
  rw [List.take_add_one, h, List.all_append]
  simp
theorem shortC_no {B : List Cs} {k : Nat} {c : Cs} (h : B[k]? = some c) (hk : k < 17) (h8 : 8 < c.vals.length) : shortC (B.take 17) = false := by
  unfold shortC
  rw [List.all_eq_false]
  refine ⟨c, ?_, by simp; omega⟩
  rw [List.mem_iff_getElem?]
  exact ⟨k, by rw [List.getElem?_take_of_lt hk]; exact h⟩
theorem few_le {D : List Dm} {B : List Cs} (h : fewBD D B = true) : fewD D = true ∧ B.length ≤ 16 ∧ ∀ c ∈ B, c.vals.length ≤ 8 := by
  simp only [fewBD, Bool.and_eq_true, decide_eq_true_eq] at h
  obtain ⟨h1, h2, h3⟩ := h
  refine ⟨h2, h3, fun c hc => ?_⟩
  rw [List.take_of_length_le (by omega)] at h1
  simp only [shortC, List.all_eq_true, decide_eq_true_eq] at h1
  exact h1 c hc
theorem few30_D {S : Nat → Prop} (lo : Option Addr) (n c : Nat) (D : List Dm) (r : Bool) (w : World) (h : Dims S w lo n c D) (hD : fewD D = r) :
    Calls Try.prog 30 #[.slice lo n c] w fun e w' => e = .returned (.bool r) ∧ Exts w w' := by
  subst hD
  exact few9 lo n c D w h
set_option maxRecDepth 100000
set_option maxHeartbeats 2000000
theorem refFew10 {S S1 : Nat → Prop} (lo bo : Option Addr) (n1 c1 n c : Nat) (D : List Dm) (B : List Cs) (r : Bool) (w : World) (hd : Dims S w lo n1 c1 D) (hb : Cases S1 w bo n c B) (hr : fewBD D B = r) :
    Calls Try.prog 10 #[.slice lo n1 c1, .slice bo n c] w fun e w' => e = .returned (.bool r) ∧ Exts w w' := by
  have hm := hb.nle
  unfold maxLen at hm
  have HR := Lib.hid hr
  have HB1 := Lib.hid hb.1
  have HD := Lib.hid hd
  have HB := Lib.hid hb
  clear hd hb hr
  go_enter Try.func10, Try.ntmps10
  go_wp2
  go_loopw [5] (fun i wr => ∃ (k : Nat), k ≤ n ∧ k ≤ 17 ∧ i = .int .i64 k ∧ Exts w wr ∧ shortC (B.take k) = true) (fun i _ => n - (intOf i).toNat)
  case atStart => exact ⟨0, by omega, by omega, rfl, Exts.refl _, by simp [shortC]⟩
  case round =>
    obtain ⟨k, hk, hk17, rfl, hx, hs⟩ := hrel
    have HX := Lib.hid hx
    have HS := Lib.hid hs
    clear hx hs
    by_cases hlt : k < n
    · by_cases h16 : k ≤ 16
      · obtain ⟨b, off, id, vs, gr, vo, vc, rfl, lb, hc, e0, e1, e2, hvs, hid⟩ := (HB.out.exts HX.out).get hlt
        have i1 : decide ((k : Int) ≤ 16) = true := by simp; omega
        by_cases h8 : 8 < vs.length
        · have i2 : decide ((8 : Int) < (vs.length : Int)) = true := by simp; omega
          have HF := Lib.hid (show r = false by rw [← HR.out]; unfold fewBD; rw [shortC_no hc (by omega) h8]; rfl)
          clear hc hvs hid h8
          go_wp2
          go_ret
          exact ⟨by rw [HF.out]; rfl, HX.out.trans (by repeat (first | exact Exts.refl _ | apply Exts.andR | apply Exts.alloc | apply Exts.wext | apply Exts.drew | apply Exts.drewN))⟩
        · have i2 : decide ((8 : Int) < (vs.length : Int)) = false := by simp; omega
          have HN := Lib.hid (show shortC (B.take (k + 1)) = true by rw [shortC_next hc, HS.out]; simp; omega)
          clear hc hvs hid h8
          go_wp2
          refine ⟨⟨k + 1, by omega, by omega, by go_num, HX.out.trans (by repeat (first | exact Exts.refl _ | apply Exts.andR | apply Exts.alloc | apply Exts.wext | apply Exts.drew | apply Exts.drewN)), HN.out⟩, ?_⟩
          simp [intOf]; omega
      · have i1 : decide ((k : Int) ≤ 16) = false := by simp; omega
        obtain rfl : k = 17 := by omega
        obtain ⟨rf, hrf⟩ : ∃ r, fewD D = r := ⟨_, rfl⟩
        have HRF := Lib.hid hrf
        have i2 : decide ((n : Int) ≤ 16) = false := by simp; omega
        have HF := Lib.hid (show r = false by rw [← HR.out]; unfold fewBD; rw [HB1.out, show decide (n ≤ 16) = false by simp; omega]; simp)
        clear hrf
        cases rf with
        | true =>
          go_wp2_with (first | (go_at_call 30; ((with_reducible refine (few30_D _ _ _ D _ _ (HD.out.exts (HX.out.trans (by repeat (first | exact Exts.refl _ | apply Exts.andR | apply Exts.alloc | apply Exts.wext | apply Exts.drew | apply Exts.drewN)))) HRF.out).mono ?_); rintro e w' ⟨rfl, x1, rfl⟩)))
          go_ret
          exact ⟨by rw [HF.out]; rfl, HX.out.trans (by repeat (first | exact Exts.refl _ | apply Exts.andR | apply Exts.alloc | apply Exts.wext | apply Exts.drew | apply Exts.drewN))⟩
        | false =>
          go_wp2_with (first | (go_at_call 30; ((with_reducible refine (few30_D _ _ _ D _ _ (HD.out.exts (HX.out.trans (by repeat (first | exact Exts.refl _ | apply Exts.andR | apply Exts.alloc | apply Exts.wext | apply Exts.drew | apply Exts.drewN)))) HRF.out).mono ?_); rintro e w' ⟨rfl, x1, rfl⟩)))
          go_ret
          exact ⟨by rw [HF.out]; rfl, HX.out.trans (by repeat (first | exact Exts.refl _ | apply Exts.andR | apply Exts.alloc | apply Exts.wext | apply Exts.drew | apply Exts.drewN))⟩
    · obtain rfl : k = n := by omega
      obtain ⟨rf, hrf⟩ : ∃ r, fewD D = r := ⟨_, rfl⟩
      have HRF := Lib.hid hrf
      obtain ⟨rn, hrn⟩ : ∃ r, decide ((k : Int) ≤ 16) = r := ⟨_, rfl⟩
      have HF := Lib.hid (show r = (rf && rn) by
        rw [← HR.out, ← hrf, ← hrn]
        unfold fewBD
        rw [List.take_of_length_le (by rw [HB1.out]; omega), HB1.out]
        have h1 := HS.out
        rw [List.take_of_length_le (by rw [HB1.out]; omega)] at h1
        rw [h1, Bool.true_and]
        refine congrArg _ ?_
        exact decide_eq_decide.2 (by omega))
      clear hrf
      cases rf <;> cases rn
      all_goals
        go_wp2_with (first | (go_at_call 30; ((with_reducible refine (few30_D _ _ _ D _ _ (HD.out.exts (HX.out.trans (by repeat (first | exact Exts.refl _ | apply Exts.andR | apply Exts.alloc | apply Exts.wext | apply Exts.drew | apply Exts.drewN)))) HRF.out).mono ?_); rintro e w' ⟨rfl, x1, rfl⟩)))
        go_ret
        exact ⟨by rw [HF.out]; rfl, HX.out.trans (by repeat (first | exact Exts.refl _ | apply Exts.andR | apply Exts.alloc | apply Exts.wext | apply Exts.drew | apply Exts.drewN))⟩
end Go.Proofs.Ytodgohilfbggjaa
