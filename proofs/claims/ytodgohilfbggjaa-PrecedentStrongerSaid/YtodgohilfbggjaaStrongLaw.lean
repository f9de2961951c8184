/- PrecedentStronger returns true. No condition. -/
import Derived.Test.YtodgohilfbggjaaM19
import Derived.Test.YtodgohilfbggjaaM21
namespace Go.Proofs.Ytodgohilfbggjaa
open Go.RowKit
set_option linter.unusedSimpArgs false
set_option linter.unusedVariables false
theorem forD_no {D : List Dm} {B : List Cs} {l : List Int} {wh e : Int} {by' : List Int} (h : forD D B l = (wh, by', e)) (he : e = 0) : checkD D B = true ∧ inD D l = true := by
  unfold forD at h
  cases hq : (checkD D B && inD D l) with
  | true => simpa using hq
  | false =>
    rw [hq] at h
    simp only [Bool.false_eq_true, if_false, Prod.mk.injEq] at h
    obtain ⟨_, _, h3⟩ := h
    omega
theorem whatS_of {t f : Bool} {w : Int} (h : whatS t f = w) : (t = true ∧ f = true ∧ w = 3) ∨ (t = true ∧ f = false ∧ w = 1) ∨ (t = false ∧ f = true ∧ w = 2) ∨ (t = false ∧ f = false ∧ w = 0) := by
  subst h
  cases t <;> cases f <;> decide
theorem forD_turn {D : List Dm} {B : List Cs} {x : List Int} {wa : Int} {bya byr : List Int} (hb : byK D B.reverse x B.length = byr) (h : forD D B x = (wa, bya, 0)) : forD D B.reverse x = (wa, byr, 0) := by
  obtain ⟨h1, h2⟩ := forD_no h rfl
  rw [forD_ok h1 h2] at h
  simp only [Prod.mk.injEq] at h
  rw [forD_ok (check_turn h1) h2, List.length_reverse, what_turn, hb, h.1]
theorem nil_what {D : List Dm} {B : List Cs} {x : List Int} {t f : Bool} {wa : Int} (hB : B = []) (h1 : sideB D B x true = t) (h2 : sideB D B x false = f) (h3 : whatS t f = wa) : wa = 0 := by
  subst hB h1 h2 h3
  rfl
theorem side_tail {D : List Dm} {B : List Cs} {x : List Int} {s t t' : Bool} {k : Nat} (h1 : sideB D (B.drop k) x s = t') (h2 : sideB D B x s = t) : t' = true → t = true := fun h => by
  rw [← h2]
  exact side_drop (h1.trans h)
set_option maxRecDepth 100000
set_option maxHeartbeats 16000000
theorem stronger8 {S S1 S2 S3 : Nat → Prop} (lo bo ao yo : Option Addr) (n1 c1 n c na ca ny cy : Nat) (D : List Dm) (B : List Cs) (x y : List Int) (w : World) (hd : Dims S w lo n1 c1 D) (hb : Cases S1 w bo n c B) (ha : Ints S2 w ao na ca x) (hy : Ints S3 w yo ny cy y) :
    Calls Try.prog 8 #[.slice lo n1 c1, .slice bo n c, .slice ao na ca, .slice yo ny cy] w fun e w' => e = .returned (.bool true) ∧ Exts w w' := by
  obtain ⟨i0, hi, hz0, hz1, hz2⟩ := info_parts info33
  have HL := Lib.hid hb.1
  have HD := Lib.hid hd
  have HB := Lib.hid hb
  have HA := Lib.hid ha
  have HY := Lib.hid hy
  have hcc := (RowF.caps hb.2.2.choose_spec.1)
  unfold maxLen at hcc
  obtain ⟨hcc1, hcc4⟩ := hcc
  clear hd hb ha hy
  cases hfew : fewBD D B with
  | false =>
    have HFEW := Lib.hid hfew
    clear hfew
    go_enter Try.func8, Try.ntmps8
    go_wp2_with (first | (go_at_call 9; ((with_reducible refine (small9 _).mono ?_); rintro e w' ⟨rfl, x0, rfl⟩)) | (go_at_call 10; ((with_reducible refine (refFew10 _ _ _ _ _ _ D B _ _ (HD.out.exts (by repeat (first | exact Exts.refl _ | apply Exts.andR | apply Exts.alloc | apply Exts.wext | apply Exts.drew | apply Exts.drewN))) (HB.out.exts (by repeat (first | exact Exts.refl _ | apply Exts.andR | apply Exts.alloc | apply Exts.wext | apply Exts.drew | apply Exts.drewN))) HFEW.out).mono ?_); rintro e w' ⟨rfl, x1, rfl⟩)))
    go_ret
    exact ⟨rfl, (by repeat (first | exact Exts.refl _ | apply Exts.andR | apply Exts.alloc | apply Exts.wext | apply Exts.drew | apply Exts.drewN))⟩
  | true =>
    have HFEW := Lib.hid hfew
    have hn16 : n ≤ 16 := by have := (few_le hfew).2.1; rw [HL.out] at this; exact this
    have hn : n ≤ 2000 := by omega
    have hn1 : n ≤ 100 := by omega
    clear hfew
    by_cases h8 : 8 < na
    · have q1 : decide ((8 : Int) < (na : Int)) = true := by simp; omega
      clear h8
      go_enter Try.func8, Try.ntmps8
      go_wp2_with (first | (go_at_call 9; ((with_reducible refine (small9 _).mono ?_); rintro e w' ⟨rfl, x0, rfl⟩)) | (go_at_call 10; ((with_reducible refine (refFew10 _ _ _ _ _ _ D B _ _ (HD.out.exts (by repeat (first | exact Exts.refl _ | apply Exts.andR | apply Exts.alloc | apply Exts.wext | apply Exts.drew | apply Exts.drewN))) (HB.out.exts (by repeat (first | exact Exts.refl _ | apply Exts.andR | apply Exts.alloc | apply Exts.wext | apply Exts.drew | apply Exts.drewN))) HFEW.out).mono ?_); rintro e w' ⟨rfl, x1, rfl⟩)))
      go_ret
      exact ⟨rfl, (by repeat (first | exact Exts.refl _ | apply Exts.andR | apply Exts.alloc | apply Exts.wext | apply Exts.drew | apply Exts.drewN))⟩
    · have q1 : decide ((8 : Int) < (na : Int)) = false := by simp; omega
      clear h8
      by_cases h8 : 8 < ny
      · have q2 : decide ((8 : Int) < (ny : Int)) = true := by simp; omega
        clear h8
        go_enter Try.func8, Try.ntmps8
        go_wp2_with (first | (go_at_call 9; ((with_reducible refine (small9 _).mono ?_); rintro e w' ⟨rfl, x0, rfl⟩)) | (go_at_call 10; ((with_reducible refine (refFew10 _ _ _ _ _ _ D B _ _ (HD.out.exts (by repeat (first | exact Exts.refl _ | apply Exts.andR | apply Exts.alloc | apply Exts.wext | apply Exts.drew | apply Exts.drewN))) (HB.out.exts (by repeat (first | exact Exts.refl _ | apply Exts.andR | apply Exts.alloc | apply Exts.wext | apply Exts.drew | apply Exts.drewN))) HFEW.out).mono ?_); rintro e w' ⟨rfl, x1, rfl⟩)))
        go_ret
        exact ⟨rfl, (by repeat (first | exact Exts.refl _ | apply Exts.andR | apply Exts.alloc | apply Exts.wext | apply Exts.drew | apply Exts.drewN))⟩
      · have q2 : decide ((8 : Int) < (ny : Int)) = false := by simp; omega
        clear h8
        obtain ⟨⟨wa, bya, ea⟩, hR1⟩ : ∃ r, forD D B x = r := ⟨_, rfl⟩
        obtain ⟨m1, hm1⟩ : ∃ m, bya.length = m := ⟨_, rfl⟩
        obtain ⟨⟨wb, byb, eb⟩, hR2⟩ : ∃ r, forD D B y = r := ⟨_, rfl⟩
        obtain ⟨m2, hm2⟩ : ∃ m, byb.length = m := ⟨_, rfl⟩
        have HR1 := Lib.hid hR1
        have HM1 := Lib.hid hm1
        have HR2 := Lib.hid hR2
        have HM2 := Lib.hid hm2
        by_cases he1 : ea = 0
        · subst he1
          by_cases he2 : eb = 0
          · subst he2
            obtain ⟨hck, hix⟩ := forD_no hR1 rfl
            obtain ⟨_, hiy⟩ := forD_no hR2 rfl
            rw [forD_ok hck hix] at hR1
            rw [forD_ok hck hiy] at hR2
            simp only [Prod.mk.injEq, and_true] at hR1 hR2
            obtain ⟨hwa, hbya⟩ := hR1
            obtain ⟨hwb, _⟩ := hR2
            rw [whatD_S] at hwa hwb
            obtain ⟨t, ht⟩ : ∃ s, sideB D B x true = s := ⟨_, rfl⟩
            obtain ⟨f, hf⟩ : ∃ s, sideB D B x false = s := ⟨_, rfl⟩
            obtain ⟨t2, ht2⟩ : ∃ s, sideB D B y true = s := ⟨_, rfl⟩
            obtain ⟨f2, hf2⟩ : ∃ s, sideB D B y false = s := ⟨_, rfl⟩
            obtain ⟨bel, hbel⟩ : ∃ s, belowD D x y = s := ⟨_, rfl⟩
            have HBEL := Lib.hid hbel
            have HUP := Lib.hid (show bel = true → t = true → t2 = true from fun h1 h2 => by rw [← ht2]; exact side_up hck hix hiy (hbel.trans h1) (ht.trans h2))
            have HDN := Lib.hid (show bel = true → f2 = true → f = true from fun h1 h2 => by rw [← hf]; exact side_down hck hix hiy (hbel.trans h1) (hf2.trans h2))
            rw [ht, hf] at hwa
            rw [ht2, hf2] at hwb
            have HWA := Lib.hid hwa
            have HWB := Lib.hid hwb
            have HBY := Lib.hid hbya
            have HCK := Lib.hid hck
            have HIX := Lib.hid hix
            have HT := Lib.hid ht
            have HFF := Lib.hid hf
            clear hm1 hm2 hwa hwb hbya hck hix hiy ht hf ht2 hf2 hbel
            cases bel with
            | false =>
              go_enter Try.func8, Try.ntmps8
              go_wp2_with (first | (go_at_call 9; ((with_reducible refine (small9 _).mono ?_); rintro e w' ⟨rfl, x0, rfl⟩)) | (go_at_call 10; ((with_reducible refine (refFew10 _ _ _ _ _ _ D B _ _ (HD.out.exts (by repeat (first | exact Exts.refl _ | apply Exts.andR | apply Exts.alloc | apply Exts.wext | apply Exts.drew | apply Exts.drewN))) (HB.out.exts (by repeat (first | exact Exts.refl _ | apply Exts.andR | apply Exts.alloc | apply Exts.wext | apply Exts.drew | apply Exts.drewN))) HFEW.out).mono ?_); rintro e w' ⟨rfl, x1, rfl⟩)) | (go_at_call 11; ((with_reducible refine (forced11_R _ _ ao _ _ _ _ _ _ D B x _ _ _ _ _ (HD.out.exts (by repeat (first | exact Exts.refl _ | apply Exts.andR | apply Exts.alloc | apply Exts.wext | apply Exts.drew | apply Exts.drewN))) (HB.out.exts (by repeat (first | exact Exts.refl _ | apply Exts.andR | apply Exts.alloc | apply Exts.wext | apply Exts.drew | apply Exts.drewN))) (RowF.exts HA.out (by repeat (first | exact Exts.refl _ | apply Exts.andR | apply Exts.alloc | apply Exts.wext | apply Exts.drew | apply Exts.drewN))) hn HR1.out HM1.out).mono ?_); rintro e w' ⟨fo1, fc1, rfl, ⟨x2, rfl⟩, hf⟩; (try simp only [wext_and] at hf); (have HF1 := Lib.hid hf); clear hf)) | (go_at_call 11; ((with_reducible refine (forced11_R _ _ yo _ _ _ _ _ _ D B y _ _ _ _ _ (HD.out.exts (by repeat (first | exact Exts.refl _ | apply Exts.andR | apply Exts.alloc | apply Exts.wext | apply Exts.drew | apply Exts.drewN))) (HB.out.exts (by repeat (first | exact Exts.refl _ | apply Exts.andR | apply Exts.alloc | apply Exts.wext | apply Exts.drew | apply Exts.drewN))) (RowF.exts HY.out (by repeat (first | exact Exts.refl _ | apply Exts.andR | apply Exts.alloc | apply Exts.wext | apply Exts.drew | apply Exts.drewN))) hn HR2.out HM2.out).mono ?_); rintro e w' ⟨fo2, fc2, rfl, ⟨x3, rfl⟩, hf⟩; clear hf)) | (go_at_call 29; ((with_reducible refine (below23_D _ _ _ _ _ _ _ _ _ D x y _ _ (HD.out.exts (by repeat (first | exact Exts.refl _ | apply Exts.andR | apply Exts.alloc | apply Exts.wext | apply Exts.drew | apply Exts.drewN))) (RowF.exts HA.out (by repeat (first | exact Exts.refl _ | apply Exts.andR | apply Exts.alloc | apply Exts.wext | apply Exts.drew | apply Exts.drewN))) (RowF.exts HY.out (by repeat (first | exact Exts.refl _ | apply Exts.andR | apply Exts.alloc | apply Exts.wext | apply Exts.drew | apply Exts.drewN))) HBEL.out).mono ?_); rintro e w' ⟨rfl, x4, rfl⟩)))
              refine wp_name ?_
              intro W hW
              have hX : Exts w W := by rw [hW]; exact (by repeat (first | exact Exts.refl _ | apply Exts.andR | apply Exts.alloc | apply Exts.wext | apply Exts.drew | apply Exts.drewN))
              have HX := Lib.hid hX
              have HDW := Lib.hid (HD.out.exts hX)
              have HBW := Lib.hid (HB.out.exts hX)
              have HAW := Lib.hid (RowF.exts HA.out hX)
              have HFW := Lib.hid (show Ints (fun _ => True) W fo1 m1 fc1 bya by rw [hW]; exact RowF.exts (RowF.mono HF1.out fun _ _ => trivial) (by repeat (first | exact Exts.refl _ | apply Exts.andR | apply Exts.alloc | apply Exts.wext | apply Exts.drew | apply Exts.drewN)))
              clear hW hX HF1 HB HD HA HY
              go_loopw [16, 17] (fun o j wr => ∃ (k : Nat) (ys : List Value), k ≤ n ∧ j = .int .i64 k ∧ Exts W wr ∧ wr.ownsRow W.heap.size 33 3 o k ys ∧ Cel W ys (B.reverse.take k)) (fun _ j _ => n - (intOf j).toNat)
              case atStart => exact ⟨0, [], by omega, rfl, Exts.refl _, World.ownsRow_nil _ _ _ _, rfl, fun i d hd => by simp at hd⟩
              case round =>
                obtain ⟨k, ys, hk, rfl, hx, hown, hcel⟩ := hrel
                have HX2 := Lib.hid hx
                have HBS := Lib.hid (show W.heap.size ≤ wr.heap.size from hx.below.size)
                have HO := Lib.hid hown
                have HC := Lib.hid hcel
                obtain ⟨oo, oc, rfl⟩ := owns_shape hown
                clear hcel hown
                by_cases hlt : k < n
                · obtain ⟨b, off, id, vs, gr, vo, vc, rfl, lb', hc, e0', e1', e2', hvs, hid⟩ := HBW.out.get (show n - 1 - k < n by omega)
                  have lb : b < wr.heap.size := by have := HBS.out; omega
                  have e0 := Exts.cell hx e0'
                  have e1 := Exts.cell hx e1'
                  have e2 := Exts.cell hx e2'
                  have HN := Lib.hid (show Cel W (ys ++ [.int .i64 id, .slice vo vs.length vc, .bool gr]) (B.reverse.take (k + 1)) from by
                    have h := HC.out.snoc (d := ⟨id, vs, gr⟩) (v := .slice vo vs.length vc) ⟨vo, vc, rfl, RowF.mono hvs fun _ _ => trivial⟩
                    rw [List.take_add_one, List.getElem?_reverse (by rw [HL.out]; exact hlt), HL.out, hc]
                    exact h)
                  have i4 : IntKind.i64.wrap ((n : Int) - 1) = ((n - 1 : Nat) : Int) := by rw [IntKind.wrap_i64] <;> omega
                  have i5 : IntKind.i64.wrap (((n - 1 : Nat) : Int) - (k : Int)) = ((n - 1 - k : Nat) : Int) := by rw [IntKind.wrap_i64] <;> omega
                  have i6 : ((n - 1 - k : Nat) : Int) < (n : Int) := by omega
                  clear hx lb' hc e0' e1' e2' hvs hid
                  go_wp2_with (first | (at_builtin; refine wpList_append_lies _ rfl (.tmp 104) (.tmp 113) 23 rfl W.heap.size 33 i0 _ 3 40 Try.underlying23 hi hz0 hz1 hz2 rfl (by decide) (.slice oo k oc) k ys rfl (ownsRow_exts HO.out (by repeat (first | exact Exts.refl _ | apply Exts.andR | apply Exts.alloc | apply Exts.wext | apply Exts.drew | apply Exts.drewN))) ⟨_, 0, none⟩ 1 1 [.int .i64 id, .slice vo vs.length vc, .bool gr] rfl rfl (by intro j u hj; match j, hj with | 0, hj => (simp at hj; subst hj; simp [go_sem]) | 1, hj => (simp at hj; subst hj; simp [go_sem]) | 2, hj => (simp at hj; subst hj; simp [go_sem])) (three_one _ _ _ rfl) (by decide) (by unfold maxLen; omega) (by omega) (by have := HBS.out; simp; omega) _ rfl ?_; intro g2 cg w9 hown' hgrow hat hlt'))
                  refine ⟨⟨k + 1, _, by omega, by go_num, exts_of_grown (W := W) (HX2.out.trans (by repeat (first | exact Exts.refl _ | apply Exts.andR | apply Exts.alloc | apply Exts.wext | apply Exts.drew | apply Exts.drewN))) hgrow (fun b hb => owns_base HO.out hb), hown', HN.out⟩, ?_⟩
                  simp [intOf]; omega
                · obtain rfl : k = n := by omega
                  have hrl : (B.reverse).length = k := by rw [List.length_reverse, HL.out]
                  have hce := HC.out
                  rw [List.take_of_length_le (Nat.le_of_eq hrl)] at hce
                  have HTU := Lib.hid (hce.cases hrl (fun z hz => HBW.out.2.1 z (List.mem_reverse.1 hz)) hx (RowF.of_owns HO.out))
                  have HD := Lib.hid (HDW.out.exts hx)
                  have HA := Lib.hid (RowF.exts HAW.out hx)
                  obtain ⟨byr, hbyr⟩ : ∃ l, byK D B.reverse x B.length = l := ⟨_, rfl⟩
                  have HR3 := Lib.hid (forD_turn hbyr HR1.out)
                  have HM3 := Lib.hid (show byr.length = m1 by rw [← hbyr, by_turn_len, HBY.out, HM1.out])
                  have HTURN := Lib.hid (show ∀ i v, bya[i]? = some v → byr[m1 - 1 - i]? = some ((k : Int) - 1 - v) from fun i v h => by
                    rw [← HBY.out] at h
                    have h2 := by_turn_at h
                    rw [HBY.out, HM1.out, hbyr, HL.out] at h2
                    exact h2)
                  have HBD := Lib.hid (show ∀ (i : Nat) v, bya[i]? = some v → (0 : Int) ≤ v ∧ v < k from fun i v h => by
                    rw [← HBY.out] at h
                    have := by_bound h
                    rw [HL.out] at this
                    exact this)
                  clear hx hce hrl hbyr
                  go_wp2_with (first | (go_at_call 11; ((with_reducible refine (forced11_R _ oo _ _ _ _ _ _ _ D B.reverse x _ _ _ _ _ (HD.out.exts (by repeat (first | exact Exts.refl _ | apply Exts.andR | apply Exts.alloc | apply Exts.wext | apply Exts.drew | apply Exts.drewN))) (HTU.out.exts (by repeat (first | exact Exts.refl _ | apply Exts.andR | apply Exts.alloc | apply Exts.wext | apply Exts.drew | apply Exts.drewN))) (RowF.exts HA.out (by repeat (first | exact Exts.refl _ | apply Exts.andR | apply Exts.alloc | apply Exts.wext | apply Exts.drew | apply Exts.drewN))) hn HR3.out HM3.out).mono ?_); rintro e w' ⟨fo3, fc3, rfl, ⟨x5, rfl⟩, hf3⟩; (try simp only [wext_and] at hf3); (have HF3 := Lib.hid hf3); clear hf3)))
                  refine wp_name ?_
                  intro V hV
                  have hX3 : Exts wr V := by rw [hV]; exact (by repeat (first | exact Exts.refl _ | apply Exts.andR | apply Exts.alloc | apply Exts.wext | apply Exts.drew | apply Exts.drewN))
                  have HX3 := Lib.hid hX3
                  have HDV := Lib.hid (HD.out.exts hX3)
                  have HBV := Lib.hid (HBW.out.exts (HX2.out.trans hX3))
                  have HAV := Lib.hid (RowF.exts HA.out hX3)
                  have HFV := Lib.hid (RowF.exts HFW.out (HX2.out.trans hX3))
                  have HF3V := Lib.hid (show Ints (fun _ => True) V fo3 m1 fc3 byr by rw [hV]; exact RowF.exts (RowF.mono HF3.out fun _ _ => trivial) (by repeat (first | exact Exts.refl _ | apply Exts.andR | apply Exts.alloc | apply Exts.wext | apply Exts.drew | apply Exts.drewN)))
                  clear hV hX3 HF3 HD HA HTU HO HC
                  go_loopw [21] (fun j wr' => ∃ (q : Nat), q ≤ m1 ∧ j = .int .i64 q ∧ Exts V wr') (fun j _ => m1 - (intOf j).toNat)
                  case atStart => exact ⟨0, by omega, rfl, Exts.refl _⟩
                  case round =>
                    obtain ⟨q, hq, rfl, hx⟩ := hrel
                    have HX4 := Lib.hid hx
                    by_cases hlt2 : q < m1
                    · obtain ⟨b1, o1, v1, rfl, l1, g1, c1'⟩ := ints_get (RowF.exts HFV.out hx) hlt2
                      obtain ⟨b2, o2, v2, rfl, l2, g2, c2'⟩ := ints_get (RowF.exts HF3V.out hx) (show m1 - 1 - q < m1 by omega)
                      have hm15 : m1 ≤ 16 := by
                        have h1 := byK_len D B x B.length
                        rw [HBY.out, HM1.out, HL.out] at h1
                        omega
                      have h3 := HTURN.out q v1 g1
                      rw [g2] at h3
                      have h4 := Option.some.inj h3
                      obtain ⟨h5, h6⟩ := HBD.out q v1 g1
                      have i4 : IntKind.i64.wrap ((m1 : Int) - 1) = ((m1 - 1 : Nat) : Int) := by rw [IntKind.wrap_i64] <;> omega
                      have i5 : IntKind.i64.wrap (((m1 - 1 : Nat) : Int) - (q : Int)) = ((m1 - 1 - q : Nat) : Int) := by rw [IntKind.wrap_i64] <;> omega
                      have i6 : ((m1 - 1 - q : Nat) : Int) < (m1 : Int) := by omega
                      have i7 : IntKind.i64.wrap ((k : Int) - 1) = ((k - 1 : Nat) : Int) := by rw [IntKind.wrap_i64] <;> omega
                      have i8 : IntKind.i64.wrap (((k - 1 : Nat) : Int) - v1) = v2 := by rw [IntKind.wrap_i64] <;> omega
                      clear hx g1 g2 h3 h4 h5 h6
                      go_wp2
                      first | refine wp_region_ext_lit2 (by kernel_rfl) (by kernel_rfl) ?_ | refine wp_region_ext_lit (by kernel_rfl) (by kernel_rfl) ?_
                      repeat (go_big_quiet_step (fail))
                      refine wpQuiet_nil ?_
                      intro _ hwq'
                      obtain ⟨xq, hwq''⟩ := hwq'
                      subst hwq''
                      go_wp2
                      refine ⟨⟨q + 1, by omega, by go_num, HX4.out.trans (by repeat (first | exact Exts.refl _ | apply Exts.andR | apply Exts.alloc | apply Exts.wext | apply Exts.drew | apply Exts.drewN))⟩, ?_⟩
                      simp [intOf]; omega
                    · obtain rfl : q = m1 := by omega
                      have HD := Lib.hid (HDV.out.exts hx)
                      have HB := Lib.hid (HBV.out.exts hx)
                      have HA := Lib.hid (RowF.exts HAV.out hx)
                      clear hlt hlt2
                      by_cases hk0 : k = 0
                      · have h1 := nil_what (List.length_eq_zero_iff.1 (HL.out.trans hk0)) HT.out HFF.out HWA.out
                        have hq0 : ((k : Int) == 0) = true := by simpa using hk0
                        first
                        | exact absurd h1 (by decide)
                        | (have q9 : (wa == 0) = true := by simpa using h1
                           clear hx h1
                           go_wp2
                           go_ret
                           exact ⟨rfl, HX.out.trans (HX2.out.trans (HX3.out.trans (HX4.out.trans (by repeat (first | exact Exts.refl _ | apply Exts.andR | apply Exts.alloc | apply Exts.wext | apply Exts.drew | apply Exts.drewN)))))⟩)
                        | (clear hx h1
                           go_wp2
                           go_ret
                           exact ⟨rfl, HX.out.trans (HX2.out.trans (HX3.out.trans (HX4.out.trans (by repeat (first | exact Exts.refl _ | apply Exts.andR | apply Exts.alloc | apply Exts.wext | apply Exts.drew | apply Exts.drewN)))))⟩)
                      · have hq0 : ((k : Int) == 0) = false := by simpa using hk0
                        have hn3 : k - 1 ≤ 2000 := by omega
                        obtain ⟨b, off, id, vs, gr, vo, vc, rfl, lb, _⟩ := HB.out.get (show 0 < k by omega)
                        have hdl : (B.drop 1).length = k - 1 := by rw [List.length_drop, HL.out]
                        obtain ⟨byd, hbyd⟩ : ∃ l, byK D (B.drop 1) x (k - 1) = l := ⟨_, rfl⟩
                        obtain ⟨m4, hm4⟩ : ∃ m, byd.length = m := ⟨_, rfl⟩
                        obtain ⟨wd, hwd⟩ : ∃ v, whatD D (B.drop 1) x = v := ⟨_, rfl⟩
                        have HR4 := Lib.hid (show forD D (B.drop 1) x = (wd, byd, 0) by rw [forD_ok (check_drop HCK.out 1) HIX.out, hdl, hbyd, hwd])
                        have HM4 := Lib.hid hm4
                        rw [whatD_S] at hwd
                        obtain ⟨t', ht'⟩ : ∃ s, sideB D (B.drop 1) x true = s := ⟨_, rfl⟩
                        obtain ⟨f', hf'⟩ : ∃ s, sideB D (B.drop 1) x false = s := ⟨_, rfl⟩
                        have hti := side_tail ht' HT.out
                        have hfi := side_tail hf' HFF.out
                        rw [ht', hf'] at hwd
                        have hp1 : (1 : Int) ≤ (k : Int) := by omega
                        have hp2 : (1 : Int) ≤ (c : Int) := by omega
                        clear hx hbyd hm4 ht' hf' hdl
                        by_cases hce : c = 1
                        · subst hce
                          obtain rfl : k = 1 := by omega
                          have HP := Lib.hid (show Cases S1 _ (some ⟨b, off, none⟩) 0 0 (B.drop 1) from by
                            have h := HB.out.part 1 0 0 (by omega) (by omega) (by unfold maxLen; omega) (some ⟨b, off, none⟩) (fun h => by cases h) (fun b' o' h hm => by omega)
                            rw [List.take_zero] at h
                            rw [List.drop_eq_nil_of_le (by rw [HL.out]; exact Nat.le_refl _)]
                            exact h)
                          rcases whatS_of HWA.out with ⟨h1, h2, h3⟩ | ⟨h1, h2, h3⟩ | ⟨h1, h2, h3⟩ | ⟨h1, h2, h3⟩
                          all_goals
                            first
                            | (exfalso; revert h1 h2; decide)
                            | rcases whatS_of hwd with ⟨rfl, rfl, rfl⟩ | ⟨rfl, rfl, rfl⟩ | ⟨rfl, rfl, rfl⟩ | ⟨rfl, rfl, rfl⟩
                          all_goals
                            first
                            | (exfalso; have := hti rfl; exact absurd (h1.symm.trans this) (by decide))
                            | (exfalso; have := hfi rfl; exact absurd (h2.symm.trans this) (by decide))
                            | (clear hti hfi hwd h1 h2; (try subst h3); clear HWA HR1 HR3)
                          all_goals
                            go_wp2_with (first | (go_at_call 11; ((with_reducible refine (forced11_R _ (some ⟨b, _, none⟩) _ _ _ _ _ _ _ D (B.drop 1) x _ _ _ _ _ (HD.out.exts (by repeat (first | exact Exts.refl _ | apply Exts.andR | apply Exts.alloc | apply Exts.wext | apply Exts.drew | apply Exts.drewN))) (HP.out.exts (by repeat (first | exact Exts.refl _ | apply Exts.andR | apply Exts.alloc | apply Exts.wext | apply Exts.drew | apply Exts.drewN))) (RowF.exts HA.out (by repeat (first | exact Exts.refl _ | apply Exts.andR | apply Exts.alloc | apply Exts.wext | apply Exts.drew | apply Exts.drewN))) hn3 HR4.out HM4.out).mono ?_); rintro e w' ⟨fo4, fc4, rfl, ⟨x6, rfl⟩, hf4⟩; clear hf4)))
                            go_ret
                            exact ⟨rfl, HX.out.trans (HX2.out.trans (HX3.out.trans (HX4.out.trans (by repeat (first | exact Exts.refl _ | apply Exts.andR | apply Exts.alloc | apply Exts.wext | apply Exts.drew | apply Exts.drewN)))))⟩
                        · have hce' : ¬ (c : Int) = 1 := by omega
                          have HP := Lib.hid (show Cases S1 _ (some ⟨b, off + 3, none⟩) (k - 1) (c - 1) (B.drop 1) from by
                            have h := HB.out.part 1 (k - 1) (c - 1) (by omega) (by omega) (by unfold maxLen; omega) (some ⟨b, off + 3, none⟩) (fun h => by cases h) (fun b' o' h hm => by cases h; rfl)
                            rw [List.take_of_length_le (by rw [List.length_drop, HL.out]; exact Nat.le_refl _)] at h
                            exact h)
                          rcases whatS_of HWA.out with ⟨h1, h2, h3⟩ | ⟨h1, h2, h3⟩ | ⟨h1, h2, h3⟩ | ⟨h1, h2, h3⟩
                          all_goals
                            first
                            | (exfalso; revert h1 h2; decide)
                            | rcases whatS_of hwd with ⟨rfl, rfl, rfl⟩ | ⟨rfl, rfl, rfl⟩ | ⟨rfl, rfl, rfl⟩ | ⟨rfl, rfl, rfl⟩
                          all_goals
                            first
                            | (exfalso; have := hti rfl; exact absurd (h1.symm.trans this) (by decide))
                            | (exfalso; have := hfi rfl; exact absurd (h2.symm.trans this) (by decide))
                            | (clear hti hfi hwd h1 h2; (try subst h3); clear HWA HR1 HR3)
                          all_goals
                            go_wp2_with (first | (go_at_call 11; ((with_reducible refine (forced11_R _ (some ⟨b, _, none⟩) _ _ _ _ _ _ _ D (B.drop 1) x _ _ _ _ _ (HD.out.exts (by repeat (first | exact Exts.refl _ | apply Exts.andR | apply Exts.alloc | apply Exts.wext | apply Exts.drew | apply Exts.drewN))) (HP.out.exts (by repeat (first | exact Exts.refl _ | apply Exts.andR | apply Exts.alloc | apply Exts.wext | apply Exts.drew | apply Exts.drewN))) (RowF.exts HA.out (by repeat (first | exact Exts.refl _ | apply Exts.andR | apply Exts.alloc | apply Exts.wext | apply Exts.drew | apply Exts.drewN))) hn3 HR4.out HM4.out).mono ?_); rintro e w' ⟨fo4, fc4, rfl, ⟨x6, rfl⟩, hf4⟩; clear hf4)))
                            go_ret
                            exact ⟨rfl, HX.out.trans (HX2.out.trans (HX3.out.trans (HX4.out.trans (by repeat (first | exact Exts.refl _ | apply Exts.andR | apply Exts.alloc | apply Exts.wext | apply Exts.drew | apply Exts.drewN)))))⟩
            | true =>
              rcases whatS_of HWA.out with ⟨rfl, rfl, rfl⟩ | ⟨rfl, rfl, rfl⟩ | ⟨rfl, rfl, rfl⟩ | ⟨rfl, rfl, rfl⟩
              all_goals rcases whatS_of HWB.out with ⟨rfl, rfl, rfl⟩ | ⟨rfl, rfl, rfl⟩ | ⟨rfl, rfl, rfl⟩ | ⟨rfl, rfl, rfl⟩
              all_goals
                first
                | (exfalso; have := HUP.out rfl rfl; revert this; decide)
                | (exfalso; have := HDN.out rfl rfl; revert this; decide)
                | skip
              all_goals
                as_aux_lemma =>
                  go_enter Try.func8, Try.ntmps8
                  go_wp2_with (first | (go_at_call 9; ((with_reducible refine (small9 _).mono ?_); rintro e w' ⟨rfl, x0, rfl⟩)) | (go_at_call 10; ((with_reducible refine (refFew10 _ _ _ _ _ _ D B _ _ (HD.out.exts (by repeat (first | exact Exts.refl _ | apply Exts.andR | apply Exts.alloc | apply Exts.wext | apply Exts.drew | apply Exts.drewN))) (HB.out.exts (by repeat (first | exact Exts.refl _ | apply Exts.andR | apply Exts.alloc | apply Exts.wext | apply Exts.drew | apply Exts.drewN))) HFEW.out).mono ?_); rintro e w' ⟨rfl, x1, rfl⟩)) | (go_at_call 11; ((with_reducible refine (forced11_R _ _ ao _ _ _ _ _ _ D B x _ _ _ _ _ (HD.out.exts (by repeat (first | exact Exts.refl _ | apply Exts.andR | apply Exts.alloc | apply Exts.wext | apply Exts.drew | apply Exts.drewN))) (HB.out.exts (by repeat (first | exact Exts.refl _ | apply Exts.andR | apply Exts.alloc | apply Exts.wext | apply Exts.drew | apply Exts.drewN))) (RowF.exts HA.out (by repeat (first | exact Exts.refl _ | apply Exts.andR | apply Exts.alloc | apply Exts.wext | apply Exts.drew | apply Exts.drewN))) hn HR1.out HM1.out).mono ?_); rintro e w' ⟨fo1, fc1, rfl, ⟨x2, rfl⟩, hf⟩; (try simp only [wext_and] at hf); (have HF1 := Lib.hid hf); clear hf)) | (go_at_call 11; ((with_reducible refine (forced11_R _ _ yo _ _ _ _ _ _ D B y _ _ _ _ _ (HD.out.exts (by repeat (first | exact Exts.refl _ | apply Exts.andR | apply Exts.alloc | apply Exts.wext | apply Exts.drew | apply Exts.drewN))) (HB.out.exts (by repeat (first | exact Exts.refl _ | apply Exts.andR | apply Exts.alloc | apply Exts.wext | apply Exts.drew | apply Exts.drewN))) (RowF.exts HY.out (by repeat (first | exact Exts.refl _ | apply Exts.andR | apply Exts.alloc | apply Exts.wext | apply Exts.drew | apply Exts.drewN))) hn HR2.out HM2.out).mono ?_); rintro e w' ⟨fo2, fc2, rfl, ⟨x3, rfl⟩, hf⟩; clear hf)) | (go_at_call 29; ((with_reducible refine (below23_D _ _ _ _ _ _ _ _ _ D x y _ _ (HD.out.exts (by repeat (first | exact Exts.refl _ | apply Exts.andR | apply Exts.alloc | apply Exts.wext | apply Exts.drew | apply Exts.drewN))) (RowF.exts HA.out (by repeat (first | exact Exts.refl _ | apply Exts.andR | apply Exts.alloc | apply Exts.wext | apply Exts.drew | apply Exts.drewN))) (RowF.exts HY.out (by repeat (first | exact Exts.refl _ | apply Exts.andR | apply Exts.alloc | apply Exts.wext | apply Exts.drew | apply Exts.drewN))) HBEL.out).mono ?_); rintro e w' ⟨rfl, x4, rfl⟩)))
                  refine wp_name ?_
                  intro W hW
                  have hX : Exts w W := by rw [hW]; exact (by repeat (first | exact Exts.refl _ | apply Exts.andR | apply Exts.alloc | apply Exts.wext | apply Exts.drew | apply Exts.drewN))
                  have HX := Lib.hid hX
                  have HDW := Lib.hid (HD.out.exts hX)
                  have HBW := Lib.hid (HB.out.exts hX)
                  have HAW := Lib.hid (RowF.exts HA.out hX)
                  have HFW := Lib.hid (show Ints (fun _ => True) W fo1 m1 fc1 bya by rw [hW]; exact RowF.exts (RowF.mono HF1.out fun _ _ => trivial) (by repeat (first | exact Exts.refl _ | apply Exts.andR | apply Exts.alloc | apply Exts.wext | apply Exts.drew | apply Exts.drewN)))
                  clear hW hX HF1 HB HD HA HY
                  go_loopw [16, 17] (fun o j wr => ∃ (k : Nat) (ys : List Value), k ≤ n ∧ j = .int .i64 k ∧ Exts W wr ∧ wr.ownsRow W.heap.size 33 3 o k ys ∧ Cel W ys (B.reverse.take k)) (fun _ j _ => n - (intOf j).toNat)
                  case atStart => exact ⟨0, [], by omega, rfl, Exts.refl _, World.ownsRow_nil _ _ _ _, rfl, fun i d hd => by simp at hd⟩
                  case round =>
                    obtain ⟨k, ys, hk, rfl, hx, hown, hcel⟩ := hrel
                    have HX2 := Lib.hid hx
                    have HBS := Lib.hid (show W.heap.size ≤ wr.heap.size from hx.below.size)
                    have HO := Lib.hid hown
                    have HC := Lib.hid hcel
                    obtain ⟨oo, oc, rfl⟩ := owns_shape hown
                    clear hcel hown
                    by_cases hlt : k < n
                    · obtain ⟨b, off, id, vs, gr, vo, vc, rfl, lb', hc, e0', e1', e2', hvs, hid⟩ := HBW.out.get (show n - 1 - k < n by omega)
                      have lb : b < wr.heap.size := by have := HBS.out; omega
                      have e0 := Exts.cell hx e0'
                      have e1 := Exts.cell hx e1'
                      have e2 := Exts.cell hx e2'
                      have HN := Lib.hid (show Cel W (ys ++ [.int .i64 id, .slice vo vs.length vc, .bool gr]) (B.reverse.take (k + 1)) from by
                        have h := HC.out.snoc (d := ⟨id, vs, gr⟩) (v := .slice vo vs.length vc) ⟨vo, vc, rfl, RowF.mono hvs fun _ _ => trivial⟩
                        rw [List.take_add_one, List.getElem?_reverse (by rw [HL.out]; exact hlt), HL.out, hc]
                        exact h)
                      have i4 : IntKind.i64.wrap ((n : Int) - 1) = ((n - 1 : Nat) : Int) := by rw [IntKind.wrap_i64] <;> omega
                      have i5 : IntKind.i64.wrap (((n - 1 : Nat) : Int) - (k : Int)) = ((n - 1 - k : Nat) : Int) := by rw [IntKind.wrap_i64] <;> omega
                      have i6 : ((n - 1 - k : Nat) : Int) < (n : Int) := by omega
                      clear hx lb' hc e0' e1' e2' hvs hid
                      go_wp2_with (first | (at_builtin; refine wpList_append_lies _ rfl (.tmp 104) (.tmp 113) 23 rfl W.heap.size 33 i0 _ 3 40 Try.underlying23 hi hz0 hz1 hz2 rfl (by decide) (.slice oo k oc) k ys rfl (ownsRow_exts HO.out (by repeat (first | exact Exts.refl _ | apply Exts.andR | apply Exts.alloc | apply Exts.wext | apply Exts.drew | apply Exts.drewN))) ⟨_, 0, none⟩ 1 1 [.int .i64 id, .slice vo vs.length vc, .bool gr] rfl rfl (by intro j u hj; match j, hj with | 0, hj => (simp at hj; subst hj; simp [go_sem]) | 1, hj => (simp at hj; subst hj; simp [go_sem]) | 2, hj => (simp at hj; subst hj; simp [go_sem])) (three_one _ _ _ rfl) (by decide) (by unfold maxLen; omega) (by omega) (by have := HBS.out; simp; omega) _ rfl ?_; intro g2 cg w9 hown' hgrow hat hlt'))
                      refine ⟨⟨k + 1, _, by omega, by go_num, exts_of_grown (W := W) (HX2.out.trans (by repeat (first | exact Exts.refl _ | apply Exts.andR | apply Exts.alloc | apply Exts.wext | apply Exts.drew | apply Exts.drewN))) hgrow (fun b hb => owns_base HO.out hb), hown', HN.out⟩, ?_⟩
                      simp [intOf]; omega
                    · obtain rfl : k = n := by omega
                      have hrl : (B.reverse).length = k := by rw [List.length_reverse, HL.out]
                      have hce := HC.out
                      rw [List.take_of_length_le (Nat.le_of_eq hrl)] at hce
                      have HTU := Lib.hid (hce.cases hrl (fun z hz => HBW.out.2.1 z (List.mem_reverse.1 hz)) hx (RowF.of_owns HO.out))
                      have HD := Lib.hid (HDW.out.exts hx)
                      have HA := Lib.hid (RowF.exts HAW.out hx)
                      obtain ⟨byr, hbyr⟩ : ∃ l, byK D B.reverse x B.length = l := ⟨_, rfl⟩
                      have HR3 := Lib.hid (forD_turn hbyr HR1.out)
                      have HM3 := Lib.hid (show byr.length = m1 by rw [← hbyr, by_turn_len, HBY.out, HM1.out])
                      have HTURN := Lib.hid (show ∀ i v, bya[i]? = some v → byr[m1 - 1 - i]? = some ((k : Int) - 1 - v) from fun i v h => by
                        rw [← HBY.out] at h
                        have h2 := by_turn_at h
                        rw [HBY.out, HM1.out, hbyr, HL.out] at h2
                        exact h2)
                      have HBD := Lib.hid (show ∀ (i : Nat) v, bya[i]? = some v → (0 : Int) ≤ v ∧ v < k from fun i v h => by
                        rw [← HBY.out] at h
                        have := by_bound h
                        rw [HL.out] at this
                        exact this)
                      clear hx hce hrl hbyr
                      go_wp2_with (first | (go_at_call 11; ((with_reducible refine (forced11_R _ oo _ _ _ _ _ _ _ D B.reverse x _ _ _ _ _ (HD.out.exts (by repeat (first | exact Exts.refl _ | apply Exts.andR | apply Exts.alloc | apply Exts.wext | apply Exts.drew | apply Exts.drewN))) (HTU.out.exts (by repeat (first | exact Exts.refl _ | apply Exts.andR | apply Exts.alloc | apply Exts.wext | apply Exts.drew | apply Exts.drewN))) (RowF.exts HA.out (by repeat (first | exact Exts.refl _ | apply Exts.andR | apply Exts.alloc | apply Exts.wext | apply Exts.drew | apply Exts.drewN))) hn HR3.out HM3.out).mono ?_); rintro e w' ⟨fo3, fc3, rfl, ⟨x5, rfl⟩, hf3⟩; (try simp only [wext_and] at hf3); (have HF3 := Lib.hid hf3); clear hf3)))
                      refine wp_name ?_
                      intro V hV
                      have hX3 : Exts wr V := by rw [hV]; exact (by repeat (first | exact Exts.refl _ | apply Exts.andR | apply Exts.alloc | apply Exts.wext | apply Exts.drew | apply Exts.drewN))
                      have HX3 := Lib.hid hX3
                      have HDV := Lib.hid (HD.out.exts hX3)
                      have HBV := Lib.hid (HBW.out.exts (HX2.out.trans hX3))
                      have HAV := Lib.hid (RowF.exts HA.out hX3)
                      have HFV := Lib.hid (RowF.exts HFW.out (HX2.out.trans hX3))
                      have HF3V := Lib.hid (show Ints (fun _ => True) V fo3 m1 fc3 byr by rw [hV]; exact RowF.exts (RowF.mono HF3.out fun _ _ => trivial) (by repeat (first | exact Exts.refl _ | apply Exts.andR | apply Exts.alloc | apply Exts.wext | apply Exts.drew | apply Exts.drewN)))
                      clear hV hX3 HF3 HD HA HTU HO HC
                      go_loopw [21] (fun j wr' => ∃ (q : Nat), q ≤ m1 ∧ j = .int .i64 q ∧ Exts V wr') (fun j _ => m1 - (intOf j).toNat)
                      case atStart => exact ⟨0, by omega, rfl, Exts.refl _⟩
                      case round =>
                        obtain ⟨q, hq, rfl, hx⟩ := hrel
                        have HX4 := Lib.hid hx
                        by_cases hlt2 : q < m1
                        · obtain ⟨b1, o1, v1, rfl, l1, g1, c1'⟩ := ints_get (RowF.exts HFV.out hx) hlt2
                          obtain ⟨b2, o2, v2, rfl, l2, g2, c2'⟩ := ints_get (RowF.exts HF3V.out hx) (show m1 - 1 - q < m1 by omega)
                          have hm15 : m1 ≤ 16 := by
                            have h1 := byK_len D B x B.length
                            rw [HBY.out, HM1.out, HL.out] at h1
                            omega
                          have h3 := HTURN.out q v1 g1
                          rw [g2] at h3
                          have h4 := Option.some.inj h3
                          obtain ⟨h5, h6⟩ := HBD.out q v1 g1
                          have i4 : IntKind.i64.wrap ((m1 : Int) - 1) = ((m1 - 1 : Nat) : Int) := by rw [IntKind.wrap_i64] <;> omega
                          have i5 : IntKind.i64.wrap (((m1 - 1 : Nat) : Int) - (q : Int)) = ((m1 - 1 - q : Nat) : Int) := by rw [IntKind.wrap_i64] <;> omega
                          have i6 : ((m1 - 1 - q : Nat) : Int) < (m1 : Int) := by omega
                          have i7 : IntKind.i64.wrap ((k : Int) - 1) = ((k - 1 : Nat) : Int) := by rw [IntKind.wrap_i64] <;> omega
                          have i8 : IntKind.i64.wrap (((k - 1 : Nat) : Int) - v1) = v2 := by rw [IntKind.wrap_i64] <;> omega
                          clear hx g1 g2 h3 h4 h5 h6
                          go_wp2
                          first | refine wp_region_ext_lit2 (by kernel_rfl) (by kernel_rfl) ?_ | refine wp_region_ext_lit (by kernel_rfl) (by kernel_rfl) ?_
                          repeat (go_big_quiet_step (fail))
                          refine wpQuiet_nil ?_
                          intro _ hwq'
                          obtain ⟨xq, hwq''⟩ := hwq'
                          subst hwq''
                          go_wp2
                          refine ⟨⟨q + 1, by omega, by go_num, HX4.out.trans (by repeat (first | exact Exts.refl _ | apply Exts.andR | apply Exts.alloc | apply Exts.wext | apply Exts.drew | apply Exts.drewN))⟩, ?_⟩
                          simp [intOf]; omega
                        · obtain rfl : q = m1 := by omega
                          have HD := Lib.hid (HDV.out.exts hx)
                          have HB := Lib.hid (HBV.out.exts hx)
                          have HA := Lib.hid (RowF.exts HAV.out hx)
                          clear hlt hlt2
                          by_cases hk0 : k = 0
                          · have h1 := nil_what (List.length_eq_zero_iff.1 (HL.out.trans hk0)) HT.out HFF.out HWA.out
                            have hq0 : ((k : Int) == 0) = true := by simpa using hk0
                            first
                            | exact absurd h1 (by decide)
                            | (have q9 : (wa == 0) = true := by simpa using h1
                               clear hx h1
                               go_wp2
                               go_ret
                               exact ⟨rfl, HX.out.trans (HX2.out.trans (HX3.out.trans (HX4.out.trans (by repeat (first | exact Exts.refl _ | apply Exts.andR | apply Exts.alloc | apply Exts.wext | apply Exts.drew | apply Exts.drewN)))))⟩)
                            | (clear hx h1
                               go_wp2
                               go_ret
                               exact ⟨rfl, HX.out.trans (HX2.out.trans (HX3.out.trans (HX4.out.trans (by repeat (first | exact Exts.refl _ | apply Exts.andR | apply Exts.alloc | apply Exts.wext | apply Exts.drew | apply Exts.drewN)))))⟩)
                          · have hq0 : ((k : Int) == 0) = false := by simpa using hk0
                            have hn3 : k - 1 ≤ 2000 := by omega
                            obtain ⟨b, off, id, vs, gr, vo, vc, rfl, lb, _⟩ := HB.out.get (show 0 < k by omega)
                            have hdl : (B.drop 1).length = k - 1 := by rw [List.length_drop, HL.out]
                            obtain ⟨byd, hbyd⟩ : ∃ l, byK D (B.drop 1) x (k - 1) = l := ⟨_, rfl⟩
                            obtain ⟨m4, hm4⟩ : ∃ m, byd.length = m := ⟨_, rfl⟩
                            obtain ⟨wd, hwd⟩ : ∃ v, whatD D (B.drop 1) x = v := ⟨_, rfl⟩
                            have HR4 := Lib.hid (show forD D (B.drop 1) x = (wd, byd, 0) by rw [forD_ok (check_drop HCK.out 1) HIX.out, hdl, hbyd, hwd])
                            have HM4 := Lib.hid hm4
                            rw [whatD_S] at hwd
                            obtain ⟨t', ht'⟩ : ∃ s, sideB D (B.drop 1) x true = s := ⟨_, rfl⟩
                            obtain ⟨f', hf'⟩ : ∃ s, sideB D (B.drop 1) x false = s := ⟨_, rfl⟩
                            have hti := side_tail ht' HT.out
                            have hfi := side_tail hf' HFF.out
                            rw [ht', hf'] at hwd
                            have hp1 : (1 : Int) ≤ (k : Int) := by omega
                            have hp2 : (1 : Int) ≤ (c : Int) := by omega
                            clear hx hbyd hm4 ht' hf' hdl
                            by_cases hce : c = 1
                            · subst hce
                              obtain rfl : k = 1 := by omega
                              have HP := Lib.hid (show Cases S1 _ (some ⟨b, off, none⟩) 0 0 (B.drop 1) from by
                                have h := HB.out.part 1 0 0 (by omega) (by omega) (by unfold maxLen; omega) (some ⟨b, off, none⟩) (fun h => by cases h) (fun b' o' h hm => by omega)
                                rw [List.take_zero] at h
                                rw [List.drop_eq_nil_of_le (by rw [HL.out]; exact Nat.le_refl _)]
                                exact h)
                              rcases whatS_of HWA.out with ⟨h1, h2, h3⟩ | ⟨h1, h2, h3⟩ | ⟨h1, h2, h3⟩ | ⟨h1, h2, h3⟩
                              all_goals
                                first
                                | (exfalso; revert h1 h2; decide)
                                | rcases whatS_of hwd with ⟨rfl, rfl, rfl⟩ | ⟨rfl, rfl, rfl⟩ | ⟨rfl, rfl, rfl⟩ | ⟨rfl, rfl, rfl⟩
                              all_goals
                                first
                                | (exfalso; have := hti rfl; exact absurd (h1.symm.trans this) (by decide))
                                | (exfalso; have := hfi rfl; exact absurd (h2.symm.trans this) (by decide))
                                | (clear hti hfi hwd h1 h2; (try subst h3); clear HWA HR1 HR3)
                              all_goals
                                go_wp2_with (first | (go_at_call 11; ((with_reducible refine (forced11_R _ (some ⟨b, _, none⟩) _ _ _ _ _ _ _ D (B.drop 1) x _ _ _ _ _ (HD.out.exts (by repeat (first | exact Exts.refl _ | apply Exts.andR | apply Exts.alloc | apply Exts.wext | apply Exts.drew | apply Exts.drewN))) (HP.out.exts (by repeat (first | exact Exts.refl _ | apply Exts.andR | apply Exts.alloc | apply Exts.wext | apply Exts.drew | apply Exts.drewN))) (RowF.exts HA.out (by repeat (first | exact Exts.refl _ | apply Exts.andR | apply Exts.alloc | apply Exts.wext | apply Exts.drew | apply Exts.drewN))) hn3 HR4.out HM4.out).mono ?_); rintro e w' ⟨fo4, fc4, rfl, ⟨x6, rfl⟩, hf4⟩; clear hf4)))
                                go_ret
                                exact ⟨rfl, HX.out.trans (HX2.out.trans (HX3.out.trans (HX4.out.trans (by repeat (first | exact Exts.refl _ | apply Exts.andR | apply Exts.alloc | apply Exts.wext | apply Exts.drew | apply Exts.drewN)))))⟩
                            · have hce' : ¬ (c : Int) = 1 := by omega
                              have HP := Lib.hid (show Cases S1 _ (some ⟨b, off + 3, none⟩) (k - 1) (c - 1) (B.drop 1) from by
                                have h := HB.out.part 1 (k - 1) (c - 1) (by omega) (by omega) (by unfold maxLen; omega) (some ⟨b, off + 3, none⟩) (fun h => by cases h) (fun b' o' h hm => by cases h; rfl)
                                rw [List.take_of_length_le (by rw [List.length_drop, HL.out]; exact Nat.le_refl _)] at h
                                exact h)
                              rcases whatS_of HWA.out with ⟨h1, h2, h3⟩ | ⟨h1, h2, h3⟩ | ⟨h1, h2, h3⟩ | ⟨h1, h2, h3⟩
                              all_goals
                                first
                                | (exfalso; revert h1 h2; decide)
                                | rcases whatS_of hwd with ⟨rfl, rfl, rfl⟩ | ⟨rfl, rfl, rfl⟩ | ⟨rfl, rfl, rfl⟩ | ⟨rfl, rfl, rfl⟩
                              all_goals
                                first
                                | (exfalso; have := hti rfl; exact absurd (h1.symm.trans this) (by decide))
                                | (exfalso; have := hfi rfl; exact absurd (h2.symm.trans this) (by decide))
                                | (clear hti hfi hwd h1 h2; (try subst h3); clear HWA HR1 HR3)
                              all_goals
                                go_wp2_with (first | (go_at_call 11; ((with_reducible refine (forced11_R _ (some ⟨b, _, none⟩) _ _ _ _ _ _ _ D (B.drop 1) x _ _ _ _ _ (HD.out.exts (by repeat (first | exact Exts.refl _ | apply Exts.andR | apply Exts.alloc | apply Exts.wext | apply Exts.drew | apply Exts.drewN))) (HP.out.exts (by repeat (first | exact Exts.refl _ | apply Exts.andR | apply Exts.alloc | apply Exts.wext | apply Exts.drew | apply Exts.drewN))) (RowF.exts HA.out (by repeat (first | exact Exts.refl _ | apply Exts.andR | apply Exts.alloc | apply Exts.wext | apply Exts.drew | apply Exts.drewN))) hn3 HR4.out HM4.out).mono ?_); rintro e w' ⟨fo4, fc4, rfl, ⟨x6, rfl⟩, hf4⟩; clear hf4)))
                                go_ret
                                exact ⟨rfl, HX.out.trans (HX2.out.trans (HX3.out.trans (HX4.out.trans (by repeat (first | exact Exts.refl _ | apply Exts.andR | apply Exts.alloc | apply Exts.wext | apply Exts.drew | apply Exts.drewN)))))⟩
          · have q3 : (eb == 0) = false := by simpa using he2
            have q4 : (eb != 0) = true := by simpa using he2
            clear hR1 hR2 hm1 hm2 he2
            go_enter Try.func8, Try.ntmps8
            go_wp2_with (first | (go_at_call 9; ((with_reducible refine (small9 _).mono ?_); rintro e w' ⟨rfl, x0, rfl⟩)) | (go_at_call 10; ((with_reducible refine (refFew10 _ _ _ _ _ _ D B _ _ (HD.out.exts (by repeat (first | exact Exts.refl _ | apply Exts.andR | apply Exts.alloc | apply Exts.wext | apply Exts.drew | apply Exts.drewN))) (HB.out.exts (by repeat (first | exact Exts.refl _ | apply Exts.andR | apply Exts.alloc | apply Exts.wext | apply Exts.drew | apply Exts.drewN))) HFEW.out).mono ?_); rintro e w' ⟨rfl, x1, rfl⟩)) | (go_at_call 11; ((with_reducible refine (forced11_R _ _ ao _ _ _ _ _ _ D B x _ _ _ _ _ (HD.out.exts (by repeat (first | exact Exts.refl _ | apply Exts.andR | apply Exts.alloc | apply Exts.wext | apply Exts.drew | apply Exts.drewN))) (HB.out.exts (by repeat (first | exact Exts.refl _ | apply Exts.andR | apply Exts.alloc | apply Exts.wext | apply Exts.drew | apply Exts.drewN))) (RowF.exts HA.out (by repeat (first | exact Exts.refl _ | apply Exts.andR | apply Exts.alloc | apply Exts.wext | apply Exts.drew | apply Exts.drewN))) hn HR1.out HM1.out).mono ?_); rintro e w' ⟨fo1, fc1, rfl, ⟨x2, rfl⟩, hf⟩; (try simp only [wext_and] at hf); (have HF1 := Lib.hid hf); clear hf)) | (go_at_call 11; ((with_reducible refine (forced11_R _ _ yo _ _ _ _ _ _ D B y _ _ _ _ _ (HD.out.exts (by repeat (first | exact Exts.refl _ | apply Exts.andR | apply Exts.alloc | apply Exts.wext | apply Exts.drew | apply Exts.drewN))) (HB.out.exts (by repeat (first | exact Exts.refl _ | apply Exts.andR | apply Exts.alloc | apply Exts.wext | apply Exts.drew | apply Exts.drewN))) (RowF.exts HY.out (by repeat (first | exact Exts.refl _ | apply Exts.andR | apply Exts.alloc | apply Exts.wext | apply Exts.drew | apply Exts.drewN))) hn HR2.out HM2.out).mono ?_); rintro e w' ⟨fo2, fc2, rfl, ⟨x3, rfl⟩, hf⟩; clear hf)))
            go_ret
            exact ⟨rfl, (by repeat (first | exact Exts.refl _ | apply Exts.andR | apply Exts.alloc | apply Exts.wext | apply Exts.drew | apply Exts.drewN))⟩
        · have q3 : (ea == 0) = false := by simpa using he1
          have q4 : (ea != 0) = true := by simpa using he1
          clear hR1 hR2 hm1 hm2 he1
          go_enter Try.func8, Try.ntmps8
          go_wp2_with (first | (go_at_call 9; ((with_reducible refine (small9 _).mono ?_); rintro e w' ⟨rfl, x0, rfl⟩)) | (go_at_call 10; ((with_reducible refine (refFew10 _ _ _ _ _ _ D B _ _ (HD.out.exts (by repeat (first | exact Exts.refl _ | apply Exts.andR | apply Exts.alloc | apply Exts.wext | apply Exts.drew | apply Exts.drewN))) (HB.out.exts (by repeat (first | exact Exts.refl _ | apply Exts.andR | apply Exts.alloc | apply Exts.wext | apply Exts.drew | apply Exts.drewN))) HFEW.out).mono ?_); rintro e w' ⟨rfl, x1, rfl⟩)) | (go_at_call 11; ((with_reducible refine (forced11_R _ _ ao _ _ _ _ _ _ D B x _ _ _ _ _ (HD.out.exts (by repeat (first | exact Exts.refl _ | apply Exts.andR | apply Exts.alloc | apply Exts.wext | apply Exts.drew | apply Exts.drewN))) (HB.out.exts (by repeat (first | exact Exts.refl _ | apply Exts.andR | apply Exts.alloc | apply Exts.wext | apply Exts.drew | apply Exts.drewN))) (RowF.exts HA.out (by repeat (first | exact Exts.refl _ | apply Exts.andR | apply Exts.alloc | apply Exts.wext | apply Exts.drew | apply Exts.drewN))) hn HR1.out HM1.out).mono ?_); rintro e w' ⟨fo1, fc1, rfl, ⟨x2, rfl⟩, hf⟩; (try simp only [wext_and] at hf); (have HF1 := Lib.hid hf); clear hf)) | (go_at_call 11; ((with_reducible refine (forced11_R _ _ yo _ _ _ _ _ _ D B y _ _ _ _ _ (HD.out.exts (by repeat (first | exact Exts.refl _ | apply Exts.andR | apply Exts.alloc | apply Exts.wext | apply Exts.drew | apply Exts.drewN))) (HB.out.exts (by repeat (first | exact Exts.refl _ | apply Exts.andR | apply Exts.alloc | apply Exts.wext | apply Exts.drew | apply Exts.drewN))) (RowF.exts HY.out (by repeat (first | exact Exts.refl _ | apply Exts.andR | apply Exts.alloc | apply Exts.wext | apply Exts.drew | apply Exts.drewN))) hn HR2.out HM2.out).mono ?_); rintro e w' ⟨fo2, fc2, rfl, ⟨x3, rfl⟩, hf⟩; clear hf)))
          go_ret
          exact ⟨rfl, (by repeat (first | exact Exts.refl _ | apply Exts.andR | apply Exts.alloc | apply Exts.wext | apply Exts.drew | apply Exts.drewN))⟩
end Go.Proofs.Ytodgohilfbggjaa
