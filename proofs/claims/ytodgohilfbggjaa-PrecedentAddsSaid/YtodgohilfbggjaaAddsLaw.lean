/- PrecedentAdds returns true. No condition. -/
import Derived.Test.YtodgohilfbggjaaM19
import Derived.Test.YtodgohilfbggjaaM21
namespace Go.Proofs.Ytodgohilfbggjaa
open Go.RowKit
set_option linter.unusedSimpArgs false
set_option linter.unusedVariables false
/-- What a decision is that is held against a base: the outcome that is forced is the other one. -/
theorem clash_side {D : List Dm} {L : List Cs} {al : List Int} {g : Bool} : (L.any fun d => d.grant != g && forcesD D al d) = sideB D L al (!g) := by
  unfold sideB
  congr 1
  funext d
  cases d.grant <;> cases g <;> rfl
theorem whatS_of' {t f : Bool} {w : Int} (h : whatS t f = w) : (t = true ∧ f = true ∧ w = 3) ∨ (t = true ∧ f = false ∧ w = 1) ∨ (t = false ∧ f = true ∧ w = 2) ∨ (t = false ∧ f = false ∧ w = 0) := by
  subst h
  cases t <;> cases f <;> decide
theorem conf_nil (D : List Dm) : ¬ conflicts D [] := by
  rintro ⟨c, hc, _⟩
  cases hc
theorem cons_snoc {D : List Dm} {L : List Cs} {c : Cs} (h : checkD D L = true) (hn : ¬ conflicts D L) (ha : inD D c.vals = true) (hi : (L.any fun d => d.id == c.id) = false) (hs : sideB D L c.vals (!c.grant) = false) : ¬ conflicts D (L ++ [c]) ∧ (consD D (L ++ [c])).2.2 = true := by
  have hc := (consD_is h).2 hn
  have hck : checkD D (L ++ [c]) = true := by rw [check_snoc, h, ha, hi]; rfl
  obtain ⟨h1, h2⟩ := cons_with (i := c.id) hc ha hi
  have h3 : (consD D (L ++ [c])).2.2 = true := by
    obtain ⟨id, vs, gr⟩ := c
    cases gr with
    | true => rw [h1]; simp only [Bool.not_true] at hs; rw [hs]; rfl
    | false => rw [h2]; simp only [Bool.not_false] at hs; rw [hs]; rfl
  exact ⟨(consD_is hck).1 h3, h3⟩
theorem Cases.mono {S S' : Nat → Prop} {w : World} {bo : Option Addr} {n c : Nat} {B : List Cs} (h : Cases S w bo n c B) (hS : ∀ b, S b → S' b) : Cases S' w bo n c B :=
  let ⟨h1, h2, xs, h3, h4⟩ := h; ⟨h1, h2, xs, h3.mono hS, h4⟩
theorem cons_ex {X : Int × Int × Bool} (h : X.2.2 = true) : ∃ a b, X = (a, b, true) := by
  obtain ⟨a, b, c⟩ := X
  simp only at h
  subst h
  exact ⟨a, b, rfl⟩
set_option maxRecDepth 100000
set_option maxHeartbeats 16000000
theorem adds5 {S S1 : Nat → Prop} (lo bo : Option Addr) (n1 c1 n c : Nat) (D : List Dm) (B : List Cs) (w : World) (hd : Dims S w lo n1 c1 D) (hb : Cases S1 w bo n c B) :
    Calls Try.prog 5 #[.slice lo n1 c1, .slice bo n c] w fun e w' => e = .returned (.bool true) ∧ Exts w w' := by
  have HL := Lib.hid hb.1
  have HD := Lib.hid hd
  have HB := Lib.hid hb
  have hcc := (RowF.caps hb.2.2.choose_spec.1)
  unfold maxLen at hcc
  obtain ⟨hcc1, hcc4⟩ := hcc
  clear hd hb
  cases hfew : fewBD D B with
  | false =>
    have HFEW := Lib.hid hfew
    clear hfew
    go_enter Try.func5, Try.ntmps5
    go_wp2_with (first | (go_at_call 9; ((with_reducible refine (small9 _).mono ?_); rintro e w' ⟨rfl, x0, rfl⟩)) | (go_at_call 10; ((with_reducible refine (refFew10 _ _ _ _ _ _ D B _ _ (HD.out.exts (by repeat (first | exact Exts.refl _ | apply Exts.andR | apply Exts.alloc | apply Exts.wext | apply Exts.drew | apply Exts.drewN))) (HB.out.exts (by repeat (first | exact Exts.refl _ | apply Exts.andR | apply Exts.alloc | apply Exts.wext | apply Exts.drew | apply Exts.drewN))) HFEW.out).mono ?_); rintro e w' ⟨rfl, x1, rfl⟩)))
    go_ret
    exact ⟨rfl, (by repeat (first | exact Exts.refl _ | apply Exts.andR | apply Exts.alloc | apply Exts.wext | apply Exts.drew | apply Exts.drewN))⟩
  | true =>
    have HFEW := Lib.hid hfew
    clear hfew
    by_cases h12 : 12 < n
    · have q1 : decide ((12 : Int) < (n : Int)) = true := by simp; omega
      clear h12
      go_enter Try.func5, Try.ntmps5
      go_wp2_with (first | (go_at_call 9; ((with_reducible refine (small9 _).mono ?_); rintro e w' ⟨rfl, x0, rfl⟩)) | (go_at_call 10; ((with_reducible refine (refFew10 _ _ _ _ _ _ D B _ _ (HD.out.exts (by repeat (first | exact Exts.refl _ | apply Exts.andR | apply Exts.alloc | apply Exts.wext | apply Exts.drew | apply Exts.drewN))) (HB.out.exts (by repeat (first | exact Exts.refl _ | apply Exts.andR | apply Exts.alloc | apply Exts.wext | apply Exts.drew | apply Exts.drewN))) HFEW.out).mono ?_); rintro e w' ⟨rfl, x1, rfl⟩)))
      go_ret
      exact ⟨rfl, (by repeat (first | exact Exts.refl _ | apply Exts.andR | apply Exts.alloc | apply Exts.wext | apply Exts.drew | apply Exts.drewN))⟩
    · have q1 : decide ((12 : Int) < (n : Int)) = false := by simp; omega
      go_enter Try.func5, Try.ntmps5
      go_wp2_with (first | (go_at_call 9; ((with_reducible refine (small9 _).mono ?_); rintro e w' ⟨rfl, x0, rfl⟩)) | (go_at_call 10; ((with_reducible refine (refFew10 _ _ _ _ _ _ D B _ _ (HD.out.exts (by repeat (first | exact Exts.refl _ | apply Exts.andR | apply Exts.alloc | apply Exts.wext | apply Exts.drew | apply Exts.drewN))) (HB.out.exts (by repeat (first | exact Exts.refl _ | apply Exts.andR | apply Exts.alloc | apply Exts.wext | apply Exts.drew | apply Exts.drewN))) HFEW.out).mono ?_); rintro e w' ⟨rfl, x1, rfl⟩)))
      refine wp_name ?_
      intro W hW
      have hX : Exts w W := by rw [hW]; exact (by repeat (first | exact Exts.refl _ | apply Exts.andR | apply Exts.alloc | apply Exts.wext | apply Exts.drew | apply Exts.drewN))
      have HX := Lib.hid hX
      have HDW := Lib.hid (HD.out.exts hX)
      have HBW := Lib.hid (HB.out.exts hX)
      clear hW hX HB HD
      go_loopw [6, 7] (fun o j wr => ∃ (k m : Nat) (po : Option Addr) (pc : Nat) (L : List Cs), k ≤ n ∧ m ≤ k ∧ j = .int .i64 k ∧ o = .slice po m pc ∧ Exts W wr ∧ Cases (fun _ => True) wr po m pc L ∧ ¬ conflicts D L) (fun _ j _ => n - (intOf j).toNat)
      case atStart => exact ⟨0, 0, none, 0, [], by omega, by omega, rfl, rfl, Exts.refl _, ⟨rfl, (fun _ hx => by cases hx), [], RowF.nil _ _ _, (fun _ _ hd => by cases hd)⟩, conf_nil D⟩
      case round =>
        obtain ⟨k, m, po, pc, L, hk, hm, rfl, rfl, hx, hcl, hnc⟩ := hrel
        have HX2 := Lib.hid hx
        have HCL := Lib.hid hcl
        have HNC := Lib.hid hnc
        clear hcl hnc
        by_cases hlt : k < n
        · obtain ⟨b, off, id, vs, gr, vo, vc, rfl, lb, hc, e0, e1, e2, hvs, hid⟩ := (HBW.out.exts hx).get hlt
          have HVS := Lib.hid hvs
          have HID := Lib.hid hid
          have HC := Lib.hid hc
          have KD := Lib.hid (HDW.out.exts hx)
          have hmm : m ≤ 2000 := by omega
          have hm1 : m ≤ 100 := by omega
          clear hx hc hvs hid
          cases hok : (checkD D L && inD D vs) with
          | false =>
            have HR1 := Lib.hid (show forD D L vs = (0, [], 1) by unfold forD; rw [hok]; rfl)
            have HM1 := Lib.hid (show ([] : List Int).length = 0 from rfl)
            have HR3 := Lib.hid (show addD D L ⟨id, vs, gr⟩ = ([], 1) by unfold addD; rw [hok]; rfl)
            have HM3 := Lib.hid (show ([] : List Cs).length = 0 from rfl)
            clear hok
            go_wp2_with (first | (go_at_call 11; ((with_reducible refine (forced11_R _ _ _ _ _ _ _ _ _ D L vs _ _ _ _ _ (KD.out.exts (by repeat (first | exact Exts.refl _ | apply Exts.andR | apply Exts.alloc | apply Exts.wext | apply Exts.drew | apply Exts.drewN))) (HCL.out.exts (by repeat (first | exact Exts.refl _ | apply Exts.andR | apply Exts.alloc | apply Exts.wext | apply Exts.drew | apply Exts.drewN))) (RowF.exts HVS.out (by repeat (first | exact Exts.refl _ | apply Exts.andR | apply Exts.alloc | apply Exts.wext | apply Exts.drew | apply Exts.drewN))) hmm HR1.out HM1.out).mono ?_); rintro e w' ⟨fo1, fc1, rfl, ⟨x2, rfl⟩, hf⟩; clear hf)) | (go_at_call 15; ((with_reducible refine (add15_R _ _ _ _ _ _ _ _ _ D L vs _ _ _ _ _ _ (KD.out.exts (by repeat (first | exact Exts.refl _ | apply Exts.andR | apply Exts.alloc | apply Exts.wext | apply Exts.drew | apply Exts.drewN))) (HCL.out.exts (by repeat (first | exact Exts.refl _ | apply Exts.andR | apply Exts.alloc | apply Exts.wext | apply Exts.drew | apply Exts.drewN))) (RowF.exts HVS.out (by repeat (first | exact Exts.refl _ | apply Exts.andR | apply Exts.alloc | apply Exts.wext | apply Exts.drew | apply Exts.drewN))) hm1 HID.out HR3.out HM3.out).mono ?_); rintro e w' ⟨fo3, fc3, rfl, ⟨x6, rfl⟩, hf⟩; (try simp only [wext_and] at hf); (have HF := Lib.hid hf); clear hf)))
            refine ⟨⟨k + 1, m, po, pc, L, by omega, by omega, by go_num, rfl, HX2.out.trans (by repeat (first | exact Exts.refl _ | apply Exts.andR | apply Exts.alloc | apply Exts.wext | apply Exts.drew | apply Exts.drewN)), HCL.out.exts (by repeat (first | exact Exts.refl _ | apply Exts.andR | apply Exts.alloc | apply Exts.wext | apply Exts.drew | apply Exts.drewN)), HNC.out⟩, ?_⟩
            simp [intOf]; omega
          | true =>
            rw [Bool.and_eq_true] at hok
            obtain ⟨hck, hin⟩ := hok
            obtain ⟨wh, hwh⟩ : ∃ x, whatD D L vs = x := ⟨_, rfl⟩
            obtain ⟨by1, hby⟩ : ∃ x, byK D L vs L.length = x := ⟨_, rfl⟩
            obtain ⟨m1, hm1'⟩ : ∃ x, by1.length = x := ⟨_, rfl⟩
            have HR1 := Lib.hid (show forD D L vs = (wh, by1, 0) by rw [forD_ok hck hin, hwh, hby])
            have HM1 := Lib.hid hm1'
            rw [whatD_S] at hwh
            have hno := fun h1 h2 => HNC.out (side_conf hck hin h1 h2)
            have HAD := Lib.hid (show addD D L ⟨id, vs, gr⟩ = if (L.any fun d => d.id == id) = true then ([], 5) else if sideB D L vs (!gr) = true then ([], 25) else (L ++ [⟨id, vs, gr⟩], 0) by unfold addD; rw [hck, hin, clash_side]; rfl)
            obtain ⟨t, ht⟩ : ∃ s, sideB D L vs true = s := ⟨_, rfl⟩
            obtain ⟨f, hf⟩ : ∃ s, sideB D L vs false = s := ⟨_, rfl⟩
            obtain ⟨an, han⟩ : ∃ s, (L.any fun d => d.id == id) = s := ⟨_, rfl⟩
            have HSN := Lib.hid (show an = false → sideB D L vs (!gr) = false → ¬ conflicts D (L ++ [⟨id, vs, gr⟩]) ∧ (consD D (L ++ [⟨id, vs, gr⟩])).2.2 = true from fun h1 h2 => cons_snoc hck HNC.out hin (han.trans h1) h2)
            have HAN := Lib.hid han
            rw [ht, hf] at hwh
            rw [ht, hf] at hno
            have HT := Lib.hid ht
            have HFF := Lib.hid hf
            clear hck hin hby hm1' ht hf han
            obtain ⟨⟨L2, ef⟩, hR3⟩ : ∃ r, addD D L ⟨id, vs, gr⟩ = r := ⟨_, rfl⟩
            obtain ⟨m3, hM3⟩ : ∃ x, L2.length = x := ⟨_, rfl⟩
            have HR3 := Lib.hid hR3
            have HM3 := Lib.hid hM3
            clear hR3 hM3
            go_wp2_with (first | (go_at_call 11; ((with_reducible refine (forced11_R _ _ _ _ _ _ _ _ _ D L vs _ _ _ _ _ (KD.out.exts (by repeat (first | exact Exts.refl _ | apply Exts.andR | apply Exts.alloc | apply Exts.wext | apply Exts.drew | apply Exts.drewN))) (HCL.out.exts (by repeat (first | exact Exts.refl _ | apply Exts.andR | apply Exts.alloc | apply Exts.wext | apply Exts.drew | apply Exts.drewN))) (RowF.exts HVS.out (by repeat (first | exact Exts.refl _ | apply Exts.andR | apply Exts.alloc | apply Exts.wext | apply Exts.drew | apply Exts.drewN))) hmm HR1.out HM1.out).mono ?_); rintro e w' ⟨fo1, fc1, rfl, ⟨x2, rfl⟩, hf⟩; clear hf)) | (go_at_call 15; ((with_reducible refine (add15_R _ _ _ _ _ _ _ _ _ D L vs _ _ _ _ _ _ (KD.out.exts (by repeat (first | exact Exts.refl _ | apply Exts.andR | apply Exts.alloc | apply Exts.wext | apply Exts.drew | apply Exts.drewN))) (HCL.out.exts (by repeat (first | exact Exts.refl _ | apply Exts.andR | apply Exts.alloc | apply Exts.wext | apply Exts.drew | apply Exts.drewN))) (RowF.exts HVS.out (by repeat (first | exact Exts.refl _ | apply Exts.andR | apply Exts.alloc | apply Exts.wext | apply Exts.drew | apply Exts.drewN))) hm1 HID.out HR3.out HM3.out).mono ?_); rintro e w' ⟨fo3, fc3, rfl, ⟨x6, rfl⟩, hf⟩; (try simp only [wext_and] at hf); (have HF := Lib.hid hf); clear hf)))
            refine wp_name ?_
            intro V hV
            have hX3 : Exts wr V := by rw [hV]; exact (by repeat (first | exact Exts.refl _ | apply Exts.andR | apply Exts.alloc | apply Exts.wext | apply Exts.drew | apply Exts.drewN))
            have HX3 := Lib.hid hX3
            have KD2 := Lib.hid (KD.out.exts hX3)
            have HCL2 := Lib.hid (HCL.out.exts hX3)
            have HBV := Lib.hid (HBW.out.exts (HX2.out.trans hX3))
            have HF2 := Lib.hid (show Cases (fun _ => True) V fo3 _ fc3 _ from by rw [hV]; exact (Cases.mono HF.out fun _ _ => trivial).exts (by repeat (first | exact Exts.refl _ | apply Exts.andR | apply Exts.alloc | apply Exts.wext | apply Exts.drew | apply Exts.drewN)))
            have lbV : b < V.heap.size := by have := hX3.below.size; omega
            have e0V := Exts.cell hX3 e0
            have e2V := Exts.cell hX3 e2
            clear hV hX3 HF KD HCL e0 e1 e2 lb
            go_loopw [13, 14] (fun o j wr' => ∃ (q : Nat), q ≤ m ∧ j = .int .i64 q ∧ o = .bool ((L.take q).any fun d => d.id == id) ∧ Exts V wr') (fun _ j _ => m - (intOf j).toNat)
            case atStart => exact ⟨0, by omega, rfl, rfl, Exts.refl _⟩
            case round =>
              obtain ⟨q, hq, rfl, rfl, hx⟩ := hrel
              have HX4 := Lib.hid hx
              have e0 := Exts.cell hx e0V
              have e2 := Exts.cell hx e2V
              have lb : b < wr.heap.size := by have := hx.below.size; omega
              by_cases hlt2 : q < m
              · obtain ⟨b4, o4, id4, vs4, gr4, vo4, vc4, rfl, lb4, hc4, f0, f1, f2, _, _⟩ := (HCL2.out.exts hx).get hlt2
                obtain ⟨r, hr⟩ : ∃ r, (id4 == id) = r := ⟨_, rfl⟩
                have HN := Lib.hid (show ((L.take (q + 1)).any fun d => d.id == id) = (((L.take q).any fun d => d.id == id) || r) by rw [List.take_add_one, hc4, List.any_append]; simp [hr])
                obtain ⟨kn, hkn⟩ : ∃ r, ((L.take q).any fun d => d.id == id) = r := ⟨_, rfl⟩
                have HKN := Lib.hid hkn
                rw [hkn]
                clear hx hc4 hkn
                cases kn with
                | true =>
                  go_wp2
                  first | refine wp_region_ext_lit2 (by kernel_rfl) (by kernel_rfl) ?_ | refine wp_region_ext_lit (by kernel_rfl) (by kernel_rfl) ?_
                  repeat (go_big_quiet_step (fail))
                  refine wpQuiet_nil ?_
                  intro _ hwq'
                  obtain ⟨xq, hwq''⟩ := hwq'
                  subst hwq''
                  go_wp2
                  refine ⟨⟨q + 1, by omega, by go_num, by rw [HN.out, HKN.out]; rfl, HX4.out.trans (by repeat (first | exact Exts.refl _ | apply Exts.andR | apply Exts.alloc | apply Exts.wext | apply Exts.drew | apply Exts.drewN))⟩, ?_⟩
                  simp [intOf]; omega
                | false =>
                  go_wp2
                  first | refine wp_region_ext_lit2 (by kernel_rfl) (by kernel_rfl) ?_ | refine wp_region_ext_lit (by kernel_rfl) (by kernel_rfl) ?_
                  repeat (go_big_quiet_step (fail))
                  refine wpQuiet_nil ?_
                  intro _ hwq'
                  obtain ⟨xq, hwq''⟩ := hwq'
                  subst hwq''
                  go_wp2
                  refine ⟨⟨q + 1, by omega, by go_num, by rw [HN.out, HKN.out]; rfl, HX4.out.trans (by repeat (first | exact Exts.refl _ | apply Exts.andR | apply Exts.alloc | apply Exts.wext | apply Exts.drew | apply Exts.drewN))⟩, ?_⟩
                  simp [intOf]; omega
              · obtain rfl : q = m := by omega
                have hta : ((L.take q).any fun d => d.id == id) = an := by rw [List.take_of_length_le (Nat.le_of_eq HCL2.out.1)]; exact HAN.out
                rw [hta]
                have h := HAD.out.symm.trans HR3.out
                rw [HAN.out] at h
                have hll := HCL2.out.1
                clear hx hta hlt2
                cases an with
                | true =>
                  simp only [if_true, Prod.mk.injEq] at h
                  obtain ⟨rfl, rfl⟩ := h
                  obtain rfl : m3 = 0 := HM3.out.symm
                  rcases whatS_of' hwh with ⟨rfl, rfl, rfl⟩ | ⟨rfl, rfl, rfl⟩ | ⟨rfl, rfl, rfl⟩ | ⟨rfl, rfl, rfl⟩
                  · exact absurd rfl (hno rfl)
                  all_goals
                    cases gr
                  all_goals
                    clear hno hwh
                    go_wp2
                    refine ⟨⟨k + 1, q, po, pc, L, by omega, by omega, by go_num, rfl, HX2.out.trans (HX3.out.trans (HX4.out.trans (by repeat (first | exact Exts.refl _ | apply Exts.andR | apply Exts.alloc | apply Exts.wext | apply Exts.drew | apply Exts.drewN)))), HCL2.out.exts (HX4.out.trans (by repeat (first | exact Exts.refl _ | apply Exts.andR | apply Exts.alloc | apply Exts.wext | apply Exts.drew | apply Exts.drewN))), HNC.out⟩, ?_⟩
                    simp [intOf]; omega
                | false =>
                  simp only [Bool.false_eq_true, if_false] at h
                  rcases whatS_of' hwh with ⟨rfl, rfl, rfl⟩ | ⟨rfl, rfl, rfl⟩ | ⟨rfl, rfl, rfl⟩ | ⟨rfl, rfl, rfl⟩
                  · exact absurd rfl (hno rfl)
                  all_goals
                    cases gr
                  all_goals
                    simp only [Bool.not_true, Bool.not_false, HT.out, HFF.out, if_true, Bool.false_eq_true, if_false, Prod.mk.injEq] at h
                    obtain ⟨rfl, rfl⟩ := h
                    clear hno hwh
                  case inr.inl.true =>
                    obtain ⟨hcf, hok⟩ := HSN.out rfl (by first | exact HT.out | exact HFF.out)
                    have HCF := Lib.hid hcf
                    obtain ⟨cx, cy, hR2⟩ := cons_ex hok
                    have HR2 := Lib.hid hR2
                    clear hok hR2
                    obtain rfl : m3 = q + 1 := by rw [← HM3.out, List.length_append, hll]; rfl
                    obtain ⟨b3, o3, _, _, _, _, _, rfl, lb3, _⟩ := HF2.out.get (show 0 < q + 1 by omega)
                    obtain ⟨hf1, hf2⟩ := RowF.caps HF2.out.2.2.choose_spec.1
                    unfold maxLen at hf2
                    have hm3 : q + 1 ≤ 2000 := by omega
                    have HT1 := Lib.hid (show Cases (fun _ => True) V (some ⟨b3, o3, none⟩) q fc3 L from by
                      have h := HF2.out.take (show q ≤ q + 1 by omega)
                      rw [List.take_left' hll] at h
                      exact h)
                    have HT2 := Lib.hid (show Cases (fun _ => True) V (some ⟨b3, o3 + q * 3, none⟩) 1 (fc3 - q) _ from by
                      have h := HF2.out.part q 1 (fc3 - q) (by omega) (by omega) (by unfold maxLen; omega) (some ⟨b3, o3 + q * 3, none⟩) (fun h => by cases h) (fun b' o' h hm => by cases h; rfl)
                      rw [List.drop_left' hll, List.take_of_length_le (Nat.le_refl 1)] at h
                      exact h)
                    have HT3 := Lib.hid (show Cases S1 V (some ⟨b, off + k * 3, none⟩) 1 (c - k) _ from by
                      have h := HBV.out.part k 1 (c - k) (by omega) (by omega) (by unfold maxLen; omega) (some ⟨b, off + k * 3, none⟩) (fun h => by cases h) (fun b' o' h hm => by cases h; rfl)
                      rw [List.drop_eq_getElem_cons (by rw [HL.out]; exact hlt), List.take_succ_cons, List.take_zero, (List.getElem?_eq_some_iff.1 HC.out).2] at h
                      exact h)
                    have p1 : (0 : Int) ≤ (q : Int) := by omega
                    have p2 : (q : Int) ≤ (fc3 : Int) := by omega
                    have p3 : ¬ (fc3 : Int) = (q : Int) := by omega
                    have p4 : ¬ (c : Int) = (k : Int) := by omega
                    have p5 : (q : Int) ≤ (q : Int) + 1 := by omega
                    have p6 : (k : Int) + 1 ≤ (c : Int) := by omega
                    have p7 : (k : Int) ≤ (k : Int) + 1 := by omega
                    have w1 : IntKind.i64.wrap ((q : Int) + 1) = (q : Int) + 1 := by rw [IntKind.wrap_i64] <;> omega
                    have w2 : IntKind.i64.wrap ((k : Int) + 1) = (k : Int) + 1 := by rw [IntKind.wrap_i64] <;> omega
                    go_wp2_with (first | (go_at_call 13; ((with_reducible refine (cons13_R _ _ _ _ _ _ D _ _ _ _ _ (KD2.out.exts (HX4.out.trans (by repeat (first | exact Exts.refl _ | apply Exts.andR | apply Exts.alloc | apply Exts.wext | apply Exts.drew | apply Exts.drewN)))) (HF2.out.exts (HX4.out.trans (by repeat (first | exact Exts.refl _ | apply Exts.andR | apply Exts.alloc | apply Exts.wext | apply Exts.drew | apply Exts.drewN)))) hm3 HR2.out).mono ?_); rintro e w' ⟨rfl, x7, rfl⟩)))
                    first | refine wp_region_ext_lit2 (by kernel_rfl) (by kernel_rfl) ?_ | refine wp_region_ext_lit (by kernel_rfl) (by kernel_rfl) ?_
                    repeat (go_big_quiet_step (((first | (go_at_call 22; with_reducible exact Calls.ext_of (same22 (some ⟨b3, o3, none⟩) _ _ _ _ L _ (HT1.out.exts (HX4.out.trans (by repeat (first | exact Exts.refl _ | apply Exts.andR | apply Exts.alloc | apply Exts.wext | apply Exts.drew | apply Exts.drewN)))) (HCL2.out.exts (HX4.out.trans (by repeat (first | exact Exts.refl _ | apply Exts.andR | apply Exts.alloc | apply Exts.wext | apply Exts.drew | apply Exts.drewN)))))) | (go_at_call 22; with_reducible exact Calls.ext_of (same22 (some ⟨b3, o3 + _, none⟩) _ _ _ _ _ _ (HT2.out.exts (HX4.out.trans (by repeat (first | exact Exts.refl _ | apply Exts.andR | apply Exts.alloc | apply Exts.wext | apply Exts.drew | apply Exts.drewN)))) (HT3.out.exts (HX4.out.trans (by repeat (first | exact Exts.refl _ | apply Exts.andR | apply Exts.alloc | apply Exts.wext | apply Exts.drew | apply Exts.drewN))))))))))
                    refine wpQuiet_nil ?_
                    intro _ hwq'
                    obtain ⟨xq, hwq''⟩ := hwq'
                    subst hwq''
                    go_wp2
                    refine ⟨⟨k + 1, q + 1, some ⟨b3, o3, none⟩, fc3, _, by omega, by omega, by go_num, rfl, HX2.out.trans (HX3.out.trans (HX4.out.trans (by repeat (first | exact Exts.refl _ | apply Exts.andR | apply Exts.alloc | apply Exts.wext | apply Exts.drew | apply Exts.drewN)))), HF2.out.exts (HX4.out.trans (by repeat (first | exact Exts.refl _ | apply Exts.andR | apply Exts.alloc | apply Exts.wext | apply Exts.drew | apply Exts.drewN))), HCF.out⟩, ?_⟩
                    simp [intOf]; omega
                  case inr.inl.false =>
                    obtain rfl : m3 = 0 := HM3.out.symm
                    go_wp2
                    refine ⟨⟨k + 1, q, po, pc, L, by omega, by omega, by go_num, rfl, HX2.out.trans (HX3.out.trans (HX4.out.trans (by repeat (first | exact Exts.refl _ | apply Exts.andR | apply Exts.alloc | apply Exts.wext | apply Exts.drew | apply Exts.drewN)))), HCL2.out.exts (HX4.out.trans (by repeat (first | exact Exts.refl _ | apply Exts.andR | apply Exts.alloc | apply Exts.wext | apply Exts.drew | apply Exts.drewN))), HNC.out⟩, ?_⟩
                    simp [intOf]; omega
                  case inr.inr.inl.true =>
                    obtain rfl : m3 = 0 := HM3.out.symm
                    go_wp2
                    refine ⟨⟨k + 1, q, po, pc, L, by omega, by omega, by go_num, rfl, HX2.out.trans (HX3.out.trans (HX4.out.trans (by repeat (first | exact Exts.refl _ | apply Exts.andR | apply Exts.alloc | apply Exts.wext | apply Exts.drew | apply Exts.drewN)))), HCL2.out.exts (HX4.out.trans (by repeat (first | exact Exts.refl _ | apply Exts.andR | apply Exts.alloc | apply Exts.wext | apply Exts.drew | apply Exts.drewN))), HNC.out⟩, ?_⟩
                    simp [intOf]; omega
                  case inr.inr.inl.false =>
                    obtain ⟨hcf, hok⟩ := HSN.out rfl (by first | exact HT.out | exact HFF.out)
                    have HCF := Lib.hid hcf
                    obtain ⟨cx, cy, hR2⟩ := cons_ex hok
                    have HR2 := Lib.hid hR2
                    clear hok hR2
                    obtain rfl : m3 = q + 1 := by rw [← HM3.out, List.length_append, hll]; rfl
                    obtain ⟨b3, o3, _, _, _, _, _, rfl, lb3, _⟩ := HF2.out.get (show 0 < q + 1 by omega)
                    obtain ⟨hf1, hf2⟩ := RowF.caps HF2.out.2.2.choose_spec.1
                    unfold maxLen at hf2
                    have hm3 : q + 1 ≤ 2000 := by omega
                    have HT1 := Lib.hid (show Cases (fun _ => True) V (some ⟨b3, o3, none⟩) q fc3 L from by
                      have h := HF2.out.take (show q ≤ q + 1 by omega)
                      rw [List.take_left' hll] at h
                      exact h)
                    have HT2 := Lib.hid (show Cases (fun _ => True) V (some ⟨b3, o3 + q * 3, none⟩) 1 (fc3 - q) _ from by
                      have h := HF2.out.part q 1 (fc3 - q) (by omega) (by omega) (by unfold maxLen; omega) (some ⟨b3, o3 + q * 3, none⟩) (fun h => by cases h) (fun b' o' h hm => by cases h; rfl)
                      rw [List.drop_left' hll, List.take_of_length_le (Nat.le_refl 1)] at h
                      exact h)
                    have HT3 := Lib.hid (show Cases S1 V (some ⟨b, off + k * 3, none⟩) 1 (c - k) _ from by
                      have h := HBV.out.part k 1 (c - k) (by omega) (by omega) (by unfold maxLen; omega) (some ⟨b, off + k * 3, none⟩) (fun h => by cases h) (fun b' o' h hm => by cases h; rfl)
                      rw [List.drop_eq_getElem_cons (by rw [HL.out]; exact hlt), List.take_succ_cons, List.take_zero, (List.getElem?_eq_some_iff.1 HC.out).2] at h
                      exact h)
                    have p1 : (0 : Int) ≤ (q : Int) := by omega
                    have p2 : (q : Int) ≤ (fc3 : Int) := by omega
                    have p3 : ¬ (fc3 : Int) = (q : Int) := by omega
                    have p4 : ¬ (c : Int) = (k : Int) := by omega
                    have p5 : (q : Int) ≤ (q : Int) + 1 := by omega
                    have p6 : (k : Int) + 1 ≤ (c : Int) := by omega
                    have p7 : (k : Int) ≤ (k : Int) + 1 := by omega
                    have w1 : IntKind.i64.wrap ((q : Int) + 1) = (q : Int) + 1 := by rw [IntKind.wrap_i64] <;> omega
                    have w2 : IntKind.i64.wrap ((k : Int) + 1) = (k : Int) + 1 := by rw [IntKind.wrap_i64] <;> omega
                    go_wp2_with (first | (go_at_call 13; ((with_reducible refine (cons13_R _ _ _ _ _ _ D _ _ _ _ _ (KD2.out.exts (HX4.out.trans (by repeat (first | exact Exts.refl _ | apply Exts.andR | apply Exts.alloc | apply Exts.wext | apply Exts.drew | apply Exts.drewN)))) (HF2.out.exts (HX4.out.trans (by repeat (first | exact Exts.refl _ | apply Exts.andR | apply Exts.alloc | apply Exts.wext | apply Exts.drew | apply Exts.drewN)))) hm3 HR2.out).mono ?_); rintro e w' ⟨rfl, x7, rfl⟩)))
                    first | refine wp_region_ext_lit2 (by kernel_rfl) (by kernel_rfl) ?_ | refine wp_region_ext_lit (by kernel_rfl) (by kernel_rfl) ?_
                    repeat (go_big_quiet_step (((first | (go_at_call 22; with_reducible exact Calls.ext_of (same22 (some ⟨b3, o3, none⟩) _ _ _ _ L _ (HT1.out.exts (HX4.out.trans (by repeat (first | exact Exts.refl _ | apply Exts.andR | apply Exts.alloc | apply Exts.wext | apply Exts.drew | apply Exts.drewN)))) (HCL2.out.exts (HX4.out.trans (by repeat (first | exact Exts.refl _ | apply Exts.andR | apply Exts.alloc | apply Exts.wext | apply Exts.drew | apply Exts.drewN)))))) | (go_at_call 22; with_reducible exact Calls.ext_of (same22 (some ⟨b3, o3 + _, none⟩) _ _ _ _ _ _ (HT2.out.exts (HX4.out.trans (by repeat (first | exact Exts.refl _ | apply Exts.andR | apply Exts.alloc | apply Exts.wext | apply Exts.drew | apply Exts.drewN)))) (HT3.out.exts (HX4.out.trans (by repeat (first | exact Exts.refl _ | apply Exts.andR | apply Exts.alloc | apply Exts.wext | apply Exts.drew | apply Exts.drewN))))))))))
                    refine wpQuiet_nil ?_
                    intro _ hwq'
                    obtain ⟨xq, hwq''⟩ := hwq'
                    subst hwq''
                    go_wp2
                    refine ⟨⟨k + 1, q + 1, some ⟨b3, o3, none⟩, fc3, _, by omega, by omega, by go_num, rfl, HX2.out.trans (HX3.out.trans (HX4.out.trans (by repeat (first | exact Exts.refl _ | apply Exts.andR | apply Exts.alloc | apply Exts.wext | apply Exts.drew | apply Exts.drewN)))), HF2.out.exts (HX4.out.trans (by repeat (first | exact Exts.refl _ | apply Exts.andR | apply Exts.alloc | apply Exts.wext | apply Exts.drew | apply Exts.drewN))), HCF.out⟩, ?_⟩
                    simp [intOf]; omega
                  case inr.inr.inr.true =>
                    obtain ⟨hcf, hok⟩ := HSN.out rfl (by first | exact HT.out | exact HFF.out)
                    have HCF := Lib.hid hcf
                    obtain ⟨cx, cy, hR2⟩ := cons_ex hok
                    have HR2 := Lib.hid hR2
                    clear hok hR2
                    obtain rfl : m3 = q + 1 := by rw [← HM3.out, List.length_append, hll]; rfl
                    obtain ⟨b3, o3, _, _, _, _, _, rfl, lb3, _⟩ := HF2.out.get (show 0 < q + 1 by omega)
                    obtain ⟨hf1, hf2⟩ := RowF.caps HF2.out.2.2.choose_spec.1
                    unfold maxLen at hf2
                    have hm3 : q + 1 ≤ 2000 := by omega
                    have HT1 := Lib.hid (show Cases (fun _ => True) V (some ⟨b3, o3, none⟩) q fc3 L from by
                      have h := HF2.out.take (show q ≤ q + 1 by omega)
                      rw [List.take_left' hll] at h
                      exact h)
                    have HT2 := Lib.hid (show Cases (fun _ => True) V (some ⟨b3, o3 + q * 3, none⟩) 1 (fc3 - q) _ from by
                      have h := HF2.out.part q 1 (fc3 - q) (by omega) (by omega) (by unfold maxLen; omega) (some ⟨b3, o3 + q * 3, none⟩) (fun h => by cases h) (fun b' o' h hm => by cases h; rfl)
                      rw [List.drop_left' hll, List.take_of_length_le (Nat.le_refl 1)] at h
                      exact h)
                    have HT3 := Lib.hid (show Cases S1 V (some ⟨b, off + k * 3, none⟩) 1 (c - k) _ from by
                      have h := HBV.out.part k 1 (c - k) (by omega) (by omega) (by unfold maxLen; omega) (some ⟨b, off + k * 3, none⟩) (fun h => by cases h) (fun b' o' h hm => by cases h; rfl)
                      rw [List.drop_eq_getElem_cons (by rw [HL.out]; exact hlt), List.take_succ_cons, List.take_zero, (List.getElem?_eq_some_iff.1 HC.out).2] at h
                      exact h)
                    have p1 : (0 : Int) ≤ (q : Int) := by omega
                    have p2 : (q : Int) ≤ (fc3 : Int) := by omega
                    have p3 : ¬ (fc3 : Int) = (q : Int) := by omega
                    have p4 : ¬ (c : Int) = (k : Int) := by omega
                    have p5 : (q : Int) ≤ (q : Int) + 1 := by omega
                    have p6 : (k : Int) + 1 ≤ (c : Int) := by omega
                    have p7 : (k : Int) ≤ (k : Int) + 1 := by omega
                    have w1 : IntKind.i64.wrap ((q : Int) + 1) = (q : Int) + 1 := by rw [IntKind.wrap_i64] <;> omega
                    have w2 : IntKind.i64.wrap ((k : Int) + 1) = (k : Int) + 1 := by rw [IntKind.wrap_i64] <;> omega
                    go_wp2_with (first | (go_at_call 13; ((with_reducible refine (cons13_R _ _ _ _ _ _ D _ _ _ _ _ (KD2.out.exts (HX4.out.trans (by repeat (first | exact Exts.refl _ | apply Exts.andR | apply Exts.alloc | apply Exts.wext | apply Exts.drew | apply Exts.drewN)))) (HF2.out.exts (HX4.out.trans (by repeat (first | exact Exts.refl _ | apply Exts.andR | apply Exts.alloc | apply Exts.wext | apply Exts.drew | apply Exts.drewN)))) hm3 HR2.out).mono ?_); rintro e w' ⟨rfl, x7, rfl⟩)))
                    first | refine wp_region_ext_lit2 (by kernel_rfl) (by kernel_rfl) ?_ | refine wp_region_ext_lit (by kernel_rfl) (by kernel_rfl) ?_
                    repeat (go_big_quiet_step (((first | (go_at_call 22; with_reducible exact Calls.ext_of (same22 (some ⟨b3, o3, none⟩) _ _ _ _ L _ (HT1.out.exts (HX4.out.trans (by repeat (first | exact Exts.refl _ | apply Exts.andR | apply Exts.alloc | apply Exts.wext | apply Exts.drew | apply Exts.drewN)))) (HCL2.out.exts (HX4.out.trans (by repeat (first | exact Exts.refl _ | apply Exts.andR | apply Exts.alloc | apply Exts.wext | apply Exts.drew | apply Exts.drewN)))))) | (go_at_call 22; with_reducible exact Calls.ext_of (same22 (some ⟨b3, o3 + _, none⟩) _ _ _ _ _ _ (HT2.out.exts (HX4.out.trans (by repeat (first | exact Exts.refl _ | apply Exts.andR | apply Exts.alloc | apply Exts.wext | apply Exts.drew | apply Exts.drewN)))) (HT3.out.exts (HX4.out.trans (by repeat (first | exact Exts.refl _ | apply Exts.andR | apply Exts.alloc | apply Exts.wext | apply Exts.drew | apply Exts.drewN))))))))))
                    refine wpQuiet_nil ?_
                    intro _ hwq'
                    obtain ⟨xq, hwq''⟩ := hwq'
                    subst hwq''
                    go_wp2
                    refine ⟨⟨k + 1, q + 1, some ⟨b3, o3, none⟩, fc3, _, by omega, by omega, by go_num, rfl, HX2.out.trans (HX3.out.trans (HX4.out.trans (by repeat (first | exact Exts.refl _ | apply Exts.andR | apply Exts.alloc | apply Exts.wext | apply Exts.drew | apply Exts.drewN)))), HF2.out.exts (HX4.out.trans (by repeat (first | exact Exts.refl _ | apply Exts.andR | apply Exts.alloc | apply Exts.wext | apply Exts.drew | apply Exts.drewN))), HCF.out⟩, ?_⟩
                    simp [intOf]; omega
                  case inr.inr.inr.false =>
                    obtain ⟨hcf, hok⟩ := HSN.out rfl (by first | exact HT.out | exact HFF.out)
                    have HCF := Lib.hid hcf
                    obtain ⟨cx, cy, hR2⟩ := cons_ex hok
                    have HR2 := Lib.hid hR2
                    clear hok hR2
                    obtain rfl : m3 = q + 1 := by rw [← HM3.out, List.length_append, hll]; rfl
                    obtain ⟨b3, o3, _, _, _, _, _, rfl, lb3, _⟩ := HF2.out.get (show 0 < q + 1 by omega)
                    obtain ⟨hf1, hf2⟩ := RowF.caps HF2.out.2.2.choose_spec.1
                    unfold maxLen at hf2
                    have hm3 : q + 1 ≤ 2000 := by omega
                    have HT1 := Lib.hid (show Cases (fun _ => True) V (some ⟨b3, o3, none⟩) q fc3 L from by
                      have h := HF2.out.take (show q ≤ q + 1 by omega)
                      rw [List.take_left' hll] at h
                      exact h)
                    have HT2 := Lib.hid (show Cases (fun _ => True) V (some ⟨b3, o3 + q * 3, none⟩) 1 (fc3 - q) _ from by
                      have h := HF2.out.part q 1 (fc3 - q) (by omega) (by omega) (by unfold maxLen; omega) (some ⟨b3, o3 + q * 3, none⟩) (fun h => by cases h) (fun b' o' h hm => by cases h; rfl)
                      rw [List.drop_left' hll, List.take_of_length_le (Nat.le_refl 1)] at h
                      exact h)
                    have HT3 := Lib.hid (show Cases S1 V (some ⟨b, off + k * 3, none⟩) 1 (c - k) _ from by
                      have h := HBV.out.part k 1 (c - k) (by omega) (by omega) (by unfold maxLen; omega) (some ⟨b, off + k * 3, none⟩) (fun h => by cases h) (fun b' o' h hm => by cases h; rfl)
                      rw [List.drop_eq_getElem_cons (by rw [HL.out]; exact hlt), List.take_succ_cons, List.take_zero, (List.getElem?_eq_some_iff.1 HC.out).2] at h
                      exact h)
                    have p1 : (0 : Int) ≤ (q : Int) := by omega
                    have p2 : (q : Int) ≤ (fc3 : Int) := by omega
                    have p3 : ¬ (fc3 : Int) = (q : Int) := by omega
                    have p4 : ¬ (c : Int) = (k : Int) := by omega
                    have p5 : (q : Int) ≤ (q : Int) + 1 := by omega
                    have p6 : (k : Int) + 1 ≤ (c : Int) := by omega
                    have p7 : (k : Int) ≤ (k : Int) + 1 := by omega
                    have w1 : IntKind.i64.wrap ((q : Int) + 1) = (q : Int) + 1 := by rw [IntKind.wrap_i64] <;> omega
                    have w2 : IntKind.i64.wrap ((k : Int) + 1) = (k : Int) + 1 := by rw [IntKind.wrap_i64] <;> omega
                    go_wp2_with (first | (go_at_call 13; ((with_reducible refine (cons13_R _ _ _ _ _ _ D _ _ _ _ _ (KD2.out.exts (HX4.out.trans (by repeat (first | exact Exts.refl _ | apply Exts.andR | apply Exts.alloc | apply Exts.wext | apply Exts.drew | apply Exts.drewN)))) (HF2.out.exts (HX4.out.trans (by repeat (first | exact Exts.refl _ | apply Exts.andR | apply Exts.alloc | apply Exts.wext | apply Exts.drew | apply Exts.drewN)))) hm3 HR2.out).mono ?_); rintro e w' ⟨rfl, x7, rfl⟩)))
                    first | refine wp_region_ext_lit2 (by kernel_rfl) (by kernel_rfl) ?_ | refine wp_region_ext_lit (by kernel_rfl) (by kernel_rfl) ?_
                    repeat (go_big_quiet_step (((first | (go_at_call 22; with_reducible exact Calls.ext_of (same22 (some ⟨b3, o3, none⟩) _ _ _ _ L _ (HT1.out.exts (HX4.out.trans (by repeat (first | exact Exts.refl _ | apply Exts.andR | apply Exts.alloc | apply Exts.wext | apply Exts.drew | apply Exts.drewN)))) (HCL2.out.exts (HX4.out.trans (by repeat (first | exact Exts.refl _ | apply Exts.andR | apply Exts.alloc | apply Exts.wext | apply Exts.drew | apply Exts.drewN)))))) | (go_at_call 22; with_reducible exact Calls.ext_of (same22 (some ⟨b3, o3 + _, none⟩) _ _ _ _ _ _ (HT2.out.exts (HX4.out.trans (by repeat (first | exact Exts.refl _ | apply Exts.andR | apply Exts.alloc | apply Exts.wext | apply Exts.drew | apply Exts.drewN)))) (HT3.out.exts (HX4.out.trans (by repeat (first | exact Exts.refl _ | apply Exts.andR | apply Exts.alloc | apply Exts.wext | apply Exts.drew | apply Exts.drewN))))))))))
                    refine wpQuiet_nil ?_
                    intro _ hwq'
                    obtain ⟨xq, hwq''⟩ := hwq'
                    subst hwq''
                    go_wp2
                    refine ⟨⟨k + 1, q + 1, some ⟨b3, o3, none⟩, fc3, _, by omega, by omega, by go_num, rfl, HX2.out.trans (HX3.out.trans (HX4.out.trans (by repeat (first | exact Exts.refl _ | apply Exts.andR | apply Exts.alloc | apply Exts.wext | apply Exts.drew | apply Exts.drewN)))), HF2.out.exts (HX4.out.trans (by repeat (first | exact Exts.refl _ | apply Exts.andR | apply Exts.alloc | apply Exts.wext | apply Exts.drew | apply Exts.drewN))), HCF.out⟩, ?_⟩
                    simp [intOf]; omega
        · obtain rfl : k = n := by omega
          go_wp2
          go_ret
          exact ⟨rfl, HX.out.trans (HX2.out.trans (by repeat (first | exact Exts.refl _ | apply Exts.andR | apply Exts.alloc | apply Exts.wext | apply Exts.drew | apply Exts.drewN)))⟩
end Go.Proofs.Ytodgohilfbggjaa
