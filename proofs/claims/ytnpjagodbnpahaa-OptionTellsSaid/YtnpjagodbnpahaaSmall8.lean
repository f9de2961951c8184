/- small: it returns true. No condition. -/
import Derived.Test.YtnpjagodbnpahaaSmall
import Derived.Test.YtnpjagodbnpahaaHeld
namespace Go.Proofs.Ytnpjagodbnpahaa
open Go.RowKit
set_option linter.unusedSimpArgs false
set_option linter.unusedVariables false

section
variable {S : Nat → Prop} (ao : Option Addr) (cap : Nat) (w : World)
theorem useA (h : Phs S w (.slice ao 2 cap) twoP) : Calls Try.prog 12 #[rightV 1 0 3 (.slice ao 2 cap) 0 10 false, .int .i64 10] w fun e w' => ∃ ao' c' aa ca ab cb, e = .returned (.tuple #[rightV 1 0 3 (.slice ao' 2 c') 1 10 false, .agg #[.slice aa 0 ca, .slice ab 1 cb], .int .i64 0]) ∧ Exts w w' ∧ Phs (fun b => w.heap.size ≤ b) w' (.slice ao' 2 c') twoP ∧ Vols (fun b => w.heap.size ≤ b) w' (.slice aa 0 ca) [] ∧ Ents (fun b => w.heap.size ≤ b) w' (.slice ab 1 cb) [(⟨#[97]⟩, 1)] :=
  use12_ok 1 0 3 10 ao cap twoP 10 w h twoFits 0 _ rfl (by decide)
theorem useB (h : Phs S w (.slice ao 2 cap) twoP) : Calls Try.prog 12 #[rightV 1 0 3 (.slice ao 2 cap) 1 10 false, .int .i64 10] w fun e w' => ∃ ao' c' aa ca ab cb, e = .returned (.tuple #[rightV 1 0 3 (.slice ao' 2 c') 2 10 false, .agg #[.slice aa 0 ca, .slice ab 1 cb], .int .i64 0]) ∧ Exts w w' ∧ Phs (fun b => w.heap.size ≤ b) w' (.slice ao' 2 c') twoP ∧ Vols (fun b => w.heap.size ≤ b) w' (.slice aa 0 ca) [] ∧ Ents (fun b => w.heap.size ≤ b) w' (.slice ab 1 cb) [(⟨#[98]⟩, 2)] :=
  use12_ok 1 0 3 10 ao cap twoP 10 w h twoFits 1 _ rfl (by decide)
theorem useC : Calls Try.prog 12 #[rightV 1 0 3 (.slice ao 2 cap) 2 10 false, .int .i64 10] w fun e w' => e = .returned (.tuple #[right0, phase0, .int .i64 22]) ∧ Exts w w' :=
  use12_err 1 0 3 2 10 false ao cap 2 10 w (by decide) 22 (by decide) (by decide)
theorem useD : Calls Try.prog 12 #[rightV 1 0 3 (.slice ao 2 cap) 0 10 false, .int .i64 11] w fun e w' => e = .returned (.tuple #[right0, phase0, .int .i64 20]) ∧ Exts w w' :=
  use12_err 1 0 3 0 10 false ao cap 2 11 w (by decide) 20 (by decide) (by decide)
theorem lapseE (h : Phs S w (.slice ao 2 cap) twoP) : Calls Try.prog 16 #[rightV 1 0 3 (.slice ao 2 cap) 0 10 false, .int .i64 11] w fun e w' => ∃ ao' c', e = .returned (.tuple #[rightV 1 0 3 (.slice ao' 2 c') 0 10 true, .bool true]) ∧ Exts w w' ∧ Phs (fun b => w.heap.size ≤ b) w' (.slice ao' 2 c') twoP :=
  lapse16_yes 1 0 3 10 0 ao cap twoP 11 w h twoFits (by decide) (by decide)
theorem splitF (h : Phs S w (.slice ao 2 cap) twoP) : Calls Try.prog 17 #[rightV 1 0 3 (.slice ao 2 cap) 0 10 false, .int .i64 1, .int .i64 7] w fun e w' => ∃ a1 c1 a2 c2, e = .returned (.tuple #[rightV 1 0 3 (.slice a1 1 c1) 0 10 false, rightV 7 0 3 (.slice a2 1 c2) 0 10 false, .int .i64 0]) ∧ Exts w w' := by
  refine (split17_ok 1 0 3 10 0 1 ao cap twoP 7 w h twoFits (by decide) (by decide) (by decide) (by decide) (by decide)).mono ?_
  rintro e w' ⟨a1, c1, a2, c2, rfl, hx, _, _⟩
  exact ⟨a1, c1, a2, c2, rfl, hx⟩
theorem leftG (h : Phs S w (.slice ao 2 cap) twoP) : Calls Try.prog 11 #[rightV 1 0 3 (.slice ao 2 cap) 0 10 false] w fun e w' => ∃ ao' c', e = .returned (.slice ao' 2 c') ∧ Exts w w' ∧ Phs (fun b => w.heap.size ≤ b) w' (.slice ao' 2 c') twoP :=
  left11 1 0 3 0 10 false ao cap twoP w h twoFits
theorem leftH (h : Phs S w (.slice ao 2 cap) twoP) : Calls Try.prog 11 #[rightV 1 0 3 (.slice ao 2 cap) 1 10 false] w fun e w' => ∃ ao' c', e = .returned (.slice ao' 1 c') ∧ Exts w w' ∧ Phs (fun b => w.heap.size ≤ b) w' (.slice ao' 1 c') (twoP.drop 1) :=
  left11 1 0 3 1 10 false ao cap twoP w h twoFits
end
abbrev sm : List Int := [3, -5, 4]
theorem preI (ao : Option Addr) (cap : Nat) (w : World) {S : Nat → Prop} (h : Ints S w (.slice ao 3 cap) sm) : Calls Try.prog 18 #[.slice ao 3 cap] w fun e w' => ∃ ao' c', e = .returned (.slice ao' 4 c') ∧ Exts w w' ∧ Ints (fun b => w.heap.size ≤ b) w' (.slice ao' 4 c') [0, 3, -2, 2] := by
  have e := prefixes18 ao cap sm w h (by decide)
  rw [show prefs sm sm.length = [0, 3, -2, 2] from by decide +kernel] at e
  exact e
theorem peakJ (ao : Option Addr) (cap : Nat) (w : World) {S : Nat → Prop} (h : Ints S w (.slice ao 3 cap) sm) : Calls Try.prog 19 #[.slice ao 3 cap] w fun e w' => e = .returned (.int .i64 3) ∧ Exts w w' := by
  have e := peak19 ao cap sm w h (by decide)
  rw [show pmax sm sm.length = 3 from by decide +kernel] at e
  exact e

theorem sameA {S S' : Nat → Prop} (aa ab ba bb : Option Addr) (ca cb da db : Nat) (s : ByteArray) (n : Int) (w : World) (h1 : Vols S w (.slice aa 0 ca) []) (h2 : Ents S w (.slice ab 1 cb) [(s, n)]) (h3 : Vols S' w (.slice ba 0 da) []) (h4 : Ents S' w (.slice bb 1 db) [(s, n)]) :
    Calls Try.prog 13 #[.agg #[.slice aa 0 ca, .slice ab 1 cb], .agg #[.slice ba 0 da, .slice bb 1 db]] w fun e w' => e = .returned (.bool true) ∧ Exts w w' :=
  same13 aa ab ba bb ca cb da db ([], [(s, n)]) w h1 h2 h3 h4 (by simp) (by simp)
theorem livA (ao : Option Addr) (cap : Nat) (w : World) : Calls Try.prog 10 #[rightV 1 0 3 (.slice ao 2 cap) 0 10 false] w fun e w' => e = .returned (.bool true) ∧ Exts w w' := living10_eq _ _ _ _ _ _ _ _ _ true _ (by decide) rfl
theorem livB (ao : Option Addr) (cap : Nat) (w : World) : Calls Try.prog 10 #[rightV 1 0 3 (.slice ao 2 cap) 2 10 false] w fun e w' => e = .returned (.bool false) ∧ Exts w w' := living10_eq _ _ _ _ _ _ _ _ _ false _ (by decide) rfl

set_option maxRecDepth 100000
set_option maxHeartbeats 1000000 in
theorem small8 (w : World) : Calls Try.prog 8 #[] w fun e w' => e = .returned (.bool true) ∧ Exts w w' := by
  go_enter Try.func8, Try.ntmps8
  go_wp2_with fail
  refine (two29 _).mono ?_
  rintro e w' ⟨b1, c1, rfl, ⟨x1, rfl⟩, hp1⟩
  have H := Lib.hid hp1.any
  clear hp1
  trace "1"
  go_wp2_with fail
  refine (useA _ _ _ (H.out.exts (by repeat (first | exact Exts.refl _ | apply Exts.andR | apply Exts.alloc | apply Exts.wext | apply Exts.drew | apply Exts.drewN)))).mono ?_
  rintro e w' ⟨a2, c2, aa2, ca2, ab2, cb2, rfl, ⟨x2, rfl⟩, hp2, hv2, he2⟩
  have HA := Lib.hid hp2.any
  have HV2 := Lib.hid hv2
  have HE2 := Lib.hid he2
  clear hp2 hv2 he2
  trace "2"
  go_wp2_with fail
  refine (useB _ _ _ (HA.out.exts (by repeat (first | exact Exts.refl _ | apply Exts.andR | apply Exts.alloc | apply Exts.wext | apply Exts.drew | apply Exts.drewN)))).mono ?_
  rintro e w' ⟨a3, c3, aa3, ca3, ab3, cb3, rfl, ⟨x3, rfl⟩, hp3, hv3, he3⟩
  have HB := Lib.hid hp3.any
  have HV3 := Lib.hid hv3
  have HE3 := Lib.hid he3
  clear hp3 hv3 he3
  go_wp2_with fail
  refine (useC _ _ _).mono ?_
  rintro e w' ⟨rfl, x4, rfl⟩
  go_wp2_with fail
  refine (useD _ _ _).mono ?_
  rintro e w' ⟨rfl, x5, rfl⟩
  go_wp2_with fail
  refine (lapseE _ _ _ (H.out.exts (by repeat (first | exact Exts.refl _ | apply Exts.andR | apply Exts.alloc | apply Exts.wext | apply Exts.drew | apply Exts.drewN)))).mono ?_
  rintro e w' ⟨a6, c6, rfl, ⟨x6, rfl⟩, hp6⟩
  clear hp6
  go_wp2_with fail
  refine (splitF _ _ _ (H.out.exts (by repeat (first | exact Exts.refl _ | apply Exts.andR | apply Exts.alloc | apply Exts.wext | apply Exts.drew | apply Exts.drewN)))).mono ?_
  rintro e w' ⟨a7, c7, a8, c8, rfl, x7, rfl⟩
  go_wp2_with fail
  trace "4"
  refine (preI _ _ _ (rowF_lit (e := 3) (base := 0) (size := 1) _ #[.int .i64 3, .int .i64 (-5), .int .i64 4] 3 _ (by simp) (Nat.zero_le _) (by decide) rfl)).mono ?_
  rintro e w' ⟨a9, c9, rfl, ⟨x9, rfl⟩, hp9⟩
  have HI := Lib.hid hp9
  clear hp9
  go_wp2_with fail
  obtain ⟨b, off, pa, pca, qa, qca, hbo, hb1, _, f0, f1, v0, v1⟩ := H.out.get (i := 0) rfl
  cases hbo
  obtain ⟨b', off', pb, pcb, qb, qcb, hbo, hb2, _, f2, f3, v2, v3⟩ := H.out.get (i := 1) rfl
  cases hbo
  have V0 := Lib.hid v0
  have V1 := Lib.hid v1
  have V2 := Lib.hid v2
  have V3 := Lib.hid v3
  clear v0 v1 v2 v3
  simp only [Nat.zero_mul, Nat.zero_add, Nat.one_mul, Nat.reduceAdd, List.length_cons, List.length_nil] at f0 f1 f2 f3
  refine wp_name ?_
  intro W1 hW1
  have e1 : Exts (wext w x1) W1 := by rw [hW1]; exact (by repeat (first | exact Exts.refl _ | apply Exts.andR | apply Exts.alloc | apply Exts.wext | apply Exts.drew | apply Exts.drewN))
  have E1 := Lib.hid e1
  have E2 := Lib.hid (show Exts w W1 by rw [hW1]; exact (by repeat (first | exact Exts.refl _ | apply Exts.andR | apply Exts.alloc | apply Exts.wext | apply Exts.drew | apply Exts.drewN)))
  have g0 := all_at e1 f0
  have g1 := all_at e1 f1
  have g2 := all_at e1 f2
  have g3 := all_at e1 f3
  have r1 := box_all W1 #[.int .i64 1, .int .i64 0, .int .i64 3, .slice (some ⟨b1, 0, none⟩) 2 c1, .int .i64 0, .int .i64 10, .bool false] (by rw [hW1]; repeat (first | with_reducible exact Exts.refl _ | with_reducible apply Exts.alloc | with_reducible apply Exts.wext))
  have r2 := box_all W1 #[.int .i64 1, .int .i64 0, .int .i64 3, .slice a2 2 c2, .int .i64 1, .int .i64 10, .bool false] (by rw [hW1]; repeat (first | with_reducible exact Exts.refl _ | with_reducible apply Exts.alloc | with_reducible apply Exts.wext))
  have r3 := box_all W1 #[.slice aa2 0 ca2, .slice ab2 1 cb2] (by rw [hW1]; repeat (first | with_reducible exact Exts.refl _ | with_reducible apply Exts.alloc | with_reducible apply Exts.wext))
  have r5 := box_all W1 #[.int .i64 1, .int .i64 0, .int .i64 3, .slice a3 2 c3, .int .i64 2, .int .i64 10, .bool false] (by rw [hW1]; repeat (first | with_reducible exact Exts.refl _ | with_reducible apply Exts.alloc | with_reducible apply Exts.wext))
  have r6 := box_all W1 #[.slice aa3 0 ca3, .slice ab3 1 cb3] (by rw [hW1]; repeat (first | with_reducible exact Exts.refl _ | with_reducible apply Exts.alloc | with_reducible apply Exts.wext))
  have r14 := box_all W1 #[.int .i64 1, .int .i64 0, .int .i64 3, .slice a6 2 c6, .int .i64 0, .int .i64 10, .bool true] (by rw [hW1]; repeat (first | with_reducible exact Exts.refl _ | with_reducible apply Exts.alloc | with_reducible apply Exts.wext))
  have r16 := box_all W1 #[.int .i64 1, .int .i64 0, .int .i64 3, .slice a7 1 c7, .int .i64 0, .int .i64 10, .bool false] (by rw [hW1]; repeat (first | with_reducible exact Exts.refl _ | with_reducible apply Exts.alloc | with_reducible apply Exts.wext))
  have r17 := box_all W1 #[.int .i64 7, .int .i64 0, .int .i64 3, .slice a8 1 c8, .int .i64 0, .int .i64 10, .bool false] (by rw [hW1]; repeat (first | with_reducible exact Exts.refl _ | with_reducible apply Exts.alloc | with_reducible apply Exts.wext))
  obtain ⟨b9, off9, hbo, hb9, z1⟩ := HI.out.get (i := 1) rfl
  cases hbo
  obtain ⟨b9', off9', hbo, _, z2⟩ := HI.out.get (i := 2) rfl
  cases hbo
  obtain ⟨b9', off9', hbo, _, z3⟩ := HI.out.get (i := 3) rfl
  cases hbo
  have z1' := fun h => all_at (W := W1) h z1
  have z2' := fun h => all_at (W := W1) h z2
  have z3' := fun h => all_at (W := W1) h z3
  replace z1' := z1' (by rw [hW1]; exact (by repeat (first | exact Exts.refl _ | apply Exts.andR | apply Exts.alloc | apply Exts.wext | apply Exts.drew | apply Exts.drewN)))
  replace z2' := z2' (by rw [hW1]; exact (by repeat (first | exact Exts.refl _ | apply Exts.andR | apply Exts.alloc | apply Exts.wext | apply Exts.drew | apply Exts.drewN)))
  replace z3' := z3' (by rw [hW1]; exact (by repeat (first | exact Exts.refl _ | apply Exts.andR | apply Exts.alloc | apply Exts.wext | apply Exts.drew | apply Exts.drewN)))
  simp only [wext_size, World.size_alloc] at r16 r17
  simp only [wext_size, World.size_alloc] at r1 r2 r3 r5 r6 r14
  have KV2 := Lib.hid (Vols.exts HV2.out (w' := W1) (by rw [hW1]; exact (by repeat (first | exact Exts.refl _ | apply Exts.andR | apply Exts.alloc | apply Exts.wext | apply Exts.drew | apply Exts.drewN))))
  have KE2 := Lib.hid (Ents.exts HE2.out (w' := W1) (by rw [hW1]; exact (by repeat (first | exact Exts.refl _ | apply Exts.andR | apply Exts.alloc | apply Exts.wext | apply Exts.drew | apply Exts.drewN))))
  have KV3 := Lib.hid (Vols.exts HV3.out (w' := W1) (by rw [hW1]; exact (by repeat (first | exact Exts.refl _ | apply Exts.andR | apply Exts.alloc | apply Exts.wext | apply Exts.drew | apply Exts.drewN))))
  have KE3 := Lib.hid (Ents.exts HE3.out (w' := W1) (by rw [hW1]; exact (by repeat (first | exact Exts.refl _ | apply Exts.andR | apply Exts.alloc | apply Exts.wext | apply Exts.drew | apply Exts.drewN))))
  have KA := Lib.hid (Phs.exts HA.out (w' := W1) (by rw [hW1]; exact (by repeat (first | exact Exts.refl _ | apply Exts.andR | apply Exts.alloc | apply Exts.wext | apply Exts.drew | apply Exts.drewN))))
  have KV0 := Lib.hid (show Vols _ W1 (.slice pa 0 pca) [] from Vols.exts V0.out e1)
  have KV1 := Lib.hid (show Ents _ W1 (.slice qa 1 qca) [(⟨#[97]⟩, 1)] from Ents.exts V1.out e1)
  have KW2 := Lib.hid (show Vols _ W1 (.slice pb 0 pcb) [] from Vols.exts V2.out e1)
  have KW3 := Lib.hid (show Ents _ W1 (.slice qb 1 qcb) [(⟨#[98]⟩, 2)] from Ents.exts V3.out e1)
  have KH := Lib.hid (Phs.exts H.out e1)
  clear e1 f0 f1 f2 f3 hW1 z1 z2 z3 hb9
  go_region_held3 (fun w' => Exts W1 w') (first | assumption | exact (Exts.refl _).drew | exact ⟨_, rfl⟩) ((first | (go_at_call 13; (with_reducible refine (sameA _ _ _ _ _ _ _ _ _ _ _ (Vols.exts KV2.out (by assumption)) (Ents.exts KE2.out (by assumption)) (Vols.exts KV0.out (by assumption)) (Ents.exts KV1.out (by assumption))).mono ?_); rintro e w' ⟨rfl, y1, rfl⟩) | (go_at_call 13; (with_reducible refine (sameA _ _ _ _ _ _ _ _ _ _ _ (Vols.exts KV3.out (by assumption)) (Ents.exts KE3.out (by assumption)) (Vols.exts KW2.out (by assumption)) (Ents.exts KW3.out (by assumption))).mono ?_); rintro e w' ⟨rfl, y2, rfl⟩) | (go_at_call 11; (with_reducible refine (leftG _ _ _ (Phs.exts KH.out (by assumption))).mono ?_); rintro e w' ⟨ay, cy, rfl, ⟨y3, rfl⟩, hy⟩; clear hy) | (go_at_call 11; (with_reducible refine (leftH _ _ _ (Phs.exts KA.out (by assumption))).mono ?_); rintro e w' ⟨az, cz, rfl, ⟨y4, rfl⟩, hz⟩; clear hz) | (go_at_call 10; (with_reducible refine (livA _ _ _).mono ?_); rintro e w' ⟨rfl, y5, rfl⟩) | (go_at_call 10; (with_reducible refine (livB _ _ _).mono ?_); rintro e w' ⟨rfl, y6, rfl⟩)))
  trace "6"
  go_wp2_with (go_at_call 19; refine (peakJ _ _ _ (rowF_lit (e := 3) (base := 0) (size := 1) _ #[.int .i64 3, .int .i64 (-5), .int .i64 4] 3 _ (by simp) (Nat.zero_le _) (by decide) rfl)).mono ?_; rintro e w' ⟨rfl, y7, rfl⟩)
  go_outline
  go_ret
  exact ⟨rfl, E2.out.trans (by repeat (first | exact Exts.refl _ | apply Exts.andR | apply Exts.alloc | apply Exts.wext | apply Exts.drew | apply Exts.drewN))⟩
end Go.Proofs.Ytnpjagodbnpahaa
