/- PrecedentTells returns true. No condition. -/
import Derived.Test.YtodgohilfbggjaaM19
import Derived.Test.YtodgohilfbggjaaM20
namespace Go.Proofs.Ytodgohilfbggjaa
open Go.RowKit
set_option linter.unusedSimpArgs false
set_option linter.unusedVariables false
theorem refAdd16_R {S S1 S2 : Nat → Prop} (lo bo ao : Option Addr) (n1 c1 n c na ca : Nat) (D : List Dm) (B : List Cs) (al : List Int) (cid : Int) (cg : Bool) (e : Int) (L : List Cs) (m : Nat) (w : World) (hd : Dims S w lo n1 c1 D) (hb : Cases S1 w bo n c B) (ha : Ints S2 w ao na ca al) (hn : n ≤ 100) (hcid : I64 cid) (hR : addD D B ⟨cid, al, cg⟩ = (L, e)) (hm : L.length = m) :
    Calls Try.prog 16 #[.slice lo n1 c1, .slice bo n c, .agg #[.int .i64 cid, .slice ao na ca, .bool cg]] w fun e' w' => ∃ ro rc, e' = .returned (.tuple #[.slice ro m rc, .int .i64 e]) ∧ Exts w w' ∧ Cases (fun b => w.heap.size ≤ b) w' ro m rc L := by
  have := refAdd16 lo bo ao n1 c1 n c na ca D B cid al cg w hd hb ha hn hcid
  rw [hR] at this
  subst hm
  exact this
set_option maxRecDepth 100000
set_option maxHeartbeats 4000000
theorem tells3 {S S1 S2 : Nat → Prop} (lo bo ao : Option Addr) (n1 c1 n c na ca : Nat) (D : List Dm) (B : List Cs) (al : List Int) (id : Int) (gr : Bool) (at' : Int) (w : World) (hd : Dims S w lo n1 c1 D) (hb : Cases S1 w bo n c B) (ha : Ints S2 w ao na ca al) (hid : I64 id) :
    Calls Try.prog 3 #[.slice lo n1 c1, .slice bo n c, .slice ao na ca, .int .i64 id, .bool gr, .int .i64 at'] w fun e w' => e = .returned (.bool true) ∧ Exts w w' := by
  have hl := hb.1
  have HD := Lib.hid hd
  have HB := Lib.hid hb
  have HA := Lib.hid ha
  have HID := Lib.hid hid
  clear hd hb ha hid
  cases hfew : fewBD D B with
  | false =>
    have HFEW := Lib.hid hfew
    clear hfew
    go_enter Try.func3, Try.ntmps3
    go_wp2_with (first | (go_at_call 9; ((with_reducible refine (small9 _).mono ?_); rintro e w' ⟨rfl, x0, rfl⟩)) | (go_at_call 10; ((with_reducible refine (refFew10 _ _ _ _ _ _ D B _ _ (HD.out.exts (by repeat (first | exact Exts.refl _ | apply Exts.andR | apply Exts.alloc | apply Exts.wext | apply Exts.drew | apply Exts.drewN))) (HB.out.exts (by repeat (first | exact Exts.refl _ | apply Exts.andR | apply Exts.alloc | apply Exts.wext | apply Exts.drew | apply Exts.drewN))) HFEW.out).mono ?_); rintro e w' ⟨rfl, x1, rfl⟩)))
    go_ret
    exact ⟨rfl, (by repeat (first | exact Exts.refl _ | apply Exts.andR | apply Exts.alloc | apply Exts.wext | apply Exts.drew | apply Exts.drewN))⟩
  | true =>
    have HFEW := Lib.hid hfew
    have hn16 := (few_le hfew).2.1
    clear hfew
    by_cases h8 : 8 < na
    · have q1 : decide ((8 : Int) < (na : Int)) = true := by simp; omega
      clear h8
      go_enter Try.func3, Try.ntmps3
      go_wp2_with (first | (go_at_call 9; ((with_reducible refine (small9 _).mono ?_); rintro e w' ⟨rfl, x0, rfl⟩)) | (go_at_call 10; ((with_reducible refine (refFew10 _ _ _ _ _ _ D B _ _ (HD.out.exts (by repeat (first | exact Exts.refl _ | apply Exts.andR | apply Exts.alloc | apply Exts.wext | apply Exts.drew | apply Exts.drewN))) (HB.out.exts (by repeat (first | exact Exts.refl _ | apply Exts.andR | apply Exts.alloc | apply Exts.wext | apply Exts.drew | apply Exts.drewN))) HFEW.out).mono ?_); rintro e w' ⟨rfl, x1, rfl⟩)))
      go_ret
      exact ⟨rfl, (by repeat (first | exact Exts.refl _ | apply Exts.andR | apply Exts.alloc | apply Exts.wext | apply Exts.drew | apply Exts.drewN))⟩
    · have q1 : decide ((8 : Int) < (na : Int)) = false := by simp; omega
      have hn : n ≤ 2000 := by omega
      have hn1 : n ≤ 100 := by omega
      obtain ⟨⟨wh, by1, e1⟩, hR1⟩ : ∃ r, forD D B al = r := ⟨_, rfl⟩
      obtain ⟨m1, hm1⟩ : ∃ m, by1.length = m := ⟨_, rfl⟩
      obtain ⟨⟨cx, cy, is⟩, hR2⟩ : ∃ r, consD D B = r := ⟨_, rfl⟩
      obtain ⟨⟨L, e3⟩, hR3⟩ : ∃ r, addD D B ⟨id, al, gr⟩ = r := ⟨_, rfl⟩
      obtain ⟨m3, hm3⟩ : ∃ m, L.length = m := ⟨_, rfl⟩
      obtain ⟨⟨LL, e4⟩, hR4⟩ : ∃ r, distD D B al gr = r := ⟨_, rfl⟩
      obtain ⟨m4, hm4⟩ : ∃ m, LL.length = m := ⟨_, rfl⟩
      obtain ⟨⟨ol, e5⟩, hR5⟩ : ∃ r, ovrD D B at' = r := ⟨_, rfl⟩
      obtain ⟨m5, hm5⟩ : ∃ m, ol.length = m := ⟨_, rfl⟩
      obtain ⟨ck, hck⟩ : ∃ r, checkD D B = r := ⟨_, rfl⟩
      have HR1 := Lib.hid hR1
      have HR2 := Lib.hid hR2
      have HR3 := Lib.hid hR3
      have HR4 := Lib.hid hR4
      have HR5 := Lib.hid hR5
      have HM1 := Lib.hid hm1
      have HM3 := Lib.hid hm3
      have HM4 := Lib.hid hm4
      have HM5 := Lib.hid hm5
      have HCK := Lib.hid hck
      clear h8 hR1 hR2 hR3 hR4 hR5 hm1 hm3 hm4 hm5 hck hl
      go_enter Try.func3, Try.ntmps3
      go_wp2_with (first | (go_at_call 9; ((with_reducible refine (small9 _).mono ?_); rintro e w' ⟨rfl, x0, rfl⟩)) | (go_at_call 10; ((with_reducible refine (refFew10 _ _ _ _ _ _ D B _ _ (HD.out.exts (by repeat (first | exact Exts.refl _ | apply Exts.andR | apply Exts.alloc | apply Exts.wext | apply Exts.drew | apply Exts.drewN))) (HB.out.exts (by repeat (first | exact Exts.refl _ | apply Exts.andR | apply Exts.alloc | apply Exts.wext | apply Exts.drew | apply Exts.drewN))) HFEW.out).mono ?_); rintro e w' ⟨rfl, x1, rfl⟩)) | (go_at_call 11; ((with_reducible refine (forced11_R _ _ _ _ _ _ _ _ _ D B al _ _ _ _ _ (HD.out.exts (by repeat (first | exact Exts.refl _ | apply Exts.andR | apply Exts.alloc | apply Exts.wext | apply Exts.drew | apply Exts.drewN))) (HB.out.exts (by repeat (first | exact Exts.refl _ | apply Exts.andR | apply Exts.alloc | apply Exts.wext | apply Exts.drew | apply Exts.drewN))) (RowF.exts HA.out (by repeat (first | exact Exts.refl _ | apply Exts.andR | apply Exts.alloc | apply Exts.wext | apply Exts.drew | apply Exts.drewN))) hn HR1.out HM1.out).mono ?_); rintro e w' ⟨fo1, fc1, rfl, ⟨x2, rfl⟩, hf⟩; (try simp only [wext_and] at hf); (have HF1 := Lib.hid hf); clear hf)) | (go_at_call 12; ((with_reducible refine (forced12_R _ _ _ _ _ _ _ _ _ D B al _ _ _ _ _ (HD.out.exts (by repeat (first | exact Exts.refl _ | apply Exts.andR | apply Exts.alloc | apply Exts.wext | apply Exts.drew | apply Exts.drewN))) (HB.out.exts (by repeat (first | exact Exts.refl _ | apply Exts.andR | apply Exts.alloc | apply Exts.wext | apply Exts.drew | apply Exts.drewN))) (RowF.exts HA.out (by repeat (first | exact Exts.refl _ | apply Exts.andR | apply Exts.alloc | apply Exts.wext | apply Exts.drew | apply Exts.drewN))) hn HR1.out HM1.out).mono ?_); rintro e w' ⟨fo2, fc2, rfl, ⟨x3, rfl⟩, hf⟩; (try simp only [wext_and] at hf); (have HF2 := Lib.hid hf); clear hf)) | (go_at_call 13; ((with_reducible refine (cons13_R _ _ _ _ _ _ D B _ _ _ _ (HD.out.exts (by repeat (first | exact Exts.refl _ | apply Exts.andR | apply Exts.alloc | apply Exts.wext | apply Exts.drew | apply Exts.drewN))) (HB.out.exts (by repeat (first | exact Exts.refl _ | apply Exts.andR | apply Exts.alloc | apply Exts.wext | apply Exts.drew | apply Exts.drewN))) hn HR2.out).mono ?_); rintro e w' ⟨rfl, x4, rfl⟩)) | (go_at_call 14; ((with_reducible refine (cons14_R _ _ _ _ _ _ D B _ _ _ _ (HD.out.exts (by repeat (first | exact Exts.refl _ | apply Exts.andR | apply Exts.alloc | apply Exts.wext | apply Exts.drew | apply Exts.drewN))) (HB.out.exts (by repeat (first | exact Exts.refl _ | apply Exts.andR | apply Exts.alloc | apply Exts.wext | apply Exts.drew | apply Exts.drewN))) hn HR2.out).mono ?_); rintro e w' ⟨rfl, x5, rfl⟩)) | (go_at_call 15; ((with_reducible refine (add15_R _ _ _ _ _ _ _ _ _ D B al _ _ _ _ _ _ (HD.out.exts (by repeat (first | exact Exts.refl _ | apply Exts.andR | apply Exts.alloc | apply Exts.wext | apply Exts.drew | apply Exts.drewN))) (HB.out.exts (by repeat (first | exact Exts.refl _ | apply Exts.andR | apply Exts.alloc | apply Exts.wext | apply Exts.drew | apply Exts.drewN))) (RowF.exts HA.out (by repeat (first | exact Exts.refl _ | apply Exts.andR | apply Exts.alloc | apply Exts.wext | apply Exts.drew | apply Exts.drewN))) hn1 HID.out HR3.out HM3.out).mono ?_); rintro e w' ⟨fo3, fc3, rfl, ⟨x6, rfl⟩, hf⟩; (try simp only [wext_and] at hf); (have HF3 := Lib.hid hf); clear hf)) | (go_at_call 16; ((with_reducible refine (refAdd16_R _ _ _ _ _ _ _ _ _ D B al _ _ _ _ _ _ (HD.out.exts (by repeat (first | exact Exts.refl _ | apply Exts.andR | apply Exts.alloc | apply Exts.wext | apply Exts.drew | apply Exts.drewN))) (HB.out.exts (by repeat (first | exact Exts.refl _ | apply Exts.andR | apply Exts.alloc | apply Exts.wext | apply Exts.drew | apply Exts.drewN))) (RowF.exts HA.out (by repeat (first | exact Exts.refl _ | apply Exts.andR | apply Exts.alloc | apply Exts.wext | apply Exts.drew | apply Exts.drewN))) hn1 HID.out HR3.out HM3.out).mono ?_); rintro e w' ⟨fo4, fc4, rfl, ⟨x7, rfl⟩, hf⟩; (try simp only [wext_and] at hf); (have HF4 := Lib.hid hf); clear hf)) | (go_at_call 17; ((with_reducible refine (dist17_R _ _ _ _ _ _ _ _ _ D B al _ _ _ _ _ (HD.out.exts (by repeat (first | exact Exts.refl _ | apply Exts.andR | apply Exts.alloc | apply Exts.wext | apply Exts.drew | apply Exts.drewN))) (HB.out.exts (by repeat (first | exact Exts.refl _ | apply Exts.andR | apply Exts.alloc | apply Exts.wext | apply Exts.drew | apply Exts.drewN))) (RowF.exts HA.out (by repeat (first | exact Exts.refl _ | apply Exts.andR | apply Exts.alloc | apply Exts.wext | apply Exts.drew | apply Exts.drewN))) hn HR4.out HM4.out).mono ?_); rintro e w' ⟨fo5, fc5, rfl, ⟨x8, rfl⟩, hf⟩; (try simp only [wext_and] at hf); (have HF5 := Lib.hid hf); clear hf)) | (go_at_call 18; ((with_reducible refine (dist18_R _ _ _ _ _ _ _ _ _ D B al _ _ _ _ _ (HD.out.exts (by repeat (first | exact Exts.refl _ | apply Exts.andR | apply Exts.alloc | apply Exts.wext | apply Exts.drew | apply Exts.drewN))) (HB.out.exts (by repeat (first | exact Exts.refl _ | apply Exts.andR | apply Exts.alloc | apply Exts.wext | apply Exts.drew | apply Exts.drewN))) (RowF.exts HA.out (by repeat (first | exact Exts.refl _ | apply Exts.andR | apply Exts.alloc | apply Exts.wext | apply Exts.drew | apply Exts.drewN))) hn HR4.out HM4.out).mono ?_); rintro e w' ⟨fo6, fc6, rfl, ⟨x9, rfl⟩, hf⟩; (try simp only [wext_and] at hf); (have HF6 := Lib.hid hf); clear hf)) | (go_at_call 19; ((with_reducible refine (over19_R _ _ _ _ _ _ D B _ _ _ _ _ (HD.out.exts (by repeat (first | exact Exts.refl _ | apply Exts.andR | apply Exts.alloc | apply Exts.wext | apply Exts.drew | apply Exts.drewN))) (HB.out.exts (by repeat (first | exact Exts.refl _ | apply Exts.andR | apply Exts.alloc | apply Exts.wext | apply Exts.drew | apply Exts.drewN))) hn1 HR5.out HM5.out).mono ?_); rintro e w' ⟨fo7, fc7, rfl, ⟨x10, rfl⟩, hf⟩; (try simp only [wext_and] at hf); (have HF7 := Lib.hid hf); clear hf)) | (go_at_call 20; ((with_reducible refine (over20_R _ _ _ _ _ _ D B _ _ _ _ _ (HD.out.exts (by repeat (first | exact Exts.refl _ | apply Exts.andR | apply Exts.alloc | apply Exts.wext | apply Exts.drew | apply Exts.drewN))) (HB.out.exts (by repeat (first | exact Exts.refl _ | apply Exts.andR | apply Exts.alloc | apply Exts.wext | apply Exts.drew | apply Exts.drewN))) hn1 HR5.out HM5.out).mono ?_); rintro e w' ⟨fo8, fc8, rfl, ⟨x11, rfl⟩, hf⟩; (try simp only [wext_and] at hf); (have HF8 := Lib.hid hf); clear hf)) | (go_at_call 21; ((with_reducible refine (ints21_E fo1 fo2 _ fc1 fc2 by1 _ (RowF.exts HF1.out (by repeat (first | exact Exts.refl _ | apply Exts.andR | apply Exts.alloc | apply Exts.wext | apply Exts.drew | apply Exts.drewN))) (RowF.exts HF2.out (by repeat (first | exact Exts.refl _ | apply Exts.andR | apply Exts.alloc | apply Exts.wext | apply Exts.drew | apply Exts.drewN)))).mono ?_); rintro e w' ⟨rfl, x12, rfl⟩)) | (go_at_call 21; ((with_reducible refine (ints21_E fo7 fo8 _ fc7 fc8 ol _ (RowF.exts HF7.out (by repeat (first | exact Exts.refl _ | apply Exts.andR | apply Exts.alloc | apply Exts.wext | apply Exts.drew | apply Exts.drewN))) (RowF.exts HF8.out (by repeat (first | exact Exts.refl _ | apply Exts.andR | apply Exts.alloc | apply Exts.wext | apply Exts.drew | apply Exts.drewN)))).mono ?_); rintro e w' ⟨rfl, x13, rfl⟩)) | (go_at_call 22; ((with_reducible refine (same22 fo3 fo4 _ fc3 fc4 L _ (HF3.out.exts (by repeat (first | exact Exts.refl _ | apply Exts.andR | apply Exts.alloc | apply Exts.wext | apply Exts.drew | apply Exts.drewN))) (HF4.out.exts (by repeat (first | exact Exts.refl _ | apply Exts.andR | apply Exts.alloc | apply Exts.wext | apply Exts.drew | apply Exts.drewN)))).mono ?_); rintro e w' ⟨rfl, x14, rfl⟩)) | (go_at_call 23; ((with_reducible refine (sameLists23 fo5 fo6 _ fc5 fc6 LL _ (HF5.out.exts (by repeat (first | exact Exts.refl _ | apply Exts.andR | apply Exts.alloc | apply Exts.wext | apply Exts.drew | apply Exts.drewN))) (HF6.out.exts (by repeat (first | exact Exts.refl _ | apply Exts.andR | apply Exts.alloc | apply Exts.wext | apply Exts.drew | apply Exts.drewN)))).mono ?_); rintro e w' ⟨rfl, x15, rfl⟩)) | (go_at_call 24; ((with_reducible refine (right24 _ _ _ _ _ _ D B _ _ (HD.out.exts (by repeat (first | exact Exts.refl _ | apply Exts.andR | apply Exts.alloc | apply Exts.wext | apply Exts.drew | apply Exts.drewN))) (HB.out.exts (by repeat (first | exact Exts.refl _ | apply Exts.andR | apply Exts.alloc | apply Exts.wext | apply Exts.drew | apply Exts.drewN))) hn HCK.out).mono ?_); rintro e w' ⟨rfl, x16, rfl⟩)) | (go_at_call 25; ((with_reducible refine (refRight25 _ _ _ _ _ _ D B _ _ (HD.out.exts (by repeat (first | exact Exts.refl _ | apply Exts.andR | apply Exts.alloc | apply Exts.wext | apply Exts.drew | apply Exts.drewN))) (HB.out.exts (by repeat (first | exact Exts.refl _ | apply Exts.andR | apply Exts.alloc | apply Exts.wext | apply Exts.drew | apply Exts.drewN))) hn HCK.out).mono ?_); rintro e w' ⟨rfl, x17, rfl⟩)))
      go_ret
      exact ⟨rfl, (by repeat (first | exact Exts.refl _ | apply Exts.andR | apply Exts.alloc | apply Exts.wext | apply Exts.drew | apply Exts.drewN))⟩
end Go.Proofs.Ytodgohilfbggjaa
