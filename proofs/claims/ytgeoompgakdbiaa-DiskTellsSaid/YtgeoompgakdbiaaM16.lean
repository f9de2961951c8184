/- Lemmas that the laws of this seat share, 3 texts in one: RefSync, RefTell, With. No condition of their own. -/
import Derived.Test.YtgeoompgakdbiaaM15
/- The reference: Sync, Truncate. -/
namespace Go.Proofs.Ytgeoompgakdbiaa
open Go.RowKit Go.Maps
set_option linter.unusedSimpArgs false
set_option linter.unusedVariables false
set_option maxRecDepth 100000
theorem RefAt.losing {w : World} {b c : Nat} {M : Mod} {O S : Nat → Prop} {l : Int} (h : RefAt w b M O S c) (hl : M.lost = l) : w.cell? ⟨b, 2, none⟩ = some (.int .i64 l) ∧ w.frozen? ⟨b, 2, none⟩ = false ∧ b < w.heap.size := by
  obtain ⟨fv, qv, kv, L, hb, lb, cc, ff, _⟩ := h.cells
  have c2 := cc 2
  simp only [boxR, List.getElem?_toArray, List.getElem?_cons_zero, List.getElem?_cons_succ] at c2
  rw [hl] at c2
  exact ⟨c2, ff 2, lb⟩
theorem RefAt.lostD {w : World} {b c : Nat} {M : Mod} {O S : Nat → Prop} (h : RefAt w b M O S c) (v : Int) (h0 : 0 ≤ v) (h1 : v ≤ 9223372036854775807) : AfterR w b { M with lost := v } O S c (w.setCell ⟨b, 2, none⟩ (.int .i64 v)) :=
  AfterR.same (h.box rfl rfl rfl ⟨⟨h0, h1⟩, h.good.armed, h.good.count, h.good.secs, h.good.sizes, h.good.keep, h.good.small⟩ (fun fv qv kv hb => by rw [heap_setCell_at _ _ _ _ hb]; rfl) (Touch.setCell _ _ _ rfl)) (Touch.setCell _ _ _ h.own)
set_option maxHeartbeats 2000000
theorem refSync32 {w : World} {b c : Nat} {M : Mod} {O S : Nat → Prop} (hd : RefAt w b M O S c) (f : Int) (hc : c + 12 ≤ 1000000) : Calls Try.prog 32 #[.pointer (some ⟨b, 0, none⟩), .int .i64 f] w fun e w' => e = .returned (.int .i64 (SyncD M f).2) ∧ AfterR w b (SyncD M f).1 O S (c + 12) w' := by
  have hW := sync_is M f
  have HD := Lib.hid hd
  have hc6 : c + 6 ≤ 1000000 := by omega
  obtain ⟨M1, hM1⟩ : ∃ M1, comesD M = M1 := ⟨_, rfl⟩
  have h50 := comes50_nil hd hc6 hM1
  rw [hM1] at hW
  obtain ⟨m, hm⟩ : ∃ m, mayD M1 f = m := ⟨_, rfl⟩
  have HM := Lib.hid hm
  have hg1 : Good M1 c := hM1 ▸ comes_good hd.good
  obtain ⟨⟨s, s2⟩, hsx⟩ : ∃ x, M1.files f = x := ⟨_, rfl⟩
  have hfit := hg1.sizes f
  rw [hsx] at hfit
  simp only [] at hfit
  have HSX := Lib.hid hsx
  have hlost := hg1.lost
  clear hd hM1 hg1
  unfold syncR at hW
  rw [hm, hsx] at hW
  obtain ⟨lo, hlo⟩ : ∃ l, M1.lost = l := ⟨_, rfl⟩
  rw [hlo] at hW hlost
  have HLO := Lib.hid hlo
  by_cases h0 : m = 0
  · subst h0
    obtain ⟨hf0, hf15, _⟩ := mayD_arg hm
    rw [if_pos rfl] at hW
    by_cases h1 : 0 < lo
    · have q1 : decide (0 < lo) = true := by simpa using h1
      rw [if_pos h1] at hW
      have HR := Lib.hid hW
      have hw : IntKind.i64.wrap (lo - 1) = lo - 1 := by rw [IntKind.wrap_i64] <;> omega
      clear hW hm hsx hlo
      go_enter Try.func32, Try.ntmps32
      go_wp2_with (first | (go_at_call 50; ((with_reducible refine h50.mono ?_); rintro e w1 ⟨rfl, ⟨O1, S1, hd1, ho1, hs1, ht1⟩⟩; (obtain ⟨l2, f2, lb1⟩ := hd1.losing HLO.out))) | (go_at_call 46; ((with_reducible refine (refMay46_D hd1 f _ HM.out).mono ?_); rintro e w2 ⟨rfl, rfl⟩)))
      go_ret
      exact ⟨by rw [HR.out]; rfl, by rw [HR.out]; exact AfterR.next ho1 hs1 ht1 ((hd1.lostD (lo - 1) (by omega) (by omega)).more (by omega) hc)⟩
    · have q1 : decide (0 < lo) = false := by simpa using h1
      rw [if_neg h1] at hW
      have HR := Lib.hid hW
      clear hW hm hsx hlo h1
      go_enter Try.func32, Try.ntmps32
      go_wp2_with (first | (go_at_call 50; ((with_reducible refine h50.mono ?_); rintro e w1 ⟨rfl, ⟨O1, S1, hd1, ho1, hs1, ht1⟩⟩; (obtain ⟨l2, f2, lb1⟩ := hd1.losing HLO.out))) | (go_at_call 46; ((with_reducible refine (refMay46_D hd1 f _ HM.out).mono ?_); rintro e w2 ⟨rfl, rfl⟩)) | (go_at_call 39; ((with_reducible refine Calls.mono (get39_ext hd1 (Exts.refl _) HSX.out) ?_); rintro e w3 ⟨rfl, hx3⟩)) | (go_at_call 51; ((with_reducible refine (settle51 (hd1.exts hx3) f s hf0 hf15 hfit.1).mono ?_); rintro e w4 ⟨rfl, hA4⟩)))
      go_ret
      exact ⟨by rw [HR.out]; rfl, by rw [HR.out]; exact AfterR.next ho1 hs1 ht1 ((AfterR.ahead (Touch.of_exts hx3) hA4).more (by omega) hc)⟩
  · have q1 : (m == 0) = false := by simpa using h0
    have q1' : (m != 0) = true := by simpa using h0
    rw [if_neg h0] at hW
    have HR := Lib.hid hW
    clear hW hm h0 hsx hlo
    go_enter Try.func32, Try.ntmps32
    go_wp2_with (first | (go_at_call 50; ((with_reducible refine h50.mono ?_); rintro e w1 ⟨rfl, ⟨O1, S1, hd1, ho1, hs1, ht1⟩⟩; (obtain ⟨l2, f2, lb1⟩ := hd1.losing HLO.out))) | (go_at_call 46; ((with_reducible refine (refMay46_D hd1 f _ HM.out).mono ?_); rintro e w2 ⟨rfl, rfl⟩)))
    go_ret
    exact ⟨by rw [HR.out]; rfl, by rw [HR.out]; exact AfterR.next ho1 hs1 ht1 ((AfterR.same hd1 (Touch.refl _ _)).more (by omega) hc)⟩
theorem refTrunc33 {w : World} {b c : Nat} {M : Mod} {O S : Nat → Prop} (hd : RefAt w b M O S c) (f size : Int) (hz : I64 size) (hc : c + 12 ≤ 1000000) : Calls Try.prog 33 #[.pointer (some ⟨b, 0, none⟩), .int .i64 f, .int .i64 size] w fun e w' => e = .returned (.int .i64 (TruncD M f size).2) ∧ AfterR w b (TruncD M f size).1 O S (c + 12) w' := by
  have hW := trunc_is M f size
  have HD := Lib.hid hd
  have hc6 : c + 6 ≤ 1000000 := by omega
  obtain ⟨M1, hM1⟩ : ∃ M1, comesD M = M1 := ⟨_, rfl⟩
  have h50 := comes50_nil hd hc6 hM1
  rw [hM1] at hW
  obtain ⟨m, hm⟩ : ∃ m, mayD M1 f = m := ⟨_, rfl⟩
  have HM := Lib.hid hm
  have hg1 : Good M1 c := hM1 ▸ comes_good hd.good
  obtain ⟨⟨s, s2⟩, hsx⟩ : ∃ x, M1.files f = x := ⟨_, rfl⟩
  have hfit := hg1.sizes f
  rw [hsx] at hfit
  simp only [] at hfit
  have HSX := Lib.hid hsx
  have hlost := hg1.lost
  clear hd hM1 hg1
  unfold truncR at hW
  rw [hm, hsx] at hW
  obtain ⟨lo, hlo⟩ : ∃ l, M1.lost = l := ⟨_, rfl⟩
  have HLO := Lib.hid hlo
  clear hlo
  by_cases h0 : m = 0
  · subst h0
    obtain ⟨hf0, hf15, _⟩ := mayD_arg hm
    rw [if_pos rfl] at hW
    by_cases h1 : size < 0
    · have q1 : decide (size < 0) = true := by simpa using h1
      rw [if_pos (Or.inl h1)] at hW
      have HR := Lib.hid hW
      clear hW hm hsx h1
      go_enter Try.func33, Try.ntmps33
      go_wp2_with (first | (go_at_call 50; ((with_reducible refine h50.mono ?_); rintro e w1 ⟨rfl, ⟨O1, S1, hd1, ho1, hs1, ht1⟩⟩; (obtain ⟨l2, f2, lb1⟩ := hd1.losing HLO.out))) | (go_at_call 46; ((with_reducible refine (refMay46_D hd1 f _ HM.out).mono ?_); rintro e w2 ⟨rfl, rfl⟩)) | (go_at_call 39; ((with_reducible refine Calls.mono (get39_ext hd1 (Exts.refl _) HSX.out) ?_); rintro e w3 ⟨rfl, hx3⟩)))
      go_ret
      exact ⟨by rw [HR.out]; rfl, by rw [HR.out]; exact AfterR.next ho1 hs1 ht1 ((AfterR.same (hd1.exts hx3) (Touch.of_exts hx3)).more (by omega) hc)⟩
    · have q1 : decide (size < 0) = false := by simpa using h1
      obtain ⟨n, rfl⟩ := Int.eq_ofNat_of_zero_le (show 0 ≤ size by omega)
      by_cases h2 : s.size < n
      · have q2 : decide (s.size < n) = true := by simpa using h2
        rw [if_pos (Or.inr (by simp only []; omega))] at hW
        have HR := Lib.hid hW
        clear hW hm hsx h1 h2
        go_enter Try.func33, Try.ntmps33
        go_wp2_with (first | (go_at_call 50; ((with_reducible refine h50.mono ?_); rintro e w1 ⟨rfl, ⟨O1, S1, hd1, ho1, hs1, ht1⟩⟩; (obtain ⟨l2, f2, lb1⟩ := hd1.losing HLO.out))) | (go_at_call 46; ((with_reducible refine (refMay46_D hd1 f _ HM.out).mono ?_); rintro e w2 ⟨rfl, rfl⟩)) | (go_at_call 39; ((with_reducible refine Calls.mono (get39_ext hd1 (Exts.refl _) HSX.out) ?_); rintro e w3 ⟨rfl, hx3⟩)))
        go_ret
        exact ⟨by rw [HR.out]; rfl, by rw [HR.out]; exact AfterR.next ho1 hs1 ht1 ((AfterR.same (hd1.exts hx3) (Touch.of_exts hx3)).more (by omega) hc)⟩
      · have q2 : decide (s.size < n) = false := by simpa using h2
        have hns : n ≤ s.size := by omega
        rw [if_neg (by simp only []; omega)] at hW
        simp only [Int.toNat_natCast] at hW
        have HR := Lib.hid hW
        have hcs : (s.extract 0 n).size ≤ maxFile := by have := hfit.1; rw [ByteArray.size_extract]; omega
        clear hW hm hsx h1 h2
        go_enter Try.func33, Try.ntmps33
        go_wp2_with (first | (go_at_call 50; ((with_reducible refine h50.mono ?_); rintro e w1 ⟨rfl, ⟨O1, S1, hd1, ho1, hs1, ht1⟩⟩; (obtain ⟨l2, f2, lb1⟩ := hd1.losing HLO.out))) | (go_at_call 46; ((with_reducible refine (refMay46_D hd1 f _ HM.out).mono ?_); rintro e w2 ⟨rfl, rfl⟩)) | (go_at_call 39; ((with_reducible refine Calls.mono (get39_ext hd1 (Exts.refl _) HSX.out) ?_); rintro e w3 ⟨rfl, hx3⟩)) | (go_at_call 51; ((with_reducible refine (settle51 (hd1.exts hx3) f (s.extract 0 n) hf0 hf15 hcs).mono ?_); rintro e w4 ⟨rfl, hA4⟩)))
        go_ret
        exact ⟨by rw [HR.out]; rfl, by rw [HR.out]; exact AfterR.next ho1 hs1 ht1 ((AfterR.ahead (Touch.of_exts hx3) hA4).more (by omega) hc)⟩
  · have q1 : (m == 0) = false := by simpa using h0
    have q1' : (m != 0) = true := by simpa using h0
    rw [if_neg h0] at hW
    have HR := Lib.hid hW
    clear hW hm h0 hsx
    go_enter Try.func33, Try.ntmps33
    go_wp2_with (first | (go_at_call 50; ((with_reducible refine h50.mono ?_); rintro e w1 ⟨rfl, ⟨O1, S1, hd1, ho1, hs1, ht1⟩⟩; (obtain ⟨l2, f2, lb1⟩ := hd1.losing HLO.out))) | (go_at_call 46; ((with_reducible refine (refMay46_D hd1 f _ HM.out).mono ?_); rintro e w2 ⟨rfl, rfl⟩)))
    go_ret
    exact ⟨by rw [HR.out]; rfl, by rw [HR.out]; exact AfterR.next ho1 hs1 ht1 ((AfterR.same hd1 (Touch.refl _ _)).more (by omega) hc)⟩
end Go.Proofs.Ytgeoompgakdbiaa

/- tell: an act on the reference's disk. -/
namespace Go.Proofs.Ytgeoompgakdbiaa
open Go.RowKit Go.Maps
set_option linter.unusedSimpArgs false
set_option linter.unusedVariables false
set_option maxRecDepth 100000
set_option maxHeartbeats 1000000
theorem tell13 {w : World} {b c : Nat} {M : Mod} {O S S1 : Nat → Prop} (hd : RefAt w b M O S c) (a : ActP) (ko : Option Addr) (kc : Nat) (hk : RowF S1 1 w (.slice ko a.keep.length kc) a.keep.length (intsC a.keep)) (hS1 : ∀ k, S1 k → ¬ O k) (ha : ActOk a) (hc : c + 12 ≤ 1000000) :
    Calls Try.prog 13 #[.pointer (some ⟨b, 0, none⟩), actV a (.slice ko a.keep.length kc)] w fun e w' => e = .returned (.int .i64 (doD M a).2) ∧ AfterR w b (doD M a).1 O S (c + 12) w' := by
  have HD := Lib.hid hd
  have HK := Lib.hid hk
  obtain ⟨op, f, n, s, keep⟩ := a
  obtain ⟨hf, hn, hs, hkl, hki⟩ := ha
  unfold actV
  simp only at hf hn hs hkl hki ⊢ HK
  obtain ⟨kn, hkn⟩ : ∃ k, keep.length = k := ⟨_, rfl⟩
  rw [hkn] at hkl HK ⊢
  have HKN := Lib.hid hkn
  clear hkn
  obtain ⟨k, hkk⟩ : ∃ k, bits BinOp.and .i64 op 7 = k := ⟨_, rfl⟩
  by_cases h2 : k = 2
  · have HR := Lib.hid (show doD M ⟨op, f, n, s, keep⟩ = SyncD M f by unfold doD opD; simp only []; rw [hkk, if_pos h2])
    subst h2
    clear hd hk
    go_enter Try.func13, Try.ntmps13
    go_wp2_with (first | (go_at_call 32; ((with_reducible refine (refSync32 (HD.out.exts (by repeat (first | exact Exts.refl _ | apply Exts.andR | apply Exts.alloc | apply Exts.wext | apply Exts.drew | apply Exts.drewN))) f hc).mono ?_); rintro e w' ⟨rfl, hA⟩)))
    go_ret
    rw [HR.out]
    exact ⟨rfl, (AfterR.ahead (Touch.of_exts (by repeat (first | exact Exts.refl _ | apply Exts.andR | apply Exts.alloc | apply Exts.wext | apply Exts.drew | apply Exts.drewN))) hA).more (by omega) hc⟩
  · have y2 : (k == 2) = false := by simpa using h2
    by_cases h3 : k = 3
    · have HR := Lib.hid (show doD M ⟨op, f, n, s, keep⟩ = TruncD M f n by unfold doD opD; simp only []; rw [hkk, if_neg h2, if_pos h3])
      clear h2 y2
      subst h3
      clear hd hk
      go_enter Try.func13, Try.ntmps13
      go_wp2_with (first | (go_at_call 33; ((with_reducible refine (refTrunc33 (HD.out.exts (by repeat (first | exact Exts.refl _ | apply Exts.andR | apply Exts.alloc | apply Exts.wext | apply Exts.drew | apply Exts.drewN))) f n hn hc).mono ?_); rintro e w' ⟨rfl, hA⟩)))
      go_ret
      rw [HR.out]
      exact ⟨rfl, (AfterR.ahead (Touch.of_exts (by repeat (first | exact Exts.refl _ | apply Exts.andR | apply Exts.alloc | apply Exts.wext | apply Exts.drew | apply Exts.drewN))) hA).more (by omega) hc⟩
    · have y3 : (k == 3) = false := by simpa using h3
      by_cases h4 : k = 4
      · have HR := Lib.hid (show doD M ⟨op, f, n, s, keep⟩ = ({ M with lost := max (bits BinOp.and .i64 n 3) 0 }, 0) by unfold doD opD; simp only []; rw [hkk, if_neg h2, if_neg h3, if_pos h4])
        have hb3 := bits_i64 n 3
        clear h2 y2 h3 y3
        subst h4
        clear hd hk
        go_enter Try.func13, Try.ntmps13
        go_wp2_with (first | (go_at_call 34; ((with_reducible refine (refLose34 (HD.out.exts (by repeat (first | exact Exts.refl _ | apply Exts.andR | apply Exts.alloc | apply Exts.wext | apply Exts.drew | apply Exts.drewN))) _ hb3).mono ?_); rintro e w' ⟨rfl, hA⟩)))
        go_ret
        rw [HR.out]
        exact ⟨rfl, (AfterR.ahead (Touch.of_exts (by repeat (first | exact Exts.refl _ | apply Exts.andR | apply Exts.alloc | apply Exts.wext | apply Exts.drew | apply Exts.drewN))) hA).more (by omega) hc⟩
      · have y4 : (k == 4) = false := by simpa using h4
        by_cases h5 : k = 5
        · have HR := Lib.hid (show doD M ⟨op, f, n, s, keep⟩ = ({ M with armed := max n 0, keep := keep }, 0) by unfold doD opD; simp only []; rw [hkk, if_neg h2, if_neg h3, if_neg h4, if_pos h5])
          clear h2 y2 h3 y3 h4 y4
          subst h5
          clear hd hk
          go_enter Try.func13, Try.ntmps13
          go_wp2_with (first | (go_at_call 35; ((with_reducible refine (refArm35 (HD.out.exts (by repeat (first | exact Exts.refl _ | apply Exts.andR | apply Exts.alloc | apply Exts.wext | apply Exts.drew | apply Exts.drewN))) n hn ko kc kn keep (RowF.exts HK.out (by repeat (first | exact Exts.refl _ | apply Exts.andR | apply Exts.alloc | apply Exts.wext | apply Exts.drew | apply Exts.drewN))) HKN.out hS1 (by omega) hki).mono ?_); rintro e w' ⟨rfl, hA⟩)))
          go_ret
          rw [HR.out]
          exact ⟨rfl, (AfterR.ahead (Touch.of_exts (by repeat (first | exact Exts.refl _ | apply Exts.andR | apply Exts.alloc | apply Exts.wext | apply Exts.drew | apply Exts.drewN))) hA).more (by omega) hc⟩
        · have y5 : (k == 5) = false := by simpa using h5
          by_cases h6 : k = 6
          · have HR := Lib.hid (show doD M ⟨op, f, n, s, keep⟩ = (crashD M keep, 0) by unfold doD opD; simp only []; rw [hkk, if_neg h2, if_neg h3, if_neg h4, if_neg h5, if_pos h6])
            clear h2 y2 h3 y3 h4 y4 h5 y5
            subst h6
            clear hd hk
            go_enter Try.func13, Try.ntmps13
            go_wp2_with (first | (go_at_call 36; ((with_reducible refine (crash36 (HD.out.exts (by repeat (first | exact Exts.refl _ | apply Exts.andR | apply Exts.alloc | apply Exts.wext | apply Exts.drew | apply Exts.drewN))) ko kc kn keep (RowF.exts HK.out (by repeat (first | exact Exts.refl _ | apply Exts.andR | apply Exts.alloc | apply Exts.wext | apply Exts.drew | apply Exts.drewN))) HKN.out hS1).mono ?_); rintro e w' ⟨rfl, hA⟩)))
            go_ret
            rw [HR.out]
            exact ⟨rfl, (AfterR.ahead (Touch.of_exts (by repeat (first | exact Exts.refl _ | apply Exts.andR | apply Exts.alloc | apply Exts.wext | apply Exts.drew | apply Exts.drewN))) hA).more (by omega) hc⟩
          · have y6 : (k == 6) = false := by simpa using h6
            by_cases h7 : k = 7
            · have HR := Lib.hid (show doD M ⟨op, f, n, s, keep⟩ = ({ M with down := false }, 0) by unfold doD opD; simp only []; rw [hkk, if_neg h2, if_neg h3, if_neg h4, if_neg h5, if_neg h6, if_pos h7])
              clear h2 y2 h3 y3 h4 y4 h5 y5 h6 y6
              subst h7
              clear hd hk
              go_enter Try.func13, Try.ntmps13
              go_wp2_with (first | (go_at_call 37; ((with_reducible refine (refStart37 (HD.out.exts (by repeat (first | exact Exts.refl _ | apply Exts.andR | apply Exts.alloc | apply Exts.wext | apply Exts.drew | apply Exts.drewN)))).mono ?_); rintro e w' ⟨rfl, hA⟩)))
              go_ret
              rw [HR.out]
              exact ⟨rfl, (AfterR.ahead (Touch.of_exts (by repeat (first | exact Exts.refl _ | apply Exts.andR | apply Exts.alloc | apply Exts.wext | apply Exts.drew | apply Exts.drewN))) hA).more (by omega) hc⟩
            · have y7 : (k == 7) = false := by simpa using h7
              have HR := Lib.hid (show doD M ⟨op, f, n, s, keep⟩ = WriteD M f n s by unfold doD opD; simp only []; rw [hkk, if_neg h2, if_neg h3, if_neg h4, if_neg h5, if_neg h6, if_neg h7])
              clear h2 h3 h4 h5 h6 h7
              clear hd hk
              go_enter Try.func13, Try.ntmps13
              go_wp2_with (first | (go_at_call 38; ((with_reducible refine (refWrite38 (HD.out.exts (by repeat (first | exact Exts.refl _ | apply Exts.andR | apply Exts.alloc | apply Exts.wext | apply Exts.drew | apply Exts.drewN))) f n s hn hs hc).mono ?_); rintro e w' ⟨rfl, hA⟩)))
              go_ret
              rw [HR.out]
              exact ⟨rfl, AfterR.ahead (Touch.of_exts (by repeat (first | exact Exts.refl _ | apply Exts.andR | apply Exts.alloc | apply Exts.wext | apply Exts.drew | apply Exts.drewN))) hA⟩
end Go.Proofs.Ytgeoompgakdbiaa

/- A disk and the reference's disk beside. -/
namespace Go.Proofs.Ytgeoompgakdbiaa
open Go.RowKit Go.Maps
set_option linter.unusedSimpArgs false
set_option linter.unusedVariables false
set_option maxRecDepth 100000
def With (w0 w : World) (b : Nat) (M : Mod) (c br : Nat) (N : Mod) (cr : Nat) : Prop :=
  Exts w0 w ∧ ∃ O S Or Sr, DiskAt w b M O S c ∧ RefAt w br N Or Sr cr ∧ (∀ k, O k → w0.heap.size ≤ k) ∧ (∀ k, S k → w0.heap.size ≤ k) ∧ (∀ k, Or k → w0.heap.size ≤ k) ∧ (∀ k, Sr k → w0.heap.size ≤ k) ∧ (∀ k, O k → ¬ Or k) ∧ (∀ k, O k → ¬ Sr k) ∧ (∀ k, Or k → ¬ S k)
theorem With.exts {w0 w w' : World} {b c br cr : Nat} {M N : Mod} (h : With w0 w b M c br N cr) (hx : Exts w w') : With w0 w' b M c br N cr := by
  obtain ⟨h1, O, S, Or, Sr, h2, h3, rest⟩ := h
  exact ⟨h1.trans hx, O, S, Or, Sr, h2.exts hx, h3.exts hx, rest⟩
theorem With.disk {w0 w : World} {b c br cr : Nat} {M N : Mod} (h : With w0 w b M c br N cr) : ∃ O S, DiskAt w b M O S c := by
  obtain ⟨h1, O, S, Or, Sr, h2, h3, rest⟩ := h
  exact ⟨O, S, h2⟩
theorem With.ref {w0 w : World} {b c br cr : Nat} {M N : Mod} (h : With w0 w b M c br N cr) : ∃ O S, RefAt w br N O S cr := by
  obtain ⟨h1, O, S, Or, Sr, h2, h3, rest⟩ := h
  exact ⟨Or, Sr, h3⟩
theorem With.more {w0 w : World} {b c c' br cr cr' : Nat} {M N : Mod} (h : With w0 w b M c br N cr) (h1 : c ≤ c') (h2 : c' ≤ 1000000) (h3 : cr ≤ cr') (h4 : cr' ≤ 1000000) : With w0 w b M c' br N cr' := by
  obtain ⟨hx, O, S, Or, Sr, g1, g2, rest⟩ := h
  exact ⟨hx, O, S, Or, Sr, g1.more h1 h2, g2.more h3 h4, rest⟩
theorem RefAt.kept' {w w' : World} {b c : Nat} {M : Mod} {O S X : Nat → Prop} (h : RefAt w b M O S c) (ht : Touch X w w') (h1 : ∀ k, X k → ¬ O k) (h2 : ∀ k, X k → ¬ S k) : RefAt w' b M O S c := h.kept ht (fun k a b => h1 k b a) (fun k a b => h2 k b a)
/-- The disk acts. -/
theorem With.act {w0 w w1 : World} {b c c' br cr : Nat} {M M' N : Mod} {f : FuncId} {args : Array Value} {v : Value} (h : With w0 w b M c br N cr) (hw : Exts w w1) (hc : ∀ O S, DiskAt w1 b M O S c → (∀ k, O k → w0.heap.size ≤ k) → Calls Try.prog f args w1 fun e w' => e = .returned v ∧ After w1 b M' O S c' w') : Calls Try.prog f args w1 fun e w' => e = .returned v ∧ With w0 w' b M' c' br N cr := by
  obtain ⟨hx, O, S, Or, Sr, g1, g2, h3, h4, h5, h6, h7, h8, h9⟩ := h.exts hw
  refine (hc O S g1 h3).mono ?_
  rintro e w' ⟨rfl, O', S', q1, q2, q3, q4⟩
  have hs := hx.below.size
  refine ⟨rfl, ((Touch.of_exts (O := O) hx).then q4).toExts h3, O', S', Or, Sr, q1, g2.kept' q4 h7 h8, fun k hk => ?_, fun k hk => ?_, h5, h6, fun k hk h => ?_, fun k hk h => ?_, fun k hk h => ?_⟩
  · exact (q2 k hk).elim (h3 k) (fun h => by omega)
  · exact (q3 k hk).elim (h4 k) (fun h => by omega)
  · exact (q2 k hk).elim (fun g => h7 k g h) (fun g => by have := g2.oLt k h; omega)
  · exact (q2 k hk).elim (fun g => h8 k g h) (fun g => by have := g2.sLt k h; omega)
  · exact (q3 k h).elim (fun g => h9 k hk g) (fun g => by have := g2.oLt k hk; omega)
/-- The reference acts. -/
theorem With.acts {w0 w w1 : World} {b c br cr cr' : Nat} {M N N' : Mod} {f : FuncId} {args : Array Value} {v : Value} (h : With w0 w b M c br N cr) (hw : Exts w w1) (hc : ∀ O S, RefAt w1 br N O S cr → (∀ k, O k → w0.heap.size ≤ k) → Calls Try.prog f args w1 fun e w' => e = .returned v ∧ AfterR w1 br N' O S cr' w') : Calls Try.prog f args w1 fun e w' => e = .returned v ∧ With w0 w' b M c br N' cr' := by
  obtain ⟨hx, O, S, Or, Sr, g1, g2, h3, h4, h5, h6, h7, h8, h9⟩ := h.exts hw
  refine (hc Or Sr g2 h5).mono ?_
  rintro e w' ⟨rfl, O', S', q1, q2, q3, q4⟩
  have hs := hx.below.size
  refine ⟨rfl, ((Touch.of_exts (O := Or) hx).then q4).toExts h5, O, S, O', S', g1.kept q4 (fun k a b => h7 k a b) (fun k a b => h9 k b a), q1, h3, h4, fun k hk => ?_, fun k hk => ?_, fun k hk h => ?_, fun k hk h => ?_, fun k hk h => ?_⟩
  · exact (q2 k hk).elim (h5 k) (fun h => by omega)
  · exact (q3 k hk).elim (h6 k) (fun h => by omega)
  · exact (q2 k h).elim (fun g => h7 k hk g) (fun g => by have := g1.oLt k hk; omega)
  · exact (q3 k h).elim (fun g => h8 k hk g) (fun g => by have := g1.oLt k hk; omega)
  · exact (q2 k hk).elim (fun g => h9 k g h) (fun g => by have := g1.sLt k h; omega)
theorem with_new {w0 w : World} {b c : Nat} {M : Mod} (h : Own w0 w b M c) : Calls Try.prog 11 #[] w fun e w' => ∃ br, e = .returned (.pointer (some ⟨br, 0, none⟩)) ∧ With w0 w' b M c br M0 0 := by
  obtain ⟨hx, O, S, hd, ho, hs⟩ := h
  refine (refNew11 w).mono ?_
  rintro e w' ⟨br, rfl, h1, h2⟩
  have hsz := hx.below.size
  exact ⟨br, rfl, hx.trans h1, O, S, _, _, hd.exts h1, h2, ho, hs, fun k hk => Nat.le_trans hsz hk.1, fun k hk => hk.elim, fun k hk hk2 => by have := hd.oLt k hk; omega, fun k _ hk2 => hk2, fun k hk hk2 => by have := hd.sLt k hk2; omega⟩
/-- Two disks and the reference's. -/
def Trio (w0 w : World) (b1 : Nat) (M1 : Mod) (c1 b2 : Nat) (M2 : Mod) (c2 br : Nat) (N : Mod) (cr : Nat) : Prop :=
  With w0 w b2 M2 c2 br N cr ∧ ∃ O1 S1 O2 S2 Or Sr, DiskAt w b1 M1 O1 S1 c1 ∧ DiskAt w b2 M2 O2 S2 c2 ∧ RefAt w br N Or Sr cr ∧ (∀ k, O1 k → w0.heap.size ≤ k) ∧ (∀ k, O2 k → w0.heap.size ≤ k) ∧ (∀ k, S2 k → w0.heap.size ≤ k) ∧ (∀ k, Or k → w0.heap.size ≤ k) ∧ (∀ k, Sr k → w0.heap.size ≤ k) ∧ (∀ k, O1 k → ¬ O2 k) ∧ (∀ k, O1 k → ¬ S2 k) ∧ (∀ k, O1 k → ¬ Or k) ∧ (∀ k, O1 k → ¬ Sr k) ∧ (∀ k, O2 k → ¬ Or k) ∧ (∀ k, O2 k → ¬ Sr k) ∧ (∀ k, Or k → ¬ S2 k)
theorem With.copy {w0 w : World} {b c br cr : Nat} {M N : Mod} (h : With w0 w b M c br N cr) : Calls Try.prog 18 #[.pointer (some ⟨b, 0, none⟩)] w fun e w' => ∃ b', e = .returned (.pointer (some ⟨b', 0, none⟩)) ∧ Trio w0 w' b M c b' M c br N cr := by
  obtain ⟨hx, O, S, Or, Sr, g1, g2, h3, h4, h5, h6, h7, h8, h9⟩ := h
  have hs := hx.below.size
  refine (copy18 g1).mono ?_
  rintro e w' ⟨b', rfl, q1, q2⟩
  have n1 : ∀ k, w.heap.size ≤ k ∧ k < w'.heap.size → w0.heap.size ≤ k := fun k hk => Nat.le_trans hs hk.1
  have n2 : ∀ k, w.heap.size ≤ k ∧ k < w'.heap.size → ¬ Or k := fun k hk ho => by have := g2.oLt k ho; omega
  have n3 : ∀ k, w.heap.size ≤ k ∧ k < w'.heap.size → ¬ Sr k := fun k hk ho => by have := g2.sLt k ho; omega
  refine ⟨b', rfl, ⟨hx.trans q1, _, S, Or, Sr, q2, g2.exts q1, n1, h4, h5, h6, n2, n3, h9⟩, O, S, _, S, Or, Sr, g1.exts q1, q2, g2.exts q1, h3, n1, h4, h5, h6, fun k hk hk2 => ?_, fun k hk hk2 => g1.apart k hk2 hk, h7, h8, n2, n3, h9⟩
  have := g1.oLt k hk
  omega
theorem Trio.act {w0 w w1 : World} {b1 c1 c1' b2 c2 br cr : Nat} {M1 M1' M2 N : Mod} {f : FuncId} {args : Array Value} {v : Value} (h : Trio w0 w b1 M1 c1 b2 M2 c2 br N cr) (hw : Exts w w1) (hc : ∀ O S, DiskAt w1 b1 M1 O S c1 → (∀ k, O k → w0.heap.size ≤ k) → Calls Try.prog f args w1 fun e w' => e = .returned v ∧ After w1 b1 M1' O S c1' w') : Calls Try.prog f args w1 fun e w' => e = .returned v ∧ Trio w0 w' b1 M1' c1' b2 M2 c2 br N cr := by
  obtain ⟨hW, O1, S1, O2, S2, Or, Sr, g1, g2, g3, p1, p2, p3, p4, p5, d1, d2, d3, d4, d5, d6, d7⟩ := h
  have g1 := g1.exts hw
  have g2 := g2.exts hw
  have g3 := g3.exts hw
  have hx := hW.1.trans hw
  have hs := hx.below.size
  refine (hc O1 S1 g1 p1).mono ?_
  rintro e w' ⟨rfl, O', S', q1, q2, q3, q4⟩
  have k2 := g2.kept q4 (fun k a b => d1 k b a) (fun k a b => d2 k b a)
  have k3 := g3.kept' q4 d3 d4
  refine ⟨rfl, ⟨((Touch.of_exts (O := O1) hx).then q4).toExts p1, O2, S2, Or, Sr, k2, k3, p2, p3, p4, p5, d5, d6, d7⟩, O', S', O2, S2, Or, Sr, q1, k2, k3, fun k hk => ?_, p2, p3, p4, p5, fun k hk h => ?_, fun k hk h => ?_, fun k hk h => ?_, fun k hk h => ?_, d5, d6, d7⟩
  · exact (q2 k hk).elim (p1 k) (fun h => by omega)
  · exact (q2 k hk).elim (fun g => d1 k g h) (fun g => by have := g2.oLt k h; omega)
  · exact (q2 k hk).elim (fun g => d2 k g h) (fun g => by have := g2.sLt k h; omega)
  · exact (q2 k hk).elim (fun g => d3 k g h) (fun g => by have := g3.oLt k h; omega)
  · exact (q2 k hk).elim (fun g => d4 k g h) (fun g => by have := g3.sLt k h; omega)
theorem with_do {w0 w w1 : World} {b c br cr : Nat} {M M' N : Mod} {r : Int} {ko : Option Addr} {kc : Nat} {a : ActP} (h : With w0 w b M c br N cr) (hw : Exts w w1) (hk : RowF (fun k => k < w0.heap.size) 1 w0 (.slice ko a.keep.length kc) a.keep.length (intsC a.keep)) (ha : ActOk a) (hc : c + 6 ≤ 1000000) (hr : doD M a = (M', r)) : Calls Try.prog 12 #[.pointer (some ⟨b, 0, none⟩), .agg #[.int .i64 a.op, .int .i64 a.f, .int .i64 a.n, .string a.s, .slice ko a.keep.length kc]] w1 fun e w' => e = .returned (.int .i64 r) ∧ With w0 w' b M' (c + 6) br N cr := by
  have := h.act hw fun O S hd ho => do12 hd a (.slice ko a.keep.length kc) (hk.exts (h.1.trans hw)) (fun k hk ho' => by have := ho k ho'; omega) ha hc
  rw [hr] at this
  exact this
theorem with_tell {w0 w w1 : World} {b c br cr : Nat} {M N N' : Mod} {r : Int} {ko : Option Addr} {kc : Nat} {a : ActP} (h : With w0 w b M c br N cr) (hw : Exts w w1) (hk : RowF (fun k => k < w0.heap.size) 1 w0 (.slice ko a.keep.length kc) a.keep.length (intsC a.keep)) (ha : ActOk a) (hc : cr + 12 ≤ 1000000) (hr : doD N a = (N', r)) : Calls Try.prog 13 #[.pointer (some ⟨br, 0, none⟩), .agg #[.int .i64 a.op, .int .i64 a.f, .int .i64 a.n, .string a.s, .slice ko a.keep.length kc]] w1 fun e w' => e = .returned (.int .i64 r) ∧ With w0 w' b M c br N' (cr + 12) := by
  have := h.acts hw fun O S hd ho => tell13 hd a ko kc (hk.exts (h.1.trans hw)) (fun k hk ho' => by have := ho k ho'; omega) ha hc
  rw [hr] at this
  exact this
theorem trio_do {w0 w w1 : World} {b1 c1 b c br cr : Nat} {M1 M N : Mod} {ko : Option Addr} {kc : Nat} {a : ActP} (h : Trio w0 w b1 M1 c1 b M c br N cr) (hw : Exts w w1) (hk : RowF (fun k => k < w0.heap.size) 1 w0 (.slice ko a.keep.length kc) a.keep.length (intsC a.keep)) (ha : ActOk a) (hc : c1 + 6 ≤ 1000000) : Calls Try.prog 12 #[.pointer (some ⟨b1, 0, none⟩), .agg #[.int .i64 a.op, .int .i64 a.f, .int .i64 a.n, .string a.s, .slice ko a.keep.length kc]] w1 fun e w' => e = .returned (.int .i64 (doD M1 a).2) ∧ Trio w0 w' b1 (doD M1 a).1 (c1 + 6) b M c br N cr :=
  h.act hw fun O S hd ho => do12 hd a (.slice ko a.keep.length kc) (hk.exts (h.1.1.trans hw)) (fun k hk ho' => by have := ho k ho'; omega) ha hc
theorem trio_sync {w0 w w1 : World} {b1 c1 b c br cr : Nat} {M1 M N : Mod} (h : Trio w0 w b1 M1 c1 b M c br N cr) (hw : Exts w w1) (f : Int) (hf : I64 f) : Calls Try.prog 19 #[.pointer (some ⟨b1, 0, none⟩), .int .i64 f] w1 fun e w' => e = .returned (.int .i64 (SyncD M1 f).2) ∧ Trio w0 w' b1 (SyncD M1 f).1 c1 b M c br N cr := h.act hw fun O S hd ho => sync19 hd f hf
theorem with_down {w0 w w1 : World} {b c br cr : Nat} {M N : Mod} {r : Bool} (h : With w0 w b M c br N cr) (hw : Exts w w1) (hr : M.down = r) : Calls Try.prog 14 #[.pointer (some ⟨b, 0, none⟩)] w1 fun e w' => e = .returned (.bool r) ∧ w1 = w' := by
  obtain ⟨O, S, hd⟩ := (h.exts hw).disk
  exact hr ▸ down14 hd
theorem with_downR {w0 w w1 : World} {b c br cr : Nat} {M N : Mod} {r : Bool} (h : With w0 w b M c br N cr) (hw : Exts w w1) (hr : N.down = r) : Calls Try.prog 15 #[.pointer (some ⟨br, 0, none⟩)] w1 fun e w' => e = .returned (.bool r) ∧ w1 = w' := by
  obtain ⟨O, S, hd⟩ := (h.exts hw).ref
  exact hr ▸ refDown15 hd
theorem with_size {w0 w w1 : World} {b c br cr : Nat} {M N : Mod} {r : Nat} (h : With w0 w b M c br N cr) (hw : Exts w w1) (f : Int) (hf : I64 f) (hr : (M.files f).1.size = r) : Calls Try.prog 16 #[.pointer (some ⟨b, 0, none⟩), .int .i64 f] w1 fun e w' => e = .returned (.int .i64 r) ∧ w1 = w' := by
  obtain ⟨O, S, hd⟩ := (h.exts hw).disk
  exact hr ▸ size16 hd f hf
theorem with_sizeR {w0 w w1 : World} {b c br cr : Nat} {M N : Mod} {r : Nat} (h : With w0 w b M c br N cr) (hw : Exts w w1) (f : Int) (hr : (N.files f).1.size = r) : Calls Try.prog 17 #[.pointer (some ⟨br, 0, none⟩), .int .i64 f] w1 fun e w' => e = .returned (.int .i64 r) ∧ Exts w1 w' := by
  obtain ⟨O, S, hd⟩ := (h.exts hw).ref
  exact hr ▸ refSize17 hd f
theorem with_read {w0 w w1 : World} {b c br cr : Nat} {M N : Mod} {x : ByteArray} {r : Int} (h : With w0 w b M c br N cr) (hw : Exts w w1) (f at' size : Int) (ha : I64 at') (hs : I64 size) (hr : readD M f at' size = (x, r)) : Calls Try.prog 20 #[.pointer (some ⟨b, 0, none⟩), .int .i64 f, .int .i64 at', .int .i64 size] w1 fun e w' => e = .returned (.tuple #[.string x, .int .i64 r]) ∧ w1 = w' := by
  obtain ⟨O, S, hd⟩ := (h.exts hw).disk
  have := read20 hd f at' size ha hs
  rw [hr] at this
  exact this
theorem with_readR {w0 w w1 : World} {b c br cr : Nat} {M N : Mod} {x : ByteArray} {r : Int} (h : With w0 w b M c br N cr) (hw : Exts w w1) (f at' size : Int) (ha : I64 at') (hs : I64 size) (hr : readD N f at' size = (x, r)) : Calls Try.prog 21 #[.pointer (some ⟨br, 0, none⟩), .int .i64 f, .int .i64 at', .int .i64 size] w1 fun e w' => e = .returned (.tuple #[.string x, .int .i64 r]) ∧ Exts w1 w' := by
  obtain ⟨O, S, hd⟩ := (h.exts hw).ref
  have := refRead21 hd f at' size ha hs
  rw [hr] at this
  exact this
end Go.Proofs.Ytgeoompgakdbiaa
