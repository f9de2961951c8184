/- DiskSurvives returns true. No condition. -/
import Derived.Test.YtgeoompgakdbiaaM10
namespace Go.Proofs.Ytgeoompgakdbiaa
open Go.RowKit Go.Maps
set_option linter.unusedSimpArgs false
set_option linter.unusedVariables false
set_option maxRecDepth 100000
theorem at_bn {s : ByteArray} {i : Nat} (h : i < s.size) : s[i] = bn s i := by
  unfold bn
  rw [Array.getElem?_toList, Array.getElem?_eq_getElem (by simpa using h)]
  rfl
theorem byteB_bn (s : ByteArray) (i : Nat) : byteB s i = ((bn s i).toNat : Int) := by
  unfold byteB
  by_cases h : i < s.size
  · rw [if_pos ⟨by omega, by omega⟩, Int.toNat_natCast]
    congr 2
    unfold bn
    rw [Array.getElem?_toList, Array.getD_eq_getD_getElem?]
  · rw [if_neg (by omega), bn_out (by omega)]
    rfl
theorem byteAt24_X (w : World) (s : ByteArray) (i : Nat) {r : Int} (hr : ((bn s i).toNat : Int) = r) : Calls Try.prog 24 #[.string s, .int .i64 i] w fun e w' => e = .returned (.int .u8 r) ∧ Exts w w' := by
  refine (byteAt24 w s i).mono ?_
  rintro e w' ⟨rfl, rfl⟩
  exact ⟨by rw [byteB_bn, hr], Exts.refl _⟩
set_option maxHeartbeats 2000000
theorem survives4 {w : World} {v : Value} {l : List ActP} (h : Acts (fun k => k < w.heap.size) w v l) (f : Int) (hf : I64 f) (ko : Option Addr) (kc : Nat) (kl : List Int) (hk : RowF (fun k => k < w.heap.size) 1 w (.slice ko kl.length kc) kl.length (intsC kl)) :
    Calls Try.prog 4 #[v, .int .i64 f, .slice ko kl.length kc] w fun e w' => e = .returned (.bool true) ∧ Exts w w' := by
  have H := Lib.hid h
  have i0 : I64 0 := by constructor <;> decide
  have iB : I64 16777216 := by constructor <;> decide
  obtain ⟨kn, hkn⟩ : ∃ n, kl.length = n := ⟨_, rfl⟩
  have HK : RowKit.Hid (RowF (fun k => k < w.heap.size) 1 w (.slice ko kn kc) kl.length (intsC kl)) := Lib.hid (hkn ▸ hk)
  rw [hkn]
  have HKN := Lib.hid hkn
  clear h hk
  cases hfew : fewB l with
  | false =>
    have HFEW := Lib.hid hfew
    clear hfew hkn
    go_enter Try.func4, Try.ntmps4
    go_wp2_with (first | (go_at_call 8; ((with_reducible refine (small8 _).mono ?_); rintro e w1 ⟨rfl, hx1⟩)) | (go_at_call 9; ((with_reducible refine (few9_R (H.out.exts hx1) HFEW.out).mono ?_); rintro e w2 ⟨rfl, rfl⟩)))
    go_ret
    exact ⟨rfl, hx1⟩
  | true =>
    have HFEW := Lib.hid hfew
    clear hfew
    by_cases h1 : 60 < kn
    · have x1 : decide ((60 : Int) < (kn : Int)) = true := by simp; omega
      clear h1 hkn
      go_enter Try.func4, Try.ntmps4
      go_wp2_with (first | (go_at_call 8; ((with_reducible refine (small8 _).mono ?_); rintro e w1 ⟨rfl, hx1⟩)) | (go_at_call 9; ((with_reducible refine (few9_R (H.out.exts hx1) HFEW.out).mono ?_); rintro e w2 ⟨rfl, rfl⟩)))
      go_ret
      exact ⟨rfl, hx1⟩
    · have x1 : decide ((60 : Int) < (kn : Int)) = false := by simp; omega
      clear h1 hkn
      obtain ⟨dn, hdn⟩ : ∃ d, (playD M0 l).down = d := ⟨_, rfl⟩
      have HDN := Lib.hid hdn
      obtain ⟨sz, hsz⟩ : ∃ d, ((playD M0 l).files f).1.size = d := ⟨_, rfl⟩
      have HSZ := Lib.hid hsz
      cases dn with
      | true =>
        clear hdn hsz
        go_enter Try.func4, Try.ntmps4
        go_wp2_with (first | (go_at_call 8; ((with_reducible refine (small8 _).mono ?_); rintro e w1 ⟨rfl, hx1⟩)) | (go_at_call 9; ((with_reducible refine (few9_R (H.out.exts hx1) HFEW.out).mono ?_); rintro e w2 ⟨rfl, rfl⟩)) | (go_at_call 22; ((with_reducible refine (own_played hx1 H.out HFEW.out).mono ?_); rintro e w2 ⟨b, rfl, D0⟩)) | (go_at_call 14; ((with_reducible refine (own_down_R D0 HDN.out).mono ?_); rintro e w3 ⟨rfl, rfl⟩)) | (go_at_call 16; ((with_reducible refine (own_size_R D0 f hf HSZ.out).mono ?_); rintro e w3 ⟨rfl, rfl⟩)))
        go_ret
        exact ⟨rfl, D0.1⟩
      | false =>
        by_cases h5 : f < 0
        · have x5 : decide (f < 0) = true := by simpa using h5
          clear hdn hsz h5
          go_enter Try.func4, Try.ntmps4
          go_wp2_with (first | (go_at_call 8; ((with_reducible refine (small8 _).mono ?_); rintro e w1 ⟨rfl, hx1⟩)) | (go_at_call 9; ((with_reducible refine (few9_R (H.out.exts hx1) HFEW.out).mono ?_); rintro e w2 ⟨rfl, rfl⟩)) | (go_at_call 22; ((with_reducible refine (own_played hx1 H.out HFEW.out).mono ?_); rintro e w2 ⟨b, rfl, D0⟩)) | (go_at_call 14; ((with_reducible refine (own_down_R D0 HDN.out).mono ?_); rintro e w3 ⟨rfl, rfl⟩)) | (go_at_call 16; ((with_reducible refine (own_size_R D0 f hf HSZ.out).mono ?_); rintro e w3 ⟨rfl, rfl⟩)))
          go_ret
          exact ⟨rfl, D0.1⟩
        · have x5 : decide (f < 0) = false := by simpa using h5
          by_cases h6 : 15 < f
          · have x6 : decide (15 < f) = true := by simpa using h6
            clear hdn hsz h5 h6
            go_enter Try.func4, Try.ntmps4
            go_wp2_with (first | (go_at_call 8; ((with_reducible refine (small8 _).mono ?_); rintro e w1 ⟨rfl, hx1⟩)) | (go_at_call 9; ((with_reducible refine (few9_R (H.out.exts hx1) HFEW.out).mono ?_); rintro e w2 ⟨rfl, rfl⟩)) | (go_at_call 22; ((with_reducible refine (own_played hx1 H.out HFEW.out).mono ?_); rintro e w2 ⟨b, rfl, D0⟩)) | (go_at_call 14; ((with_reducible refine (own_down_R D0 HDN.out).mono ?_); rintro e w3 ⟨rfl, rfl⟩)) | (go_at_call 16; ((with_reducible refine (own_size_R D0 f hf HSZ.out).mono ?_); rintro e w3 ⟨rfl, rfl⟩)))
            go_ret
            exact ⟨rfl, D0.1⟩
          · have x6 : decide (15 < f) = false := by simpa using h6
            by_cases h7 : 100000 < sz
            · have x7 : decide ((100000 : Int) < (sz : Int)) = true := by simp; omega
              clear hdn hsz h5 h6 h7
              go_enter Try.func4, Try.ntmps4
              go_wp2_with (first | (go_at_call 8; ((with_reducible refine (small8 _).mono ?_); rintro e w1 ⟨rfl, hx1⟩)) | (go_at_call 9; ((with_reducible refine (few9_R (H.out.exts hx1) HFEW.out).mono ?_); rintro e w2 ⟨rfl, rfl⟩)) | (go_at_call 22; ((with_reducible refine (own_played hx1 H.out HFEW.out).mono ?_); rintro e w2 ⟨b, rfl, D0⟩)) | (go_at_call 14; ((with_reducible refine (own_down_R D0 HDN.out).mono ?_); rintro e w3 ⟨rfl, rfl⟩)) | (go_at_call 16; ((with_reducible refine (own_size_R D0 f hf HSZ.out).mono ?_); rintro e w3 ⟨rfl, rfl⟩)))
              go_ret
              exact ⟨rfl, D0.1⟩
            · have x7 : decide ((100000 : Int) < (sz : Int)) = false := by simp; omega
              obtain ⟨p1, p2, p3, R, p4, p5⟩ := survives_plain (f := f) (InvM.play l InvM.start) hdn (by omega) (by omega) (by omega) kl
              obtain ⟨A, hA⟩ : ∃ A, ((playD M0 l).files f).1 = A := ⟨_, rfl⟩
              obtain ⟨B, hB⟩ : ∃ B, ((playD M0 l).files f).2 = B := ⟨_, rfl⟩
              rw [hA] at p1 p3 p5 hsz
              rw [hB] at p2 p5
              have hA1 : A.size ≤ 100000 := by omega
              have P1 := Lib.hid p1
              have P2 := Lib.hid p2
              have P3 := Lib.hid p3
              have P4 := Lib.hid p4
              have P5 := Lib.hid p5
              have hi := p5.hi
              have lo := p5.lo
              have z1 : decide ((R.size : Int) < (B.size : Int)) = false := by simp; omega
              have z2 : decide ((A.size : Int) < (R.size : Int)) = false := by simp; omega
              clear hdn hsz h5 h6 h7 p1 p2 p3 p4 p5 hA hB
              go_enter Try.func4, Try.ntmps4
              go_wp2_with (first | (go_at_call 8; ((with_reducible refine (small8 _).mono ?_); rintro e w1 ⟨rfl, hx1⟩)) | (go_at_call 9; ((with_reducible refine (few9_R (H.out.exts hx1) HFEW.out).mono ?_); rintro e w2 ⟨rfl, rfl⟩)) | (go_at_call 22; ((with_reducible refine (own_played hx1 H.out HFEW.out).mono ?_); rintro e w2 ⟨b, rfl, D0⟩)) | (go_at_call 14; ((with_reducible refine (own_down_R D0 HDN.out).mono ?_); rintro e w3 ⟨rfl, rfl⟩)) | (go_at_call 16; ((with_reducible refine (own_size_R D0 f hf HSZ.out).mono ?_); rintro e w3 ⟨rfl, rfl⟩)) | (go_at_call 20; ((with_reducible refine (own_read_R D0 f 0 16777216 i0 iB P1.out).mono ?_); rintro e w3 ⟨rfl, rfl⟩)) | (go_at_call 23; ((with_reducible refine (own_after_R D0 (Exts.refl _) f (kl := []) (RowF.nil (fun _ => False) _ _) (fun k hk => hk.elim) P2.out).mono ?_); rintro e w4 ⟨rfl, hx4⟩)) | (go_at_call 23; ((with_reducible refine (own_after_one D0 hx4 f _ P3.out).mono ?_); rintro e w5 ⟨rfl, hx5⟩)) | (go_at_call 23; ((with_reducible refine (own_after_arg D0 (hx4.trans hx5) f HK.out P4.out).mono ?_); rintro e w6 ⟨rfl, hx6⟩)))
              have HX6 := Lib.hid ((D0.1.trans (hx4.trans hx5)).trans hx6)
              have hR : R.size ≤ 100000 := by omega
              clear D0 hx4 hx5 hx6 hx1 z1 z2
              go_loopw [17] (fun si wr => ∃ k : Nat, si = .int .i64 k ∧ 64 * k < R.size + 64 ∧ Exts w6 wr) (fun si _ => R.size + 64 - 64 * (intOf si).toNat)
              case atStart => exact ⟨0, rfl, by omega, Exts.refl _⟩
              case round =>
                obtain ⟨k, rfl, hk, hx⟩ := hrel
                have HX := Lib.hid hx
                clear hx
                by_cases hlt : 64 * k < R.size
                · have y1 : decide (64 * (k : Int) < (R.size : Int)) = true := by simp; omega
                  have hk2 : k ≤ 2000 := by omega
                  rcases P5.out.sec k with hs | hs
                  · have HS := Lib.hid hs
                    clear hs
                    go_wp2
                    go_loopw [18, 19, 20] (fun sn so si wr => ∃ (j : Nat) (b2 : Bool), sn = .bool true ∧ so = .bool b2 ∧ si = .int .i64 j ∧ 64 * k ≤ j ∧ j ≤ 64 * k + 64 ∧ j ≤ R.size ∧ Exts w6 wr) (fun sn so si _ => 64 * k + 64 - (intOf si).toNat)
                    case atStart => exact ⟨64 * k, true, rfl, rfl, by go_num, Nat.le_refl _, by omega, by omega, HX.out⟩
                    case round =>
                      obtain ⟨j, b2, rfl, rfl, rfl, hj1, hj2, hj3, hx⟩ := hrel
                      have HX2 := Lib.hid hx
                      clear hx
                      by_cases g1 : j < 64 * k + 64
                      · by_cases g2 : j < R.size
                        · have v1 : decide ((j : Int) < 64 * (k : Int) + 64) = true := by simp; omega
                          have v2 : decide ((j : Int) < (R.size : Int)) = true := by simp; omega
                          have hjA : j < A.size := by omega
                          have hq : (((R[j]'g2).toNat : Int) == ((A[j]'hjA).toNat : Int)) = true := by rw [at_bn, at_bn, (HS.out j (by omega) (by omega) hjA).2]; simp
                          obtain ⟨bj, hbj⟩ : ∃ r, ((bn B j).toNat : Int) = r := ⟨_, rfl⟩
                          have HBJ := Lib.hid hbj
                          clear hbj
                          cases b2 with
                          | true =>
                            go_wp2
                            go_region
                            all_goals
                              (try go_frame)
                              go_wp2
                              first | refine wp_region_ext_lit2 (by kernel_rfl) (by kernel_rfl) ?_ | refine wp_region_ext_lit (by kernel_rfl) (by kernel_rfl) ?_
                              repeat (go_big_quiet_step (((first | (go_at_call 24; exact Calls.ext_of (byteAt24_X _ B j HBJ.out))))))
                              refine wpQuiet_nil ?_
                              intro _ hwq'
                              obtain ⟨xq, hwq''⟩ := hwq'
                              subst hwq''
                              go_wp2
                              exact ⟨⟨j + 1, _, rfl, rfl, by go_num, by omega, by omega, by omega, HX2.out.trans (by repeat (first | exact Exts.refl _ | apply Exts.andR | apply Exts.alloc | apply Exts.wext | apply Exts.drew | apply Exts.drewN))⟩, by simp [intOf]; omega⟩
                          | false =>
                            go_wp2
                            go_region
                            all_goals
                              (try go_frame)
                              go_wp2
                              first | refine wp_region_ext_lit2 (by kernel_rfl) (by kernel_rfl) ?_ | refine wp_region_ext_lit (by kernel_rfl) (by kernel_rfl) ?_
                              repeat (go_big_quiet_step (fail))
                              refine wpQuiet_nil ?_
                              intro _ hwq'
                              obtain ⟨xq, hwq''⟩ := hwq'
                              subst hwq''
                              go_wp2
                              exact ⟨⟨j + 1, _, rfl, rfl, by go_num, by omega, by omega, by omega, HX2.out.trans (by repeat (first | exact Exts.refl _ | apply Exts.andR | apply Exts.alloc | apply Exts.wext | apply Exts.drew | apply Exts.drewN))⟩, by simp [intOf]; omega⟩
                        · have v1 : decide ((j : Int) < 64 * (k : Int) + 64) = true := by simp; omega
                          have v2 : decide ((j : Int) < (R.size : Int)) = false := by simp; omega
                          cases b2 with
                          | true =>
                            go_wp2
                            exact ⟨⟨k + 1, by go_num, by omega, HX2.out⟩, by simp [intOf]; omega⟩
                          | false =>
                            go_wp2
                            exact ⟨⟨k + 1, by go_num, by omega, HX2.out⟩, by simp [intOf]; omega⟩
                      · have v1 : decide ((j : Int) < 64 * (k : Int) + 64) = false := by simp; omega
                        cases b2 with
                        | true =>
                          go_wp2
                          exact ⟨⟨k + 1, by go_num, by omega, HX2.out⟩, by simp [intOf]; omega⟩
                        | false =>
                          go_wp2
                          exact ⟨⟨k + 1, by go_num, by omega, HX2.out⟩, by simp [intOf]; omega⟩
                  · have HS := Lib.hid hs
                    clear hs
                    go_wp2
                    go_loopw [18, 19, 20] (fun sn so si wr => ∃ (j : Nat) (b2 : Bool), sn = .bool b2 ∧ so = .bool true ∧ si = .int .i64 j ∧ 64 * k ≤ j ∧ j ≤ 64 * k + 64 ∧ j ≤ R.size ∧ Exts w6 wr) (fun sn so si _ => 64 * k + 64 - (intOf si).toNat)
                    case atStart => exact ⟨64 * k, true, rfl, rfl, by go_num, Nat.le_refl _, by omega, by omega, HX.out⟩
                    case round =>
                      obtain ⟨j, b2, rfl, rfl, rfl, hj1, hj2, hj3, hx⟩ := hrel
                      have HX2 := Lib.hid hx
                      clear hx
                      by_cases g1 : j < 64 * k + 64
                      · by_cases g2 : j < R.size
                        · have v1 : decide ((j : Int) < 64 * (k : Int) + 64) = true := by simp; omega
                          have v2 : decide ((j : Int) < (R.size : Int)) = true := by simp; omega
                          have hjA : j < A.size := by omega
                          have HRJ := Lib.hid (show ((bn B j).toNat : Int) = ((R[j]'g2).toNat : Int) by rw [at_bn, (HS.out j (by omega) (by omega))])
                          cases b2 with
                          | true =>
                            go_wp2
                            go_region
                            all_goals
                              (try go_frame)
                              go_wp2
                              first | refine wp_region_ext_lit2 (by kernel_rfl) (by kernel_rfl) ?_ | refine wp_region_ext_lit (by kernel_rfl) (by kernel_rfl) ?_
                              repeat (go_big_quiet_step (((first | (go_at_call 24; exact Calls.ext_of (byteAt24_X _ B j HRJ.out))))))
                              refine wpQuiet_nil ?_
                              intro _ hwq'
                              obtain ⟨xq, hwq''⟩ := hwq'
                              subst hwq''
                              go_wp2
                              exact ⟨⟨j + 1, _, rfl, rfl, by go_num, by omega, by omega, by omega, HX2.out.trans (by repeat (first | exact Exts.refl _ | apply Exts.andR | apply Exts.alloc | apply Exts.wext | apply Exts.drew | apply Exts.drewN))⟩, by simp [intOf]; omega⟩
                          | false =>
                            go_wp2
                            go_region
                            all_goals
                              (try go_frame)
                              go_wp2
                              first | refine wp_region_ext_lit2 (by kernel_rfl) (by kernel_rfl) ?_ | refine wp_region_ext_lit (by kernel_rfl) (by kernel_rfl) ?_
                              repeat (go_big_quiet_step (((first | (go_at_call 24; exact Calls.ext_of (byteAt24_X _ B j HRJ.out))))))
                              refine wpQuiet_nil ?_
                              intro _ hwq'
                              obtain ⟨xq, hwq''⟩ := hwq'
                              subst hwq''
                              go_wp2
                              exact ⟨⟨j + 1, _, rfl, rfl, by go_num, by omega, by omega, by omega, HX2.out.trans (by repeat (first | exact Exts.refl _ | apply Exts.andR | apply Exts.alloc | apply Exts.wext | apply Exts.drew | apply Exts.drewN))⟩, by simp [intOf]; omega⟩
                        · have v1 : decide ((j : Int) < 64 * (k : Int) + 64) = true := by simp; omega
                          have v2 : decide ((j : Int) < (R.size : Int)) = false := by simp; omega
                          cases b2 with
                          | true =>
                            go_wp2
                            exact ⟨⟨k + 1, by go_num, by omega, HX2.out⟩, by simp [intOf]; omega⟩
                          | false =>
                            go_wp2
                            exact ⟨⟨k + 1, by go_num, by omega, HX2.out⟩, by simp [intOf]; omega⟩
                      · have v1 : decide ((j : Int) < 64 * (k : Int) + 64) = false := by simp; omega
                        cases b2 with
                        | true =>
                          go_wp2
                          exact ⟨⟨k + 1, by go_num, by omega, HX2.out⟩, by simp [intOf]; omega⟩
                        | false =>
                          go_wp2
                          exact ⟨⟨k + 1, by go_num, by omega, HX2.out⟩, by simp [intOf]; omega⟩
                · have y1 : decide (64 * (k : Int) < (R.size : Int)) = false := by simp; omega
                  go_wp2
                  go_ret
                  exact ⟨rfl, HX6.out.trans HX.out⟩
end Go.Proofs.Ytgeoompgakdbiaa
