/- DiskArms returns true. No condition. -/
import Derived.Test.YtgeoompgakdbiaaM11
namespace Go.Proofs.Ytgeoompgakdbiaa
open Go.RowKit Go.Maps
set_option linter.unusedSimpArgs false
set_option linter.unusedVariables false
set_option maxRecDepth 100000
set_option maxHeartbeats 2000000
theorem arms6 {w : World} {v : Value} {l : List ActP} (h : Acts (fun k => k < w.heap.size) w v l) (n : Int) (ko : Option Addr) (kc : Nat) (kl : List Int) (hk : RowF (fun k => k < w.heap.size) 1 w (.slice ko kl.length kc) kl.length (intsC kl)) (hki : ∀ x ∈ kl, I64 x) :
    Calls Try.prog 6 #[v, .int .i64 n, .slice ko kl.length kc] w fun e w' => e = .returned (.bool true) ∧ Exts w w' := by
  obtain ⟨ao, len, cap, rfl, hn, hmm⟩ := h.shape
  have H := Lib.hid h
  have HN := Lib.hid hn
  obtain ⟨kn, hkn⟩ : ∃ n, kl.length = n := ⟨_, rfl⟩
  have HK : RowKit.Hid (RowF (fun k => k < w.heap.size) 1 w (.slice ko kn kc) kl.length (intsC kl)) := Lib.hid (hkn ▸ hk)
  rw [hkn]
  have HKN := Lib.hid hkn
  have HKI := Lib.hid hki
  clear h hk hn hmm hki
  cases hfew : fewB l with
  | false =>
    have HFEW := Lib.hid hfew
    clear hfew hkn
    go_enter Try.func6, Try.ntmps6
    go_wp2_with (first | (go_at_call 8; ((with_reducible refine (small8 _).mono ?_); rintro e w1 ⟨rfl, hx1⟩)) | (go_at_call 9; ((with_reducible refine (few9_R (H.out.exts hx1) HFEW.out).mono ?_); rintro e w2 ⟨rfl, rfl⟩)))
    go_ret
    exact ⟨rfl, hx1⟩
  | true =>
    have HFEW := Lib.hid hfew
    clear hfew
    by_cases h1 : 60 < kn
    · have x1 : decide ((60 : Int) < (kn : Int)) = true := by simp; omega
      clear h1 hkn
      go_enter Try.func6, Try.ntmps6
      go_wp2_with (first | (go_at_call 8; ((with_reducible refine (small8 _).mono ?_); rintro e w1 ⟨rfl, hx1⟩)) | (go_at_call 9; ((with_reducible refine (few9_R (H.out.exts hx1) HFEW.out).mono ?_); rintro e w2 ⟨rfl, rfl⟩)))
      go_ret
      exact ⟨rfl, hx1⟩
    · have x1 : decide ((60 : Int) < (kn : Int)) = false := by simp; omega
      have HKL := Lib.hid (show kl.length ≤ 1000 by omega)
      clear h1 hkn
      by_cases h2 : n < 1
      · have x2 : decide (n < 1) = true := by simpa using h2
        clear h2
        go_enter Try.func6, Try.ntmps6
        go_wp2_with (first | (go_at_call 8; ((with_reducible refine (small8 _).mono ?_); rintro e w1 ⟨rfl, hx1⟩)) | (go_at_call 9; ((with_reducible refine (few9_R (H.out.exts hx1) HFEW.out).mono ?_); rintro e w2 ⟨rfl, rfl⟩)))
        go_ret
        exact ⟨rfl, hx1⟩
      · have x2 : decide (n < 1) = false := by simpa using h2
        by_cases h3 : 60 < n
        · have x3 : decide (60 < n) = true := by simpa using h3
          clear h2 h3
          go_enter Try.func6, Try.ntmps6
          go_wp2_with (first | (go_at_call 8; ((with_reducible refine (small8 _).mono ?_); rintro e w1 ⟨rfl, hx1⟩)) | (go_at_call 9; ((with_reducible refine (few9_R (H.out.exts hx1) HFEW.out).mono ?_); rintro e w2 ⟨rfl, rfl⟩)))
          go_ret
          exact ⟨rfl, hx1⟩
        · have x3 : decide (60 < n) = false := by simpa using h3
          obtain ⟨hall, h40⟩ := few_all HFEW.out
          have HALL := Lib.hid hall
          have h40 : len ≤ 40 := HN.out ▸ h40
          have hmax : max n 0 = n := by omega
          have HMAX := Lib.hid hmax
          have hn64 : I64 n := by constructor <;> omega
          clear hall hmax
          go_enter Try.func6, Try.ntmps6
          go_wp2_with (first | (go_at_call 8; ((with_reducible refine (small8 _).mono ?_); rintro e w1 ⟨rfl, hx1⟩)) | (go_at_call 9; ((with_reducible refine (few9_R (H.out.exts hx1) HFEW.out).mono ?_); rintro e w2 ⟨rfl, rfl⟩)) | (go_at_call 10; ((with_reducible refine (own_new w _ hx1).mono ?_); rintro e w3 ⟨b1, rfl, D0, -⟩)) | (go_at_call 10; ((with_reducible refine (pair_new D0).mono ?_); rintro e w4 ⟨b2, rfl, P0⟩)) | (go_at_call 27; ((with_reducible refine (pair_arm P0 n hn64 HK.out HKL.out HKI.out).mono ?_); rintro e w5 ⟨rfl, P1⟩)))
          have HP1 := Lib.hid P1
          obtain ⟨m, rfl⟩ := Int.eq_ofNat_of_zero_le (show 0 ≤ n by omega)
          have hm1 : 1 ≤ m := by omega
          have hm2 : m ≤ 60 := by omega
          clear P0 P1 D0 hx1 h2 h3
          go_loopw [10, 11] (fun sc si wr => ∃ (k cnt : Nat) (d c : Mod), sc = .int .i64 cnt ∧ si = .int .i64 k ∧ k ≤ len ∧ cnt ≤ k ∧ Pair w wr b1 d (6 * k) b2 c (6 * k) ∧ (cnt < m ∧ Ahead kl d c ((m : Int) - cnt) ∨ m ≤ cnt ∧ Behind d c)) (fun _ si _ => len - (intOf si).toNat)
          case atStart => exact ⟨0, 0, _, _, rfl, rfl, Nat.zero_le _, Nat.le_refl _, HP1.out, Or.inl ⟨by omega, by rw [HMAX.out]; simp, rfl, rfl⟩⟩
          case round =>
            obtain ⟨k, cnt, d, c, rfl, rfl, hk, hcnt, hP, hph⟩ := hrel
            by_cases hlt : k < len
            · obtain ⟨a, ha⟩ : ∃ a, l[k]? = some a := ⟨_, List.getElem?_eq_getElem (by rw [← HN.out]; exact hlt)⟩
              obtain ⟨ab, off, ko', kc', rfl, lb, c0, c1, c2, c3, c4, hkeep⟩ := H.out.get ha
              have hok := okA_ok (List.all_eq_true.1 HALL.out a (List.mem_of_getElem? ha)) (H.out.1 a (List.mem_of_getElem? ha))
              have d0 := Exts.cell hP.1 c0
              have d1 := Exts.cell hP.1 c1
              have d2 := Exts.cell hP.1 c2
              have d3 := Exts.cell hP.1 c3
              have d4 := Exts.cell hP.1 c4
              have hlr : ab < wr.heap.size := World.block_lt_of_cell? wr _ d0
              have C0 := Lib.hid c0
              have C1 := Lib.hid c1
              have C2 := Lib.hid c2
              have C3 := Lib.hid c3
              have C4 := Lib.hid c4
              obtain ⟨o, ho⟩ : ∃ o, bits BinOp.and .i64 a.op 7 = o := ⟨_, rfl⟩
              have hop : opD a = o := ho
              have hcd := pair_do_R (M' := (doD d a).1) (r := (doD d a).2) hP hkeep hok (by omega) rfl
              have HHP := Lib.hid hP
              have HOP := Lib.hid hop
              by_cases g0 : 4 < o
              · have y0 : decide (4 < o) = true := by simpa using g0
                clear hop ha c0 c1 c2 c3 c4 g0 hph hP
                go_wp2
                go_ret
                exact ⟨rfl, HHP.out.1⟩
              · have y0 : decide (4 < o) = false := by simpa using g0
                have y1 : decide (o = 4 ∨ o < 4) = true := by simp; omega
                clear y1 hP ha c0 c1 c2 c3 c4
                by_cases g4 : o = 4
                · subst g4
                  rcases hph with ⟨hc, hA⟩ | ⟨hc, hB⟩
                  · obtain ⟨hr, hA'⟩ := hA.lose hop
                    obtain ⟨r, hr2⟩ : ∃ r, (doD c a).2 = r := ⟨_, rfl⟩
                    rw [hr2] at hr
                    rw [hr] at hcd
                    have HR2 := Lib.hid (show doD c a = ((doD c a).1, r) from Prod.ext rfl hr2)
                    have HA' := Lib.hid hA'
                    have v1 : decide ((cnt : Int) < (m : Int)) = true := by simp; omega
                    clear hA' hA hr hr2 hop g0
                    go_wp2_with (first | (go_at_call 12; ((with_reducible refine hcd.mono ?_); rintro e w6 ⟨rfl, P2⟩; (have f0 := Exts.cell P2.1 C0.out); (have f1 := Exts.cell P2.1 C1.out); (have f2 := Exts.cell P2.1 C2.out); (have f3 := Exts.cell P2.1 C3.out); (have f4 := Exts.cell P2.1 C4.out); (have hl6 : ab < w6.heap.size := World.block_lt_of_cell? w6 _ f0))) | (go_at_call 12; ((with_reducible refine (pair_do_R P2.swap hkeep hok (by omega) HR2.out).mono ?_); rintro e w7 ⟨rfl, P3⟩)))
                    exact ⟨⟨k + 1, cnt, _, _, rfl, by go_num, by omega, by omega, P3.swap.more (by omega) (by omega) (by omega) (by omega), Or.inl ⟨hc, HA'.out⟩⟩, by simp [intOf]; omega⟩
                  · have hB' := hB.lose hop
                    have HB' := Lib.hid hB'
                    have v1 : decide ((cnt : Int) < (m : Int)) = false := by simp; omega
                    clear hB' hB hop g0
                    by_cases g5 : cnt = m
                    · have v2 : ((cnt : Int) == (m : Int)) = true := by simp; omega
                      clear g5
                      go_wp2_with (first | (go_at_call 12; ((with_reducible refine hcd.mono ?_); rintro e w6 ⟨rfl, P2⟩; (have f0 := Exts.cell P2.1 C0.out); (have f1 := Exts.cell P2.1 C1.out); (have f2 := Exts.cell P2.1 C2.out); (have f3 := Exts.cell P2.1 C3.out); (have f4 := Exts.cell P2.1 C4.out); (have hl6 : ab < w6.heap.size := World.block_lt_of_cell? w6 _ f0))) | (go_at_call 14; ((with_reducible refine (pair_down_R P2 HB'.out.one).mono ?_); rintro e w9 ⟨rfl, rfl⟩)))
                      exact ⟨⟨k + 1, cnt, _, _, rfl, by go_num, by omega, by omega, P2.more (by omega) (by omega) (by omega) (by omega), Or.inr ⟨hc, HB'.out⟩⟩, by simp [intOf]; omega⟩
                    · have v2 : ((cnt : Int) == (m : Int)) = false := by rw [beq_eq_false_iff_ne]; omega
                      clear g5
                      go_wp2_with (first | (go_at_call 12; ((with_reducible refine hcd.mono ?_); rintro e w6 ⟨rfl, P2⟩; (have f0 := Exts.cell P2.1 C0.out); (have f1 := Exts.cell P2.1 C1.out); (have f2 := Exts.cell P2.1 C2.out); (have f3 := Exts.cell P2.1 C3.out); (have f4 := Exts.cell P2.1 C4.out); (have hl6 : ab < w6.heap.size := World.block_lt_of_cell? w6 _ f0))) | (go_at_call 14; ((with_reducible refine (pair_down_R P2 HB'.out.one).mono ?_); rintro e w9 ⟨rfl, rfl⟩)))
                      exact ⟨⟨k + 1, cnt, _, _, rfl, by go_num, by omega, by omega, P2.more (by omega) (by omega) (by omega) (by omega), Or.inr ⟨hc, HB'.out⟩⟩, by simp [intOf]; omega⟩
                · have g4' : o < 4 := by omega
                  have y2 : (o == 4) = false := by simpa using g4
                  have y3 : decide (o < 4) = true := by simpa using g4'
                  have hop4 : opD a < 4 := by omega
                  rcases hph with ⟨hc, hA⟩ | ⟨hc, hB⟩
                  · by_cases g6 : cnt + 1 < m
                    · obtain ⟨hr, hA'⟩ := hA.step hop4 (by omega)
                      obtain ⟨r, hr2⟩ : ∃ r, (doD c a).2 = r := ⟨_, rfl⟩
                      rw [hr2] at hr
                      rw [hr] at hcd
                      have HR2 := Lib.hid (show doD c a = ((doD c a).1, r) from Prod.ext rfl hr2)
                      have HA' := Lib.hid (show Ahead kl (doD d a).1 (doD c a).1 ((m : Int) - ((cnt + 1 : Nat) : Int)) by
                        rw [show (m : Int) - ((cnt + 1 : Nat) : Int) = (m : Int) - cnt - 1 by omega]
                        exact hA')
                      have v1 : decide ((cnt : Int) + 1 < (m : Int)) = true := by simp; omega
                      clear hA' hA hr hr2 hop g0 g4 g4' hop4
                      go_wp2_with (first | (go_at_call 12; ((with_reducible refine hcd.mono ?_); rintro e w6 ⟨rfl, P2⟩; (have f0 := Exts.cell P2.1 C0.out); (have f1 := Exts.cell P2.1 C1.out); (have f2 := Exts.cell P2.1 C2.out); (have f3 := Exts.cell P2.1 C3.out); (have f4 := Exts.cell P2.1 C4.out); (have hl6 : ab < w6.heap.size := World.block_lt_of_cell? w6 _ f0))) | (go_at_call 12; ((with_reducible refine (pair_do_R P2.swap hkeep hok (by omega) HR2.out).mono ?_); rintro e w7 ⟨rfl, P3⟩)))
                      exact ⟨⟨k + 1, cnt + 1, _, _, by go_num, by go_num, by omega, by omega, P3.swap.more (by omega) (by omega) (by omega) (by omega), Or.inl ⟨g6, HA'.out⟩⟩, by simp [intOf]; omega⟩
                    · have hcm : cnt + 1 = m := by omega
                      have hA1 : Ahead kl d c 1 := by
                        rw [show (1 : Int) = (m : Int) - cnt by omega]
                        exact hA
                      obtain ⟨hr, hB'⟩ := hA1.crash hop4
                      rw [hr] at hcd
                      have HB' := Lib.hid hB'
                      have v1 : decide ((cnt : Int) + 1 < (m : Int)) = false := by simp; omega
                      have v2 : ((cnt : Int) + 1 == (m : Int)) = true := by simp; omega
                      by_cases g7 : o < 2
                      · have y4 : decide (o < 2) = true := by simpa using g7
                        have HL := Lib.hid (show crashD (doD c a).1 kl = lastD kl c a by unfold lastD; rw [if_pos (by omega)])
                        clear hB' hA hA1 hr hop g0 g4 g4' hop4 g6 g7
                        go_wp2_with (first | (go_at_call 12; ((with_reducible refine hcd.mono ?_); rintro e w6 ⟨rfl, P2⟩; (have f0 := Exts.cell P2.1 C0.out); (have f1 := Exts.cell P2.1 C1.out); (have f2 := Exts.cell P2.1 C2.out); (have f3 := Exts.cell P2.1 C3.out); (have f4 := Exts.cell P2.1 C4.out); (have hl6 : ab < w6.heap.size := World.block_lt_of_cell? w6 _ f0))) | (go_at_call 12; ((with_reducible refine (pair_do_R (M' := (doD c a).1) (r := (doD c a).2) P2.swap hkeep hok (by omega) rfl).mono ?_); rintro e w7 ⟨rfl, P3⟩)) | (go_at_call 25; ((with_reducible refine (pair_crash_arg P3 HK.out HL.out).mono ?_); rintro e w8 ⟨rfl, P4⟩)) | (go_at_call 14; ((with_reducible refine (pair_down_R P4.swap HB'.out.one).mono ?_); rintro e w9 ⟨rfl, rfl⟩)))
                        exact ⟨⟨k + 1, cnt + 1, _, _, by go_num, by go_num, by omega, by omega, P4.swap.more (by omega) (by omega) (by omega) (by omega), Or.inr ⟨by omega, HB'.out⟩⟩, by simp [intOf]; omega⟩
                      · have y4 : decide (o < 2) = false := by simpa using g7
                        have HL := Lib.hid (show crashD c kl = lastD kl c a by unfold lastD; rw [if_neg (by omega)])
                        clear hB' hA hA1 hr hop g0 g4 g4' hop4 g6 g7
                        go_wp2_with (first | (go_at_call 12; ((with_reducible refine hcd.mono ?_); rintro e w6 ⟨rfl, P2⟩; (have f0 := Exts.cell P2.1 C0.out); (have f1 := Exts.cell P2.1 C1.out); (have f2 := Exts.cell P2.1 C2.out); (have f3 := Exts.cell P2.1 C3.out); (have f4 := Exts.cell P2.1 C4.out); (have hl6 : ab < w6.heap.size := World.block_lt_of_cell? w6 _ f0))) | (go_at_call 25; ((with_reducible refine (pair_crash_arg P2.swap HK.out HL.out).mono ?_); rintro e w8 ⟨rfl, P4⟩)) | (go_at_call 14; ((with_reducible refine (pair_down_R P4.swap HB'.out.one).mono ?_); rintro e w9 ⟨rfl, rfl⟩)))
                        exact ⟨⟨k + 1, cnt + 1, _, _, by go_num, by go_num, by omega, by omega, P4.swap.more (by omega) (by omega) (by omega) (by omega), Or.inr ⟨by omega, HB'.out⟩⟩, by simp [intOf]; omega⟩
                  · obtain ⟨hr, hB'⟩ := hB.step hop4
                    rw [hr] at hcd
                    have HB' := Lib.hid hB'
                    have v1 : decide ((cnt : Int) + 1 < (m : Int)) = false := by simp; omega
                    have v2 : ((cnt : Int) + 1 == (m : Int)) = false := by rw [beq_eq_false_iff_ne]; omega
                    clear hB' hB hr hop g0 g4 g4' hop4
                    go_wp2_with (first | (go_at_call 12; ((with_reducible refine hcd.mono ?_); rintro e w6 ⟨rfl, P2⟩; (have f0 := Exts.cell P2.1 C0.out); (have f1 := Exts.cell P2.1 C1.out); (have f2 := Exts.cell P2.1 C2.out); (have f3 := Exts.cell P2.1 C3.out); (have f4 := Exts.cell P2.1 C4.out); (have hl6 : ab < w6.heap.size := World.block_lt_of_cell? w6 _ f0))) | (go_at_call 14; ((with_reducible refine (pair_down_R P2 HB'.out.one).mono ?_); rintro e w9 ⟨rfl, rfl⟩)))
                    exact ⟨⟨k + 1, cnt + 1, _, _, by go_num, by go_num, by omega, by omega, P2.more (by omega) (by omega) (by omega) (by omega), Or.inr ⟨by omega, HB'.out⟩⟩, by simp [intOf]; omega⟩
            · obtain rfl : k = len := by omega
              have hfd : d.files = c.files ∧ d.down = c.down := by
                rcases hph with ⟨_, h⟩ | ⟨_, h⟩
                · rw [h.eq]
                  exact ⟨rfl, rfl⟩
                · exact ⟨h.files, h.one.trans h.two.symm⟩
              have HFD := Lib.hid hfd
              have HHP := Lib.hid hP
              clear hfd hP hph
              go_wp2_with (first | (go_at_call 28; ((with_reducible refine (pair_same HHP.out H.out (same_of HFD.out.1 HFD.out.2 l)).mono ?_); rintro e w6 ⟨rfl, hx6⟩)) | (go_at_call 26; ((with_reducible refine (pair_start_R (HHP.out.exts hx6) rfl).mono ?_); rintro e w7 ⟨rfl, P2⟩)) | (go_at_call 26; ((with_reducible refine (pair_start_R P2.swap rfl).mono ?_); rintro e w8 ⟨rfl, P3⟩)) | (go_at_call 28; ((with_reducible refine (pair_same P3.swap H.out (same_up HFD.out.1 l)).mono ?_); rintro e w9 ⟨rfl, hx9⟩)))
              go_ret
              exact ⟨rfl, P3.1.trans hx9⟩
end Go.Proofs.Ytgeoompgakdbiaa
