/- DiskReads returns true. No condition. -/
import Derived.Test.YtgeoompgakdbiaaM10
namespace Go.Proofs.Ytgeoompgakdbiaa
open Go.RowKit Go.Maps
set_option linter.unusedSimpArgs false
set_option linter.unusedVariables false
set_option maxRecDepth 100000
set_option maxHeartbeats 2000000
theorem reads7 {w : World} {v : Value} {l : List ActP} (h : Acts (fun k => k < w.heap.size) w v l) (f at' size : Int) (s : ByteArray) (hf : I64 f) (ha : I64 at') (hz : I64 size) :
    Calls Try.prog 7 #[v, .int .i64 f, .int .i64 at', .string s, .int .i64 size] w fun e w' => e = .returned (.bool true) ∧ Exts w w' := by
  have H := Lib.hid h
  clear h
  have i0 : I64 0 := by constructor <;> decide
  have iB : I64 16777216 := by constructor <;> decide
  cases hfew : fewB l with
  | false =>
    have HFEW := Lib.hid hfew
    clear hfew
    go_enter Try.func7, Try.ntmps7
    go_wp2_with (first | (go_at_call 8; ((with_reducible refine (small8 _).mono ?_); rintro e w1 ⟨rfl, hx1⟩)) | (go_at_call 9; ((with_reducible refine (few9_R (H.out.exts hx1) HFEW.out).mono ?_); rintro e w2 ⟨rfl, rfl⟩)))
    go_ret
    exact ⟨rfl, hx1⟩
  | true =>
    have HFEW := Lib.hid hfew
    clear hfew
    by_cases h1 : 300 < s.size
    · have y1 : decide (300 < s.size) = true := by simpa using h1
      have x1 : decide ((300 : Int) < (s.size : Int)) = true := by simp; omega
      clear h1
      go_enter Try.func7, Try.ntmps7
      go_wp2_with (first | (go_at_call 8; ((with_reducible refine (small8 _).mono ?_); rintro e w1 ⟨rfl, hx1⟩)) | (go_at_call 9; ((with_reducible refine (few9_R (H.out.exts hx1) HFEW.out).mono ?_); rintro e w2 ⟨rfl, rfl⟩)))
      go_ret
      exact ⟨rfl, hx1⟩
    · have y1 : decide (300 < s.size) = false := by simpa using h1
      have x1 : decide ((300 : Int) < (s.size : Int)) = false := by simp; omega
      have hs : s.size ≤ 300 := by omega
      clear h1
      by_cases h2 : at' < 0
      · have x2 : decide (at' < 0) = true := by simpa using h2
        clear h2
        go_enter Try.func7, Try.ntmps7
        go_wp2_with (first | (go_at_call 8; ((with_reducible refine (small8 _).mono ?_); rintro e w1 ⟨rfl, hx1⟩)) | (go_at_call 9; ((with_reducible refine (few9_R (H.out.exts hx1) HFEW.out).mono ?_); rintro e w2 ⟨rfl, rfl⟩)))
        go_ret
        exact ⟨rfl, hx1⟩
      · have x2 : decide (at' < 0) = false := by simpa using h2
        by_cases h3 : 3000 < at'
        · have x3 : decide (3000 < at') = true := by simpa using h3
          clear h2 h3
          go_enter Try.func7, Try.ntmps7
          go_wp2_with (first | (go_at_call 8; ((with_reducible refine (small8 _).mono ?_); rintro e w1 ⟨rfl, hx1⟩)) | (go_at_call 9; ((with_reducible refine (few9_R (H.out.exts hx1) HFEW.out).mono ?_); rintro e w2 ⟨rfl, rfl⟩)))
          go_ret
          exact ⟨rfl, hx1⟩
        · have x3 : decide (3000 < at') = false := by simpa using h3
          by_cases h4 : size < 0
          · have x4 : decide (size < 0) = true := by simpa using h4
            clear h2 h3 h4
            go_enter Try.func7, Try.ntmps7
            go_wp2_with (first | (go_at_call 8; ((with_reducible refine (small8 _).mono ?_); rintro e w1 ⟨rfl, hx1⟩)) | (go_at_call 9; ((with_reducible refine (few9_R (H.out.exts hx1) HFEW.out).mono ?_); rintro e w2 ⟨rfl, rfl⟩)))
            go_ret
            exact ⟨rfl, hx1⟩
          · have x4 : decide (size < 0) = false := by simpa using h4
            obtain ⟨dn, hdn⟩ : ∃ d, (playD M0 l).down = d := ⟨_, rfl⟩
            have hdn' : (disarm (playD M0 l)).down = dn := hdn
            have HDN := Lib.hid hdn'
            clear hdn'
            obtain ⟨⟨M', r⟩, hw⟩ : ∃ p, WriteD (disarm (playD M0 l)) f at' s = p := ⟨_, rfl⟩
            have HW := Lib.hid hw
            cases dn with
            | true =>
              have hbad : r ≠ 0 := by
                have := disarm_bad (M := playD M0 l) (f := f) (at' := at') (s := s) (Or.inl hdn)
                rw [hw] at this
                exact this
              have y5 : (r == 0) = false := by simpa using hbad
              have y6 : (r != 0) = true := by simpa using hbad
              clear hdn hw h2 h3 h4
              have HB := Lib.hid hbad
              go_enter Try.func7, Try.ntmps7
              go_wp2_with (first | (go_at_call 8; ((with_reducible refine (small8 _).mono ?_); rintro e w1 ⟨rfl, hx1⟩)) | (go_at_call 9; ((with_reducible refine (few9_R (H.out.exts hx1) HFEW.out).mono ?_); rintro e w2 ⟨rfl, rfl⟩)) | (go_at_call 22; ((with_reducible refine (own_played hx1 H.out HFEW.out).mono ?_); rintro e w2 ⟨b, rfl, D0⟩)) | (go_at_call 27; ((with_reducible refine (own_disarm D0).mono ?_); rintro e w3 ⟨rfl, D1⟩)) | (go_at_call 14; ((with_reducible refine (own_down_R D1 HDN.out).mono ?_); rintro e w4 ⟨rfl, rfl⟩)) | (go_at_call 29; ((with_reducible refine (own_write_R D1 f at' s ha hs (by decide) HW.out).mono ?_); rintro e w5 ⟨rfl, D2⟩)))
              go_ret
              exact ⟨rfl, D2.1⟩
            | false =>
              by_cases h5 : f < 0
              · have hbad : r ≠ 0 := by
                  have := disarm_bad (M := playD M0 l) (f := f) (at' := at') (s := s) (Or.inr (Or.inl h5))
                  rw [hw] at this
                  exact this
                have y5 : (r == 0) = false := by simpa using hbad
                have y6 : (r != 0) = true := by simpa using hbad
                have x5 : decide (f < 0) = true := by simpa using h5
                clear hdn hw h2 h3 h4 h5
                have HB := Lib.hid hbad
                go_enter Try.func7, Try.ntmps7
                go_wp2_with (first | (go_at_call 8; ((with_reducible refine (small8 _).mono ?_); rintro e w1 ⟨rfl, hx1⟩)) | (go_at_call 9; ((with_reducible refine (few9_R (H.out.exts hx1) HFEW.out).mono ?_); rintro e w2 ⟨rfl, rfl⟩)) | (go_at_call 22; ((with_reducible refine (own_played hx1 H.out HFEW.out).mono ?_); rintro e w2 ⟨b, rfl, D0⟩)) | (go_at_call 27; ((with_reducible refine (own_disarm D0).mono ?_); rintro e w3 ⟨rfl, D1⟩)) | (go_at_call 14; ((with_reducible refine (own_down_R D1 HDN.out).mono ?_); rintro e w4 ⟨rfl, rfl⟩)) | (go_at_call 29; ((with_reducible refine (own_write_R D1 f at' s ha hs (by decide) HW.out).mono ?_); rintro e w5 ⟨rfl, D2⟩)))
                go_ret
                exact ⟨rfl, D2.1⟩
              · have x5 : decide (f < 0) = false := by simpa using h5
                by_cases h6 : 15 < f
                · have hbad : r ≠ 0 := by
                    have := disarm_bad (M := playD M0 l) (f := f) (at' := at') (s := s) (Or.inr (Or.inr h6))
                    rw [hw] at this
                    exact this
                  have y5 : (r == 0) = false := by simpa using hbad
                  have y6 : (r != 0) = true := by simpa using hbad
                  have x6 : decide (15 < f) = true := by simpa using h6
                  clear hdn hw h2 h3 h4 h5 h6
                  have HB := Lib.hid hbad
                  go_enter Try.func7, Try.ntmps7
                  go_wp2_with (first | (go_at_call 8; ((with_reducible refine (small8 _).mono ?_); rintro e w1 ⟨rfl, hx1⟩)) | (go_at_call 9; ((with_reducible refine (few9_R (H.out.exts hx1) HFEW.out).mono ?_); rintro e w2 ⟨rfl, rfl⟩)) | (go_at_call 22; ((with_reducible refine (own_played hx1 H.out HFEW.out).mono ?_); rintro e w2 ⟨b, rfl, D0⟩)) | (go_at_call 27; ((with_reducible refine (own_disarm D0).mono ?_); rintro e w3 ⟨rfl, D1⟩)) | (go_at_call 14; ((with_reducible refine (own_down_R D1 HDN.out).mono ?_); rintro e w4 ⟨rfl, rfl⟩)) | (go_at_call 29; ((with_reducible refine (own_write_R D1 f at' s ha hs (by decide) HW.out).mono ?_); rintro e w5 ⟨rfl, D2⟩)))
                  go_ret
                  exact ⟨rfl, D2.1⟩
                · have x6 : decide (15 < f) = false := by simpa using h6
                  obtain ⟨n, rfl⟩ := Int.eq_ofNat_of_zero_le (show 0 ≤ at' by omega)
                  obtain ⟨z, rfl⟩ := Int.eq_ofNat_of_zero_le (show 0 ≤ size by omega)
                  clear hw HW
                  obtain ⟨M2, all, q1, q2, q3, q4, q5, q6, q7⟩ := reads_plain (M := playD M0 l) (f := f) (a := n) (z := z) (s := s) hdn (by omega) (by omega) (by omega) hs
                  have Q1 := Lib.hid q1
                  have Q3 := Lib.hid q3
                  have Q4 := Lib.hid q4
                  have Q7 := Lib.hid q7
                  clear hdn h2 h3 h4 h5 h6 q1 q3 q4 q7
                  by_cases g1 : all.size < n
                  · obtain ⟨M3, q8, q9⟩ := q6 all.size (by omega)
                    have Q5 := Lib.hid (q5 all.size 0 (by omega) (by omega))
                    have Q8 := Lib.hid q8
                    have Q9 := Lib.hid q9
                    clear q5 q6 q8 q9
                    have b1 : decide (all.size < n) = true := by simpa using g1
                    have b2 : ((all.size : Int) - all.size) = 0 := by omega
                    by_cases g2 : 0 < z
                    · have x5 : decide (0 < z) = true := by simpa using g2
                      go_enter Try.func7, Try.ntmps7
                      go_wp2_with (first | (go_at_call 8; ((with_reducible refine (small8 _).mono ?_); rintro e w1 ⟨rfl, hx1⟩)) | (go_at_call 9; ((with_reducible refine (few9_R (H.out.exts hx1) HFEW.out).mono ?_); rintro e w2 ⟨rfl, rfl⟩)) | (go_at_call 22; ((with_reducible refine (own_played hx1 H.out HFEW.out).mono ?_); rintro e w2 ⟨b, rfl, D0⟩; (have hall := Q7.out (D0.fit f)); (have H9 := Lib.hid (Q9.out (D0.fit f))))) | (go_at_call 27; ((with_reducible refine (own_disarm D0).mono ?_); rintro e w3 ⟨rfl, D1⟩)) | (go_at_call 14; ((with_reducible refine (own_down_R D1 HDN.out).mono ?_); rintro e w4 ⟨rfl, rfl⟩)) | (go_at_call 29; ((with_reducible refine (own_write_R D1 f n s ha hs (by decide) Q1.out).mono ?_); rintro e w5 ⟨rfl, D2⟩)) | (go_at_call 16; ((with_reducible refine (own_size_R D2 f hf q2).mono ?_); rintro e w6 ⟨rfl, rfl⟩)) | (go_at_call 20; ((with_reducible refine (own_read_R D2 f n s.size ha (I64.nat (by omega)) Q3.out).mono ?_); rintro e w6 ⟨rfl, rfl⟩)) | (go_at_call 20; ((with_reducible refine (own_read_R D2 f 0 all.size i0 (I64.nat (by omega)) Q4.out).mono ?_); rintro e w6 ⟨rfl, rfl⟩)) | (go_at_call 20; ((with_reducible refine (own_read_R D2 f n _ ha hz Q5.out).mono ?_); rintro e w6 ⟨rfl, rfl⟩)) | (go_at_call 30; ((with_reducible refine (own_trunc_R D2 f _ hf (I64.nat (by omega)) Q8.out).mono ?_); rintro e w7 ⟨rfl, D3⟩)) | (go_at_call 25; ((with_reducible refine (own_crash_nil D3 rfl).mono ?_); rintro e w8 ⟨rfl, D4⟩)) | (go_at_call 26; ((with_reducible refine (own_start_R D4 rfl).mono ?_); rintro e w9 ⟨rfl, D5⟩)) | (go_at_call 20; ((with_reducible refine (own_read_R D5 f 0 16777216 i0 iB H9.out).mono ?_); rintro e w10 ⟨rfl, rfl⟩)))
                      go_ret
                      exact ⟨rfl, D5.1⟩
                    · obtain rfl : z = 0 := by omega
                      have Q5' := Lib.hid (show readD M2 f n 0 = (all.extract all.size (all.size + 0), 0) from Q5.out)
                      clear Q5
                      have Q5 := Q5'
                      clear Q5' hz
                      have hz := i0
                      go_enter Try.func7, Try.ntmps7
                      go_wp2_with (first | (go_at_call 8; ((with_reducible refine (small8 _).mono ?_); rintro e w1 ⟨rfl, hx1⟩)) | (go_at_call 9; ((with_reducible refine (few9_R (H.out.exts hx1) HFEW.out).mono ?_); rintro e w2 ⟨rfl, rfl⟩)) | (go_at_call 22; ((with_reducible refine (own_played hx1 H.out HFEW.out).mono ?_); rintro e w2 ⟨b, rfl, D0⟩; (have hall := Q7.out (D0.fit f)); (have H9 := Lib.hid (Q9.out (D0.fit f))))) | (go_at_call 27; ((with_reducible refine (own_disarm D0).mono ?_); rintro e w3 ⟨rfl, D1⟩)) | (go_at_call 14; ((with_reducible refine (own_down_R D1 HDN.out).mono ?_); rintro e w4 ⟨rfl, rfl⟩)) | (go_at_call 29; ((with_reducible refine (own_write_R D1 f n s ha hs (by decide) Q1.out).mono ?_); rintro e w5 ⟨rfl, D2⟩)) | (go_at_call 16; ((with_reducible refine (own_size_R D2 f hf q2).mono ?_); rintro e w6 ⟨rfl, rfl⟩)) | (go_at_call 20; ((with_reducible refine (own_read_R D2 f n s.size ha (I64.nat (by omega)) Q3.out).mono ?_); rintro e w6 ⟨rfl, rfl⟩)) | (go_at_call 20; ((with_reducible refine (own_read_R D2 f 0 all.size i0 (I64.nat (by omega)) Q4.out).mono ?_); rintro e w6 ⟨rfl, rfl⟩)) | (go_at_call 20; ((with_reducible refine (own_read_R D2 f n _ ha hz Q5.out).mono ?_); rintro e w6 ⟨rfl, rfl⟩)) | (go_at_call 30; ((with_reducible refine (own_trunc_R D2 f _ hf (I64.nat (by omega)) Q8.out).mono ?_); rintro e w7 ⟨rfl, D3⟩)) | (go_at_call 25; ((with_reducible refine (own_crash_nil D3 rfl).mono ?_); rintro e w8 ⟨rfl, D4⟩)) | (go_at_call 26; ((with_reducible refine (own_start_R D4 rfl).mono ?_); rintro e w9 ⟨rfl, D5⟩)) | (go_at_call 20; ((with_reducible refine (own_read_R D5 f 0 16777216 i0 iB H9.out).mono ?_); rintro e w10 ⟨rfl, rfl⟩)))
                      go_ret
                      exact ⟨rfl, D5.1⟩
                  · obtain ⟨M3, q8, q9⟩ := q6 n (by omega)
                    obtain ⟨d, hd⟩ : ∃ d, all.size = n + d := ⟨all.size - n, by omega⟩
                    have Q8 := Lib.hid q8
                    have Q9 := Lib.hid q9
                    have b1 : decide (all.size < n) = false := by simpa using g1
                    have b2 : ((all.size : Int) - n) = d := by omega
                    have b3 : n ≤ all.size := by omega
                    by_cases g2 : d < z
                    · have Q5 := Lib.hid (q5 n d (by omega) (by omega))
                      have x5 : decide (d < z) = true := by simpa using g2
                      have b4 : n + d ≤ all.size := by omega
                      clear q5 q6 q8 q9 hd
                      go_enter Try.func7, Try.ntmps7
                      go_wp2_with (first | (go_at_call 8; ((with_reducible refine (small8 _).mono ?_); rintro e w1 ⟨rfl, hx1⟩)) | (go_at_call 9; ((with_reducible refine (few9_R (H.out.exts hx1) HFEW.out).mono ?_); rintro e w2 ⟨rfl, rfl⟩)) | (go_at_call 22; ((with_reducible refine (own_played hx1 H.out HFEW.out).mono ?_); rintro e w2 ⟨b, rfl, D0⟩; (have hall := Q7.out (D0.fit f)); (have H9 := Lib.hid (Q9.out (D0.fit f))))) | (go_at_call 27; ((with_reducible refine (own_disarm D0).mono ?_); rintro e w3 ⟨rfl, D1⟩)) | (go_at_call 14; ((with_reducible refine (own_down_R D1 HDN.out).mono ?_); rintro e w4 ⟨rfl, rfl⟩)) | (go_at_call 29; ((with_reducible refine (own_write_R D1 f n s ha hs (by decide) Q1.out).mono ?_); rintro e w5 ⟨rfl, D2⟩)) | (go_at_call 16; ((with_reducible refine (own_size_R D2 f hf q2).mono ?_); rintro e w6 ⟨rfl, rfl⟩)) | (go_at_call 20; ((with_reducible refine (own_read_R D2 f n s.size ha (I64.nat (by omega)) Q3.out).mono ?_); rintro e w6 ⟨rfl, rfl⟩)) | (go_at_call 20; ((with_reducible refine (own_read_R D2 f 0 all.size i0 (I64.nat (by omega)) Q4.out).mono ?_); rintro e w6 ⟨rfl, rfl⟩)) | (go_at_call 20; ((with_reducible refine (own_read_R D2 f n _ ha hz Q5.out).mono ?_); rintro e w6 ⟨rfl, rfl⟩)) | (go_at_call 30; ((with_reducible refine (own_trunc_R D2 f _ hf (I64.nat (by omega)) Q8.out).mono ?_); rintro e w7 ⟨rfl, D3⟩)) | (go_at_call 25; ((with_reducible refine (own_crash_nil D3 rfl).mono ?_); rintro e w8 ⟨rfl, D4⟩)) | (go_at_call 26; ((with_reducible refine (own_start_R D4 rfl).mono ?_); rintro e w9 ⟨rfl, D5⟩)) | (go_at_call 20; ((with_reducible refine (own_read_R D5 f 0 16777216 i0 iB H9.out).mono ?_); rintro e w10 ⟨rfl, rfl⟩)))
                      go_ret
                      exact ⟨rfl, D5.1⟩
                    · have Q5 := Lib.hid (q5 n z (by omega) (by omega))
                      have x5 : decide (d < z) = false := by simpa using g2
                      have b4 : n + z ≤ all.size := by omega
                      clear q5 q6 q8 q9 hd
                      go_enter Try.func7, Try.ntmps7
                      go_wp2_with (first | (go_at_call 8; ((with_reducible refine (small8 _).mono ?_); rintro e w1 ⟨rfl, hx1⟩)) | (go_at_call 9; ((with_reducible refine (few9_R (H.out.exts hx1) HFEW.out).mono ?_); rintro e w2 ⟨rfl, rfl⟩)) | (go_at_call 22; ((with_reducible refine (own_played hx1 H.out HFEW.out).mono ?_); rintro e w2 ⟨b, rfl, D0⟩; (have hall := Q7.out (D0.fit f)); (have H9 := Lib.hid (Q9.out (D0.fit f))))) | (go_at_call 27; ((with_reducible refine (own_disarm D0).mono ?_); rintro e w3 ⟨rfl, D1⟩)) | (go_at_call 14; ((with_reducible refine (own_down_R D1 HDN.out).mono ?_); rintro e w4 ⟨rfl, rfl⟩)) | (go_at_call 29; ((with_reducible refine (own_write_R D1 f n s ha hs (by decide) Q1.out).mono ?_); rintro e w5 ⟨rfl, D2⟩)) | (go_at_call 16; ((with_reducible refine (own_size_R D2 f hf q2).mono ?_); rintro e w6 ⟨rfl, rfl⟩)) | (go_at_call 20; ((with_reducible refine (own_read_R D2 f n s.size ha (I64.nat (by omega)) Q3.out).mono ?_); rintro e w6 ⟨rfl, rfl⟩)) | (go_at_call 20; ((with_reducible refine (own_read_R D2 f 0 all.size i0 (I64.nat (by omega)) Q4.out).mono ?_); rintro e w6 ⟨rfl, rfl⟩)) | (go_at_call 20; ((with_reducible refine (own_read_R D2 f n _ ha hz Q5.out).mono ?_); rintro e w6 ⟨rfl, rfl⟩)) | (go_at_call 30; ((with_reducible refine (own_trunc_R D2 f _ hf (I64.nat (by omega)) Q8.out).mono ?_); rintro e w7 ⟨rfl, D3⟩)) | (go_at_call 25; ((with_reducible refine (own_crash_nil D3 rfl).mono ?_); rintro e w8 ⟨rfl, D4⟩)) | (go_at_call 26; ((with_reducible refine (own_start_R D4 rfl).mono ?_); rintro e w9 ⟨rfl, D5⟩)) | (go_at_call 20; ((with_reducible refine (own_read_R D5 f 0 16777216 i0 iB H9.out).mono ?_); rintro e w10 ⟨rfl, rfl⟩)))
                      go_ret
                      exact ⟨rfl, D5.1⟩
end Go.Proofs.Ytgeoompgakdbiaa
