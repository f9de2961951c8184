/- DiskSynced returns true. No condition. -/
import Derived.Test.YtgeoompgakdbiaaM10
namespace Go.Proofs.Ytgeoompgakdbiaa
open Go.RowKit Go.Maps
set_option linter.unusedSimpArgs false
set_option linter.unusedVariables false
set_option maxRecDepth 100000
theorem more_step (M : Mod) (f : Int) (l : List ActP) (k : Nat) (a : ActP) (h : l[k]? = some a) : moreD M f (l.take (k + 1)) = if moreB f a = true then (doD (moreD M f (l.take k)) a).1 else moreD M f (l.take k) := by
  have : l.take (k + 1) = l.take k ++ [a] := by rw [List.take_add_one, h]; rfl
  rw [this]
  unfold moreD
  rw [List.foldl_append]
  rfl
set_option maxHeartbeats 2000000
theorem synced5 {w : World} {v mv : Value} {l m : List ActP} (h : Acts (fun k => k < w.heap.size) w v l) (hm : Acts (fun k => k < w.heap.size) w mv m) (f : Int) (hf : I64 f) (ko : Option Addr) (kc : Nat) (kl : List Int) (hk : RowF (fun k => k < w.heap.size) 1 w (.slice ko kl.length kc) kl.length (intsC kl)) :
    Calls Try.prog 5 #[v, .int .i64 f, mv, .slice ko kl.length kc] w fun e w' => e = .returned (.bool true) ∧ Exts w w' := by
  have H := Lib.hid h
  have HM := Lib.hid hm
  have HK := Lib.hid hk
  have i0 : I64 0 := by constructor <;> decide
  have iB : I64 16777216 := by constructor <;> decide
  obtain ⟨kn, hkn⟩ : ∃ n, kl.length = n := ⟨_, rfl⟩
  have HK2 : RowKit.Hid (RowF (fun k => k < w.heap.size) 1 w (.slice ko kn kc) kl.length (intsC kl)) := Lib.hid (hkn ▸ hk)
  rw [hkn] at hk HK ⊢
  have HKN := Lib.hid hkn
  clear h hk
  cases hfew : fewB l with
  | false =>
    have HFEW := Lib.hid hfew
    clear hfew hm hkn
    go_enter Try.func5, Try.ntmps5
    go_wp2_with (first | (go_at_call 8; ((with_reducible refine (small8 _).mono ?_); rintro e w1 ⟨rfl, hx1⟩)) | (go_at_call 9; ((with_reducible refine (few9_R (H.out.exts hx1) HFEW.out).mono ?_); rintro e w2 ⟨rfl, rfl⟩)) | (go_at_call 9; ((with_reducible refine (few9_R (HM.out.exts hx1) HFEM.out).mono ?_); rintro e w2 ⟨rfl, rfl⟩)))
    go_ret
    exact ⟨rfl, hx1⟩
  | true =>
    have HFEW := Lib.hid hfew
    clear hfew
    cases hfem : fewB m with
    | false =>
      have HFEM := Lib.hid hfem
      clear hfem hm hkn
      go_enter Try.func5, Try.ntmps5
      go_wp2_with (first | (go_at_call 8; ((with_reducible refine (small8 _).mono ?_); rintro e w1 ⟨rfl, hx1⟩)) | (go_at_call 9; ((with_reducible refine (few9_R (H.out.exts hx1) HFEW.out).mono ?_); rintro e w2 ⟨rfl, rfl⟩)) | (go_at_call 9; ((with_reducible refine (few9_R (HM.out.exts hx1) HFEM.out).mono ?_); rintro e w2 ⟨rfl, rfl⟩)))
      go_ret
      exact ⟨rfl, hx1⟩
    | true =>
      have HFEM := Lib.hid hfem
      clear hfem
      by_cases h1 : 60 < kn
      · have x1 : decide ((60 : Int) < (kn : Int)) = true := by simp; omega
        clear h1 hm hkn
        go_enter Try.func5, Try.ntmps5
        go_wp2_with (first | (go_at_call 8; ((with_reducible refine (small8 _).mono ?_); rintro e w1 ⟨rfl, hx1⟩)) | (go_at_call 9; ((with_reducible refine (few9_R (H.out.exts hx1) HFEW.out).mono ?_); rintro e w2 ⟨rfl, rfl⟩)) | (go_at_call 9; ((with_reducible refine (few9_R (HM.out.exts hx1) HFEM.out).mono ?_); rintro e w2 ⟨rfl, rfl⟩)))
        go_ret
        exact ⟨rfl, hx1⟩
      · have x1 : decide ((60 : Int) < (kn : Int)) = false := by simp; omega
        obtain ⟨mo, n, mc, rfl, hn, hmm⟩ := hm.shape
        have HN := Lib.hid hn
        obtain ⟨hall, h40⟩ := few_all HFEM.out
        have HALL := Lib.hid hall
        have hn40 : n ≤ 40 := by omega
        obtain ⟨⟨M1, r⟩, hs⟩ : ∃ p, SyncD (playD M0 l) f = p := ⟨_, rfl⟩
        obtain ⟨⟨x0, e0⟩, hr0⟩ : ∃ p, readD (playD M0 l) f 0 16777216 = p := ⟨_, rfl⟩
        have HS := Lib.hid hs
        have HR0 := Lib.hid hr0
        clear hm hn hall hmm h1 hkn hr0
        by_cases hr : r = 0
        · subst hr
          have hpl := fun hfit => synced_plain (M := playD M0 l) (f := f) (by rw [hs]) hfit m kl
          obtain ⟨F0, hF0⟩ : ∃ F0, ((playD M0 l).files f).1 = F0 := ⟨_, rfl⟩
          have HF0 := Lib.hid hF0
          rw [hs, HR0.out, hF0] at hpl
          clear hF0
          have HPL := Lib.hid hpl
          clear hs hpl
          go_enter Try.func5, Try.ntmps5
          go_wp2_with (first | (go_at_call 8; ((with_reducible refine (small8 _).mono ?_); rintro e w1 ⟨rfl, hx1⟩)) | (go_at_call 9; ((with_reducible refine (few9_R (H.out.exts hx1) HFEW.out).mono ?_); rintro e w2 ⟨rfl, rfl⟩)) | (go_at_call 9; ((with_reducible refine (few9_R (HM.out.exts hx1) HFEM.out).mono ?_); rintro e w2 ⟨rfl, rfl⟩)) | (go_at_call 22; ((with_reducible refine (own_played hx1 H.out HFEW.out).mono ?_); rintro e w2 ⟨b, rfl, D0⟩; (obtain ⟨q1, q2, q3⟩ := HPL.out (HF0.out ▸ D0.fit f)); (obtain ⟨p1, p2⟩ := Prod.mk.inj q1); subst p1 p2; (have Q2 := Lib.hid q2); (have Q3 := Lib.hid q3); clear q2 q3)) | (go_at_call 20; ((with_reducible refine (own_read_R D0 f 0 16777216 i0 iB HR0.out).mono ?_); rintro e w3 ⟨rfl, rfl⟩)) | (go_at_call 19; ((with_reducible refine (own_sync_R D0 f hf HS.out).mono ?_); rintro e w4 ⟨rfl, D1⟩)) | (go_at_call 20; ((with_reducible refine (own_read_R D1 f 0 16777216 i0 iB Q2.out).mono ?_); rintro e w5 ⟨rfl, rfl⟩)))
          have D1' := Lib.hid D1
          clear D1 D0
          go_loopw [15] (fun si wr => ∃ k : Nat, si = .int .i64 k ∧ k ≤ n ∧ Own w wr b (moreD M1 f (m.take k)) (240 + 6 * k)) (fun si _ => n - (intOf si).toNat)
          case atStart => exact ⟨0, rfl, Nat.zero_le _, D1'.out⟩
          case round =>
            obtain ⟨k, rfl, hk, hD⟩ := hrel
            by_cases hlt : k < n
            · obtain ⟨a, ha⟩ : ∃ a, m[k]? = some a := ⟨_, List.getElem?_eq_getElem (by rw [← HN.out]; exact hlt)⟩
              obtain ⟨ab, off, ko', kc', rfl, lb, c0, c1, c2, c3, c4, hkeep⟩ := HM.out.get ha
              have hok := okA_ok (List.all_eq_true.1 HALL.out a (List.mem_of_getElem? ha)) (HM.out.1 a (List.mem_of_getElem? ha))
              have hkeep : RowF (fun k => k < w.heap.size) 1 w (.slice ko' a.keep.length kc') a.keep.length (intsC a.keep) := hkeep
              have hstep := more_step M1 f m k a ha
              have d0 := Exts.cell hD.1 c0
              have d1 := Exts.cell hD.1 c1
              have d2 := Exts.cell hD.1 c2
              have d3 := Exts.cell hD.1 c3
              have d4 := Exts.cell hD.1 c4
              have hlr : ab < wr.heap.size := World.block_lt_of_cell? wr _ d0
              clear c0 c1 c2 c3 c4
              obtain ⟨o, ho⟩ : ∃ o, bits BinOp.and .i64 a.op 7 = o := ⟨_, rfl⟩
              have hop : opD a = o := ho
              have hM : moreB f a = (decide (o < 4) && !(a.f == f) || o == 4) := by unfold moreB; rw [hop]
              by_cases g1 : o < 4
              · have y1 : decide (o < 4) = true := by simpa using g1
                have y2 : (o == 4) = false := by rw [beq_eq_false_iff_ne]; omega
                by_cases g2 : a.f = f
                · have y3 : (a.f == f) = true := by simpa using g2
                  have hmb : moreB f a = false := by rw [hM, y1, y2, y3]; rfl
                  clear hM g1 g2
                  have HST := Lib.hid (hstep.trans (if_neg (by rw [hmb]; decide)))
                  clear ha hstep hmb hop
                  go_wp2
                  refine ⟨⟨k + 1, by go_num, by omega, ?_⟩, by simp [intOf]; omega⟩
                  rw [HST.out]
                  exact hD.more (by omega) (by omega)
                · have y3 : (a.f == f) = false := by simpa using g2
                  have y3' : (a.f != f) = true := by simpa using g2
                  have hmb : moreB f a = true := by rw [hM, y1, y2, y3]; rfl
                  clear hM g1 g2
                  have HST := Lib.hid (hstep.trans (if_pos hmb))
                  have hcall := own_do_R hD hkeep hok (by omega) rfl
                  clear ha hstep hmb hop
                  go_wp2_with (first | (go_at_call 12; ((with_reducible refine hcall.mono ?_); rintro e w9 ⟨rfl, D9⟩)))
                  refine ⟨⟨k + 1, by go_num, by omega, ?_⟩, by simp [intOf]; omega⟩
                  rw [HST.out]
                  exact D9.more (by omega) (by omega)
              · have y1 : decide (o < 4) = false := by simpa using g1
                by_cases g2 : o = 4
                · have y2 : (o == 4) = true := by simpa using g2
                  have hmb : moreB f a = true := by rw [hM, y1, y2]; rfl
                  clear hM g1 g2
                  have HST := Lib.hid (hstep.trans (if_pos hmb))
                  have hcall := own_do_R hD hkeep hok (by omega) rfl
                  clear ha hstep hmb hop
                  go_wp2_with (first | (go_at_call 12; ((with_reducible refine hcall.mono ?_); rintro e w9 ⟨rfl, D9⟩)))
                  refine ⟨⟨k + 1, by go_num, by omega, ?_⟩, by simp [intOf]; omega⟩
                  rw [HST.out]
                  exact D9.more (by omega) (by omega)
                · have y2 : (o == 4) = false := by simpa using g2
                  have hmb : moreB f a = false := by rw [hM, y1, y2]; rfl
                  clear hM g1 g2
                  have HST := Lib.hid (hstep.trans (if_neg (by rw [hmb]; decide)))
                  clear ha hstep hmb hop
                  go_wp2
                  refine ⟨⟨k + 1, by go_num, by omega, ?_⟩, by simp [intOf]; omega⟩
                  rw [HST.out]
                  exact hD.more (by omega) (by omega)
            · obtain rfl : k = n := by omega
              have e1 : m.take k = m := List.take_of_length_le (by rw [HN.out]; exact Nat.le_refl _)
              rw [e1] at hD
              have HD := Lib.hid hD
              clear hD e1
              go_wp2_with (first | (go_at_call 25; ((with_reducible refine (own_crash_R HD.out HK2.out rfl).mono ?_); rintro e w8 ⟨rfl, D4⟩)) | (go_at_call 26; ((with_reducible refine (own_start_R D4 rfl).mono ?_); rintro e w9 ⟨rfl, D5⟩)) | (go_at_call 20; ((with_reducible refine (own_read_R D5 f 0 16777216 i0 iB Q3.out).mono ?_); rintro e w10 ⟨rfl, rfl⟩)))
              go_ret
              exact ⟨rfl, D5.1⟩
        · have y5 : (r == 0) = false := by simpa using hr
          have y6 : (r != 0) = true := by simpa using hr
          clear hs hr
          go_enter Try.func5, Try.ntmps5
          go_wp2_with (first | (go_at_call 8; ((with_reducible refine (small8 _).mono ?_); rintro e w1 ⟨rfl, hx1⟩)) | (go_at_call 9; ((with_reducible refine (few9_R (H.out.exts hx1) HFEW.out).mono ?_); rintro e w2 ⟨rfl, rfl⟩)) | (go_at_call 9; ((with_reducible refine (few9_R (HM.out.exts hx1) HFEM.out).mono ?_); rintro e w2 ⟨rfl, rfl⟩)) | (go_at_call 22; ((with_reducible refine (own_played hx1 H.out HFEW.out).mono ?_); rintro e w2 ⟨b, rfl, D0⟩)) | (go_at_call 20; ((with_reducible refine (own_read_R D0 f 0 16777216 i0 iB HR0.out).mono ?_); rintro e w3 ⟨rfl, rfl⟩)) | (go_at_call 19; ((with_reducible refine (own_sync_R D0 f hf HS.out).mono ?_); rintro e w4 ⟨rfl, D1⟩)))
          go_ret
          exact ⟨rfl, D1.1⟩
end Go.Proofs.Ytgeoompgakdbiaa
