/- LexWords returns true. Condition: the table of signs is as the program lays it. -/
import Derived.Test.YtjenpmeknlgadaaDoorWordsPlain
import Derived.Test.YtjenpmeknlgadaaDoorSmall
namespace Go.Proofs.YtjenpmeknlgadaaDoor
open Go.RowKit
set_option linter.unusedSimpArgs false
set_option linter.unusedVariables false

set_option maxRecDepth 100000
set_option maxHeartbeats 1000000
/-- cut: at most 3000 bytes. -/
theorem cut10 (s : ByteArray) (w : World) (hs : s.size ≤ 9223372036854775807) : Calls Tryd.prog 10 #[.string s] w fun e w' => ∃ t : ByteArray, e = .returned (.string t) ∧ t.data.toList = s.data.toList.take 3000 ∧ w = w' := by
  have HT := Lib.hid (show (s.extract 0 (min (s.size : Int) 3000).toNat).data.toList = s.data.toList.take 3000 by
    have hm : (min (s.size : Int) 3000).toNat = min s.size 3000 := by omega
    rw [Lib.extract_data, List.drop_zero, hm]
    by_cases h : s.size ≤ 3000
    · rw [List.take_of_length_le (by rw [data_len]; omega), List.take_of_length_le (by rw [data_len]; omega)]
    · rw [show min s.size 3000 = 3000 by omega, Nat.sub_zero])
  go_enter Tryd.func10, Tryd.ntmps10
  go_wp2
  go_ret
  exact ⟨_, rfl, HT.out, rfl⟩

theorem lex11_D (t : ByteArray) (l : List UInt8) (ts : List TP) (at' c : Int) (w : World) (hl : t.data.toList = l) (hD : lexS l = (ts, at', c)) (hs : t.size ≤ 9223372036854775807) (hsg : Signs w) :
    Calls Tryd.prog 11 #[.string t] w fun e w' => ∃ ao k, e = .returned (.tuple #[.slice ao ts.length k, .int .i64 at', .int .i64 c]) ∧ Exts w w' ∧ RowF (fun b => w.heap.size ≤ b) 4 w' (.slice ao ts.length k) ts.length (tokFlat ts) := by
  have := lex11 t w hs hsg
  rw [hl, hD] at this
  exact this
theorem number13_D (t : ByteArray) (l : List UInt8) (v : Int) (o : Bool) (w : World) (hl : t.data.toList = l) (hD : numD l = (v, o)) (hs : t.size ≤ 9223372036854775807) :
    Calls Tryd.prog 13 #[.string t] w fun e w' => e = .returned (.tuple #[.int .i64 v, .bool o]) ∧ w = w' := by
  have := number13 t w hs
  rw [hl, hD] at this
  exact this
theorem word16_D (t : ByteArray) (l : List UInt8) (o : Bool) (w : World) (hl : t.data.toList = l) (hD : wordB l = o) (hs : t.size ≤ 9223372036854775807) :
    Calls Tryd.prog 16 #[.string t] w fun e w' => e = .returned (.bool o) ∧ w = w' := by
  have := word16 t w hs
  rw [hl, hD] at this
  exact this

theorem txt_eq (a : List UInt8) (t : ByteArray) (T : List UInt8) (ht : t.data.toList = T) : (a == t.toList) = decide (a = T) := by
  rw [Lib.toList_data, ht, Bool.eq_iff_iff]
  simp
set_option maxHeartbeats 2000000 in
theorem words8_no (s : ByteArray) (w : World) (hs : s.size ≤ 9223372036854775807) (h : Signs w) (ts : List TP) (at' c : Int) (hD : lexS (s.data.toList.take 3000) = (ts, at', c)) (hb : c ≠ 0 ∨ ts.length ≠ 2) :
    Calls Tryd.prog 8 #[.string s] w fun e w' => e = .returned (.bool true) ∧ Exts w w' := by
  have HS := Lib.hid h
  have HD := Lib.hid hD
  have hw := words_no (T := s.data.toList.take 3000) (by rw [List.length_take]; omega) (by rw [hD]; exact hb)
  have HN := Lib.hid hw.2
  have HW := Lib.hid hw.1
  by_cases hc : c = 0
  · subst hc
    have h2 : ts.length ≠ 2 := by
      rcases hb with hb | hb
      · exact absurd rfl hb
      · exact hb
    have q1 : ((ts.length : Int) == 2) = false := by simp; omega
    have q2 : ((ts.length : Int) != 2) = true := by simp; omega
    clear h hD hb hw h2
    go_enter Tryd.func8, Tryd.ntmps8
    go_wp2_with (first | (go_at_call 9; refine (small9 _ (HS.out.exts (by repeat (first | exact Exts.refl _ | apply Exts.andR | apply Exts.alloc | apply Exts.wext | apply Exts.drew | apply Exts.drewN)))).mono ?_; rintro e w' ⟨rfl, x1, rfl⟩) | (go_at_call 10; refine (cut10 _ _ hs).mono ?_; rintro e w' ⟨t, rfl, ht, rfl⟩; (have hts : t.size ≤ 3000 := by rw [← data_len t, ht, List.length_take]; omega); (have HT := Lib.hid ht); clear ht) | (go_at_call 11; refine (lex11_D _ _ _ _ _ _ HT.out HD.out (by omega) (HS.out.exts (by repeat (first | exact Exts.refl _ | apply Exts.andR | apply Exts.alloc | apply Exts.wext | apply Exts.drew | apply Exts.drewN)))).mono ?_; rintro e w' ⟨ao, k, rfl, ⟨x2, rfl⟩, hr⟩; (try simp only [wext_and] at hr); clear hr) | (go_at_call 13; refine (number13_D _ _ 0 false _ HT.out HN.out (by omega)).mono ?_; rintro e w' ⟨rfl, rfl⟩) | (go_at_call 16; refine (word16_D _ _ false _ HT.out HW.out (by omega)).mono ?_; rintro e w' ⟨rfl, rfl⟩))
    go_ret
    exact ⟨rfl, (by repeat (first | exact Exts.refl _ | apply Exts.andR | apply Exts.alloc | apply Exts.wext | apply Exts.drew | apply Exts.drewN))⟩
  · have q1 : (c == 0) = false := by simpa using hc
    have q2 : (c != 0) = true := by simpa using hc
    clear h hD hb hw hc
    go_enter Tryd.func8, Tryd.ntmps8
    go_wp2_with (first | (go_at_call 9; refine (small9 _ (HS.out.exts (by repeat (first | exact Exts.refl _ | apply Exts.andR | apply Exts.alloc | apply Exts.wext | apply Exts.drew | apply Exts.drewN)))).mono ?_; rintro e w' ⟨rfl, x1, rfl⟩) | (go_at_call 10; refine (cut10 _ _ hs).mono ?_; rintro e w' ⟨t, rfl, ht, rfl⟩; (have hts : t.size ≤ 3000 := by rw [← data_len t, ht, List.length_take]; omega); (have HT := Lib.hid ht); clear ht) | (go_at_call 11; refine (lex11_D _ _ _ _ _ _ HT.out HD.out (by omega) (HS.out.exts (by repeat (first | exact Exts.refl _ | apply Exts.andR | apply Exts.alloc | apply Exts.wext | apply Exts.drew | apply Exts.drewN)))).mono ?_; rintro e w' ⟨ao, k, rfl, ⟨x2, rfl⟩, hr⟩; (try simp only [wext_and] at hr); clear hr) | (go_at_call 13; refine (number13_D _ _ 0 false _ HT.out HN.out (by omega)).mono ?_; rintro e w' ⟨rfl, rfl⟩) | (go_at_call 16; refine (word16_D _ _ false _ HT.out HW.out (by omega)).mono ?_; rintro e w' ⟨rfl, rfl⟩))
    go_ret
    exact ⟨rfl, (by repeat (first | exact Exts.refl _ | apply Exts.andR | apply Exts.alloc | apply Exts.wext | apply Exts.drew | apply Exts.drewN))⟩
set_option maxHeartbeats 4000000 in
theorem words8_yes (s : ByteArray) (w : World) (hs : s.size ≤ 9223372036854775807) (h : Signs w) (t0 u0 : TP) (at' : Int) (hD : lexS (s.data.toList.take 3000) = ([t0, u0], at', 0)) :
    Calls Tryd.prog 8 #[.string s] w fun e w' => e = .returned (.bool true) ∧ Exts w w' := by
  have HS := Lib.hid h
  have HD := Lib.hid hD
  obtain ⟨k1, k2, k3, k4⟩ := words_yes (T := s.data.toList.take 3000) (by rw [List.length_take]; omega) hD
  obtain ⟨⟨v, o⟩, hN⟩ : ∃ D, numD (s.data.toList.take 3000) = D := ⟨_, rfl⟩
  obtain ⟨wb, hW⟩ : ∃ D, wordB (s.data.toList.take 3000) = D := ⟨_, rfl⟩
  rw [hN] at k2 k3
  rw [hW] at k1 k4
  simp only at k2 k3
  have HN := Lib.hid hN
  have HW := Lib.hid hW
  obtain ⟨eq, heq⟩ : ∃ D, decide (t0.text = s.data.toList.take 3000) = D := ⟨_, rfl⟩
  rw [heq] at k1 k2
  have HQ := Lib.hid heq
  clear h hD hN hW heq
  cases eq with
  | false =>
    simp only [Bool.false_and] at k1 k2
    subst k1 k2
    clear k3 k4
    go_enter Tryd.func8, Tryd.ntmps8
    go_wp2_with (first | (go_at_call 9; refine (small9 _ (HS.out.exts (by repeat (first | exact Exts.refl _ | apply Exts.andR | apply Exts.alloc | apply Exts.wext | apply Exts.drew | apply Exts.drewN)))).mono ?_; rintro e w' ⟨rfl, x1, rfl⟩) | (go_at_call 10; refine (cut10 _ _ hs).mono ?_; rintro e w' ⟨t, rfl, ht, rfl⟩; (have hts : t.size ≤ 3000 := by rw [← data_len t, ht, List.length_take]; omega); (have HT := Lib.hid ht); (have hq := (txt_eq t0.text t _ ht).trans HQ.out); clear ht) | (go_at_call 11; refine (lex11_D _ _ _ _ _ _ HT.out HD.out (by omega) (HS.out.exts (by repeat (first | exact Exts.refl _ | apply Exts.andR | apply Exts.alloc | apply Exts.wext | apply Exts.drew | apply Exts.drewN)))).mono ?_; rintro e w' ⟨ao, k, rfl, ⟨x2, rfl⟩, hr⟩; (try simp only [wext_and] at hr); (obtain ⟨b0, o0, rfl, hb0, f0, f1, f2, f3⟩ := Toks.get (i := 0) hr rfl); simp only [Nat.zero_mul, Nat.add_zero] at f0 f1 f2 f3; clear hr) | (go_at_call 13; refine (number13_D _ _ _ _ _ HT.out HN.out (by omega)).mono ?_; rintro e w' ⟨rfl, rfl⟩) | (go_at_call 16; refine (word16_D _ _ _ _ HT.out HW.out (by omega)).mono ?_; rintro e w' ⟨rfl, rfl⟩))
    go_ret
    exact ⟨rfl, (by repeat (first | exact Exts.refl _ | apply Exts.andR | apply Exts.alloc | apply Exts.wext | apply Exts.drew | apply Exts.drewN))⟩
  | true =>
    simp only [Bool.true_and] at k1 k2
    by_cases h0 : t0.kind = 0
    · have h1 : t0.kind ≠ 1 := by omega
      have z0 : (t0.kind == 0) = true := by simpa using h0
      have z1 : (t0.kind == 1) = false := by simpa using h1
      rw [decide_eq_true h0] at k1
      rw [decide_eq_false h1] at k2
      subst k1 k2
      have H20 := Lib.hid (k4 rfl)
      clear k3 k4 h0 h1
      have hsz : ∀ t : ByteArray, t.data.toList = s.data.toList.take 3000 → decide ((t.size : Int) ≤ 20) = true := fun t ht => by
        have := H20.out
        rw [← ht, data_len] at this
        simpa using (by omega : (t.size : Int) ≤ 20)
      have HSZ := Lib.hid hsz
      clear hsz
      go_enter Tryd.func8, Tryd.ntmps8
      go_wp2_with (first | (go_at_call 9; refine (small9 _ (HS.out.exts (by repeat (first | exact Exts.refl _ | apply Exts.andR | apply Exts.alloc | apply Exts.wext | apply Exts.drew | apply Exts.drewN)))).mono ?_; rintro e w' ⟨rfl, x1, rfl⟩) | (go_at_call 10; refine (cut10 _ _ hs).mono ?_; rintro e w' ⟨t, rfl, ht, rfl⟩; (have hts : t.size ≤ 3000 := by rw [← data_len t, ht, List.length_take]; omega); (have HT := Lib.hid ht); (have hz := HSZ.out t ht); (have hq := (txt_eq t0.text t _ ht).trans HQ.out); clear ht) | (go_at_call 11; refine (lex11_D _ _ _ _ _ _ HT.out HD.out (by omega) (HS.out.exts (by repeat (first | exact Exts.refl _ | apply Exts.andR | apply Exts.alloc | apply Exts.wext | apply Exts.drew | apply Exts.drewN)))).mono ?_; rintro e w' ⟨ao, k, rfl, ⟨x2, rfl⟩, hr⟩; (try simp only [wext_and] at hr); (obtain ⟨b0, o0, rfl, hb0, f0, f1, f2, f3⟩ := Toks.get (i := 0) hr rfl); simp only [Nat.zero_mul, Nat.add_zero] at f0 f1 f2 f3; clear hr) | (go_at_call 13; refine (number13_D _ _ _ _ _ HT.out HN.out (by omega)).mono ?_; rintro e w' ⟨rfl, rfl⟩) | (go_at_call 16; refine (word16_D _ _ _ _ HT.out HW.out (by omega)).mono ?_; rintro e w' ⟨rfl, rfl⟩))
      go_ret
      exact ⟨rfl, (by repeat (first | exact Exts.refl _ | apply Exts.andR | apply Exts.alloc | apply Exts.wext | apply Exts.drew | apply Exts.drewN))⟩
    · have z0 : (t0.kind == 0) = false := by simpa using h0
      rw [decide_eq_false h0] at k1
      by_cases h1 : t0.kind = 1
      · have z1 : (t0.kind == 1) = true := by simpa using h1
        rw [decide_eq_true h1] at k2
        subst k1 k2
        obtain ⟨m1, m2, m3⟩ := k3 rfl
        have z2 : (v == t0.n) = true := by simpa using m1
        have z3 : decide (0 ≤ v) = true := by simpa using m2
        have z4 : decide (v ≤ 1099511627776) = true := by simpa using m3
        clear k3 k4 h0 h1 m1
        go_enter Tryd.func8, Tryd.ntmps8
        go_wp2_with (first | (go_at_call 9; refine (small9 _ (HS.out.exts (by repeat (first | exact Exts.refl _ | apply Exts.andR | apply Exts.alloc | apply Exts.wext | apply Exts.drew | apply Exts.drewN)))).mono ?_; rintro e w' ⟨rfl, x1, rfl⟩) | (go_at_call 10; refine (cut10 _ _ hs).mono ?_; rintro e w' ⟨t, rfl, ht, rfl⟩; (have hts : t.size ≤ 3000 := by rw [← data_len t, ht, List.length_take]; omega); (have HT := Lib.hid ht); (have hq := (txt_eq t0.text t _ ht).trans HQ.out); clear ht) | (go_at_call 11; refine (lex11_D _ _ _ _ _ _ HT.out HD.out (by omega) (HS.out.exts (by repeat (first | exact Exts.refl _ | apply Exts.andR | apply Exts.alloc | apply Exts.wext | apply Exts.drew | apply Exts.drewN)))).mono ?_; rintro e w' ⟨ao, k, rfl, ⟨x2, rfl⟩, hr⟩; (try simp only [wext_and] at hr); (obtain ⟨b0, o0, rfl, hb0, f0, f1, f2, f3⟩ := Toks.get (i := 0) hr rfl); simp only [Nat.zero_mul, Nat.add_zero] at f0 f1 f2 f3; clear hr) | (go_at_call 13; refine (number13_D _ _ _ _ _ HT.out HN.out (by omega)).mono ?_; rintro e w' ⟨rfl, rfl⟩) | (go_at_call 16; refine (word16_D _ _ _ _ HT.out HW.out (by omega)).mono ?_; rintro e w' ⟨rfl, rfl⟩))
        go_ret
        exact ⟨rfl, (by repeat (first | exact Exts.refl _ | apply Exts.andR | apply Exts.alloc | apply Exts.wext | apply Exts.drew | apply Exts.drewN))⟩
      · have z1 : (t0.kind == 1) = false := by simpa using h1
        rw [decide_eq_false h1] at k2
        subst k1 k2
        clear k3 k4 h0 h1
        go_enter Tryd.func8, Tryd.ntmps8
        go_wp2_with (first | (go_at_call 9; refine (small9 _ (HS.out.exts (by repeat (first | exact Exts.refl _ | apply Exts.andR | apply Exts.alloc | apply Exts.wext | apply Exts.drew | apply Exts.drewN)))).mono ?_; rintro e w' ⟨rfl, x1, rfl⟩) | (go_at_call 10; refine (cut10 _ _ hs).mono ?_; rintro e w' ⟨t, rfl, ht, rfl⟩; (have hts : t.size ≤ 3000 := by rw [← data_len t, ht, List.length_take]; omega); (have HT := Lib.hid ht); (have hq := (txt_eq t0.text t _ ht).trans HQ.out); clear ht) | (go_at_call 11; refine (lex11_D _ _ _ _ _ _ HT.out HD.out (by omega) (HS.out.exts (by repeat (first | exact Exts.refl _ | apply Exts.andR | apply Exts.alloc | apply Exts.wext | apply Exts.drew | apply Exts.drewN)))).mono ?_; rintro e w' ⟨ao, k, rfl, ⟨x2, rfl⟩, hr⟩; (try simp only [wext_and] at hr); (obtain ⟨b0, o0, rfl, hb0, f0, f1, f2, f3⟩ := Toks.get (i := 0) hr rfl); simp only [Nat.zero_mul, Nat.add_zero] at f0 f1 f2 f3; clear hr) | (go_at_call 13; refine (number13_D _ _ _ _ _ HT.out HN.out (by omega)).mono ?_; rintro e w' ⟨rfl, rfl⟩) | (go_at_call 16; refine (word16_D _ _ _ _ HT.out HW.out (by omega)).mono ?_; rintro e w' ⟨rfl, rfl⟩))
        go_ret
        exact ⟨rfl, (by repeat (first | exact Exts.refl _ | apply Exts.andR | apply Exts.alloc | apply Exts.wext | apply Exts.drew | apply Exts.drewN))⟩
theorem words8 (s : ByteArray) (w : World) (hs : s.size ≤ 9223372036854775807) (h : Signs w) : Calls Tryd.prog 8 #[.string s] w fun e w' => e = .returned (.bool true) ∧ Exts w w' := by
  obtain ⟨⟨ts, at', c⟩, hD⟩ : ∃ D, lexS (s.data.toList.take 3000) = D := ⟨_, rfl⟩
  by_cases hc : c = 0
  · subst hc
    match ts, hD with
    | [], hD => exact words8_no s w hs h _ _ _ hD (Or.inr (by simp))
    | [_], hD => exact words8_no s w hs h _ _ _ hD (Or.inr (by simp))
    | [t, u], hD => exact words8_yes s w hs h t u at' hD
    | _ :: _ :: _ :: _, hD => exact words8_no s w hs h _ _ _ hD (Or.inr (by simp))
  · exact words8_no s w hs h _ _ _ hD (Or.inl hc)
end Go.Proofs.YtjenpmeknlgadaaDoor
