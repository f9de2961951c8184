/- LexJoins returns true. Condition: the table of signs is as the program lays it. -/
import Derived.Test.YtjenpmeknlgadaaDoorJoinsPlain
import Derived.Test.YtjenpmeknlgadaaDoorBack
namespace Go.Proofs.YtjenpmeknlgadaaDoor
open Go.RowKit
set_option linter.unusedSimpArgs false
set_option linter.unusedVariables false

theorem three_list (x y S : ByteArray) (X Y : List UInt8) (q : UInt8) (hx : x.data.toList = X) (hy : y.data.toList = Y) (hS : S.data.toList = [q]) : (x ++ S ++ y).data.toList = X ++ q :: Y := by
  rw [ByteArray.data_append, ByteArray.data_append, Array.toList_append, Array.toList_append, hx, hy, hS, List.append_assoc]
  rfl
set_option maxRecDepth 100000
set_option maxHeartbeats 1000000
theorem sep_of (n : Int) (h : 0 ≤ n ∧ n ≤ 255) : ∃ (r : Nat) (q : UInt8), n % 3 = (r : Int) ∧ r < 3 ∧ blankI (q.toNat : Int) = true ∧ ((⟨#[9, 10, 32]⟩ : ByteArray).extract r (r + 1)).data.toList = [q] := by
  have : n % 3 = 0 ∨ n % 3 = 1 ∨ n % 3 = 2 := by omega
  rcases this with h | h | h
  · exact ⟨0, 9, h, by decide, by decide, by decide⟩
  · exact ⟨1, 10, h, by decide, by decide, by decide⟩
  · exact ⟨2, 32, h, by decide, by decide, by decide⟩
theorem joins6_e1 (s t : ByteArray) (n : Int) (w : World) (hs : s.size ≤ 9223372036854775807) (ht : t.size ≤ 9223372036854775807) (hn : 0 ≤ n ∧ n ≤ 255) (r : Nat) (q : UInt8) (hr1 : n % 3 = (r : Int)) (hr3 : r < 3) (hq : ((⟨#[9, 10, 32]⟩ : ByteArray).extract r (r + 1)).data.toList = [q]) (h : Signs w) (X Y : List UInt8) (hX : s.data.toList.take 3000 = X) (hY : t.data.toList.take 3000 = Y) (al bs cs : List TP) (i k e f z g : Int) (na nb nc : Nat) (hA : lexS X = (al, i, e)) (hB : lexS Y = (bs, k, f)) (hC : lexS (X ++ q :: Y) = (cs, z, g)) (hna : al.length = na) (hnb : bs.length = nb) (hnc : cs.length = nc)
    (he : e ≠ 0) (hg : g = e) (hz : z = i) (hc0 : nc = 0) :
    Calls Tryd.prog 6 #[.string s, .string t, .int .u8 n] w fun e w' => e = .returned (.bool true) ∧ Exts w w' := by
  have HQ := Lib.hid hq
  clear hq
  have HS := Lib.hid h
  have HX := Lib.hid hX
  have HY := Lib.hid hY
  have hX3 : X.length ≤ 3000 := by rw [← hX, List.length_take]; omega
  have hY3 : Y.length ≤ 3000 := by rw [← hY, List.length_take]; omega
  have HA := Lib.hid hA
  have HB := Lib.hid hB
  have HC := Lib.hid hC
  have HNA := Lib.hid hna
  have HNB := Lib.hid hnb
  have HNC := Lib.hid hnc
  clear h hX hY hA hB hC hna hnb hnc
  obtain ⟨hn0, hn1⟩ := hn
  have q1 : (e == 0) = false := by simpa using he
  have q2 : (e != 0) = true := by simpa using he
  have q3 : (g == e) = true := by simpa using hg
  have q4 : (z == i) = true := by simpa using hz
  subst hc0
  clear he hg hz
  go_enter Tryd.func6, Tryd.ntmps6
  go_wp2_with (first | (go_at_call 9; refine (small9 _ (HS.out.exts (by repeat (first | exact Exts.refl _ | apply Exts.andR | apply Exts.alloc | apply Exts.wext | apply Exts.drew | apply Exts.drewN)))).mono ?_; rintro e w' ⟨rfl, x1, rfl⟩) | (go_at_call 10; ((with_reducible refine (cut10 s _ hs).mono ?_); rintro e w' ⟨x, rfl, hx, rfl⟩; (have HXX := Lib.hid (hx.trans HX.out)); (have hxs : x.size = X.length := by rw [← data_len x, HXX.out]); clear hx)) | (go_at_call 10; ((with_reducible refine (cut10 t _ ht).mono ?_); rintro e w' ⟨y, rfl, hy, rfl⟩; (have HYY := Lib.hid (hy.trans HY.out)); (have hys : y.size = Y.length := by rw [← data_len y, HYY.out]); clear hy)) | (go_at_call 11; ((with_reducible refine (lex11_N x X al i _ _ _ HXX.out HA.out HNA.out (by omega) (HS.out.exts (by repeat (first | exact Exts.refl _ | apply Exts.andR | apply Exts.alloc | apply Exts.wext | apply Exts.drew | apply Exts.drewN)))).mono ?_); rintro e' w' ⟨ao, ca, rfl, ⟨x2, rfl⟩, hr⟩; (try simp only [wext_and] at hr); (have H1 := Lib.hid hr); clear hr)) | (go_at_call 11; ((with_reducible refine (lex11_N y Y bs _ _ _ _ HYY.out HB.out HNB.out (by omega) (HS.out.exts (by repeat (first | exact Exts.refl _ | apply Exts.andR | apply Exts.alloc | apply Exts.wext | apply Exts.drew | apply Exts.drewN)))).mono ?_); rintro e' w' ⟨bo, cb, rfl, ⟨x3, rfl⟩, hr⟩; (try simp only [wext_and] at hr); (have H2 := Lib.hid hr); clear hr)) | (go_at_call 11; ((with_reducible refine (lex11_N (x ++ (⟨#[9, 10, 32]⟩ : ByteArray).extract r (r + 1) ++ y) (X ++ q :: Y) cs z _ _ _ (three_list x y _ X Y q HXX.out HYY.out HQ.out) HC.out HNC.out (by rw [← data_len, three_list x y _ X Y q HXX.out HYY.out HQ.out, List.length_append, List.length_cons]; omega) (HS.out.exts (by repeat (first | exact Exts.refl _ | apply Exts.andR | apply Exts.alloc | apply Exts.wext | apply Exts.drew | apply Exts.drewN)))).mono ?_); rintro e' w' ⟨co, cc, rfl, ⟨x4, rfl⟩, hr⟩; (try simp only [wext_and] at hr); (have H3 := Lib.hid hr); clear hr)))
  go_ret
  exact ⟨rfl, (by repeat (first | exact Exts.refl _ | apply Exts.andR | apply Exts.alloc | apply Exts.wext | apply Exts.drew | apply Exts.drewN))⟩
theorem joins6_e2 (s t : ByteArray) (n : Int) (w : World) (hs : s.size ≤ 9223372036854775807) (ht : t.size ≤ 9223372036854775807) (hn : 0 ≤ n ∧ n ≤ 255) (r : Nat) (q : UInt8) (hr1 : n % 3 = (r : Int)) (hr3 : r < 3) (hq : ((⟨#[9, 10, 32]⟩ : ByteArray).extract r (r + 1)).data.toList = [q]) (h : Signs w) (X Y : List UInt8) (hX : s.data.toList.take 3000 = X) (hY : t.data.toList.take 3000 = Y) (al bs cs : List TP) (i e f z g : Int) (k : Nat) (na nb nc : Nat) (hA : lexS X = (al, i, e)) (hB : lexS Y = (bs, (k : Int), f)) (hC : lexS (X ++ q :: Y) = (cs, z, g)) (hna : al.length = na) (hnb : bs.length = nb) (hnc : cs.length = nc)
    (he : e = 0) (hf : f ≠ 0) (hk : k < 3000) (hg : g = f) (hz : z = (k : Int) + ((X.length + 1 : Nat) : Int)) (hc0 : nc = 0) :
    Calls Tryd.prog 6 #[.string s, .string t, .int .u8 n] w fun e w' => e = .returned (.bool true) ∧ Exts w w' := by
  have HQ := Lib.hid hq
  clear hq
  have HS := Lib.hid h
  have HX := Lib.hid hX
  have HY := Lib.hid hY
  have hX3 : X.length ≤ 3000 := by rw [← hX, List.length_take]; omega
  have hY3 : Y.length ≤ 3000 := by rw [← hY, List.length_take]; omega
  have HA := Lib.hid hA
  have HB := Lib.hid hB
  have HC := Lib.hid hC
  have HNA := Lib.hid hna
  have HNB := Lib.hid hnb
  have HNC := Lib.hid hnc
  clear h hX hY hA hB hC hna hnb hnc
  obtain ⟨hn0, hn1⟩ := hn
  have q1 : (f == 0) = false := by simpa using hf
  have q2 : (f != 0) = true := by simpa using hf
  have q3 : (g == f) = true := by simpa using hg
  have q4 : (z == (X.length : Int) + 1 + (k : Int)) = true := by simp; omega
  subst hc0 he
  clear hf hg hz
  go_enter Tryd.func6, Tryd.ntmps6
  go_wp2_with (first | (go_at_call 9; refine (small9 _ (HS.out.exts (by repeat (first | exact Exts.refl _ | apply Exts.andR | apply Exts.alloc | apply Exts.wext | apply Exts.drew | apply Exts.drewN)))).mono ?_; rintro e w' ⟨rfl, x1, rfl⟩) | (go_at_call 10; ((with_reducible refine (cut10 s _ hs).mono ?_); rintro e w' ⟨x, rfl, hx, rfl⟩; (have HXX := Lib.hid (hx.trans HX.out)); (have hxs : x.size = X.length := by rw [← data_len x, HXX.out]); clear hx)) | (go_at_call 10; ((with_reducible refine (cut10 t _ ht).mono ?_); rintro e w' ⟨y, rfl, hy, rfl⟩; (have HYY := Lib.hid (hy.trans HY.out)); (have hys : y.size = Y.length := by rw [← data_len y, HYY.out]); clear hy)) | (go_at_call 11; ((with_reducible refine (lex11_N x X al i _ _ _ HXX.out HA.out HNA.out (by omega) (HS.out.exts (by repeat (first | exact Exts.refl _ | apply Exts.andR | apply Exts.alloc | apply Exts.wext | apply Exts.drew | apply Exts.drewN)))).mono ?_); rintro e' w' ⟨ao, ca, rfl, ⟨x2, rfl⟩, hr⟩; (try simp only [wext_and] at hr); (have H1 := Lib.hid hr); clear hr)) | (go_at_call 11; ((with_reducible refine (lex11_N y Y bs _ _ _ _ HYY.out HB.out HNB.out (by omega) (HS.out.exts (by repeat (first | exact Exts.refl _ | apply Exts.andR | apply Exts.alloc | apply Exts.wext | apply Exts.drew | apply Exts.drewN)))).mono ?_); rintro e' w' ⟨bo, cb, rfl, ⟨x3, rfl⟩, hr⟩; (try simp only [wext_and] at hr); (have H2 := Lib.hid hr); clear hr)) | (go_at_call 11; ((with_reducible refine (lex11_N (x ++ (⟨#[9, 10, 32]⟩ : ByteArray).extract r (r + 1) ++ y) (X ++ q :: Y) cs z _ _ _ (three_list x y _ X Y q HXX.out HYY.out HQ.out) HC.out HNC.out (by rw [← data_len, three_list x y _ X Y q HXX.out HYY.out HQ.out, List.length_append, List.length_cons]; omega) (HS.out.exts (by repeat (first | exact Exts.refl _ | apply Exts.andR | apply Exts.alloc | apply Exts.wext | apply Exts.drew | apply Exts.drewN)))).mono ?_); rintro e' w' ⟨co, cc, rfl, ⟨x4, rfl⟩, hr⟩; (try simp only [wext_and] at hr); (have H3 := Lib.hid hr); clear hr)))
  go_ret
  exact ⟨rfl, (by repeat (first | exact Exts.refl _ | apply Exts.andR | apply Exts.alloc | apply Exts.wext | apply Exts.drew | apply Exts.drewN))⟩
theorem joins6_ok (s t : ByteArray) (n : Int) (w : World) (hs : s.size ≤ 9223372036854775807) (ht : t.size ≤ 9223372036854775807) (hn : 0 ≤ n ∧ n ≤ 255) (r : Nat) (q : UInt8) (hr1 : n % 3 = (r : Int)) (hr3 : r < 3) (hq : ((⟨#[9, 10, 32]⟩ : ByteArray).extract r (r + 1)).data.toList = [q]) (h : Signs w) (X Y : List UInt8) (hX : s.data.toList.take 3000 = X) (hY : t.data.toList.take 3000 = Y) (al bs cs us : List TP) (i k z : Int) (na nb nc nu : Nat) (hA : lexS X = (al, i, 0)) (hB : lexS Y = (bs, k, 0)) (hC : lexS (X ++ q :: Y) = (cs, z, 0)) (hna : al.length = na) (hnb : bs.length = nb) (hnc : cs.length = nc)
    (hnau : na = nu + 1) (hncu : nc = nu + nb) (hnu : nu ≤ 3000) (hnb3 : nb ≤ 3001) (h1 : ∀ (j : Nat) t, j < nu → cs[j]? = some t → al[j]? = some t) (h2 : ∀ (d : Nat) t, cs[nu + d]? = some t → ∃ (u : TP) (p : Nat), bs[d]? = some u ∧ p ≤ 3000 ∧ u.pos = (p : Int) ∧ t = ⟨u.kind, u.text, u.n, ((p + X.length + 1 : Nat) : Int)⟩) :
    Calls Tryd.prog 6 #[.string s, .string t, .int .u8 n] w fun e w' => e = .returned (.bool true) ∧ Exts w w' := by
  have HQ := Lib.hid hq
  clear hq
  have HS := Lib.hid h
  have HX := Lib.hid hX
  have HY := Lib.hid hY
  have hX3 : X.length ≤ 3000 := by rw [← hX, List.length_take]; omega
  have hY3 : Y.length ≤ 3000 := by rw [← hY, List.length_take]; omega
  have HA := Lib.hid hA
  have HB := Lib.hid hB
  have HC := Lib.hid hC
  have HNA := Lib.hid hna
  have HNB := Lib.hid hnb
  have HNC := Lib.hid hnc
  clear h hX hY hA hB hC hna hnb hnc
  obtain ⟨hn0, hn1⟩ := hn
  have HU1 := Lib.hid h1
  have HU2 := Lib.hid h2
  subst hnau hncu
  clear h1 h2
  go_enter Tryd.func6, Tryd.ntmps6
  go_wp2_with (first | (go_at_call 9; refine (small9 _ (HS.out.exts (by repeat (first | exact Exts.refl _ | apply Exts.andR | apply Exts.alloc | apply Exts.wext | apply Exts.drew | apply Exts.drewN)))).mono ?_; rintro e w' ⟨rfl, x1, rfl⟩) | (go_at_call 10; ((with_reducible refine (cut10 s _ hs).mono ?_); rintro e w' ⟨x, rfl, hx, rfl⟩; (have HXX := Lib.hid (hx.trans HX.out)); (have hxs : x.size = X.length := by rw [← data_len x, HXX.out]); clear hx)) | (go_at_call 10; ((with_reducible refine (cut10 t _ ht).mono ?_); rintro e w' ⟨y, rfl, hy, rfl⟩; (have HYY := Lib.hid (hy.trans HY.out)); (have hys : y.size = Y.length := by rw [← data_len y, HYY.out]); clear hy)) | (go_at_call 11; ((with_reducible refine (lex11_N x X al i _ _ _ HXX.out HA.out HNA.out (by omega) (HS.out.exts (by repeat (first | exact Exts.refl _ | apply Exts.andR | apply Exts.alloc | apply Exts.wext | apply Exts.drew | apply Exts.drewN)))).mono ?_); rintro e' w' ⟨ao, ca, rfl, ⟨x2, rfl⟩, hr⟩; (try simp only [wext_and] at hr); (have H1 := Lib.hid hr); clear hr)) | (go_at_call 11; ((with_reducible refine (lex11_N y Y bs _ _ _ _ HYY.out HB.out HNB.out (by omega) (HS.out.exts (by repeat (first | exact Exts.refl _ | apply Exts.andR | apply Exts.alloc | apply Exts.wext | apply Exts.drew | apply Exts.drewN)))).mono ?_); rintro e' w' ⟨bo, cb, rfl, ⟨x3, rfl⟩, hr⟩; (try simp only [wext_and] at hr); (have H2 := Lib.hid hr); clear hr)) | (go_at_call 11; ((with_reducible refine (lex11_N (x ++ (⟨#[9, 10, 32]⟩ : ByteArray).extract r (r + 1) ++ y) (X ++ q :: Y) cs z _ _ _ (three_list x y _ X Y q HXX.out HYY.out HQ.out) HC.out HNC.out (by rw [← data_len, three_list x y _ X Y q HXX.out HYY.out HQ.out, List.length_append, List.length_cons]; omega) (HS.out.exts (by repeat (first | exact Exts.refl _ | apply Exts.andR | apply Exts.alloc | apply Exts.wext | apply Exts.drew | apply Exts.drewN)))).mono ?_); rintro e' w' ⟨co, cc, rfl, ⟨x4, rfl⟩, hr⟩; (try simp only [wext_and] at hr); (have H3 := Lib.hid hr); clear hr)))
  go_loopw [21] (fun i wr => ∃ (j : Nat), j ≤ nu + nb ∧ i = .int .i64 j ∧ Exts (wext w (((x1.and x2).and x3).and x4)) wr) (fun i _ => nu + nb - (intOf i).toNat)
  case atStart => exact ⟨0, by omega, rfl, Exts.refl _⟩
  case round =>
    obtain ⟨j, hj, rfl, yy, rfl⟩ := hrel
    have HX0 := Lib.hid (show Exts (wext w (((x1.and x2).and x3).and x4)) (wext w ((((x1.and x2).and x3).and x4).and yy)) from ⟨yy, (wext_and ..).symm⟩)
    by_cases hlt : j < nu + nb
    · obtain ⟨t3, ht3⟩ : ∃ t, cs[j]? = some t := ⟨cs[j]'(by rw [HNC.out]; exact hlt), List.getElem?_eq_getElem (by rw [HNC.out]; exact hlt)⟩
      obtain ⟨b3, o3, rfl, hb3, e0, e1, e2, e3⟩ := Toks.get (RowF.exts H3.out HX0.out) ht3
      by_cases hlt2 : j < nu
      · have ht1 := HU1.out j t3 hlt2 ht3
        obtain ⟨b1, o1, rfl, hb1, d0, d1, d2, d3⟩ := Toks.get (RowF.exts H1.out (show Exts _ (wext w ((((x1.and x2).and x3).and x4).and yy)) from by first | exact (by repeat (first | exact Exts.refl _ | apply Exts.andR | apply Exts.alloc | apply Exts.wext | apply Exts.drew | apply Exts.drewN)))) ht1
        simp only [wext_size, add_and_size, ← Nat.add_assoc] at hb1 hb3
        have hb3' := Nat.lt_succ_of_lt hb3
        have hb3'' := Nat.lt_succ_of_lt hb3'
        clear ht1 ht3
        go_wp2
        first | refine wp_region_ext_lit2 (by kernel_rfl) (by kernel_rfl) ?_ | refine wp_region_ext_lit (by kernel_rfl) (by kernel_rfl) ?_
        repeat (go_big_quiet_step (fail))
        refine wpQuiet_nil ?_
        intro _ hwq'
        obtain ⟨xq, hwq''⟩ := hwq'
        subst hwq''
        go_wp2
        refine ⟨⟨j + 1, by omega, by go_num, (by repeat (first | exact HX0.out | apply Exts.alloc | apply Exts.wext | apply Exts.drew | apply Exts.drewN))⟩, ?_⟩
        simp [intOf]; omega
      · obtain ⟨d, rfl⟩ : ∃ d, j = nu + d := ⟨j - nu, by omega⟩
        obtain ⟨⟨uk, ut, un, up⟩, p, hu, hp, rfl, rfl⟩ := HU2.out d t3 ht3
        obtain ⟨b2, o2, rfl, hb2, d0, d1, d2, d3⟩ := Toks.get (RowF.exts H2.out (show Exts _ (wext w ((((x1.and x2).and x3).and x4).and yy)) from by first | exact (by repeat (first | exact Exts.refl _ | apply Exts.andR | apply Exts.alloc | apply Exts.wext | apply Exts.drew | apply Exts.drewN)))) hu
        have hdb : d < nb := by omega
        have hix : (nu : Int) + (d : Int) - ((nu : Int) + 1) + 1 = (d : Int) := by omega
        simp only at e0 e1 e2 e3 d0 d1 d2 d3
        simp only [wext_size, add_and_size, ← Nat.add_assoc] at hb2 hb3
        have hb3' := Nat.lt_succ_of_lt hb3
        clear hu ht3
        go_wp2
        first | refine wp_region_ext_lit2 (by kernel_rfl) (by kernel_rfl) ?_ | refine wp_region_ext_lit (by kernel_rfl) (by kernel_rfl) ?_
        repeat (go_big_quiet_step (fail))
        refine wpQuiet_nil ?_
        intro _ hwq'
        obtain ⟨xq, hwq''⟩ := hwq'
        subst hwq''
        go_wp2
        refine ⟨⟨nu + d + 1, by omega, by go_num, (by repeat (first | exact HX0.out | apply Exts.alloc | apply Exts.wext | apply Exts.drew | apply Exts.drewN))⟩, ?_⟩
        simp [intOf]; omega
    · obtain rfl : j = nu + nb := by omega
      go_wp2
      go_ret
      exact ⟨rfl, (by repeat (first | exact Exts.refl _ | apply Exts.andR | apply Exts.alloc | apply Exts.wext | apply Exts.drew | apply Exts.drewN))⟩
theorem joins6 (s t : ByteArray) (n : Int) (w : World) (hs : s.size ≤ 9223372036854775807) (ht : t.size ≤ 9223372036854775807) (hn : 0 ≤ n ∧ n ≤ 255) (h : Signs w) : Calls Tryd.prog 6 #[.string s, .string t, .int .u8 n] w fun e w' => e = .returned (.bool true) ∧ Exts w w' := by
  obtain ⟨r, q, hr, hr3, hb, hq⟩ := sep_of n hn
  obtain ⟨⟨al, i, e⟩, hA⟩ : ∃ D, lexS (s.data.toList.take 3000) = D := ⟨_, rfl⟩
  obtain ⟨⟨bs, k, f⟩, hB⟩ : ∃ D, lexS (t.data.toList.take 3000) = D := ⟨_, rfl⟩
  have hX3 : (s.data.toList.take 3000).length ≤ 3000 := by rw [List.length_take]; omega
  have hY3 : (t.data.toList.take 3000).length ≤ 3000 := by rw [List.length_take]; omega
  by_cases he : e = 0
  · subst he
    by_cases hf : f = 0
    · subst hf
      obtain ⟨us, rfl, hu, hb3, hC, hp⟩ := joins_two hX3 hY3 hb hA hB
      refine joins6_ok s t n w hs ht hn r q hr hr3 hq h _ _ rfl rfl _ bs _ us i k 0 _ _ _ us.length hA hB hC rfl rfl rfl (by simp) (by simp) hu hb3 ?_ ?_
      · intro j x hj hx
        rw [List.getElem?_append_left hj] at hx ⊢
        exact hx
      · intro d x hx
        rw [List.getElem?_append_right (by omega), Nat.add_sub_cancel_left, List.getElem?_map] at hx
        cases hd : bs[d]? with
        | none => rw [hd] at hx; cases hx
        | some u =>
          rw [hd] at hx
          obtain ⟨p, h1, h2⟩ := hp d u hd
          refine ⟨u, p, rfl, h2, h1, ?_⟩
          simp only [Option.map_some, Option.some.injEq] at hx
          rw [← hx]
          simp only [TP.up, h1, TP.mk.injEq, true_and]
          omega
    · obtain ⟨_, rfl, m, rfl, hm, hC⟩ := joins_err2 hX3 hY3 hb hA hB hf
      exact joins6_e2 s t n w hs ht hn r q hr hr3 hq h _ _ rfl rfl _ _ _ i 0 f _ f m _ _ _ hA hB hC rfl rfl rfl rfl hf hm rfl rfl rfl
  · obtain ⟨hC, rfl⟩ := joins_err1 hX3 hY3 hb hA he
    exact joins6_e1 s t n w hs ht hn r q hr hr3 hq h _ _ rfl rfl _ _ _ i k e f i e _ _ _ hA hB hC rfl rfl rfl he rfl rfl rfl
end Go.Proofs.YtjenpmeknlgadaaDoor
