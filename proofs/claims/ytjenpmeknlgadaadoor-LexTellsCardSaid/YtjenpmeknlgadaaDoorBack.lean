/- LexBack returns true. Condition: the table of signs is as the program lays it. -/
import Derived.Test.YtjenpmeknlgadaaDoorLexLaws
import Derived.Test.YtjenpmeknlgadaaDoorWords
namespace Go.Proofs.YtjenpmeknlgadaaDoor
open Go.RowKit
set_option linter.unusedSimpArgs false
set_option linter.unusedVariables false

set_option maxRecDepth 100000
set_option maxHeartbeats 1000000
theorem lex11_N (t : ByteArray) (l : List UInt8) (ts : List TP) (at' c : Int) (n : Nat) (w : World) (hl : t.data.toList = l) (hD : lexS l = (ts, at', c)) (hn : ts.length = n) (hs : t.size ≤ 9223372036854775807) (hsg : Signs w) :
    Calls Tryd.prog 11 #[.string t] w fun e w' => ∃ ao k, e = .returned (.tuple #[.slice ao n k, .int .i64 at', .int .i64 c]) ∧ Exts w w' ∧ RowF (fun b => w.heap.size ≤ b) 4 w' (.slice ao n k) n (tokFlat ts) := by
  subst hn
  exact lex11_D t l ts at' c w hl hD hs hsg
theorem text18_D {S : Nat → Prop} (ao : Option Addr) (n cap : Nat) (ts : List TP) (tx : List UInt8) (w : World) (h : RowF S 4 w (.slice ao n cap) n (tokFlat ts)) (hn : ts.length = n) (hm : n ≤ 100000) (hD : textP ts = tx) (hl : tx.length ≤ 140737488355328) :
    Calls Tryd.prog 18 #[.slice ao n cap] w fun e w' => e = .returned (.string ⟨tx.toArray⟩) ∧ Exts w w' := by
  subst hD
  exact text18 ao n cap ts w h hn hm hl
theorem lexS_err {l : List UInt8} {ts : List TP} {a c : Int} (h : lexS l = (ts, a, c)) (hc : c ≠ 0) : ts = [] := by
  unfold lexS at h
  split at h
  · simp only [Prod.mk.injEq] at h
    exact h.1.symm
  · have := lexGo_err (l.length + 1) l 0 (by rw [h]; exact hc)
    rw [h] at this
    exact this
theorem back4_no (s : ByteArray) (w : World) (hs : s.size ≤ 9223372036854775807) (h : Signs w) (ts : List TP) (at' c : Int) (hD : lexS (s.data.toList.take 3000) = (ts, at', c)) (hc : c ≠ 0) :
    Calls Tryd.prog 4 #[.string s] w fun e w' => e = .returned (.bool true) ∧ Exts w w' := by
  have HS := Lib.hid h
  obtain rfl := lexS_err hD hc
  have HD := Lib.hid hD
  have q1 : (c == 0) = false := by simpa using hc
  have q2 : (c != 0) = true := by simpa using hc
  clear h hD hc
  go_enter Tryd.func4, Tryd.ntmps4
  go_wp2_with (first | (go_at_call 9; refine (small9 _ (HS.out.exts (by repeat (first | exact Exts.refl _ | apply Exts.andR | apply Exts.alloc | apply Exts.wext | apply Exts.drew | apply Exts.drewN)))).mono ?_; rintro e w' ⟨rfl, x1, rfl⟩) | (go_at_call 10; refine (cut10 _ _ hs).mono ?_; rintro e w' ⟨t, rfl, ht, rfl⟩; (have hts : t.size ≤ 3000 := by rw [← data_len t, ht, List.length_take]; omega); (have HT := Lib.hid ht); clear ht) | (go_at_call 11; refine (lex11_N _ _ _ _ _ 0 _ HT.out HD.out rfl (by omega) (HS.out.exts (by repeat (first | exact Exts.refl _ | apply Exts.andR | apply Exts.alloc | apply Exts.wext | apply Exts.drew | apply Exts.drewN)))).mono ?_; rintro e w' ⟨ao, k, rfl, ⟨x2, rfl⟩, hr⟩; clear hr))
  go_ret
  exact ⟨rfl, (by repeat (first | exact Exts.refl _ | apply Exts.andR | apply Exts.alloc | apply Exts.wext | apply Exts.drew | apply Exts.drewN))⟩
set_option maxHeartbeats 4000000 in
theorem back4_ok (s : ByteArray) (w : World) (hs : s.size ≤ 9223372036854775807) (h : Signs w) (ts : List TP) (at' : Int) (hD : lexS (s.data.toList.take 3000) = (ts, at', 0)) :
    Calls Tryd.prog 4 #[.string s] w fun e w' => e = .returned (.bool true) ∧ Exts w w' := by
  have HS := Lib.hid h
  have HD := Lib.hid hD
  obtain ⟨hn3, ht6, us, hu, hb, hul, htu⟩ := back_law (by rw [List.length_take]; omega) hD
  obtain ⟨n, hn⟩ : ∃ n, ts.length = n := ⟨_, rfl⟩
  obtain ⟨tx, htx⟩ : ∃ tx, textP ts = tx := ⟨_, rfl⟩
  rw [htx] at ht6 hu htu
  rw [hn] at hul hn3
  have hlike : ∀ (i : Nat) (a b : TP), ts[i]? = some a → us[i]? = some b → likeT a b := by
    intro i a b ha hb'
    have := congrArg (fun l => l[i]?) hb
    simp only [List.getElem?_map, ha, hb', Option.map_some, Option.some.injEq, TP.bare, TK.mk.injEq] at this
    exact ⟨this.1.symm, this.2.1.symm, this.2.2.symm⟩
  have HU := Lib.hid hu
  have HL := Lib.hid hlike
  have HN := Lib.hid hn
  have HM := Lib.hid hul
  have HX := Lib.hid htx
  have HY := Lib.hid htu
  have hsz : (⟨tx.toArray⟩ : ByteArray).size = tx.length := rfl
  have hq : (tx == tx) = true := by simp
  have HZ := Lib.hid hsz
  clear h hD hu hlike hn hul htx htu hb hsz hq
  go_enter Tryd.func4, Tryd.ntmps4
  go_wp2_with (first | (go_at_call 9; refine (small9 _ (HS.out.exts (by repeat (first | exact Exts.refl _ | apply Exts.andR | apply Exts.alloc | apply Exts.wext | apply Exts.drew | apply Exts.drewN)))).mono ?_; rintro e w' ⟨rfl, x1, rfl⟩) | (go_at_call 10; refine (cut10 _ _ hs).mono ?_; rintro e w' ⟨t, rfl, ht, rfl⟩; (have hts : t.size ≤ 3000 := by rw [← data_len t, ht, List.length_take]; omega); (have HT := Lib.hid ht); clear ht) | (go_at_call 11; ((with_reducible refine (lex11_N _ _ ts at' 0 n _ HT.out HD.out HN.out (by omega) (HS.out.exts (by repeat (first | exact Exts.refl _ | apply Exts.andR | apply Exts.alloc | apply Exts.wext | apply Exts.drew | apply Exts.drewN)))).mono ?_); rintro e w' ⟨ao, k, rfl, ⟨x2, rfl⟩, hr⟩; (try simp only [wext_and] at hr); (have H1 := Lib.hid hr); clear hr)) | (go_at_call 11; ((with_reducible refine (lex11_N ⟨tx.toArray⟩ tx us 0 0 n _ rfl HU.out HM.out (by rw [HZ.out]; omega) (HS.out.exts (by repeat (first | exact Exts.refl _ | apply Exts.andR | apply Exts.alloc | apply Exts.wext | apply Exts.drew | apply Exts.drewN)))).mono ?_); rintro e w' ⟨bo, k', rfl, ⟨x4, rfl⟩, hr⟩; (try simp only [wext_and] at hr); (have H2 := Lib.hid hr); clear hr)) | (go_at_call 18; ((with_reducible refine (text18_D _ _ _ us tx _ (RowF.exts H2.out (by repeat (first | exact Exts.refl _ | apply Exts.andR | apply Exts.alloc | apply Exts.wext | apply Exts.drew | apply Exts.drewN))) HM.out (by omega) HY.out (by omega)).mono ?_); rintro e w' ⟨rfl, x6, rfl⟩)) | (go_at_call 18; ((with_reducible refine (text18_D _ _ _ ts tx _ (RowF.exts H1.out (by repeat (first | exact Exts.refl _ | apply Exts.andR | apply Exts.alloc | apply Exts.wext | apply Exts.drew | apply Exts.drewN))) HN.out (by omega) HX.out (by omega)).mono ?_); rintro e w' ⟨rfl, x3, rfl⟩)) | (go_at_call 20; refine (like20 _ _ _ _ _ ts us _ (RowF.exts H1.out (by repeat (first | exact Exts.refl _ | apply Exts.andR | apply Exts.alloc | apply Exts.wext | apply Exts.drew | apply Exts.drewN))) (RowF.exts H2.out (by repeat (first | exact Exts.refl _ | apply Exts.andR | apply Exts.alloc | apply Exts.wext | apply Exts.drew | apply Exts.drewN))) HN.out HM.out (by omega) HL.out).mono ?_; rintro e w' ⟨rfl, x5, rfl⟩))
  go_ret
  exact ⟨rfl, (by repeat (first | exact Exts.refl _ | apply Exts.andR | apply Exts.alloc | apply Exts.wext | apply Exts.drew | apply Exts.drewN))⟩
theorem back4 (s : ByteArray) (w : World) (hs : s.size ≤ 9223372036854775807) (h : Signs w) : Calls Tryd.prog 4 #[.string s] w fun e w' => e = .returned (.bool true) ∧ Exts w w' := by
  obtain ⟨⟨ts, at', c⟩, hD⟩ : ∃ D, lexS (s.data.toList.take 3000) = D := ⟨_, rfl⟩
  by_cases hc : c = 0
  · subst hc
    exact back4_ok s w hs h ts at' hD
  · exact back4_no s w hs h ts at' c hD hc
end Go.Proofs.YtjenpmeknlgadaaDoor
