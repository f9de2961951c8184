/- LexTells returns true. Condition: the table of signs is as the program lays it. -/
import Derived.Test.YtjenpmeknlgadaaDoorRefText
import Derived.Test.YtjenpmeknlgadaaDoorBack
namespace Go.Proofs.YtjenpmeknlgadaaDoor
open Go.RowKit
set_option linter.unusedSimpArgs false
set_option linter.unusedVariables false

theorem lex12_N (t : ByteArray) (l : List UInt8) (ts : List TP) (at' c : Int) (n : Nat) (w : World) (hl : t.data.toList = l) (hD : lexS l = (ts, at', c)) (hn : ts.length = n) (hs : t.size ≤ 3000) :
    Calls Tryd.prog 12 #[.string t] w fun e w' => ∃ ao k, e = .returned (.tuple #[.slice ao n k, .int .i64 at', .int .i64 c]) ∧ Exts w w' ∧ RowF (fun b => w.heap.size ≤ b) 4 w' (.slice ao n k) n (tokFlat ts) := by
  subst hn
  have := refLex12 t w hs
  rw [hl, hD] at this
  exact this
theorem word17_D (t : ByteArray) (b : Bool) (w : World) (hD : wordB t.data.toList = b) (hs : t.size ≤ 9223372036854775807) : Calls Tryd.prog 17 #[.string t] w fun e w' => e = .returned (.bool b) ∧ w = w' := by
  subst hD
  exact refWord17 t w hs
theorem text19_D {S : Nat → Prop} (ao : Option Addr) (n cap : Nat) (ts : List TP) (tx : List UInt8) (w : World) (h : RowF S 4 w (.slice ao n cap) n (tokFlat ts)) (hn : ts.length = n) (hm : n ≤ 100) (hl : ∀ t ∈ ts, t.text.length ≤ 100) (hD : textP ts = tx) :
    Calls Tryd.prog 19 #[.slice ao n cap] w fun e w' => e = .returned (.string ⟨tx.toArray⟩) ∧ Exts w w' := by
  subst hD
  exact refText19 ao n cap ts w h hn hm hl
set_option maxRecDepth 100000
set_option maxHeartbeats 4000000
theorem tells3 {S : Nat → Prop} (s : ByteArray) (ao : Option Addr) (n cap : Nat) (ts : List TP) (w : World) (hs : s.size ≤ 9223372036854775807) (h : RowF S 4 w (.slice ao n cap) n (tokFlat ts)) (hn : ts.length = n) (hsg : Signs w) :
    Calls Tryd.prog 3 #[.string s, .slice ao n cap] w fun e w' => e = .returned (.bool true) ∧ Exts w w' := by
  have HS := Lib.hid hsg
  have hmax := h.nle
  unfold maxLen at hmax
  have H := Lib.hid h
  have HN := Lib.hid hn
  clear h hn hsg
  by_cases h100 : n ≤ 100
  · have b1 : decide ((100 : Int) < (n : Int)) = false := by simp; omega
    go_enter Tryd.func3, Tryd.ntmps3
    go_wp2_with (first | (go_at_call 9; refine (small9 _ (HS.out.exts (by repeat (first | exact Exts.refl _ | apply Exts.andR | apply Exts.alloc | apply Exts.wext | apply Exts.drew | apply Exts.drewN)))).mono ?_; rintro e w' ⟨rfl, x1, rfl⟩))
    go_loopw [6] (fun i wr => ∃ (k : Nat), k ≤ n ∧ i = .int .i64 k ∧ Exts w wr ∧ ∀ t ∈ ts.take k, t.text.length ≤ 100) (fun i _ => n - (intOf i).toNat)
    case atStart => exact ⟨0, by omega, rfl, (by repeat (first | exact Exts.refl _ | apply Exts.andR | apply Exts.alloc | apply Exts.wext | apply Exts.drew | apply Exts.drewN)), by simp⟩
    case round =>
      obtain ⟨k, hk, rfl, ⟨x, rfl⟩, hin⟩ := hrel
      have HI := Lib.hid hin
      clear hin
      by_cases hlt : k < n
      · obtain ⟨t, ht⟩ : ∃ t, ts[k]? = some t := ⟨ts[k]'(by rw [HN.out]; exact hlt), List.getElem?_eq_getElem (by rw [HN.out]; exact hlt)⟩
        obtain ⟨b, off, rfl, hb, e0, e1, e2, e3⟩ := Toks.get H.out ht
        have HTK := Lib.hid ht
        have hsz : (⟨t.text.toArray⟩ : ByteArray).size = t.text.length := rfl
        clear ht
        by_cases hl : t.text.length ≤ 100
        · have b2 : decide ((100 : Int) < (t.text.length : Int)) = false := by simp; omega
          go_wp2
          refine ⟨⟨k + 1, by omega, by go_num, (by repeat (first | exact Exts.refl _ | apply Exts.andR | apply Exts.alloc | apply Exts.wext | apply Exts.drew | apply Exts.drewN)), fun u hu => ?_⟩, ?_⟩
          · rw [List.take_add_one, HTK.out, List.mem_append] at hu
            rcases hu with hu | hu
            · exact HI.out u hu
            · simp at hu
              rw [hu]
              exact hl
          · simp [intOf]; omega
        · have b2 : decide ((100 : Int) < (t.text.length : Int)) = true := by simp; omega
          go_wp2
          go_ret
          exact ⟨rfl, (by repeat (first | exact Exts.refl _ | apply Exts.andR | apply Exts.alloc | apply Exts.wext | apply Exts.drew | apply Exts.drewN))⟩
      · obtain rfl : k = n := by omega
        have htk : ts.take k = ts := List.take_of_length_le (by rw [HN.out]; exact Nat.le_refl _)
        have HL := Lib.hid (show ∀ t ∈ ts, t.text.length ≤ 100 from htk ▸ HI.out)
        obtain ⟨⟨ls, at', c⟩, hD⟩ : ∃ D, lexS (s.data.toList.take 3000) = D := ⟨_, rfl⟩
        obtain ⟨⟨v, o⟩, hV⟩ : ∃ D, numD (s.data.toList.take 3000) = D := ⟨_, rfl⟩
        obtain ⟨wb, hW⟩ : ∃ D, wordB (s.data.toList.take 3000) = D := ⟨_, rfl⟩
        obtain ⟨tx, hX⟩ : ∃ D, textP ts = D := ⟨_, rfl⟩
        obtain ⟨m, hM⟩ : ∃ D, ls.length = D := ⟨_, rfl⟩
        have hm : m ≤ 3001 := by
          by_cases hc : c = 0
          · subst hc
            have := (places_ok (by rw [List.length_take]; omega) hD).2.2.2
            omega
          · have := (places_bad (by rw [List.length_take]; omega) hD hc).1
            rw [this] at hM
            rw [← hM]
            simp
        have hxl : tx.length ≤ 10100 := by
          have h1 := join_le _ (texts_small HL.out k)
          have h2 := texts_len ts k
          rw [htk] at h1 h2
          have h3 : Lib.join (texts ts) [32] = tx := hX
          rw [h3] at h1
          omega
        have hq : (tx == tx) = true := by simp
        have HD := Lib.hid hD
        have HV := Lib.hid hV
        have HW := Lib.hid hW
        have HX := Lib.hid hX
        have HM := Lib.hid hM
        clear hD hV hW hX hM htk hq
        go_wp2_with (first | (go_at_call 10; refine (cut10 _ _ hs).mono ?_; rintro e w' ⟨t, rfl, ht, rfl⟩; (have hts : t.size ≤ 3000 := by rw [← data_len t, ht, List.length_take]; omega); (have HT := Lib.hid ht); (have HND := Lib.hid (show numD t.data.toList = (v, o) by rw [ht]; exact HV.out)); (have HWD := Lib.hid (show wordB t.data.toList = wb by rw [ht]; exact HW.out)); clear ht) | (go_at_call 11; ((with_reducible refine (lex11_N _ _ ls at' c m _ HT.out HD.out HM.out (by omega) (HS.out.exts (by repeat (first | exact Exts.refl _ | apply Exts.andR | apply Exts.alloc | apply Exts.wext | apply Exts.drew | apply Exts.drewN)))).mono ?_); rintro e w' ⟨bo, k1, rfl, ⟨x2, rfl⟩, hr⟩; (try simp only [wext_and] at hr); (have H1 := Lib.hid hr); clear hr)) | (go_at_call 12; ((with_reducible refine (lex12_N _ _ ls at' c m _ HT.out HD.out HM.out hts).mono ?_); rintro e w' ⟨co, k2, rfl, ⟨x3, rfl⟩, hr⟩; (try simp only [wext_and] at hr); (have H2 := Lib.hid hr); clear hr)) | (go_at_call 13; ((with_reducible refine (number13_D _ _ _ _ _ rfl HND.out (by omega)).mono ?_); rintro e w' ⟨rfl, rfl⟩)) | (go_at_call 14; ((with_reducible refine (number14_D _ _ _ _ HND.out (by omega)).mono ?_); rintro e w' ⟨rfl, rfl⟩)) | (go_at_call 15; refine (same15 _ _ _ _ _ ls _ (RowF.exts H1.out (by repeat (first | exact Exts.refl _ | apply Exts.andR | apply Exts.alloc | apply Exts.wext | apply Exts.drew | apply Exts.drewN))) (RowF.exts H2.out (by repeat (first | exact Exts.refl _ | apply Exts.andR | apply Exts.alloc | apply Exts.wext | apply Exts.drew | apply Exts.drewN))) HM.out (by omega)).mono ?_; rintro e w' ⟨rfl, x4, rfl⟩) | (go_at_call 16; refine (word16 _ _ (by omega)).mono ?_; rintro e w' ⟨rfl, rfl⟩; rw [HWD.out]) | (go_at_call 17; refine (word17_D _ _ _ HWD.out (by omega)).mono ?_; rintro e w' ⟨rfl, rfl⟩) | (go_at_call 18; ((with_reducible refine (text18_D _ _ _ ts tx _ (RowF.exts H.out (by repeat (first | exact Exts.refl _ | apply Exts.andR | apply Exts.alloc | apply Exts.wext | apply Exts.drew | apply Exts.drewN))) HN.out (by omega) HX.out (by omega)).mono ?_); rintro e w' ⟨rfl, x5, rfl⟩)) | (go_at_call 19; ((with_reducible refine (text19_D _ _ _ ts tx _ (RowF.exts H.out (by repeat (first | exact Exts.refl _ | apply Exts.andR | apply Exts.alloc | apply Exts.wext | apply Exts.drew | apply Exts.drewN))) HN.out (by omega) HL.out HX.out).mono ?_); rintro e w' ⟨rfl, x6, rfl⟩)))
        go_ret
        exact ⟨rfl, (by repeat (first | exact Exts.refl _ | apply Exts.andR | apply Exts.alloc | apply Exts.wext | apply Exts.drew | apply Exts.drewN))⟩
  · have b1 : decide ((100 : Int) < (n : Int)) = true := by simp; omega
    go_enter Tryd.func3, Tryd.ntmps3
    go_wp2_with (first | (go_at_call 9; refine (small9 _ (HS.out.exts (by repeat (first | exact Exts.refl _ | apply Exts.andR | apply Exts.alloc | apply Exts.wext | apply Exts.drew | apply Exts.drewN)))).mono ?_; rintro e w' ⟨rfl, x1, rfl⟩))
    go_ret
    exact ⟨rfl, (by repeat (first | exact Exts.refl _ | apply Exts.andR | apply Exts.alloc | apply Exts.wext | apply Exts.drew | apply Exts.drewN))⟩
end Go.Proofs.YtjenpmeknlgadaaDoor
