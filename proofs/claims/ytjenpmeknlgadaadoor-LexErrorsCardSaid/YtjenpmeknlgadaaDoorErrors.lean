/- LexErrors returns true. Condition: the table of signs is as the program lays it. -/
import Derived.Test.YtjenpmeknlgadaaDoorErrorsPlain
import Derived.Test.YtjenpmeknlgadaaDoorBack
namespace Go.Proofs.YtjenpmeknlgadaaDoor
open Go.RowKit
set_option linter.unusedSimpArgs false
set_option linter.unusedVariables false

def blk (n : Nat) : ByteArray := ⟨(List.replicate n 32).toArray⟩
theorem blk_list (n : Nat) : (blk n).data.toList = List.replicate n 32 := rfl
@[simp, go_sem] theorem blk_size (n : Nat) : (blk n).size = n := by
  show (List.replicate n (32 : UInt8)).toArray.size = n
  simp
@[go_sem] theorem blk_add (n m : Nat) : blk n ++ blk m = blk (n + m) := by
  apply ByteArray.ext
  rw [ByteArray.data_append]
  apply Array.toList_inj.1
  rw [Array.toList_append, blk_list, blk_list, blk_list, List.replicate_append_replicate]
theorem blk_ext {n m : Nat} (h : m ≤ n) : (blk n).extract 0 m = blk m := by
  apply ByteArray.ext
  apply Array.toList_inj.1
  rw [Lib.extract_data, blk_list, blk_list]
  simp
  omega
theorem blk_span (n : Nat) : spanN blankI (List.replicate n (32 : UInt8)) = (List.replicate n (32 : UInt8)).length := by
  rw [span_all]
  intro c hc
  rw [List.eq_of_mem_replicate hc]
  decide
theorem cat_list (a b : ByteArray) : (a ++ b).data.toList = a.data.toList ++ b.data.toList := by
  rw [ByteArray.data_append, Array.toList_append]

set_option maxRecDepth 100000
set_option maxHeartbeats 1000000
theorem cut_list (t : ByteArray) (X : List UInt8) (h : t.data.toList = X) (k m : Nat) (hm : m ≤ k) : (t ++ (blk k).extract 0 m).data.toList = X ++ List.replicate m 32 := by
  rw [cat_list, h, blk_ext hm, blk_list]
theorem cut_size (t : ByteArray) (X : List UInt8) (h : t.data.toList = X) (k m n : Nat) (hm : m ≤ k) (hn : X.length + m = n) : (t ++ (blk k).extract 0 m).size = n := by
  rw [← data_len, cut_list t X h k m hm, List.length_append, List.length_replicate, hn]
def Dbl (k : Nat) : Prop := k = 10 ∨ k = 20 ∨ k = 40 ∨ k = 80 ∨ k = 160 ∨ k = 320 ∨ k = 640 ∨ k = 1280 ∨ k = 2560 ∨ k = 5120 ∨ k = 10240
theorem dbl_next {k : Nat} (h : Dbl k) : (k < 8000 ∧ 0 < k ∧ Dbl (k + k)) ∨ (¬ k < 8000 ∧ 10000 ≤ k) := by unfold Dbl at *; omega
theorem errors7_ok (s : ByteArray) (w : World) (hs : s.size ≤ 9223372036854775807) (h : Signs w) (X : List UInt8) (hX : s.data.toList.take 3000 = X) (ts : List TP) (a : Int) (hD : lexS X = (ts, a, 0)) (n : Nat) (hn : ts.length = n) :
    Calls Tryd.prog 7 #[.string s] w fun e w' => e = .returned (.bool true) ∧ Exts w w' := by
  have HS := Lib.hid h
  have HX := Lib.hid hX
  have hX3 : X.length ≤ 3000 := by rw [← hX, List.length_take]; omega
  obtain ⟨us, x0, hu, hul, hn3⟩ := errs_ok hX3 hD (blk_span (8000 - X.length)) (by rw [List.length_append, List.length_replicate]; omega)
  rw [hn] at hul hn3
  have HF := Lib.hid (errs_full (T := X ++ List.replicate (8001 - X.length) 32) (by rw [List.length_append, List.length_replicate]; omega))
  have HD := Lib.hid hD
  have HN := Lib.hid hn
  have HU := Lib.hid hu
  have HUN := Lib.hid hul
  clear h hX hD hn hu hul
  go_enter Tryd.func7, Tryd.ntmps7
  go_wp2_with (first | (go_at_call 9; refine (small9 _ (HS.out.exts (by repeat (first | exact Exts.refl _ | apply Exts.andR | apply Exts.alloc | apply Exts.wext | apply Exts.drew | apply Exts.drewN)))).mono ?_; rintro e w' ⟨rfl, x1, rfl⟩) | (go_at_call 10; refine (cut10 _ _ hs).mono ?_; rintro e w' ⟨t, rfl, ht, rfl⟩; (have HT := Lib.hid (ht.trans HX.out)); (have hts : t.size = X.length := by rw [← data_len t, HT.out]); clear ht) | (go_at_call 11; ((with_reducible refine (lex11_N t X ts a _ n _ HT.out HD.out HN.out (by omega) (HS.out.exts (by repeat (first | exact Exts.refl _ | apply Exts.andR | apply Exts.alloc | apply Exts.wext | apply Exts.drew | apply Exts.drewN)))).mono ?_); rintro e' w' ⟨ao, ca, rfl, ⟨x2, rfl⟩, hr⟩; clear hr)))
  go_loopw [8] (fun fl wr => ∃ (k : Nat), Dbl k ∧ fl = .string (blk k) ∧ Exts w wr) (fun fl _ => 16000 - (match fl with | .string f => f.size | _ => 0))
  case atStart => exact ⟨10, .inl rfl, rfl, (by repeat (first | exact Exts.refl _ | apply Exts.andR | apply Exts.alloc | apply Exts.wext | apply Exts.drew | apply Exts.drewN))⟩
  case round =>
    obtain ⟨k, hk, rfl, x, rfl⟩ := hrel
    rcases dbl_next hk with ⟨hlt, hk0, hkk⟩ | ⟨hlt, hk0⟩
    · have HKK := Lib.hid hkk
      clear hk hkk
      go_wp2
      refine ⟨⟨k + k, HKK.out, rfl, x, rfl⟩, ?_⟩
      simp only [blk_size]
      omega
    · clear hk
      go_wp2_with (first | (go_at_call 11; ((with_reducible refine (lex11_N (t ++ (blk k).extract 0 (8000 - X.length)) (X ++ List.replicate (8000 - X.length) 32) us x0 _ n _ (cut_list t X HT.out k _ (by omega)) HU.out HUN.out (by rw [cut_size t X HT.out k (8000 - X.length) 8000 (by omega) (by omega)]; omega) (HS.out.exts (by repeat (first | exact Exts.refl _ | apply Exts.andR | apply Exts.alloc | apply Exts.wext | apply Exts.drew | apply Exts.drewN)))).mono ?_); rintro e' w' ⟨bo, cb, rfl, ⟨x3, rfl⟩, hr⟩; clear hr)) | (go_at_call 11; ((with_reducible refine (lex11_N (t ++ (blk k).extract 0 (8001 - X.length)) (X ++ List.replicate (8001 - X.length) 32) [] 0 6 0 _ (cut_list t X HT.out k _ (by omega)) HF.out rfl (by rw [cut_size t X HT.out k (8001 - X.length) 8001 (by omega) (by omega)]; omega) (HS.out.exts (by repeat (first | exact Exts.refl _ | apply Exts.andR | apply Exts.alloc | apply Exts.wext | apply Exts.drew | apply Exts.drewN)))).mono ?_); rintro e' w' ⟨co, cc, rfl, ⟨x4, rfl⟩, hr⟩; clear hr)))
      go_ret
      exact ⟨rfl, (by repeat (first | exact Exts.refl _ | apply Exts.andR | apply Exts.alloc | apply Exts.wext | apply Exts.drew | apply Exts.drewN))⟩
theorem errors7_no (s : ByteArray) (w : World) (hs : s.size ≤ 9223372036854775807) (h : Signs w) (X : List UInt8) (hX : s.data.toList.take 3000 = X) (c : Int) (m : Nat) (hD : lexS X = ([], (m : Int), c)) (hm : m < X.length) (hc : c = 15 ∨ c = 3 ∨ c = 13) (vs : List TP) (y : Int) (h1 : lexS (X.take m) = (vs, y, 0)) (h2 : lexS (X.drop m) = ([], 0, c)) (n n' : Nat) (hn : ([] : List TP).length = n) (hn0 : n = 0) (hn' : vs.length = n') :
    Calls Tryd.prog 7 #[.string s] w fun e w' => e = .returned (.bool true) ∧ Exts w w' := by
  have HS := Lib.hid h
  have HX := Lib.hid hX
  have hX3 : X.length ≤ 3000 := by rw [← hX, List.length_take]; omega
  obtain ⟨us, x0, hu, hul, hn3⟩ := errs_ok hX3 hD (blk_span (8000 - X.length)) (by rw [List.length_append, List.length_replicate]; omega)
  obtain ⟨ts, hts⟩ : ∃ ts : List TP, ts = [] := ⟨_, rfl⟩
  obtain ⟨a, ha⟩ : ∃ a : Int, a = m := ⟨_, rfl⟩
  have ha0 : decide (a < 0) = false := by simp; omega
  have ha1 : decide ((X.length : Int) ≤ a) = false := by simp; omega
  have han : a.toNat = m := by omega
  rw [← hts, ← ha] at hD
  rw [← hts] at hn
  rw [show ([] : List TP).length = n from hn0.symm] at hul
  have HF := Lib.hid (errs_full (T := X ++ List.replicate (8001 - X.length) 32) (by rw [List.length_append, List.length_replicate]; omega))
  have HD := Lib.hid hD
  have HN := Lib.hid hn
  have HU := Lib.hid hu
  have HUN := Lib.hid hul
  have H1 := Lib.hid h1
  have H2 := Lib.hid h2
  have HNN := Lib.hid hn'
  clear h hX hD hn hu hul h1 h2 hn' hts
  rcases hc with rfl | rfl | rfl
  · go_enter Tryd.func7, Tryd.ntmps7
    go_wp2_with (first | (go_at_call 9; refine (small9 _ (HS.out.exts (by repeat (first | exact Exts.refl _ | apply Exts.andR | apply Exts.alloc | apply Exts.wext | apply Exts.drew | apply Exts.drewN)))).mono ?_; rintro e w' ⟨rfl, x1, rfl⟩) | (go_at_call 10; refine (cut10 _ _ hs).mono ?_; rintro e w' ⟨t, rfl, ht, rfl⟩; (have HT := Lib.hid (ht.trans HX.out)); (have hts : t.size = X.length := by rw [← data_len t, HT.out]); clear ht) | (go_at_call 11; ((with_reducible refine (lex11_N t X ts a _ n _ HT.out HD.out HN.out (by omega) (HS.out.exts (by repeat (first | exact Exts.refl _ | apply Exts.andR | apply Exts.alloc | apply Exts.wext | apply Exts.drew | apply Exts.drewN)))).mono ?_); rintro e' w' ⟨ao, ca, rfl, ⟨x2, rfl⟩, hr⟩; clear hr)))
    go_loopw [8] (fun fl wr => ∃ (k : Nat), Dbl k ∧ fl = .string (blk k) ∧ Exts w wr) (fun fl _ => 16000 - (match fl with | .string f => f.size | _ => 0))
    case atStart => exact ⟨10, .inl rfl, rfl, (by repeat (first | exact Exts.refl _ | apply Exts.andR | apply Exts.alloc | apply Exts.wext | apply Exts.drew | apply Exts.drewN))⟩
    case round =>
      obtain ⟨k, hk, rfl, x, rfl⟩ := hrel
      rcases dbl_next hk with ⟨hlt, hk0, hkk⟩ | ⟨hlt, hk0⟩
      · have HKK := Lib.hid hkk
        clear hk hkk
        go_wp2
        refine ⟨⟨k + k, HKK.out, rfl, x, rfl⟩, ?_⟩
        simp only [blk_size]
        omega
      · clear hk
        go_wp2_with (first | (go_at_call 11; ((with_reducible refine (lex11_N (t ++ (blk k).extract 0 (8000 - X.length)) (X ++ List.replicate (8000 - X.length) 32) us x0 _ n _ (cut_list t X HT.out k _ (by omega)) HU.out HUN.out (by rw [cut_size t X HT.out k (8000 - X.length) 8000 (by omega) (by omega)]; omega) (HS.out.exts (by repeat (first | exact Exts.refl _ | apply Exts.andR | apply Exts.alloc | apply Exts.wext | apply Exts.drew | apply Exts.drewN)))).mono ?_); rintro e' w' ⟨bo, cb, rfl, ⟨x3, rfl⟩, hr⟩; clear hr)) | (go_at_call 11; ((with_reducible refine (lex11_N (t ++ (blk k).extract 0 (8001 - X.length)) (X ++ List.replicate (8001 - X.length) 32) [] 0 6 0 _ (cut_list t X HT.out k _ (by omega)) HF.out rfl (by rw [cut_size t X HT.out k (8001 - X.length) 8001 (by omega) (by omega)]; omega) (HS.out.exts (by repeat (first | exact Exts.refl _ | apply Exts.andR | apply Exts.alloc | apply Exts.wext | apply Exts.drew | apply Exts.drewN)))).mono ?_); rintro e' w' ⟨co, cc, rfl, ⟨x4, rfl⟩, hr⟩; clear hr)) | (go_at_call 11; ((with_reducible refine (lex11_N (t.extract 0 m) (X.take m) vs y 0 n' _ (by rw [Lib.extract_data, HT.out, List.drop_zero, Nat.sub_zero]) H1.out HNN.out (by rw [← data_len, Lib.extract_data, List.length_take]; omega) (HS.out.exts (by repeat (first | exact Exts.refl _ | apply Exts.andR | apply Exts.alloc | apply Exts.wext | apply Exts.drew | apply Exts.drewN)))).mono ?_); rintro e' w' ⟨do', dc, rfl, ⟨x5, rfl⟩, hr⟩; clear hr)) | (go_at_call 11; ((with_reducible refine (lex11_N (t.extract m X.length) (X.drop m) [] 0 _ 0 _ (by rw [Lib.extract_data, HT.out, List.take_of_length_le (by rw [List.length_drop]; omega)]) H2.out rfl (by rw [← data_len, Lib.extract_data, List.length_take]; omega) (HS.out.exts (by repeat (first | exact Exts.refl _ | apply Exts.andR | apply Exts.alloc | apply Exts.wext | apply Exts.drew | apply Exts.drewN)))).mono ?_); rintro e' w' ⟨eo, ec, rfl, ⟨x6, rfl⟩, hr⟩; clear hr)))
        go_ret
        exact ⟨rfl, (by repeat (first | exact Exts.refl _ | apply Exts.andR | apply Exts.alloc | apply Exts.wext | apply Exts.drew | apply Exts.drewN))⟩
  · go_enter Tryd.func7, Tryd.ntmps7
    go_wp2_with (first | (go_at_call 9; refine (small9 _ (HS.out.exts (by repeat (first | exact Exts.refl _ | apply Exts.andR | apply Exts.alloc | apply Exts.wext | apply Exts.drew | apply Exts.drewN)))).mono ?_; rintro e w' ⟨rfl, x1, rfl⟩) | (go_at_call 10; refine (cut10 _ _ hs).mono ?_; rintro e w' ⟨t, rfl, ht, rfl⟩; (have HT := Lib.hid (ht.trans HX.out)); (have hts : t.size = X.length := by rw [← data_len t, HT.out]); clear ht) | (go_at_call 11; ((with_reducible refine (lex11_N t X ts a _ n _ HT.out HD.out HN.out (by omega) (HS.out.exts (by repeat (first | exact Exts.refl _ | apply Exts.andR | apply Exts.alloc | apply Exts.wext | apply Exts.drew | apply Exts.drewN)))).mono ?_); rintro e' w' ⟨ao, ca, rfl, ⟨x2, rfl⟩, hr⟩; clear hr)))
    go_loopw [8] (fun fl wr => ∃ (k : Nat), Dbl k ∧ fl = .string (blk k) ∧ Exts w wr) (fun fl _ => 16000 - (match fl with | .string f => f.size | _ => 0))
    case atStart => exact ⟨10, .inl rfl, rfl, (by repeat (first | exact Exts.refl _ | apply Exts.andR | apply Exts.alloc | apply Exts.wext | apply Exts.drew | apply Exts.drewN))⟩
    case round =>
      obtain ⟨k, hk, rfl, x, rfl⟩ := hrel
      rcases dbl_next hk with ⟨hlt, hk0, hkk⟩ | ⟨hlt, hk0⟩
      · have HKK := Lib.hid hkk
        clear hk hkk
        go_wp2
        refine ⟨⟨k + k, HKK.out, rfl, x, rfl⟩, ?_⟩
        simp only [blk_size]
        omega
      · clear hk
        go_wp2_with (first | (go_at_call 11; ((with_reducible refine (lex11_N (t ++ (blk k).extract 0 (8000 - X.length)) (X ++ List.replicate (8000 - X.length) 32) us x0 _ n _ (cut_list t X HT.out k _ (by omega)) HU.out HUN.out (by rw [cut_size t X HT.out k (8000 - X.length) 8000 (by omega) (by omega)]; omega) (HS.out.exts (by repeat (first | exact Exts.refl _ | apply Exts.andR | apply Exts.alloc | apply Exts.wext | apply Exts.drew | apply Exts.drewN)))).mono ?_); rintro e' w' ⟨bo, cb, rfl, ⟨x3, rfl⟩, hr⟩; clear hr)) | (go_at_call 11; ((with_reducible refine (lex11_N (t ++ (blk k).extract 0 (8001 - X.length)) (X ++ List.replicate (8001 - X.length) 32) [] 0 6 0 _ (cut_list t X HT.out k _ (by omega)) HF.out rfl (by rw [cut_size t X HT.out k (8001 - X.length) 8001 (by omega) (by omega)]; omega) (HS.out.exts (by repeat (first | exact Exts.refl _ | apply Exts.andR | apply Exts.alloc | apply Exts.wext | apply Exts.drew | apply Exts.drewN)))).mono ?_); rintro e' w' ⟨co, cc, rfl, ⟨x4, rfl⟩, hr⟩; clear hr)) | (go_at_call 11; ((with_reducible refine (lex11_N (t.extract 0 m) (X.take m) vs y 0 n' _ (by rw [Lib.extract_data, HT.out, List.drop_zero, Nat.sub_zero]) H1.out HNN.out (by rw [← data_len, Lib.extract_data, List.length_take]; omega) (HS.out.exts (by repeat (first | exact Exts.refl _ | apply Exts.andR | apply Exts.alloc | apply Exts.wext | apply Exts.drew | apply Exts.drewN)))).mono ?_); rintro e' w' ⟨do', dc, rfl, ⟨x5, rfl⟩, hr⟩; clear hr)) | (go_at_call 11; ((with_reducible refine (lex11_N (t.extract m X.length) (X.drop m) [] 0 _ 0 _ (by rw [Lib.extract_data, HT.out, List.take_of_length_le (by rw [List.length_drop]; omega)]) H2.out rfl (by rw [← data_len, Lib.extract_data, List.length_take]; omega) (HS.out.exts (by repeat (first | exact Exts.refl _ | apply Exts.andR | apply Exts.alloc | apply Exts.wext | apply Exts.drew | apply Exts.drewN)))).mono ?_); rintro e' w' ⟨eo, ec, rfl, ⟨x6, rfl⟩, hr⟩; clear hr)))
        go_ret
        exact ⟨rfl, (by repeat (first | exact Exts.refl _ | apply Exts.andR | apply Exts.alloc | apply Exts.wext | apply Exts.drew | apply Exts.drewN))⟩
  · go_enter Tryd.func7, Tryd.ntmps7
    go_wp2_with (first | (go_at_call 9; refine (small9 _ (HS.out.exts (by repeat (first | exact Exts.refl _ | apply Exts.andR | apply Exts.alloc | apply Exts.wext | apply Exts.drew | apply Exts.drewN)))).mono ?_; rintro e w' ⟨rfl, x1, rfl⟩) | (go_at_call 10; refine (cut10 _ _ hs).mono ?_; rintro e w' ⟨t, rfl, ht, rfl⟩; (have HT := Lib.hid (ht.trans HX.out)); (have hts : t.size = X.length := by rw [← data_len t, HT.out]); clear ht) | (go_at_call 11; ((with_reducible refine (lex11_N t X ts a _ n _ HT.out HD.out HN.out (by omega) (HS.out.exts (by repeat (first | exact Exts.refl _ | apply Exts.andR | apply Exts.alloc | apply Exts.wext | apply Exts.drew | apply Exts.drewN)))).mono ?_); rintro e' w' ⟨ao, ca, rfl, ⟨x2, rfl⟩, hr⟩; clear hr)))
    go_loopw [8] (fun fl wr => ∃ (k : Nat), Dbl k ∧ fl = .string (blk k) ∧ Exts w wr) (fun fl _ => 16000 - (match fl with | .string f => f.size | _ => 0))
    case atStart => exact ⟨10, .inl rfl, rfl, (by repeat (first | exact Exts.refl _ | apply Exts.andR | apply Exts.alloc | apply Exts.wext | apply Exts.drew | apply Exts.drewN))⟩
    case round =>
      obtain ⟨k, hk, rfl, x, rfl⟩ := hrel
      rcases dbl_next hk with ⟨hlt, hk0, hkk⟩ | ⟨hlt, hk0⟩
      · have HKK := Lib.hid hkk
        clear hk hkk
        go_wp2
        refine ⟨⟨k + k, HKK.out, rfl, x, rfl⟩, ?_⟩
        simp only [blk_size]
        omega
      · clear hk
        go_wp2_with (first | (go_at_call 11; ((with_reducible refine (lex11_N (t ++ (blk k).extract 0 (8000 - X.length)) (X ++ List.replicate (8000 - X.length) 32) us x0 _ n _ (cut_list t X HT.out k _ (by omega)) HU.out HUN.out (by rw [cut_size t X HT.out k (8000 - X.length) 8000 (by omega) (by omega)]; omega) (HS.out.exts (by repeat (first | exact Exts.refl _ | apply Exts.andR | apply Exts.alloc | apply Exts.wext | apply Exts.drew | apply Exts.drewN)))).mono ?_); rintro e' w' ⟨bo, cb, rfl, ⟨x3, rfl⟩, hr⟩; clear hr)) | (go_at_call 11; ((with_reducible refine (lex11_N (t ++ (blk k).extract 0 (8001 - X.length)) (X ++ List.replicate (8001 - X.length) 32) [] 0 6 0 _ (cut_list t X HT.out k _ (by omega)) HF.out rfl (by rw [cut_size t X HT.out k (8001 - X.length) 8001 (by omega) (by omega)]; omega) (HS.out.exts (by repeat (first | exact Exts.refl _ | apply Exts.andR | apply Exts.alloc | apply Exts.wext | apply Exts.drew | apply Exts.drewN)))).mono ?_); rintro e' w' ⟨co, cc, rfl, ⟨x4, rfl⟩, hr⟩; clear hr)) | (go_at_call 11; ((with_reducible refine (lex11_N (t.extract 0 m) (X.take m) vs y 0 n' _ (by rw [Lib.extract_data, HT.out, List.drop_zero, Nat.sub_zero]) H1.out HNN.out (by rw [← data_len, Lib.extract_data, List.length_take]; omega) (HS.out.exts (by repeat (first | exact Exts.refl _ | apply Exts.andR | apply Exts.alloc | apply Exts.wext | apply Exts.drew | apply Exts.drewN)))).mono ?_); rintro e' w' ⟨do', dc, rfl, ⟨x5, rfl⟩, hr⟩; clear hr)) | (go_at_call 11; ((with_reducible refine (lex11_N (t.extract m X.length) (X.drop m) [] 0 _ 0 _ (by rw [Lib.extract_data, HT.out, List.take_of_length_le (by rw [List.length_drop]; omega)]) H2.out rfl (by rw [← data_len, Lib.extract_data, List.length_take]; omega) (HS.out.exts (by repeat (first | exact Exts.refl _ | apply Exts.andR | apply Exts.alloc | apply Exts.wext | apply Exts.drew | apply Exts.drewN)))).mono ?_); rintro e' w' ⟨eo, ec, rfl, ⟨x6, rfl⟩, hr⟩; clear hr)))
        go_ret
        exact ⟨rfl, (by repeat (first | exact Exts.refl _ | apply Exts.andR | apply Exts.alloc | apply Exts.wext | apply Exts.drew | apply Exts.drewN))⟩
theorem errors7 (s : ByteArray) (w : World) (hs : s.size ≤ 9223372036854775807) (h : Signs w) : Calls Tryd.prog 7 #[.string s] w fun e w' => e = .returned (.bool true) ∧ Exts w w' := by
  obtain ⟨⟨ts, a, c⟩, hD⟩ : ∃ D, lexS (s.data.toList.take 3000) = D := ⟨_, rfl⟩
  by_cases hc : c = 0
  · subst hc
    exact errors7_ok s w hs h _ rfl ts a hD _ rfl
  · obtain ⟨rfl, hcc, m, rfl, hm, ⟨us, x, h1⟩, h2⟩ := errs_cut (by rw [List.length_take]; omega) hD hc
    exact errors7_no s w hs h _ rfl c m hD hm hcc us x h1 h2 0 _ rfl rfl rfl
end Go.Proofs.YtjenpmeknlgadaaDoor
