/- Lex of package lex. Conditions: the length fits, the table of signs is as the program lays it. -/
import Derived.Test.YtjenpmeknlgadaaDoorLexPlain
import Derived.Test.YtjenpmeknlgadaaDoorAppend
import Derived.Deep.AppendLies
namespace Go.Proofs.YtjenpmeknlgadaaDoor
open Go.RowKit
set_option linter.unusedSimpArgs false
set_option linter.unusedVariables false

theorem info25 : (Tryd.prog.info? 25).map (fun i => (i.zero, i.size, i.bytes)) = some (some (.agg #[.int .i64 0, .string ByteArray.empty, .int .i64 0, .int .i64 0]), 4, 40) := by kernel_rfl
theorem extS (s : ByteArray) (k : Nat) : (s.extract k s.size).data.toList = s.data.toList.drop k := by
  rw [Lib.extract_data, List.take_of_length_le (by simp)]

def LRes (D : List TP × Int × Int) (w : World) (e : Ending) (w' : World) : Prop := ∃ ao c, e = .returned (.tuple #[.slice ao D.1.length c, .int .i64 D.2.1, .int .i64 D.2.2]) ∧ Exts w w' ∧ Toks (fun b => w.heap.size ≤ b) w' (.slice ao D.1.length c) D.1
theorem LRes.err {D : List TP × Int × Int} {w w' : World} {e : Ending} {a c : Int} (h : D = ([], a, c)) (he : e = .returned (.tuple #[.slice none 0 0, .int .i64 a, .int .i64 c])) (hx : Exts w w') : LRes D w e w' := by
  subst h he
  exact ⟨none, 0, rfl, hx, RowF.nil _ _ _⟩

theorem LRes.ok {D : List TP × Int × Int} {w w' : World} {e : Ending} {ts : List TP} {n c : Nat} {ao : Option Addr} (h : D = (ts, 0, 0)) (hn : ts.length = n) (he : e = .returned (.tuple #[.slice ao n c, .int .i64 0, .int .i64 0])) (hx : Exts w w')
    (hr : RowF (fun b => w.heap.size ≤ b) 4 w' (.slice ao n c) n (tokFlat ts)) : LRes D w e w' := by
  subst h hn he
  exact ⟨ao, c, rfl, hx, hr⟩
theorem next24_T (s : ByteArray) (l : List UInt8) (tk : TK) (code : Int) (w : World) (hl : s.data.toList = l) (hT : nextP l = (tk, code)) (hs : s.size ≤ 9223372036854775807) (h0 : 0 < s.size) (hsg : Signs w) :
    Calls Tryd.prog 24 #[.string s] w fun e w' => e = .returned (.tuple #[.agg #[.int .i64 tk.kind, .string ⟨tk.text.toArray⟩, .int .i64 tk.n, .int .i64 0], .int .i64 code]) ∧ Exts w w' := by
  have := next24 s w hs h0 hsg
  rw [hl, hT] at this
  exact this

set_option maxRecDepth 100000
set_option maxHeartbeats 1000000 in
theorem lex11_full (s : ByteArray) (w : World) (hs : s.size ≤ 9223372036854775807) (h : 8000 < s.size) : Calls Tryd.prog 11 #[.string s] w (LRes (lexS s.data.toList) w) := by
  have hD : lexS s.data.toList = ([], 0, 6) := by unfold lexS; rw [if_pos (by rw [data_len]; exact h)]
  have HD := Lib.hid hD
  have b1 : decide ((8000 : Int) < (s.size : Int)) = true := by simp; omega
  clear hD h
  go_enter Tryd.func11, Tryd.ntmps11
  go_wp2
  go_ret3
  exact LRes.err HD.out rfl (Exts.refl _)

set_option maxHeartbeats 4000000 in
theorem lex11_in (s : ByteArray) (w : World) (h8 : s.size ≤ 8000) (hsg : Signs w) : Calls Tryd.prog 11 #[.string s] w (LRes (lexS s.data.toList) w) := by
  obtain ⟨i0, hi, hz0, hz1, hz2⟩ := info_parts info25
  have hD : lexS s.data.toList = lexGo (s.size + 1) s.data.toList 0 := by unfold lexS; rw [data_len, if_neg (by omega)]
  have HD := Lib.hid hD
  have HSG := Lib.hid hsg
  have b1 : decide ((8000 : Int) < (s.size : Int)) = false := by simp; omega
  clear hD hsg
  go_enter Tryd.func11, Tryd.ntmps11
  go_wp2
  go_loopw [5, 6] (fun o i wr => ∃ (k : Nat) (ts : List TP) (f : Nat), k ≤ s.size ∧ s.size - k < f ∧ ts.length ≤ k ∧ i = .int .i64 k ∧ Exts w wr ∧ wr.ownsRow w.heap.size 25 4 o ts.length (tokFlat ts) ∧ lexS s.data.toList = comb ts (lexGo f (s.data.toList.drop k) k)) (fun _ i _ => s.size - (intOf i).toNat)
  case atStart => exact ⟨0, [], s.size + 1, by omega, by omega, by simp, rfl, Exts.refl _, World.ownsRow_nil _ _ _ _, by rw [HD.out, List.drop_zero, comb_nil]⟩
  case round =>
    obtain ⟨k, ts, f, hk, hf, htk, rfl, ⟨x, rfl⟩, hown, hrel⟩ := hrel
    obtain ⟨f, rfl⟩ : ∃ f', f = f' + 1 := ⟨f - 1, by omega⟩
    obtain ⟨ao, c, rfl⟩ := owns_shape hown
    have HO := Lib.hid hown
    have HREL := Lib.hid hrel
    have HE1 := Lib.hid (extS s k)
    obtain ⟨b, hb⟩ : ∃ b, spanN blankI (s.data.toList.drop k) = b := ⟨_, rfl⟩
    have hble : b ≤ s.size - k := by
      have := spanN_le blankI (s.data.toList.drop k)
      rw [hb, List.length_drop, data_len] at this
      exact this
    obtain ⟨j, hj⟩ : ∃ j, k + b = j := ⟨_, rfl⟩
    have hsum : (k : Int) + (b : Int) = (j : Int) := by omega
    have HB := Lib.hid hb
    have HJ := Lib.hid hj
    have hjs : j ≤ s.size := by omega
    clear hown hrel hb hj
    by_cases hend : j = s.size
    · have hnil : s.data.toList.drop (k + b) = [] := List.drop_eq_nil_of_le (by rw [data_len]; have := HJ.out; omega)
      have HR := Lib.hid (HREL.out.trans (lex_fin HB.out hnil))
      clear hnil
      subst hend
      go_wp2_with (first | (go_at_call 22; refine (span22_blank _ _ (by simp; omega)).mono ?_; rintro e w' ⟨rfl, rfl⟩; rw [HE1.out, HB.out]) | (at_builtin; refine wpList_append_lies _ rfl (.tmp 22) (.tmp 25) 22 rfl w.heap.size 25 i0 _ 4 40 Tryd.underlying22 hi hz0 hz1 hz2 rfl (by decide) (.slice ao ts.length c) ts.length (tokFlat ts) rfl (ownsRow_exts HO.out (by repeat (first | exact Exts.refl _ | apply Exts.andR | apply Exts.alloc | apply Exts.wext | apply Exts.drew | apply Exts.drewN))) ⟨w.heap.size + x.bs.size, 0, none⟩ 1 1 [.int .i64 3, .string ⟨#[]⟩, .int .i64 0, .int .i64 s.size] rfl rfl (by intro j u hj; match j, hj with | 0, hj => (simp at hj; subst hj; simp [go_sem]) | 1, hj => (simp at hj; subst hj; simp [go_sem]) | 2, hj => (simp at hj; subst hj; simp [go_sem]) | 3, hj => (simp at hj; subst hj; simp [go_sem])) (tok_one (endT s.size)) (by decide) (by unfold maxLen; omega) (by omega) (by simp; omega) _ rfl ?_; intro g cg w1 hown' hgrow hat hlt'))
      go_ret3
      have hrow := RowF.of_owns hown'
      have hx := exts_of_grown (W := w) (by repeat (first | exact Exts.refl _ | apply Exts.andR | apply Exts.alloc | apply Exts.wext | apply Exts.drew | apply Exts.drewN)) hgrow (fun b hb => (HO.out.lt b hb).1)
      have hR := HR.out
      rw [HJ.out] at hR
      exact LRes.ok hR (by simp) rfl hx (by rw [tokFlat_snoc]; exact hrow)
    · have q1 : ((j : Int) == (s.size : Int)) = false := by simp; omega
      have q2 : (j == s.size) = false := by simpa using hend
      have hne : s.data.toList.drop (k + b) ≠ [] := by
        intro hc
        have := congrArg List.length hc
        rw [List.length_drop, data_len, HJ.out, List.length_nil] at this
        omega
      have hne' : s.data.toList.drop j ≠ [] := HJ.out ▸ hne
      have HEJ := Lib.hid (extS s j)
      obtain ⟨⟨tk, code⟩, hT⟩ : ∃ D, nextP (s.data.toList.drop j) = D := ⟨_, rfl⟩
      have HT := Lib.hid hT
      have hTk : nextP (s.data.toList.drop (k + b)) = (tk, code) := by rw [HJ.out]; exact hT
      by_cases hcode : code = 0
      · subst hcode
        have hok := nextP_ok (l := s.data.toList.drop j) (by rw [hT])
        rw [hT] at hok
        obtain ⟨m, hm⟩ : ∃ m, tk.text.length = m := ⟨_, rfl⟩
        have hm0 : 0 < m := by rw [← hm]; exact hok.1
        have hmj : j + m ≤ s.size := by
          have := congrArg List.length hok.2
          simp only [List.length_take, List.length_drop, data_len] at this
          have h1 : tk.text.length = m := hm
          omega
        have hstep := lex_tok (ts := ts) (f := f) HB.out hne (by rw [hTk]) (m := m) (by rw [hTk]; exact hm)
        rw [hTk, HJ.out] at hstep
        have HSTEP := Lib.hid (HREL.out.trans hstep)
        have hsz : (⟨tk.text.toArray⟩ : ByteArray).size = m := by rw [← hm]; rfl
        have hu : ∀ g, (Value.slice ao ts.length c).ownBlock = some g → g < w.heap.size + x.bs.size := fun g hg => by have := (HO.out.lt g hg).2; simpa using this
        have HU := Lib.hid hu
        clear hu hok hT hTk hne hne' hstep
        go_wp2_with (first | (go_at_call 22; refine (span22_blank _ _ (by simp; omega)).mono ?_; rintro e w' ⟨rfl, rfl⟩; rw [HE1.out, HB.out]) | (go_at_call 24; refine (next24_T _ _ tk 0 _ HEJ.out HT.out (by simp; omega) (by simp; omega) (HSG.out.exts (by repeat (first | exact Exts.refl _ | apply Exts.andR | apply Exts.alloc | apply Exts.wext | apply Exts.drew | apply Exts.drewN)))).mono ?_; rintro e w' ⟨rfl, x2, rfl⟩) | (at_builtin; refine wpList_append_lies _ rfl (.tmp 40) (.tmp 42) 22 rfl w.heap.size 25 i0 _ 4 40 Tryd.underlying22 hi hz0 hz1 hz2 rfl (by decide) (.slice ao ts.length c) ts.length (tokFlat ts) rfl (ownsRow_exts HO.out (by repeat (first | exact Exts.refl _ | apply Exts.andR | apply Exts.alloc | apply Exts.wext | apply Exts.drew | apply Exts.drewN))) ⟨_, 0, none⟩ 1 1 [.int .i64 tk.kind, .string ⟨tk.text.toArray⟩, .int .i64 tk.n, .int .i64 j] rfl rfl (by intro j u hj; match j, hj with | 0, hj => (simp at hj; subst hj; simp [go_sem]) | 1, hj => (simp at hj; subst hj; simp [go_sem]) | 2, hj => (simp at hj; subst hj; simp [go_sem]) | 3, hj => (simp at hj; subst hj; simp [go_sem])) (tok_one (tk.at j)) (by decide) (by unfold maxLen; omega) (by omega) (by simp; omega) _ rfl ?_; intro g cg w1 hown' hgrow hat hlt'; (have c7 : w1.cell? ⟨w.heap.size + x.bs.size + x2.bs.size, 1, none⟩ = some (.string ⟨tk.text.toArray⟩) := World.grownBy.cell hgrow (by simp [go_sem]) (fun h => by have := HU.out (w.heap.size + x.bs.size + x2.bs.size) h.symm; omega))))
        go_roundw
        case rel => exact ⟨j + m, ts ++ [tk.at j], f, by omega, by omega, by simp; omega, by go_num, exts_of_grown (W := w) (by repeat (first | exact Exts.refl _ | apply Exts.andR | apply Exts.alloc | apply Exts.wext | apply Exts.drew | apply Exts.drewN)) hgrow (fun b hb => (HO.out.lt b hb).1), by rw [List.length_append, tokFlat_snoc]; exact hown', HSTEP.out⟩
        case measure => simp [intOf]; omega
      · have q3 : (code == 0) = false := by simpa using hcode
        have q4 : (code != 0) = true := by simpa using hcode
        have HR := Lib.hid (HREL.out.trans (lex_err HB.out hne (by rw [hTk]; exact hcode)))
        rw [hTk, HJ.out] at HR
        clear hne hne' hT hTk hcode
        go_wp2_with (first | (go_at_call 22; refine (span22_blank _ _ (by simp; omega)).mono ?_; rintro e w' ⟨rfl, rfl⟩; rw [HE1.out, HB.out]) | (go_at_call 24; refine (next24_T _ _ tk code _ HEJ.out HT.out (by simp; omega) (by simp; omega) (HSG.out.exts (by repeat (first | exact Exts.refl _ | apply Exts.andR | apply Exts.alloc | apply Exts.wext | apply Exts.drew | apply Exts.drewN)))).mono ?_; rintro e w' ⟨rfl, x2, rfl⟩))
        go_ret3
        exact LRes.err HR.out rfl (by repeat (first | exact Exts.refl _ | apply Exts.andR | apply Exts.alloc | apply Exts.wext | apply Exts.drew | apply Exts.drewN))
theorem lex11 (s : ByteArray) (w : World) (hs : s.size ≤ 9223372036854775807) (hsg : Signs w) : Calls Tryd.prog 11 #[.string s] w (LRes (lexS s.data.toList) w) := by
  by_cases h : 8000 < s.size
  · exact lex11_full s w hs h
  · exact lex11_in s w (by omega) hsg
end Go.Proofs.YtjenpmeknlgadaaDoor
