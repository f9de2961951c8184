/- Lex of the reference. Conditions: the length fits. -/
import Derived.Test.YtjenpmeknlgadaaDoorRefTok2
import Derived.Test.YtjenpmeknlgadaaDoorText
namespace Go.Proofs.YtjenpmeknlgadaaDoor
open Go.RowKit
set_option linter.unusedSimpArgs false
set_option linter.unusedVariables false

theorem lex_skip {c : UInt8} (hc : blankI (c.toNat : Int) = true) (Y : List UInt8) (f k : Nat) : lexGo (f + 1) (c :: Y) k = lexGo (f + 1) Y (k + 1) := by
  have h1 : spanN blankI [c] = [c].length := by unfold spanN; rw [List.takeWhile_cons, if_pos hc]; rfl
  have hs : spanN blankI ([c] ++ Y) = 1 + spanN blankI Y := by
    unfold spanN at h1 ⊢
    rw [List.takeWhile_append, if_pos h1, List.length_append]
    rfl
  conv => lhs; unfold lexGo
  conv => rhs; unfold lexGo
  rw [show c :: Y = [c] ++ Y from rfl, hs, ← List.drop_drop, List.drop_left' (by rfl), Nat.add_assoc]
set_option maxRecDepth 100000
set_option maxHeartbeats 4000000
theorem refLex12 (s : ByteArray) (w : World) (hs : s.size ≤ 3000) : Calls Tryd.prog 12 #[.string s] w (LRes (lexS s.data.toList) w) := by
  obtain ⟨i0, hi, hz0, hz1, hz2⟩ := info_parts info25
  have hD : lexS s.data.toList = lexGo (s.size + 1) s.data.toList 0 := by unfold lexS; rw [data_len, if_neg (by omega)]
  have HD := Lib.hid hD
  have b1 : decide ((8000 : Int) < (s.size : Int)) = false := by simp; omega
  clear hD
  go_enter Tryd.func12, Tryd.ntmps12
  go_wp2
  go_loopw [5, 6] (fun o i wr => ∃ (k : Nat) (ts : List TP) (f : Nat), k ≤ s.size ∧ s.size - k < f ∧ ts.length ≤ k ∧ i = .int .i64 k ∧ Exts w wr ∧ wr.ownsRow w.heap.size 25 4 o ts.length (tokFlat ts) ∧ lexS s.data.toList = comb ts (lexGo f (s.data.toList.drop k) k)) (fun _ i _ => s.size - (intOf i).toNat)
  case atStart => exact ⟨0, [], s.size + 1, by omega, by omega, by simp, rfl, (by repeat (first | exact Exts.refl _ | apply Exts.andR | apply Exts.alloc | apply Exts.wext | apply Exts.drew | apply Exts.drewN)), World.ownsRow_nil _ _ _ _, by rw [HD.out, List.drop_zero, comb_nil]⟩
  case round =>
    obtain ⟨k, ts, f, hk, hf, htk, rfl, ⟨x, rfl⟩, hown, hrel⟩ := hrel
    obtain ⟨f, rfl⟩ : ∃ f', f = f' + 1 := ⟨f - 1, by omega⟩
    obtain ⟨ao, c, rfl⟩ := owns_shape hown
    have HO := Lib.hid hown
    have HREL := Lib.hid hrel
    clear hown hrel
    by_cases hend : k < s.size
    · have hdr := drop_at hend
      cases hb : blankI (s[k].toNat : Int) with
      | true =>
        have HB := Lib.hid hb
        have HR := Lib.hid (HREL.out.trans (by rw [hdr, lex_skip hb]))
        clear hdr hb
        go_wp2_with (first | (go_at_call 21; ((with_reducible refine (refBlank21 _ _).mono ?_); rintro e w' ⟨rfl, rfl⟩; rw [HB.out])))
        refine ⟨⟨k + 1, ts, f + 1, by omega, by omega, by omega, by go_num, (by repeat (first | exact Exts.refl _ | apply Exts.andR | apply Exts.alloc | apply Exts.wext | apply Exts.drew | apply Exts.drewN)), ownsRow_exts HO.out (by repeat (first | exact Exts.refl _ | apply Exts.andR | apply Exts.alloc | apply Exts.wext | apply Exts.drew | apply Exts.drewN)), HR.out⟩, ?_⟩
        simp [intOf]; omega
      | false =>
        have HB := Lib.hid hb
        have hb0 : spanN blankI (s.data.toList.drop k) = 0 := span_zero (by rw [head_at hend]; exact hb)
        have hne : s.data.toList.drop (k + 0) ≠ [] := by rw [Nat.add_zero, hdr]; simp
        obtain ⟨⟨tk, code⟩, hT⟩ : ∃ D, nextP (s.data.toList.drop k) = D := ⟨_, rfl⟩
        have HT := Lib.hid hT
        have hTk : nextP (s.data.toList.drop (k + 0)) = (tk, code) := by rw [Nat.add_zero]; exact hT
        by_cases hcode : code = 0
        · subst hcode
          have hok := nextP_ok (l := s.data.toList.drop k) (by rw [hT])
          rw [hT] at hok
          obtain ⟨m, hm⟩ : ∃ m, tk.text.length = m := ⟨_, rfl⟩
          have hm0 : 0 < m := by rw [← hm]; exact hok.1
          have hmj : k + m ≤ s.size := by
            have := congrArg List.length hok.2
            simp only [List.length_take, List.length_drop, data_len] at this
            have h1 : tk.text.length = m := hm
            omega
          have hstep := lex_tok (ts := ts) (f := f) hb0 hne (by rw [hTk]) (m := m) (by rw [hTk]; exact hm)
          rw [hTk, Nat.add_zero] at hstep
          have HSTEP := Lib.hid (HREL.out.trans hstep)
          have hsz : (⟨tk.text.toArray⟩ : ByteArray).size = m := by rw [← hm]; rfl
          have hu : ∀ g, (Value.slice ao ts.length c).ownBlock = some g → g < w.heap.size + x.bs.size := fun g hg => by have := (HO.out.lt g hg).2; simpa using this
          have HU := Lib.hid hu
          clear hu hok hT hTk hne hstep hdr hb hb0
          go_wp2_with (first | (go_at_call 21; ((with_reducible refine (refBlank21 _ _).mono ?_); rintro e w' ⟨rfl, rfl⟩; rw [HB.out])) | (go_at_call 25; refine (token25 _ _ _ (by omega) hend tk 0 HT.out).mono ?_; rintro e w' ⟨rfl, x2, rfl⟩; rw [if_pos rfl]) | (at_builtin; refine wpList_append_lies _ rfl (.tmp 32) (.tmp 34) 22 rfl w.heap.size 25 i0 _ 4 40 Tryd.underlying22 hi hz0 hz1 hz2 rfl (by decide) (.slice ao ts.length c) ts.length (tokFlat ts) rfl (ownsRow_exts HO.out (by repeat (first | exact Exts.refl _ | apply Exts.andR | apply Exts.alloc | apply Exts.wext | apply Exts.drew | apply Exts.drewN))) ⟨_, 0, none⟩ 1 1 [.int .i64 tk.kind, .string ⟨tk.text.toArray⟩, .int .i64 tk.n, .int .i64 k] rfl rfl (by intro j u hj; match j, hj with | 0, hj => (simp at hj; subst hj; simp [go_sem]) | 1, hj => (simp at hj; subst hj; simp [go_sem]) | 2, hj => (simp at hj; subst hj; simp [go_sem]) | 3, hj => (simp at hj; subst hj; simp [go_sem])) (tok_one (tk.at k)) (by decide) (by unfold maxLen; omega) (by omega) (by simp; omega) _ rfl ?_; intro g cg w1 hown' hgrow hat hlt'; (have c7 : w1.cell? ⟨w.heap.size + x.bs.size + x2.bs.size, 1, none⟩ = some (.string ⟨tk.text.toArray⟩) := World.grownBy.cell hgrow (by simp [go_sem]) (fun h => by have := HU.out (w.heap.size + x.bs.size + x2.bs.size) h.symm; omega))))
          refine ⟨⟨k + m, ts ++ [tk.at k], f, by omega, by omega, by simp; omega, by go_num, exts_of_grown (W := w) (by repeat (first | exact Exts.refl _ | apply Exts.andR | apply Exts.alloc | apply Exts.wext | apply Exts.drew | apply Exts.drewN)) hgrow (fun b hb => (HO.out.lt b hb).1), by rw [List.length_append, tokFlat_snoc]; exact hown', HSTEP.out⟩, ?_⟩
          simp [intOf]; omega
        · have q3 : (code == 0) = false := by simpa using hcode
          have q4 : (code != 0) = true := by simpa using hcode
          have HR := Lib.hid (HREL.out.trans (lex_err hb0 hne (by rw [hTk]; exact hcode)))
          rw [hTk, Nat.add_zero] at HR
          have HC := Lib.hid hcode
          clear hne hT hTk hcode hdr hb hb0
          go_wp2_with (first | (go_at_call 21; ((with_reducible refine (refBlank21 _ _).mono ?_); rintro e w' ⟨rfl, rfl⟩; rw [HB.out])) | (go_at_call 25; refine (token25 _ _ _ (by omega) hend tk code HT.out).mono ?_; rintro e w' ⟨rfl, x2, rfl⟩; rw [if_neg HC.out]))
          go_ret3
          exact LRes.err HR.out rfl (by repeat (first | exact Exts.refl _ | apply Exts.andR | apply Exts.alloc | apply Exts.wext | apply Exts.drew | apply Exts.drewN))
    · obtain rfl : k = s.size := by omega
      have hb0 : spanN blankI (s.data.toList.drop s.size) = 0 := by rw [List.drop_eq_nil_of_le (by rw [data_len]; omega)]; rfl
      have HR := Lib.hid (HREL.out.trans (lex_fin hb0 (List.drop_eq_nil_of_le (by rw [data_len]; omega))))
      rw [Nat.add_zero] at HR
      clear hb0
      go_wp2_with (first | (at_builtin; refine wpList_append_lies _ rfl (.tmp 41) (.tmp 45) 22 rfl w.heap.size 25 i0 _ 4 40 Tryd.underlying22 hi hz0 hz1 hz2 rfl (by decide) (.slice ao ts.length c) ts.length (tokFlat ts) rfl (ownsRow_exts HO.out (by repeat (first | exact Exts.refl _ | apply Exts.andR | apply Exts.alloc | apply Exts.wext | apply Exts.drew | apply Exts.drewN))) ⟨_, 0, none⟩ 1 1 [.int .i64 3, .string ⟨#[]⟩, .int .i64 0, .int .i64 s.size] rfl rfl (by intro j u hj; match j, hj with | 0, hj => (simp at hj; subst hj; simp [go_sem]) | 1, hj => (simp at hj; subst hj; simp [go_sem]) | 2, hj => (simp at hj; subst hj; simp [go_sem]) | 3, hj => (simp at hj; subst hj; simp [go_sem])) (tok_one (endT s.size)) (by decide) (by unfold maxLen; omega) (by omega) (by simp; omega) _ rfl ?_; intro g cg w1 hown' hgrow hat hlt'))
      go_ret3
      have hrow := RowF.of_owns hown'
      have hx := exts_of_grown (W := w) (by repeat (first | exact Exts.refl _ | apply Exts.andR | apply Exts.alloc | apply Exts.wext | apply Exts.drew | apply Exts.drewN)) hgrow (fun b hb => (HO.out.lt b hb).1)
      exact LRes.ok HR.out (by simp) rfl hx (by rw [tokFlat_snoc]; exact hrow)
end Go.Proofs.YtjenpmeknlgadaaDoor
