/- Text of package lex. Conditions: the tokens and their bytes are not too many. -/
import Derived.Test.YtjenpmeknlgadaaDoorLex
import Derived.Lib.Join
namespace Go.Proofs.YtjenpmeknlgadaaDoor
open Go.RowKit
set_option linter.unusedSimpArgs false
set_option linter.unusedVariables false

theorem info9 : (Tryd.prog.info? 9).map (fun i => (i.zero, i.size, i.bytes)) = some (some (.string ByteArray.empty), 1, 16) := by kernel_rfl
def keepT (t : TP) : Bool := t.kind != 3
def texts (ts : List TP) : List (List UInt8) := (ts.filter keepT).map (·.text)
def textP (ts : List TP) : List UInt8 := Lib.join (texts ts) [32]
def strs (L : List (List UInt8)) : List Value := L.map fun t => .string ⟨t.toArray⟩
theorem texts_take (ts : List TP) (k : Nat) (t : TP) (h : ts[k]? = some t) : texts (ts.take (k + 1)) = if keepT t = true then texts (ts.take k) ++ [t.text] else texts (ts.take k) := by
  unfold texts
  rw [List.take_add_one, h, List.filter_append]
  simp only [Option.toList_some]
  split
  · rename_i hk
    rw [List.filter_cons, if_pos hk, List.map_append]
    rfl
  · rename_i hk
    rw [List.filter_cons, if_neg hk, List.filter_nil, List.append_nil]
theorem texts_len (ts : List TP) (k : Nat) : (texts (ts.take k)).length ≤ k := by
  unfold texts
  rw [List.length_map]
  exact Nat.le_trans (List.length_filter_le _ _) (by rw [List.length_take]; exact Nat.min_le_left _ _)

theorem join31 {S : Nat → Prop} (v : Value) (L : List (List UInt8)) (w : World) (h : RowF S 1 w v L.length (strs L)) (hn : L.length ≤ 140737488355328) (hl : (Lib.join L [32]).length ≤ 140737488355328) :
    Calls Tryd.prog 31 #[v, .string ⟨#[32]⟩] w fun e w' => e = .returned (.string ⟨(Lib.join L [32]).toArray⟩) ∧ Exts w w' := by
  obtain ⟨h1, ao, cap, rfl, h2, h3, h4, h5⟩ := h
  have hmap : (L.map fun t => (⟨t.toArray⟩ : ByteArray)).map (·.data.toList) = L := by
    rw [List.map_map]
    conv => rhs; rw [← List.map_id L]
    exact List.map_congr_left fun t _ => rfl
  cases L with
  | nil =>
    refine (Go.Proofs.Tryd.strings_Join_none ao cap ⟨#[32]⟩ w).mono ?_
    rintro e w' ⟨rfl, rfl⟩
    exact ⟨rfl, Exts.refl _⟩
  | cons t L =>
    obtain ⟨b, off, rfl, _, hb, hc⟩ := h5 (by simp)
    have := Go.Proofs.Tryd.strings_Join b off cap ((t :: L).map fun t => (⟨t.toArray⟩ : ByteArray)) ⟨#[32]⟩ w (fun j x hx => hc j _ (by
      unfold strs
      rw [List.getElem?_map] at hx ⊢
      cases hj : (t :: L)[j]? with
      | none => rw [hj] at hx; cases hx
      | some y => rw [hj] at hx; simp at hx; subst hx; rfl)) hb (by simpa using hn) (by simpa using h2) (by rw [hmap]; exact hl)
    rw [List.length_map, hmap] at this
    refine this.mono ?_
    rintro e w' ⟨rfl, hw⟩
    exact ⟨rfl, Exts.of_below hw⟩

theorem str_one (L : List (List UInt8)) : ∀ u ∈ strs L, u.oneCell' = true := by
  intro u hu
  unfold strs at hu
  rw [List.mem_map] at hu
  obtain ⟨t, _, rfl⟩ := hu
  rfl
set_option maxRecDepth 100000
set_option maxHeartbeats 2000000 in
theorem text18 {S : Nat → Prop} (ao : Option Addr) (n cap : Nat) (ts : List TP) (w : World) (h : RowF S 4 w (.slice ao n cap) n (tokFlat ts)) (hn : ts.length = n) (hm : n ≤ 100000) (hl : (textP ts).length ≤ 140737488355328) :
    Calls Tryd.prog 18 #[.slice ao n cap] w fun e w' => e = .returned (.string ⟨(textP ts).toArray⟩) ∧ Exts w w' := by
  obtain ⟨i0, hi, hz0, hz1, hz2⟩ := info_parts info9
  have H := Lib.hid h
  have HL := Lib.hid hl
  have HN := Lib.hid hn
  clear h hl hn
  go_enter Tryd.func18, Tryd.ntmps18
  go_wp2
  go_loopw [3, 8] (fun o i wr => ∃ k : Nat, k ≤ n ∧ i = .int .i64 k ∧ Exts w wr ∧ wr.ownsRow w.heap.size 9 1 o (texts (ts.take k)).length (strs (texts (ts.take k)))) (fun _ i _ => n - (intOf i).toNat)
  case atStart => exact ⟨0, by omega, rfl, Exts.refl _, World.ownsRow_nil _ _ _ _⟩
  case round =>
    obtain ⟨k, hk, rfl, ⟨x, rfl⟩, hown⟩ := hrel
    obtain ⟨ao2, c, rfl⟩ := owns_shape hown
    by_cases hlt : k < n
    · obtain ⟨t, ht⟩ : ∃ t, ts[k]? = some t := ⟨ts[k]'(by rw [HN.out]; exact hlt), List.getElem?_eq_getElem (by rw [HN.out]; exact hlt)⟩
      obtain ⟨b, off, rfl, hb, e0, e1, e2, e3⟩ := Toks.get H.out ht
      have hst := texts_take ts k t ht
      have hlen := texts_len ts k
      have HO := Lib.hid hown
      clear hown ht
      obtain ⟨q, hq⟩ : ∃ q, (texts (ts.take k)).length = q := ⟨_, rfl⟩
      have hqk : q ≤ k := by omega
      have HQ := Lib.hid hq
      by_cases hk3 : t.kind = 3
      · have q1 : (t.kind == 3) = true := by simpa using hk3
        have q2 : (t.kind != 3) = false := by simpa using hk3
        have HST := Lib.hid (show texts (ts.take (k + 1)) = texts (ts.take k) by rw [hst, if_neg (by simp [keepT, hk3])])
        clear hst hlen hk3 hq
        go_wp2
        go_roundw
        case rel => exact ⟨k + 1, by omega, by go_num, (by repeat (first | exact Exts.refl _ | apply Exts.andR | apply Exts.alloc | apply Exts.wext | apply Exts.drew | apply Exts.drewN)), by rw [HST.out]; exact ownsRow_exts HO.out (by repeat (first | exact Exts.refl _ | apply Exts.andR | apply Exts.alloc | apply Exts.wext | apply Exts.drew | apply Exts.drewN))⟩
        case measure => simp [intOf]; omega
      · have q1 : (t.kind == 3) = false := by simpa using hk3
        have q2 : (t.kind != 3) = true := by simpa using hk3
        have HST := Lib.hid (show texts (ts.take (k + 1)) = texts (ts.take k) ++ [t.text] by rw [hst, if_pos (by simpa [keepT] using hk3)])
        clear hst hlen hk3
        rw [hq]
        clear hq
        go_wp2_with (at_builtin; refine wpList_append_lies _ rfl (.tmp 15) (.tmp 18) 42 rfl w.heap.size 9 i0 _ 1 16 Tryd.underlying42 hi hz0 hz1 hz2 rfl (by decide) (.slice ao2 q c) q (strs (texts (ts.take k))) rfl (ownsRow_exts (HQ.out ▸ HO.out) (by repeat (first | exact Exts.refl _ | apply Exts.andR | apply Exts.alloc | apply Exts.wext | apply Exts.drew | apply Exts.drewN))) ⟨_, 0, none⟩ 1 1 [.string ⟨t.text.toArray⟩] rfl rfl (by intro j u hj; match j, hj with | 0, hj => (simp at hj; subst hj; simp [go_sem])) (by intro u hu; simp at hu; subst hu; rfl) (by decide) (by unfold maxLen; omega) (by omega) (by simp; omega) _ rfl ?_; intro g cg w1 hown' hgrow hat hlt')
        go_roundw
        case rel => exact ⟨k + 1, by omega, by go_num, exts_of_grown (W := w) (by repeat (first | exact Exts.refl _ | apply Exts.andR | apply Exts.alloc | apply Exts.wext | apply Exts.drew | apply Exts.drewN)) hgrow (fun b hb => ((HQ.out ▸ HO.out : World.ownsRow _ _ _ _ (.slice ao2 q c) q _).lt b hb).1), by rw [HST.out, List.length_append, HQ.out, strs, List.map_append]; exact hown'⟩
        case measure => simp [intOf]; omega
    · obtain rfl : k = n := by omega
      have htk : ts.take k = ts := List.take_of_length_le (by rw [HN.out]; exact Nat.le_refl _)
      have hlen := texts_len ts k
      rw [htk] at hown hlen
      rw [htk]
      have HR := Lib.hid (RowF.of_owns hown)
      clear hown htk
      go_wp2_with (go_at_call 31; refine (join31 _ (texts ts) _ (HR.out.exts (by repeat (first | exact Exts.refl _ | apply Exts.andR | apply Exts.alloc | apply Exts.wext | apply Exts.drew | apply Exts.drewN))) (by omega) HL.out).mono ?_; rintro e w' ⟨rfl, x3, rfl⟩)
      go_ret
      exact ⟨rfl, (by repeat (first | exact Exts.refl _ | apply Exts.andR | apply Exts.alloc | apply Exts.wext | apply Exts.drew | apply Exts.drewN))⟩
end Go.Proofs.YtjenpmeknlgadaaDoor
