/- next of package lex: the token at the beginning of a string. Conditions: the string is not empty, its length fits, the table of signs is as the program lays it. -/
import Derived.Test.YtjenpmeknlgadaaDoorNum
import Derived.Test.YtjenpmeknlgadaaDoorShelf
import Derived.Laws.Rows
namespace Go.Proofs.YtjenpmeknlgadaaDoor
open Go.RowKit
set_option linter.unusedSimpArgs false
set_option linter.unusedVariables false

def signsL : List (List UInt8) := [[60, 61], [61, 61], [59], [44], [58], [61], [60], [43], [45], [42], [47], [37], [40], [41]]
abbrev signsV : Array Value := #[.string ⟨#[60, 61]⟩, .string ⟨#[61, 61]⟩, .string ⟨#[59]⟩, .string ⟨#[44]⟩, .string ⟨#[58]⟩, .string ⟨#[61]⟩, .string ⟨#[60]⟩, .string ⟨#[43]⟩, .string ⟨#[45]⟩, .string ⟨#[42]⟩, .string ⟨#[47]⟩, .string ⟨#[37]⟩, .string ⟨#[40]⟩, .string ⟨#[41]⟩]
/-- The table of signs lies where the program lays it. -/
def Signs (w : World) : Prop := ∃ t fr, w.heap[0]? = some (.cells signsV t fr)
theorem Signs.exts {w w' : World} (h : Signs w) (he : Exts w w') : Signs w' := by
  obtain ⟨t, fr, h⟩ := h
  exact ⟨t, fr, (he.below.block 0 (Array.getElem?_eq_some_iff.1 h).1).trans h⟩

structure TK where
  kind : Int
  text : List UInt8
  n : Int
def TK.zero : TK := ⟨0, [], 0⟩
def signP (l : List UInt8) : Option (List UInt8) := signsL.find? (·.isPrefixOf l)
def nextP (l : List UInt8) : TK × Int :=
  if letterI (headI l) = true then (if wordB (l.take (spanN wordI l)) = true then (⟨0, l.take (spanN wordI l), 0⟩, 0) else (.zero, 15))
  else if digitI (headI l) = true then (if (numD (l.take (spanN digitI l))).2 = true then (⟨1, l.take (spanN digitI l), (numD (l.take (spanN digitI l))).1⟩, 0) else (.zero, 3))
  else match signP l with | some x => (⟨2, x, 0⟩, 0) | none => (.zero, 13)
theorem ext0 (s : ByteArray) (n : Nat) : s.extract 0 n = ⟨(s.data.toList.take n).toArray⟩ := by
  have := Lib.extract_data s 0 n
  rw [List.drop_zero, Nat.sub_zero] at this
  have h2 : (s.extract 0 n).data = (s.data.toList.take n).toArray := by rw [← this]
  rw [← h2]
def tokV (t : TK) : Value := .agg #[.int .i64 t.kind, .string ⟨t.text.toArray⟩, .int .i64 t.n, .int .i64 0]

set_option maxRecDepth 100000
set_option maxHeartbeats 1000000
theorem next24_word (s : ByteArray) (w : World) (hs : s.size ≤ 9223372036854775807) (h0 : 0 < s.size) (hl : letterI (headI s.data.toList) = true) :
    Calls Tryd.prog 24 #[.string s] w fun e w' => e = .returned (.tuple #[tokV (nextP s.data.toList).1, .int .i64 (nextP s.data.toList).2]) ∧ Exts w w' := by
  have HL := Lib.hid (head_of h0 ▸ hl : letterI (s[0].toNat : Int) = true)
  have hle : spanN wordI s.data.toList ≤ s.size := by rw [← data_len s]; exact spanN_le _ _
  have hE := Lib.extract_data s 0 (spanN wordI s.data.toList)
  rw [List.drop_zero, Nat.sub_zero] at hE
  have e0 := ext0 s (spanN wordI s.data.toList)
  cases hw : wordB (s.data.toList.take (spanN wordI s.data.toList)) with
  | true =>
    have HW := Lib.hid (hE ▸ hw : wordB (s.extract 0 (spanN wordI s.data.toList)).data.toList = true)
    have HR := Lib.hid (show nextP s.data.toList = (⟨0, s.data.toList.take (spanN wordI s.data.toList), 0⟩, 0) by unfold nextP; rw [if_pos hl, if_pos hw])
    have HE := Lib.hid e0
    clear hl hw hE e0
    go_enter Tryd.func24, Tryd.ntmps24
    go_wp2_with (first | (go_at_call 28; refine (letter28_eq _ _ _ HL.out).mono ?_; rintro e w' ⟨rfl, rfl⟩) | (go_at_call 22; refine (span22_word32 _ _ hs).mono ?_; rintro e w' ⟨rfl, rfl⟩) | (go_at_call 16; refine (word16 _ _ (by simp; omega)).mono ?_; rintro e w' ⟨rfl, rfl⟩; rw [HW.out]))
    refine bodyPost_ret (v := .tuple #[.agg #[.int .i64 0, .string (s.extract 0 (spanN wordI s.data.toList)), .int .i64 0, .int .i64 0], .int .i64 0]) (by simp [results, go_sem]) rfl ⟨by rw [HR.out, tokV, HE.out], (by repeat (first | exact Exts.refl _ | apply Exts.andR | apply Exts.alloc | apply Exts.wext | apply Exts.drew | apply Exts.drewN))⟩
  | false =>
    have HW := Lib.hid (hE ▸ hw : wordB (s.extract 0 (spanN wordI s.data.toList)).data.toList = false)
    have HR := Lib.hid (show nextP s.data.toList = (.zero, 15) by unfold nextP; rw [if_pos hl, if_neg (by simp [hw])])
    have HE := Lib.hid e0
    clear hl hw hE e0
    go_enter Tryd.func24, Tryd.ntmps24
    go_wp2_with (first | (go_at_call 28; refine (letter28_eq _ _ _ HL.out).mono ?_; rintro e w' ⟨rfl, rfl⟩) | (go_at_call 22; refine (span22_word32 _ _ hs).mono ?_; rintro e w' ⟨rfl, rfl⟩) | (go_at_call 16; refine (word16 _ _ (by simp; omega)).mono ?_; rintro e w' ⟨rfl, rfl⟩; rw [HW.out]))
    refine bodyPost_ret (v := .tuple #[.agg #[.int .i64 0, .string ⟨#[]⟩, .int .i64 0, .int .i64 0], .int .i64 15]) (by simp [results, go_sem]) rfl ⟨by rw [HR.out]; rfl, (by repeat (first | exact Exts.refl _ | apply Exts.andR | apply Exts.alloc | apply Exts.wext | apply Exts.drew | apply Exts.drewN))⟩

theorem next24_num (s : ByteArray) (w : World) (hs : s.size ≤ 9223372036854775807) (h0 : 0 < s.size) (hl : letterI (headI s.data.toList) = false) (hd : digitI (headI s.data.toList) = true) :
    Calls Tryd.prog 24 #[.string s] w fun e w' => e = .returned (.tuple #[tokV (nextP s.data.toList).1, .int .i64 (nextP s.data.toList).2]) ∧ Exts w w' := by
  have HL := Lib.hid (head_of h0 ▸ hl : letterI (s[0].toNat : Int) = false)
  have HD := Lib.hid (head_of h0 ▸ hd : digitI (s[0].toNat : Int) = true)
  have hle : spanN digitI s.data.toList ≤ s.size := by rw [← data_len s]; exact spanN_le _ _
  have hE := Lib.extract_data s 0 (spanN digitI s.data.toList)
  rw [List.drop_zero, Nat.sub_zero] at hE
  have e0 := ext0 s (spanN digitI s.data.toList)
  have hl' : ¬ letterI (headI s.data.toList) = true := by simp [hl]
  obtain ⟨⟨v, b⟩, hw⟩ : ∃ D, numD (s.data.toList.take (spanN digitI s.data.toList)) = D := ⟨_, rfl⟩
  have HW := Lib.hid (hE ▸ hw : numD (s.extract 0 (spanN digitI s.data.toList)).data.toList = (v, b))
  have HE := Lib.hid e0
  cases b with
  | true =>
    have HR := Lib.hid (show nextP s.data.toList = (⟨1, s.data.toList.take (spanN digitI s.data.toList), v⟩, 0) by unfold nextP; rw [if_neg hl', if_pos hd, hw]; rfl)
    clear hl hl' hd hw hE e0
    go_enter Tryd.func24, Tryd.ntmps24
    go_wp2_with (first | (go_at_call 28; refine (letter28_eq _ _ _ HL.out).mono ?_; rintro e w' ⟨rfl, rfl⟩) | (go_at_call 26; refine (digit26_eq _ _ _ HD.out).mono ?_; rintro e w' ⟨rfl, rfl⟩) | (go_at_call 22; refine (span22_digit _ _ hs).mono ?_; rintro e w' ⟨rfl, rfl⟩) | (go_at_call 13; refine (number13 _ _ (by simp; omega)).mono ?_; rintro e w' ⟨rfl, rfl⟩; rw [HW.out]))
    refine bodyPost_ret (v := .tuple #[.agg #[.int .i64 1, .string (s.extract 0 (spanN digitI s.data.toList)), .int .i64 v, .int .i64 0], .int .i64 0]) (by simp [results, go_sem]) rfl ⟨by rw [HR.out, tokV, HE.out], (by repeat (first | exact Exts.refl _ | apply Exts.andR | apply Exts.alloc | apply Exts.wext | apply Exts.drew | apply Exts.drewN))⟩
  | false =>
    have HR := Lib.hid (show nextP s.data.toList = (.zero, 3) by unfold nextP; rw [if_neg hl', if_pos hd, hw]; rfl)
    clear hl hl' hd hw hE e0
    go_enter Tryd.func24, Tryd.ntmps24
    go_wp2_with (first | (go_at_call 28; refine (letter28_eq _ _ _ HL.out).mono ?_; rintro e w' ⟨rfl, rfl⟩) | (go_at_call 26; refine (digit26_eq _ _ _ HD.out).mono ?_; rintro e w' ⟨rfl, rfl⟩) | (go_at_call 22; refine (span22_digit _ _ hs).mono ?_; rintro e w' ⟨rfl, rfl⟩) | (go_at_call 13; refine (number13 _ _ (by simp; omega)).mono ?_; rintro e w' ⟨rfl, rfl⟩; rw [HW.out]))
    refine bodyPost_ret (v := .tuple #[.agg #[.int .i64 0, .string ⟨#[]⟩, .int .i64 0, .int .i64 0], .int .i64 3]) (by simp [results, go_sem]) rfl ⟨by rw [HR.out]; rfl, (by repeat (first | exact Exts.refl _ | apply Exts.andR | apply Exts.alloc | apply Exts.wext | apply Exts.drew | apply Exts.drewN))⟩

theorem signP_hit {l : List UInt8} {k : Nat} {x : List UInt8} (hx : signsL[k]? = some x) (h : ∀ j y, j < k → signsL[j]? = some y → y.isPrefixOf l = false) (hp : x.isPrefixOf l = true) : signP l = some x := by
  unfold signP
  rw [List.find?_eq_some_iff_append]
  refine ⟨hp, signsL.take k, signsL.drop (k + 1), ?_, fun y hy => ?_⟩
  · have hk := (List.getElem?_eq_some_iff.1 hx)
    obtain ⟨hk1, hk2⟩ := hk
    rw [← hk2]
    rw [← List.drop_eq_getElem_cons hk1, List.take_append_drop]
  · obtain ⟨j, hj⟩ := List.getElem?_of_mem hy
    rw [List.getElem?_take] at hj
    split at hj
    · rename_i hlt
      rw [h j y hlt hj]
      rfl
    · cases hj
theorem signP_miss {l : List UInt8} (h : ∀ j y, j < 14 → signsL[j]? = some y → y.isPrefixOf l = false) : signP l = none := by
  unfold signP
  rw [List.find?_eq_none]
  intro y hy
  obtain ⟨j, hj⟩ := List.getElem?_of_mem hy
  have := (List.getElem?_eq_some_iff.1 hj).1
  rw [h j y this hj]
  simp

theorem hasPre (s : ByteArray) (x : List UInt8) (b : Bool) (h : x.isPrefixOf s.data.toList = b) (w : World) : Calls Tryd.prog 33 #[.string s, .string ⟨x.toArray⟩] w fun e w' => e = .returned (.bool b) ∧ w = w' :=
  (Go.Proofs.Tryd.strings_HasPrefix s ⟨x.toArray⟩ w).mono fun e w' ⟨he, hw⟩ => ⟨by rw [he, ← h]; rfl, hw.symm⟩
set_option maxHeartbeats 4000000 in
theorem next24_sign (s : ByteArray) (w : World) (hs : s.size ≤ 9223372036854775807) (h0 : 0 < s.size) (hsg : Signs w) (hl : letterI (headI s.data.toList) = false) (hd : digitI (headI s.data.toList) = false) :
    Calls Tryd.prog 24 #[.string s] w fun e w' => e = .returned (.tuple #[tokV (nextP s.data.toList).1, .int .i64 (nextP s.data.toList).2]) ∧ Exts w w' := by
  have HL := Lib.hid (head_of h0 ▸ hl : letterI (s[0].toNat : Int) = false)
  have HD := Lib.hid (head_of h0 ▸ hd : digitI (s[0].toNat : Int) = false)
  have hN : nextP s.data.toList = (match signP s.data.toList with | some x => (⟨2, x, 0⟩, 0) | none => (.zero, 13)) := by unfold nextP; rw [if_neg (by simp [hl]), if_neg (by simp [hd])]
  have HN := Lib.hid hN
  obtain ⟨t, fr, hg⟩ := hsg.exts ((Exts.refl w).alloc (.cells #[.int .i64 0, .string ⟨#[]⟩, .int .i64 0, .int .i64 0] 25))
  have HG := Lib.hid hg
  clear hl hd hN hsg hg
  go_enter Tryd.func24, Tryd.ntmps24
  go_wp2_with (first | (go_at_call 28; refine (letter28_eq _ _ _ HL.out).mono ?_; rintro e w' ⟨rfl, rfl⟩) | (go_at_call 26; refine (digit26_eq _ _ _ HD.out).mono ?_; rintro e w' ⟨rfl, rfl⟩) | (refine wpList_load_row rfl 44 _ rfl 0 rfl t _ fr _ HG.out Tryd.underlying44 rfl (by kernel_rfl) ?_))
  have i0 : ∀ w, (Instr.index 44 (.agg signsV) (.int .i64 0)).run Tryd.prog w = .ok (.string ⟨#[60, 61]⟩) w := fun _ => by kernel_rfl
  have i1 : ∀ w, (Instr.index 44 (.agg signsV) (.int .i64 1)).run Tryd.prog w = .ok (.string ⟨#[61, 61]⟩) w := fun _ => by kernel_rfl
  have i2 : ∀ w, (Instr.index 44 (.agg signsV) (.int .i64 2)).run Tryd.prog w = .ok (.string ⟨#[59]⟩) w := fun _ => by kernel_rfl
  have i3 : ∀ w, (Instr.index 44 (.agg signsV) (.int .i64 3)).run Tryd.prog w = .ok (.string ⟨#[44]⟩) w := fun _ => by kernel_rfl
  have i4 : ∀ w, (Instr.index 44 (.agg signsV) (.int .i64 4)).run Tryd.prog w = .ok (.string ⟨#[58]⟩) w := fun _ => by kernel_rfl
  have i5 : ∀ w, (Instr.index 44 (.agg signsV) (.int .i64 5)).run Tryd.prog w = .ok (.string ⟨#[61]⟩) w := fun _ => by kernel_rfl
  have i6 : ∀ w, (Instr.index 44 (.agg signsV) (.int .i64 6)).run Tryd.prog w = .ok (.string ⟨#[60]⟩) w := fun _ => by kernel_rfl
  have i7 : ∀ w, (Instr.index 44 (.agg signsV) (.int .i64 7)).run Tryd.prog w = .ok (.string ⟨#[43]⟩) w := fun _ => by kernel_rfl
  have i8 : ∀ w, (Instr.index 44 (.agg signsV) (.int .i64 8)).run Tryd.prog w = .ok (.string ⟨#[45]⟩) w := fun _ => by kernel_rfl
  have i9 : ∀ w, (Instr.index 44 (.agg signsV) (.int .i64 9)).run Tryd.prog w = .ok (.string ⟨#[42]⟩) w := fun _ => by kernel_rfl
  have i10 : ∀ w, (Instr.index 44 (.agg signsV) (.int .i64 10)).run Tryd.prog w = .ok (.string ⟨#[47]⟩) w := fun _ => by kernel_rfl
  have i11 : ∀ w, (Instr.index 44 (.agg signsV) (.int .i64 11)).run Tryd.prog w = .ok (.string ⟨#[37]⟩) w := fun _ => by kernel_rfl
  have i12 : ∀ w, (Instr.index 44 (.agg signsV) (.int .i64 12)).run Tryd.prog w = .ok (.string ⟨#[40]⟩) w := fun _ => by kernel_rfl
  have i13 : ∀ w, (Instr.index 44 (.agg signsV) (.int .i64 13)).run Tryd.prog w = .ok (.string ⟨#[41]⟩) w := fun _ => by kernel_rfl
  go_loop [9, 44] (fun _ i => ∃ k : Nat, k ≤ 14 ∧ i = .int .i64 k ∧ ∀ j y, j < k → signsL[j]? = some y → y.isPrefixOf s.data.toList = false) (fun _ i => 14 - (intOf i).toNat)
  case atStart => exact ⟨0, by omega, rfl, fun j y hj => by omega⟩
  case round =>
    obtain ⟨k, hk, rfl, hin⟩ := hrel
    have HIN := Lib.hid hin
    clear hin
    rcases (show k = 0 ∨ k = 1 ∨ k = 2 ∨ k = 3 ∨ k = 4 ∨ k = 5 ∨ k = 6 ∨ k = 7 ∨ k = 8 ∨ k = 9 ∨ k = 10 ∨ k = 11 ∨ k = 12 ∨ k = 13 ∨ k = 14 by omega) with rfl | rfl | rfl | rfl | rfl | rfl | rfl | rfl | rfl | rfl | rfl | rfl | rfl | rfl | rfl
    · cases hp : ([60, 61] : List UInt8).isPrefixOf s.data.toList with
      | true =>
        have HP := Lib.hid hp
        have HR := Lib.hid (show nextP s.data.toList = (⟨2, [60, 61], 0⟩, 0) by rw [HN.out, signP_hit (k := 0) (x := [60, 61]) rfl HIN.out hp])
        clear hp
        go_wp2_with (go_at_call 33; refine (hasPre s [60, 61] true HP.out _).mono ?_; rintro e w' ⟨rfl, rfl⟩)
        refine bodyPost_ret (v := .tuple #[.agg #[.int .i64 2, .string ⟨#[60, 61]⟩, .int .i64 0, .int .i64 0], .int .i64 0]) (by simp [results, go_sem]) rfl ⟨by rw [HR.out]; rfl, (by repeat (first | exact Exts.refl _ | apply Exts.andR | apply Exts.alloc | apply Exts.wext | apply Exts.drew | apply Exts.drewN))⟩
      | false =>
        have HP := Lib.hid hp
        clear hp
        go_wp2_with (go_at_call 33; refine (hasPre s [60, 61] false HP.out _).mono ?_; rintro e w' ⟨rfl, rfl⟩)
        go_round
        case rel => exact ⟨1, by omega, rfl, fun j y hj hy => by
          by_cases hjk : j < 0
          · exact HIN.out j y hjk hy
          · obtain rfl : j = 0 := by omega
            cases hy
            exact HP.out⟩
        case measure => simp [intOf]
    · cases hp : ([61, 61] : List UInt8).isPrefixOf s.data.toList with
      | true =>
        have HP := Lib.hid hp
        have HR := Lib.hid (show nextP s.data.toList = (⟨2, [61, 61], 0⟩, 0) by rw [HN.out, signP_hit (k := 1) (x := [61, 61]) rfl HIN.out hp])
        clear hp
        go_wp2_with (go_at_call 33; refine (hasPre s [61, 61] true HP.out _).mono ?_; rintro e w' ⟨rfl, rfl⟩)
        refine bodyPost_ret (v := .tuple #[.agg #[.int .i64 2, .string ⟨#[61, 61]⟩, .int .i64 0, .int .i64 0], .int .i64 0]) (by simp [results, go_sem]) rfl ⟨by rw [HR.out]; rfl, (by repeat (first | exact Exts.refl _ | apply Exts.andR | apply Exts.alloc | apply Exts.wext | apply Exts.drew | apply Exts.drewN))⟩
      | false =>
        have HP := Lib.hid hp
        clear hp
        go_wp2_with (go_at_call 33; refine (hasPre s [61, 61] false HP.out _).mono ?_; rintro e w' ⟨rfl, rfl⟩)
        go_round
        case rel => exact ⟨2, by omega, rfl, fun j y hj hy => by
          by_cases hjk : j < 1
          · exact HIN.out j y hjk hy
          · obtain rfl : j = 1 := by omega
            cases hy
            exact HP.out⟩
        case measure => simp [intOf]
    · cases hp : ([59] : List UInt8).isPrefixOf s.data.toList with
      | true =>
        have HP := Lib.hid hp
        have HR := Lib.hid (show nextP s.data.toList = (⟨2, [59], 0⟩, 0) by rw [HN.out, signP_hit (k := 2) (x := [59]) rfl HIN.out hp])
        clear hp
        go_wp2_with (go_at_call 33; refine (hasPre s [59] true HP.out _).mono ?_; rintro e w' ⟨rfl, rfl⟩)
        refine bodyPost_ret (v := .tuple #[.agg #[.int .i64 2, .string ⟨#[59]⟩, .int .i64 0, .int .i64 0], .int .i64 0]) (by simp [results, go_sem]) rfl ⟨by rw [HR.out]; rfl, (by repeat (first | exact Exts.refl _ | apply Exts.andR | apply Exts.alloc | apply Exts.wext | apply Exts.drew | apply Exts.drewN))⟩
      | false =>
        have HP := Lib.hid hp
        clear hp
        go_wp2_with (go_at_call 33; refine (hasPre s [59] false HP.out _).mono ?_; rintro e w' ⟨rfl, rfl⟩)
        go_round
        case rel => exact ⟨3, by omega, rfl, fun j y hj hy => by
          by_cases hjk : j < 2
          · exact HIN.out j y hjk hy
          · obtain rfl : j = 2 := by omega
            cases hy
            exact HP.out⟩
        case measure => simp [intOf]
    · cases hp : ([44] : List UInt8).isPrefixOf s.data.toList with
      | true =>
        have HP := Lib.hid hp
        have HR := Lib.hid (show nextP s.data.toList = (⟨2, [44], 0⟩, 0) by rw [HN.out, signP_hit (k := 3) (x := [44]) rfl HIN.out hp])
        clear hp
        go_wp2_with (go_at_call 33; refine (hasPre s [44] true HP.out _).mono ?_; rintro e w' ⟨rfl, rfl⟩)
        refine bodyPost_ret (v := .tuple #[.agg #[.int .i64 2, .string ⟨#[44]⟩, .int .i64 0, .int .i64 0], .int .i64 0]) (by simp [results, go_sem]) rfl ⟨by rw [HR.out]; rfl, (by repeat (first | exact Exts.refl _ | apply Exts.andR | apply Exts.alloc | apply Exts.wext | apply Exts.drew | apply Exts.drewN))⟩
      | false =>
        have HP := Lib.hid hp
        clear hp
        go_wp2_with (go_at_call 33; refine (hasPre s [44] false HP.out _).mono ?_; rintro e w' ⟨rfl, rfl⟩)
        go_round
        case rel => exact ⟨4, by omega, rfl, fun j y hj hy => by
          by_cases hjk : j < 3
          · exact HIN.out j y hjk hy
          · obtain rfl : j = 3 := by omega
            cases hy
            exact HP.out⟩
        case measure => simp [intOf]
    · cases hp : ([58] : List UInt8).isPrefixOf s.data.toList with
      | true =>
        have HP := Lib.hid hp
        have HR := Lib.hid (show nextP s.data.toList = (⟨2, [58], 0⟩, 0) by rw [HN.out, signP_hit (k := 4) (x := [58]) rfl HIN.out hp])
        clear hp
        go_wp2_with (go_at_call 33; refine (hasPre s [58] true HP.out _).mono ?_; rintro e w' ⟨rfl, rfl⟩)
        refine bodyPost_ret (v := .tuple #[.agg #[.int .i64 2, .string ⟨#[58]⟩, .int .i64 0, .int .i64 0], .int .i64 0]) (by simp [results, go_sem]) rfl ⟨by rw [HR.out]; rfl, (by repeat (first | exact Exts.refl _ | apply Exts.andR | apply Exts.alloc | apply Exts.wext | apply Exts.drew | apply Exts.drewN))⟩
      | false =>
        have HP := Lib.hid hp
        clear hp
        go_wp2_with (go_at_call 33; refine (hasPre s [58] false HP.out _).mono ?_; rintro e w' ⟨rfl, rfl⟩)
        go_round
        case rel => exact ⟨5, by omega, rfl, fun j y hj hy => by
          by_cases hjk : j < 4
          · exact HIN.out j y hjk hy
          · obtain rfl : j = 4 := by omega
            cases hy
            exact HP.out⟩
        case measure => simp [intOf]
    · cases hp : ([61] : List UInt8).isPrefixOf s.data.toList with
      | true =>
        have HP := Lib.hid hp
        have HR := Lib.hid (show nextP s.data.toList = (⟨2, [61], 0⟩, 0) by rw [HN.out, signP_hit (k := 5) (x := [61]) rfl HIN.out hp])
        clear hp
        go_wp2_with (go_at_call 33; refine (hasPre s [61] true HP.out _).mono ?_; rintro e w' ⟨rfl, rfl⟩)
        refine bodyPost_ret (v := .tuple #[.agg #[.int .i64 2, .string ⟨#[61]⟩, .int .i64 0, .int .i64 0], .int .i64 0]) (by simp [results, go_sem]) rfl ⟨by rw [HR.out]; rfl, (by repeat (first | exact Exts.refl _ | apply Exts.andR | apply Exts.alloc | apply Exts.wext | apply Exts.drew | apply Exts.drewN))⟩
      | false =>
        have HP := Lib.hid hp
        clear hp
        go_wp2_with (go_at_call 33; refine (hasPre s [61] false HP.out _).mono ?_; rintro e w' ⟨rfl, rfl⟩)
        go_round
        case rel => exact ⟨6, by omega, rfl, fun j y hj hy => by
          by_cases hjk : j < 5
          · exact HIN.out j y hjk hy
          · obtain rfl : j = 5 := by omega
            cases hy
            exact HP.out⟩
        case measure => simp [intOf]
    · cases hp : ([60] : List UInt8).isPrefixOf s.data.toList with
      | true =>
        have HP := Lib.hid hp
        have HR := Lib.hid (show nextP s.data.toList = (⟨2, [60], 0⟩, 0) by rw [HN.out, signP_hit (k := 6) (x := [60]) rfl HIN.out hp])
        clear hp
        go_wp2_with (go_at_call 33; refine (hasPre s [60] true HP.out _).mono ?_; rintro e w' ⟨rfl, rfl⟩)
        refine bodyPost_ret (v := .tuple #[.agg #[.int .i64 2, .string ⟨#[60]⟩, .int .i64 0, .int .i64 0], .int .i64 0]) (by simp [results, go_sem]) rfl ⟨by rw [HR.out]; rfl, (by repeat (first | exact Exts.refl _ | apply Exts.andR | apply Exts.alloc | apply Exts.wext | apply Exts.drew | apply Exts.drewN))⟩
      | false =>
        have HP := Lib.hid hp
        clear hp
        go_wp2_with (go_at_call 33; refine (hasPre s [60] false HP.out _).mono ?_; rintro e w' ⟨rfl, rfl⟩)
        go_round
        case rel => exact ⟨7, by omega, rfl, fun j y hj hy => by
          by_cases hjk : j < 6
          · exact HIN.out j y hjk hy
          · obtain rfl : j = 6 := by omega
            cases hy
            exact HP.out⟩
        case measure => simp [intOf]
    · cases hp : ([43] : List UInt8).isPrefixOf s.data.toList with
      | true =>
        have HP := Lib.hid hp
        have HR := Lib.hid (show nextP s.data.toList = (⟨2, [43], 0⟩, 0) by rw [HN.out, signP_hit (k := 7) (x := [43]) rfl HIN.out hp])
        clear hp
        go_wp2_with (go_at_call 33; refine (hasPre s [43] true HP.out _).mono ?_; rintro e w' ⟨rfl, rfl⟩)
        refine bodyPost_ret (v := .tuple #[.agg #[.int .i64 2, .string ⟨#[43]⟩, .int .i64 0, .int .i64 0], .int .i64 0]) (by simp [results, go_sem]) rfl ⟨by rw [HR.out]; rfl, (by repeat (first | exact Exts.refl _ | apply Exts.andR | apply Exts.alloc | apply Exts.wext | apply Exts.drew | apply Exts.drewN))⟩
      | false =>
        have HP := Lib.hid hp
        clear hp
        go_wp2_with (go_at_call 33; refine (hasPre s [43] false HP.out _).mono ?_; rintro e w' ⟨rfl, rfl⟩)
        go_round
        case rel => exact ⟨8, by omega, rfl, fun j y hj hy => by
          by_cases hjk : j < 7
          · exact HIN.out j y hjk hy
          · obtain rfl : j = 7 := by omega
            cases hy
            exact HP.out⟩
        case measure => simp [intOf]
    · cases hp : ([45] : List UInt8).isPrefixOf s.data.toList with
      | true =>
        have HP := Lib.hid hp
        have HR := Lib.hid (show nextP s.data.toList = (⟨2, [45], 0⟩, 0) by rw [HN.out, signP_hit (k := 8) (x := [45]) rfl HIN.out hp])
        clear hp
        go_wp2_with (go_at_call 33; refine (hasPre s [45] true HP.out _).mono ?_; rintro e w' ⟨rfl, rfl⟩)
        refine bodyPost_ret (v := .tuple #[.agg #[.int .i64 2, .string ⟨#[45]⟩, .int .i64 0, .int .i64 0], .int .i64 0]) (by simp [results, go_sem]) rfl ⟨by rw [HR.out]; rfl, (by repeat (first | exact Exts.refl _ | apply Exts.andR | apply Exts.alloc | apply Exts.wext | apply Exts.drew | apply Exts.drewN))⟩
      | false =>
        have HP := Lib.hid hp
        clear hp
        go_wp2_with (go_at_call 33; refine (hasPre s [45] false HP.out _).mono ?_; rintro e w' ⟨rfl, rfl⟩)
        go_round
        case rel => exact ⟨9, by omega, rfl, fun j y hj hy => by
          by_cases hjk : j < 8
          · exact HIN.out j y hjk hy
          · obtain rfl : j = 8 := by omega
            cases hy
            exact HP.out⟩
        case measure => simp [intOf]
    · cases hp : ([42] : List UInt8).isPrefixOf s.data.toList with
      | true =>
        have HP := Lib.hid hp
        have HR := Lib.hid (show nextP s.data.toList = (⟨2, [42], 0⟩, 0) by rw [HN.out, signP_hit (k := 9) (x := [42]) rfl HIN.out hp])
        clear hp
        go_wp2_with (go_at_call 33; refine (hasPre s [42] true HP.out _).mono ?_; rintro e w' ⟨rfl, rfl⟩)
        refine bodyPost_ret (v := .tuple #[.agg #[.int .i64 2, .string ⟨#[42]⟩, .int .i64 0, .int .i64 0], .int .i64 0]) (by simp [results, go_sem]) rfl ⟨by rw [HR.out]; rfl, (by repeat (first | exact Exts.refl _ | apply Exts.andR | apply Exts.alloc | apply Exts.wext | apply Exts.drew | apply Exts.drewN))⟩
      | false =>
        have HP := Lib.hid hp
        clear hp
        go_wp2_with (go_at_call 33; refine (hasPre s [42] false HP.out _).mono ?_; rintro e w' ⟨rfl, rfl⟩)
        go_round
        case rel => exact ⟨10, by omega, rfl, fun j y hj hy => by
          by_cases hjk : j < 9
          · exact HIN.out j y hjk hy
          · obtain rfl : j = 9 := by omega
            cases hy
            exact HP.out⟩
        case measure => simp [intOf]
    · cases hp : ([47] : List UInt8).isPrefixOf s.data.toList with
      | true =>
        have HP := Lib.hid hp
        have HR := Lib.hid (show nextP s.data.toList = (⟨2, [47], 0⟩, 0) by rw [HN.out, signP_hit (k := 10) (x := [47]) rfl HIN.out hp])
        clear hp
        go_wp2_with (go_at_call 33; refine (hasPre s [47] true HP.out _).mono ?_; rintro e w' ⟨rfl, rfl⟩)
        refine bodyPost_ret (v := .tuple #[.agg #[.int .i64 2, .string ⟨#[47]⟩, .int .i64 0, .int .i64 0], .int .i64 0]) (by simp [results, go_sem]) rfl ⟨by rw [HR.out]; rfl, (by repeat (first | exact Exts.refl _ | apply Exts.andR | apply Exts.alloc | apply Exts.wext | apply Exts.drew | apply Exts.drewN))⟩
      | false =>
        have HP := Lib.hid hp
        clear hp
        go_wp2_with (go_at_call 33; refine (hasPre s [47] false HP.out _).mono ?_; rintro e w' ⟨rfl, rfl⟩)
        go_round
        case rel => exact ⟨11, by omega, rfl, fun j y hj hy => by
          by_cases hjk : j < 10
          · exact HIN.out j y hjk hy
          · obtain rfl : j = 10 := by omega
            cases hy
            exact HP.out⟩
        case measure => simp [intOf]
    · cases hp : ([37] : List UInt8).isPrefixOf s.data.toList with
      | true =>
        have HP := Lib.hid hp
        have HR := Lib.hid (show nextP s.data.toList = (⟨2, [37], 0⟩, 0) by rw [HN.out, signP_hit (k := 11) (x := [37]) rfl HIN.out hp])
        clear hp
        go_wp2_with (go_at_call 33; refine (hasPre s [37] true HP.out _).mono ?_; rintro e w' ⟨rfl, rfl⟩)
        refine bodyPost_ret (v := .tuple #[.agg #[.int .i64 2, .string ⟨#[37]⟩, .int .i64 0, .int .i64 0], .int .i64 0]) (by simp [results, go_sem]) rfl ⟨by rw [HR.out]; rfl, (by repeat (first | exact Exts.refl _ | apply Exts.andR | apply Exts.alloc | apply Exts.wext | apply Exts.drew | apply Exts.drewN))⟩
      | false =>
        have HP := Lib.hid hp
        clear hp
        go_wp2_with (go_at_call 33; refine (hasPre s [37] false HP.out _).mono ?_; rintro e w' ⟨rfl, rfl⟩)
        go_round
        case rel => exact ⟨12, by omega, rfl, fun j y hj hy => by
          by_cases hjk : j < 11
          · exact HIN.out j y hjk hy
          · obtain rfl : j = 11 := by omega
            cases hy
            exact HP.out⟩
        case measure => simp [intOf]
    · cases hp : ([40] : List UInt8).isPrefixOf s.data.toList with
      | true =>
        have HP := Lib.hid hp
        have HR := Lib.hid (show nextP s.data.toList = (⟨2, [40], 0⟩, 0) by rw [HN.out, signP_hit (k := 12) (x := [40]) rfl HIN.out hp])
        clear hp
        go_wp2_with (go_at_call 33; refine (hasPre s [40] true HP.out _).mono ?_; rintro e w' ⟨rfl, rfl⟩)
        refine bodyPost_ret (v := .tuple #[.agg #[.int .i64 2, .string ⟨#[40]⟩, .int .i64 0, .int .i64 0], .int .i64 0]) (by simp [results, go_sem]) rfl ⟨by rw [HR.out]; rfl, (by repeat (first | exact Exts.refl _ | apply Exts.andR | apply Exts.alloc | apply Exts.wext | apply Exts.drew | apply Exts.drewN))⟩
      | false =>
        have HP := Lib.hid hp
        clear hp
        go_wp2_with (go_at_call 33; refine (hasPre s [40] false HP.out _).mono ?_; rintro e w' ⟨rfl, rfl⟩)
        go_round
        case rel => exact ⟨13, by omega, rfl, fun j y hj hy => by
          by_cases hjk : j < 12
          · exact HIN.out j y hjk hy
          · obtain rfl : j = 12 := by omega
            cases hy
            exact HP.out⟩
        case measure => simp [intOf]
    · cases hp : ([41] : List UInt8).isPrefixOf s.data.toList with
      | true =>
        have HP := Lib.hid hp
        have HR := Lib.hid (show nextP s.data.toList = (⟨2, [41], 0⟩, 0) by rw [HN.out, signP_hit (k := 13) (x := [41]) rfl HIN.out hp])
        clear hp
        go_wp2_with (go_at_call 33; refine (hasPre s [41] true HP.out _).mono ?_; rintro e w' ⟨rfl, rfl⟩)
        refine bodyPost_ret (v := .tuple #[.agg #[.int .i64 2, .string ⟨#[41]⟩, .int .i64 0, .int .i64 0], .int .i64 0]) (by simp [results, go_sem]) rfl ⟨by rw [HR.out]; rfl, (by repeat (first | exact Exts.refl _ | apply Exts.andR | apply Exts.alloc | apply Exts.wext | apply Exts.drew | apply Exts.drewN))⟩
      | false =>
        have HP := Lib.hid hp
        clear hp
        go_wp2_with (go_at_call 33; refine (hasPre s [41] false HP.out _).mono ?_; rintro e w' ⟨rfl, rfl⟩)
        go_round
        case rel => exact ⟨14, by omega, rfl, fun j y hj hy => by
          by_cases hjk : j < 13
          · exact HIN.out j y hjk hy
          · obtain rfl : j = 13 := by omega
            cases hy
            exact HP.out⟩
        case measure => simp [intOf]
    · have HR := Lib.hid (show nextP s.data.toList = (.zero, 13) by rw [HN.out, signP_miss HIN.out])
      go_wp2
      refine bodyPost_ret (v := .tuple #[.agg #[.int .i64 0, .string ⟨#[]⟩, .int .i64 0, .int .i64 0], .int .i64 13]) (by simp [results, go_sem]) rfl ⟨by rw [HR.out]; rfl, (by repeat (first | exact Exts.refl _ | apply Exts.andR | apply Exts.alloc | apply Exts.wext | apply Exts.drew | apply Exts.drewN))⟩
theorem next24 (s : ByteArray) (w : World) (hs : s.size ≤ 9223372036854775807) (h0 : 0 < s.size) (hsg : Signs w) :
    Calls Tryd.prog 24 #[.string s] w fun e w' => e = .returned (.tuple #[tokV (nextP s.data.toList).1, .int .i64 (nextP s.data.toList).2]) ∧ Exts w w' := by
  cases hl : letterI (headI s.data.toList) with
  | true => exact next24_word s w hs h0 hl
  | false =>
    cases hd : digitI (headI s.data.toList) with
    | true => exact next24_num s w hs h0 hl hd
    | false => exact next24_sign s w hs h0 hsg hl hd
end Go.Proofs.YtjenpmeknlgadaaDoor
