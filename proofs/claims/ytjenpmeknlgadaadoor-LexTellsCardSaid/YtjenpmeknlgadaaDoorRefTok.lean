/- Signs and tokens of the reference. Conditions: the length fits, the offset is within. -/
import Derived.Test.YtjenpmeknlgadaaDoorRefNum
import Derived.Test.YtjenpmeknlgadaaDoorPlacesPlain
namespace Go.Proofs.YtjenpmeknlgadaaDoor
open Go.RowKit
set_option linter.unusedSimpArgs false
set_option linter.unusedVariables false

def oneB : ByteArray := ⟨#[59, 44, 58, 61, 60, 43, 45, 42, 47, 37, 40, 41]⟩
def oneL : List UInt8 := [59, 44, 58, 61, 60, 43, 45, 42, 47, 37, 40, 41]
def signN (l : List UInt8) : Nat := match signP l with | some x => x.length | none => 0
theorem sign2 {a : UInt8} {r : List UInt8} (h : a = 60 ∨ a = 61) : signN (a :: 61 :: r) = 2 := by
  rcases h with rfl | rfl <;> rfl
theorem sign1 {a : UInt8} {r : List UInt8} (h : a ∈ oneL) (h2 : (a = 60 ∨ a = 61) → headI r ≠ 61) : signN (a :: r) = 1 := by
  simp only [oneL, List.mem_cons, List.not_mem_nil, or_false] at h
  rcases h with rfl | rfl | rfl | rfl | rfl | rfl | rfl | rfl | rfl | rfl | rfl | rfl
  case inr.inr.inr.inl =>
    have := h2 (.inr rfl)
    cases r with
    | nil => rfl
    | cons d r =>
      have hd := toNat_ne (c := d) (n := 61) (m := 61) this rfl
      simp [signN, signP, signsL, List.find?, List.isPrefixOf, hd]
  case inr.inr.inr.inr.inl =>
    have := h2 (.inl rfl)
    cases r with
    | nil => rfl
    | cons d r =>
      have hd := toNat_ne (c := d) (n := 61) (m := 61) this rfl
      simp [signN, signP, signsL, List.find?, List.isPrefixOf, hd]
  all_goals rfl
theorem sign0 {a : UInt8} {r : List UInt8} (h : a ∉ oneL) : signN (a :: r) = 0 := by
  simp only [oneL, List.mem_cons, List.not_mem_nil, or_false, not_or] at h
  obtain ⟨h1, h2, h3, h4, h5, h6, h7, h8, h9, h10, h11, h12⟩ := h
  have n : ∀ b : UInt8, a ≠ b → (b == a) = false := fun b hb => by simpa using fun hc => hb hc.symm
  simp [signN, signP, signsL, List.find?, List.isPrefixOf, n _ h1, n _ h2, n _ h3, n _ h4, n _ h5, n _ h6, n _ h7, n _ h8, n _ h9, n _ h10, n _ h11, n _ h12]
theorem sign_len {l x : List UInt8} (h : signP l = some x) : signN l = x.length ∧ 0 < x.length := by
  unfold signN
  rw [h]
  exact ⟨rfl, signs_ne (List.mem_of_find?_eq_some h)⟩
theorem sign_none {l : List UInt8} (h : signN l = 0) : signP l = none := by
  cases hs : signP l with
  | none => rfl
  | some x => have := sign_len hs; omega
theorem drop_at {s : ByteArray} {k : Nat} (h : k < s.size) : s.data.toList.drop k = s[k] :: s.data.toList.drop (k + 1) := by
  rw [List.drop_eq_getElem_cons (by simpa using h)]
  rfl
theorem head_at {s : ByteArray} {k : Nat} (h : k < s.size) : headI (s.data.toList.drop k) = (s[k].toNat : Int) := by rw [drop_at h]; rfl
theorem u8_eq {a b : UInt8} (h : (a.toNat : Int) = (b.toNat : Int)) : a = b := UInt8.toNat_inj.1 (by omega)
theorem oneB_at {j : Nat} (h : j < (⟨#[59, 44, 58, 61, 60, 43, 45, 42, 47, 37, 40, 41]⟩ : ByteArray).size) : oneL[j]? = some ((⟨#[59, 44, 58, 61, 60, 43, 45, 42, 47, 37, 40, 41]⟩ : ByteArray)[j]) := ba_get (s := ⟨#[59, 44, 58, 61, 60, 43, 45, 42, 47, 37, 40, 41]⟩) h
set_option maxRecDepth 100000
set_option maxHeartbeats 2000000
theorem sign34 (s : ByteArray) (k : Nat) (w : World) (hs : s.size ≤ 9223372036854775806) (hk : k < s.size) : Calls Tryd.prog 34 #[.string s, .int .i64 k] w fun e w' => e = .returned (.int .i64 (signN (s.data.toList.drop k))) ∧ Exts w w' := by
  have HDR := Lib.hid (drop_at hk)
  by_cases h2 : k + 1 < s.size
  · have b1 : decide ((k : Int) + 1 < (s.size : Int)) = true := by simp; omega
    have hh := head_at h2
    by_cases h3 : (s[k + 1].toNat : Int) = 61
    · have b2 : ((s[k + 1].toNat : Int) == 61) = true := by simpa using h3
      by_cases h4 : (s[k].toNat : Int) = 60
      · have b3 : ((s[k].toNat : Int) == 60) = true := by simpa using h4
        have HR := Lib.hid (show signN (s.data.toList.drop k) = 2 by
          rw [HDR.out, drop_at h2, u8_eq (b := 61) (a := s[k + 1]) h3]
          exact sign2 (.inl (u8_eq h4)))
        clear h3 h4 hh
        go_enter Tryd.func34, Tryd.ntmps34
        go_wp2
        go_ret
        exact ⟨by rw [HR.out]; rfl, (by repeat (first | exact Exts.refl _ | apply Exts.andR | apply Exts.alloc | apply Exts.wext | apply Exts.drew | apply Exts.drewN))⟩
      · by_cases h5 : (s[k].toNat : Int) = 61
        · have b3 : ((s[k].toNat : Int) == 60) = false := by simpa using h4
          have b4 : ((s[k].toNat : Int) == 61) = true := by simpa using h5
          have HR := Lib.hid (show signN (s.data.toList.drop k) = 2 by
            rw [HDR.out, drop_at h2, u8_eq (b := 61) (a := s[k + 1]) h3]
            exact sign2 (.inr (u8_eq h5)))
          clear h3 h4 h5 hh
          go_enter Tryd.func34, Tryd.ntmps34
          go_wp2
          go_ret
          exact ⟨by rw [HR.out]; rfl, (by repeat (first | exact Exts.refl _ | apply Exts.andR | apply Exts.alloc | apply Exts.wext | apply Exts.drew | apply Exts.drewN))⟩
        · have b3 : ((s[k].toNat : Int) == 60) = false := by simpa using h4
          have b4 : ((s[k].toNat : Int) == 61) = false := by simpa using h5
          have HN := Lib.hid (show (s[k] = 60 ∨ s[k] = 61) → headI (s.data.toList.drop (k + 1)) ≠ 61 from fun h => by
            rcases h with h | h
            · exact absurd (by rw [h]; rfl) h4
            · exact absurd (by rw [h]; rfl) h5)
          clear h3 h4 h5 hh
          go_enter Tryd.func34, Tryd.ntmps34
          go_wp2
          go_loopw [6] (fun i wr => ∃ j : Nat, j ≤ 12 ∧ i = .int .i64 j ∧ Exts w wr ∧ ∀ i, i < j → oneL[i]? ≠ some s[k]) (fun i _ => 12 - (intOf i).toNat)
          case atStart => exact ⟨0, by omega, rfl, Exts.refl _, fun i hi => by omega⟩
          case round =>
            obtain ⟨j, hj, rfl, ⟨x, rfl⟩, hin⟩ := hrel
            have HI := Lib.hid hin
            clear hin
            by_cases hlt : j < 12
            · have hlt' : j < (⟨#[59, 44, 58, 61, 60, 43, 45, 42, 47, 37, 40, 41]⟩ : ByteArray).size := hlt
              have hd := oneB_at hlt'
              by_cases hq : (s[k].toNat : Int) = ((⟨#[59, 44, 58, 61, 60, 43, 45, 42, 47, 37, 40, 41]⟩ : ByteArray)[j].toNat : Int)
              · have HR := Lib.hid (show signN (s.data.toList.drop k) = 1 by rw [HDR.out]; exact sign1 (by rw [u8_eq hq]; exact List.mem_of_getElem? hd) HN.out)
                have hq' : ((s[k].toNat : Int) == ((⟨#[59, 44, 58, 61, 60, 43, 45, 42, 47, 37, 40, 41]⟩ : ByteArray)[j].toNat : Int)) = true := by simpa using hq
                clear hd hq
                go_wp2
                first | refine wp_region_ext_lit2 (by kernel_rfl) (by kernel_rfl) ?_ | refine wp_region_ext_lit (by kernel_rfl) (by kernel_rfl) ?_
                repeat (go_big_quiet_step (fail))
                refine wpQuiet_nil ?_
                intro _ hwq'
                obtain ⟨xq, hwq''⟩ := hwq'
                subst hwq''
                go_wp2
                go_ret
                exact ⟨by rw [HR.out]; rfl, (by repeat (first | exact Exts.refl _ | apply Exts.andR | apply Exts.alloc | apply Exts.wext | apply Exts.drew | apply Exts.drewN))⟩
              · have HD := Lib.hid hd
                have HQ := Lib.hid hq
                have hq' : ((s[k].toNat : Int) == ((⟨#[59, 44, 58, 61, 60, 43, 45, 42, 47, 37, 40, 41]⟩ : ByteArray)[j].toNat : Int)) = false := by simpa using hq
                clear hd hq
                go_wp2
                first | refine wp_region_ext_lit2 (by kernel_rfl) (by kernel_rfl) ?_ | refine wp_region_ext_lit (by kernel_rfl) (by kernel_rfl) ?_
                repeat (go_big_quiet_step (fail))
                refine wpQuiet_nil ?_
                intro _ hwq'
                obtain ⟨xq, hwq''⟩ := hwq'
                subst hwq''
                go_wp2
                refine ⟨⟨j + 1, by omega, by go_num, (by repeat (first | exact Exts.refl _ | apply Exts.andR | apply Exts.alloc | apply Exts.wext | apply Exts.drew | apply Exts.drewN)), fun i hi => ?_⟩, ?_⟩
                · by_cases hij : i = j
                  · subst hij
                    rw [HD.out]
                    intro hc
                    exact HQ.out (by rw [Option.some.inj hc])
                  · exact HI.out i (by omega)
                · simp [intOf]; omega
            · obtain rfl : j = 12 := by omega
              have HR := Lib.hid (show signN (s.data.toList.drop k) = 0 by
                rw [HDR.out]
                refine sign0 fun hm => ?_
                obtain ⟨i, hi⟩ := List.getElem?_of_mem hm
                exact HI.out i (List.getElem?_eq_some_iff.1 hi).1 hi)
              go_wp2
              go_ret
              exact ⟨by rw [HR.out]; rfl, (by repeat (first | exact Exts.refl _ | apply Exts.andR | apply Exts.alloc | apply Exts.wext | apply Exts.drew | apply Exts.drewN))⟩
    · have b2 : ((s[k + 1].toNat : Int) == 61) = false := by simpa using h3
      have HN := Lib.hid (show (s[k] = 60 ∨ s[k] = 61) → headI (s.data.toList.drop (k + 1)) ≠ 61 from fun _ => by rw [hh]; exact h3)
      clear h3 hh
      go_enter Tryd.func34, Tryd.ntmps34
      go_wp2
      go_loopw [6] (fun i wr => ∃ j : Nat, j ≤ 12 ∧ i = .int .i64 j ∧ Exts w wr ∧ ∀ i, i < j → oneL[i]? ≠ some s[k]) (fun i _ => 12 - (intOf i).toNat)
      case atStart => exact ⟨0, by omega, rfl, Exts.refl _, fun i hi => by omega⟩
      case round =>
        obtain ⟨j, hj, rfl, ⟨x, rfl⟩, hin⟩ := hrel
        have HI := Lib.hid hin
        clear hin
        by_cases hlt : j < 12
        · have hlt' : j < (⟨#[59, 44, 58, 61, 60, 43, 45, 42, 47, 37, 40, 41]⟩ : ByteArray).size := hlt
          have hd := oneB_at hlt'
          by_cases hq : (s[k].toNat : Int) = ((⟨#[59, 44, 58, 61, 60, 43, 45, 42, 47, 37, 40, 41]⟩ : ByteArray)[j].toNat : Int)
          · have HR := Lib.hid (show signN (s.data.toList.drop k) = 1 by rw [HDR.out]; exact sign1 (by rw [u8_eq hq]; exact List.mem_of_getElem? hd) HN.out)
            have hq' : ((s[k].toNat : Int) == ((⟨#[59, 44, 58, 61, 60, 43, 45, 42, 47, 37, 40, 41]⟩ : ByteArray)[j].toNat : Int)) = true := by simpa using hq
            clear hd hq
            go_wp2
            first | refine wp_region_ext_lit2 (by kernel_rfl) (by kernel_rfl) ?_ | refine wp_region_ext_lit (by kernel_rfl) (by kernel_rfl) ?_
            repeat (go_big_quiet_step (fail))
            refine wpQuiet_nil ?_
            intro _ hwq'
            obtain ⟨xq, hwq''⟩ := hwq'
            subst hwq''
            go_wp2
            go_ret
            exact ⟨by rw [HR.out]; rfl, (by repeat (first | exact Exts.refl _ | apply Exts.andR | apply Exts.alloc | apply Exts.wext | apply Exts.drew | apply Exts.drewN))⟩
          · have HD := Lib.hid hd
            have HQ := Lib.hid hq
            have hq' : ((s[k].toNat : Int) == ((⟨#[59, 44, 58, 61, 60, 43, 45, 42, 47, 37, 40, 41]⟩ : ByteArray)[j].toNat : Int)) = false := by simpa using hq
            clear hd hq
            go_wp2
            first | refine wp_region_ext_lit2 (by kernel_rfl) (by kernel_rfl) ?_ | refine wp_region_ext_lit (by kernel_rfl) (by kernel_rfl) ?_
            repeat (go_big_quiet_step (fail))
            refine wpQuiet_nil ?_
            intro _ hwq'
            obtain ⟨xq, hwq''⟩ := hwq'
            subst hwq''
            go_wp2
            refine ⟨⟨j + 1, by omega, by go_num, (by repeat (first | exact Exts.refl _ | apply Exts.andR | apply Exts.alloc | apply Exts.wext | apply Exts.drew | apply Exts.drewN)), fun i hi => ?_⟩, ?_⟩
            · by_cases hij : i = j
              · subst hij
                rw [HD.out]
                intro hc
                exact HQ.out (by rw [Option.some.inj hc])
              · exact HI.out i (by omega)
            · simp [intOf]; omega
        · obtain rfl : j = 12 := by omega
          have HR := Lib.hid (show signN (s.data.toList.drop k) = 0 by
            rw [HDR.out]
            refine sign0 fun hm => ?_
            obtain ⟨i, hi⟩ := List.getElem?_of_mem hm
            exact HI.out i (List.getElem?_eq_some_iff.1 hi).1 hi)
          go_wp2
          go_ret
          exact ⟨by rw [HR.out]; rfl, (by repeat (first | exact Exts.refl _ | apply Exts.andR | apply Exts.alloc | apply Exts.wext | apply Exts.drew | apply Exts.drewN))⟩
  · have b1 : decide ((k : Int) + 1 < (s.size : Int)) = false := by simp; omega
    have HN := Lib.hid (show (s[k] = 60 ∨ s[k] = 61) → headI (s.data.toList.drop (k + 1)) ≠ 61 from fun _ => by
      rw [List.drop_eq_nil_of_le (by rw [data_len]; omega)]
      decide)
    go_enter Tryd.func34, Tryd.ntmps34
    go_wp2
    go_loopw [6] (fun i wr => ∃ j : Nat, j ≤ 12 ∧ i = .int .i64 j ∧ Exts w wr ∧ ∀ i, i < j → oneL[i]? ≠ some s[k]) (fun i _ => 12 - (intOf i).toNat)
    case atStart => exact ⟨0, by omega, rfl, Exts.refl _, fun i hi => by omega⟩
    case round =>
      obtain ⟨j, hj, rfl, ⟨x, rfl⟩, hin⟩ := hrel
      have HI := Lib.hid hin
      clear hin
      by_cases hlt : j < 12
      · have hlt' : j < (⟨#[59, 44, 58, 61, 60, 43, 45, 42, 47, 37, 40, 41]⟩ : ByteArray).size := hlt
        have hd := oneB_at hlt'
        by_cases hq : (s[k].toNat : Int) = ((⟨#[59, 44, 58, 61, 60, 43, 45, 42, 47, 37, 40, 41]⟩ : ByteArray)[j].toNat : Int)
        · have HR := Lib.hid (show signN (s.data.toList.drop k) = 1 by rw [HDR.out]; exact sign1 (by rw [u8_eq hq]; exact List.mem_of_getElem? hd) HN.out)
          have hq' : ((s[k].toNat : Int) == ((⟨#[59, 44, 58, 61, 60, 43, 45, 42, 47, 37, 40, 41]⟩ : ByteArray)[j].toNat : Int)) = true := by simpa using hq
          clear hd hq
          go_wp2
          first | refine wp_region_ext_lit2 (by kernel_rfl) (by kernel_rfl) ?_ | refine wp_region_ext_lit (by kernel_rfl) (by kernel_rfl) ?_
          repeat (go_big_quiet_step (fail))
          refine wpQuiet_nil ?_
          intro _ hwq'
          obtain ⟨xq, hwq''⟩ := hwq'
          subst hwq''
          go_wp2
          go_ret
          exact ⟨by rw [HR.out]; rfl, (by repeat (first | exact Exts.refl _ | apply Exts.andR | apply Exts.alloc | apply Exts.wext | apply Exts.drew | apply Exts.drewN))⟩
        · have HD := Lib.hid hd
          have HQ := Lib.hid hq
          have hq' : ((s[k].toNat : Int) == ((⟨#[59, 44, 58, 61, 60, 43, 45, 42, 47, 37, 40, 41]⟩ : ByteArray)[j].toNat : Int)) = false := by simpa using hq
          clear hd hq
          go_wp2
          first | refine wp_region_ext_lit2 (by kernel_rfl) (by kernel_rfl) ?_ | refine wp_region_ext_lit (by kernel_rfl) (by kernel_rfl) ?_
          repeat (go_big_quiet_step (fail))
          refine wpQuiet_nil ?_
          intro _ hwq'
          obtain ⟨xq, hwq''⟩ := hwq'
          subst hwq''
          go_wp2
          refine ⟨⟨j + 1, by omega, by go_num, (by repeat (first | exact Exts.refl _ | apply Exts.andR | apply Exts.alloc | apply Exts.wext | apply Exts.drew | apply Exts.drewN)), fun i hi => ?_⟩, ?_⟩
          · by_cases hij : i = j
            · subst hij
              rw [HD.out]
              intro hc
              exact HQ.out (by rw [Option.some.inj hc])
            · exact HI.out i (by omega)
          · simp [intOf]; omega
      · obtain rfl : j = 12 := by omega
        have HR := Lib.hid (show signN (s.data.toList.drop k) = 0 by
          rw [HDR.out]
          refine sign0 fun hm => ?_
          obtain ⟨i, hi⟩ := List.getElem?_of_mem hm
          exact HI.out i (List.getElem?_eq_some_iff.1 hi).1 hi)
        go_wp2
        go_ret
        exact ⟨by rw [HR.out]; rfl, (by repeat (first | exact Exts.refl _ | apply Exts.andR | apply Exts.alloc | apply Exts.wext | apply Exts.drew | apply Exts.drewN))⟩
theorem ext_list (s : ByteArray) (k b : Nat) : s.extract k (k + b) = ⟨((s.data.toList.drop k).take b).toArray⟩ := by
  have := Lib.extract_data s k (k + b)
  rw [show k + b - k = b by omega] at this
  have h2 : (s.extract k (k + b)).data = ((s.data.toList.drop k).take b).toArray := by rw [← this]
  rw [← h2]
theorem span_bd (p : Int → Bool) (s : ByteArray) (k : Nat) (h : k ≤ s.size) : k + spanN p (s.data.toList.drop k) ≤ s.size := by
  have := spanN_le p (s.data.toList.drop k)
  rw [List.length_drop, data_len] at this
  omega
theorem span_in (p : Int → Bool) (s : ByteArray) (k b m : Nat) (hb : spanN p (s.data.toList.drop k) = b) (h1 : k ≤ m) (h2 : m < k + b) (h3 : m < s.size) : p (s[m].toNat : Int) = true := by
  obtain ⟨c, hc, hp⟩ := span_get (p := p) (s.data.toList.drop k) (m - k) (by omega)
  rw [List.getElem?_drop, show k + (m - k) = m by omega, ba_get h3] at hc
  cases hc
  exact hp
theorem span_out (p : Int → Bool) (s : ByteArray) (k b : Nat) (hb : spanN p (s.data.toList.drop k) = b) (h3 : k + b < s.size) : p (s[k + b].toNat : Int) = false := by
  have : (s.data.toList.drop k).drop (spanN p (s.data.toList.drop k)) = s[k + b] :: s.data.toList.drop (k + b + 1) := by rw [hb, List.drop_drop, drop_at h3]
  exact takeWhile_drop_head (p := fun c => p c.toNat) _ _ _ this
theorem span_pos {p : Int → Bool} {l : List UInt8} (h : l ≠ []) (hp : p (headI l) = true) : 0 < spanN p l := by
  cases l with
  | nil => exact absurd rfl h
  | cons c r =>
    unfold spanN
    rw [List.takeWhile_cons, if_pos (by simpa [headI] using hp)]
    simp
theorem span_take (p : Int → Bool) (l : List UInt8) : spanN p (l.take (spanN p l)) = (l.take (spanN p l)).length := span_all.2 fun c hc => by
  obtain ⟨i, hi⟩ := List.getElem?_of_mem hc
  have hlt := (List.getElem?_eq_some_iff.1 hi).1
  rw [List.length_take] at hlt
  rw [List.getElem?_take_of_lt (by omega)] at hi
  obtain ⟨d, hd, hp⟩ := span_get (p := p) l i (by omega)
  rw [hi] at hd
  cases hd
  exact hp
theorem word_cut {l : List UInt8} (h : l ≠ []) (hl : letterI (headI l) = true) : wordB (l.take (spanN wordI l)) = decide (spanN wordI l ≤ 20) := by
  have hp := span_pos (p := wordI) h (by simp [wordI, hl])
  have h1 := span_take wordI l
  have h2 : (l.take (spanN wordI l)).length = spanN wordI l := by rw [List.length_take, Nat.min_eq_left (spanN_le _ _)]
  have h3 : headI (l.take (spanN wordI l)) = headI l := by
    cases l with
    | nil => rfl
    | cons c r =>
      obtain ⟨q, hq⟩ : ∃ q, spanN wordI (c :: r) = q + 1 := ⟨_, (Nat.succ_pred (by omega)).symm⟩
      rw [hq, List.take_succ_cons]
      rfl
  have h4 : (l.take (spanN wordI l)).isEmpty = false := by
    cases hn : l.take (spanN wordI l) with
    | nil => rw [hn] at h2; simp at h2; omega
    | cons _ _ => rfl
  unfold wordB
  rw [h1, h3, hl, h2, h4]
  simp
def tokC (tk : TK) (code : Int) (k : Nat) : Value := .tuple #[.agg #[.int .i64 tk.kind, .string ⟨tk.text.toArray⟩, .int .i64 tk.n, .int .i64 (if code = 0 then k else 0)], .int .i64 code]
theorem next_word {l : List UInt8} (h : l ≠ []) (hl : letterI (headI l) = true) {b : Nat} (hb : spanN wordI l = b) : nextP l = if b ≤ 20 then (⟨0, l.take b, 0⟩, 0) else (.zero, 15) := by
  have := word_cut h hl
  unfold nextP
  rw [if_pos hl, this, hb]
  by_cases h2 : b ≤ 20 <;> simp [h2]
theorem next_num {l : List UInt8} (hl : letterI (headI l) = false) (hd : digitI (headI l) = true) {b : Nat} (hb : spanN digitI l = b) : nextP l = if (numD (l.take b)).2 = true then (⟨1, l.take b, (numD (l.take b)).1⟩, 0) else (.zero, 3) := by
  unfold nextP
  rw [if_neg (by rw [hl]; simp), if_pos hd, hb]
theorem next_sign {l : List UInt8} (hl : letterI (headI l) = false) (hd : digitI (headI l) = false) : nextP l = if signN l = 0 then (.zero, 13) else (⟨2, l.take (signN l), 0⟩, 0) := by
  unfold nextP
  rw [if_neg (by rw [hl]; simp), if_neg (by rw [hd]; simp)]
  cases hs : signP l with
  | none => simp [signN, hs]
  | some x =>
    obtain ⟨h1, h2⟩ := sign_len hs
    have hf := List.find?_some hs
    have hp : x = l.take x.length := List.prefix_iff_eq_take.1 (List.isPrefixOf_iff_prefix.1 hf)
    simp only [h1]
    rw [if_neg (by omega), ← hp]
end Go.Proofs.YtjenpmeknlgadaaDoor
