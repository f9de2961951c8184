/- OptionPeaks returns true. No condition. -/
import Derived.Test.YtnpjagodbnpahaaPeakPlain
import Derived.Test.YtnpjagodbnpahaaAppend
import Derived.Test.YtnpjagodbnpahaaSmall8
namespace Go.Proofs.Ytnpjagodbnpahaa
open Go.RowKit
set_option linter.unusedSimpArgs false
set_option linter.unusedVariables false

theorem ints_one (l : List Int) : ∀ u ∈ ints l, u.oneCell' = true := by
  intro u hu
  unfold ints at hu
  rw [List.mem_map] at hu
  obtain ⟨n, _, rfl⟩ := hu
  rfl
theorem Ints.exts {S : Nat → Prop} {w w' : World} {v : Value} {l : List Int} (h : Ints S w v l) (he : Exts w w') : Ints S w' v l := RowF.exts h he

theorem Ints.pre {S : Nat → Prop} {w : World} {ao : Option Addr} {c : Nat} {l : List Int} (h : Ints S w (.slice ao (l.length + 1) c) (prefs l l.length)) : Ints S w (.slice ao (prefs l l.length).length c) (prefs l l.length) := by rw [prefs_len]; exact h
theorem ownsRow_litH {e : TypeId} {base size : Nat} (w : World) (cur : Array Value) (n H : Nat) (hH : w.heap.size = H) (hb : base ≤ H) (hm : n ≤ maxLen) (hs : cur.size = n * size) :
    (w.alloc (.cells cur e)).ownsRow base e size (.slice (some ⟨H, 0, none⟩) n n) n cur.toList := by
  subst hH
  exact ownsRow_lit w cur n hb hm hs


set_option maxRecDepth 100000
set_option maxHeartbeats 2000000 in
theorem peaks5 (a b : Option Addr) (c d : Nat) (l m : List Int) (w : World) {S : Nat → Prop} (h1 : Ints S w (.slice a l.length c) l) (h2 : Ints S w (.slice b m.length d) m) (hl : ∀ n ∈ l, I64 n) (hm : ∀ n ∈ m, I64 n) :
    Calls Try.prog 5 #[.slice a l.length c, .slice b m.length d] w fun e w' => e = .returned (.bool true) ∧ Exts w w' := by
  obtain ⟨i0, hi, hz0, hz1, hz2⟩ := info_parts info3
  have H1 := Lib.hid h1
  have H2 := Lib.hid h2
  have HL := Lib.hid hl
  have HM := Lib.hid hm
  have n1 := RowF.nle h1
  have n2 := RowF.nle h2
  unfold maxLen at n1 n2
  clear h1 h2 hl hm
  by_cases l1 : l.length ≤ 50
  · by_cases l2 : m.length ≤ 50
    · have b1 : decide ((50 : Int) < (l.length : Int)) = false := by simp; omega
      have b2 : decide ((50 : Int) < (m.length : Int)) = false := by simp; omega
      go_enter Try.func5, Try.ntmps5
      go_wp2_with (first | (go_at_call 8; refine (small8 _).mono ?_; rintro e w' ⟨rfl, x1, rfl⟩) | (at_builtin; refine wpList_append_row rfl (.tmp 22) (.tmp 23) 46 rfl w.heap.size 3 i0 _ 1 8 Try.underlying46 hi hz0 hz1 hz2 rfl (by decide) _ 0 [] rfl (ownsRow_litH (e := 3) _ #[] 0 _ (by simp) (by omega) (by decide) rfl) a l.length c (ints l) rfl (Ints.exts H1.out (by repeat (first | exact Exts.refl _ | apply Exts.andR | apply Exts.alloc | apply Exts.wext | apply Exts.drew | apply Exts.drewN))) (ints_one l) (by unfold maxLen; omega) (by omega) (by simp; omega) ?_; intro ao1 c1 w1 hown1 hg1; (have e1 := exts_of_grown (W := w) (by repeat (first | exact Exts.refl _ | apply Exts.andR | apply Exts.alloc | apply Exts.wext | apply Exts.drew | apply Exts.drewN)) hg1 (fun b hb => by have := Option.some.inj (show some (w.heap.size + x1.bs.size) = some b from hb); omega)); clear hg1; (obtain ⟨y1, hy1⟩ := e1); subst hy1; simp only [Nat.zero_add, List.nil_append] at hown1) | (at_builtin; refine wpList_append_row rfl (.tmp 24) (.tmp 25) 46 rfl w.heap.size 3 i0 _ 1 8 Try.underlying46 hi hz0 hz1 hz2 rfl (by decide) (.slice ao1 l.length c1) l.length (ints l) rfl hown1 b m.length d (ints m) rfl (Ints.exts H2.out (by repeat (first | exact Exts.refl _ | apply Exts.andR | apply Exts.alloc | apply Exts.wext | apply Exts.drew | apply Exts.drewN))) (ints_one m) (by unfold maxLen; omega) (by omega) (by simp) ?_; intro ao2 c2 w2 hown2 hg2; (have e2 := exts_of_grown (W := w) (by repeat (first | exact Exts.refl _ | apply Exts.andR | apply Exts.alloc | apply Exts.wext | apply Exts.drew | apply Exts.drewN)) hg2 (fun b hb => (hown1.lt b hb).1)); clear hg2 hown1; (obtain ⟨y2, hy2⟩ := e2); subst hy2))
      obtain ⟨A, hA⟩ : ∃ A, A = l ++ m := ⟨_, rfl⟩
      have hlen : A.length = l.length + m.length := by rw [hA, List.length_append]
      have hI : ∀ n ∈ A, I64 n := by
        intro n hn
        rw [hA, List.mem_append] at hn
        rcases hn with h | h
        · exact HL.out n h
        · exact HM.out n h
      have hown : (wext w y2).ownsRow w.heap.size 3 1 (.slice ao2 A.length c2) A.length (ints A) := by
        rw [hlen, hA, ints, List.map_append]
        exact hown2
      have hn : A.length ≤ 100 := by omega
      rw [← hlen]
      have HA := Lib.hid hA
      have HI := Lib.hid hI
      have HN := Lib.hid hlen
      have HO := Lib.hid (show Ints _ (wext w y2) (.slice ao2 A.length c2) A from RowF.of_owns hown)
      clear hA hI hlen hown hown2
      go_loop [7] (fun i => ∃ k : Nat, k ≤ A.length ∧ i = .int .i64 k ∧ ∀ j n, j < k → A[j]? = some n → -1099511627776 ≤ n ∧ n ≤ 1099511627776) (fun i => A.length - (intOf i).toNat)
      case atStart => exact ⟨0, by omega, rfl, fun j n hj => by omega⟩
      case round =>
        obtain ⟨k, hk, rfl, hin⟩ := hrel
        have HIN := Lib.hid hin
        clear hin
        by_cases hlt : k < A.length
        · obtain ⟨n, hp⟩ : ∃ q, A[k]? = some q := ⟨A[k], List.getElem?_eq_getElem hlt⟩
          obtain ⟨b', off', rfl, hb', e0⟩ := HO.out.get hp
          by_cases c1 : n < -1099511627776
          · have d1 : decide (n < -1099511627776) = true := by simpa using c1
            go_wp2
            go_ret
            exact ⟨rfl, (by repeat (first | exact Exts.refl _ | apply Exts.andR | apply Exts.alloc | apply Exts.wext | apply Exts.drew | apply Exts.drewN))⟩
          · have d1 : decide (n < -1099511627776) = false := by simpa using c1
            by_cases c2 : 1099511627776 < n
            · have d2 : decide (1099511627776 < n) = true := by simpa using c2
              go_wp2
              go_ret
              exact ⟨rfl, (by repeat (first | exact Exts.refl _ | apply Exts.andR | apply Exts.alloc | apply Exts.wext | apply Exts.drew | apply Exts.drewN))⟩
            · have d2 : decide (1099511627776 < n) = false := by simpa using c2
              go_wp2
              go_round
              case rel =>
                refine ⟨k + 1, by omega, by go_num, fun j q hj hq => ?_⟩
                by_cases hjk : j < k
                · exact HIN.out j q hjk hq
                · obtain rfl : j = k := by omega
                  rw [hp] at hq
                  cases hq
                  omega
              case measure => simp [intOf]; omega
        · obtain rfl : k = A.length := by omega
          have hBd : Bd A := ⟨hn, fun n hm => by
            obtain ⟨i, hi⟩ := List.getElem?_of_mem hm
            exact HIN.out i n (List.getElem?_eq_some_iff.1 hi).1 hi⟩
          have HB := Lib.hid hBd
          clear hBd
          go_wp2_with (first | (go_at_call 18; refine (prefixes18 _ _ A _ (Ints.exts HO.out (by repeat (first | exact Exts.refl _ | apply Exts.andR | apply Exts.alloc | apply Exts.wext | apply Exts.drew | apply Exts.drewN))) (by omega)).mono ?_; rintro e W3 ⟨ao3, c3, rfl, hx3, hp3⟩; (have hp3' := Ints.pre hp3); clear hp3; (obtain ⟨b3, off3, rfl, hb3, z0⟩ := hp3'.get (prefs_at A A.length 0 (by omega))); (rw [psum_zero, Nat.add_zero] at z0); (have HP := Lib.hid hp3'); (have HA3 := Lib.hid (Ints.exts HO.out hx3)); (have E3 := Lib.hid hx3); clear hp3' hx3) | (go_at_call 19; refine (peak19 _ _ A _ (Ints.exts HA3.out (by repeat (first | exact Exts.refl _ | apply Exts.andR | apply Exts.alloc | apply Exts.wext | apply Exts.drew | apply Exts.drewN))) (by omega)).mono ?_; rintro e w' ⟨rfl, x4, rfl⟩))
          clear z0
          go_loopw [10, 11] (fun f i wr => ∃ (k : Nat) (x : Ex), k ≤ A.length + 1 ∧ i = .int .i64 k ∧ f = .bool (fnd A k) ∧ wr = wext W3 x) (fun _ i _ => A.length + 1 - (intOf i).toNat)
          case atStart => exact ⟨0, x4, by omega, rfl, rfl, rfl⟩
          case round =>
            obtain ⟨k, x, hk, rfl, rfl, rfl⟩ := hrel
            by_cases hlt : k < A.length + 1
            · obtain ⟨b3', off3', hbo, _, z1⟩ := HP.out.get (prefs_at A A.length k (by omega))
              cases hbo
              have F := Lib.hid (fnd_succ A k)
              have p1 : decide (pmax A A.length < psum A k) = false := by
                have := pmax_ge A A.length k (by omega)
                simp; omega
              obtain ⟨q, hq⟩ : ∃ q, (psum A k == pmax A A.length) = q := ⟨_, rfl⟩
              cases k with
              | zero =>
                have hf : fnd A 0 = false := rfl
                rw [psum_zero] at z1 hq p1
                rw [Nat.add_zero] at z1
                go_wp2
                first | refine wp_region_ext_lit2 (by kernel_rfl) (by kernel_rfl) ?_ | refine wp_region_ext_lit (by kernel_rfl) (by kernel_rfl) ?_
                repeat (go_big_quiet_step (fail))
                refine wpQuiet_nil ?_
                intro _ hwq'
                obtain ⟨xq, hwq''⟩ := hwq'
                subst hwq''
                go_wp2
                go_roundw
                case rel => exact ⟨1, xq, by omega, rfl, by rw [F.out, hf, psum_zero, hq]; rfl, rfl⟩
                case measure => simp [intOf]; try omega
              | succ j =>
                obtain ⟨n, hp⟩ : ∃ n, A[j]? = some n := ⟨A[j], List.getElem?_eq_getElem (by omega)⟩
                obtain ⟨b4, off4, rfl, hb4, z2⟩ := HA3.out.get hp
                obtain ⟨b3', off3', hbo, _, z3⟩ := HP.out.get (prefs_at A A.length j (by omega))
                cases hbo
                have hs := step_sub A j n hp (HI.out n (List.mem_of_getElem? hp))
                have hw : IntKind.i64.wrap (psum A (j + 1) - psum A j) = n := by unfold wrap64 at hs; rw [IntKind.wrap_i64]; omega
                have hj : IntKind.i64.wrap (j : Int) = j := IntWalk.i64_in _ (by omega)
                have hnn : (n != n) = false := by simp
                cases hf : fnd A (j + 1) with
                | false =>
                  go_wp2
                  first | refine wp_region_ext_lit2 (by kernel_rfl) (by kernel_rfl) ?_ | refine wp_region_ext_lit (by kernel_rfl) (by kernel_rfl) ?_
                  repeat (go_big_quiet_step (fail))
                  refine wpQuiet_nil ?_
                  intro _ hwq'
                  obtain ⟨xq, hwq''⟩ := hwq'
                  subst hwq''
                  go_wp2
                  go_roundw
                  case rel => exact ⟨j + 1 + 1, xq, by omega, by go_num, by rw [F.out, hf, hq]; rfl, rfl⟩
                  case measure => simp [intOf]; try omega
                | true =>
                  go_wp2
                  first | refine wp_region_ext_lit2 (by kernel_rfl) (by kernel_rfl) ?_ | refine wp_region_ext_lit (by kernel_rfl) (by kernel_rfl) ?_
                  repeat (go_big_quiet_step (fail))
                  refine wpQuiet_nil ?_
                  intro _ hwq'
                  obtain ⟨xq, hwq''⟩ := hwq'
                  subst hwq''
                  go_wp2
                  go_roundw
                  case rel => exact ⟨j + 1 + 1, xq, by omega, by go_num, by rw [F.out, hf, hq]; rfl, rfl⟩
                  case measure => simp [intOf]; try omega
            · obtain rfl : k = A.length + 1 := by omega
              have hf := fnd_all A
              have q0 := pmax_nonneg A A.length
              have q1 : pmax l l.length ≤ pmax A A.length := by rw [HA.out]; exact peak_left (HA.out ▸ HB.out)
              have q2 : pmax A A.length ≤ pmax l l.length + pmax m m.length := by rw [HA.out]; exact peak_both (HA.out ▸ HB.out)
              have q3 := pmax_le_bd (Bd.left (HA.out ▸ HB.out))
              have q4 := pmax_le_bd (Bd.right (HA.out ▸ HB.out))
              have q5 := pmax_nonneg l l.length
              have q6 := pmax_nonneg m m.length
              have K1 := Lib.hid (Ints.exts H1.out (Exts.trans (Exts.wext (Exts.refl w) y2) E3.out))
              have K2 := Lib.hid (Ints.exts H2.out (Exts.trans (Exts.wext (Exts.refl w) y2) E3.out))
              go_wp2_with (first | (go_at_call 19; (with_reducible refine (peak19 a c l _ (Ints.exts K1.out (by repeat (first | exact Exts.refl _ | apply Exts.andR | apply Exts.alloc | apply Exts.wext | apply Exts.drew | apply Exts.drewN))) (by omega)).mono ?_); rintro e w' ⟨rfl, z4, rfl⟩) | (go_at_call 19; (with_reducible refine (peak19 b d m _ (Ints.exts K2.out (by repeat (first | exact Exts.refl _ | apply Exts.andR | apply Exts.alloc | apply Exts.wext | apply Exts.drew | apply Exts.drewN))) (by omega)).mono ?_); rintro e w' ⟨rfl, z5, rfl⟩))
              go_ret
              exact ⟨rfl, (Exts.trans (Exts.wext (Exts.refl w) y2) E3.out).trans (by repeat (first | exact Exts.refl _ | apply Exts.andR | apply Exts.alloc | apply Exts.wext | apply Exts.drew | apply Exts.drewN))⟩
    · have b1 : decide (50 < l.length) = false := by simp; omega
      have b2 : decide (50 < m.length) = true := by simp; omega
      go_enter Try.func5, Try.ntmps5
      go_wp2_with (go_at_call 8; refine (small8 _).mono ?_; rintro e w' ⟨rfl, x1, rfl⟩)
      go_ret
      exact ⟨rfl, (by repeat (first | exact Exts.refl _ | apply Exts.andR | apply Exts.alloc | apply Exts.wext | apply Exts.drew | apply Exts.drewN))⟩
  · have b1 : decide (50 < l.length) = true := by simp; omega
    go_enter Try.func5, Try.ntmps5
    go_wp2_with (go_at_call 8; refine (small8 _).mono ?_; rintro e w' ⟨rfl, x1, rfl⟩)
    go_ret
    exact ⟨rfl, (by repeat (first | exact Exts.refl _ | apply Exts.andR | apply Exts.alloc | apply Exts.wext | apply Exts.drew | apply Exts.drewN))⟩
end Go.Proofs.Ytnpjagodbnpahaa
