/- OptionUses returns true. No condition. -/
import Derived.Test.YtnpjagodbnpahaaSmall8
namespace Go.Proofs.Ytnpjagodbnpahaa
open Go.RowKit
set_option linter.unusedSimpArgs false
set_option linter.unusedVariables false

theorem Phs.lt {S : Nat → Prop} {w : World} {v : Value} {P : List PhC} (h : Phs S w v P) : Phs (fun b => b < w.heap.size) w v P :=
  let ⟨xs, h1, h2⟩ := h
  ⟨xs, h1.lt, fun i p hp =>
    let ⟨a, b, h1, h2, h3, h4⟩ := h2 i p hp
    ⟨a, b, h1, h2, RowF.lt h3, RowF.lt h4⟩⟩
theorem few9_eq (id ho lot us un : Int) (ov : Bool) (ao : Option Addr) (ca : Nat) (P : List PhC) (w : World) {S : Nat → Prop} (b : Bool) (hb : fewB P = b) (h : Phs S w (.slice ao P.length ca) P) :
    Calls Try.prog 9 #[rightV id ho lot (.slice ao P.length ca) us un ov] w fun e w' => e = .returned (.bool b) ∧ Exts w w' := by
  subst hb
  exact few9 id ho lot us un ov ao ca P w h
theorem leftP_in (P : List PhC) (v : Nat) (h : v ≤ P.length) : leftP P v false = P.drop v := by
  unfold leftP
  split
  · simp
  · rename_i hl
    have : P.length ≤ v := by
      exact Classical.byContradiction fun hc => hl ((liv_iff _ _ _).2 ⟨rfl, by omega, by omega⟩)
    rw [List.drop_eq_nil_of_le this]
theorem left11_in (id ho lot un : Int) (v : Nat) (ao : Option Addr) (cap : Nat) (P : List PhC) (w : World) {S : Nat → Prop} (hv : v ≤ P.length) (h : Phs S w (.slice ao P.length cap) P) (hf : Fits P) :
    Calls Try.prog 11 #[rightV id ho lot (.slice ao P.length cap) v un false] w fun e w' => ∃ ao' c', e = .returned (.slice ao' (P.drop v).length c') ∧ Exts w w' ∧ Phs (fun b => w.heap.size ≤ b) w' (.slice ao' (P.drop v).length c') (P.drop v) := by
  have := left11 id ho lot v un false ao cap P w h hf
  rwa [leftP_in P v hv] at this


set_option maxRecDepth 100000
set_option maxHeartbeats 2000000 in
theorem uses3_out (id ho lot us un : Int) (ov : Bool) (ao : Option Addr) (cap : Nat) (P : List PhC) (day : Int) (w : World) {S : Nat → Prop} (h : Phs S w (.slice ao P.length cap) P)
    (hc : ¬ (fewB P = true ∧ 0 ≤ day ∧ day ≤ 1073741824 ∧ day ≤ un ∧ liv P.length us ov = true)) :
    Calls Try.prog 3 #[rightV id ho lot (.slice ao P.length cap) us un ov, .int .i64 day] w fun e w' => e = .returned (.bool true) ∧ Exts w w' := by
  have H := Lib.hid h
  obtain ⟨f1, f2, _, _⟩ := h.facts
  unfold maxLen at f2
  have hn : P.length ≤ 9223372036854775807 := by omega
  clear h f1 f2
  cases hf : fewB P with
  | false =>
    have HF := Lib.hid hf
    clear hf hc
    go_enter Try.func3, Try.ntmps3
    go_wp2_with (first | (go_at_call 8; refine (small8 _).mono ?_; rintro e w' ⟨rfl, x1, rfl⟩) | (go_at_call 9; refine (few9_eq _ _ _ _ _ _ _ _ P _ _ HF.out (H.out.exts (by repeat (first | exact Exts.refl _ | apply Exts.andR | apply Exts.alloc | apply Exts.wext | apply Exts.drew | apply Exts.drewN)))).mono ?_; rintro e w' ⟨rfl, x2, rfl⟩) | (go_at_call 10; refine (living10_eq _ _ _ _ _ _ _ _ _ false _ hn HL.out).mono ?_; rintro e w' ⟨rfl, x3, rfl⟩))
    go_ret
    exact ⟨rfl, (by repeat (first | exact Exts.refl _ | apply Exts.andR | apply Exts.alloc | apply Exts.wext | apply Exts.drew | apply Exts.drewN))⟩
  | true =>
    have HF := Lib.hid hf
    by_cases d1 : day < 0
    · have e1 : decide (day < 0) = true := by simpa using d1
      clear hf hc
      go_enter Try.func3, Try.ntmps3
      go_wp2_with (first | (go_at_call 8; refine (small8 _).mono ?_; rintro e w' ⟨rfl, x1, rfl⟩) | (go_at_call 9; refine (few9_eq _ _ _ _ _ _ _ _ P _ _ HF.out (H.out.exts (by repeat (first | exact Exts.refl _ | apply Exts.andR | apply Exts.alloc | apply Exts.wext | apply Exts.drew | apply Exts.drewN)))).mono ?_; rintro e w' ⟨rfl, x2, rfl⟩) | (go_at_call 10; refine (living10_eq _ _ _ _ _ _ _ _ _ false _ hn HL.out).mono ?_; rintro e w' ⟨rfl, x3, rfl⟩))
      go_ret
      exact ⟨rfl, (by repeat (first | exact Exts.refl _ | apply Exts.andR | apply Exts.alloc | apply Exts.wext | apply Exts.drew | apply Exts.drewN))⟩
    · have e1 : decide (day < 0) = false := by simpa using d1
      by_cases d2 : 1073741824 < day
      · have e2 : decide (1073741824 < day) = true := by simpa using d2
        clear hf hc
        go_enter Try.func3, Try.ntmps3
        go_wp2_with (first | (go_at_call 8; refine (small8 _).mono ?_; rintro e w' ⟨rfl, x1, rfl⟩) | (go_at_call 9; refine (few9_eq _ _ _ _ _ _ _ _ P _ _ HF.out (H.out.exts (by repeat (first | exact Exts.refl _ | apply Exts.andR | apply Exts.alloc | apply Exts.wext | apply Exts.drew | apply Exts.drewN)))).mono ?_; rintro e w' ⟨rfl, x2, rfl⟩) | (go_at_call 10; refine (living10_eq _ _ _ _ _ _ _ _ _ false _ hn HL.out).mono ?_; rintro e w' ⟨rfl, x3, rfl⟩))
        go_ret
        exact ⟨rfl, (by repeat (first | exact Exts.refl _ | apply Exts.andR | apply Exts.alloc | apply Exts.wext | apply Exts.drew | apply Exts.drewN))⟩
      · have e2 : decide (1073741824 < day) = false := by simpa using d2
        by_cases d3 : un < day
        · have e3 : decide (un < day) = true := by simpa using d3
          clear hf hc
          go_enter Try.func3, Try.ntmps3
          go_wp2_with (first | (go_at_call 8; refine (small8 _).mono ?_; rintro e w' ⟨rfl, x1, rfl⟩) | (go_at_call 9; refine (few9_eq _ _ _ _ _ _ _ _ P _ _ HF.out (H.out.exts (by repeat (first | exact Exts.refl _ | apply Exts.andR | apply Exts.alloc | apply Exts.wext | apply Exts.drew | apply Exts.drewN)))).mono ?_; rintro e w' ⟨rfl, x2, rfl⟩) | (go_at_call 10; refine (living10_eq _ _ _ _ _ _ _ _ _ false _ hn HL.out).mono ?_; rintro e w' ⟨rfl, x3, rfl⟩))
          go_ret
          exact ⟨rfl, (by repeat (first | exact Exts.refl _ | apply Exts.andR | apply Exts.alloc | apply Exts.wext | apply Exts.drew | apply Exts.drewN))⟩
        · have e3 : decide (un < day) = false := by simpa using d3
          have hl : liv P.length us ov = false := by
            refine Bool.eq_false_iff.2 fun hl => hc ⟨hf, by omega, by omega, by omega, hl⟩
          have HL := Lib.hid hl
          clear hf hc hl
          go_enter Try.func3, Try.ntmps3
          go_wp2_with (first | (go_at_call 8; refine (small8 _).mono ?_; rintro e w' ⟨rfl, x1, rfl⟩) | (go_at_call 9; refine (few9_eq _ _ _ _ _ _ _ _ P _ _ HF.out (H.out.exts (by repeat (first | exact Exts.refl _ | apply Exts.andR | apply Exts.alloc | apply Exts.wext | apply Exts.drew | apply Exts.drewN)))).mono ?_; rintro e w' ⟨rfl, x2, rfl⟩) | (go_at_call 10; refine (living10_eq _ _ _ _ _ _ _ _ _ false _ hn HL.out).mono ?_; rintro e w' ⟨rfl, x3, rfl⟩))
          go_ret
          exact ⟨rfl, (by repeat (first | exact Exts.refl _ | apply Exts.andR | apply Exts.alloc | apply Exts.wext | apply Exts.drew | apply Exts.drewN))⟩

theorem useCode_ok {n : Nat} {v : Nat} {un day : Int} (h1 : 0 ≤ day) (h2 : day ≤ 1073741824) (h3 : day ≤ un) (hv : v < n) : useCode n v un false day = 0 := by
  have hl : liv n v false = true := (liv_iff _ _ _).2 ⟨rfl, by omega, by omega⟩
  unfold useCode
  rw [if_neg (by omega), if_pos hl, if_neg (by omega)]
theorem useCode_spent {n : Nat} {v : Nat} {un day : Int} (h1 : 0 ≤ day) (h2 : day ≤ 1073741824) (hv : n ≤ v) : useCode n v un false day = 22 := by
  have hl : ¬ liv n v false = true := by rw [liv_iff]; omega
  unfold useCode
  rw [if_neg (by omega), if_neg hl]

theorem left11_L (id ho lot un : Int) (v : Nat) (ao : Option Addr) (cap : Nat) (P L : List PhC) (w : World) {S : Nat → Prop} (hL : P.drop v = L) (hv : v ≤ P.length) (h : Phs S w (.slice ao P.length cap) P) (hf : Fits P) :
    Calls Try.prog 11 #[rightV id ho lot (.slice ao P.length cap) v un false] w fun e w' => ∃ ao' c', e = .returned (.slice ao' L.length c') ∧ Exts w w' ∧ Phs (fun b => w.heap.size ≤ b) w' (.slice ao' L.length c') L := by
  subst hL
  exact left11_in id ho lot un v ao cap P w hv h hf

theorem left11_S (id ho lot un : Int) (v : Nat) (ao : Option Addr) (cap : Nat) (P L : List PhC) (w : World) {S : Nat → Prop} (hL : P.drop (v + 1) = L) (hv : v + 1 ≤ P.length) (h : Phs S w (.slice ao P.length cap) P) (hf : Fits P) :
    Calls Try.prog 11 #[rightV id ho lot (.slice ao P.length cap) ((v : Int) + 1) un false] w fun e w' => ∃ ao' c', e = .returned (.slice ao' L.length c') ∧ Exts w w' ∧ Phs (fun b => w.heap.size ≤ b) w' (.slice ao' L.length c') L :=
  left11_L id ho lot un (v + 1) ao cap P L w hL hv h hf
theorem same15_n (ao bo : Option Addr) (n m ca da : Nat) (P : List PhC) (w : World) {S S' : Nat → Prop} (hn : P.length = n) (hm : P.length = m) (h1 : Phs S w (.slice ao n ca) P) (h2 : Phs S' w (.slice bo m da) P) (hf : Fits P) :
    Calls Try.prog 15 #[.slice ao n ca, .slice bo m da] w fun e w' => e = .returned (.bool true) ∧ Exts w w' := by
  subst hn hm
  exact same15 ao bo ca da P w h1 h2 hf


set_option maxHeartbeats 4000000 in
theorem uses3_in (id ho lot un : Int) (u : Nat) (ao : Option Addr) (cap : Nat) (P : List PhC) (day : Int) (w : World) {S : Nat → Prop} (h : Phs S w (.slice ao P.length cap) P)
    (hf : fewB P = true) (d1 : 0 ≤ day) (d2 : day ≤ 1073741824) (d3 : day ≤ un) (hu : u < P.length) :
    Calls Try.prog 3 #[rightV id ho lot (.slice ao P.length cap) u un false, .int .i64 day] w fun e w' => e = .returned (.bool true) ∧ Exts w w' := by
  have H := Lib.hid h
  have HF := Lib.hid hf
  have HT := Lib.hid (fits_of_few hf)
  have hn := few_len hf
  have hl : liv P.length u false = true := (liv_iff _ _ _).2 ⟨rfl, by omega, by omega⟩
  have HL := Lib.hid hl
  have e1 : decide (day < 0) = false := by simp; omega
  have e2 : decide (1073741824 < day) = false := by simp; omega
  have e3 : decide (un < day) = false := by simp; omega
  obtain ⟨L, hL⟩ : ∃ L, P.drop u = L := ⟨_, rfl⟩
  have hLl : u + L.length = P.length := by rw [← hL, List.length_drop]; omega
  have HLD := Lib.hid hL
  clear h hf hl hL
  go_enter Try.func3, Try.ntmps3
  go_wp2_with (first | (go_at_call 8; refine (small8 _).mono ?_; rintro e w' ⟨rfl, x1, rfl⟩) | (go_at_call 9; refine (few9_eq _ _ _ _ _ _ _ _ P _ _ HF.out (H.out.exts (by repeat (first | exact Exts.refl _ | apply Exts.andR | apply Exts.alloc | apply Exts.wext | apply Exts.drew | apply Exts.drewN)))).mono ?_; rintro e w' ⟨rfl, x2, rfl⟩) | (go_at_call 10; refine (living10_eq _ _ _ _ _ _ _ _ _ true _ (by omega) HL.out).mono ?_; rintro e w' ⟨rfl, x3, rfl⟩) | (go_at_call 11; refine (left11_L _ _ _ _ u _ _ P L _ HLD.out (by omega) (H.out.exts (by repeat (first | exact Exts.refl _ | apply Exts.andR | apply Exts.alloc | apply Exts.wext | apply Exts.drew | apply Exts.drewN))) HT.out).mono ?_; rintro e W2 ⟨al, cl, rfl, hx2, hp2⟩; (have r2 := box_all W2 #[.int .i64 id, .int .i64 ho, .int .i64 lot, .slice ao P.length cap, .int .i64 u, .int .i64 un, .bool false] (Exts.trans (by repeat (first | with_reducible exact Exts.refl _ | with_reducible apply Exts.alloc | with_reducible apply Exts.wext)) hx2)); (have E2 := Lib.hid (Exts.trans (a := w) (by repeat (first | exact Exts.refl _ | apply Exts.andR | apply Exts.alloc | apply Exts.wext | apply Exts.drew | apply Exts.drewN)) hx2)); (have HP2 := Lib.hid hp2); clear hx2 hp2))
  go_loopw [8] (fun i wr => ∃ (k v ck : Nat) (ak : Option Addr) (y : Ex), k ≤ L.length ∧ v = u + k ∧ i = .int .i64 k ∧ wr = wext (W2.alloc (.cells #[.int .i64 id, .int .i64 ho, .int .i64 lot, .slice ak P.length ck, .int .i64 v, .int .i64 un, .bool false] 26)) y ∧ Phs (fun b => b ≠ W2.heap.size) wr (.slice ak P.length ck) P) (fun i _ => L.length - (intOf i).toNat)
  case atStart =>
    refine ⟨0, u, cap, ao, _, by omega, rfl, rfl, (wext_self _).symm, ?_⟩
    have := ((H.out.lt).exts E2.out).mono (S' := fun b => b ≠ W2.heap.size) fun b hb => by have := E2.out.below.size; omega
    exact this.exts ((Exts.refl _).alloc _)
  case round =>
    obtain ⟨k, v, ck, ak, y, hk, hv, rfl, rfl, hpr⟩ := hrel
    have HR := Lib.hid hpr
    clear hpr
    by_cases hlt : k < L.length
    · obtain ⟨p, hp⟩ : ∃ p, L[k]? = some p := ⟨L[k], List.getElem?_eq_getElem hlt⟩
      have hpP : P[v]? = some p := by rw [hv, ← List.getElem?_drop, HLD.out]; exact hp
      have HC := Lib.hid (useCode_ok (n := P.length) (v := v) (un := un) d1 d2 d3 (by omega))
      have hv1 : v + 1 ≤ P.length := by omega
      have HV := Lib.hid hv
      have HP := Lib.hid hpP
      have HQ := Lib.hid hp
      clear hv hpP hp
      go_wp2_with (go_at_call 12; refine (use12_ok _ _ _ _ _ _ P _ _ HR.out HT.out v p HP.out HC.out).mono ?_; rintro e W3 ⟨a3, c3, aa, ca, ab, cb, rfl, hx3, hp3, hv3, he3⟩; (have HX3 := Lib.hid hx3); (have HP3 := Lib.hid hp3); (have HV3 := Lib.hid hv3); (have HE3 := Lib.hid he3); clear hx3 hp3 hv3 he3)
      obtain ⟨b, off, va, na, vb, nb, rfl, hb, _, f0, f1, v0, v1⟩ := HP2.out.get HQ.out
      have FA := Lib.hid ((HT.out.2 p (List.mem_of_getElem? HP.out)).1)
      have FB := Lib.hid ((HT.out.2 p (List.mem_of_getElem? HP.out)).2)
      have V0 := Lib.hid v0
      have V1 := Lib.hid v1
      clear v0 v1
      refine wp_name ?_
      intro W4 hW4
      have e34 : Exts W3 W4 := by rw [hW4]; exact (by repeat (first | exact Exts.refl _ | apply Exts.andR | apply Exts.alloc | apply Exts.wext | apply Exts.drew | apply Exts.drewN))
      have e74 : Exts (W2.alloc (.cells #[.int .i64 id, .int .i64 ho, .int .i64 lot, .slice ak P.length ck, .int .i64 v, .int .i64 un, .bool false] 26)) W4 := (Exts.trans (Exts.wext (Exts.refl _) y) HX3.out).trans e34
      have e24 : Exts W2 W4 := (Exts.alloc (Exts.refl W2) _).trans e74
      have r7 := box_all W4 _ e74
      have r9 := box_all W4 #[.int .i64 id, .int .i64 ho, .int .i64 lot, .slice a3 P.length c3, .int .i64 (v + 1), .int .i64 un, .bool false] (by rw [hW4]; exact (by repeat (first | with_reducible exact Exts.refl _ | with_reducible apply Exts.alloc | with_reducible apply Exts.wext)))
      have r10 := box_all W4 #[.slice aa p.1.length ca, .slice ab p.2.length cb] (by rw [hW4]; exact (by repeat (first | with_reducible exact Exts.refl _ | with_reducible apply Exts.alloc | with_reducible apply Exts.wext)))
      simp only [wext_size, World.size_alloc] at r9 r10
      have g0 := all_at e24 f0
      have g1 := all_at e24 f1
      have KV := Lib.hid (Vols.exts HV3.out e34)
      have KE := Lib.hid (Ents.exts HE3.out e34)
      have K0 := Lib.hid (Vols.exts V0.out e24)
      have K1 := Lib.hid (Ents.exts V1.out e24)
      have E24 := Lib.hid e24
      have E34 := Lib.hid e34
      have HW4 := Lib.hid hW4
      clear f0 f1 hW4 e34 e74 e24
      go_region_held3 (fun w' => Exts W4 w') (first | assumption | exact (Exts.refl _).drew | exact ⟨_, rfl⟩) ((first | (go_at_call 13; (with_reducible refine (same13 _ _ _ _ _ _ _ _ p _ (Vols.exts KV.out (by assumption)) (Ents.exts KE.out (by assumption)) (Vols.exts K0.out (by assumption)) (Ents.exts K1.out (by assumption)) FA.out FB.out).mono ?_); rintro e w' ⟨rfl, q1, rfl⟩)))
      go_wp2
      obtain ⟨L', hL'⟩ : ∃ L', P.drop (v + 1) = L' := ⟨_, rfl⟩
      have hLL : L.drop (k + 1) = L' := by rw [← hL', ← HLD.out, List.drop_drop, HV.out]; rfl
      have hLn : L'.length = L.length - (k + 1) := by rw [← hLL, List.length_drop]
      have HL' := Lib.hid hL'
      have HLL := Lib.hid hLL
      have HLn := Lib.hid hLn
      clear hL' hLL hLn
      obtain ⟨f1, f2, _, _⟩ := HP2.out.facts
      unfold maxLen at f2
      have FL := Lib.hid (HL'.out ▸ HT.out.drop (v + 1) : Fits L')
      refine wp_name ?_
      intro W5 hW5
      have e45 : Exts W4 W5 := by rw [hW5]; exact (by repeat (first | exact Exts.refl _ | apply Exts.andR | apply Exts.alloc | apply Exts.wext | apply Exts.drew | apply Exts.drewN))
      have r12 := box_all W5 #[.int .i64 id, .int .i64 ho, .int .i64 lot, .slice a3 P.length c3, .int .i64 v, .int .i64 un, .bool false] (by rw [hW5]; exact (by repeat (first | with_reducible exact Exts.refl _ | with_reducible apply Exts.alloc | with_reducible apply Exts.wext)))
      simp only [wext_size, World.size_alloc] at r12
      replace r7 := fun w' i h => r7 w' i (e45.trans h)
      replace r9 := fun w' i h => r9 w' i (e45.trans h)
      have KP3 := Lib.hid (HP3.out.exts (E34.out.trans e45))
      have KR := Lib.hid (HR.out.exts (HX3.out.trans (E34.out.trans e45)))
      have KL := Lib.hid (HP2.out.exts (E24.out.trans e45))
      have HW5 := Lib.hid hW5
      have hw1 : IntKind.i64.wrap ((v : Int) + 1) = v + 1 := IntWalk.i64_in _ (by omega)
      have hw2 : IntKind.i64.wrap ((k : Int) + 1) = k + 1 := IntWalk.i64_in _ (by omega)
      clear hW5 e45 g0 g1 r10
      have fin : ∀ Wf, Exts (W2.alloc (.cells #[.int .i64 id, .int .i64 ho, .int .i64 lot, .slice a3 P.length c3, .int .i64 (v + 1), .int .i64 un, .bool false] 26)) Wf → Phs (fun b => b ≠ W2.heap.size) Wf (.slice a3 P.length c3) P →
          ∃ (k' v' ck : Nat) (ak : Option Addr) (y : Ex), k' ≤ L.length ∧ v' = u + k' ∧ Value.int .i64 ((k : Int) + 1) = .int .i64 k' ∧ Wf = wext (W2.alloc (.cells #[.int .i64 id, .int .i64 ho, .int .i64 lot, .slice ak P.length ck, .int .i64 v', .int .i64 un, .bool false] 26)) y ∧ Phs (fun b => b ≠ W2.heap.size) Wf (.slice ak P.length ck) P := by
        rintro Wf ⟨yy, rfl⟩ h
        exact ⟨k + 1, v + 1, c3, a3, yy, by omega, by have := HV.out; omega, rfl, rfl, h⟩
      have FIN := Lib.hid fin
      clear fin
      have hs0 : (0 : Int) ≤ (k : Int) + 1 := by omega
      have hs1 : (k : Int) + 1 ≤ (L.length : Int) := by omega
      have hs2 : ((k : Int) + 1).toNat = k + 1 := by omega
      have hd := Lib.hid (show (L.drop (k + 1)).take (L.length - (k + 1)) = L' by rw [← List.length_drop, List.take_length, HLL.out])
      by_cases hcl : k + 1 < cl
      · have hs3 : ¬ cl = k + 1 := by omega
        have KN := Lib.hid HLn.out
        have KS := Lib.hid (show Phs _ W5 (.slice (some ⟨b, off + (k + 1) * 2, none⟩) (L.length - (k + 1)) (cl - (k + 1))) L' by
          have := KL.out.part (k + 1) (L.length - (k + 1)) (cl - (k + 1)) (by omega) (by omega) (by unfold maxLen; omega) (some ⟨b, off + (k + 1) * 2, none⟩) (by simp) (by intro b' off' he _; cases he; rfl)
          rw [hd.out] at this
          exact this)
        go_region_held3 (fun w' => Exts W5 w') (first | assumption | exact (Exts.refl _).drew | exact ⟨_, rfl⟩) ((first | (go_at_call 14; (with_reducible refine (same14 _ _ _ _ _ _ _ _ _ _ P _ (Phs.exts KP3.out (by assumption)) (Phs.exts KR.out (by assumption)) HT.out).mono ?_); rintro e w' ⟨rfl, q2, rfl⟩) | (go_at_call 11; (with_reducible refine (left11_S _ _ _ _ v _ _ P L' _ HL'.out hv1 (Phs.exts KP3.out (by assumption)) HT.out).mono ?_); rintro e w' ⟨a5, c5, rfl, ⟨q3, rfl⟩, hp5⟩; (try simp only [wext_and, wext_of_drew] at hp5); (have HP5 := Lib.hid hp5); clear hp5) | (go_at_call 15; (with_reducible refine (same15_n _ _ _ _ _ _ L' _ rfl KN.out (Phs.exts HP5.out (by repeat (first | exact Exts.refl _ | apply Exts.andR | apply Exts.alloc | apply Exts.wext | apply Exts.drew | apply Exts.drewN))) (Phs.exts KS.out (by assumption)) FL.out).mono ?_); rintro e w' ⟨rfl, q4, rfl⟩)))
        all_goals
          have hC3 := HX3.out
          obtain ⟨y3, hy3⟩ := hC3
          have hC4 := HW4.out
          have hC5 := HW5.out
          subst hy3
          subst hC4
          subst hC5
          go_wp2
          go_roundw
          case rel =>
            have hk3 := Phs.up (B' := W2.heap.size + 1) HP3.out (by simp; try omega)
            simp only [wext_and] at hk3
            exact FIN.out _ (by repeat (first | exact Exts.refl _ | apply Exts.andR | apply Exts.alloc | apply Exts.wext | apply Exts.drew | apply Exts.drewN)) ((hk3.keeps (by repeat (first | (refine Alike.keeps ?_; (repeat (first | (refine Alike.base ?_ ?_ <;> (simp; done)) | refine Alike.wext ?_ rfl | apply Alike.alloc)); done) | apply Keeps.drew | apply Keeps.andR | apply Keeps.alloc | apply Keeps.wext))).mono fun b hb => by omega)
          case measure => simp [intOf]; omega
      · obtain rfl : cl = k + 1 := by omega
        have KN := Lib.hid (show L'.length = 0 by have := HLn.out; omega)
        have hnil : L' = [] := List.eq_nil_of_length_eq_zero KN.out
        have KS := Lib.hid (show Phs (fun _ => True) W5 (.slice (some ⟨b, off, none⟩) 0 0) L' by
          rw [hnil]
          exact ⟨[], ⟨by simp, _, 0, rfl, Nat.le_refl _, Nat.zero_le _, (fun h => by cases h), fun h => by simp at h⟩, fun i p hp => by simp at hp⟩)
        clear hnil
        go_region_held3 (fun w' => Exts W5 w') (first | assumption | exact (Exts.refl _).drew | exact ⟨_, rfl⟩) ((first | (go_at_call 14; (with_reducible refine (same14 _ _ _ _ _ _ _ _ _ _ P _ (Phs.exts KP3.out (by assumption)) (Phs.exts KR.out (by assumption)) HT.out).mono ?_); rintro e w' ⟨rfl, q2, rfl⟩) | (go_at_call 11; (with_reducible refine (left11_S _ _ _ _ v _ _ P L' _ HL'.out hv1 (Phs.exts KP3.out (by assumption)) HT.out).mono ?_); rintro e w' ⟨a5, c5, rfl, ⟨q3, rfl⟩, hp5⟩; (try simp only [wext_and, wext_of_drew] at hp5); (have HP5 := Lib.hid hp5); clear hp5) | (go_at_call 15; (with_reducible refine (same15_n _ _ _ _ _ _ L' _ rfl KN.out (Phs.exts HP5.out (by repeat (first | exact Exts.refl _ | apply Exts.andR | apply Exts.alloc | apply Exts.wext | apply Exts.drew | apply Exts.drewN))) (Phs.exts KS.out (by assumption)) FL.out).mono ?_); rintro e w' ⟨rfl, q4, rfl⟩)))
        all_goals
          have hC3 := HX3.out
          obtain ⟨y3, hy3⟩ := hC3
          have hC4 := HW4.out
          have hC5 := HW5.out
          subst hy3
          subst hC4
          subst hC5
          go_wp2
          go_roundw
          case rel =>
            have hk3 := Phs.up (B' := W2.heap.size + 1) HP3.out (by simp; try omega)
            simp only [wext_and] at hk3
            exact FIN.out _ (by repeat (first | exact Exts.refl _ | apply Exts.andR | apply Exts.alloc | apply Exts.wext | apply Exts.drew | apply Exts.drewN)) ((hk3.keeps (by repeat (first | (refine Alike.keeps ?_; (repeat (first | (refine Alike.base ?_ ?_ <;> (simp; done)) | refine Alike.wext ?_ rfl | apply Alike.alloc)); done) | apply Keeps.drew | apply Keeps.andR | apply Keeps.alloc | apply Keeps.wext))).mono fun b hb => by omega)
          case measure => simp [intOf]; omega
    · obtain rfl : k = L.length := by omega
      obtain rfl : v = P.length := by omega
      have HC := Lib.hid (useCode_spent (n := P.length) (v := P.length) (un := un) (day := day) d1 d2 (by omega))
      have hlv : liv P.length P.length false = false := Bool.eq_false_iff.2 fun h => by
        have := (liv_iff _ _ _).1 h
        omega
      have HLV := Lib.hid hlv
      have HLP := Lib.hid (show (liv P.length P.length false && decide (un < un)) = false by rw [hlv]; rfl)
      have hpos : (0 : Int) < (L.length : Int) := by omega
      clear hlv hv
      refine wp_name ?_
      intro WL hWL
      have e2 : Exts W2 WL := by rw [hWL]; exact (by repeat (first | exact Exts.refl _ | apply Exts.andR | apply Exts.alloc | apply Exts.wext | apply Exts.drew | apply Exts.drewN))
      have r7 := box_all WL #[.int .i64 id, .int .i64 ho, .int .i64 lot, .slice ak P.length ck, .int .i64 P.length, .int .i64 un, .bool false] (by rw [hWL]; exact (by repeat (first | with_reducible exact Exts.refl _ | with_reducible apply Exts.alloc | with_reducible apply Exts.wext)))
      replace r2 := fun w' i h => r2 w' i (e2.trans h)
      have HRL := Lib.hid (hWL ▸ HR.out : Phs _ WL _ P)
      have EL := Lib.hid (E2.out.trans e2)
      have c7 := fun i => r7 WL i (Exts.refl _)
      have c2 := fun i => r2 WL i (Exts.refl _)
      have l7 : W2.heap.size < WL.heap.size := World.block_lt_of_cell? WL _ (c7 0)
      have l2 : w.heap.size < WL.heap.size := World.block_lt_of_cell? WL _ (c2 0)
      clear r7 r2
      clear hWL e2
      go_wp2_with (first | (go_at_call 12; (with_reducible refine (use12_err _ _ _ _ _ _ _ _ _ _ _ (by omega) 22 HC.out (by decide)).mono ?_); rintro e w' ⟨rfl, z1, rfl⟩) | (go_at_call 16; (with_reducible refine (lapse16_no _ _ _ _ _ _ _ _ P _ _ (Phs.exts HRL.out (by repeat (first | exact Exts.refl _ | apply Exts.andR | apply Exts.alloc | apply Exts.wext | apply Exts.drew | apply Exts.drewN))) HT.out HLP.out).mono ?_); rintro e w' ⟨a6, c6, rfl, ⟨z2, rfl⟩, hp6⟩; clear hp6) | (go_at_call 10; (with_reducible refine (living10_eq _ _ _ _ _ _ _ _ _ false _ (by omega) HLV.out).mono ?_); rintro e w' ⟨rfl, z3, rfl⟩))
      go_ret
      exact ⟨rfl, EL.out.trans (by repeat (first | exact Exts.refl _ | apply Exts.andR | apply Exts.alloc | apply Exts.wext | apply Exts.drew | apply Exts.drewN))⟩

theorem uses3 (id ho lot us un : Int) (ov : Bool) (ao : Option Addr) (cap : Nat) (P : List PhC) (day : Int) (w : World) {S : Nat → Prop} (h : Phs S w (.slice ao P.length cap) P) (_ : I64 us) (_ : I64 un) (_ : I64 day) :
    Calls Try.prog 3 #[rightV id ho lot (.slice ao P.length cap) us un ov, .int .i64 day] w fun e w' => e = .returned (.bool true) ∧ Exts w w' := by
  by_cases hc : fewB P = true ∧ 0 ≤ day ∧ day ≤ 1073741824 ∧ day ≤ un ∧ liv P.length us ov = true
  · obtain ⟨h1, h2, h3, h4, h5⟩ := hc
    obtain ⟨rfl, h6, h7⟩ := (liv_iff _ _ _).1 h5
    obtain ⟨u, rfl⟩ : ∃ u : Nat, us = u := ⟨us.toNat, by omega⟩
    exact uses3_in id ho lot un u ao cap P day w h h1 h2 h3 h4 (by omega)
  · exact uses3_out id ho lot us un ov ao cap P day w h hc
end Go.Proofs.Ytnpjagodbnpahaa
