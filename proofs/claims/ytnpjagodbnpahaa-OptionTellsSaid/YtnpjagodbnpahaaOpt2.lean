/- Left, Use, Lapse and Transfer of package option. Conditions: the numbers of phases are small, ints within 64 bits. -/
import Derived.Test.YtnpjagodbnpahaaOpt1
namespace Go.Proofs.Ytnpjagodbnpahaa
open Go.RowKit
set_option linter.unusedSimpArgs false
set_option linter.unusedVariables false

theorem Phs.up {B B' : Nat} {w : World} {v : Value} {P : List PhC} (h : Phs (fun b => B ≤ b) w v P) (he : B' ≤ B) : Phs (fun b => B' ≤ b) w v P := h.mono fun _ hb => Nat.le_trans he hb
theorem Phs.from {w0 W w : World} {v : Value} {P : List PhC} (h : Phs (fun b => W.heap.size ≤ b) w v P) (he : Exts w0 W) : Phs (fun b => w0.heap.size ≤ b) w v P := h.mono fun _ hb => Nat.le_trans he.below.size hb
theorem PhsAt.part {S : Nat → Prop} {w : World} {xs : List Value} {P : List PhC} (h : PhsAt S w xs P) (lo m : Nat) : PhsAt S w ((xs.drop (lo * 2)).take (m * 2)) ((P.drop lo).take m) := by
  intro i p hp
  rw [List.getElem?_take] at hp
  split at hp
  · rw [List.getElem?_drop] at hp
    obtain ⟨a, b, h1, h2, h3, h4⟩ := h (lo + i) p hp
    refine ⟨a, b, ?_, ?_, h3, h4⟩
    · rw [List.getElem?_take, if_pos (by omega), List.getElem?_drop, ← h1]; congr 1; omega
    · rw [List.getElem?_take, if_pos (by omega), List.getElem?_drop, ← h2]; congr 1; omega
  · cases hp
theorem Phs.part {S : Nat → Prop} {w : World} {ao : Option Addr} {cap : Nat} {P : List PhC} (h : Phs S w (.slice ao P.length cap) P) (lo m cap' : Nat) (hlo : lo + m ≤ P.length) (hm : m ≤ cap') (hcap : cap' ≤ maxLen)
    (ao' : Option Addr) (hao0 : ao' = none → cap' = 0) (hao : ∀ b off, ao = some ⟨b, off, none⟩ → 0 < m → ao' = some ⟨b, off + lo * 2, none⟩) : Phs S w (.slice ao' m cap') ((P.drop lo).take m) := by
  obtain ⟨xs, h1, h2⟩ := h
  have hl : ((P.drop lo).take m).length = m := by rw [List.length_take, List.length_drop]; omega
  exact ⟨_, by rw [hl]; exact h1.part lo m cap' hlo hm hcap ao' hao0 hao, h2.part lo m⟩
theorem Phs.facts {S : Nat → Prop} {w : World} {ao : Option Addr} {cap : Nat} {P : List PhC} (h : Phs S w (.slice ao P.length cap) P) : P.length ≤ cap ∧ cap ≤ maxLen ∧ (ao = none → cap = 0) ∧ (0 < P.length → ∃ b off, ao = some ⟨b, off, none⟩ ∧ S b ∧ b < w.heap.size) := by
  obtain ⟨xs, ⟨h1, ao2, cap2, hv, h2, h3, h4, h5⟩, _⟩ := h
  simp only [Value.slice.injEq, true_and] at hv
  obtain ⟨rfl, rfl⟩ := hv
  exact ⟨h2, h3, h4, fun hn => let ⟨b, off, h, hS, hb, _⟩ := h5 hn; ⟨b, off, h, hS, hb⟩⟩
theorem Fits.part {P : List PhC} (h : Fits P) (lo m : Nat) : Fits ((P.drop lo).take m) := by
  refine ⟨?_, fun p hp => h.2 p (List.mem_of_mem_drop (List.mem_of_mem_take hp))⟩
  have := h.1
  rw [List.length_take, List.length_drop]
  omega
theorem Fits.drop {P : List PhC} (h : Fits P) (lo : Nat) : Fits (P.drop lo) := by
  refine ⟨?_, fun p hp => h.2 p (List.mem_of_mem_drop hp)⟩
  have := h.1
  rw [List.length_drop]
  omega

def leftP (P : List PhC) (us : Int) (ov : Bool) : List PhC := if liv P.length us ov = true then P.drop us.toNat else []

set_option maxRecDepth 100000
set_option maxHeartbeats 1000000 in
theorem left11 (id ho lot us un : Int) (ov : Bool) (ao : Option Addr) (cap : Nat) (P : List PhC) (w : World) {S : Nat → Prop} (h : Phs S w (.slice ao P.length cap) P) (hf : Fits P) :
    Calls Try.prog 11 #[rightV id ho lot (.slice ao P.length cap) us un ov] w fun e w' => ∃ ao' c', e = .returned (.slice ao' (leftP P us ov).length c') ∧ Exts w w' ∧ Phs (fun b => w.heap.size ≤ b) w' (.slice ao' (leftP P us ov).length c') (leftP P us ov) := by
  have hn := hf.1
  by_cases hl : liv P.length us ov = true
  · have e := hl
    rw [liv_iff] at e
    obtain ⟨rfl, h1, h2⟩ := e
    obtain ⟨u, rfl⟩ : ∃ u : Nat, us = u := ⟨us.toNat, by omega⟩
    have hu : u < P.length := by omega
    obtain ⟨f1, f2, f3, f4⟩ := h.facts
    obtain ⟨b, off, rfl, _, hb⟩ := f4 (by omega)
    have hP : leftP P u false = P.drop u := by simp [leftP, hl]
    have R := h.part u (P.length - u) (cap - u) (by omega) (by omega) (by omega) (some ⟨b, off + u * 2, none⟩) (by simp) (by intro b' off' he _; cases he; rfl)
    have hd : (P.drop u).take (P.length - u) = P.drop u := by rw [← List.length_drop, List.take_length]
    rw [hd] at R
    rw [hP]
    have HR := Lib.hid R
    have HF := Lib.hid (hf.drop u)
    have HL := Lib.hid hl
    clear R hd hP h hf h1 h2 f3 f4 hl
    unfold maxLen at f2
    go_enter Try.func11, Try.ntmps11
    go_wp2_with (first | (go_at_call 10; refine (living10_eq _ _ _ _ _ _ _ _ _ true _ (by omega) HL.out).mono ?_; rintro e w' ⟨rfl, x, rfl⟩) | (go_at_call 30; refine (phases30 _ (P.drop u) _ (HR.out.exts (by repeat (first | exact Exts.refl _ | apply Exts.andR | apply Exts.alloc | apply Exts.wext | apply Exts.drew | apply Exts.drewN))) HF.out).mono ?_; rintro e w' ⟨ao', c', rfl, ⟨x2, rfl⟩, hp⟩; replace hp := Phs.from (w0 := w) hp (by repeat (first | exact Exts.refl _ | apply Exts.andR | apply Exts.alloc | apply Exts.wext | apply Exts.drew | apply Exts.drewN)); try simp only [wext_and] at hp))
    go_ret
    exact ⟨ao', c', by simp [go_sem], (by repeat (first | exact Exts.refl _ | apply Exts.andR | apply Exts.alloc | apply Exts.wext | apply Exts.drew | apply Exts.drewN)), hp⟩
  · have hlf : liv P.length us ov = false := by simpa using hl
    have hP : leftP P us ov = [] := by simp [leftP, hl]
    rw [hP]
    have HL := Lib.hid hlf
    clear hl hlf hP h hf
    go_enter Try.func11, Try.ntmps11
    go_wp2_with (first | (go_at_call 10; refine (living10_eq _ _ _ _ _ _ _ _ _ false _ (by omega) HL.out).mono ?_; rintro e w' ⟨rfl, x, rfl⟩))
    go_ret
    exact ⟨none, 0, rfl, (by repeat (first | exact Exts.refl _ | apply Exts.andR | apply Exts.alloc | apply Exts.wext | apply Exts.drew | apply Exts.drewN)), Phs.nil _ _⟩

def useCode (n : Nat) (us un : Int) (ov : Bool) (day : Int) : Int := if day < 0 ∨ 1073741824 < day then 1 else if liv n us ov = true then (if un < day then 20 else 0) else 22
theorem use_ok {n : Nat} {us un : Int} {ov : Bool} {day : Int} (h : useCode n us un ov day = 0) : ∃ u : Nat, us = u ∧ u < n ∧ ov = false ∧ liv n u false = true ∧ 0 ≤ day ∧ day ≤ 1073741824 ∧ day ≤ un := by
  unfold useCode at h
  split at h
  · omega
  · split at h
    · rename_i hl
      have e := hl
      rw [liv_iff] at e
      obtain ⟨rfl, h1, h2⟩ := e
      obtain ⟨u, rfl⟩ : ∃ u : Nat, us = u := ⟨us.toNat, by omega⟩
      split at h
      · omega
      · exact ⟨u, rfl, by omega, rfl, hl, by omega, by omega, by omega⟩
    · omega

abbrev right0 : Value := rightV 0 0 0 (.slice none 0 0) 0 0 false
abbrev phase0 : Value := .agg #[.slice none 0 0, .slice none 0 0]

set_option maxRecDepth 100000
set_option maxHeartbeats 1000000 in
/-- Use where it fails. -/
theorem use12_err (id ho lot us un : Int) (ov : Bool) (ao : Option Addr) (cap : Nat) (n : Nat) (day : Int) (w : World) (hn : n ≤ 100000) (c : Int) (hc : useCode n us un ov day = c) (h0 : c ≠ 0) :
    Calls Try.prog 12 #[rightV id ho lot (.slice ao n cap) us un ov, .int .i64 day] w fun e w' => e = .returned (.tuple #[right0, phase0, .int .i64 c]) ∧ Exts w w' := by
  unfold useCode at hc
  by_cases h1 : day < 0
  · rw [if_pos (Or.inl h1)] at hc
    subst hc
    clear h0
    go_enter Try.func12, Try.ntmps12
    go_wp2
    refine bodyPost_ret (v := .tuple #[right0, phase0, .int .i64 1]) (by simp [results, go_sem]) rfl ⟨rfl, (by repeat (first | exact Exts.refl _ | apply Exts.andR | apply Exts.alloc | apply Exts.wext | apply Exts.drew | apply Exts.drewN))⟩
  · by_cases h2 : 1073741824 < day
    · rw [if_pos (Or.inr h2)] at hc
      subst hc
      clear h0
      have b1 : decide (day < 0) = false := by simpa using h1
      go_enter Try.func12, Try.ntmps12
      go_wp2
      refine bodyPost_ret (v := .tuple #[right0, phase0, .int .i64 1]) (by simp [results, go_sem]) rfl ⟨rfl, (by repeat (first | exact Exts.refl _ | apply Exts.andR | apply Exts.alloc | apply Exts.wext | apply Exts.drew | apply Exts.drewN))⟩
    · have b1 : decide (day < 0) = false := by simpa using h1
      have b2 : decide (1073741824 < day) = false := by simpa using h2
      rw [if_neg (by omega)] at hc
      cases hl : liv n us ov with
      | false =>
        rw [hl] at hc
        simp at hc
        subst hc
        have HL := Lib.hid hl
        clear hl h0
        go_enter Try.func12, Try.ntmps12
        go_wp2_with (first | (go_at_call 10; refine (living10_eq _ _ _ _ _ _ _ _ _ false _ (by omega) HL.out).mono ?_; rintro e w' ⟨rfl, x, rfl⟩))
        refine bodyPost_ret (v := .tuple #[right0, phase0, .int .i64 22]) (by simp [results, go_sem]) rfl ⟨rfl, (by repeat (first | exact Exts.refl _ | apply Exts.andR | apply Exts.alloc | apply Exts.wext | apply Exts.drew | apply Exts.drewN))⟩
      | true =>
        rw [hl] at hc
        simp at hc
        have h3 : un < day := by
          refine Classical.byContradiction fun h => ?_
          rw [if_neg h] at hc
          exact h0 hc.symm
        rw [if_pos h3] at hc
        subst hc
        have HL := Lib.hid hl
        clear hl h0
        go_enter Try.func12, Try.ntmps12
        go_wp2_with (first | (go_at_call 10; refine (living10_eq _ _ _ _ _ _ _ _ _ true _ (by omega) HL.out).mono ?_; rintro e w' ⟨rfl, x, rfl⟩))
        refine bodyPost_ret (v := .tuple #[right0, phase0, .int .i64 20]) (by simp [results, go_sem]) rfl ⟨rfl, (by repeat (first | exact Exts.refl _ | apply Exts.andR | apply Exts.alloc | apply Exts.wext | apply Exts.drew | apply Exts.drewN))⟩

/-- A phase's two lists. -/
def Ph1 (S : Nat → Prop) (w : World) (v : Value) (p : PhC) : Prop := ∃ aa ca ab cb, v = .agg #[.slice aa p.1.length ca, .slice ab p.2.length cb] ∧ Vols S w (.slice aa p.1.length ca) p.1 ∧ Ents S w (.slice ab p.2.length cb) p.2
theorem Ph1.exts {S : Nat → Prop} {w w' : World} {v : Value} {p : PhC} (h : Ph1 S w v p) (he : Exts w w') : Ph1 S w' v p :=
  let ⟨aa, ca, ab, cb, h1, h2, h3⟩ := h
  ⟨aa, ca, ab, cb, h1, h2.exts he, h3.exts he⟩
theorem Phs.get {S : Nat → Prop} {w : World} {ao : Option Addr} {cap : Nat} {P : List PhC} (h : Phs S w (.slice ao P.length cap) P) {i : Nat} {p : PhC} (hp : P[i]? = some p) :
    ∃ b off aa ca ab cb, ao = some ⟨b, off, none⟩ ∧ b < w.heap.size ∧ S b ∧ w.cell? ⟨b, off + i * 2, none⟩ = some (.slice aa p.1.length ca) ∧ w.cell? ⟨b, off + i * 2 + 1, none⟩ = some (.slice ab p.2.length cb) ∧ Vols S w (.slice aa p.1.length ca) p.1 ∧ Ents S w (.slice ab p.2.length cb) p.2 := by
  obtain ⟨xs, ⟨h1, ao2, cap2, hv, h2, h3, h4, h5⟩, hx⟩ := h
  simp only [Value.slice.injEq, true_and] at hv
  obtain ⟨rfl, rfl⟩ := hv
  obtain ⟨b, off, rfl, hS, hb, hc⟩ := h5 (by have := (List.getElem?_eq_some_iff.1 hp).1; omega)
  obtain ⟨x, y, e1, e2, e3, e4⟩ := hx i p hp
  obtain ⟨_, aa, ca, rfl, _⟩ := id e3
  obtain ⟨_, ab, cb, rfl, _⟩ := id e4
  exact ⟨b, off, aa, ca, ab, cb, rfl, hb, hS, hc _ _ e1, by rw [Nat.add_assoc]; exact hc _ _ e2, e3, e4⟩

set_option maxHeartbeats 1000000 in
/-- Use where it succeeds. -/
theorem use12_ok (id ho lot un : Int) (ao : Option Addr) (cap : Nat) (P : List PhC) (day : Int) (w : World) {S : Nat → Prop} (h : Phs S w (.slice ao P.length cap) P) (hf : Fits P) (u : Nat) (p : PhC) (hp : P[u]? = some p) (hc : useCode P.length u un false day = 0) :
    Calls Try.prog 12 #[rightV id ho lot (.slice ao P.length cap) u un false, .int .i64 day] w fun e w' => ∃ ao' c' aa ca ab cb, e = .returned (.tuple #[rightV id ho lot (.slice ao' P.length c') (u + 1) un false, .agg #[.slice aa p.1.length ca, .slice ab p.2.length cb], .int .i64 0]) ∧ Exts w w' ∧ Phs (fun b => w.heap.size ≤ b) w' (.slice ao' P.length c') P ∧ Vols (fun b => w.heap.size ≤ b) w' (.slice aa p.1.length ca) p.1 ∧ Ents (fun b => w.heap.size ≤ b) w' (.slice ab p.2.length cb) p.2 := by
  obtain ⟨_, hu', hu, _, hl, h1, h2, h3⟩ := use_ok hc
  cases hu'
  have hn := hf.1
  have hP : leftP P u false = P.drop u := by simp [leftP, hl]
  have hd : (P.drop u)[0]? = some p := by simpa using hp
  have hu2 : u < P.length := hu
  have hL := left11 id ho lot u un false ao cap P
  rw [hP] at hL
  have HL := Lib.hid hl
  have HC := Lib.hid @hL
  have H := Lib.hid h
  have HF := Lib.hid hf
  have HD := Lib.hid hd
  have b1 : decide (day < 0) = false := by simp; omega
  have b2 : decide (1073741824 < day) = false := by simp; omega
  have b3 : decide (un < day) = false := by simp; omega
  have hlen := List.length_drop (i := u) (l := P)
  clear hl hL h hf hd hp hc hP hu
  go_enter Try.func12, Try.ntmps12
  go_wp2_with (first | (go_at_call 10; refine (living10_eq _ _ _ _ _ _ _ _ _ true _ (by omega) HL.out).mono ?_; rintro e w' ⟨rfl, x, rfl⟩) | (go_at_call 11; refine (HC.out _ (H.out.exts (by repeat (first | exact Exts.refl _ | apply Exts.andR | apply Exts.alloc | apply Exts.wext | apply Exts.drew | apply Exts.drewN))) HF.out).mono ?_; rintro e w' ⟨ao', c', rfl, ⟨x2, rfl⟩, hp⟩; replace hp := Phs.up (B' := w.heap.size + 3) hp (by simp [Nat.add_assoc]; try omega); try simp only [wext_and] at hp; (obtain ⟨b, off, aa, ca, ab, cb, rfl, hb, _, f1, f2, rv, re⟩ := hp.get HD.out); simp only [Nat.zero_mul, Nat.add_zero] at f1 f2; (have HP := Lib.hid hp); (have HV := Lib.hid rv); (have HE := Lib.hid re); clear hp rv re) | (go_at_call 31; (refine (own31 _ _ _ _ _ _ _ _ _ _ (H.out.exts (by repeat (first | exact Exts.refl _ | apply Exts.andR | apply Exts.alloc | apply Exts.wext | apply Exts.drew | apply Exts.drewN))) HF.out).mono ?_; rintro e w' ⟨ao2, c2, rfl, hx, hp2⟩; (have hv := RowF.exts HV.out (Exts.trans (by repeat (first | exact Exts.refl _ | apply Exts.andR | apply Exts.alloc | apply Exts.wext | apply Exts.drew | apply Exts.drewN)) hx)); (have he := RowF.exts HE.out (Exts.trans (by repeat (first | exact Exts.refl _ | apply Exts.andR | apply Exts.alloc | apply Exts.wext | apply Exts.drew | apply Exts.drewN)) hx)); obtain ⟨x3, rfl⟩ := hx; replace hp2 := Phs.up (B' := w.heap.size + 3) hp2 (by simp [Nat.add_assoc]; try omega); try simp only [wext_and] at hp2)))
  go_region
  go_wp2
  refine bodyPost_ret (v := .tuple #[rightV id ho lot (.slice ao2 P.length c2) (u + 1) un false, .agg #[.slice aa p.1.length ca, .slice ab p.2.length cb], .int .i64 0]) (by simp [results, go_sem]) rfl ⟨ao2, c2, aa, ca, ab, cb, rfl, (by repeat (first | exact Exts.refl _ | apply Exts.andR | apply Exts.alloc | apply Exts.wext | apply Exts.drew | apply Exts.drewN)), ?_, ?_, ?_⟩
  · exact (hp2.keeps (by repeat (first | (refine Alike.keeps ?_; (repeat (first | (refine Alike.base ?_ ?_ <;> (simp; done)) | refine Alike.wext ?_ rfl | apply Alike.alloc)); done) | apply Keeps.drew | apply Keeps.andR | apply Keeps.alloc | apply Keeps.wext))).up (by omega)
  · exact (hv.keeps (by repeat (first | (refine Alike.keeps ?_; (repeat (first | (refine Alike.base ?_ ?_ <;> (simp; done)) | refine Alike.wext ?_ rfl | apply Alike.alloc)); done) | apply Keeps.drew | apply Keeps.andR | apply Keeps.alloc | apply Keeps.wext))).up (by omega)
  · exact (he.keeps (by repeat (first | (refine Alike.keeps ?_; (repeat (first | (refine Alike.base ?_ ?_ <;> (simp; done)) | refine Alike.wext ?_ rfl | apply Alike.alloc)); done) | apply Keeps.drew | apply Keeps.andR | apply Keeps.alloc | apply Keeps.wext))).up (by omega)
end Go.Proofs.Ytnpjagodbnpahaa
