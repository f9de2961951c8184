/- Use, Lapse, Transfer, Split of package option and of the reference: one contract each, with the same results. Conditions: the numbers of phases are small. -/
import Derived.Test.YtnpjagodbnpahaaRefUse
import Derived.Test.YtnpjagodbnpahaaRefSplit
import Derived.Test.YtnpjagodbnpahaaSplits
namespace Go.Proofs.Ytnpjagodbnpahaa
open Go.RowKit
set_option linter.unusedSimpArgs false
set_option linter.unusedVariables false

/-- A right's data. -/
structure RD where
  id : Int
  ho : Int
  lot : Int
  us : Int
  un : Int
  ov : Bool
  P : List PhC
def RD.zero : RD := ⟨0, 0, 0, 0, 0, false, []⟩
theorem fits_nil : Fits [] := ⟨by simp, fun p hp => by simp at hp⟩

def usD (R : RD) (day : Int) : RD × PhC × Int :=
  if useCode R.P.length R.us R.un R.ov day = 0 then (⟨R.id, R.ho, R.lot, R.us + 1, R.un, R.ov, R.P⟩, R.P.getD R.us.toNat ([], []), 0) else (.zero, ([], []), useCode R.P.length R.us R.un R.ov day)
def lapseD (R : RD) (day : Int) : RD × Bool :=
  if (liv R.P.length R.us R.ov && decide (R.un < day)) = true then (⟨R.id, R.ho, R.lot, R.us, R.un, true, R.P⟩, true) else (R, false)
def transferD (R : RD) (n : Int) : RD × Int :=
  if liv R.P.length R.us R.ov = false then (.zero, 22) else if n < 0 then (.zero, 1) else (⟨R.id, n, R.lot, R.us, R.un, R.ov, R.P⟩, 0)
def splitD (R : RD) (a b : Int) : RD × RD × Int :=
  if liv R.P.length R.us R.ov = false then (.zero, .zero, 22) else if a ≤ R.us ∨ (R.P.length : Int) ≤ a ∨ b < 0 ∨ b = R.id then (.zero, .zero, 1)
  else (⟨R.id, R.ho, R.lot, R.us, R.un, R.ov, R.P.take a.toNat⟩, ⟨b, R.ho, R.lot, 0, R.un, false, R.P.drop a.toNat⟩, 0)

theorem usD_fits (R : RD) (h : Fits R.P) (day : Int) : Fits (usD R day).1.P ∧ (usD R day).2.1.1.length ≤ 100000 ∧ (usD R day).2.1.2.length ≤ 100000 := by
  unfold usD
  split
  · refine ⟨h, ?_⟩
    show ((R.P.getD R.us.toNat ([], []))).1.length ≤ 100000 ∧ (R.P.getD R.us.toNat ([], [])).2.length ≤ 100000
    rw [List.getD_eq_getElem?_getD]
    cases hg : R.P[R.us.toNat]? with
    | none => simp
    | some p => exact h.2 p (List.mem_of_getElem? hg)
  · exact ⟨fits_nil, by simp, by simp⟩
theorem lapseD_fits (R : RD) (h : Fits R.P) (day : Int) : Fits (lapseD R day).1.P := by
  unfold lapseD
  split
  · exact h
  · exact h
theorem transferD_fits (R : RD) (h : Fits R.P) (n : Int) : Fits (transferD R n).1.P := by
  unfold transferD
  split
  · exact fits_nil
  · split
    · exact fits_nil
    · exact h
theorem splitD_fits (R : RD) (h : Fits R.P) (a b : Int) : Fits (splitD R a b).1.P ∧ Fits (splitD R a b).2.1.P := by
  unfold splitD
  split
  · exact ⟨fits_nil, fits_nil⟩
  · split
    · exact ⟨fits_nil, fits_nil⟩
    · refine ⟨?_, h.drop _⟩
      have := h.part 0 a.toNat
      rwa [List.drop_zero] at this

/-- What the four functions give back. -/
def URes (D : RD × PhC × Int) (w : World) (e : Ending) (w' : World) : Prop := ∃ a k aa ca ab cb, e = .returned (.tuple #[rightV D.1.id D.1.ho D.1.lot (.slice a D.1.P.length k) D.1.us D.1.un D.1.ov, .agg #[.slice aa D.2.1.1.length ca, .slice ab D.2.1.2.length cb], .int .i64 D.2.2]) ∧ Exts w w' ∧ Phs (fun _ => True) w' (.slice a D.1.P.length k) D.1.P ∧ Vols (fun _ => True) w' (.slice aa D.2.1.1.length ca) D.2.1.1 ∧ Ents (fun _ => True) w' (.slice ab D.2.1.2.length cb) D.2.1.2
def LRes (D : RD × Bool) (w : World) (e : Ending) (w' : World) : Prop := ∃ a k, e = .returned (.tuple #[rightV D.1.id D.1.ho D.1.lot (.slice a D.1.P.length k) D.1.us D.1.un D.1.ov, .bool D.2]) ∧ Exts w w' ∧ Phs (fun _ => True) w' (.slice a D.1.P.length k) D.1.P
def TRes (D : RD × Int) (w : World) (e : Ending) (w' : World) : Prop := ∃ a k, e = .returned (.tuple #[rightV D.1.id D.1.ho D.1.lot (.slice a D.1.P.length k) D.1.us D.1.un D.1.ov, .int .i64 D.2]) ∧ Exts w w' ∧ Phs (fun _ => True) w' (.slice a D.1.P.length k) D.1.P
def SRes (D : RD × RD × Int) (w : World) (e : Ending) (w' : World) : Prop := ∃ a k b l, e = .returned (.tuple #[rightV D.1.id D.1.ho D.1.lot (.slice a D.1.P.length k) D.1.us D.1.un D.1.ov, rightV D.2.1.id D.2.1.ho D.2.1.lot (.slice b D.2.1.P.length l) D.2.1.us D.2.1.un D.2.1.ov, .int .i64 D.2.2]) ∧ Exts w w' ∧ Phs (fun _ => True) w' (.slice a D.1.P.length k) D.1.P ∧ Phs (fun _ => True) w' (.slice b D.2.1.P.length l) D.2.1.P

section
variable (id ho lot us un : Int) (ov : Bool) (ao : Option Addr) (cap : Nat) (P : List PhC) (w : World) {S : Nat → Prop} (h : Phs S w (.slice ao P.length cap) P) (hf : Fits P)
include h hf
theorem use12_any (day : Int) : Calls Try.prog 12 #[rightV id ho lot (.slice ao P.length cap) us un ov, .int .i64 day] w (URes (usD ⟨id, ho, lot, us, un, ov, P⟩ day) w) := by
  by_cases hc : useCode P.length us un ov day = 0
  · have hD : usD ⟨id, ho, lot, us, un, ov, P⟩ day = (⟨id, ho, lot, us + 1, un, ov, P⟩, P.getD us.toNat ([], []), 0) := if_pos hc
    rw [hD]
    obtain ⟨u, rfl, hu, rfl, _⟩ := use_ok hc
    have hp : P[u]? = some P[u] := List.getElem?_eq_getElem hu
    have hg : P.getD (u : Int).toNat ([], []) = P[u] := by rw [Int.toNat_natCast, List.getD_eq_getElem?_getD, hp]; rfl
    rw [hg]
    refine (use12_ok id ho lot un ao cap P day w h hf u P[u] hp hc).mono ?_
    rintro e w' ⟨a, k, aa, ca, ab, cb, rfl, hx, h1, h2, h3⟩
    exact ⟨a, k, aa, ca, ab, cb, rfl, hx, h1.any, RowF.mono h2 fun _ _ => trivial, RowF.mono h3 fun _ _ => trivial⟩
  · have hD : usD ⟨id, ho, lot, us, un, ov, P⟩ day = (.zero, ([], []), useCode P.length us un ov day) := if_neg hc
    rw [hD]
    refine (use12_err id ho lot us un ov ao cap P.length day w hf.1 _ rfl hc).mono ?_
    rintro e w' ⟨rfl, hx⟩
    exact ⟨none, 0, none, 0, none, 0, rfl, hx, Phs.nil _ _, RowF.nil _ _ _, RowF.nil _ _ _⟩
theorem use20_any (day : Int) : Calls Try.prog 20 #[rightV id ho lot (.slice ao P.length cap) us un ov, .int .i64 day] w (URes (usD ⟨id, ho, lot, us, un, ov, P⟩ day) w) := by
  by_cases hc : useCode P.length us un ov day = 0
  · have hD : usD ⟨id, ho, lot, us, un, ov, P⟩ day = (⟨id, ho, lot, us + 1, un, ov, P⟩, P.getD us.toNat ([], []), 0) := if_pos hc
    rw [hD]
    obtain ⟨u, rfl, hu, rfl, _⟩ := use_ok hc
    have hp : P[u]? = some P[u] := List.getElem?_eq_getElem hu
    have hg : P.getD (u : Int).toNat ([], []) = P[u] := by rw [Int.toNat_natCast, List.getD_eq_getElem?_getD, hp]; rfl
    rw [hg]
    refine (use20_ok id ho lot un ao cap P day w h hf u P[u] hp hc).mono ?_
    rintro e w' ⟨a, k, aa, ca, ab, cb, rfl, hx, h1, h2, h3⟩
    exact ⟨a, k, aa, ca, ab, cb, rfl, hx, h1, h2, h3⟩
  · have hD : usD ⟨id, ho, lot, us, un, ov, P⟩ day = (.zero, ([], []), useCode P.length us un ov day) := if_neg hc
    rw [hD]
    refine (use20_err id ho lot us un ov ao cap P.length day w hf.1 _ rfl hc).mono ?_
    rintro e w' ⟨rfl, hx⟩
    exact ⟨none, 0, none, 0, none, 0, rfl, hx, Phs.nil _ _, RowF.nil _ _ _, RowF.nil _ _ _⟩

theorem lapse16_any (day : Int) : Calls Try.prog 16 #[rightV id ho lot (.slice ao P.length cap) us un ov, .int .i64 day] w (LRes (lapseD ⟨id, ho, lot, us, un, ov, P⟩ day) w) := by
  cases hc : (liv P.length us ov && decide (un < day)) with
  | true =>
    have hD : lapseD ⟨id, ho, lot, us, un, ov, P⟩ day = (⟨id, ho, lot, us, un, true, P⟩, true) := if_pos hc
    rw [hD]
    rw [Bool.and_eq_true, decide_eq_true_eq] at hc
    obtain ⟨rfl, _, _⟩ := (liv_iff _ _ _).1 hc.1
    refine (lapse16_yes id ho lot un us ao cap P day w h hf hc.1 hc.2).mono ?_
    rintro e w' ⟨a, k, rfl, hx, h1⟩
    exact ⟨a, k, rfl, hx, h1.any⟩
  | false =>
    have hD : lapseD ⟨id, ho, lot, us, un, ov, P⟩ day = (⟨id, ho, lot, us, un, ov, P⟩, false) := if_neg (by simp only; rw [hc]; simp)
    rw [hD]
    refine (lapse16_no id ho lot un us ov ao cap P day w h hf hc).mono ?_
    rintro e w' ⟨a, k, rfl, hx, h1⟩
    exact ⟨a, k, rfl, hx, h1.any⟩
theorem lapse21_any (day : Int) : Calls Try.prog 21 #[rightV id ho lot (.slice ao P.length cap) us un ov, .int .i64 day] w (LRes (lapseD ⟨id, ho, lot, us, un, ov, P⟩ day) w) := by
  cases hc : (liv P.length us ov && decide (un < day)) with
  | true =>
    have hD : lapseD ⟨id, ho, lot, us, un, ov, P⟩ day = (⟨id, ho, lot, us, un, true, P⟩, true) := if_pos hc
    rw [hD]
    rw [Bool.and_eq_true, decide_eq_true_eq] at hc
    obtain ⟨rfl, _, _⟩ := (liv_iff _ _ _).1 hc.1
    refine (lapse21_yes id ho lot un us ao cap P.length day w hf.1 hc.1 hc.2).mono ?_
    rintro e w' ⟨rfl, hx⟩
    exact ⟨ao, cap, rfl, hx, (h.exts hx).any⟩
  | false =>
    have hD : lapseD ⟨id, ho, lot, us, un, ov, P⟩ day = (⟨id, ho, lot, us, un, ov, P⟩, false) := if_neg (by simp only; rw [hc]; simp)
    rw [hD]
    refine (lapse21_no id ho lot un us ov ao cap P.length day w hf.1 hc).mono ?_
    rintro e w' ⟨rfl, hx⟩
    exact ⟨ao, cap, rfl, hx, (h.exts hx).any⟩

theorem transfer22_any (n : Int) : Calls Try.prog 22 #[rightV id ho lot (.slice ao P.length cap) us un ov, .int .i64 n] w (TRes (transferD ⟨id, ho, lot, us, un, ov, P⟩ n) w) := by
  unfold transferD
  cases hl : liv P.length us ov with
  | false =>
    rw [if_pos rfl]
    refine (transfer22_spent id ho lot un us ov ao cap P.length n w hf.1 hl).mono ?_
    rintro e w' ⟨rfl, hx⟩
    exact ⟨none, 0, rfl, hx, Phs.nil _ _⟩
  | true =>
    rw [if_neg (by simp)]
    by_cases hn : n < 0
    · rw [if_pos hn]
      refine (transfer22_arg id ho lot un us ov ao cap P.length n w hf.1 hl hn).mono ?_
      rintro e w' ⟨rfl, hx⟩
      exact ⟨none, 0, rfl, hx, Phs.nil _ _⟩
    · rw [if_neg hn]
      obtain ⟨rfl, _, _⟩ := (liv_iff _ _ _).1 hl
      refine (transfer22_ok id ho lot un us ao cap P n w h hf hl (by omega)).mono ?_
      rintro e w' ⟨a, k, rfl, hx, h1⟩
      exact ⟨a, k, rfl, hx, h1.any⟩
theorem transfer23_any (n : Int) : Calls Try.prog 23 #[rightV id ho lot (.slice ao P.length cap) us un ov, .int .i64 n] w (TRes (transferD ⟨id, ho, lot, us, un, ov, P⟩ n) w) := by
  unfold transferD
  cases hl : liv P.length us ov with
  | false =>
    rw [if_pos rfl]
    refine (transfer23_spent id ho lot un us ov ao cap P.length n w hf.1 hl).mono ?_
    rintro e w' ⟨rfl, hx⟩
    exact ⟨none, 0, rfl, hx, Phs.nil _ _⟩
  | true =>
    rw [if_neg (by simp)]
    by_cases hn : n < 0
    · rw [if_pos hn]
      refine (transfer23_arg id ho lot un us ov ao cap P.length n w hf.1 hl hn).mono ?_
      rintro e w' ⟨rfl, hx⟩
      exact ⟨none, 0, rfl, hx, Phs.nil _ _⟩
    · rw [if_neg hn]
      refine (transfer23_ok id ho lot un us ov ao cap P.length n w hf.1 hl (by omega)).mono ?_
      rintro e w' ⟨rfl, hx⟩
      exact ⟨ao, cap, rfl, hx, (h.exts hx).any⟩

theorem split17_any (a' b' : Int) : Calls Try.prog 17 #[rightV id ho lot (.slice ao P.length cap) us un ov, .int .i64 a', .int .i64 b'] w (SRes (splitD ⟨id, ho, lot, us, un, ov, P⟩ a' b') w) := by
  unfold splitD
  cases hl : liv P.length us ov with
  | false =>
    rw [if_pos rfl]
    refine (split17_spent id ho lot un us ov ao cap P.length a' b' w hf.1 hl).mono ?_
    rintro e w' ⟨rfl, hx⟩
    exact ⟨none, 0, none, 0, rfl, hx, Phs.nil _ _, Phs.nil _ _⟩
  | true =>
    rw [if_neg (by simp)]
    by_cases hb : a' ≤ us ∨ (P.length : Int) ≤ a' ∨ b' < 0 ∨ b' = id
    · rw [if_pos hb]
      refine (split17_arg id ho lot un us ov ao cap P.length a' b' w hf.1 hl hb).mono ?_
      rintro e w' ⟨rfl, hx⟩
      exact ⟨none, 0, none, 0, rfl, hx, Phs.nil _ _, Phs.nil _ _⟩
    · rw [if_neg hb]
      have hl' := hl
      obtain ⟨rfl, h6, h7⟩ := (liv_iff _ _ _).1 hl
      obtain ⟨u, rfl⟩ : ∃ u : Nat, us = u := ⟨us.toNat, by omega⟩
      obtain ⟨m, rfl⟩ : ∃ m : Nat, a' = m := ⟨a'.toNat, by omega⟩
      rw [Int.toNat_natCast]
      refine (split17_AB id ho lot un u m ao cap P (P.take m) (P.drop m) rfl rfl b' w h hf hl' (by omega) (by omega) (by omega) (by omega)).mono ?_
      rintro e w' ⟨a1, c1, a2, c2, rfl, hx, q1, q2⟩
      exact ⟨a1, c1, a2, c2, rfl, hx, q1.any, q2.any⟩
theorem split24_any (a' b' : Int) : Calls Try.prog 24 #[rightV id ho lot (.slice ao P.length cap) us un ov, .int .i64 a', .int .i64 b'] w (SRes (splitD ⟨id, ho, lot, us, un, ov, P⟩ a' b') w) := by
  unfold splitD
  cases hl : liv P.length us ov with
  | false =>
    rw [if_pos rfl]
    refine (split24_spent id ho lot un us ov ao cap P.length a' b' w hf.1 hl).mono ?_
    rintro e w' ⟨rfl, hx⟩
    exact ⟨none, 0, none, 0, rfl, hx, Phs.nil _ _, Phs.nil _ _⟩
  | true =>
    rw [if_neg (by simp)]
    by_cases hb : a' ≤ us ∨ (P.length : Int) ≤ a' ∨ b' < 0 ∨ b' = id
    · rw [if_pos hb]
      refine (split24_arg id ho lot un us ov ao cap P.length a' b' w hf.1 hl hb).mono ?_
      rintro e w' ⟨rfl, hx⟩
      exact ⟨none, 0, none, 0, rfl, hx, Phs.nil _ _, Phs.nil _ _⟩
    · rw [if_neg hb]
      have hl' := hl
      obtain ⟨rfl, h6, h7⟩ := (liv_iff _ _ _).1 hl
      obtain ⟨u, rfl⟩ : ∃ u : Nat, us = u := ⟨us.toNat, by omega⟩
      obtain ⟨m, rfl⟩ : ∃ m : Nat, a' = m := ⟨a'.toNat, by omega⟩
      rw [Int.toNat_natCast]
      refine (split24_AB id ho lot un u m ao cap P (P.take m) (P.drop m) rfl rfl b' w h hf hl' (by omega) (by omega) (by omega) (by omega)).mono ?_
      rintro e w' ⟨a1, c1, a2, c2, rfl, hx, q1, q2⟩
      exact ⟨a1, c1, a2, c2, rfl, hx, q1.any, q2.any⟩
end
end Go.Proofs.Ytnpjagodbnpahaa
