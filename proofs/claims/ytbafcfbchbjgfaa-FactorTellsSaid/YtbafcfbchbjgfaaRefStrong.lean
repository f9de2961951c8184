/- strong, in and Atleast of the reference of chapter 38. No condition. -/
import Derived.Test.YtbafcfbchbjgfaaRefRight
import Derived.Test.YtbafcfbchbjgfaaSmall8
import Derived.Test.YtbafcfbchbjgfaaLawPlain
namespace Go.Proofs.Ytbafcfbchbjgfaa
open Go.RowKit
set_option linter.unusedSimpArgs false
set_option linter.unusedVariables false
theorem right20_D {S : Nat → Prop} (lo : Option Addr) (n c : Nat) (D : List Dm) (r : Bool) (w : World) (h : Dims S w lo n c D) (hr : rightD D = r) :
    Calls Try.prog 20 #[.slice lo n c] w fun e w' => e = .returned (.bool r) ∧ Exts w w' := by
  subst hr
  exact right20 lo n c D w h
theorem right_one (V : Int) (ps : List Pr) : rightD [(V, ps)] = (closedD V ps).2 := by simp [rightD]
theorem rel_in {m : Nat} {ps : List Pr} (hin : ∀ p ∈ ps, 0 ≤ p.1 ∧ p.1 < (m : Int) ∧ 0 ≤ p.2 ∧ p.2 < (m : Int)) : ∀ x y, pairRel ps x y = true → x < m ∧ y < m := fun x y h => by
  simp only [pairRel, List.any_eq_true, Bool.and_eq_true, beq_iff_eq] at h
  obtain ⟨p, hp, h1, h2⟩ := h
  have := hin p hp
  omega
theorem way42_0 {S : Nat → Prop} (m : Nat) (po : Option Addr) (n c : Nat) (ps : List Pr) (a b r : Nat) (w : World) (h : Prs S w po n c ps) (hm12 : m ≤ 12) (hin : ∀ p ∈ ps, 0 ≤ p.1 ∧ p.1 < (m : Int) ∧ 0 ≤ p.2 ∧ p.2 < (m : Int)) (ha : a < m) (hr : wayN (pairRel ps) m 0 a b = r) :
    Calls Try.prog 42 #[.agg #[.int .i64 m, .slice po n c], .int .i64 a, .int .i64 b, .int .i64 0] w fun e w' => e = .returned (.int .i64 r) ∧ Exts w w' := way42_D m po n c ps a b 0 r w h hm12 hin ha (Nat.zero_le _) hr
set_option maxRecDepth 100000
set_option maxHeartbeats 2000000
theorem strong37 {S : Nat → Prop} (m : Nat) (po : Option Addr) (n c : Nat) (ps : List Pr) (a b : Nat) (w : World) (h : Prs S w po n c ps) (hm12 : m ≤ 12) (hin : ∀ p ∈ ps, 0 ≤ p.1 ∧ p.1 < (m : Int) ∧ 0 ≤ p.2 ∧ p.2 < (m : Int)) (ha : a < m) :
    Calls Try.prog 37 #[.agg #[.int .i64 m, .slice po n c], .int .i64 a, .int .i64 b] w fun e w' => e = .returned (.bool (diagR (clR (pairRel ps)) m a b)) ∧ Exts w w' := by
  have hs := strong_rel (b := b) (rel_in hin) ha
  have H := Lib.hid h
  have HIN := Lib.hid hin
  obtain ⟨r, hr⟩ : ∃ r, wayN (pairRel ps) m 0 a b = r := ⟨_, rfl⟩
  have hr12 : r ≤ m := by rw [← hr]; exact wayN_le _ _ _ _ _
  rw [hr] at hs
  rw [← hs]
  have HW := Lib.hid hr
  clear h hin hr hs
  by_cases hab : a = b
  · subst hab
    go_enter Try.func37, Try.ntmps37
    go_wp2_with (first | (go_at_call 42; ((with_reducible refine (way42_0 _ _ _ _ ps _ _ r _ (RowF.exts H.out (by repeat (first | exact Exts.refl _ | apply Exts.andR | apply Exts.alloc | apply Exts.wext | apply Exts.drew | apply Exts.drewN))) hm12 HIN.out ha HW.out).mono ?_); rintro e w' ⟨rfl, x1, rfl⟩)))
    go_ret
    exact ⟨by simp, (by repeat (first | exact Exts.refl _ | apply Exts.andR | apply Exts.alloc | apply Exts.wext | apply Exts.drew | apply Exts.drewN))⟩
  · have q1 : ((a : Int) == (b : Int)) = false := by simp; omega
    have q2 : (a == b) = false := by simpa using hab
    rw [q2, Bool.false_or]
    clear hab
    by_cases hr0 : 0 < r
    · have q3 : decide ((0 : Int) < (r : Int)) = true := by simp; omega
      have q4 : decide (0 < r) = true := by simp; omega
      have HQ := Lib.hid q4
      clear hr0
      go_enter Try.func37, Try.ntmps37
      go_wp2_with (first | (go_at_call 42; ((with_reducible refine (way42_0 _ _ _ _ ps _ _ r _ (RowF.exts H.out (by repeat (first | exact Exts.refl _ | apply Exts.andR | apply Exts.alloc | apply Exts.wext | apply Exts.drew | apply Exts.drewN))) hm12 HIN.out ha HW.out).mono ?_); rintro e w' ⟨rfl, x1, rfl⟩)))
      go_ret
      exact ⟨by simp [HQ.out], (by repeat (first | exact Exts.refl _ | apply Exts.andR | apply Exts.alloc | apply Exts.wext | apply Exts.drew | apply Exts.drewN))⟩
    · have q3 : decide ((0 : Int) < (r : Int)) = false := by simp; omega
      have q4 : decide (0 < r) = false := by simp; omega
      have HQ := Lib.hid q4
      clear hr0
      go_enter Try.func37, Try.ntmps37
      go_wp2_with (first | (go_at_call 42; ((with_reducible refine (way42_0 _ _ _ _ ps _ _ r _ (RowF.exts H.out (by repeat (first | exact Exts.refl _ | apply Exts.andR | apply Exts.alloc | apply Exts.wext | apply Exts.drew | apply Exts.drewN))) hm12 HIN.out ha HW.out).mono ?_); rintro e w' ⟨rfl, x1, rfl⟩)))
      go_ret
      exact ⟨by simp [HQ.out], (by repeat (first | exact Exts.refl _ | apply Exts.andR | apply Exts.alloc | apply Exts.wext | apply Exts.drew | apply Exts.drewN))⟩
def inVV (V aa bb : Int) : Bool := inV V aa && inV V bb
theorem dims_lit {S : Nat → Prop} {W : World} {b c n : Nat} {po : Option Addr} {ps : List Pr} {V : Int} (hb : b = W.heap.size) (hp : Prs S W po n c ps) : Dims (fun _ => True) (W.alloc (.cells #[.int .i64 V, .slice po n c] 24)) (some ⟨b, 0, none⟩) 1 1 [(V, ps)] := by
  subst hb
  refine dims_one (t := 24) (fr := (0, 0)) (V := V) (ps := ps) (n := n) (po := po) (c := c) ?_ ((RowF.exts hp ((Exts.refl W).alloc _)).mono fun _ _ => trivial)
  rw [heap_alloc_if, if_neg (Nat.lt_irrefl _), if_pos rfl]
theorem in38 {S : Nat → Prop} (V : Int) (po : Option Addr) (n c : Nat) (ps : List Pr) (aa bb : Int) (w : World) (h : Prs S w po n c ps) :
    Calls Try.prog 38 #[.agg #[.int .i64 V, .slice po n c], .int .i64 aa, .int .i64 bb] w fun e w' => e = .returned (.bool ((closedD V ps).2 && inVV V aa bb)) ∧ Exts w w' := by
  have H := Lib.hid h
  obtain ⟨r, hr⟩ : ∃ r, (closedD V ps).2 = r := ⟨_, rfl⟩
  rw [hr]
  have HR := Lib.hid ((right_one V ps).trans hr)
  clear h hr
  cases r with
  | false =>
    have HI := Lib.hid (show (false && inVV V aa bb) = false from rfl)
    go_enter Try.func38, Try.ntmps38
    go_wp2_with (first | (go_at_call 20; ((with_reducible refine (right20_D _ _ _ [(V, ps)] _ _ (dims_lit (by simp) (RowF.exts H.out (by repeat (first | exact Exts.refl _ | apply Exts.andR | apply Exts.alloc | apply Exts.wext | apply Exts.drew | apply Exts.drewN)))) HR.out).mono ?_); rintro e w' ⟨rfl, x1, rfl⟩)))
    go_ret
    exact ⟨by rw [HI.out]; rfl, (by repeat (first | exact Exts.refl _ | apply Exts.andR | apply Exts.alloc | apply Exts.wext | apply Exts.drew | apply Exts.drewN))⟩
  | true =>
    by_cases p1 : 0 ≤ aa
    · by_cases p2 : aa < V
      · by_cases p3 : 0 ≤ bb
        · by_cases p4 : bb < V
          · have q1 : decide (0 ≤ aa) = true := by simpa using p1
            have q2 : decide (aa < V) = true := by simpa using p2
            have q3 : decide (0 ≤ bb) = true := by simpa using p3
            have q4 : decide (bb < V) = true := by simpa using p4
            have HI := Lib.hid (show (true && inVV V aa bb) = true by simp [inVV, inV]; omega)
            clear p1 p2 p3 p4
            go_enter Try.func38, Try.ntmps38
            go_wp2_with (first | (go_at_call 20; ((with_reducible refine (right20_D _ _ _ [(V, ps)] _ _ (dims_lit (by simp) (RowF.exts H.out (by repeat (first | exact Exts.refl _ | apply Exts.andR | apply Exts.alloc | apply Exts.wext | apply Exts.drew | apply Exts.drewN)))) HR.out).mono ?_); rintro e w' ⟨rfl, x1, rfl⟩)))
            go_ret
            exact ⟨by rw [HI.out]; rfl, (by repeat (first | exact Exts.refl _ | apply Exts.andR | apply Exts.alloc | apply Exts.wext | apply Exts.drew | apply Exts.drewN))⟩
          · have q1 : decide (0 ≤ aa) = true := by simpa using p1
            have q2 : decide (aa < V) = true := by simpa using p2
            have q3 : decide (0 ≤ bb) = true := by simpa using p3
            have q4 : decide (bb < V) = false := by simpa using p4
            have HI := Lib.hid (show (true && inVV V aa bb) = false by simp [inVV, inV]; omega)
            clear p1 p2 p3 p4
            go_enter Try.func38, Try.ntmps38
            go_wp2_with (first | (go_at_call 20; ((with_reducible refine (right20_D _ _ _ [(V, ps)] _ _ (dims_lit (by simp) (RowF.exts H.out (by repeat (first | exact Exts.refl _ | apply Exts.andR | apply Exts.alloc | apply Exts.wext | apply Exts.drew | apply Exts.drewN)))) HR.out).mono ?_); rintro e w' ⟨rfl, x1, rfl⟩)))
            go_ret
            exact ⟨by rw [HI.out]; rfl, (by repeat (first | exact Exts.refl _ | apply Exts.andR | apply Exts.alloc | apply Exts.wext | apply Exts.drew | apply Exts.drewN))⟩
        · have q1 : decide (0 ≤ aa) = true := by simpa using p1
          have q2 : decide (aa < V) = true := by simpa using p2
          have q3 : decide (0 ≤ bb) = false := by simpa using p3
          have HI := Lib.hid (show (true && inVV V aa bb) = false by simp [inVV, inV]; omega)
          clear p1 p2 p3
          go_enter Try.func38, Try.ntmps38
          go_wp2_with (first | (go_at_call 20; ((with_reducible refine (right20_D _ _ _ [(V, ps)] _ _ (dims_lit (by simp) (RowF.exts H.out (by repeat (first | exact Exts.refl _ | apply Exts.andR | apply Exts.alloc | apply Exts.wext | apply Exts.drew | apply Exts.drewN)))) HR.out).mono ?_); rintro e w' ⟨rfl, x1, rfl⟩)))
          go_ret
          exact ⟨by rw [HI.out]; rfl, (by repeat (first | exact Exts.refl _ | apply Exts.andR | apply Exts.alloc | apply Exts.wext | apply Exts.drew | apply Exts.drewN))⟩
      · have q1 : decide (0 ≤ aa) = true := by simpa using p1
        have q2 : decide (aa < V) = false := by simpa using p2
        have HI := Lib.hid (show (true && inVV V aa bb) = false by simp [inVV, inV]; omega)
        clear p1 p2
        go_enter Try.func38, Try.ntmps38
        go_wp2_with (first | (go_at_call 20; ((with_reducible refine (right20_D _ _ _ [(V, ps)] _ _ (dims_lit (by simp) (RowF.exts H.out (by repeat (first | exact Exts.refl _ | apply Exts.andR | apply Exts.alloc | apply Exts.wext | apply Exts.drew | apply Exts.drewN)))) HR.out).mono ?_); rintro e w' ⟨rfl, x1, rfl⟩)))
        go_ret
        exact ⟨by rw [HI.out]; rfl, (by repeat (first | exact Exts.refl _ | apply Exts.andR | apply Exts.alloc | apply Exts.wext | apply Exts.drew | apply Exts.drewN))⟩
    · have q1 : decide (0 ≤ aa) = false := by simpa using p1
      have HI := Lib.hid (show (true && inVV V aa bb) = false by simp [inVV, inV]; omega)
      clear p1
      go_enter Try.func38, Try.ntmps38
      go_wp2_with (first | (go_at_call 20; ((with_reducible refine (right20_D _ _ _ [(V, ps)] _ _ (dims_lit (by simp) (RowF.exts H.out (by repeat (first | exact Exts.refl _ | apply Exts.andR | apply Exts.alloc | apply Exts.wext | apply Exts.drew | apply Exts.drewN)))) HR.out).mono ?_); rintro e w' ⟨rfl, x1, rfl⟩)))
      go_ret
      exact ⟨by rw [HI.out]; rfl, (by repeat (first | exact Exts.refl _ | apply Exts.andR | apply Exts.alloc | apply Exts.wext | apply Exts.drew | apply Exts.drewN))⟩
theorem in38_D {S : Nat → Prop} (V : Int) (po : Option Addr) (n c : Nat) (ps : List Pr) (aa bb : Int) (r : Bool) (w : World) (h : Prs S w po n c ps) (hr : ((closedD V ps).2 && inVV V aa bb) = r) :
    Calls Try.prog 38 #[.agg #[.int .i64 V, .slice po n c], .int .i64 aa, .int .i64 bb] w fun e w' => e = .returned (.bool r) ∧ Exts w w' := by
  subst hr
  exact in38 V po n c ps aa bb w h
theorem strong37_D {S : Nat → Prop} (m : Nat) (po : Option Addr) (n c : Nat) (ps : List Pr) (a b : Nat) (g : Rel) (r : Bool) (w : World) (h : Prs S w po n c ps) (hg : closedD (m : Int) ps = (g, true)) (ha : a < m) (hr : g a b = r) :
    Calls Try.prog 37 #[.agg #[.int .i64 m, .slice po n c], .int .i64 a, .int .i64 b] w fun e w' => e = .returned (.bool r) ∧ Exts w w' := by
  subst hr
  obtain ⟨hv, _, rfl⟩ := closed_valid hg
  obtain ⟨⟨h1, h2⟩, _, h3⟩ := valid_in hv
  exact strong37 m po n c ps a b w h (by omega) h3 ha
theorem atleast22 {S : Nat → Prop} (V : Int) (po : Option Addr) (n c : Nat) (ps : List Pr) (aa bb : Int) (w : World) (h : Prs S w po n c ps) :
    Calls Try.prog 22 #[.agg #[.int .i64 V, .slice po n c], .int .i64 aa, .int .i64 bb] w fun e w' => e = .returned (.bool (atD V ps aa bb)) ∧ Exts w w' := by
  have H := Lib.hid h
  clear h
  obtain ⟨r, hr⟩ : ∃ r, ((closedD V ps).2 && inVV V aa bb) = r := ⟨_, rfl⟩
  have HI := Lib.hid hr
  cases r with
  | false =>
    have HR := Lib.hid (show atD V ps aa bb = false by
      unfold atD
      rw [← Bool.and_assoc (inV V aa), ← Bool.and_assoc]
      show ((closedD V ps).2 && inVV V aa bb && _) = false
      rw [hr]; rfl)
    clear hr
    go_enter Try.func22, Try.ntmps22
    go_wp2_with (first | (go_at_call 38; ((with_reducible refine (in38_D _ _ _ _ ps _ _ _ _ (RowF.exts H.out (by repeat (first | exact Exts.refl _ | apply Exts.andR | apply Exts.alloc | apply Exts.wext | apply Exts.drew | apply Exts.drewN))) HI.out).mono ?_); rintro e w' ⟨rfl, x1, rfl⟩)))
    go_ret
    exact ⟨by rw [HR.out]; rfl, (by repeat (first | exact Exts.refl _ | apply Exts.andR | apply Exts.alloc | apply Exts.wext | apply Exts.drew | apply Exts.drewN))⟩
  | true =>
    have hr2 := hr
    rw [Bool.and_eq_true] at hr2
    obtain ⟨g, hg⟩ := closed_ok hr2.1
    obtain ⟨⟨a1, a2⟩, a3, a4⟩ : (0 ≤ aa ∧ aa < V) ∧ 0 ≤ bb ∧ bb < V := by
      have := hr2.2
      simpa [inVV, inV] using this
    obtain ⟨m, rfl⟩ : ∃ m : Nat, V = m := ⟨V.toNat, by omega⟩
    obtain ⟨u, rfl⟩ : ∃ u : Nat, aa = u := ⟨aa.toNat, by omega⟩
    obtain ⟨v, rfl⟩ : ∃ v : Nat, bb = v := ⟨bb.toNat, by omega⟩
    have hu : u < m := by omega
    obtain ⟨s, hs⟩ : ∃ s, g u v = s := ⟨_, rfl⟩
    have HS := Lib.hid hs
    have HG := Lib.hid hg
    have HR := Lib.hid (show atD (m : Int) ps u v = s by
      unfold atD
      rw [← Bool.and_assoc (inV (m : Int) u), ← Bool.and_assoc]
      show ((closedD (m : Int) ps).2 && inVV (m : Int) u v && _) = s
      rw [hr, hg]
      simpa using hs)
    clear hr hr2 hg hs
    go_enter Try.func22, Try.ntmps22
    go_wp2_with (first | (go_at_call 38; ((with_reducible refine (in38_D _ _ _ _ ps _ _ _ _ (RowF.exts H.out (by repeat (first | exact Exts.refl _ | apply Exts.andR | apply Exts.alloc | apply Exts.wext | apply Exts.drew | apply Exts.drewN))) HI.out).mono ?_); rintro e w' ⟨rfl, x1, rfl⟩)) | (go_at_call 37; ((with_reducible refine (strong37_D _ _ _ _ ps _ _ g _ _ (RowF.exts H.out (by repeat (first | exact Exts.refl _ | apply Exts.andR | apply Exts.alloc | apply Exts.wext | apply Exts.drew | apply Exts.drewN))) HG.out hu HS.out).mono ?_); rintro e w' ⟨rfl, x2, rfl⟩)))
    go_ret
    exact ⟨by rw [HR.out]; first | rfl | (simp; done), (by repeat (first | exact Exts.refl _ | apply Exts.andR | apply Exts.alloc | apply Exts.wext | apply Exts.drew | apply Exts.drewN))⟩
end Go.Proofs.Ytbafcfbchbjgfaa
