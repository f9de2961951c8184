/- OptionSplits returns true. No condition. -/
import Derived.Test.YtnpjagodbnpahaaUses
import Derived.Test.YtnpjagodbnpahaaAppend
namespace Go.Proofs.Ytnpjagodbnpahaa
open Go.RowKit
set_option linter.unusedSimpArgs false
set_option linter.unusedVariables false

theorem phs_rows {S : Nat → Prop} {w : World} {v : Value} {P : List PhC} (h : Phs S w v P) : ∃ xs, RowF S 2 w v P.length xs ∧ PhsAt S w xs P ∧ ∀ u ∈ xs, u.oneCell' = true := by
  obtain ⟨xs, h1, h2⟩ := h
  refine ⟨xs, h1, h2, fun u hu => ?_⟩
  obtain ⟨t, ht⟩ := List.getElem?_of_mem hu
  have htl := (List.getElem?_eq_some_iff.1 ht).1
  rw [h1.len] at htl
  have hi : t / 2 < P.length := by omega
  obtain ⟨a, b, e1, e2, ⟨_, aa, ca, rfl, _⟩, ⟨_, ab, cb, rfl, _⟩⟩ := h2 (t / 2) _ (List.getElem?_eq_getElem hi)
  rcases Nat.mod_two_eq_zero_or_one t with hm | hm
  · have : t / 2 * 2 = t := by omega
    rw [this, ht] at e1
    cases e1
    rfl
  · have : t / 2 * 2 + 1 = t := by omega
    rw [this, ht] at e2
    cases e2
    rfl
theorem phs_cat {S S1 S2 : Nat → Prop} {w : World} {v : Value} {P Q : List PhC} {xs ys : List Value} (hr : RowF S 2 w v (P.length + Q.length) (xs ++ ys)) (hx : xs.length = P.length * 2) (h1 : PhsAt S1 w xs P) (h2 : PhsAt S2 w ys Q) : Phs (fun _ => True) w v (P ++ Q) := by
  refine ⟨xs ++ ys, by rw [List.length_append]; exact hr.mono fun _ _ => trivial, fun i p hp => ?_⟩
  by_cases hi : i < P.length
  · rw [List.getElem?_append_left hi] at hp
    obtain ⟨a, b, e1, e2, e3, e4⟩ := h1 i p hp
    exact ⟨a, b, by rw [List.getElem?_append_left (by omega)]; exact e1, by rw [List.getElem?_append_left (by omega)]; exact e2, RowF.mono e3 fun _ _ => trivial, RowF.mono e4 fun _ _ => trivial⟩
  · rw [List.getElem?_append_right (by omega)] at hp
    obtain ⟨a, b, e1, e2, e3, e4⟩ := h2 _ p hp
    refine ⟨a, b, ?_, ?_, RowF.mono e3 fun _ _ => trivial, RowF.mono e4 fun _ _ => trivial⟩
    · rw [List.getElem?_append_right (by omega), hx, ← e1]; congr 1; omega
    · rw [List.getElem?_append_right (by omega), hx, ← e2]; congr 1; omega
theorem ownsRow_litH' {e : TypeId} {base size : Nat} (w : World) (cur : Array Value) (n H : Nat) (hH : w.heap.size = H) (hb : base ≤ H) (hm : n ≤ maxLen) (hs : cur.size = n * size) :
    (w.alloc (.cells cur e)).ownsRow base e size (.slice (some ⟨H, 0, none⟩) n n) n cur.toList := by
  subst hH
  exact ownsRow_lit w cur n hb hm hs

theorem split17_AB (id ho lot un : Int) (u m : Nat) (ao : Option Addr) (cap : Nat) (P A B : List PhC) (hA : P.take m = A) (hB : P.drop m = B) (nid : Int) (w : World) {S : Nat → Prop} (h : Phs S w (.slice ao P.length cap) P) (hf : Fits P) (hl : liv P.length u false = true) (h1 : u < m) (h2 : m < P.length) (h3 : 0 ≤ nid) (h4 : nid ≠ id) :
    Calls Try.prog 17 #[rightV id ho lot (.slice ao P.length cap) u un false, .int .i64 m, .int .i64 nid] w fun e w' => ∃ a1 c1 a2 c2, e = .returned (.tuple #[rightV id ho lot (.slice a1 A.length c1) u un false, rightV nid ho lot (.slice a2 B.length c2) 0 un false, .int .i64 0]) ∧ Exts w w' ∧ Phs (fun b => w.heap.size ≤ b) w' (.slice a1 A.length c1) A ∧ Phs (fun b => w.heap.size ≤ b) w' (.slice a2 B.length c2) B := by
  have e1 : A.length = m := by rw [← hA, List.length_take]; omega
  have e2 : B.length = P.length - m := by rw [← hB, List.length_drop]
  rw [e1, e2]
  subst hA hB
  exact split17_ok id ho lot un u m ao cap P nid w h hf hl h1 h2 h3 h4
theorem left11_0 (id ho lot un : Int) (ao : Option Addr) (cap : Nat) (P : List PhC) (w : World) {S : Nat → Prop} (h : Phs S w (.slice ao P.length cap) P) (hf : Fits P) :
    Calls Try.prog 11 #[rightV id ho lot (.slice ao P.length cap) 0 un false] w fun e w' => ∃ ao' c', e = .returned (.slice ao' P.length c') ∧ Exts w w' ∧ Phs (fun b => w.heap.size ≤ b) w' (.slice ao' P.length c') P :=
  left11_L id ho lot un 0 ao cap P P w rfl (Nat.zero_le _) h hf
theorem same14_00 (w : World) : Calls Try.prog 14 #[right0, right0] w fun e w' => e = .returned (.bool true) ∧ Exts w w' :=
  same14 0 0 0 0 0 false none none 0 0 [] w (Phs.nil (fun _ => True) w) (Phs.nil (fun _ => True) w) ⟨by simp, fun p hp => by simp at hp⟩

set_option maxRecDepth 100000
set_option maxHeartbeats 1000000 in
theorem splits4_many (id ho lot us un : Int) (ov : Bool) (ao : Option Addr) (cap : Nat) (P : List PhC) (at' nid : Int) (w : World) {S : Nat → Prop} (h : Phs S w (.slice ao P.length cap) P) (hf : fewB P = false) :
    Calls Try.prog 4 #[rightV id ho lot (.slice ao P.length cap) us un ov, .int .i64 at', .int .i64 nid] w fun e w' => e = .returned (.bool true) ∧ Exts w w' := by
  have H := Lib.hid h
  have HF := Lib.hid hf
  clear h hf
  go_enter Try.func4, Try.ntmps4
  go_wp2_with (first | (go_at_call 8; refine (small8 _).mono ?_; rintro e w' ⟨rfl, x1, rfl⟩) | (go_at_call 9; refine (few9_eq _ _ _ _ _ _ _ _ P _ _ HF.out (H.out.exts (by repeat (first | exact Exts.refl _ | apply Exts.andR | apply Exts.alloc | apply Exts.wext | apply Exts.drew | apply Exts.drewN)))).mono ?_; rintro e w' ⟨rfl, x2, rfl⟩))
  go_ret
  exact ⟨rfl, (by repeat (first | exact Exts.refl _ | apply Exts.andR | apply Exts.alloc | apply Exts.wext | apply Exts.drew | apply Exts.drewN))⟩

set_option maxHeartbeats 2000000 in
theorem splits4_spent (id ho lot us un : Int) (ov : Bool) (ao : Option Addr) (cap : Nat) (P : List PhC) (at' nid : Int) (w : World) {S : Nat → Prop} (h : Phs S w (.slice ao P.length cap) P) (hf : fewB P = true) (hl : liv P.length us ov = false) :
    Calls Try.prog 4 #[rightV id ho lot (.slice ao P.length cap) us un ov, .int .i64 at', .int .i64 nid] w fun e w' => e = .returned (.bool true) ∧ Exts w w' := by
  have H := Lib.hid h
  have HF := Lib.hid hf
  have HL := Lib.hid hl
  have hn := few_len hf
  clear h hf hl
  go_enter Try.func4, Try.ntmps4
  go_wp2_with (first | (go_at_call 8; refine (small8 _).mono ?_; rintro e w' ⟨rfl, x1, rfl⟩) | (go_at_call 9; refine (few9_eq _ _ _ _ _ _ _ _ P _ _ HF.out (H.out.exts (by repeat (first | exact Exts.refl _ | apply Exts.andR | apply Exts.alloc | apply Exts.wext | apply Exts.drew | apply Exts.drewN)))).mono ?_; rintro e w' ⟨rfl, x2, rfl⟩) | (go_at_call 17; refine (split17_spent _ _ _ _ _ _ _ _ _ _ _ _ (by omega) HL.out).mono ?_; rintro e w' ⟨rfl, x3, rfl⟩) | (go_at_call 14; refine (same14_00 _).mono ?_; rintro e w' ⟨rfl, x4, rfl⟩) | (go_at_call 10; refine (living10_eq _ _ _ _ _ _ _ _ _ false _ (by omega) HL.out).mono ?_; rintro e w' ⟨rfl, x5, rfl⟩))
  go_ret
  exact ⟨rfl, (by repeat (first | exact Exts.refl _ | apply Exts.andR | apply Exts.alloc | apply Exts.wext | apply Exts.drew | apply Exts.drewN))⟩

set_option maxHeartbeats 4000000 in
theorem splits4_arg (id ho lot us un : Int) (ov : Bool) (ao : Option Addr) (cap : Nat) (P : List PhC) (at' nid : Int) (w : World) {S : Nat → Prop} (h : Phs S w (.slice ao P.length cap) P) (hf : fewB P = true) (hl : liv P.length us ov = true) (hb : at' ≤ us ∨ (P.length : Int) ≤ at' ∨ nid < 0 ∨ nid = id) :
    Calls Try.prog 4 #[rightV id ho lot (.slice ao P.length cap) us un ov, .int .i64 at', .int .i64 nid] w fun e w' => e = .returned (.bool true) ∧ Exts w w' := by
  have H := Lib.hid h
  have HF := Lib.hid hf
  have HL := Lib.hid hl
  have HB := Lib.hid hb
  have hn := few_len hf
  clear h hf hl
  by_cases h1 : at' ≤ us
  · have b1 : decide (at' ≤ us) = true := by simpa using h1
    clear hb
    go_enter Try.func4, Try.ntmps4
    go_wp2_with (first | (go_at_call 8; refine (small8 _).mono ?_; rintro e w' ⟨rfl, x1, rfl⟩) | (go_at_call 9; refine (few9_eq _ _ _ _ _ _ _ _ P _ _ HF.out (H.out.exts (by repeat (first | exact Exts.refl _ | apply Exts.andR | apply Exts.alloc | apply Exts.wext | apply Exts.drew | apply Exts.drewN)))).mono ?_; rintro e w' ⟨rfl, x2, rfl⟩) | (go_at_call 17; refine (split17_arg _ _ _ _ _ _ _ _ _ _ _ _ (by omega) HL.out HB.out).mono ?_; rintro e w' ⟨rfl, x3, rfl⟩) | (go_at_call 14; refine (same14_00 _).mono ?_; rintro e w' ⟨rfl, x4, rfl⟩) | (go_at_call 10; refine (living10_eq _ _ _ _ _ _ _ _ _ true _ (by omega) HL.out).mono ?_; rintro e w' ⟨rfl, x5, rfl⟩))
    go_ret
    exact ⟨rfl, (by repeat (first | exact Exts.refl _ | apply Exts.andR | apply Exts.alloc | apply Exts.wext | apply Exts.drew | apply Exts.drewN))⟩
  · have b1 : decide (at' ≤ us) = false := by simpa using h1
    by_cases h2 : (P.length : Int) ≤ at'
    · have b2 : decide ((P.length : Int) ≤ at') = true := by simpa using h2
      clear hb
      go_enter Try.func4, Try.ntmps4
      go_wp2_with (first | (go_at_call 8; refine (small8 _).mono ?_; rintro e w' ⟨rfl, x1, rfl⟩) | (go_at_call 9; refine (few9_eq _ _ _ _ _ _ _ _ P _ _ HF.out (H.out.exts (by repeat (first | exact Exts.refl _ | apply Exts.andR | apply Exts.alloc | apply Exts.wext | apply Exts.drew | apply Exts.drewN)))).mono ?_; rintro e w' ⟨rfl, x2, rfl⟩) | (go_at_call 17; refine (split17_arg _ _ _ _ _ _ _ _ _ _ _ _ (by omega) HL.out HB.out).mono ?_; rintro e w' ⟨rfl, x3, rfl⟩) | (go_at_call 14; refine (same14_00 _).mono ?_; rintro e w' ⟨rfl, x4, rfl⟩) | (go_at_call 10; refine (living10_eq _ _ _ _ _ _ _ _ _ true _ (by omega) HL.out).mono ?_; rintro e w' ⟨rfl, x5, rfl⟩))
      go_ret
      exact ⟨rfl, (by repeat (first | exact Exts.refl _ | apply Exts.andR | apply Exts.alloc | apply Exts.wext | apply Exts.drew | apply Exts.drewN))⟩
    · have b2 : decide ((P.length : Int) ≤ at') = false := by simpa using h2
      by_cases h3 : nid < 0
      · have b3 : decide (nid < 0) = true := by simpa using h3
        clear hb
        go_enter Try.func4, Try.ntmps4
        go_wp2_with (first | (go_at_call 8; refine (small8 _).mono ?_; rintro e w' ⟨rfl, x1, rfl⟩) | (go_at_call 9; refine (few9_eq _ _ _ _ _ _ _ _ P _ _ HF.out (H.out.exts (by repeat (first | exact Exts.refl _ | apply Exts.andR | apply Exts.alloc | apply Exts.wext | apply Exts.drew | apply Exts.drewN)))).mono ?_; rintro e w' ⟨rfl, x2, rfl⟩) | (go_at_call 17; refine (split17_arg _ _ _ _ _ _ _ _ _ _ _ _ (by omega) HL.out HB.out).mono ?_; rintro e w' ⟨rfl, x3, rfl⟩) | (go_at_call 14; refine (same14_00 _).mono ?_; rintro e w' ⟨rfl, x4, rfl⟩) | (go_at_call 10; refine (living10_eq _ _ _ _ _ _ _ _ _ true _ (by omega) HL.out).mono ?_; rintro e w' ⟨rfl, x5, rfl⟩))
        go_ret
        exact ⟨rfl, (by repeat (first | exact Exts.refl _ | apply Exts.andR | apply Exts.alloc | apply Exts.wext | apply Exts.drew | apply Exts.drewN))⟩
      · have b3 : decide (nid < 0) = false := by simpa using h3
        obtain rfl : nid = id := by omega
        clear hb
        go_enter Try.func4, Try.ntmps4
        go_wp2_with (first | (go_at_call 8; refine (small8 _).mono ?_; rintro e w' ⟨rfl, x1, rfl⟩) | (go_at_call 9; refine (few9_eq _ _ _ _ _ _ _ _ P _ _ HF.out (H.out.exts (by repeat (first | exact Exts.refl _ | apply Exts.andR | apply Exts.alloc | apply Exts.wext | apply Exts.drew | apply Exts.drewN)))).mono ?_; rintro e w' ⟨rfl, x2, rfl⟩) | (go_at_call 17; refine (split17_arg _ _ _ _ _ _ _ _ _ _ _ _ (by omega) HL.out (Or.inr (Or.inr (Or.inr rfl)))).mono ?_; rintro e w' ⟨rfl, x3, rfl⟩) | (go_at_call 14; refine (same14_00 _).mono ?_; rintro e w' ⟨rfl, x4, rfl⟩) | (go_at_call 10; refine (living10_eq _ _ _ _ _ _ _ _ _ true _ (by omega) HL.out).mono ?_; rintro e w' ⟨rfl, x5, rfl⟩))
        go_ret
        exact ⟨rfl, (by repeat (first | exact Exts.refl _ | apply Exts.andR | apply Exts.alloc | apply Exts.wext | apply Exts.drew | apply Exts.drewN))⟩

set_option maxHeartbeats 4000000 in
theorem splits4_ok (id ho lot un : Int) (u m : Nat) (ao : Option Addr) (cap : Nat) (P : List PhC) (nid : Int) (w : World) {S : Nat → Prop} (h : Phs S w (.slice ao P.length cap) P) (hf : fewB P = true) (h1 : u < m) (h2 : m < P.length) (h3 : 0 ≤ nid) (h4 : nid ≠ id) :
    Calls Try.prog 4 #[rightV id ho lot (.slice ao P.length cap) u un false, .int .i64 m, .int .i64 nid] w fun e w' => e = .returned (.bool true) ∧ Exts w w' := by
  obtain ⟨i0, hi, hz0, hz1, hz2⟩ := info_parts info33
  have H := Lib.hid h
  have HF := Lib.hid hf
  have HT := Lib.hid (fits_of_few hf)
  have hn := few_len hf
  have hl : liv P.length u false = true := (liv_iff _ _ _).2 ⟨rfl, by omega, by omega⟩
  have HL := Lib.hid hl
  obtain ⟨A, hA⟩ : ∃ A, P.take m = A := ⟨_, rfl⟩
  obtain ⟨B, hB⟩ : ∃ B, P.drop m = B := ⟨_, rfl⟩
  obtain ⟨LA, hLA⟩ : ∃ LA, A.drop u = LA := ⟨_, rfl⟩
  obtain ⟨LP, hLP⟩ : ∃ LP, P.drop u = LP := ⟨_, rfl⟩
  have eA : A.length = m := by rw [← hA, List.length_take]; omega
  have eB : B.length = P.length - m := by rw [← hB, List.length_drop]
  have eLA : LA.length = m - u := by rw [← hLA, List.length_drop, eA]
  have eLP : LP.length = P.length - u := by rw [← hLP, List.length_drop]
  have eLP2 : LP = LA ++ B := by
    rw [← hLP, ← hLA, ← hB, ← hA]
    have := (List.take_append_drop m P).symm
    conv => lhs; rw [this]
    rw [List.drop_append_of_le_length (by rw [List.length_take]; omega)]
  have FA := Lib.hid (by rw [← hA]; have := (fits_of_few hf).part 0 m; rwa [List.drop_zero] at this : Fits A)
  have FB := Lib.hid (by rw [← hB]; exact (fits_of_few hf).drop m : Fits B)
  have FP := Lib.hid (by rw [← hLP]; exact (fits_of_few hf).drop u : Fits LP)
  have HA := Lib.hid hA
  have HB := Lib.hid hB
  have HLA := Lib.hid hLA
  have HLP := Lib.hid hLP
  have HE := Lib.hid eLP2
  have hLl : LP.length = LA.length + B.length := by rw [eLP2, List.length_append]
  have HLl := Lib.hid hLl
  have HLX := Lib.hid (show liv A.length u false = true from (liv_iff _ _ _).2 ⟨rfl, by omega, by omega⟩)
  have HLY := Lib.hid (show liv B.length 0 false = true from (liv_iff _ _ _).2 ⟨rfl, by omega, by omega⟩)
  have nA : A.length ≤ 12 := by omega
  have nB : B.length ≤ 12 := by omega
  have nLA : LA.length ≤ 12 := by omega
  have huA : u ≤ A.length := by omega
  have huP : u ≤ P.length := by omega
  have hsub : ((LA.length : Int) == (m : Int) - (u : Int)) = true := by simp; omega
  clear h hf hl hA hB hLA hLP eA eB eLA eLP eLP2 hLl
  go_enter Try.func4, Try.ntmps4
  go_wp2_with (first | (go_at_call 8; refine (small8 _).mono ?_; rintro e w' ⟨rfl, x1, rfl⟩) | (go_at_call 9; refine (few9_eq _ _ _ _ _ _ _ _ P _ _ HF.out (H.out.exts (by repeat (first | exact Exts.refl _ | apply Exts.andR | apply Exts.alloc | apply Exts.wext | apply Exts.drew | apply Exts.drewN)))).mono ?_; rintro e w' ⟨rfl, x2, rfl⟩) | (go_at_call 17; refine (split17_AB _ _ _ _ u m _ _ P A B HA.out HB.out _ _ (H.out.exts (by repeat (first | exact Exts.refl _ | apply Exts.andR | apply Exts.alloc | apply Exts.wext | apply Exts.drew | apply Exts.drewN))) HT.out HL.out h1 h2 h3 h4).mono ?_; rintro e W3 ⟨ax, cx, ay, cy, rfl, hx3, hpx, hpy⟩; (have C3 := box_all W3 #[.int .i64 id, .int .i64 ho, .int .i64 lot, .slice ao P.length cap, .int .i64 u, .int .i64 un, .bool false] (Exts.trans (by repeat (first | with_reducible exact Exts.refl _ | with_reducible apply Exts.alloc | with_reducible apply Exts.wext)) hx3)); (have c3f := fun i => C3 W3 i (Exts.refl _)); (have l3 := World.block_lt_of_cell? W3 _ (c3f 0)); (have KX := Lib.hid hpx); (have KY := Lib.hid hpy); (have KH := Lib.hid (H.out.exts (Exts.trans (a := w) (by repeat (first | exact Exts.refl _ | apply Exts.andR | apply Exts.alloc | apply Exts.wext | apply Exts.drew | apply Exts.drewN)) hx3))); (have EX := Lib.hid (Exts.trans (a := w) (by repeat (first | exact Exts.refl _ | apply Exts.andR | apply Exts.alloc | apply Exts.wext | apply Exts.drew | apply Exts.drewN)) hx3)); (have C3H := Lib.hid C3); clear C3 hpx hpy hx3) | (go_at_call 11; ((with_reducible refine (left11_L _ _ _ _ u _ _ A LA _ HLA.out huA (Phs.exts KX.out (by repeat (first | exact Exts.refl _ | apply Exts.andR | apply Exts.alloc | apply Exts.wext | apply Exts.drew | apply Exts.drewN))) FA.out).mono ?_); rintro e w' ⟨a4, c4, rfl, ⟨x4, rfl⟩, hp4⟩; (have KA := Lib.hid hp4); clear hp4)) | (go_at_call 11; ((with_reducible refine (left11_0 _ _ _ _ _ _ B _ (Phs.exts KY.out (by repeat (first | exact Exts.refl _ | apply Exts.andR | apply Exts.alloc | apply Exts.wext | apply Exts.drew | apply Exts.drewN))) FB.out).mono ?_); rintro e W5 ⟨a5, c5, rfl, hx5, hp5⟩; (have E5 : Exts W3 W5 := Exts.trans (by repeat (first | exact Exts.refl _ | apply Exts.andR | apply Exts.alloc | apply Exts.wext | apply Exts.drew | apply Exts.drewN)) hx5); (have c3g := fun i => C3H.out W5 i E5); (have C8 := box_all W5 #[.int .i64 id, .int .i64 ho, .int .i64 lot, .slice ax A.length cx, .int .i64 u, .int .i64 un, .bool false] (Exts.trans (by repeat (first | with_reducible exact Exts.refl _ | with_reducible apply Exts.alloc | with_reducible apply Exts.wext)) hx5)); (have C9 := box_all W5 #[.int .i64 nid, .int .i64 ho, .int .i64 lot, .slice ay B.length cy, .int .i64 0, .int .i64 un, .bool false] (Exts.trans (by repeat (first | with_reducible exact Exts.refl _ | with_reducible apply Exts.alloc | with_reducible apply Exts.wext)) hx5)); simp only [wext_size, World.size_alloc] at C8 C9; (have c8f := fun i => C8 W5 i (Exts.refl _)); (have c9f := fun i => C9 W5 i (Exts.refl _)); (have l3' := World.block_lt_of_cell? W5 _ (c3g 0)); (have l8 := World.block_lt_of_cell? W5 _ (c8f 0)); (have l9 := World.block_lt_of_cell? W5 _ (c9f 0)); (have KH5 := Lib.hid (KH.out.exts E5)); (have EX5 := Lib.hid (EX.out.trans E5)); (obtain ⟨xa, ra, pa, oa⟩ := phs_rows (KA.out.exts (Exts.trans (by repeat (first | exact Exts.refl _ | apply Exts.andR | apply Exts.alloc | apply Exts.wext | apply Exts.drew | apply Exts.drewN)) hx5))); (obtain ⟨xb, rb, pb, ob⟩ := phs_rows hp5); (have RA := Lib.hid ra); (have RB := Lib.hid rb); (have PA := Lib.hid pa); (have PB := Lib.hid pb); (have OA := Lib.hid oa); (have OB := Lib.hid ob); clear C8 C9 hp5 hx5 E5 ra rb pa pb oa ob)) | (at_builtin; refine wpList_append_row rfl (.tmp 74) (.tmp 75) 22 rfl W5.heap.size 33 i0 _ 2 48 Try.underlying22 hi hz0 hz1 hz2 rfl (by decide) _ 0 [] rfl (ownsRow_litH' (e := 33) _ #[] 0 _ rfl (Nat.le_refl _) (by decide) rfl) a4 LA.length c4 xa rfl (RowF.exts RA.out (by repeat (first | exact Exts.refl _ | apply Exts.andR | apply Exts.alloc | apply Exts.wext | apply Exts.drew | apply Exts.drewN))) OA.out (by unfold maxLen; omega) (by omega) (by simp) ?_; intro ao1 c1 w1 hown1 hg1; (have e1 := exts_of_grown (W := W5) (by repeat (first | exact Exts.refl _ | apply Exts.andR | apply Exts.alloc | apply Exts.wext | apply Exts.drew | apply Exts.drewN)) hg1 (fun b hb => by have := Option.some.inj (show some W5.heap.size = some b from hb); omega)); clear hg1; (obtain ⟨y1, hy1⟩ := e1); subst hy1; simp only [Nat.zero_add, List.nil_append] at hown1) | (at_builtin; refine wpList_append_row rfl (.tmp 76) (.tmp 77) 22 rfl W5.heap.size 33 i0 _ 2 48 Try.underlying22 hi hz0 hz1 hz2 rfl (by decide) (.slice ao1 LA.length c1) LA.length xa rfl hown1 a5 B.length c5 xb rfl (RowF.exts RB.out (by repeat (first | exact Exts.refl _ | apply Exts.andR | apply Exts.alloc | apply Exts.wext | apply Exts.drew | apply Exts.drewN))) OB.out (by unfold maxLen; omega) (by omega) (by simp) ?_; intro ao2 c2 w2 hown2 hg2; (have e2 := exts_of_grown (W := W5) (by repeat (first | exact Exts.refl _ | apply Exts.andR | apply Exts.alloc | apply Exts.wext | apply Exts.drew | apply Exts.drewN)) hg2 (fun b hb => (hown1.lt b hb).1)); clear hg2 hown1; (obtain ⟨y2, hy2⟩ := e2); subst hy2; (have KS := Lib.hid (phs_cat (RowF.of_owns hown2) RA.out.len (PA.out.exts (by repeat (first | exact Exts.refl _ | apply Exts.andR | apply Exts.alloc | apply Exts.wext | apply Exts.drew | apply Exts.drewN))) (PB.out.exts (by repeat (first | exact Exts.refl _ | apply Exts.andR | apply Exts.alloc | apply Exts.wext | apply Exts.drew | apply Exts.drewN))))); clear hown2) | (go_at_call 10; (with_reducible refine (living10_eq _ _ _ _ _ _ _ _ _ true _ (by omega) HLX.out).mono ?_); rintro e w' ⟨rfl, x6, rfl⟩) | (go_at_call 10; (with_reducible refine (living10_eq _ _ _ _ _ _ _ _ _ true _ (by omega) HLY.out).mono ?_); rintro e w' ⟨rfl, x7, rfl⟩) | (go_at_call 11; ((with_reducible refine (left11_L _ _ _ _ u _ _ P LP _ HLP.out huP (Phs.exts KH5.out (by repeat (first | exact Exts.refl _ | apply Exts.andR | apply Exts.alloc | apply Exts.wext | apply Exts.drew | apply Exts.drewN))) HT.out).mono ?_); rintro e w' ⟨a8, c8, rfl, ⟨x8, rfl⟩, hp8⟩; (try simp only [wext_and] at hp8); (have K8 := Lib.hid hp8); clear hp8)) | (go_at_call 15; ((with_reducible refine (same15_n _ _ _ _ _ _ LP _ HLl.out rfl (HE.out ▸ KS.out.exts (by repeat (first | exact Exts.refl _ | apply Exts.andR | apply Exts.alloc | apply Exts.wext | apply Exts.drew | apply Exts.drewN))) (Phs.exts K8.out (by repeat (first | exact Exts.refl _ | apply Exts.andR | apply Exts.alloc | apply Exts.wext | apply Exts.drew | apply Exts.drewN))) FP.out).mono ?_); rintro e w' ⟨rfl, x9, rfl⟩)))
  go_outline
  go_ret
  exact ⟨rfl, EX5.out.trans (by repeat (first | exact Exts.refl _ | apply Exts.andR | apply Exts.alloc | apply Exts.wext | apply Exts.drew | apply Exts.drewN))⟩
theorem splits4 (id ho lot us un : Int) (ov : Bool) (ao : Option Addr) (cap : Nat) (P : List PhC) (at' nid : Int) (w : World) {S : Nat → Prop} (h : Phs S w (.slice ao P.length cap) P) (_ : I64 id) (_ : I64 us) (_ : I64 at') (_ : I64 nid) :
    Calls Try.prog 4 #[rightV id ho lot (.slice ao P.length cap) us un ov, .int .i64 at', .int .i64 nid] w fun e w' => e = .returned (.bool true) ∧ Exts w w' := by
  cases hf : fewB P with
  | false => exact splits4_many id ho lot us un ov ao cap P at' nid w h hf
  | true =>
    cases hl : liv P.length us ov with
    | false => exact splits4_spent id ho lot us un ov ao cap P at' nid w h hf hl
    | true =>
      by_cases hb : at' ≤ us ∨ (P.length : Int) ≤ at' ∨ nid < 0 ∨ nid = id
      · exact splits4_arg id ho lot us un ov ao cap P at' nid w h hf hl hb
      · obtain ⟨rfl, h6, h7⟩ := (liv_iff _ _ _).1 hl
        obtain ⟨u, rfl⟩ : ∃ u : Nat, us = u := ⟨us.toNat, by omega⟩
        obtain ⟨m, rfl⟩ : ∃ m : Nat, at' = m := ⟨at'.toNat, by omega⟩
        exact splits4_ok id ho lot un u m ao cap P nid w h hf (by omega) (by omega) (by omega) (by omega)
end Go.Proofs.Ytnpjagodbnpahaa
