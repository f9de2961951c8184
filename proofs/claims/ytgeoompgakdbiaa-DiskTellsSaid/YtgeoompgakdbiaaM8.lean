/- Lemmas that the laws of this seat share, 4 texts in one: Same, Two, Pair, Small. No condition of their own. -/
import Derived.Test.YtgeoompgakdbiaaM7
import Derived.Deep.RegionHeld3
/- same. -/
namespace Go.Proofs.Ytgeoompgakdbiaa
open Go.RowKit Go.Maps
set_option linter.unusedSimpArgs false
set_option linter.unusedVariables false
set_option maxRecDepth 100000
def sameA (M N : Mod) (f : Int) : Bool := (readD M f 0 16777216).1.toList == (readD N f 0 16777216).1.toList && ((readD M f 0 16777216).2 == (readD N f 0 16777216).2 && (M.files f).1.size == (N.files f).1.size)
def sameB (M N : Mod) (l : List ActP) : Bool := M.down == N.down && l.all fun a => sameA M N a.f
set_option maxHeartbeats 1000000
theorem same28 {S : Nat → Prop} {w : World} {b1 b2 c1 c2 : Nat} {M N : Mod} {O1 S1 O2 S2 : Nat → Prop} (h1 : DiskAt w b1 M O1 S1 c1) (h2 : DiskAt w b2 N O2 S2 c2) {v : Value} {l : List ActP} (h : Acts S w v l) : Calls Try.prog 28 #[.pointer (some ⟨b1, 0, none⟩), .pointer (some ⟨b2, 0, none⟩), v] w fun e w' => e = .returned (.bool (sameB M N l)) ∧ Exts w w' := by
  obtain ⟨ao, n, c, rfl, hn, hm⟩ := h.shape
  unfold maxLen at hm
  have H := Lib.hid h
  have HN := Lib.hid hn
  have i0 : I64 0 := by constructor <;> decide
  have i1 : I64 16777216 := by constructor <;> decide
  clear h hn
  obtain ⟨d1, hd1⟩ : ∃ d, M.down = d := ⟨_, rfl⟩
  obtain ⟨d2, hd2⟩ : ∃ d, N.down = d := ⟨_, rfl⟩
  have k1 := down14 h1
  have k2 := down14 h2
  rw [hd1] at k1
  rw [hd2] at k2
  by_cases hdd : d1 = d2
  · subst hdd
    go_enter Try.func28, Try.ntmps28
    go_wp2_with (first | (go_at_call 14; ((with_reducible refine Calls.mono k1 ?_); rintro e w' ⟨rfl, rfl⟩)) | (go_at_call 14; ((with_reducible refine Calls.mono k2 ?_); rintro e w' ⟨rfl, rfl⟩)))
    go_loopw [7] (fun si wr => ∃ k : Nat, si = .int .i64 k ∧ k ≤ n ∧ Exts w wr ∧ ((l.take k).all fun a => sameA M N a.f) = true) (fun si _ => n - (intOf si).toNat)
    case atStart => exact ⟨0, rfl, Nat.zero_le _, Exts.refl _, rfl⟩
    case round =>
      obtain ⟨k, rfl, hk, hx, hall⟩ := hrel
      have HX := Lib.hid hx
      have HALL := Lib.hid hall
      clear hall
      by_cases hlt : k < n
      · obtain ⟨a, ha⟩ : ∃ a, l[k]? = some a := ⟨_, List.getElem?_eq_getElem (by rw [← HN.out]; exact hlt)⟩
        obtain ⟨b, off, ko, kc, rfl, lb, e0, e1, e2, e3, e4, _⟩ := H.out.get ha
        have hf64 := (H.out.1 a (List.mem_of_getElem? ha)).2.1
        have g1 := h1.exts hx
        have g2 := h2.exts hx
        have r1 := read20 g1 a.f 0 16777216 i0 i1
        have r2 := read20 g2 a.f 0 16777216 i0 i1
        obtain ⟨x, hx1⟩ : ∃ x, readD M a.f 0 16777216 = x := ⟨_, rfl⟩
        obtain ⟨y, hy1⟩ : ∃ y, readD N a.f 0 16777216 = y := ⟨_, rfl⟩
        rw [hx1] at r1
        rw [hy1] at r2
        have e1' := Exts.cell hx e1
        have lbr : b < wr.heap.size := World.block_lt_of_cell? wr _ e1'
        have HG1 := Lib.hid g1
        have HG2 := Lib.hid g2
        have HX1 := Lib.hid hx1
        have HY1 := Lib.hid hy1
        clear e0 e1 e2 e3 e4 g1 g2 h1 h2 k1 k2 hx hx1 hy1
        have HTK := Lib.hid (show l.take (k + 1) = l.take k ++ [a] by rw [List.take_add_one, ha]; rfl)
        have HSAME := Lib.hid (show (x.1.toList == y.1.toList) = true → (x.2 == y.2) = true → (M.files a.f).1.size = (N.files a.f).1.size → sameA M N a.f = true from fun p1 p2 p3 => by
          unfold sameA
          rw [HX1.out, HY1.out, p1, p2, p3]
          simp)
        have HBAD := Lib.hid (show (x.1.toList == y.1.toList) = false ∨ (x.2 == y.2) = false ∨ ¬ (M.files a.f).1.size = (N.files a.f).1.size → sameB M N l = false from fun hp => by
          have hs : sameA M N a.f = false := by
            unfold sameA
            rw [HX1.out, HY1.out]
            rcases hp with h | h | h
            · rw [h]; rfl
            · rw [h]; simp
            · have : ((M.files a.f).1.size == (N.files a.f).1.size) = false := by rw [beq_eq_false_iff_ne]; exact h
              rw [this]; simp
          unfold sameB
          have : (l.all fun a => sameA M N a.f) = false := by
            rw [List.all_eq_false]
            exact ⟨a, List.mem_of_getElem? ha, by rw [hs]; decide⟩
          rw [this]
          simp)
        clear ha
        by_cases z1 : x.1.toList = y.1.toList
        · have q1 : (x.1.toList == y.1.toList) = true := by rw [beq_iff_eq]; exact z1
          by_cases z2 : x.2 = y.2
          · have q2 : (x.2 == y.2) = true := by simpa using z2
            have q2' : (x.2 != y.2) = false := by simpa using z2
            by_cases z3 : (M.files a.f).1.size = (N.files a.f).1.size
            · have q3 : (((M.files a.f).1.size : Int) == ((N.files a.f).1.size : Int)) = true := by rw [z3]; simp
              have q3' : (((M.files a.f).1.size : Int) != ((N.files a.f).1.size : Int)) = false := by rw [z3]; simp
              have HZ3 := Lib.hid z3
              clear z1 z2 z3
              go_wp2_with (first | (go_at_call 20; ((with_reducible refine Calls.mono r1 ?_); rintro e w' ⟨rfl, rfl⟩)) | (go_at_call 20; ((with_reducible refine Calls.mono r2 ?_); rintro e w' ⟨rfl, rfl⟩)))
              go_region_held3 (fun w' => w'.cell? ⟨b, off + k * 5 + 1, none⟩ = some (.int .i64 a.f)) (first | assumption | (simp [go_sem, lbr, e1']; done)) ((first | (go_at_call 16; ((with_reducible refine (size16 (HG1.out.exts (by repeat (first | exact Exts.refl _ | apply Exts.andR | apply Exts.alloc | apply Exts.wext | apply Exts.drew | apply Exts.drewN))) a.f hf64).mono ?_); rintro e w' ⟨rfl, rfl⟩)) | (go_at_call 16; ((with_reducible refine (size16 (HG2.out.exts (by repeat (first | exact Exts.refl _ | apply Exts.andR | apply Exts.alloc | apply Exts.wext | apply Exts.drew | apply Exts.drewN))) a.f hf64).mono ?_); rintro e w' ⟨rfl, rfl⟩))))
              all_goals
                go_wp2
                exact ⟨⟨k + 1, by go_num, by omega, HX.out.trans (by repeat (first | exact Exts.refl _ | apply Exts.andR | apply Exts.alloc | apply Exts.wext | apply Exts.drew | apply Exts.drewN)), by rw [HTK.out, List.all_append, HALL.out]; simp [HSAME.out (by rw [q1]) (by rw [q2]) HZ3.out]⟩, by simp [intOf]; omega⟩
            · have q3 : (((M.files a.f).1.size : Int) == ((N.files a.f).1.size : Int)) = false := by simp; omega
              have q3' : (((M.files a.f).1.size : Int) != ((N.files a.f).1.size : Int)) = true := by simp; omega
              have HZ3 := Lib.hid z3
              clear z1 z2 z3
              go_wp2_with (first | (go_at_call 20; ((with_reducible refine Calls.mono r1 ?_); rintro e w' ⟨rfl, rfl⟩)) | (go_at_call 20; ((with_reducible refine Calls.mono r2 ?_); rintro e w' ⟨rfl, rfl⟩)))
              go_region_held3 (fun w' => w'.cell? ⟨b, off + k * 5 + 1, none⟩ = some (.int .i64 a.f)) (first | assumption | (simp [go_sem, lbr, e1']; done)) ((first | (go_at_call 16; ((with_reducible refine (size16 (HG1.out.exts (by repeat (first | exact Exts.refl _ | apply Exts.andR | apply Exts.alloc | apply Exts.wext | apply Exts.drew | apply Exts.drewN))) a.f hf64).mono ?_); rintro e w' ⟨rfl, rfl⟩)) | (go_at_call 16; ((with_reducible refine (size16 (HG2.out.exts (by repeat (first | exact Exts.refl _ | apply Exts.andR | apply Exts.alloc | apply Exts.wext | apply Exts.drew | apply Exts.drewN))) a.f hf64).mono ?_); rintro e w' ⟨rfl, rfl⟩))))
              all_goals
                go_wp2
                go_ret
                rw [HBAD.out (Or.inr (Or.inr HZ3.out))]
                exact ⟨rfl, HX.out.trans (by repeat (first | exact Exts.refl _ | apply Exts.andR | apply Exts.alloc | apply Exts.wext | apply Exts.drew | apply Exts.drewN))⟩
          · have q2 : (x.2 == y.2) = false := by simpa using z2
            have q2' : (x.2 != y.2) = true := by simpa using z2
            clear z1 z2
            go_wp2_with (first | (go_at_call 20; ((with_reducible refine Calls.mono r1 ?_); rintro e w' ⟨rfl, rfl⟩)) | (go_at_call 20; ((with_reducible refine Calls.mono r2 ?_); rintro e w' ⟨rfl, rfl⟩)))
            go_region
            all_goals
              go_wp2
              go_ret
              rw [HBAD.out (Or.inr (Or.inl q2))]
              exact ⟨rfl, HX.out.trans (by repeat (first | exact Exts.refl _ | apply Exts.andR | apply Exts.alloc | apply Exts.wext | apply Exts.drew | apply Exts.drewN))⟩
        · have q1 : (x.1.toList == y.1.toList) = false := by rw [beq_eq_false_iff_ne]; exact z1
          clear z1
          go_wp2_with (first | (go_at_call 20; ((with_reducible refine Calls.mono r1 ?_); rintro e w' ⟨rfl, rfl⟩)) | (go_at_call 20; ((with_reducible refine Calls.mono r2 ?_); rintro e w' ⟨rfl, rfl⟩)))
          go_region
          all_goals
            go_wp2
            go_ret
            rw [HBAD.out (Or.inl q1)]
            exact ⟨rfl, HX.out.trans (by repeat (first | exact Exts.refl _ | apply Exts.andR | apply Exts.alloc | apply Exts.wext | apply Exts.drew | apply Exts.drewN))⟩
      · obtain rfl : k = n := by omega
        have hall : (l.all fun a => sameA M N a.f) = true := by
          have := HALL.out
          rwa [List.take_of_length_le (by rw [HN.out]; exact Nat.le_refl _)] at this
        have HS := Lib.hid (show sameB M N l = true by unfold sameB; rw [hd1, hd2, hall]; simp)
        clear hall h1 h2 k1 k2 hx
        go_wp2
        go_ret
        rw [HS.out]
        exact ⟨rfl, HX.out⟩
  · have HS := Lib.hid (show sameB M N l = false by unfold sameB; rw [hd1, hd2]; have : (d1 == d2) = false := by { rw [beq_eq_false_iff_ne]; exact hdd }; rw [this]; rfl)
    have q : (d1 == d2) = false := by rw [beq_eq_false_iff_ne]; exact hdd
    have q' : (d1 != d2) = true := by simpa using hdd
    clear h1 h2
    go_enter Try.func28, Try.ntmps28
    go_wp2_with (first | (go_at_call 14; ((with_reducible refine Calls.mono k1 ?_); rintro e w' ⟨rfl, rfl⟩)) | (go_at_call 14; ((with_reducible refine Calls.mono k2 ?_); rintro e w' ⟨rfl, rfl⟩)))
    go_ret
    rw [HS.out]
    exact ⟨rfl, Exts.refl _⟩
end Go.Proofs.Ytgeoompgakdbiaa

/- Two disks beside. -/
namespace Go.Proofs.Ytgeoompgakdbiaa
open Go.RowKit Go.Maps
set_option linter.unusedSimpArgs false
set_option linter.unusedVariables false
/-- Two disks, all whose blocks are new since the heap was H long; neither writes what the other holds. -/
def Two (H : Nat) (w : World) (b1 : Nat) (M1 : Mod) (c1 b2 : Nat) (M2 : Mod) (c2 : Nat) : Prop :=
  ∃ O1 S1 O2 S2, DiskAt w b1 M1 O1 S1 c1 ∧ DiskAt w b2 M2 O2 S2 c2 ∧ (∀ k, O1 k → H ≤ k) ∧ (∀ k, S1 k → H ≤ k) ∧ (∀ k, O2 k → H ≤ k) ∧ (∀ k, S2 k → H ≤ k) ∧ (∀ k, O1 k → ¬ O2 k) ∧ (∀ k, O1 k → ¬ S2 k) ∧ (∀ k, O2 k → ¬ S1 k)
theorem Two.swap {H : Nat} {w : World} {b1 c1 b2 c2 : Nat} {M1 M2 : Mod} (h : Two H w b1 M1 c1 b2 M2 c2) : Two H w b2 M2 c2 b1 M1 c1 := by
  obtain ⟨O1, S1, O2, S2, h1, h2, h3, h4, h5, h6, h7, h8, h9⟩ := h
  exact ⟨O2, S2, O1, S1, h2, h1, h5, h6, h3, h4, fun k a b => h7 k b a, h9, h8⟩
/-- The first one acts. -/
theorem Two.left {H : Nat} {w w' : World} {b1 c1 c1' b2 c2 : Nat} {M1 M1' M2 : Mod} (h : Two H w b1 M1 c1 b2 M2 c2) (hH : H ≤ w.heap.size) (ha : ∀ O S, DiskAt w b1 M1 O S c1 → (∀ k, O k → H ≤ k) → After w b1 M1' O S c1' w') : Two H w' b1 M1' c1' b2 M2 c2 := by
  obtain ⟨O1, S1, O2, S2, h1, h2, h3, h4, h5, h6, h7, h8, h9⟩ := h
  obtain ⟨O', S', g1, g2, g3, g4⟩ := ha O1 S1 h1 h3
  refine ⟨O', S', O2, S2, g1, h2.kept g4 (fun k a b => h7 k b a) (fun k a b => h8 k b a), fun k hk => ?_, fun k hk => ?_, h5, h6, fun k hk h => ?_, fun k hk h => ?_, fun k hk h => ?_⟩
  · exact (g2 k hk).elim (h3 k) (fun h => by omega)
  · exact (g3 k hk).elim (h4 k) (fun h => by omega)
  · exact (g2 k hk).elim (fun g => h7 k g h) (fun g => by have := h2.oLt k h; omega)
  · exact (g2 k hk).elim (fun g => h8 k g h) (fun g => by have := h2.sLt k h; omega)
  · exact (g3 k h).elim (fun g => h9 k hk g) (fun g => by have := h2.oLt k hk; omega)
theorem Two.exts {H : Nat} {w w' : World} {b1 c1 b2 c2 : Nat} {M1 M2 : Mod} (h : Two H w b1 M1 c1 b2 M2 c2) (hx : Exts w w') : Two H w' b1 M1 c1 b2 M2 c2 := by
  obtain ⟨O1, S1, O2, S2, h1, h2, h3⟩ := h
  exact ⟨O1, S1, O2, S2, h1.exts hx, h2.exts hx, h3⟩
theorem Two.of_copy {H : Nat} {w w' : World} {b b' c : Nat} {M : Mod} {O S : Nat → Prop} (h : DiskAt w b M O S c) (ho : ∀ k, O k → H ≤ k) (hs : ∀ k, S k → H ≤ k) (hH : H ≤ w.heap.size) (hx : Exts w w') (h' : DiskAt w' b' M (fun k => w.heap.size ≤ k ∧ k < w'.heap.size) S c) : Two H w' b M c b' M c :=
  ⟨O, S, _, S, h.exts hx, h', ho, hs, fun k hk => Nat.le_trans hH hk.1, hs, fun k hk hk' => Nat.not_lt.2 hk'.1 (h.oLt k hk), fun k hk hk' => h.apart k hk' hk, fun k hk hk' => Nat.not_lt.2 hk.1 (h.sLt k hk')⟩
end Go.Proofs.Ytgeoompgakdbiaa

/- Acts on a disk of our own, and on one of two. -/
namespace Go.Proofs.Ytgeoompgakdbiaa
open Go.RowKit Go.Maps
set_option linter.unusedSimpArgs false
set_option linter.unusedVariables false
def Own (w0 w : World) (b : Nat) (M : Mod) (c : Nat) : Prop := Exts w0 w ∧ Mine w0.heap.size w b M c
def Pair (w0 w : World) (b1 : Nat) (M1 : Mod) (c1 b2 : Nat) (M2 : Mod) (c2 : Nat) : Prop := Exts w0 w ∧ Two w0.heap.size w b1 M1 c1 b2 M2 c2
theorem Pair.swap {w0 w : World} {b1 c1 b2 c2 : Nat} {M1 M2 : Mod} (h : Pair w0 w b1 M1 c1 b2 M2 c2) : Pair w0 w b2 M2 c2 b1 M1 c1 := ⟨h.1, h.2.swap⟩
theorem Pair.exts {w0 w w' : World} {b1 c1 b2 c2 : Nat} {M1 M2 : Mod} (h : Pair w0 w b1 M1 c1 b2 M2 c2) (hx : Exts w w') : Pair w0 w' b1 M1 c1 b2 M2 c2 := ⟨h.1.trans hx, h.2.exts hx⟩
theorem Own.exts {w0 w w' : World} {b c : Nat} {M : Mod} (h : Own w0 w b M c) (hx : Exts w w') : Own w0 w' b M c := by
  obtain ⟨h1, O, S, h2, h3⟩ := h
  exact ⟨h1.trans hx, O, S, h2.exts hx, h3⟩
theorem Own.at {w0 w : World} {b c : Nat} {M : Mod} (h : Own w0 w b M c) : ∃ O S, DiskAt w b M O S c := by
  obtain ⟨h1, O, S, h2, h3⟩ := h
  exact ⟨O, S, h2⟩
theorem Pair.own {w0 w : World} {b1 c1 b2 c2 : Nat} {M1 M2 : Mod} (h : Pair w0 w b1 M1 c1 b2 M2 c2) : Own w0 w b1 M1 c1 := by
  obtain ⟨h1, O1, S1, O2, S2, h2, _, h3, h4, _⟩ := h
  exact ⟨h1, O1, S1, h2, h3, h4⟩
theorem Own.act {w0 w : World} {b c c' : Nat} {M M' : Mod} {f : FuncId} {args : Array Value} {v : Value} (h : Own w0 w b M c) (hc : ∀ O S, DiskAt w b M O S c → (∀ k, O k → w0.heap.size ≤ k) → Calls Try.prog f args w fun e w' => e = .returned v ∧ After w b M' O S c' w') : Calls Try.prog f args w fun e w' => e = .returned v ∧ Own w0 w' b M' c' := by
  obtain ⟨h1, O, S, h2, h3, h4⟩ := h
  refine (hc O S h2 h3).mono ?_
  rintro e w' ⟨rfl, O', S', g1, g2, g3, g4⟩
  have hs := h1.below.size
  exact ⟨rfl, ((Touch.of_exts (O := O) h1).then g4).toExts h3, O', S', g1, fun k hk => (g2 k hk).elim (h3 k) (fun h => by omega), fun k hk => (g3 k hk).elim (h4 k) (fun h => by omega)⟩
theorem Pair.act {w0 w : World} {b1 c1 c1' b2 c2 : Nat} {M1 M1' M2 : Mod} {f : FuncId} {args : Array Value} {v : Value} (h : Pair w0 w b1 M1 c1 b2 M2 c2) (hc : ∀ O S, DiskAt w b1 M1 O S c1 → (∀ k, O k → w0.heap.size ≤ k) → Calls Try.prog f args w fun e w' => e = .returned v ∧ After w b1 M1' O S c1' w') : Calls Try.prog f args w fun e w' => e = .returned v ∧ Pair w0 w' b1 M1' c1' b2 M2 c2 := by
  obtain ⟨hx, O1, S1, O2, S2, h1, h2, h3, h4, h5, h6, h7, h8, h9⟩ := h
  refine (hc O1 S1 h1 h3).mono ?_
  rintro e w' ⟨rfl, O', S', g1, g2, g3, g4⟩
  have hs := hx.below.size
  refine ⟨rfl, ((Touch.of_exts (O := O1) hx).then g4).toExts h3, O', S', O2, S2, g1, h2.kept g4 (fun k a b => h7 k b a) (fun k a b => h8 k b a), fun k hk => ?_, fun k hk => ?_, h5, h6, fun k hk h => ?_, fun k hk h => ?_, fun k hk h => ?_⟩
  · exact (g2 k hk).elim (h3 k) (fun h => by omega)
  · exact (g3 k hk).elim (h4 k) (fun h => by omega)
  · exact (g2 k hk).elim (fun g => h7 k g h) (fun g => by have := h2.oLt k h; omega)
  · exact (g2 k hk).elim (fun g => h8 k g h) (fun g => by have := h2.sLt k h; omega)
  · exact (g3 k h).elim (fun g => h9 k hk g) (fun g => by have := h2.oLt k hk; omega)
theorem Pair.act_ext {w0 w w1 : World} {b1 c1 c1' b2 c2 : Nat} {M1 M1' M2 : Mod} {f : FuncId} {args : Array Value} {v : Value} (h : Pair w0 w b1 M1 c1 b2 M2 c2) (hw : Exts w w1) (hc : ∀ O S, DiskAt w b1 M1 O S c1 → Calls Try.prog f args w1 fun e w' => e = .returned v ∧ After w1 b1 M1' O S c1' w') : Calls Try.prog f args w1 fun e w' => e = .returned v ∧ Pair w0 w' b1 M1' c1' b2 M2 c2 := by
  obtain ⟨hx, O1, S1, O2, S2, h1, h2, h3, h4, h5, h6, h7, h8, h9⟩ := h
  refine (hc O1 S1 h1).mono ?_
  rintro e w' ⟨rfl, O', S', g1, g2, g3, g4⟩
  have hx1 := hx.trans hw
  have hs := hx1.below.size
  have h2' := h2.exts hw
  refine ⟨rfl, ((Touch.of_exts (O := O1) hx1).then g4).toExts h3, O', S', O2, S2, g1, h2'.kept g4 (fun k a b => h7 k b a) (fun k a b => h8 k b a), fun k hk => ?_, fun k hk => ?_, h5, h6, fun k hk h => ?_, fun k hk h => ?_, fun k hk h => ?_⟩
  · exact (g2 k hk).elim (h3 k) (fun h => by omega)
  · exact (g3 k hk).elim (h4 k) (fun h => by omega)
  · exact (g2 k hk).elim (fun g => h7 k g h) (fun g => by have := h2'.oLt k h; omega)
  · exact (g2 k hk).elim (fun g => h8 k g h) (fun g => by have := h2'.sLt k h; omega)
  · exact (g3 k h).elim (fun g => h9 k hk g) (fun g => by have := h2'.oLt k hk; omega)
theorem own_new (w0 w : World) (hx : Exts w0 w) : Calls Try.prog 10 #[] w fun e w' => ∃ b, e = .returned (.pointer (some ⟨b, 0, none⟩)) ∧ Own w0 w' b M0 0 ∧ Exts w w' := by
  refine (new10 w).mono ?_
  rintro e w' ⟨b, rfl, h1, h2⟩
  have hs := hx.below.size
  exact ⟨b, rfl, ⟨hx.trans h1, _, _, h2, fun k hk => Nat.le_trans hs hk.1, fun k hk => hk.elim⟩, h1⟩
theorem Own.copy {w0 w : World} {b c : Nat} {M : Mod} (h : Own w0 w b M c) : Calls Try.prog 18 #[.pointer (some ⟨b, 0, none⟩)] w fun e w' => ∃ b', e = .returned (.pointer (some ⟨b', 0, none⟩)) ∧ Pair w0 w' b M c b' M c := by
  obtain ⟨h1, O, S, h2, h3, h4⟩ := h
  refine (copy18 h2).mono ?_
  rintro e w' ⟨b', rfl, g1, g2⟩
  exact ⟨b', rfl, h1.trans g1, Two.of_copy h2 h3 h4 h1.below.size g1 g2⟩
end Go.Proofs.Ytgeoompgakdbiaa

/- small: the examples of the documentation. -/
namespace Go.Proofs.Ytgeoompgakdbiaa
open Go.RowKit Go.Maps
set_option linter.unusedSimpArgs false
set_option linter.unusedVariables false
set_option maxRecDepth 100000
theorem own_write {w0 w : World} {b c : Nat} {M : Mod} (h : Own w0 w b M c) (f at' : Int) (s : ByteArray) (ha : I64 at') (hs : s.size ≤ 300) (hc : c + 6 ≤ 1000000) : Calls Try.prog 29 #[.pointer (some ⟨b, 0, none⟩), .int .i64 f, .int .i64 at', .string s] w fun e w' => e = .returned (.int .i64 (WriteD M f at' s).2) ∧ Own w0 w' b (WriteD M f at' s).1 (c + 6) := h.act fun O S hd _ => write29 hd f at' s ha hs hc
theorem pair_write {w0 w : World} {b c b2 c2 : Nat} {M M2 : Mod} (h : Pair w0 w b M c b2 M2 c2) (f at' : Int) (s : ByteArray) (ha : I64 at') (hs : s.size ≤ 300) (hc : c + 6 ≤ 1000000) : Calls Try.prog 29 #[.pointer (some ⟨b, 0, none⟩), .int .i64 f, .int .i64 at', .string s] w fun e w' => e = .returned (.int .i64 (WriteD M f at' s).2) ∧ Pair w0 w' b (WriteD M f at' s).1 (c + 6) b2 M2 c2 := h.act fun O S hd _ => write29 hd f at' s ha hs hc
theorem own_sync {w0 w : World} {b c : Nat} {M : Mod} (h : Own w0 w b M c) (f : Int) (hf : I64 f) : Calls Try.prog 19 #[.pointer (some ⟨b, 0, none⟩), .int .i64 f] w fun e w' => e = .returned (.int .i64 (SyncD M f).2) ∧ Own w0 w' b (SyncD M f).1 c := h.act fun O S hd _ => sync19 hd f hf
theorem pair_start {w0 w : World} {b c b2 c2 : Nat} {M M2 : Mod} (h : Pair w0 w b M c b2 M2 c2) : Calls Try.prog 26 #[.pointer (some ⟨b, 0, none⟩)] w fun e w' => e = .returned (.tuple #[]) ∧ Pair w0 w' b (upD M) c b2 M2 c2 := h.act fun O S hd _ => by
  refine (start26 hd).mono ?_
  rintro e w' ⟨rfl, h1, h2⟩
  exact ⟨rfl, After.same h1 h2⟩
/-- A crash, with a list in a block that is not the disk's. -/
theorem pair_crash {w0 w : World} {b c b2 c2 : Nat} {M M2 : Mod} (h : Pair w0 w b M c b2 M2 c2) {S1 : Nat → Prop} {kv : Value} {kl : List Int} (hk : RowF S1 1 w kv kl.length (intsC kl)) (hS1 : ∀ O S, DiskAt w b M O S c → ∀ k, S1 k → ¬ O k) : Calls Try.prog 25 #[.pointer (some ⟨b, 0, none⟩), kv] w fun e w' => e = .returned (.tuple #[]) ∧ Pair w0 w' b (crashD M kl) c b2 M2 c2 := h.act fun O S hd _ => crash25 hd hk (hS1 O S hd)
theorem row_lit (w : World) (l : List Int) (t : TypeId) (hl : l.length ≤ 60) : RowF (fun k => k = w.heap.size) 1 (w.alloc (.cells (intsC l).toArray t)) (.slice (some ⟨w.heap.size, 0, none⟩) l.length l.length) l.length (intsC l) := by
  refine ⟨by simp [intsC], _, _, rfl, Nat.le_refl _, by unfold maxLen; omega, fun h => (by cases h), fun _ => ⟨w.heap.size, 0, rfl, rfl, by simp, fun i c hc => ?_⟩⟩
  rw [World.cell?_alloc_new]
  simpa using hc
/-- A crash, with a list that is written down. -/
theorem pair_crash_lit {w0 w : World} {b c b2 c2 : Nat} {M M2 : Mod} (h : Pair w0 w b M c b2 M2 c2) (l : List Int) (t : TypeId) (hl : l.length ≤ 60) : Calls Try.prog 25 #[.pointer (some ⟨b, 0, none⟩), .slice (some ⟨w.heap.size, 0, none⟩) l.length l.length] (w.alloc (.cells (intsC l).toArray t)) fun e w' => e = .returned (.tuple #[]) ∧ Pair w0 w' b (crashD M l) c b2 M2 c2 :=
  h.act_ext (by repeat (first | exact Exts.refl _ | apply Exts.andR | apply Exts.alloc | apply Exts.wext | apply Exts.drew | apply Exts.drewN)) fun O S hd => crash25 (hd.exts (by repeat (first | exact Exts.refl _ | apply Exts.andR | apply Exts.alloc | apply Exts.wext | apply Exts.drew | apply Exts.drewN))) (row_lit w l t hl) (fun k hk ho => by have := hd.oLt k ho; omega)
theorem pair_read {w0 w : World} {b c b2 c2 : Nat} {M M2 : Mod} (h : Pair w0 w b M c b2 M2 c2) (f at' size : Int) (ha : I64 at') (hs : I64 size) : Calls Try.prog 20 #[.pointer (some ⟨b, 0, none⟩), .int .i64 f, .int .i64 at', .int .i64 size] w fun e w' => e = .returned (.tuple #[.string (readD M f at' size).1, .int .i64 (readD M f at' size).2]) ∧ w = w' := by
  obtain ⟨O, S, hd⟩ := h.own.at
  exact read20 hd f at' size ha hs
abbrev abc : ByteArray := ⟨#[97, 98, 99]⟩
abbrev xyB : ByteArray := ⟨#[88, 89]⟩
abbrev abcd : ByteArray := ⟨#[97, 98, 99, 100]⟩
def sm3 : Mod := (WriteD (SyncD (WriteD M0 0 0 abc).1 0).1 0 1 xyB).1
def sm4 : Mod := crashD sm3 [1]
def st1 : Mod := upD (crashD sm3 [0])
def st2 : Mod := (WriteD st1 1 62 abcd).1
def st3 : Mod := upD (crashD st2 [0, 1])
theorem small_plain : (WriteD M0 0 0 abc).2 = 0 ∧ (SyncD (WriteD M0 0 0 abc).1 0).2 = 0 ∧ sm4.down = true ∧ readD sm4 0 0 9 = (⟨#[]⟩, 8) ∧ readD (upD sm4) 0 0 9 = (⟨#[97, 88, 89]⟩, 0) ∧ readD st1 0 1 9 = (⟨#[98, 99]⟩, 0) ∧ (WriteD st1 1 62 abcd).2 = 0 ∧ readD st3 1 60 100 = (⟨#[0, 0, 0, 0, 99, 100]⟩, 0) ∧ (st3.files 1).1.size = 66 ∧ (WriteD st3 16 0 ⟨#[]⟩).2 = 1 ∧ (WriteD (WriteD st3 16 0 ⟨#[]⟩).1 1 16777216 ⟨#[97]⟩).2 = 6 := by refine ⟨?_, ?_, ?_, ?_, ?_, ?_, ?_, ?_, ?_, ?_, ?_⟩ <;> kernel_rfl
end Go.Proofs.Ytgeoompgakdbiaa
