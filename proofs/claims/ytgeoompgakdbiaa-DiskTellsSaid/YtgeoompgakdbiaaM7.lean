/- Lemmas that the laws of this seat share, 4 texts in one: Do, Acts, Play, After. No condition of their own. -/
import Derived.Test.YtgeoompgakdbiaaM6
/- do: an act on a disk. -/
namespace Go.Proofs.Ytgeoompgakdbiaa
open Go.RowKit Go.Maps
set_option linter.unusedSimpArgs false
set_option linter.unusedVariables false
set_option maxRecDepth 100000
structure ActP where
  op : Int
  f : Int
  n : Int
  s : ByteArray
  keep : List Int
def actV (a : ActP) (kv : Value) : Value := .agg #[.int .i64 a.op, .int .i64 a.f, .int .i64 a.n, .string a.s, kv]
structure ActOk (a : ActP) : Prop where
  f : I64 a.f
  n : I64 a.n
  s : a.s.size ≤ 300
  keep : a.keep.length ≤ 60
  keeps : ∀ x ∈ a.keep, I64 x
def opD (a : ActP) : Int := bits BinOp.and .i64 a.op 7
def doD (M : Mod) (a : ActP) : Mod × Int :=
  if opD a = 2 then SyncD M a.f else if opD a = 3 then TruncD M a.f a.n else if opD a = 4 then ({ M with lost := max (bits BinOp.and .i64 a.n 3) 0 }, 0)
  else if opD a = 5 then ({ M with armed := max a.n 0, keep := a.keep }, 0) else if opD a = 6 then (crashD M a.keep, 0) else if opD a = 7 then ({ M with down := false }, 0) else WriteD M a.f a.n a.s
theorem DiskAt.exts {w w' : World} {b c : Nat} {M : Mod} {O S : Nat → Prop} (h : DiskAt w b M O S c) (hx : Exts w w') : DiskAt w' b M O S c := h.kept (X := fun _ => False) (Touch.of_exts hx) (fun _ _ h => h) (fun _ _ h => h)
theorem After.more {w w' : World} {b c c' : Nat} {M : Mod} {O S : Nat → Prop} (h : After w b M O S c w') (hc : c ≤ c') (hs : c' ≤ 1000000) : After w b M O S c' w' := by
  obtain ⟨O', S', h1, h2⟩ := h
  exact ⟨O', S', h1.more hc hs, h2⟩
theorem bits_i64 (a b : Int) : I64 (bits BinOp.and .i64 a b) := by
  unfold bits
  simp only [IntKind.wrap_i64]
  constructor <;> omega
set_option maxHeartbeats 1000000
theorem do12 {w : World} {b c : Nat} {M : Mod} {O S S1 : Nat → Prop} (hd : DiskAt w b M O S c) (a : ActP) (kv : Value) (hk : RowF S1 1 w kv a.keep.length (intsC a.keep)) (hS1 : ∀ k, S1 k → ¬ O k) (ha : ActOk a) (hc : c + 6 ≤ 1000000) :
    Calls Try.prog 12 #[.pointer (some ⟨b, 0, none⟩), actV a kv] w fun e w' => e = .returned (.int .i64 (doD M a).2) ∧ After w b (doD M a).1 O S (c + 6) w' := by
  have HD := Lib.hid hd
  have HK := Lib.hid hk
  obtain ⟨op, f, n, s, keep⟩ := a
  obtain ⟨hf, hn, hs, hkl, hki⟩ := ha
  unfold actV
  simp only at hf hn hs hkl hki ⊢ HK
  obtain ⟨k, hkk⟩ : ∃ k, bits BinOp.and .i64 op 7 = k := ⟨_, rfl⟩
  by_cases h2 : k = 2
  · have HR := Lib.hid (show doD M ⟨op, f, n, s, keep⟩ = SyncD M f by unfold doD opD; simp only []; rw [hkk, if_pos h2])
    subst h2
    clear hd hk
    go_enter Try.func12, Try.ntmps12
    go_wp2_with (first | (go_at_call 19; ((with_reducible refine (sync19 (HD.out.exts (by repeat (first | exact Exts.refl _ | apply Exts.andR | apply Exts.alloc | apply Exts.wext | apply Exts.drew | apply Exts.drewN))) f hf).mono ?_); rintro e w' ⟨rfl, hA⟩)))
    go_ret
    rw [HR.out]
    exact ⟨rfl, (After.ahead (Touch.of_exts (by repeat (first | exact Exts.refl _ | apply Exts.andR | apply Exts.alloc | apply Exts.wext | apply Exts.drew | apply Exts.drewN))) hA).more (by omega) hc⟩
  · have y2 : (k == 2) = false := by simpa using h2
    by_cases h3 : k = 3
    · have HR := Lib.hid (show doD M ⟨op, f, n, s, keep⟩ = TruncD M f n by unfold doD opD; simp only []; rw [hkk, if_neg h2, if_pos h3])
      clear h2 y2
      subst h3
      clear hd hk
      go_enter Try.func12, Try.ntmps12
      go_wp2_with (first | (go_at_call 30; ((with_reducible refine (trunc30 (HD.out.exts (by repeat (first | exact Exts.refl _ | apply Exts.andR | apply Exts.alloc | apply Exts.wext | apply Exts.drew | apply Exts.drewN))) f n hf hn).mono ?_); rintro e w' ⟨rfl, hA⟩)))
      go_ret
      rw [HR.out]
      exact ⟨rfl, (After.ahead (Touch.of_exts (by repeat (first | exact Exts.refl _ | apply Exts.andR | apply Exts.alloc | apply Exts.wext | apply Exts.drew | apply Exts.drewN))) hA).more (by omega) hc⟩
    · have y3 : (k == 3) = false := by simpa using h3
      by_cases h4 : k = 4
      · have HR := Lib.hid (show doD M ⟨op, f, n, s, keep⟩ = ({ M with lost := max (bits BinOp.and .i64 n 3) 0 }, 0) by unfold doD opD; simp only []; rw [hkk, if_neg h2, if_neg h3, if_pos h4])
        have hb3 := bits_i64 n 3
        clear h2 y2 h3 y3
        subst h4
        clear hd hk
        go_enter Try.func12, Try.ntmps12
        go_wp2_with (first | (go_at_call 31; ((with_reducible refine (lose31 (HD.out.exts (by repeat (first | exact Exts.refl _ | apply Exts.andR | apply Exts.alloc | apply Exts.wext | apply Exts.drew | apply Exts.drewN))) _ hb3).mono ?_); rintro e w' ⟨rfl, hd2, ht2⟩)))
        go_ret
        rw [HR.out]
        exact ⟨rfl, (After.ahead (Touch.of_exts (by repeat (first | exact Exts.refl _ | apply Exts.andR | apply Exts.alloc | apply Exts.wext | apply Exts.drew | apply Exts.drewN))) (After.same hd2 ht2)).more (by omega) hc⟩
      · have y4 : (k == 4) = false := by simpa using h4
        by_cases h5 : k = 5
        · have HR := Lib.hid (show doD M ⟨op, f, n, s, keep⟩ = ({ M with armed := max n 0, keep := keep }, 0) by unfold doD opD; simp only []; rw [hkk, if_neg h2, if_neg h3, if_neg h4, if_pos h5])
          clear h2 y2 h3 y3 h4 y4
          subst h5
          clear hd hk
          go_enter Try.func12, Try.ntmps12
          go_wp2_with (first | (go_at_call 27; ((with_reducible refine (arm27 (HD.out.exts (by repeat (first | exact Exts.refl _ | apply Exts.andR | apply Exts.alloc | apply Exts.wext | apply Exts.drew | apply Exts.drewN))) n hn kv keep (RowF.exts HK.out (by repeat (first | exact Exts.refl _ | apply Exts.andR | apply Exts.alloc | apply Exts.wext | apply Exts.drew | apply Exts.drewN))) (by omega) hki).mono ?_); rintro e w' ⟨rfl, hA⟩)))
          go_ret
          rw [HR.out]
          exact ⟨rfl, (After.ahead (Touch.of_exts (by repeat (first | exact Exts.refl _ | apply Exts.andR | apply Exts.alloc | apply Exts.wext | apply Exts.drew | apply Exts.drewN))) hA).more (by omega) hc⟩
        · have y5 : (k == 5) = false := by simpa using h5
          by_cases h6 : k = 6
          · have HR := Lib.hid (show doD M ⟨op, f, n, s, keep⟩ = (crashD M keep, 0) by unfold doD opD; simp only []; rw [hkk, if_neg h2, if_neg h3, if_neg h4, if_neg h5, if_pos h6])
            clear h2 y2 h3 y3 h4 y4 h5 y5
            subst h6
            clear hd hk
            go_enter Try.func12, Try.ntmps12
            go_wp2_with (first | (go_at_call 25; ((with_reducible refine (crash25 (HD.out.exts (by repeat (first | exact Exts.refl _ | apply Exts.andR | apply Exts.alloc | apply Exts.wext | apply Exts.drew | apply Exts.drewN))) (RowF.exts HK.out (by repeat (first | exact Exts.refl _ | apply Exts.andR | apply Exts.alloc | apply Exts.wext | apply Exts.drew | apply Exts.drewN))) hS1).mono ?_); rintro e w' ⟨rfl, hA⟩)))
            go_ret
            rw [HR.out]
            exact ⟨rfl, (After.ahead (Touch.of_exts (by repeat (first | exact Exts.refl _ | apply Exts.andR | apply Exts.alloc | apply Exts.wext | apply Exts.drew | apply Exts.drewN))) hA).more (by omega) hc⟩
          · have y6 : (k == 6) = false := by simpa using h6
            by_cases h7 : k = 7
            · have HR := Lib.hid (show doD M ⟨op, f, n, s, keep⟩ = ({ M with down := false }, 0) by unfold doD opD; simp only []; rw [hkk, if_neg h2, if_neg h3, if_neg h4, if_neg h5, if_neg h6, if_pos h7])
              clear h2 y2 h3 y3 h4 y4 h5 y5 h6 y6
              subst h7
              clear hd hk
              go_enter Try.func12, Try.ntmps12
              go_wp2_with (first | (go_at_call 26; ((with_reducible refine (start26 (HD.out.exts (by repeat (first | exact Exts.refl _ | apply Exts.andR | apply Exts.alloc | apply Exts.wext | apply Exts.drew | apply Exts.drewN)))).mono ?_); rintro e w' ⟨rfl, hd2, ht2⟩)))
              go_ret
              rw [HR.out]
              exact ⟨rfl, (After.ahead (Touch.of_exts (by repeat (first | exact Exts.refl _ | apply Exts.andR | apply Exts.alloc | apply Exts.wext | apply Exts.drew | apply Exts.drewN))) (After.same hd2 ht2)).more (by omega) hc⟩
            · have y7 : (k == 7) = false := by simpa using h7
              have HR := Lib.hid (show doD M ⟨op, f, n, s, keep⟩ = WriteD M f n s by unfold doD opD; simp only []; rw [hkk, if_neg h2, if_neg h3, if_neg h4, if_neg h5, if_neg h6, if_neg h7])
              clear h2 h3 h4 h5 h6 h7
              clear hd hk
              go_enter Try.func12, Try.ntmps12
              go_wp2_with (first | (go_at_call 29; ((with_reducible refine (write29 (HD.out.exts (by repeat (first | exact Exts.refl _ | apply Exts.andR | apply Exts.alloc | apply Exts.wext | apply Exts.drew | apply Exts.drewN))) f n s hn hs hc).mono ?_); rintro e w' ⟨rfl, hA⟩)))
              go_ret
              rw [HR.out]
              exact ⟨rfl, After.ahead (Touch.of_exts (by repeat (first | exact Exts.refl _ | apply Exts.andR | apply Exts.alloc | apply Exts.wext | apply Exts.drew | apply Exts.drewN))) hA⟩
end Go.Proofs.Ytgeoompgakdbiaa

/- Lists of acts, as they lie in memory; few. -/
namespace Go.Proofs.Ytgeoompgakdbiaa
open Go.RowKit Go.Maps
set_option linter.unusedSimpArgs false
set_option linter.unusedVariables false
set_option maxRecDepth 100000
/-- A list of acts in the blocks of S. -/
def Acts (S : Nat → Prop) (w : World) (v : Value) (l : List ActP) : Prop :=
  (∀ a ∈ l, I64 a.op ∧ I64 a.f ∧ I64 a.n ∧ ∀ x ∈ a.keep, I64 x) ∧ ∃ xs, RowF S 5 w v l.length xs ∧ ∀ (i : Nat) (a : ActP), l[i]? = some a → ∃ kv, xs[i * 5]? = some (.int .i64 a.op) ∧ xs[i * 5 + 1]? = some (.int .i64 a.f) ∧ xs[i * 5 + 2]? = some (.int .i64 a.n) ∧ xs[i * 5 + 3]? = some (.string a.s) ∧ xs[i * 5 + 4]? = some kv ∧ RowF S 1 w kv a.keep.length (intsC a.keep)
theorem Acts.touch {S O : Nat → Prop} {w w' : World} {v : Value} {l : List ActP} (h : Acts S w v l) (ht : Touch O w w') (hn : ∀ b, S b → ¬ O b) : Acts S w' v l := by
  obtain ⟨h1, xs, h2, h3⟩ := h
  exact ⟨h1, xs, h2.touch ht hn, fun i a ha => let ⟨kv, e1, e2, e3, e4, e5, e6⟩ := h3 i a ha; ⟨kv, e1, e2, e3, e4, e5, e6.touch ht hn⟩⟩
theorem Acts.exts {S : Nat → Prop} {w w' : World} {v : Value} {l : List ActP} (h : Acts S w v l) (hx : Exts w w') : Acts S w' v l := h.touch (O := fun _ => False) (Touch.of_exts hx) (fun _ _ h => h)
theorem Acts.shape {S : Nat → Prop} {w : World} {v : Value} {l : List ActP} (h : Acts S w v l) : ∃ ao n c, v = .slice ao n c ∧ n = l.length ∧ n ≤ maxLen := by
  obtain ⟨h1, xs, h2, h3⟩ := h
  have := h2.nle
  obtain ⟨_, ao, cap, rfl, _⟩ := h2
  exact ⟨ao, _, cap, rfl, rfl, this⟩
theorem Acts.get {S : Nat → Prop} {w : World} {ao : Option Addr} {n c : Nat} {l : List ActP} (h : Acts S w (.slice ao n c) l) {i : Nat} {a : ActP} (ha : l[i]? = some a) :
    ∃ b off ko kc, ao = some ⟨b, off, none⟩ ∧ b < w.heap.size ∧ w.cell? ⟨b, off + i * 5, none⟩ = some (.int .i64 a.op) ∧ w.cell? ⟨b, off + i * 5 + 1, none⟩ = some (.int .i64 a.f) ∧ w.cell? ⟨b, off + i * 5 + 2, none⟩ = some (.int .i64 a.n) ∧ w.cell? ⟨b, off + i * 5 + 3, none⟩ = some (.string a.s) ∧ w.cell? ⟨b, off + i * 5 + 4, none⟩ = some (.slice ko a.keep.length kc) ∧ RowF S 1 w (.slice ko a.keep.length kc) a.keep.length (intsC a.keep) := by
  obtain ⟨h1, xs, h2, h3⟩ := h
  obtain ⟨kv, e1, e2, e3, e4, e5, e6⟩ := h3 i a ha
  have hi := (List.getElem?_eq_some_iff.1 ha).1
  obtain ⟨q1, ao2, cap2, hv, q2, q3, q4, q5⟩ := h2
  cases hv
  obtain ⟨b, off, rfl, _, hb, hc⟩ := q5 (by omega)
  obtain ⟨ko, kc, rfl⟩ : ∃ ko kc, kv = .slice ko a.keep.length kc := by
    obtain ⟨_, ko, kc, h, _⟩ := e6
    exact ⟨ko, kc, h⟩
  refine ⟨b, off, ko, kc, rfl, hb, hc _ _ e1, ?_, ?_, ?_, ?_, e6⟩ <;> (rw [Nat.add_assoc]; apply hc; assumption)
def okA (a : ActP) : Bool := !(decide (300 < a.s.size)) && !(decide (60 < a.keep.length)) && !(decide (3000 < a.n) && decide (a.n < 16776916))
def fewB (l : List ActP) : Bool := l.all okA && decide (l.length ≤ 40)
set_option maxHeartbeats 1000000
theorem few9 {S : Nat → Prop} {w : World} {v : Value} {l : List ActP} (h : Acts S w v l) : Calls Try.prog 9 #[v] w fun e w' => e = .returned (.bool (fewB l)) ∧ w = w' := by
  obtain ⟨ao, n, c, rfl, hn, hm⟩ := h.shape
  unfold maxLen at hm
  have H := Lib.hid h
  have HN := Lib.hid hn
  clear h hn
  go_enter Try.func9, Try.ntmps9
  go_wp2
  go_loopw [3] (fun si wr => ∃ k : Nat, si = .int .i64 k ∧ k ≤ n ∧ w = wr ∧ (l.take k).all okA = true) (fun si _ => n - (intOf si).toNat)
  case atStart => exact ⟨0, rfl, Nat.zero_le _, rfl, rfl⟩
  case round =>
    obtain ⟨k, rfl, hk, rfl, hall⟩ := hrel
    have HALL := Lib.hid hall
    clear hall
    by_cases hlt : k < n
    · obtain ⟨a, ha⟩ : ∃ a, l[k]? = some a := ⟨_, List.getElem?_eq_getElem (by rw [← HN.out]; exact hlt)⟩
      obtain ⟨b, off, ko, kc, rfl, lb, c0, c1, c2, c3, c4, _⟩ := H.out.get ha
      have HA := Lib.hid ha
      have hmem : okA a = false → fewB l = false := fun h => by
        unfold fewB
        have : l.all okA = false := by
          rw [List.all_eq_false]
          exact ⟨a, List.mem_of_getElem? ha, by rw [h]; decide⟩
        rw [this]
        rfl
      have HMEM := Lib.hid hmem
      have htk : l.take (k + 1) = l.take k ++ [a] := by rw [List.take_add_one, ha]; rfl
      have HTK := Lib.hid htk
      obtain ⟨op, f, m, s, kp⟩ := a
      simp only at c0 c1 c2 c3 c4
      obtain ⟨kn, hkn⟩ : ∃ kn, kp.length = kn := ⟨_, rfl⟩
      rw [hkn] at c4
      have HKN := Lib.hid hkn
      clear ha hmem htk hkn
      by_cases h1 : 300 < s.size
      · have y1 : decide (300 < s.size) = true := by simpa using h1
        have x1 : decide ((300 : Int) < (s.size : Int)) = true := by simp; omega
        have HF := Lib.hid (HMEM.out (by unfold okA; simp only []; rw [y1]; rfl))
        clear h1
        go_wp2
        go_ret
        rw [HF.out]
        exact ⟨rfl, rfl⟩
      · have y1 : decide (300 < s.size) = false := by simpa using h1
        have x1 : decide ((300 : Int) < (s.size : Int)) = false := by simp; omega
        by_cases h2 : 60 < kn
        · have y2 : decide (60 < kn) = true := by simpa using h2
          have x2 : decide ((60 : Int) < ((kn : Nat) : Int)) = true := by simp; omega
          have HF := Lib.hid (HMEM.out (by unfold okA; simp only []; rw [HKN.out, y2, y1]; rfl))
          clear h1 h2
          go_wp2
          go_ret
          rw [HF.out]
          exact ⟨rfl, rfl⟩
        · have y2 : decide (60 < kn) = false := by simpa using h2
          have x2 : decide ((60 : Int) < ((kn : Nat) : Int)) = false := by simp; omega
          by_cases h3 : 3000 < m
          · have y3 : decide (3000 < m) = true := by simpa using h3
            by_cases h4 : m < 16776916
            · have y4 : decide (m < 16776916) = true := by simpa using h4
              have HF := Lib.hid (HMEM.out (by unfold okA; simp only []; rw [HKN.out, y2, y1, y3, y4]; rfl))
              clear h1 h2 h3 h4
              go_wp2
              go_ret
              rw [HF.out]
              exact ⟨rfl, rfl⟩
            · have y4 : decide (m < 16776916) = false := by simpa using h4
              have HF := Lib.hid (show okA ⟨op, f, m, s, kp⟩ = true by unfold okA; simp only []; rw [HKN.out, y2, y1, y3, y4]; rfl)
              clear h1 h2 h3 h4
              go_wp2
              refine ⟨⟨k + 1, by go_num, by omega, trivial, by rw [HTK.out, List.all_append, HALL.out]; simp [HF.out]⟩, by simp [intOf]; omega⟩
          · have y3 : decide (3000 < m) = false := by simpa using h3
            have HF := Lib.hid (show okA ⟨op, f, m, s, kp⟩ = true by unfold okA; simp only []; rw [HKN.out, y2, y1, y3]; rfl)
            clear h1 h2 h3
            go_wp2
            refine ⟨⟨k + 1, by go_num, by omega, trivial, by rw [HTK.out, List.all_append, HALL.out]; simp [HF.out]⟩, by simp [intOf]; omega⟩
    · obtain rfl : k = n := by omega
      have hall : l.all okA = true := by
        have := HALL.out
        rwa [List.take_of_length_le (by rw [HN.out]; exact Nat.le_refl _)] at this
      have HF := Lib.hid (show decide (((k : Nat) : Int) ≤ 40) = fewB l by
        unfold fewB
        rw [hall, ← HN.out, Bool.true_and, decide_eq_decide]
        omega)
      clear hall
      go_wp2
      go_ret
      rw [HF.out]
      exact ⟨rfl, rfl⟩
end Go.Proofs.Ytgeoompgakdbiaa

/- played. -/
namespace Go.Proofs.Ytgeoompgakdbiaa
open Go.RowKit Go.Maps
set_option linter.unusedSimpArgs false
set_option linter.unusedVariables false
set_option maxRecDepth 100000
theorem Touch.toExts {O : Nat → Prop} {w w' : World} (h : Touch O w w') (hO : ∀ k, O k → w.heap.size ≤ k) : Exts w w' :=
  exts_of_grown (row := none) (Exts.refl w) ⟨h.os, h.tape, h.output, h.size, fun k hk _ => h.block k hk (fun ho => by have := hO k ho; omega)⟩ (fun b hb => by cases hb)
def playD (M : Mod) (l : List ActP) : Mod := l.foldl (fun M a => (doD M a).1) M
/-- A disk of our own: all its blocks are new since the heap was H long. -/
def Mine (H : Nat) (w : World) (b : Nat) (M : Mod) (c : Nat) : Prop := ∃ O S, DiskAt w b M O S c ∧ (∀ k, O k → H ≤ k) ∧ (∀ k, S k → H ≤ k)
theorem Mine.after {H : Nat} {w w' : World} {b c c' : Nat} {M M' : Mod} (h : Mine H w b M c) (hH : H ≤ w.heap.size) (ha : ∀ O S, DiskAt w b M O S c → (∀ k, O k → H ≤ k) → After w b M' O S c' w') : Mine H w' b M' c' ∧ ∃ O, (∀ k, O k → H ≤ k) ∧ Touch O w w' := by
  obtain ⟨O, S, hd, ho, hs⟩ := h
  obtain ⟨O', S', h1, h2, h3, h4⟩ := ha O S hd ho
  refine ⟨⟨O', S', h1, fun k hk => ?_, fun k hk => ?_⟩, O, ho, h4⟩
  · rcases h2 k hk with h | h
    · exact ho k h
    · omega
  · rcases h3 k hk with h | h
    · exact hs k h
    · omega
theorem okA_ok {a : ActP} (h : okA a = true) (h1 : I64 a.op ∧ I64 a.f ∧ I64 a.n ∧ ∀ x ∈ a.keep, I64 x) : ActOk a := by
  unfold okA at h
  simp at h
  exact ⟨h1.2.1, h1.2.2.1, by omega, by omega, h1.2.2.2⟩
set_option maxHeartbeats 1000000
theorem played22 {w : World} {v : Value} {l : List ActP} (h : Acts (fun k => k < w.heap.size) w v l) (hl : fewB l = true) : Calls Try.prog 22 #[v] w fun e w' => ∃ b, e = .returned (.pointer (some ⟨b, 0, none⟩)) ∧ Exts w w' ∧ Mine w.heap.size w' b (playD M0 l) 240 := by
  obtain ⟨ao, n, c, rfl, hn, hm⟩ := h.shape
  have H := Lib.hid h
  have HN := Lib.hid hn
  obtain ⟨hall, h40⟩ : l.all okA = true ∧ l.length ≤ 40 := by
    unfold fewB at hl
    simpa using hl
  have HALL := Lib.hid hall
  have hn40 : n ≤ 40 := by omega
  clear h hn hl hall hm
  go_enter Try.func22, Try.ntmps22
  go_wp2_with (first | (go_at_call 10; ((with_reducible refine (new10 _).mono ?_); rintro e w1 ⟨b, rfl, hx1, hd1⟩)))
  have HX1 := Lib.hid hx1
  have HD1 := Lib.hid hd1
  clear hx1 hd1
  go_loopw [4] (fun si wr => ∃ k : Nat, si = .int .i64 k ∧ k ≤ n ∧ Exts w wr ∧ Mine w.heap.size wr b (playD M0 (l.take k)) (6 * k)) (fun si _ => n - (intOf si).toNat)
  case atStart => exact ⟨0, rfl, Nat.zero_le _, HX1.out, ⟨_, _, HD1.out, fun k hk => hk.1, fun k hk => hk.elim⟩⟩
  case round =>
    obtain ⟨k, rfl, hk, hx, hmine⟩ := hrel
    have HX := Lib.hid hx
    by_cases hlt : k < n
    · obtain ⟨a, ha⟩ : ∃ a, l[k]? = some a := ⟨_, List.getElem?_eq_getElem (by rw [← HN.out]; exact hlt)⟩
      obtain ⟨ab, off, ko, kc, rfl, lb, c0, c1, c2, c3, c4, hkeep⟩ := H.out.get ha
      have hok := okA_ok (List.all_eq_true.1 HALL.out a (List.mem_of_getElem? ha)) (H.out.1 a (List.mem_of_getElem? ha))
      have hstep : playD M0 (l.take (k + 1)) = (doD (playD M0 (l.take k)) a).1 := by
        have : l.take (k + 1) = l.take k ++ [a] := by rw [List.take_add_one, ha]; rfl
        rw [this]
        unfold playD
        rw [List.foldl_append]
        rfl
      have HST := Lib.hid hstep
      obtain ⟨O, S, hd, ho, hs⟩ := hmine
      have hcall := do12 hd a (.slice ko a.keep.length kc) (hkeep.exts hx) (fun j hj hO => by have := ho j hO; omega) hok (by omega)
      unfold actV at hcall
      have d0 := Exts.cell hx c0
      have d1 := Exts.cell hx c1
      have d2 := Exts.cell hx c2
      have d3 := Exts.cell hx c3
      have d4 := Exts.cell hx c4
      have hlr : ab < wr.heap.size := World.block_lt_of_cell? wr _ d0
      have hH : w.heap.size ≤ wr.heap.size := hx.below.size
      clear hx hstep ha c0 c1 c2 c3 c4 hkeep hok
      go_wp2_with (first | (go_at_call 12; ((with_reducible refine hcall.mono ?_); rintro e w2 ⟨rfl, hA⟩)))
      obtain ⟨O2, S2, hd2, ho2, hs2, ht2⟩ := hA
      refine ⟨⟨k + 1, by go_num, by omega, ((Touch.of_exts (O := O) HX.out).then ht2).toExts ho, ?_⟩, by simp [intOf]; omega⟩
      rw [HST.out]
      exact ⟨O2, S2, hd2, fun j hj => (ho2 j hj).elim (fun h => ho j h) (fun h => by omega), fun j hj => (hs2 j hj).elim (fun h => hs j h) (fun h => by omega)⟩
    · obtain rfl : k = n := by omega
      clear hx
      go_wp2
      go_ret
      have e1 : l.take k = l := List.take_of_length_le (by rw [HN.out]; exact Nat.le_refl _)
      rw [e1] at hmine
      obtain ⟨O, S, hd, ho, hs⟩ := hmine
      exact ⟨b, rfl, HX.out, O, S, hd.more (by omega) (by omega), ho, hs⟩
end Go.Proofs.Ytgeoompgakdbiaa

/- after, byteAt, same. -/
namespace Go.Proofs.Ytgeoompgakdbiaa
open Go.RowKit Go.Maps
set_option linter.unusedSimpArgs false
set_option linter.unusedVariables false
set_option maxRecDepth 100000
def upD (M : Mod) : Mod := { M with down := false }
def afterD (M : Mod) (f : Int) (kl : List Int) : ByteArray × Bool := ((readD (upD (crashD M kl)) f 0 16777216).1, (readD (upD (crashD M kl)) f 0 16777216).2 == 0)
set_option maxHeartbeats 1000000
theorem after23 {w : World} {b c : Nat} {M : Mod} {O S S1 : Nat → Prop} (hd : DiskAt w b M O S c) (f : Int) {kv : Value} {kl : List Int} (hk : RowF S1 1 w kv kl.length (intsC kl)) (hS1 : ∀ k, S1 k → k < w.heap.size) :
    Calls Try.prog 23 #[.pointer (some ⟨b, 0, none⟩), .int .i64 f, kv] w fun e w' => e = .returned (.tuple #[.string (afterD M f kl).1, .bool (afterD M f kl).2]) ∧ Exts w w' := by
  have HK := Lib.hid hk
  have i0 : I64 0 := by constructor <;> decide
  have i1 : I64 16777216 := by constructor <;> decide
  clear hk
  go_enter Try.func23, Try.ntmps23
  go_wp2_with (first | (go_at_call 18; ((with_reducible refine (copy18 hd).mono ?_); rintro e w1 ⟨b1, rfl, hx1, hd1⟩; (have h25 := crash25 hd1 (HK.out.exts hx1) (fun k hk ho => Nat.not_lt.2 ho.1 (hS1 k hk))); (have HX1 := Lib.hid hx1); clear hx1)) | (go_at_call 25; ((with_reducible refine h25.mono ?_); rintro e w2 ⟨rfl, ⟨O2, S2, hd2, ho2, hs2, ht2⟩⟩)) | (go_at_call 26; ((with_reducible refine (start26 hd2).mono ?_); rintro e w3 ⟨rfl, hd3, ht3⟩)) | (go_at_call 20; ((with_reducible refine (read20 (M := upD (crashD M kl)) hd3 f 0 16777216 i0 i1).mono ?_); rintro e w4 ⟨rfl, rfl⟩)))
  go_ret2
  refine ⟨rfl, Touch.toExts (O := fun k => w.heap.size ≤ k) (((Touch.of_exts HX1.out).then (ht2.mono (fun k h => h.1))).then (ht3.mono (fun k h => (ho2 k h).elim (fun h => h.1) (fun h => Nat.le_trans HX1.out.below.size h)))) (fun _ h => h)⟩
def byteB (s : ByteArray) (i : Int) : Int := if 0 ≤ i ∧ i < s.size then ((s.data.getD i.toNat 0).toNat : Int) else 0
theorem byteAt24 (w : World) (s : ByteArray) (i : Int) : Calls Try.prog 24 #[.string s, .int .i64 i] w fun e w' => e = .returned (.int .u8 (byteB s i)) ∧ w = w' := by
  by_cases h0 : i < 0
  · have HB := Lib.hid (show byteB s i = 0 by unfold byteB; rw [if_neg (by omega)])
    have y1 : decide (i < 0) = true := by simpa using h0
    clear h0
    go_enter Try.func24, Try.ntmps24
    go_wp2
    go_ret
    rw [HB.out]
    exact ⟨rfl, rfl⟩
  · have y1 : decide (i < 0) = false := by simpa using h0
    obtain ⟨n, rfl⟩ := Int.eq_ofNat_of_zero_le (show 0 ≤ i by omega)
    by_cases h1 : s.size ≤ n
    · have HB := Lib.hid (show byteB s n = 0 by unfold byteB; rw [if_neg (by omega)])
      have y2 : decide (s.size ≤ n) = true := by simpa using h1
      clear h0 h1
      go_enter Try.func24, Try.ntmps24
      go_wp2
      go_ret
      rw [HB.out]
      exact ⟨rfl, rfl⟩
    · have y2 : decide (s.size ≤ n) = false := by simpa using h1
      have hn : n < s.size := by omega
      clear h0 h1
      go_enter Try.func24, Try.ntmps24
      go_wp2
      go_ret
      have hb : byteB s n = (s[n].toNat : Int) := by
        unfold byteB
        rw [if_pos (by omega), Int.toNat_natCast]
        have : s.data.getD n 0 = s[n] := by
          rw [Array.getD_eq_getD_getElem?, Array.getElem?_eq_getElem (by simpa using hn)]
          rfl
        rw [this]
      rw [hb]
      exact ⟨rfl, rfl⟩
end Go.Proofs.Ytgeoompgakdbiaa
