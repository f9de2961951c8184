/- Lemmas that the laws of this seat share, 4 texts in one: CircPlain, Home, Circ, Clo. No condition of their own. -/
import Derived.Test.YtgmjcgjbbogefaaGreatM7
import Derived.Deep.LoopGhost
import Derived.Test.YtgmjcgjbbogefaaGreatM2
import Derived.Deep.RegionHeld3
import Derived.Deep.AppendLies
/- The least of the smallest circles, as package factor searches it. Plain. -/
namespace Go.Proofs.YtgmjcgjbbogefaaGreat
open Go.RowKit
set_option linter.unusedSimpArgs false
set_option linter.unusedVariables false

/-- The search for the smallest circle, ahead of the pair (s, v). -/
structure Best (f : Rel) (s v best at' : Nat) : Prop where
  le : best ≤ 13
  lt : at' < 12
  pos : 1 ≤ best
  found : best < 13 → at' ≤ s ∧ Wk f at' best at' at'
  low : ∀ s' c n, s' ≤ c → c < 12 → f s' c = true → n ≤ 12 → Wk f s' n c s' → (s' < s ∨ (s' = s ∧ c < v)) → best ≤ n + 1
  first : best < 13 → ∀ s' c n, s' < at' → s' ≤ c → c < 12 → f s' c = true → n ≤ 12 → Wk f s' n c s' → best < n + 1
theorem Best.start (f : Rel) : Best f 0 0 13 0 := ⟨Nat.le_refl _, by omega, by omega, fun h => by omega, fun s' c n _ _ _ _ _ h => by omega, fun h => by omega⟩
theorem Best.yes {f : Rel} {s v best at' : Nat} {d : Arr} (h : Best f s v best at') (hd : IsDist f s d) (hs : s ≤ v) (hv : v < 12) (hf : f s v = true) (hlt : d v + 1 < best) : Best f s (v + 1) (d v + 1) s := by
  have hle := h.le
  refine ⟨by omega, by omega, by omega, fun _ => ⟨Nat.le_refl _, v, hs, hv, hf, (hd.wk v hv (by omega)).2⟩, fun s' c n h1 h2 h3 h4 h5 h6 => ?_, fun _ s' c n h0 h1 h2 h3 h4 h5 => ?_⟩
  · by_cases hc : s' = s ∧ c = v
    · obtain ⟨rfl, rfl⟩ := hc
      have := hd.up n c h4 h1 h2 h5
      omega
    · have := h.low s' c n h1 h2 h3 h4 h5 (by omega)
      omega
  · have := h.low s' c n h1 h2 h3 h4 h5 (.inl h0)
    omega
theorem Best.no {f : Rel} {s v best at' : Nat} {d : Arr} (h : Best f s v best at') (hd : IsDist f s d) (hs : s ≤ v) (hv : v < 12) (hn : f s v = false ∨ ¬ d v + 1 < best) : Best f s (v + 1) best at' := by
  refine ⟨h.le, h.lt, h.pos, h.found, fun s' c n h1 h2 h3 h4 h5 h6 => ?_, h.first⟩
  by_cases hc : s' = s ∧ c = v
  · obtain ⟨rfl, rfl⟩ := hc
    rcases hn with hn | hn
    · rw [hn] at h3; cases h3
    · have := hd.up n c h4 h1 h2 h5
      omega
  · exact h.low s' c n h1 h2 h3 h4 h5 (by omega)
theorem Best.row {f : Rel} {s best at' : Nat} (h : Best f s 12 best at') : Best f (s + 1) (s + 1) best at' :=
  ⟨h.le, h.lt, h.pos, fun hb => ⟨by have := (h.found hb).1; omega, (h.found hb).2⟩, fun s' c n h1 h2 h3 h4 h5 h6 => h.low s' c n h1 h2 h3 h4 h5 (by omega), h.first⟩
/-- A smallest circle: its length, and the least value in it, as small as can be. -/
structure MinCyc (f : Rel) (best at' : Nat) : Prop where
  lt : at' < 12
  pos : 1 ≤ best
  le : best ≤ 12
  wk : Wk f at' best at' at'
  low : ∀ s n, s < 12 → 1 ≤ n → Wk f s n s s → best ≤ n
  first : ∀ s n, s < at' → 1 ≤ n → Wk f s n s s → best < n
theorem Best.min {f : Rel} {v best at' : Nat} (h : Best f 12 v best at') (hb : best < 13) : MinCyc f best at' := by
  refine ⟨h.lt, h.pos, by omega, (h.found hb).2, fun s n hs hn hw => ?_, fun s n hs hn hw => ?_⟩
  · obtain ⟨n, rfl⟩ : ∃ m, n = m + 1 := ⟨n - 1, by omega⟩
    obtain ⟨c, h1, h2, h3, h4⟩ := hw
    by_cases hn12 : n ≤ 12
    · exact h.low s c n h1 h2 h3 hn12 h4 (.inl hs)
    · omega
  · obtain ⟨n, rfl⟩ : ∃ m, n = m + 1 := ⟨n - 1, by omega⟩
    obtain ⟨c, h1, h2, h3, h4⟩ := hw
    by_cases hn12 : n ≤ 12
    · exact h.first hb s c n hs h1 h2 h3 hn12 h4
    · omega
/-- No circle of at most 12 pairs. -/
def NoCyc (f : Rel) : Prop := ∀ s n, s < 12 → 1 ≤ n → n ≤ 12 → ¬ Wk f s n s s
theorem Best.none {f : Rel} {v at' : Nat} (h : Best f 12 v 13 at') : NoCyc f := fun s n hs hn h12 hw => by
  obtain ⟨n, rfl⟩ : ∃ m, n = m + 1 := ⟨n - 1, by omega⟩
  obtain ⟨c, h1, h2, h3, h4⟩ := hw
  have := h.low s c n h1 h2 h3 (by omega) h4 (.inl hs)
  omega

/-- The next value of the circle: the least one that lies on a shortest way back. -/
structure IsNext (f : Rel) (at' : Nat) (d : Arr) (u m v : Nat) : Prop where
  lo : at' ≤ v
  lt : v < 12
  pair : f u v = true
  dist : d v = m
  least : ∀ x, at' ≤ x → x < v → ¬ (f u x = true ∧ d x = m)
structure CirPre (f : Rel) (best at' : Nat) (d : Arr) (C : List Nat) (last : Nat) : Prop where
  len : 1 ≤ C.length
  le : C.length ≤ best
  head : C[0]? = some at'
  next : ∀ i, i + 1 < C.length → ∃ u v, C[i]? = some u ∧ C[i + 1]? = some v ∧ IsNext f at' d u (best - (i + 1)) v
  lst : C[C.length - 1]? = some last
  lt : last < 12
  lo : at' ≤ last
  fro : Wk f at' (C.length - 1) at' last
  back : Wk f at' (best - C.length + 1) last at'
theorem CirPre.start {f : Rel} {best at' : Nat} {d : Arr} (h : MinCyc f best at') : CirPre f best at' d [at'] at' :=
  ⟨by simp, h.pos, rfl, fun i hi => by simp at hi, rfl, h.lt, Nat.le_refl _, rfl, by
    have := h.pos
    rw [show best - [at'].length + 1 = best by simp; omega]
    exact h.wk⟩
theorem CirPre.ex {f : Rel} {best at' : Nat} {d : Arr} {C : List Nat} {last : Nat} (h : CirPre f best at' d C last) (hm : MinCyc f best at') (hd : IsDist f at' d) (hlt : C.length < best) :
    ∃ c, at' ≤ c ∧ c < 12 ∧ f last c = true ∧ d c = best - C.length := by
  obtain ⟨c, h1, h2, h3, h4⟩ := h.back
  have h12 := hm.le
  have hlen := h.len
  have hup := hd.up _ c (by omega) h1 h2 h4
  refine ⟨c, h1, h2, h3, ?_⟩
  refine Classical.byContradiction fun hne => ?_
  have hw := (hd.wk c h2 (by omega)).2
  have hall : Wk f at' (C.length - 1 + (d c + 1)) at' at' := h.fro.app ⟨c, h1, h2, h3, hw⟩
  have := hm.low at' _ hm.lt (by omega) hall
  omega
theorem CirPre.snoc {f : Rel} {best at' : Nat} {d : Arr} {C : List Nat} {last v : Nat} (h : CirPre f best at' d C last) (hm : MinCyc f best at') (hd : IsDist f at' d) (hlt : C.length < best) (hn : IsNext f at' d last (best - C.length) v) : CirPre f best at' d (C ++ [v]) v := by
  have hlen := h.len
  have h12 := hm.le
  refine ⟨by simp, by simp; omega, ?_, fun i hi => ?_, by simp, hn.lt, hn.lo, ?_, ?_⟩
  · rw [List.getElem?_append_left (by omega)]
    exact h.head
  · rw [List.length_append, List.length_singleton] at hi
    by_cases hi2 : i + 1 < C.length
    · obtain ⟨u, x, h1, h2, h3⟩ := h.next i hi2
      exact ⟨u, x, by rw [List.getElem?_append_left (by omega)]; exact h1, by rw [List.getElem?_append_left hi2]; exact h2, h3⟩
    · have hi3 : i + 1 = C.length := by omega
      refine ⟨last, v, ?_, ?_, by rw [hi3]; exact hn⟩
      · rw [List.getElem?_append_left (by omega), show i = C.length - 1 by omega]
        exact h.lst
      · rw [List.getElem?_append_right (by omega), hi3]
        simp
  · have : Wk f at' (C.length - 1 + 1) at' v := h.fro.app ⟨v, hn.lo, hn.lt, hn.pair, rfl⟩
    rw [List.length_append, List.length_singleton, Nat.add_sub_cancel]
    rw [Nat.sub_add_cancel hlen] at this
    exact this
  · have := (hd.wk v hn.lt (by rw [hn.dist]; omega)).2
    rw [hn.dist] at this
    rw [List.length_append, List.length_singleton, show best - (C.length + 1) + 1 = best - C.length by omega]
    exact this
/-- What circle hands back. -/
def IsCirc (f : Rel) (C : List Nat) : Prop :=
  (C = [] ∧ NoCyc f) ∨ (∃ best at' d last, MinCyc f best at' ∧ IsDist f at' d ∧ C.length = best ∧ CirPre f best at' d C last)
end Go.Proofs.YtgmjcgjbbogefaaGreat


/- home of package factor. -/
namespace Go.Proofs.YtgmjcgjbbogefaaGreat
open Go.RowKit
set_option linter.unusedSimpArgs false
set_option linter.unusedVariables false
@[go_sem] theorem arrC_set1 (d : Arr) (a : Nat) (v : Nat) (ha : a < 12) : (arrC d).setIfInBounds a (.int .i64 ((v : Int) + 1)) = arrC (updA d a (v + 1)) := arrC_set d a (v + 1) ha
@[go_sem] theorem arrC_set13 (d : Arr) (a : Nat) (ha : a < 12) : (arrC d).setIfInBounds a (.int .i64 13) = arrC (updA d a 13) := arrC_set d a 13 ha
@[go_sem] theorem arrC_set0 (d : Arr) (a : Nat) (ha : a < 12) : (arrC d).setIfInBounds a (.int .i64 0) = arrC (updA d a 0) := arrC_set d a 0 ha
def fillA (k : Nat) : Arr := fun v => if v < k then 13 else 0
theorem fill_next (k : Nat) : updA (fillA k) k 13 = fillA (k + 1) := by
  funext v
  unfold updA fillA
  by_cases h : v = k
  · subst h; simp
  · rw [if_neg h]
    by_cases h2 : v < k
    · rw [if_pos h2, if_pos (by omega)]
    · rw [if_neg h2, if_neg (by omega)]
theorem fill_all (to : Nat) : arrC (updA (fillA 12) to 0) = arrC (updA (fun _ => 13) to 0) := arrC_inj fun a ha => by simp [updA, fillA, ha]
theorem relax_no {f : Rel} {to a b : Nat} {d : Arr} (h : f a b = false ∨ a = to) : relax f to a b d = d := if_neg (by
  rintro ⟨h1, h2⟩
  rcases h with h | h
  · rw [h1] at h; cases h
  · exact h2 h)
theorem relax_lt {f : Rel} {to a b : Nat} {d : Arr} (h1 : f a b = true) (h2 : a ≠ to) (h3 : d b + 1 < d a) : relax f to a b d = updA d a (d b + 1) := by
  unfold relax
  rw [if_pos ⟨h1, h2⟩, Nat.min_eq_right (by omega)]
theorem relax_ge {f : Rel} {to a b : Nat} {d : Arr} (h1 : f a b = true) (h2 : a ≠ to) (h3 : ¬ d b + 1 < d a) : relax f to a b d = updA d a (d a) := by
  unfold relax
  rw [if_pos ⟨h1, h2⟩, Nat.min_eq_left (by omega)]
set_option maxRecDepth 100000
set_option maxHeartbeats 2000000
theorem home41 (f : Rel) (to : Nat) (hto : to < 12) (w : World) : Calls Tryz.prog 74 #[.agg (matC f), .int .i64 to] w fun e w' => ∃ d, e = .returned (.agg (arrC d)) ∧ IsDist f to d ∧ Exts w w' := by
  go_enter Tryz.func74, Tryz.ntmps74
  go_wp2
  go_loopw [9] (fun i wr => ∃ (k : Nat), k ≤ 12 ∧ i = .int .i64 k ∧ Exts (((w.alloc (.cells (matC f) 133)).alloc (.cells (arrC fun _ => 0) 164)).alloc (.cells (arrC (fillA k)) 164)) wr) (fun i _ => 12 - (intOf i).toNat)
  case atStart => exact ⟨0, by omega, rfl, Exts.refl _⟩
  case round =>
    obtain ⟨k, hk, rfl, x, rfl⟩ := hrel
    by_cases hlt : k < 12
    · have HN := Lib.hid (fill_next k)
      go_wp2
      rw [HN.out]
      refine ⟨⟨k + 1, by omega, by go_num, (by repeat (first | exact Exts.refl _ | apply Exts.andR | apply Exts.alloc | apply Exts.wext | apply Exts.drew | apply Exts.drewN))⟩, ?_⟩
      simp [intOf]; omega
    · obtain rfl : k = 12 := by omega
      go_wp2
      rw [fill_all]
      go_wp2
      go_loopw [17] (fun i wr => ∃ (r : Nat) (d : Arr), r ≤ 12 ∧ i = .int .i64 r ∧ Home f to r to to d ∧ Exts (((w.alloc (.cells (matC f) 133)).alloc (.cells (arrC fun _ => 0) 164)).alloc (.cells (arrC d) 164)) wr) (fun i _ => 12 - (intOf i).toNat)
      case atStart => exact ⟨0, _, by omega, rfl, Home.start f to hto, (by repeat (first | exact Exts.refl _ | apply Exts.andR | apply Exts.alloc | apply Exts.wext | apply Exts.drew | apply Exts.drewN))⟩
      case round =>
        obtain ⟨r, d, hr, rfl, hh, x, rfl⟩ := hrel
        have HH := Lib.hid hh
        clear hh
        by_cases hrlt : r < 12
        · go_wp2
          go_loopw [7] (fun i wr => ∃ (a : Nat) (d : Arr), to ≤ a ∧ a ≤ 12 ∧ i = .int .i64 a ∧ Home f to r a to d ∧ Exts (((w.alloc (.cells (matC f) 133)).alloc (.cells (arrC fun _ => 0) 164)).alloc (.cells (arrC d) 164)) wr) (fun i _ => 12 - (intOf i).toNat)
          case atStart => exact ⟨to, d, by omega, by omega, rfl, HH.out, (by repeat (first | exact Exts.refl _ | apply Exts.andR | apply Exts.alloc | apply Exts.wext | apply Exts.drew | apply Exts.drewN))⟩
          case round =>
            obtain ⟨a, d, hta, ha, rfl, hh, x, rfl⟩ := hrel
            have HH := Lib.hid hh
            clear hh
            by_cases halt : a < 12
            · go_wp2
              go_loopw [8] (fun i wr => ∃ (b : Nat) (d : Arr), to ≤ b ∧ b ≤ 12 ∧ i = .int .i64 b ∧ Home f to r a b d ∧ Exts (((w.alloc (.cells (matC f) 133)).alloc (.cells (arrC fun _ => 0) 164)).alloc (.cells (arrC d) 164)) wr) (fun i _ => 12 - (intOf i).toNat)
              case atStart => exact ⟨to, d, by omega, by omega, rfl, HH.out, (by repeat (first | exact Exts.refl _ | apply Exts.andR | apply Exts.alloc | apply Exts.wext | apply Exts.drew | apply Exts.drewN))⟩
              case round =>
                obtain ⟨b, d, htb, hb, rfl, hh, x, rfl⟩ := hrel
                have HH := Lib.hid hh
                by_cases hblt : b < 12
                · have hda := hh.le a halt
                  have hdb := hh.le b hblt
                  have HN := Lib.hid (hh.next hta halt htb hblt)
                  clear hh
                  cases hf : f a b with
                  | false =>
                    have HE := Lib.hid (relax_no (d := d) (to := to) (.inl hf))
                    go_wp2
                    refine ⟨⟨b + 1, d, by omega, by omega, by go_num, by have := HN.out; rw [HE.out] at this; exact this, (by repeat (first | exact Exts.refl _ | apply Exts.andR | apply Exts.alloc | apply Exts.wext | apply Exts.drew | apply Exts.drewN))⟩, ?_⟩
                    simp [intOf]; omega
                  | true =>
                    by_cases hat : a = to
                    · have q1 : ((a : Int) == (to : Int)) = true := by simp; omega
                      have q2 : ((a : Int) != (to : Int)) = false := by simp; omega
                      have q3 : (a == to) = true := by simpa using hat
                      have q4 : (a != to) = false := by simpa using hat
                      have HE := Lib.hid (relax_no (f := f) (b := b) (d := d) (.inr hat))
                      clear hat
                      go_wp2
                      refine ⟨⟨b + 1, d, by omega, by omega, by go_num, by have := HN.out; rw [HE.out] at this; exact this, (by repeat (first | exact Exts.refl _ | apply Exts.andR | apply Exts.alloc | apply Exts.wext | apply Exts.drew | apply Exts.drewN))⟩, ?_⟩
                      simp [intOf]; omega
                    · have q1 : ((a : Int) == (to : Int)) = false := by simp; omega
                      have q2 : ((a : Int) != (to : Int)) = true := by simp; omega
                      have q3 : (a == to) = false := by simpa using hat
                      have q4 : (a != to) = true := by simpa using hat
                      by_cases hm : d b + 1 < d a
                      · have hm' : (d b : Int) + 1 < (d a : Int) := by omega
                        have HE := Lib.hid (relax_lt hf hat hm)
                        clear hat
                        go_wp2
                        go_region
                        go_wp2
                        refine ⟨⟨b + 1, _, by omega, by omega, by go_num, by have := HN.out; rw [HE.out] at this; exact this, (by repeat (first | exact Exts.refl _ | apply Exts.andR | apply Exts.alloc | apply Exts.wext | apply Exts.drew | apply Exts.drewN))⟩, ?_⟩
                        simp [intOf]; omega
                      · have hm' : (d a : Int) ≤ (d b : Int) + 1 := by omega
                        have HE := Lib.hid (relax_ge hf hat hm)
                        clear hat hm
                        go_wp2
                        go_region
                        go_wp2
                        go_roundw
                        case rel => exact ⟨b + 1, _, by omega, by omega, by go_num, by have := HN.out; rw [HE.out] at this; exact this, (by repeat (first | exact Exts.refl _ | apply Exts.andR | apply Exts.alloc | apply Exts.wext | apply Exts.drew | apply Exts.drewN))⟩
                        case measure => simp [intOf]; omega
                · obtain rfl : b = 12 := by omega
                  have HN := Lib.hid hh.row
                  clear hh
                  go_wp2
                  refine ⟨⟨a + 1, d, by omega, by omega, by go_num, HN.out, (by repeat (first | exact Exts.refl _ | apply Exts.andR | apply Exts.alloc | apply Exts.wext | apply Exts.drew | apply Exts.drewN))⟩, ?_⟩
                  simp [intOf]; omega
            · obtain rfl : a = 12 := by omega
              have HN := Lib.hid HH.out.round
              go_wp2
              refine ⟨⟨r + 1, d, by omega, by go_num, HN.out, (by repeat (first | exact Exts.refl _ | apply Exts.andR | apply Exts.alloc | apply Exts.wext | apply Exts.drew | apply Exts.drewN))⟩, ?_⟩
              simp [intOf]; omega
        · obtain rfl : r = 12 := by omega
          go_wp2
          refine bodyPost_ret (v := .agg (arrC d)) (res60 rfl _ _ _ _ rfl (by simp [go_sem]) (by simp [go_sem])) rfl ⟨d, rfl, HH.out.dist, (by repeat (first | exact Exts.refl _ | apply Exts.andR | apply Exts.alloc | apply Exts.wext | apply Exts.drew | apply Exts.drewN))⟩
end Go.Proofs.YtgmjcgjbbogefaaGreat


/- circle of package factor. -/
namespace Go.Proofs.YtgmjcgjbbogefaaGreat
open Go.RowKit
set_option linter.unusedSimpArgs false
set_option linter.unusedVariables false

set_option maxRecDepth 100000
set_option maxHeartbeats 2000000
theorem circle33 (f : Rel) (w : World) : Calls Tryz.prog 50 #[.agg (matC f)] w fun e w' => ∃ (C : List Nat) (ro : Option Addr) (rc : Nat), e = .returned (.slice ro C.length rc) ∧ IsCirc f C ∧ Exts w w' ∧ Ints (fun b => w.heap.size ≤ b) w' ro C.length rc (C.map Int.ofNat) := by
  obtain ⟨i0, hi, hz0, hz1, hz2⟩ := info_parts info3
  go_enter Tryz.func50, Tryz.ntmps50
  go_wp2
  go_loopw [3, 4, 11] (fun b a i wr => ∃ (s best at' : Nat), s ≤ 12 ∧ i = .int .i64 s ∧ b = .int .i64 best ∧ a = .int .i64 at' ∧ Best f s s best at' ∧ Exts (w.alloc (.cells (matC f) 133)) wr) (fun _ _ i _ => 12 - (intOf i).toNat)
  case atStart => exact ⟨0, 13, 0, by omega, rfl, rfl, rfl, Best.start f, Exts.refl _⟩
  case round =>
    obtain ⟨s, best, at', hs, rfl, rfl, rfl, hb, x, rfl⟩ := hrel
    have HB := Lib.hid hb
    clear hb
    by_cases hlt : s < 12
    · go_wp2_with (first | (go_at_call 74; ((with_reducible refine (home41 f s hlt _).mono ?_); rintro e w' ⟨d, rfl, hd, x1, rfl⟩; (have HD := Lib.hid hd); clear hd)))
      go_loopw [3, 4, 7] (fun b a i wr => ∃ (v best at' : Nat), s ≤ v ∧ v ≤ 12 ∧ i = .int .i64 v ∧ b = .int .i64 best ∧ a = .int .i64 at' ∧ Best f s v best at' ∧ Exts ((wext (w.alloc (.cells (matC f) 133)) (x.and x1)).alloc (.cells (arrC d) 164)) wr) (fun _ _ i _ => 12 - (intOf i).toNat)
      case atStart => exact ⟨s, best, at', by omega, by omega, rfl, rfl, rfl, HB.out, Exts.refl _⟩
      case round =>
        clear HB
        obtain ⟨v, best, at', hsv, hv, rfl, rfl, rfl, hb, y, rfl⟩ := hrel
        have hb13 := hb.le
        have HB := Lib.hid hb
        clear hb
        by_cases hvlt : v < 12
        · have hdv := HD.out.le v hvlt
          cases hf : f s v with
          | false =>
            have HN := Lib.hid (HB.out.no HD.out hsv hvlt (.inl hf))
            go_wp2
            refine ⟨⟨v + 1, best, at', by omega, by omega, by go_num, rfl, rfl, HN.out, (by repeat (first | exact Exts.refl _ | apply Exts.andR | apply Exts.alloc | apply Exts.wext | apply Exts.drew | apply Exts.drewN))⟩, ?_⟩
            simp [intOf]; omega
          | true =>
            by_cases hm : d v + 1 < best
            · have hm' : decide ((d v : Int) + 1 < (best : Int)) = true := by simp; omega
              have HN := Lib.hid (HB.out.yes HD.out hsv hvlt hf hm)
              clear hm
              go_wp2
              refine ⟨⟨v + 1, d v + 1, s, by omega, by omega, by go_num, by go_num, rfl, HN.out, (by repeat (first | exact Exts.refl _ | apply Exts.andR | apply Exts.alloc | apply Exts.wext | apply Exts.drew | apply Exts.drewN))⟩, ?_⟩
              simp [intOf]; omega
            · have hm' : decide ((d v : Int) + 1 < (best : Int)) = false := by simp; omega
              have HN := Lib.hid (HB.out.no HD.out hsv hvlt (.inr hm))
              clear hm
              go_wp2
              refine ⟨⟨v + 1, best, at', by omega, by omega, by go_num, rfl, rfl, HN.out, (by repeat (first | exact Exts.refl _ | apply Exts.andR | apply Exts.alloc | apply Exts.wext | apply Exts.drew | apply Exts.drewN))⟩, ?_⟩
              simp [intOf]; omega
        · obtain rfl : v = 12 := by omega
          have HN := Lib.hid HB.out.row
          go_wp2
          refine ⟨⟨s + 1, best, at', by omega, by go_num, rfl, rfl, HN.out, (by repeat (first | exact Exts.refl _ | apply Exts.andR | apply Exts.alloc | apply Exts.wext | apply Exts.drew | apply Exts.drewN))⟩, ?_⟩
          simp [intOf]; omega
    · obtain rfl : s = 12 := by omega
      by_cases hb13 : best = 13
      · subst hb13
        have HR := Lib.hid HB.out.none
        go_wp2
        go_ret
        exact ⟨[], none, 0, rfl, .inl ⟨rfl, HR.out⟩, (by repeat (first | exact Exts.refl _ | apply Exts.andR | apply Exts.alloc | apply Exts.wext | apply Exts.drew | apply Exts.drewN)), RowF.nil _ _ _⟩
      · have hle := HB.out.le
        have hm := HB.out.min (by omega)
        have HM := Lib.hid hm
        have ha12 := hm.lt
        have hb12 := hm.le
        have q1 : ((best : Int) == 13) = false := by simp; omega
        have q2 : (best == 13) = false := by simpa using hb13
        clear hm
        go_wp2_with (first | (go_at_call 74; ((with_reducible refine (home41 f at' ha12 _).mono ?_); rintro e w' ⟨d, rfl, hd, x1, rfl⟩; (have HD := Lib.hid hd); clear hd)))
        go_loopg [9] best (fun k o wr => ∃ (C : List Nat) (last : Nat), CirPre f best at' d C last ∧ best - C.length ≤ k ∧ Exts w wr ∧ wr.ownsRow w.heap.size 3 1 o C.length (intsC (C.map Int.ofNat)) ∧ wr.heap[w.heap.size]? = some (.cells (matC f) 133 (0, 0)) ∧ wr.heap[w.heap.size + 1 + x.bs.size + x1.bs.size + 1]? = some (.cells (arrC d) 164 (0, 0)))
        case atStart =>
          refine ⟨[at'], at', CirPre.start HM.out, by simp, (by repeat (first | exact Exts.refl _ | apply Exts.andR | apply Exts.alloc | apply Exts.wext | apply Exts.drew | apply Exts.drewN)), ⟨by simp, .inr ⟨w.heap.size + 1 + x.bs.size + x1.bs.size, 1, #[.int .i64 at'], rfl, by omega, ?_, Nat.le_refl _, by decide, rfl, rfl⟩⟩, ?_, ?_⟩
          · rw [heap_alloc_if, if_pos (by simp), heap_alloc_if, if_neg (by simp), if_pos (by simp)]
          · rw [heap_alloc_if, if_pos (by simp; omega), heap_alloc_if, if_pos (by simp; omega), wext_heap_old _ _ _ (by simp), heap_alloc_if, if_neg (by omega), if_pos rfl]
          · rw [heap_alloc_if, if_neg (by simp), if_pos (by simp)]
        case round =>
          obtain ⟨C, last, hcp, hk, hwr, hown, hm0, hd0⟩ := hrel
          obtain ⟨q, hq⟩ : ∃ q, C.length = q + 1 := ⟨C.length - 1, by have := hcp.len; omega⟩
          obtain ⟨_, ⟨h1, _⟩ | ⟨g, cap, cur, rfl, hgb, hg, hcap, hmax, hcs, htk⟩⟩ := id hown
          · omega
          · have HCP := Lib.hid hcp
            have HO := Lib.hid hown
            have HWR := Lib.hid hwr
            have HQ := Lib.hid hq
            have hl12 := hcp.lt
            have hle := hcp.le
            have HK := Lib.hid hk
            have cl : wr.cell? ⟨g, q, none⟩ = some (.int .i64 last) := by
              have h2 := hcp.lst
              rw [hq, Nat.add_sub_cancel] at h2
              have h3 : (intsC (C.map Int.ofNat))[q]? = some (.int .i64 last) := by simp [intsC, h2]
              rw [← htk, List.getElem?_take_of_lt (by omega)] at h3
              rw [cell_of_row wr g q cur 3 (0, 0) hg]
              simpa using h3
            have lg : g < wr.heap.size := (Array.getElem?_eq_some_iff.1 hg).1
            have lm : w.heap.size < wr.heap.size := (Array.getElem?_eq_some_iff.1 hm0).1
            have ld : w.heap.size + 1 + x.bs.size + x1.bs.size + 1 < wr.heap.size := (Array.getElem?_eq_some_iff.1 hd0).1
            have HG := Lib.hid hg
            have HM0 := Lib.hid hm0
            have HGB := Lib.hid hgb
            have HD0 := Lib.hid hd0
            rw [hq] at hle ⊢
            clear hcp hown hwr hq hm0 hd0 hg hcs htk hk
            by_cases hlt : q + 1 < best
            · obtain ⟨c, hc1, hc2, hc3, hc4⟩ := HCP.out.ex HM.out HD.out (by rw [HQ.out]; exact hlt)
              rw [HQ.out] at hc4
              have HC3 := Lib.hid hc3
              have HC4 := Lib.hid hc4
              clear hc3 hc4
              go_wp2
              go_loopg [9, 10] 12 (fun k o i wr2 => ∃ v, at' ≤ v ∧ v ≤ c ∧ i = .int .i64 v ∧ o = .slice (some ⟨g, 0, none⟩) (q + 1) cap ∧ wr2 = wr ∧ 12 - v ≤ k ∧ ∀ z, at' ≤ z → z < v → ¬ (f last z = true ∧ d z = best - (q + 1)))
              case atStart => exact ⟨at', Nat.le_refl _, hc1, rfl, rfl, rfl, by omega, fun z h1 h2 => by omega⟩
              case round =>
                rename_i gk0 _ _ _ _ gk1 _ _ _ _ _ _
                obtain ⟨v, hv1, hv2, rfl, rfl, rfl, hvk, hin⟩ := hrel
                have HI := Lib.hid hin
                clear hin
                have hv12 : v < 12 := by omega
                have c1 : wr.cell? ⟨w.heap.size, last * 12 + v, none⟩ = some (.bool (f last v)) := by rw [cell_of_row _ _ _ _ _ _ HM0.out]; exact matC_get f last v hl12 hv12
                have c2 : wr.cell? ⟨w.heap.size + 1 + x.bs.size + x1.bs.size + 1, v, none⟩ = some (.int .i64 (d v)) := by rw [cell_of_row _ _ _ _ _ _ HD0.out]; exact arrC_get d v hv12
                cases hf : f last v with
                | false =>
                  have HF := Lib.hid hf
                  rw [hf] at c1
                  clear hf
                  go_wp2
                  go_roundg (12 - (v + 1))
                  case measure => omega
                  case rel =>
                    refine ⟨v + 1, by omega, ?_, by go_num, rfl, rfl, Nat.le_refl _, fun z h1 h2 => ?_⟩
                    · by_cases hvc : v = c
                      · rw [hvc, HC3.out] at HF
                        exact absurd HF.out (by simp)
                      · omega
                    · by_cases hz : z = v
                      · rw [hz]
                        rintro ⟨h3, h4⟩
                        rw [HF.out] at h3; cases h3
                      · exact HI.out z h1 (by omega)
                | true =>
                  have HF := Lib.hid hf
                  rw [hf] at c1
                  clear hf
                  by_cases he : d v = best - (q + 1)
                  · have q3 : ((d v : Int) == (best : Int) - ((q : Int) + 1)) = true := by simp; omega
                    have HN := Lib.hid (HCP.out.snoc HM.out HD.out (by rw [HQ.out]; exact hlt) ⟨hv1, hv12, HF.out, by rw [HQ.out]; exact he, by rw [HQ.out]; exact HI.out⟩)
                    clear he
                    go_wp2_with (at_builtin; refine wpList_append_lies _ rfl (.tmp 75) (.tmp 77) 24 rfl w.heap.size 3 i0 _ 1 8 Tryz.underlying24 hi hz0 hz1 hz2 rfl (by decide) (.slice (some ⟨g, 0, none⟩) (q + 1) cap) (q + 1) (intsC (C.map Int.ofNat)) rfl (ownsRow_exts (HQ.out ▸ HO.out) (by repeat (first | exact Exts.refl _ | apply Exts.andR | apply Exts.alloc | apply Exts.wext | apply Exts.drew | apply Exts.drewN))) ⟨_, 0, none⟩ 1 1 [.int .i64 v] rfl rfl (by intro j u hj; match j, hj with | 0, hj => (simp at hj; subst hj; simp [go_sem])) (int_one _) (by decide) (by unfold maxLen; omega) (by omega) (by simp; omega) _ rfl ?_; intro g2 cg w1 hown' hgrow hat hlt')
                    go_roundg (best - (q + 2))
                    case measure =>
                      have h1 := HK.out
                      rw [HQ.out] at h1
                      omega
                    case rel =>
                      have hlen : (C ++ [v]).length = q + 1 + 1 := by rw [List.length_append, HQ.out]; rfl
                      have hgm : g ≠ w.heap.size := fun hc => by
                        have h1 := HG.out
                        rw [hc, HM0.out] at h1
                        simp at h1
                      have hgd : g ≠ w.heap.size + 1 + x.bs.size + x1.bs.size + 1 := fun hc => by
                        have h1 := HG.out
                        rw [hc, HD0.out] at h1
                        simp at h1
                      refine ⟨C ++ [v], v, HN.out, by rw [hlen]; omega, exts_of_grown (W := w) (HWR.out.alloc _) hgrow (fun b hb => by cases hb; exact HGB.out), by rw [hlen, List.map_append, show intsC (List.map Int.ofNat C ++ List.map Int.ofNat [v]) = intsC (List.map Int.ofNat C) ++ [.int .i64 (v : Int)] by simp [intsC]]; exact hown', ?_, ?_⟩
                      · rw [hgrow.block _ (by simp; omega) (fun hc => by cases hc; exact hgm rfl), heap_alloc_if, if_pos lm]
                        exact HM0.out
                      · rw [hgrow.block _ (by simp; omega) (fun hc => by cases hc; exact hgd rfl), heap_alloc_if, if_pos ld]
                        exact HD0.out
                  · have q3 : ((d v : Int) == (best : Int) - ((q : Int) + 1)) = false := by simp; omega
                    have HE := Lib.hid he
                    clear he
                    go_wp2
                    go_roundg (12 - (v + 1))
                    case measure => omega
                    case rel =>
                      refine ⟨v + 1, by omega, ?_, by go_num, rfl, rfl, Nat.le_refl _, fun z h1 h2 => ?_⟩
                      · by_cases hvc : v = c
                        · rw [hvc, HC4.out] at HE
                          exact absurd rfl HE.out
                        · omega
                      · by_cases hz : z = v
                        · rw [hz]
                          rintro ⟨h3, h4⟩
                          exact HE.out h4
                        · exact HI.out z h1 (by omega)
            · have hqb : q + 1 = best := by omega
              go_wp2
              go_ret
              exact ⟨C, some ⟨g, 0, none⟩, cap, by rw [HQ.out]; rfl, .inr ⟨best, at', d, last, HM.out, HD.out, by rw [HQ.out]; exact hqb, HCP.out⟩, HWR.out, RowF.of_owns HO.out⟩
end Go.Proofs.YtgmjcgjbbogefaaGreat


/- Closure of package factor. -/
namespace Go.Proofs.YtgmjcgjbbogefaaGreat
open Go.RowKit
set_option linter.unusedSimpArgs false
set_option linter.unusedVariables false

theorem info4 : (Tryz.prog.info? 4).map (fun i => (i.zero, i.size, i.bytes)) = some (some (.bool false), 1, 1) := by kernel_rfl
theorem info34 : (Tryz.prog.info? 97).map (fun i => (i.zero, i.size, i.bytes)) = some (some (.slice none 0 0), 1, 24) := by kernel_rfl
set_option maxHeartbeats 400000 in
theorem clone35 (v : Value) (n : Nat) (xs : List Value) (w : World) {S : Nat → Prop} (h : RowF S 1 w v n xs) (h1 : ∀ u ∈ xs, u.oneCell' = true) (hb : n * 1 ≤ 140737488355328) :
    Calls Tryz.prog 52 #[v] w fun e w' => ∃ ao' c', e = .returned (.slice ao' n c') ∧ Exts w w' ∧ RowF (fun b => w.heap.size ≤ b) 1 w' (.slice ao' n c') n xs ∧ TypedBy 4 w' (.slice ao' n c') := by
  obtain ⟨i0, hi, hz0, hz1, hz2⟩ := info_parts info4
  have hnle := h.nle
  have hlen := h.len
  obtain ⟨_, ao, cap, rfl, h2, h3, h4, h5⟩ := id h
  cases ao with
  | none =>
    have hc := h4 rfl
    subst hc
    obtain rfl : n = 0 := by omega
    obtain rfl : xs = [] := List.eq_nil_of_length_eq_zero (by simpa using hlen)
    have e := fun w => Lib.run_eql_slice_nil (P := Tryz.prog) w 97 4 none 0 0 0 0 Tryz.underlying97
    go_enter Tryz.func52, Tryz.ntmps52
    go_wp2
    go_ret
    exact ⟨none, 0, rfl, Exts.refl _, RowF.nil _ 1 w, fun b hb => by cases hb⟩
  | some a =>
    have e := fun w => Lib.run_eql_slice_nil (P := Tryz.prog) w 97 4 (some a) n cap 0 0 Tryz.underlying97
    have hx : ∀ j u, xs[j]? = some u → (w.alloc (.cells #[] 4)).cell? (a.add j) = some u := by
      intro j u hj
      have hn : 0 < n := by
        have := (List.getElem?_eq_some_iff.1 hj).1
        rw [hlen] at this
        exact Nat.pos_of_ne_zero (fun h0 => by subst h0; simp at this)
      obtain ⟨b, off, hab, _, hbs, hc⟩ := h5 hn
      cases hab
      rw [Addr.add_lit, World.cell?_alloc_lt _ _ _ hbs]
      exact hc j u hj
    clear h2 h3 h4 h5 h
    unfold maxLen at hnle
    go_enter Tryz.func52, Tryz.ntmps52
    go_wp2_with (at_builtin; refine wpList_append_own _ rfl _ _ 97 rfl w.heap.size 4 i0 _ 1 1 Tryz.underlying97 hi hz0 hz1 hz2 rfl (by decide) _ 0 [] rfl (World.ownsRow_made w #[] 0 (Nat.le_refl _) (by decide) rfl) a n cap xs rfl hlen hx h1 (by unfold maxLen; omega) (by omega) (by simp) ?_; intro v' w1 hown hgrow hnil)
    go_ret
    simp only [Nat.zero_add, List.nil_append] at hown
    have hrow := RowF.of_owns hown
    obtain ⟨_, ao', c', rfl, _⟩ := id hrow
    exact ⟨ao', c', rfl, exts_of_grown ((Exts.refl w).alloc _) hgrow (fun b hb => by cases hb; exact Nat.le_refl _), hrow, TypedBy.of_owns hown⟩


def bools (g : Rel) (a n : Nat) : List Value := (List.range n).map fun b => .bool (g a b)
@[simp] theorem bools_len (g : Rel) (a n : Nat) : (bools g a n).length = n := by simp [bools]
theorem bools_one (g : Rel) (a n : Nat) : ∀ u ∈ bools g a n, u.oneCell' = true := by
  intro u hu
  simp [bools] at hu
  obtain ⟨b, _, rfl⟩ := hu
  rfl
theorem bools_get {g : Rel} {a n b : Nat} {v : Value} (h : (bools g a n)[b]? = some v) : b < n ∧ v = .bool (g a b) := by
  have hb : b < n := by
    have := (List.getElem?_eq_some_iff.1 h).1
    rwa [bools_len] at this
  refine ⟨hb, ?_⟩
  simp [bools, hb] at h
  exact h.symm
/-- Rows of a relation, read as a slice of slices. -/
def BRows (w : World) (ro : Option Addr) (m n rc : Nat) (g : Rel) : Prop :=
  TypedBy 97 w (.slice ro m rc) ∧ ∃ rows, RowF (fun _ => True) 1 w (.slice ro m rc) m rows ∧ ∀ a, a < m → ∃ bo bc, rows[a]? = some (.slice bo n bc) ∧ RowF (fun _ => True) 1 w (.slice bo n bc) n (bools g a n) ∧ TypedBy 4 w (.slice bo n bc)
theorem BRows.exts {w w' : World} {ro : Option Addr} {m n rc : Nat} {g : Rel} (h : BRows w ro m n rc g) (he : Exts w w') : BRows w' ro m n rc g := by
  obtain ⟨ht, rows, h1, h2⟩ := h
  exact ⟨ht.exts he, rows, h1.exts he, fun a ha => let ⟨bo, bc, e1, e2, e3⟩ := h2 a ha; ⟨bo, bc, e1, e2.exts he, e3.exts he⟩⟩
theorem BRows.grown {e : TypeId} {w w' : World} {v : Value} {ro : Option Addr} {m n rc : Nat} {g : Rel} (h : BRows w ro m n rc g) (hg : w.grownBy w' v.ownBlock) (hv : TypedBy e w v) (h1 : 97 ≠ e) (h2 : 4 ≠ e) : BRows w' ro m n rc g := by
  obtain ⟨ht, rows, hr, hc⟩ := h
  refine ⟨ht.grown hg (ht.ne hv h1), rows, hr.grown hg (ht.ne hv h1), fun a ha => ?_⟩
  obtain ⟨bo, bc, e1, e2, e3⟩ := hc a ha
  exact ⟨bo, bc, e1, e2.grown hg (e3.ne hv h2), e3.grown hg (e3.ne hv h2)⟩
/-- The rows that Closure has gathered. -/
def RowsIn (w : World) (k m : Nat) (g : Rel) (rows : List Value) : Prop := ∀ a, a < k → ∃ bo bc, rows[a]? = some (.slice bo m bc) ∧ RowF (fun _ => True) 1 w (.slice bo m bc) m (bools g a m) ∧ TypedBy 4 w (.slice bo m bc)
theorem mat_row {w : World} {b a m : Nat} {g : Rel} {t : TypeId} (h : w.heap[b]? = some (.cells (matC g) t (0, 0))) (ha : a < 12) (hm : m ≤ 12) : RowF (fun _ => True) 1 w (.slice (some ⟨b, a * 12, none⟩) m 12) m (bools g a m) := by
  refine ⟨by simp, some ⟨b, a * 12, none⟩, 12, rfl, hm, by decide, (fun h => by cases h), fun _ => ⟨b, a * 12, rfl, trivial, (Array.getElem?_eq_some_iff.1 h).1, fun j v hj => ?_⟩⟩
  obtain ⟨hjm, rfl⟩ := bools_get hj
  rw [cell_of_row w b _ _ t (0, 0) h]
  exact matC_get g a j ha (by omega)
theorem owns_other {w : World} {base e k n b : Nat} {v : Value} {xs : List Value} {c : Array Value} {t : TypeId} {fr : Nat × Nat} (h : w.ownsRow base e k v n xs) (hb : w.heap[b]? = some (.cells c t fr)) (hne : t ≠ e) : some b ≠ v.ownBlock := fun hc => by
  obtain ⟨c', h'⟩ := TypedBy.of_owns h b hc.symm
  rw [hb] at h'
  simp at h'
  exact hne h'.2.1
theorem rows_round {w wr w1 : World} {k m : Nat} {g : Rel} {va : Option Addr} {rows : List Value} {ov : Value} {na : Nat} {base : Nat} (hown : wr.ownsRow base 97 1 ov k rows) (hin : RowsIn wr k m g rows) (hx : Exts wr w) (hra : RowF (fun _ => True) 1 w (.slice va m na) m (bools g k m)) (hta : TypedBy 4 w (.slice va m na)) (hgrow : w.grownBy w1 ov.ownBlock) : RowsIn w1 (k + 1) m g (rows ++ [.slice va m na]) := by
  have hlen : rows.length = k := by obtain ⟨h, _⟩ := hown; omega
  have hto : TypedBy 97 w ov := (TypedBy.of_owns hown).exts hx
  intro a ha
  by_cases hak : a < k
  · obtain ⟨bo, bc, h1, h2, h3⟩ := hin a hak
    have hne := (h3.exts hx).ne hto (by decide)
    exact ⟨bo, bc, by rw [List.getElem?_append_left (by omega)]; exact h1, (h2.exts hx).grown hgrow hne, (h3.exts hx).grown hgrow hne⟩
  · obtain rfl : a = k := by omega
    have hne := hta.ne hto (by decide)
    exact ⟨va, na, by rw [List.getElem?_append_right (by omega), hlen, Nat.sub_self]; rfl, hra.grown hgrow hne, hta.grown hgrow hne⟩
set_option maxRecDepth 100000
set_option maxHeartbeats 2000000
/-- What Closure hands back: rows, a circle, an error. -/
def CloRes (V : Int) (ps : List Pr) (w w' : World) (ro : Option Addr) (rn rc : Nat) (co : Option Addr) (cn cc : Nat) (code : Int) : Prop :=
  (validB V ps = false ∧ rn = 0 ∧ cn = 0 ∧ code = 1) ∨
  (validB V ps = true ∧ (closedD V ps).2 = false ∧ rn = 0 ∧ code = 16 ∧ ∃ C, IsCirc (pairRel ps) C ∧ C.length = cn ∧ Ints (fun b => w.heap.size ≤ b) w' co cn cc (C.map Int.ofNat)) ∨
  ((closedD V ps).2 = true ∧ (rn : Int) = V ∧ cn = 0 ∧ code = 0 ∧ BRows w' ro rn rn rc (closedD V ps).1)
theorem closure10 {S : Nat → Prop} (V : Int) (po : Option Addr) (n c : Nat) (ps : List Pr) (w : World) (h : Prs S w po n c ps) :
    Calls Tryz.prog 42 #[.agg #[.int .i64 V, .slice po n c]] w fun e w' => ∃ ro rn rc co cn cc code, e = .returned (.tuple #[.slice ro rn rc, .slice co cn cc, .int .i64 code]) ∧ Exts w w' ∧ CloRes V ps w w' ro rn rc co cn cc code := by
  obtain ⟨⟨g, o⟩, hg⟩ : ∃ D, closedD V ps = D := ⟨_, rfl⟩
  cases hv : validB V ps with
  | false =>
    have HV := Lib.hid hv
    have HG := Lib.hid hg
    have H := Lib.hid h
    clear h hv hg
    go_enter Tryz.func42, Tryz.ntmps42
    go_wp2_with (first | (go_at_call 48; ((with_reducible refine (closed31_D _ _ _ _ ps _ _ _ (RowF.exts H.out (by repeat (first | exact Exts.refl _ | apply Exts.andR | apply Exts.alloc | apply Exts.wext | apply Exts.drew | apply Exts.drewN))) HG.out).mono ?_); rintro e w' ⟨rfl, x1, rfl⟩)) | (go_at_call 49; ((with_reducible refine (valid32 _ _ _ _ ps _ (RowF.exts H.out (by repeat (first | exact Exts.refl _ | apply Exts.andR | apply Exts.alloc | apply Exts.wext | apply Exts.drew | apply Exts.drewN)))).mono ?_); rintro e w' ⟨rfl, x2, rfl⟩; rw [HV.out])) | (go_at_call 51; ((with_reducible refine (steps34 _ _ _ _ ps _ (RowF.exts H.out (by repeat (first | exact Exts.refl _ | apply Exts.andR | apply Exts.alloc | apply Exts.wext | apply Exts.drew | apply Exts.drewN))) HI.out).mono ?_); rintro e w' ⟨rfl, x3, rfl⟩)) | (go_at_call 50; ((with_reducible refine (circle33 _ _).mono ?_); rintro e w' ⟨C, ro, rc, rfl, hc, ⟨x4, rfl⟩, hr⟩; (have HC := Lib.hid hc); (try simp only [wext_and] at hr); (have HR := Lib.hid (RowF.mono (S' := fun b => w.heap.size ≤ b) hr fun b hb => Nat.le_trans (by simp; omega) hb)); clear hc hr)))
    go_ret3
    exact ⟨none, 0, 0, none, 0, 0, 1, rfl, (by repeat (first | exact Exts.refl _ | apply Exts.andR | apply Exts.alloc | apply Exts.wext | apply Exts.drew | apply Exts.drewN)), .inl ⟨HV.out, rfl, rfl, rfl⟩⟩
  | true =>
    have HI := Lib.hid (show ∀ p ∈ ps, 0 ≤ p.1 ∧ p.1 < 12 ∧ 0 ≤ p.2 ∧ p.2 < 12 from fun p hp => by have := valid_in hv; have := this.2.2 p hp; omega)
    have HV := Lib.hid hv
    have HG := Lib.hid hg
    have H := Lib.hid h
    cases o with
    | false =>
      clear h hv hg
      go_enter Tryz.func42, Tryz.ntmps42
      go_wp2_with (first | (go_at_call 48; ((with_reducible refine (closed31_D _ _ _ _ ps _ _ _ (RowF.exts H.out (by repeat (first | exact Exts.refl _ | apply Exts.andR | apply Exts.alloc | apply Exts.wext | apply Exts.drew | apply Exts.drewN))) HG.out).mono ?_); rintro e w' ⟨rfl, x1, rfl⟩)) | (go_at_call 49; ((with_reducible refine (valid32 _ _ _ _ ps _ (RowF.exts H.out (by repeat (first | exact Exts.refl _ | apply Exts.andR | apply Exts.alloc | apply Exts.wext | apply Exts.drew | apply Exts.drewN)))).mono ?_); rintro e w' ⟨rfl, x2, rfl⟩; rw [HV.out])) | (go_at_call 51; ((with_reducible refine (steps34 _ _ _ _ ps _ (RowF.exts H.out (by repeat (first | exact Exts.refl _ | apply Exts.andR | apply Exts.alloc | apply Exts.wext | apply Exts.drew | apply Exts.drewN))) HI.out).mono ?_); rintro e w' ⟨rfl, x3, rfl⟩)) | (go_at_call 50; ((with_reducible refine (circle33 _ _).mono ?_); rintro e w' ⟨C, ro, rc, rfl, hc, ⟨x4, rfl⟩, hr⟩; (have HC := Lib.hid hc); (try simp only [wext_and] at hr); (have HR := Lib.hid (RowF.mono (S' := fun b => w.heap.size ≤ b) hr fun b hb => Nat.le_trans (by simp; omega) hb)); clear hc hr)))
      go_ret3
      exact ⟨none, 0, 0, ro, C.length, rc, 16, rfl, (by repeat (first | exact Exts.refl _ | apply Exts.andR | apply Exts.alloc | apply Exts.wext | apply Exts.drew | apply Exts.drewN)), .inr (.inl ⟨HV.out, by rw [HG.out], rfl, rfl, C, HC.out, rfl, RowF.exts HR.out (by repeat (first | exact Exts.refl _ | apply Exts.andR | apply Exts.alloc | apply Exts.wext | apply Exts.drew | apply Exts.drewN))⟩)⟩
    | true =>
      obtain ⟨i0, hi, hz0, hz1, hz2⟩ := info_parts info34
      obtain ⟨⟨v1, v2⟩, _⟩ := valid_in hv
      obtain ⟨m, rfl⟩ : ∃ m : Nat, V = m := ⟨V.toNat, by omega⟩
      clear h hv hg
      go_enter Tryz.func42, Tryz.ntmps42
      go_wp2_with (first | (go_at_call 48; ((with_reducible refine (closed31_D _ _ _ _ ps _ _ _ (RowF.exts H.out (by repeat (first | exact Exts.refl _ | apply Exts.andR | apply Exts.alloc | apply Exts.wext | apply Exts.drew | apply Exts.drewN))) HG.out).mono ?_); rintro e w' ⟨rfl, x1, rfl⟩)) | (go_at_call 49; ((with_reducible refine (valid32 _ _ _ _ ps _ (RowF.exts H.out (by repeat (first | exact Exts.refl _ | apply Exts.andR | apply Exts.alloc | apply Exts.wext | apply Exts.drew | apply Exts.drewN)))).mono ?_); rintro e w' ⟨rfl, x2, rfl⟩; rw [HV.out])) | (go_at_call 51; ((with_reducible refine (steps34 _ _ _ _ ps _ (RowF.exts H.out (by repeat (first | exact Exts.refl _ | apply Exts.andR | apply Exts.alloc | apply Exts.wext | apply Exts.drew | apply Exts.drewN))) HI.out).mono ?_); rintro e w' ⟨rfl, x3, rfl⟩)) | (go_at_call 50; ((with_reducible refine (circle33 _ _).mono ?_); rintro e w' ⟨C, ro, rc, rfl, hc, ⟨x4, rfl⟩, hr⟩; (have HC := Lib.hid hc); (try simp only [wext_and] at hr); (have HR := Lib.hid (RowF.mono (S' := fun b => w.heap.size ≤ b) hr fun b hb => Nat.le_trans (by simp; omega) hb)); clear hc hr)))
      have hm12 : m ≤ 12 := by omega
      go_loopw [7, 26] (fun o i wr => ∃ (k : Nat) (rows : List Value), k ≤ m ∧ i = .int .i64 k ∧ Exts w wr ∧ wr.ownsRow w.heap.size 97 1 o k rows ∧ RowsIn wr k m g rows ∧ wr.heap[w.heap.size]? = some (.cells #[.int .i64 m, .slice po n c] 38 (0, 0)) ∧ wr.heap[w.heap.size + 1 + x1.bs.size]? = some (.cells (matC g) 133 (0, 0))) (fun _ i _ => m - (intOf i).toNat)
      case atStart =>
        refine ⟨0, [], by omega, rfl, (by repeat (first | exact Exts.refl _ | apply Exts.andR | apply Exts.alloc | apply Exts.wext | apply Exts.drew | apply Exts.drewN)), World.ownsRow_nil _ _ _ _, fun a ha => by omega, ?_, ?_⟩
        · rw [wext_heap_old _ _ _ (by simp; omega), heap_alloc_if, if_pos (by simp; omega), wext_heap_old _ _ _ (by simp), heap_alloc_if, if_neg (by omega), if_pos rfl]
        · rw [wext_heap_old _ _ _ (by simp), heap_alloc_if, if_neg (by simp), if_pos (by simp)]
      case round =>
        obtain ⟨k, rows, hk, rfl, hx, hown, hin, hm0, hm1⟩ := hrel
        by_cases hlt : k < m
        · have hk12 : k < 12 := by omega
          have HX := Lib.hid hx
          have HO := Lib.hid hown
          have HIN := Lib.hid hin
          have HM0 := Lib.hid hm0
          have HM1 := Lib.hid hm1
          have HROW := Lib.hid (mat_row (m := m) hm1 hk12 hm12)
          have c0 : wr.cell? ⟨w.heap.size, 0, none⟩ = some (.int .i64 m) := by rw [cell_of_row _ _ _ _ _ _ hm0]; rfl
          have l0 : w.heap.size < wr.heap.size := (Array.getElem?_eq_some_iff.1 hm0).1
          have l1 : w.heap.size + 1 + x1.bs.size < wr.heap.size := (Array.getElem?_eq_some_iff.1 hm1).1
          have hu : ∀ g, u7.ownBlock = some g → g < wr.heap.size := fun g hg => (HO.out.lt g hg).2
          have HN0 := Lib.hid (owns_other hown hm0 (by decide))
          have HN1 := Lib.hid (owns_other hown hm1 (by decide))
          have HU := Lib.hid hu
          have i0' : (0 : Int) ≤ (k : Int) := by omega
          have i1' : (k : Int) < 12 := by omega
          have i2' : (m : Int) ≤ 12 := by omega
          have i3' : (0 : Int) ≤ (m : Int) := by omega
          clear hx hown hin hm0 hm1 hu
          go_wp2_with fail
          go_region_held3 (fun w' => w'.cell? ⟨w.heap.size, 0, none⟩ = some (.int .i64 m)) (first | (simp [go_sem, *]; done) | exact World.grownBy.cell hgrow (by simp [go_sem, *]) HN0.out) ((first | (go_at_call 52; refine (clone35 _ m (bools g k m) _ (RowF.exts HROW.out (by repeat (first | exact Exts.refl _ | apply Exts.andR | apply Exts.alloc | apply Exts.wext | apply Exts.drew | apply Exts.drewN))) (bools_one g k m) (by omega)).mono ?_; rintro e w' ⟨va, na, rfl, ⟨xa, rfl⟩, ra, ta⟩) | (refine step_append_lies _ rfl (.tmp 29) (.tmp 36) 105 rfl w.heap.size 97 i0 _ 1 24 Tryz.underlying105 hi hz0 hz1 hz2 rfl (by decide) u7 k rows (by simp [Act.eval, Act.put]) (ownsRow_exts HO.out (by repeat (first | exact Exts.refl _ | apply Exts.andR | apply Exts.alloc | apply Exts.wext | apply Exts.drew | apply Exts.drewN))) ⟨wr.heap.size + xa.bs.size, 0, none⟩ 1 1 [.slice va m na] (by simp [Act.eval, Act.put]) rfl (by intro j u hj; match j, hj with | 0, hj => (simp at hj; subst hj; simp [go_sem])) (by intro u hu; simp at hu; subst hu; rfl) (by decide) (by unfold maxLen; omega) (by omega) (by simp; omega) _ rfl ?_; intro g2 cg w1 hown' hgrow hat hlt')))
          go_wp2
          simp only [wext_and, wext_of_drew] at ra ta
          refine ⟨⟨k + 1, rows ++ [.slice va m na], by omega, by go_num, exts_of_grown (W := w) (HX.out.trans (by repeat (first | exact Exts.refl _ | apply Exts.andR | apply Exts.alloc | apply Exts.wext | apply Exts.drew | apply Exts.drewN))) hgrow (fun b hb => (HO.out.lt b hb).1), hown', rows_round (w := (wext wr xa).alloc (.cells #[.slice va m na] 97)) HO.out HIN.out (by repeat (first | exact Exts.refl _ | apply Exts.andR | apply Exts.alloc | apply Exts.wext | apply Exts.drew | apply Exts.drewN)) ((RowF.exts ra (by repeat (first | exact Exts.refl _ | apply Exts.andR | apply Exts.alloc | apply Exts.wext | apply Exts.drew | apply Exts.drewN))).mono fun _ _ => trivial) (TypedBy.exts ta (by repeat (first | exact Exts.refl _ | apply Exts.andR | apply Exts.alloc | apply Exts.wext | apply Exts.drew | apply Exts.drewN))) hgrow, ?_, ?_⟩, ?_⟩
          · rw [hgrow.block _ (by simp; omega) HN0.out, heap_alloc_if, if_pos (by simp; omega), wext_heap_old _ _ _ l0]
            exact HM0.out
          · rw [hgrow.block _ (by simp; omega) HN1.out, heap_alloc_if, if_pos (by simp; omega), wext_heap_old _ _ _ l1]
            exact HM1.out
          · simp [intOf]; omega
        · obtain rfl : k = m := by omega
          obtain ⟨ao, c2, rfl⟩ := owns_shape hown
          have HX := Lib.hid hx
          have HR := Lib.hid (show BRows wr ao k k c2 g from ⟨TypedBy.of_owns hown, rows, (RowF.of_owns hown).mono fun _ _ => trivial, fun a ha => hin a ha⟩)
          clear hx hown hin hm0 hm1
          go_wp2
          go_ret3
          exact ⟨ao, k, c2, none, 0, 0, 0, rfl, HX.out, .inr (.inr ⟨by rw [HG.out], rfl, rfl, rfl, by rw [HG.out]; exact HR.out⟩)⟩
end Go.Proofs.YtgmjcgjbbogefaaGreat

