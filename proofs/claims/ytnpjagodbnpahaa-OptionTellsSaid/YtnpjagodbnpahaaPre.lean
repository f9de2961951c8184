/- The prefix sums of a list, with 64 bits. Conditions: the list is short. -/
import Derived.Test.YtnpjagodbnpahaaFew
namespace Go.Proofs.Ytnpjagodbnpahaa
open Go.RowKit
set_option linter.unusedSimpArgs false
set_option linter.unusedVariables false

theorem info3 : (Try.prog.info? 3).map (fun i => (i.zero, i.size, i.bytes)) = some (some (.int .i64 0), 1, 8) := by kernel_rfl

def ints (l : List Int) : List Value := l.map (.int .i64 ·)
def Ints (S : Nat → Prop) (w : World) (v : Value) (l : List Int) : Prop := RowF S 1 w v l.length (ints l)
/-- The sum of the first k numbers, with 64 bits. -/
def psum (l : List Int) (k : Nat) : Int := (l.take k).foldl (fun s n => wrap64 (s + n)) 0
def prefs (l : List Int) (k : Nat) : List Int := (List.range (k + 1)).map (psum l)
theorem psum_zero (l : List Int) : psum l 0 = 0 := rfl
theorem psum_succ (l : List Int) (k : Nat) (n : Int) (h : l[k]? = some n) : psum l (k + 1) = wrap64 (psum l k + n) := by
  unfold psum
  rw [List.take_add_one, h]
  simp
theorem prefs_succ (l : List Int) (k : Nat) : prefs l (k + 1) = prefs l k ++ [psum l (k + 1)] := by
  unfold prefs
  rw [List.range_succ, List.map_append]
  rfl
theorem prefs_len (l : List Int) (k : Nat) : (prefs l k).length = k + 1 := by simp [prefs]
theorem prefs_at (l : List Int) (k i : Nat) (h : i < k + 1) : (prefs l k)[i]? = some (psum l i) := by simp [prefs, h]
theorem ints_at (l : List Int) (i : Nat) (n : Int) (h : l[i]? = some n) : (ints l)[i]? = some (.int .i64 n) := by simp [ints, h]
theorem ints_len (l : List Int) : (ints l).length = l.length := by simp [ints]

theorem ownsRow_lit {e : TypeId} {base size : Nat} (w : World) (cur : Array Value) (n : Nat) (hb : base ≤ w.heap.size) (hm : n ≤ maxLen) (hs : cur.size = n * size) :
    (w.alloc (.cells cur e)).ownsRow base e size (.slice (some ⟨w.heap.size, 0, none⟩) n n) n cur.toList :=
  ⟨by simp [hs], .inr ⟨w.heap.size, n, cur, rfl, hb, heap_alloc_new w _, Nat.le_refl _, hm, hs, by rw [← hs]; exact List.take_length⟩⟩

theorem Ints.get {S : Nat → Prop} {w : World} {ao : Option Addr} {cap : Nat} {l : List Int} (h : Ints S w (.slice ao l.length cap) l) {i : Nat} {n : Int} (hp : l[i]? = some n) :
    ∃ b off, ao = some ⟨b, off, none⟩ ∧ b < w.heap.size ∧ w.cell? ⟨b, off + i, none⟩ = some (.int .i64 n) := by
  obtain ⟨h1, ao2, cap2, hv, h2, h3, h4, h5⟩ := h
  simp only [Value.slice.injEq, true_and] at hv
  obtain ⟨rfl, rfl⟩ := hv
  obtain ⟨b, off, rfl, hS, hb, hc⟩ := h5 (by have := (List.getElem?_eq_some_iff.1 hp).1; omega)
  exact ⟨b, off, rfl, hb, hc _ _ (ints_at l i n hp)⟩

set_option maxRecDepth 100000
set_option maxHeartbeats 2000000 in
theorem prefixes18 (ao : Option Addr) (ca : Nat) (l : List Int) (w : World) {S : Nat → Prop} (h : Ints S w (.slice ao l.length ca) l) (hn : l.length ≤ 100000) :
    Calls Try.prog 18 #[.slice ao l.length ca] w fun e w' => ∃ ao' c', e = .returned (.slice ao' (l.length + 1) c') ∧ Exts w w' ∧ Ints (fun b => w.heap.size ≤ b) w' (.slice ao' (l.length + 1) c') (prefs l l.length) := by
  obtain ⟨i0, hi, hz0, hz1, hz2⟩ := info_parts info3
  have H := Lib.hid h
  clear h
  go_enter Try.func18, Try.ntmps18
  go_wp2
  go_loopw [3, 9] (fun o i wr => ∃ (k : Nat) (g cap : Nat), k ≤ l.length ∧ i = .int .i64 k ∧ o = .slice (some ⟨g, 0, none⟩) (k + 1) cap ∧ Exts w wr ∧ wr.ownsRow w.heap.size 3 1 o (k + 1) (ints (prefs l k))) (fun _ i _ => l.length - (intOf i).toNat)
  case atStart => exact ⟨0, w.heap.size, 1, by omega, rfl, rfl, (by repeat (first | exact Exts.refl _ | apply Exts.andR | apply Exts.alloc | apply Exts.wext | apply Exts.drew | apply Exts.drewN)), ownsRow_lit (e := 3) w #[.int .i64 0] 1 (Nat.le_refl _) (by decide) rfl⟩
  case round =>
    obtain ⟨k, g, cap, hk, rfl, rfl, ⟨x, rfl⟩, hown⟩ := hrel
    by_cases hlt : k < l.length
    · obtain ⟨n, hp⟩ : ∃ q, l[k]? = some q := ⟨l[k], List.getElem?_eq_getElem hlt⟩
      obtain ⟨b, off, rfl, hb, e0⟩ := H.out.get hp
      have hr := RowF.of_owns hown
      have hg := Ints.get (l := prefs l k) (by rw [Ints, prefs_len]; exact hr) (prefs_at l k k (by omega))
      obtain ⟨b', off', hbo, hb', e1⟩ := hg
      cases hbo
      rw [Nat.zero_add] at e1
      have hs := psum_succ l k n hp
      have HO := Lib.hid hown
      have HS := Lib.hid hs
      clear hown hs hr
      go_wp2_with (at_builtin; refine wpList_append_lies _ rfl (.tmp 14) (.tmp 21) 46 rfl w.heap.size 3 i0 _ 1 8 Try.underlying46 hi hz0 hz1 hz2 rfl (by decide) (.slice (some ⟨g, 0, none⟩) (k + 1) cap) (k + 1) (ints (prefs l k)) rfl (ownsRow_exts HO.out (by repeat (first | exact Exts.refl _ | apply Exts.andR | apply Exts.alloc | apply Exts.wext | apply Exts.drew | apply Exts.drewN))) ⟨w.heap.size + x.bs.size, 0, none⟩ 1 1 [.int .i64 (psum l (k + 1))] rfl rfl (by intro j u hj; match j, hj with | 0, hj => (simp at hj; subst hj; rw [HS.out]; simp [go_sem])) (by intro u hu; simp at hu; subst hu; rfl) (by decide) (by unfold maxLen; omega) (by omega) (by simp; omega) _ rfl ?_; intro g' cg w1 hown' hgrow hat hlt')
      go_roundw
      case rel => exact ⟨k + 1, g', cg, by omega, by go_num, rfl, exts_of_grown (by repeat (first | exact Exts.refl _ | apply Exts.andR | apply Exts.alloc | apply Exts.wext | apply Exts.drew | apply Exts.drewN)) hgrow (fun b hb => (HO.out.lt b hb).1), by rw [prefs_succ, ints, List.map_append]; exact hown'⟩
      case measure => simp [intOf]; omega
    · obtain rfl : k = l.length := by omega
      have hr := RowF.of_owns hown
      go_wp2
      go_ret
      refine ⟨_, cap, rfl, (by repeat (first | exact Exts.refl _ | apply Exts.andR | apply Exts.alloc | apply Exts.wext | apply Exts.drew | apply Exts.drewN)), ?_⟩
      rw [Ints, prefs_len]
      exact hr
end Go.Proofs.Ytnpjagodbnpahaa
