/- Lemmas that the laws of this seat share, 4 texts in one: Small8, BytesP, SurP, InvP. No condition of their own. -/
import Derived.Test.YtgeoompgakdbiaaM8
import Derived.Test.YtgeoompgakdbiaaM5
/- small: the walk. -/
namespace Go.Proofs.Ytgeoompgakdbiaa
open Go.RowKit Go.Maps
set_option linter.unusedSimpArgs false
set_option linter.unusedVariables false
set_option maxRecDepth 100000
theorem pair_crash1 {w0 w : World} {b c b2 c2 : Nat} {M M2 : Mod} (h : Pair w0 w b M c b2 M2 c2) (x : Int) (t : TypeId) : Calls Try.prog 25 #[.pointer (some ⟨b, 0, none⟩), .slice (some ⟨w.heap.size, 0, none⟩) 1 1] (w.alloc (.cells #[.int .i64 x] t)) fun e w' => e = .returned (.tuple #[]) ∧ Pair w0 w' b (crashD M [x]) c b2 M2 c2 := pair_crash_lit h [x] t (by simp)
theorem pair_crash2 {w0 w : World} {b c b2 c2 : Nat} {M M2 : Mod} (h : Pair w0 w b M c b2 M2 c2) (x y : Int) (t : TypeId) : Calls Try.prog 25 #[.pointer (some ⟨b, 0, none⟩), .slice (some ⟨w.heap.size, 0, none⟩) 2 2] (w.alloc (.cells #[.int .i64 x, .int .i64 y] t)) fun e w' => e = .returned (.tuple #[]) ∧ Pair w0 w' b (crashD M [x, y]) c b2 M2 c2 := pair_crash_lit h [x, y] t (by simp)
theorem pair_down {w0 w : World} {b c b2 c2 : Nat} {M M2 : Mod} (h : Pair w0 w b M c b2 M2 c2) : Calls Try.prog 14 #[.pointer (some ⟨b, 0, none⟩)] w fun e w' => e = .returned (.bool M.down) ∧ w = w' := by
  obtain ⟨O, S, hd⟩ := h.own.at
  exact down14 hd
theorem pair_size {w0 w : World} {b c b2 c2 : Nat} {M M2 : Mod} (h : Pair w0 w b M c b2 M2 c2) (f : Int) (hf : I64 f) : Calls Try.prog 16 #[.pointer (some ⟨b, 0, none⟩), .int .i64 f] w fun e w' => e = .returned (.int .i64 (M.files f).1.size) ∧ w = w' := by
  obtain ⟨O, S, hd⟩ := h.own.at
  exact size16 hd f hf
theorem own_write_R {w0 w : World} {b c : Nat} {M M' : Mod} {r : Int} (h : Own w0 w b M c) (f at' : Int) (s : ByteArray) (ha : I64 at') (hs : s.size ≤ 300) (hc : c + 6 ≤ 1000000) (hr : WriteD M f at' s = (M', r)) : Calls Try.prog 29 #[.pointer (some ⟨b, 0, none⟩), .int .i64 f, .int .i64 at', .string s] w fun e w' => e = .returned (.int .i64 r) ∧ Own w0 w' b M' (c + 6) := by
  have := own_write h f at' s ha hs hc
  rw [hr] at this
  exact this
theorem pair_write_R {w0 w : World} {b c b2 c2 : Nat} {M M2 M' : Mod} {r : Int} (h : Pair w0 w b M c b2 M2 c2) (f at' : Int) (s : ByteArray) (ha : I64 at') (hs : s.size ≤ 300) (hc : c + 6 ≤ 1000000) (hr : WriteD M f at' s = (M', r)) : Calls Try.prog 29 #[.pointer (some ⟨b, 0, none⟩), .int .i64 f, .int .i64 at', .string s] w fun e w' => e = .returned (.int .i64 r) ∧ Pair w0 w' b M' (c + 6) b2 M2 c2 := by
  have := pair_write h f at' s ha hs hc
  rw [hr] at this
  exact this
theorem own_sync_R {w0 w : World} {b c : Nat} {M M' : Mod} {r : Int} (h : Own w0 w b M c) (f : Int) (hf : I64 f) (hr : SyncD M f = (M', r)) : Calls Try.prog 19 #[.pointer (some ⟨b, 0, none⟩), .int .i64 f] w fun e w' => e = .returned (.int .i64 r) ∧ Own w0 w' b M' c := by
  have := own_sync h f hf
  rw [hr] at this
  exact this
theorem pair_read_R {w0 w : World} {b c b2 c2 : Nat} {M M2 : Mod} {x : ByteArray} {r : Int} (h : Pair w0 w b M c b2 M2 c2) (f at' size : Int) (ha : I64 at') (hs : I64 size) (hr : readD M f at' size = (x, r)) : Calls Try.prog 20 #[.pointer (some ⟨b, 0, none⟩), .int .i64 f, .int .i64 at', .int .i64 size] w fun e w' => e = .returned (.tuple #[.string x, .int .i64 r]) ∧ w = w' := by
  have := pair_read h f at' size ha hs
  rw [hr] at this
  exact this
theorem pair_down_R {w0 w : World} {b c b2 c2 : Nat} {M M2 : Mod} {r : Bool} (h : Pair w0 w b M c b2 M2 c2) (hr : M.down = r) : Calls Try.prog 14 #[.pointer (some ⟨b, 0, none⟩)] w fun e w' => e = .returned (.bool r) ∧ w = w' := hr ▸ pair_down h
theorem pair_size_R {w0 w : World} {b c b2 c2 : Nat} {M M2 : Mod} {r : Nat} (h : Pair w0 w b M c b2 M2 c2) (f : Int) (hf : I64 f) (hr : (M.files f).1.size = r) : Calls Try.prog 16 #[.pointer (some ⟨b, 0, none⟩), .int .i64 f] w fun e w' => e = .returned (.int .i64 r) ∧ w = w' := hr ▸ pair_size h f hf
theorem pair_crash1_R {w0 w : World} {b c b2 c2 : Nat} {M M2 M' : Mod} (h : Pair w0 w b M c b2 M2 c2) (x : Int) (t : TypeId) (hr : crashD M [x] = M') : Calls Try.prog 25 #[.pointer (some ⟨b, 0, none⟩), .slice (some ⟨w.heap.size, 0, none⟩) 1 1] (w.alloc (.cells #[.int .i64 x] t)) fun e w' => e = .returned (.tuple #[]) ∧ Pair w0 w' b M' c b2 M2 c2 := hr ▸ pair_crash1 h x t
theorem pair_crash2_R {w0 w : World} {b c b2 c2 : Nat} {M M2 M' : Mod} (h : Pair w0 w b M c b2 M2 c2) (x y : Int) (t : TypeId) (hr : crashD M [x, y] = M') : Calls Try.prog 25 #[.pointer (some ⟨b, 0, none⟩), .slice (some ⟨w.heap.size, 0, none⟩) 2 2] (w.alloc (.cells #[.int .i64 x, .int .i64 y] t)) fun e w' => e = .returned (.tuple #[]) ∧ Pair w0 w' b M' c b2 M2 c2 := hr ▸ pair_crash2 h x y t
theorem pair_start_R {w0 w : World} {b c b2 c2 : Nat} {M M2 M' : Mod} (h : Pair w0 w b M c b2 M2 c2) (hr : upD M = M') : Calls Try.prog 26 #[.pointer (some ⟨b, 0, none⟩)] w fun e w' => e = .returned (.tuple #[]) ∧ Pair w0 w' b M' c b2 M2 c2 := hr ▸ pair_start h
theorem small_ex : ∃ m1 m2 m3 m4 m5 m6 m7 m8 m9 m10 m11 m12 : Mod, ∃ r3 : Int, WriteD M0 0 0 abc = (m1, 0) ∧ SyncD m1 0 = (m2, 0) ∧ WriteD m2 0 1 xyB = (m3, r3) ∧ crashD m3 [1] = m4 ∧ m4.down = true ∧ readD m4 0 0 9 = (⟨#[]⟩, 8) ∧ upD m4 = m5 ∧ readD m5 0 0 9 = (⟨#[97, 88, 89]⟩, 0) ∧
    crashD m3 [0] = m6 ∧ upD m6 = m7 ∧ readD m7 0 1 9 = (⟨#[98, 99]⟩, 0) ∧ WriteD m7 1 62 abcd = (m8, 0) ∧ crashD m8 [0, 1] = m9 ∧ upD m9 = m10 ∧ readD m10 1 60 100 = (⟨#[0, 0, 0, 0, 99, 100]⟩, 0) ∧ (m10.files 1).1.size = 66 ∧ WriteD m10 16 0 ⟨#[]⟩ = (m11, 1) ∧ WriteD m11 1 16777216 ⟨#[97]⟩ = (m12, 6) := by
  obtain ⟨h1, h2, h3, h4, h5, h6, h7, h8, h9, h10, h11⟩ := small_plain
  exact ⟨_, _, _, _, _, _, _, _, _, _, _, _, _, Prod.ext rfl h1, Prod.ext rfl h2, rfl, rfl, h3, h4, rfl, h5, rfl, rfl, h6, Prod.ext rfl h7, rfl, rfl, h8, h9, Prod.ext rfl h10, Prod.ext rfl h11⟩
set_option maxHeartbeats 4000000
theorem small8 (w : World) : Calls Try.prog 8 #[] w fun e w' => e = .returned (.bool true) ∧ Exts w w' := by
  have i0 : I64 0 := by constructor <;> decide
  have i1 : I64 1 := by constructor <;> decide
  have i9 : I64 9 := by constructor <;> decide
  have i60 : I64 60 := by constructor <;> decide
  have i62 : I64 62 := by constructor <;> decide
  have i100 : I64 100 := by constructor <;> decide
  have iB : I64 16777216 := by constructor <;> decide
  obtain ⟨m1, m2, m3, m4, m5, m6, m7, m8, m9, m10, m11, m12, r3, q1, q2, q3, q4, q5, q6, q7, q8, q9, q10, q11, q12, q13, q14, q15, q16, q17, q18⟩ := small_ex
  have Q1 := Lib.hid q1
  have Q2 := Lib.hid q2
  have Q3 := Lib.hid q3
  have Q4 := Lib.hid q4
  have Q5 := Lib.hid q5
  have Q6 := Lib.hid q6
  have Q7 := Lib.hid q7
  have Q8 := Lib.hid q8
  have Q9 := Lib.hid q9
  have Q10 := Lib.hid q10
  have Q11 := Lib.hid q11
  have Q12 := Lib.hid q12
  have Q13 := Lib.hid q13
  have Q14 := Lib.hid q14
  have Q15 := Lib.hid q15
  have Q16 := Lib.hid q16
  have Q17 := Lib.hid q17
  have Q18 := Lib.hid q18
  clear q1 q2 q3 q4 q5 q6 q7 q8 q9 q10 q11 q12 q13 q14 q15 q16 q17 q18
  go_enter Try.func8, Try.ntmps8
  go_wp2_with (first | (go_at_call 10; ((with_reducible refine (own_new w _ (Exts.refl _)).mono ?_); rintro e w1 ⟨b, rfl, H0, -⟩)) | (go_at_call 29; ((with_reducible refine (own_write_R H0 0 0 abc i0 (by decide) (by decide) Q1.out).mono ?_); rintro e w2 ⟨rfl, H1⟩)) | (go_at_call 19; ((with_reducible refine (own_sync_R H1 0 i0 Q2.out).mono ?_); rintro e w3 ⟨rfl, H2⟩)) | (go_at_call 29; ((with_reducible refine (own_write_R H2 0 1 xyB i1 (by decide) (by decide) Q3.out).mono ?_); rintro e w4 ⟨rfl, H3⟩)) | (go_at_call 18; ((with_reducible refine H3.copy.mono ?_); rintro e w5 ⟨b', rfl, P0⟩)) | (go_at_call 25; ((with_reducible refine (pair_crash1_R P0 1 _ Q4.out).mono ?_); rintro e w6 ⟨rfl, P1⟩)) | (go_at_call 14; ((with_reducible refine (pair_down_R P1 Q5.out).mono ?_); rintro e w7 ⟨rfl, rfl⟩)) | (go_at_call 20; ((with_reducible refine (pair_read_R P1 0 0 9 i0 i9 Q6.out).mono ?_); rintro e w7 ⟨rfl, rfl⟩)) | (go_at_call 26; ((with_reducible refine (pair_start_R P1 Q7.out).mono ?_); rintro e w7 ⟨rfl, P2⟩)) | (go_at_call 20; ((with_reducible refine (pair_read_R P2 0 0 9 i0 i9 Q8.out).mono ?_); rintro e w8 ⟨rfl, rfl⟩)) | (go_at_call 25; ((with_reducible refine (pair_crash1_R P2.swap 0 _ Q9.out).mono ?_); rintro e w8 ⟨rfl, P3⟩)) | (go_at_call 26; ((with_reducible refine (pair_start_R P3 Q10.out).mono ?_); rintro e w7 ⟨rfl, P4⟩)) | (go_at_call 20; ((with_reducible refine (pair_read_R P4 0 1 9 i1 i9 Q11.out).mono ?_); rintro e w8 ⟨rfl, rfl⟩)) | (go_at_call 29; ((with_reducible refine (pair_write_R P4 1 62 abcd i62 (by decide) (by decide) Q12.out).mono ?_); rintro e w9 ⟨rfl, P5⟩)) | (go_at_call 25; ((with_reducible refine (pair_crash2_R P5 0 1 _ Q13.out).mono ?_); rintro e w10 ⟨rfl, P6⟩)) | (go_at_call 26; ((with_reducible refine (pair_start_R P6 Q14.out).mono ?_); rintro e w11 ⟨rfl, P7⟩)) | (go_at_call 20; ((with_reducible refine (pair_read_R P7 1 60 100 i60 i100 Q15.out).mono ?_); rintro e w12 ⟨rfl, rfl⟩)) | (go_at_call 16; ((with_reducible refine (pair_size_R P7 1 i1 Q16.out).mono ?_); rintro e w12 ⟨rfl, rfl⟩)) | (go_at_call 29; ((with_reducible refine (pair_write_R P7 16 0 ⟨#[]⟩ i0 (by decide) (by decide) Q17.out).mono ?_); rintro e w12 ⟨rfl, P8⟩)) | (go_at_call 29; ((with_reducible refine (pair_write_R P8 1 16777216 ⟨#[97]⟩ iB (by decide) (by decide) Q18.out).mono ?_); rintro e w12 ⟨rfl, P9⟩)))
  go_ret
  exact ⟨rfl, P9.1⟩
end Go.Proofs.Ytgeoompgakdbiaa

/- Bytes of strings, read one by one. No program in sight. -/
namespace Go.Proofs.Ytgeoompgakdbiaa
open Go.RowKit Go.Maps
set_option linter.unusedSimpArgs false
set_option linter.unusedVariables false
/-- A byte of a string, 0 after its end. -/
def bn (s : ByteArray) (i : Nat) : UInt8 := (s.data.toList[i]?).getD 0
theorem bn_out {s : ByteArray} {i : Nat} (h : s.size ≤ i) : bn s i = 0 := by
  unfold bn
  rw [List.getElem?_eq_none (by rw [ba_len]; exact h)]
  rfl
theorem bn_ext {s t : ByteArray} (h : s.size = t.size) (hb : ∀ i, i < s.size → bn s i = bn t i) : s = t := by
  apply ByteArray.ext
  apply Array.ext'
  apply List.ext_getElem?
  intro i
  by_cases hi : i < s.size
  · have := hb i hi
    unfold bn at this
    rw [List.getElem?_eq_getElem (by rw [ba_len]; exact hi), List.getElem?_eq_getElem (by rw [ba_len, ← h]; exact hi)] at this ⊢
    simpa using this
  · rw [List.getElem?_eq_none (by rw [ba_len]; omega), List.getElem?_eq_none (by rw [ba_len]; omega)]
theorem bn_pad (s : ByteArray) (n i : Nat) : ((padL s.data.toList n)[i]?).getD 0 = bn s i := by
  unfold padL bn
  by_cases h : i < s.data.toList.length
  · rw [List.getElem?_append_left h]
  · rw [List.getElem?_append_right (by omega), List.getElem?_eq_none (l := s.data.toList) (by omega)]
    cases hr : (List.replicate (n - s.data.toList.length) (0 : UInt8))[i - s.data.toList.length]? with
    | none => rfl
    | some x =>
      have := List.getElem?_eq_some_iff.1 hr
      obtain ⟨h1, h2⟩ := this
      rw [List.getElem_replicate] at h2
      rw [← h2]
      rfl
theorem bn_put (s t : ByteArray) (a i : Nat) : bn (putB s a t) i = if a ≤ i ∧ i < a + t.size then bn t (i - a) else bn s i := by
  have hdat : (putB s a t).data.toList = putL s.data.toList a t.data.toList := by unfold putB; simp
  unfold bn
  rw [hdat]
  unfold putL
  by_cases h0 : t.data.toList = []
  · rw [if_pos h0, if_neg]
    have : t.size = 0 := by rw [← ba_len, h0]; rfl
    omega
  · rw [if_neg h0]
    have hl := padL_len s.data.toList (a + t.data.toList.length)
    have htk : ((padL s.data.toList (a + t.data.toList.length)).take a).length = a := by rw [List.length_take, hl]; omega
    have hp := bn_pad s (a + t.data.toList.length) i
    unfold bn at hp
    rw [List.append_assoc]
    by_cases h1 : i < a
    · rw [if_neg (by omega), List.getElem?_append_left (by rw [htk]; exact h1), List.getElem?_take, if_pos h1, hp]
    · rw [List.getElem?_append_right (by rw [htk]; omega), htk]
      by_cases h2 : i < a + t.size
      · rw [if_pos ⟨by omega, h2⟩, List.getElem?_append_left (by rw [ba_len]; omega)]
      · rw [if_neg (by omega), List.getElem?_append_right (by rw [ba_len]; omega), List.getElem?_drop, ba_len, show a + t.size + (i - a - t.size) = i by omega, ← hp, ba_len]
theorem bn_extract (s : ByteArray) (a b i : Nat) : bn (s.extract a b) i = if i < b - a then bn s (a + i) else 0 := by
  unfold bn
  rw [ByteArray.data_extract, Array.toList_extract, List.extract_eq_take_drop, List.getElem?_take, List.getElem?_drop]
  split <;> rfl
theorem bn_sect (s : ByteArray) (n i : Nat) (hi : i < 64) : bn (sectB s n) i = bn s (n * 64 + i) := by
  unfold sectB
  rw [bn_extract]
  split
  · rfl
  · rw [bn_out (by omega)]
theorem cut_whole (s : ByteArray) (hs : s.size ≤ 16777216) : cutB s 0 16777216 = s := by
  unfold cutB tailB
  apply bn_ext
  · simp only [ByteArray.size_extract]
    omega
  · intro i hi
    simp only [ByteArray.size_extract] at hi
    rw [bn_extract, bn_extract]
    simp only [ByteArray.size_extract]
    rw [if_pos (by omega), if_pos (by omega)]
    congr 1
    omega
theorem bn_cut (s : ByteArray) (a n i : Nat) : bn (cutB s a n) i = if i < n then bn s (a + i) else 0 := by
  unfold cutB tailB
  rw [bn_extract, bn_extract]
  simp only [ByteArray.size_extract]
  by_cases h : i < n
  · rw [if_pos h]
    by_cases h2 : a + i < s.size
    · rw [if_pos (by omega), if_pos (by omega)]
      congr 1
      omega
    · rw [bn_out (s := s) (i := a + i) (by omega)]
      split
      · rw [if_neg (by omega)]
      · rfl
  · rw [if_neg h, if_neg (by omega)]
theorem cut_size (s : ByteArray) (a n : Nat) : (cutB s a n).size = min n (s.size - a) := by
  unfold cutB tailB
  simp only [ByteArray.size_extract]
  omega
end Go.Proofs.Ytgeoompgakdbiaa

/- What survives a crash: each sector is what the file had, or what is durable. No program in sight. -/
namespace Go.Proofs.Ytgeoompgakdbiaa
open Go.RowKit Go.Maps
set_option linter.unusedSimpArgs false
set_option linter.unusedVariables false
/-- A sector of R is wholly the file's. -/
def NewS (now R : ByteArray) (n : Nat) : Prop := ∀ i, n * 64 ≤ i → i < n * 64 + 64 → i < now.size → i < R.size ∧ bn R i = bn now i
/-- A sector of R is wholly what is durable. -/
def OldS (last R : ByteArray) (n : Nat) : Prop := ∀ i, n * 64 ≤ i → i < n * 64 + 64 → bn R i = bn last i
structure Mix (now last R : ByteArray) : Prop where
  lo : last.size ≤ R.size
  hi : R.size ≤ now.size
  sec : ∀ n, NewS now R n ∨ OldS last R n
theorem Mix.start {now last : ByteArray} (h : last.size ≤ now.size) : Mix now last last := ⟨Nat.le_refl _, h, fun n => Or.inr fun _ _ _ => rfl⟩
theorem put_new {now R : ByteArray} {n : Nat} (hn : n * 64 < now.size) : NewS now (putB R (n * 64) (sectB now n)) n := by
  intro i h1 h2 h3
  have hs := sectB_size (s := now) (n := n) hn
  have hss : (sectB now n).size = min (n * 64 + 64) now.size - n * 64 := by unfold sectB; simp only [ByteArray.size_extract]; omega
  rw [putB_size, bn_put, if_neg (by omega), if_pos (by omega), bn_sect _ _ _ (by omega)]
  refine ⟨by omega, ?_⟩
  congr 1
  omega
theorem put_keeps {now R : ByteArray} {n m : Nat} (hn : n * 64 < now.size) (hm : NewS now R m) : NewS now (putB R (n * 64) (sectB now n)) m := by
  by_cases h : m = n
  · subst h
    exact put_new hn
  · intro i h1 h2 h3
    have hs := sectB_size (s := now) (n := n) hn
    have hss : (sectB now n).size = min (n * 64 + 64) now.size - n * 64 := by unfold sectB; simp only [ByteArray.size_extract]; omega
    obtain ⟨g1, g2⟩ := hm i h1 h2 h3
    rw [putB_size, bn_put, if_neg (by omega), if_neg (by omega)]
    exact ⟨by omega, g2⟩
theorem Mix.put {now last R : ByteArray} {n : Nat} (h : Mix now last R) (hn : n * 64 < now.size) : Mix now last (putB R (n * 64) (sectB now n)) := by
  have hs := sectB_size (s := now) (n := n) hn
  have hss : (sectB now n).size = min (n * 64 + 64) now.size - n * 64 := by unfold sectB; simp only [ByteArray.size_extract]; omega
  have h1 := h.lo
  have h2 := h.hi
  refine ⟨?_, ?_, fun m => ?_⟩
  · rw [putB_size, if_neg (by omega)]
    omega
  · rw [putB_size, if_neg (by omega)]
    omega
  · by_cases hm : m = n
    · subst hm
      exact Or.inl (put_new hn)
    · rcases h.sec m with g | g
      · exact Or.inl (put_keeps hn g)
      · refine Or.inr fun i i1 i2 => ?_
        rw [bn_put, if_neg (by omega)]
        exact g i i1 i2
theorem setF_same (F : Int → FileB) (f : Int) (x : FileB) : setF F f x f = x := by simp [setF]
theorem setF_other {F : Int → FileB} {f g : Int} {x : FileB} (h : g ≠ f) : setF F f x g = F g := by simp [setF, h]
theorem sur_now (kl : List Int) (F : Int → FileB) (i : Nat) (p : Sec) (g : Int) : (sur kl F i p g).1 = (F g).1 := by
  unfold sur
  split
  · rfl
  · split
    · rfl
    · split
      · rfl
      · by_cases h : g = p.1
        · subst h
          rw [setF_same]
        · rw [setF_other h]
theorem sur_other {kl : List Int} {F : Int → FileB} {i : Nat} {p : Sec} {g : Int} (h : g ≠ p.1) : sur kl F i p g = F g := by
  unfold sur
  split
  · rfl
  · split
    · rfl
    · split
      · rfl
      · rw [setF_other h]
theorem sur_mix {kl : List Int} {F : Int → FileB} {i : Nat} {p : Sec} {g : Int} {now last : ByteArray} (hn : (F g).1 = now) (h : Mix now last (F g).2) : Mix now last (sur kl F i p g).2 := by
  unfold sur
  split
  · exact h
  · split
    · exact h
    · split
      · exact h
      · rename_i h3
        by_cases hg : g = p.1
        · subst hg
          rw [setF_same, hn]
          rw [hn] at h3
          exact h.put (by omega)
        · rw [setF_other hg]
          exact h
theorem surK_now (kl : List Int) (F : Int → FileB) (Q : List Sec) (g : Int) : ∀ k, (surK kl F Q k g).1 = (F g).1
  | 0 => rfl
  | k + 1 => by
    unfold surK
    cases hq : Q[k]? with
    | some p => exact (sur_now _ _ _ _ _).trans (surK_now kl F Q g k)
    | none => exact surK_now kl F Q g k
theorem surK_mix {kl : List Int} {F : Int → FileB} {Q : List Sec} {g : Int} (h : (F g).2.size ≤ (F g).1.size) : ∀ k, Mix (F g).1 (F g).2 (surK kl F Q k g).2
  | 0 => Mix.start h
  | k + 1 => by
    unfold surK
    cases hq : Q[k]? with
    | some p => exact sur_mix (surK_now kl F Q g k) (surK_mix h k)
    | none => exact surK_mix h k
theorem surK_other {kl : List Int} {F : Int → FileB} {Q : List Sec} {g : Int} (h : ∀ p ∈ Q, p.1 ≠ g) : ∀ k, surK kl F Q k g = F g
  | 0 => rfl
  | k + 1 => by
    unfold surK
    cases hq : Q[k]? with
    | some p => exact (sur_other (fun e => h p (List.mem_of_getElem? hq) e.symm)).trans (surK_other h k)
    | none => exact surK_other h k
theorem surK_nil (F : Int → FileB) (Q : List Sec) : ∀ k, surK [] F Q k = F
  | 0 => rfl
  | k + 1 => by
    unfold surK
    cases hq : Q[k]? with
    | some p => exact (show sur [] (surK [] F Q k) k p = surK [] F Q k from if_pos rfl).trans (surK_nil F Q k)
    | none => exact surK_nil F Q k
theorem odd1 : oddB 1 = true := by kernel_rfl
theorem surK_all {F : Int → FileB} {Q : List Sec} {g : Int} : ∀ k, ∀ p ∈ Q.take k, p.1 = g → NewS (F g).1 (surK [1] F Q k g).2 p.2.toNat
  | 0, p, hp, _ => by simp at hp
  | k + 1, p, hp, hg => by
    unfold surK
    cases hq : Q[k]? with
    | none =>
      refine surK_all k p ?_ hg
      have : Q.length ≤ k := by simpa using hq
      rw [List.take_of_length_le this]
      rw [List.take_of_length_le (by omega)] at hp
      exact hp
    | some q =>
      simp only []
      have hone : oddB (([1] : List Int).getD (k % ([1] : List Int).length) 0) = true := by
        have : k % ([1] : List Int).length = 0 := by simp [Nat.mod_one]
        rw [this]
        exact odd1
      have hnow := surK_now [1] F Q q.1 k
      unfold sur
      rw [if_neg (by simp), if_neg (by rw [hone]; decide), hnow]
      rw [List.take_add_one, hq] at hp
      by_cases hle : (F q.1).1.size ≤ q.2.toNat * 64
      · rw [if_pos hle]
        rcases List.mem_append.1 hp with hp | hp
        · exact surK_all k p hp hg
        · obtain rfl : p = q := by simpa using hp
          subst hg
          intro i i1 i2 i3
          omega
      · rw [if_neg hle]
        by_cases hqg : q.1 = g
        · subst hqg
          rw [setF_same]
          rcases List.mem_append.1 hp with hp | hp
          · exact put_keeps (by omega) (surK_all k p hp hg)
          · obtain rfl : p = q := by simpa using hp
            exact put_new (by omega)
        · rw [setF_other (fun e => hqg e.symm)]
          rcases List.mem_append.1 hp with hp | hp
          · exact surK_all k p hp hg
          · obtain rfl : p = q := by simpa using hp
            exact absurd hg hqg
/-- Files and pending sectors fit. -/
structure Inv (F : Int → FileB) (Q : List Sec) : Prop where
  sz : ∀ f, (F f).2.size ≤ (F f).1.size
  sec : ∀ f, ∀ n : Nat, (f, (n : Int)) ∉ Q → ∀ i, n * 64 ≤ i → i < n * 64 + 64 → bn (F f).1 i = bn (F f).2 i
  tail : ∀ f, (F f).2.size < (F f).1.size → (f, (((((F f).1.size - 1) / 64 : Nat)) : Int)) ∈ Q
theorem Inv.all {F : Int → FileB} {Q : List Sec} (h : Inv F Q) (f : Int) : (surK [1] F Q Q.length f).2 = (F f).1 := by
  have hm := surK_mix (kl := [1]) (Q := Q) (h.sz f) Q.length
  have ha := surK_all (F := F) (Q := Q) (g := f) Q.length
  rw [List.take_length] at ha
  have hsz : (surK [1] F Q Q.length f).2.size = (F f).1.size := by
    have h1 := hm.lo
    have h2 := hm.hi
    by_cases hlt : (F f).2.size < (F f).1.size
    · have := (ha _ (h.tail f hlt) rfl ((F f).1.size - 1) (by simp only [Int.toNat_natCast]; omega) (by simp only [Int.toNat_natCast]; omega) (by omega)).1
      omega
    · omega
  refine bn_ext hsz fun i hi => ?_
  by_cases hin : (f, ((i / 64 : Nat) : Int)) ∈ Q
  · exact (ha _ hin rfl i (by simp only [Int.toNat_natCast]; omega) (by simp only [Int.toNat_natCast]; omega) (by omega)).2
  · have e := h.sec f (i / 64) hin i (by omega) (by omega)
    rcases hm.sec (i / 64) with g | g
    · exact (g i (by omega) (by omega) (by omega)).2
    · rw [g i (by omega) (by omega), e]
theorem Inv.settled {F : Int → FileB} : Inv (fun g => ((F g).2, (F g).2)) [] := ⟨fun f => Nat.le_refl _, fun f n _ i _ _ => rfl, fun f h => absurd h (Nat.lt_irrefl _)⟩
theorem Inv.settle {F : Int → FileB} {Q : List Sec} (h : Inv F Q) (f : Int) (s : ByteArray) : Inv (setF F f (s, s)) (offF f Q) := by
  have mem : ∀ g n, g ≠ f → ((g, n) ∈ offF f Q ↔ (g, n) ∈ Q) := fun g n hg => by
    unfold offF
    rw [List.mem_filter]
    have : (g == f) = false := by rw [beq_eq_false_iff_ne]; exact hg
    simp [this]
  refine ⟨fun g => ?_, fun g n hn i i1 i2 => ?_, fun g hg => ?_⟩
  · by_cases e : g = f
    · subst e
      rw [setF_same]
      exact Nat.le_refl _
    · rw [setF_other e]
      exact h.sz g
  · by_cases e : g = f
    · subst e
      rw [setF_same]
    · rw [setF_other e]
      exact h.sec g n (fun hm => hn ((mem g _ e).2 hm)) i i1 i2
  · by_cases e : g = f
    · subst e
      rw [setF_same] at hg
      exact absurd hg (Nat.lt_irrefl _)
    · rw [setF_other e] at hg ⊢
      exact (mem g _ e).2 (h.tail g hg)
theorem mem_addK {Q : List Sec} {f : Int} {i : Nat} {x : Sec} : ∀ {m : Nat}, x ∈ addK Q f i m ↔ x ∈ Q ∨ ∃ j, i ≤ j ∧ j < i + m ∧ x = (f, (j : Int))
  | 0 => ⟨Or.inl, fun h => h.elim id fun ⟨j, h1, h2, _⟩ => by omega⟩
  | m + 1 => by
    have ih := mem_addK (Q := Q) (f := f) (i := i) (x := x) (m := m)
    unfold addK
    split
    · rename_i hc
      rw [ih]
      constructor
      · rintro (h | ⟨j, h1, h2, h3⟩)
        · exact Or.inl h
        · exact Or.inr ⟨j, h1, by omega, h3⟩
      · rintro (h | ⟨j, h1, h2, h3⟩)
        · exact Or.inl h
        · by_cases hj : j = i + m
          · subst hj
            have : (f, ((i + m : Nat) : Int)) ∈ addK Q f i m := by simpa using hc
            rw [← h3] at this
            exact ih.1 this
          · exact Or.inr ⟨j, h1, by omega, h3⟩
    · rw [List.mem_append, ih]
      constructor
      · rintro ((h | ⟨j, h1, h2, h3⟩) | h)
        · exact Or.inl h
        · exact Or.inr ⟨j, h1, by omega, h3⟩
        · exact Or.inr ⟨i + m, by omega, by omega, by simpa using h⟩
      · rintro (h | ⟨j, h1, h2, h3⟩)
        · exact Or.inl (Or.inl h)
        · by_cases hj : j = i + m
          · subst hj
            exact Or.inr (by simpa using h3)
          · exact Or.inl (Or.inr ⟨j, h1, by omega, h3⟩)
theorem Inv.write {F : Int → FileB} {Q : List Sec} (h : Inv F Q) (f : Int) (a : Nat) (s : ByteArray) (hs : s.size ≠ 0) : Inv (setF F f (putB (F f).1 a s, (F f).2)) (addK Q f (a / 64) ((a + s.size - 1) / 64 - a / 64 + 1)) := by
  refine ⟨fun g => ?_, fun g n hn i i1 i2 => ?_, fun g hg => ?_⟩
  · by_cases e : g = f
    · subst e
      have := h.sz g
      rw [setF_same]
      simp only []
      rw [putB_size, if_neg hs]
      omega
    · rw [setF_other e]
      exact h.sz g
  · rw [mem_addK] at hn
    by_cases e : g = f
    · subst e
      rw [setF_same]
      simp only []
      have hno : (g, (n : Int)) ∉ Q := fun hm => hn (Or.inl hm)
      have hrange : ¬ (a / 64 ≤ n ∧ n < a / 64 + ((a + s.size - 1) / 64 - a / 64 + 1)) := fun hh => hn (Or.inr ⟨n, hh.1, hh.2, rfl⟩)
      rw [bn_put, if_neg (by omega)]
      exact h.sec g n hno i i1 i2
    · rw [setF_other e]
      exact h.sec g n (fun hm => hn (Or.inl hm)) i i1 i2
  · rw [mem_addK]
    by_cases e : g = f
    · subst e
      rw [setF_same] at hg ⊢
      simp only [] at hg ⊢
      rw [putB_size, if_neg hs] at hg ⊢
      by_cases hle : a + s.size < (F g).1.size
      · rw [Nat.max_eq_left (by omega)] at hg ⊢
        exact Or.inl (h.tail g hg)
      · rw [Nat.max_eq_right (by omega)]
        exact Or.inr ⟨(a + s.size - 1) / 64, by omega, by omega, rfl⟩
    · rw [setF_other e] at hg ⊢
      exact Or.inl (h.tail g hg)
end Go.Proofs.Ytgeoompgakdbiaa

/- The plain laws of a disk: what its acts keep. No program in sight. -/
namespace Go.Proofs.Ytgeoompgakdbiaa
open Go.RowKit Go.Maps
set_option linter.unusedSimpArgs false
set_option linter.unusedVariables false
def InvM (M : Mod) : Prop := Inv M.files M.queue
theorem count_files (M : Mod) : (countM M).files = M.files := by unfold countM; split <;> rfl
theorem count_queue (M : Mod) : (countM M).queue = M.queue := by unfold countM; split <;> rfl
theorem count_down (M : Mod) : (countM M).down = M.down := by unfold countM; split <;> rfl
theorem count_keep (M : Mod) : (countM M).keep = M.keep := by unfold countM; split <;> rfl
theorem count_lost (M : Mod) : (countM M).lost = M.lost := by unfold countM; split <;> rfl
theorem InvM.count {M : Mod} (h : InvM M) : InvM (countM M) := by unfold InvM; rw [count_files, count_queue]; exact h
theorem InvM.crash {M : Mod} (h : InvM M) (kl : List Int) : InvM (crashD M kl) := by
  unfold crashD
  split
  · exact h
  · exact Inv.settled
theorem InvM.comes {M : Mod} (h : InvM M) : InvM (comesD M) := by
  unfold comesD
  split
  · exact h.count.crash _
  · exact h.count
theorem InvM.settle {M : Mod} (h : InvM M) (f : Int) (s : ByteArray) : InvM (settleD M f s) := Inv.settle h f s
theorem InvM.write {M : Mod} (h : InvM M) (f a : Int) (s : ByteArray) : InvM (writeD M f a s).1 := by
  unfold writeD
  split
  · split
    · exact h
    · split
      · exact h
      · split
        · exact h
        · exact Inv.write h f a.toNat s (by assumption)
  · exact h
theorem InvM.Write {M : Mod} (h : InvM M) (f a : Int) (s : ByteArray) : InvM (WriteD M f a s).1 := by
  unfold WriteD
  split
  · exact (h.count.write f a s).crash _
  · exact h.count.write f a s
theorem InvM.Sync {M : Mod} (h : InvM M) (f : Int) : InvM (SyncD M f).1 := by
  unfold SyncD
  split
  · split
    · exact h.comes
    · exact h.comes.settle f _
  · exact h.comes
theorem InvM.Trunc {M : Mod} (h : InvM M) (f n : Int) : InvM (TruncD M f n).1 := by
  unfold TruncD
  split
  · split
    · exact h.comes
    · exact h.comes.settle f _
  · exact h.comes
theorem InvM.act {M : Mod} (h : InvM M) (a : ActP) : InvM (doD M a).1 := by
  unfold doD
  split
  · exact h.Sync _
  · split
    · exact h.Trunc _ _
    · split
      · exact h
      · split
        · exact h
        · split
          · exact h.crash _
          · split
            · exact h
            · exact h.Write _ _ _
theorem InvM.start : InvM M0 := ⟨fun f => Nat.le_refl _, fun f n _ i _ _ => rfl, fun f h => absurd h (Nat.lt_irrefl _)⟩
theorem InvM.play : ∀ {M : Mod} (l : List ActP), InvM M → InvM (playD M l)
  | _, [], h => h
  | M, a :: l, h => InvM.play (M := (doD M a).1) l (h.act a)
theorem may_up {M : Mod} {f : Int} (h : M.down = false) (h0 : 0 ≤ f) (h15 : f ≤ 15) : mayD M f = 0 := by
  unfold mayD
  rw [if_neg (by rw [h]; decide), if_neg (by omega)]
theorem read_whole {M : Mod} {f : Int} (h : M.down = false) (h0 : 0 ≤ f) (h15 : f ≤ 15) (hs : (M.files f).1.size ≤ 16777216) : readD M f 0 16777216 = ((M.files f).1, 0) := by
  unfold readD
  rw [if_pos (may_up h h0 h15), if_neg (by omega)]
  exact congrArg (fun x => (x, (0 : Int))) (cut_whole _ hs)
theorem crash_up {M : Mod} (h : M.down = false) (kl : List Int) : upD (crashD M kl) = { M with files := fallF (surK kl M.files M.queue M.queue.length), queue := [], down := false, armed := 0 } := by
  unfold crashD upD
  rw [if_neg (by rw [h]; decide)]
theorem after_is {M : Mod} {f : Int} (h : M.down = false) (h0 : 0 ≤ f) (h15 : f ≤ 15) (kl : List Int) (hs : (surK kl M.files M.queue M.queue.length f).2.size ≤ 16777216) : afterD M f kl = ((surK kl M.files M.queue M.queue.length f).2, true) := by
  unfold afterD
  rw [crash_up h]
  rw [read_whole rfl h0 h15 hs]
  rfl
theorem survives_plain {M : Mod} {f : Int} (hI : InvM M) (h : M.down = false) (h0 : 0 ≤ f) (h15 : f ≤ 15) (hs : (M.files f).1.size ≤ 16777216) (kl : List Int) :
    readD M f 0 16777216 = ((M.files f).1, 0) ∧ afterD M f [] = ((M.files f).2, true) ∧ afterD M f [1] = ((M.files f).1, true) ∧ ∃ R, afterD M f kl = (R, true) ∧ Mix (M.files f).1 (M.files f).2 R := by
  have hm := surK_mix (kl := kl) (Q := M.queue) (hI.sz f) M.queue.length
  have h1 := hI.sz f
  have h2 := hm.hi
  refine ⟨read_whole h h0 h15 hs, ?_, ?_, _, after_is h h0 h15 kl (by omega), hm⟩
  · rw [after_is h h0 h15 [] (by rw [surK_nil]; omega), surK_nil]
  · rw [after_is h h0 h15 [1] (by rw [hI.all]; exact hs), hI.all]
/-- A file that is durable. -/
structure Kept (M : Mod) (f : Int) (s : ByteArray) : Prop where
  file : M.files f = (s, s)
  none : ∀ p ∈ M.queue, p.1 ≠ f
theorem Kept.count {M : Mod} {f : Int} {s : ByteArray} (h : Kept M f s) : Kept (countM M) f s := ⟨by rw [count_files]; exact h.file, by rw [count_queue]; exact h.none⟩
theorem Kept.crash {M : Mod} {f : Int} {s : ByteArray} (h : Kept M f s) (kl : List Int) : Kept (crashD M kl) f s := by
  unfold crashD
  split
  · exact h
  · refine ⟨?_, fun p hp => by simp at hp⟩
    simp only [fallF]
    rw [surK_other h.none, h.file]
theorem Kept.comes {M : Mod} {f : Int} {s : ByteArray} (h : Kept M f s) : Kept (comesD M) f s := by
  unfold comesD
  split
  · exact h.count.crash _
  · exact h.count
theorem Kept.settle {M : Mod} {f g : Int} {s t : ByteArray} (h : Kept M f s) (hg : g ≠ f) : Kept (settleD M g t) f s :=
  ⟨(setF_other hg.symm).trans h.file, fun p hp => h.none p (List.mem_filter.1 hp).1⟩
theorem Kept.write {M : Mod} {f g : Int} {s t : ByteArray} (h : Kept M f s) (hg : g ≠ f) (a : Int) : Kept (writeD M g a t).1 f s := by
  unfold writeD
  split
  · split
    · exact h
    · split
      · exact h
      · split
        · exact h
        · refine ⟨(setF_other hg.symm).trans h.file, fun p hp => ?_⟩
          simp only [] at hp
          rw [mem_addK] at hp
          rcases hp with hp | ⟨j, _, _, rfl⟩
          · exact h.none p hp
          · exact hg
  · exact h
/-- What is done behind a sync. -/
def moreB (f : Int) (a : ActP) : Bool := decide (opD a < 4) && !(a.f == f) || opD a == 4
def moreD (M : Mod) (f : Int) (l : List ActP) : Mod := l.foldl (fun M a => if moreB f a = true then (doD M a).1 else M) M
theorem Kept.act {M : Mod} {f : Int} {s : ByteArray} (h : Kept M f s) {a : ActP} (ha : moreB f a = true) : Kept (doD M a).1 f s := by
  have hc : opD a < 4 ∧ a.f ≠ f ∨ opD a = 4 := by
    unfold moreB at ha
    simpa using ha
  unfold doD
  split
  · have hf : a.f ≠ f := by omega
    unfold SyncD
    split
    · split
      · exact ⟨h.comes.file, h.comes.none⟩
      · exact h.comes.settle hf
    · exact h.comes
  · split
    · have hf : a.f ≠ f := by omega
      unfold TruncD
      split
      · split
        · exact h.comes
        · exact h.comes.settle hf
      · exact h.comes
    · split
      · exact ⟨h.file, h.none⟩
      · have hf : a.f ≠ f := by omega
        rw [if_neg (by omega), if_neg (by omega), if_neg (by omega)]
        unfold WriteD
        split
        · exact (h.count.write hf _).crash _
        · exact h.count.write hf _
theorem Kept.more : ∀ {M : Mod} {f : Int} {s : ByteArray} (l : List ActP), Kept M f s → Kept (moreD M f l) f s
  | _, _, _, [], h => h
  | M, f, s, a :: l, h => by
    refine Kept.more (M := if moreB f a = true then (doD M a).1 else M) l ?_
    split
    · exact h.act (by assumption)
    · exact h
theorem sync_ok {M : Mod} {f : Int} (h : (SyncD M f).2 = 0) : M.down = false ∧ 0 ≤ f ∧ f ≤ 15 ∧ ∃ M1 : Mod, (SyncD M f).1 = M1 ∧ Kept M1 f (M.files f).1 ∧ M1.down = false := by
  have hm : mayD (comesD M) f = 0 := by
    unfold SyncD at h
    split at h
    · assumption
    · exact h
  obtain ⟨h0, h15, hd⟩ := mayD_arg hm
  have he : endsB M = false := by
    cases he : endsB M with
    | false => rfl
    | true =>
      unfold comesD at hd
      rw [if_pos he] at hd
      have hdn : M.down = false := by
        unfold endsB at he
        simp at he
        exact he.1
      unfold crashD at hd
      rw [if_neg (by rw [count_down, hdn]; decide)] at hd
      cases hd
  have hc : comesD M = countM M := by unfold comesD; rw [if_neg (by rw [he]; decide)]
  have hdn : M.down = false := by rw [← count_down, ← hc]; exact hd
  refine ⟨hdn, h0, h15, _, rfl, ?_, ?_⟩
  · unfold SyncD at h ⊢
    rw [if_pos hm] at h ⊢
    split at h
    · exact absurd (show (9 : Int) = 0 from h) (by decide)
    · rename_i hl
      rw [if_neg hl]
      refine ⟨?_, fun p hp => ?_⟩
      · show setF _ f _ f = _
        rw [setF_same, hc, count_files]
      · have := (List.mem_filter.1 hp).2
        simpa using this
  · unfold SyncD at h ⊢
    rw [if_pos hm] at h ⊢
    split at h
    · exact absurd (show (9 : Int) = 0 from h) (by decide)
    · rename_i hl
      rw [if_neg hl]
      exact hd
theorem synced_plain {M : Mod} {f : Int} (h : (SyncD M f).2 = 0) (hs : (M.files f).1.size ≤ 16777216) (l : List ActP) (kl : List Int) :
    readD M f 0 16777216 = ((M.files f).1, 0) ∧ readD (SyncD M f).1 f 0 16777216 = ((M.files f).1, 0) ∧ readD (upD (crashD (moreD (SyncD M f).1 f l) kl)) f 0 16777216 = ((M.files f).1, 0) := by
  obtain ⟨hdn, h0, h15, M1, e1, hk, hd1⟩ := sync_ok h
  rw [e1]
  refine ⟨read_whole hdn h0 h15 hs, ?_, ?_⟩
  · rw [read_whole hd1 h0 h15 (by rw [hk.file]; exact hs), hk.file]
  · have hk2 := (hk.more l).crash kl
    have hu : (upD (crashD (moreD M1 f l) kl)).files f = ((M.files f).1, (M.files f).1) := hk2.file
    rw [read_whole rfl h0 h15 (by rw [hu]; exact hs), hu]
end Go.Proofs.Ytgeoompgakdbiaa
