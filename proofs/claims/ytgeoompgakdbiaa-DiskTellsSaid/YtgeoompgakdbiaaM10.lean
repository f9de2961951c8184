/- Lemmas that the laws of this seat share, 4 texts in one: ArmsP, ReadsP, Own, Reads. No condition of their own. -/
import Derived.Test.YtgeoompgakdbiaaM9
import Derived.Test.YtgeoompgakdbiaaM1
import Derived.Test.YtgeoompgakdbiaaM2
import Derived.Deep.Slices
/- The plain laws of scheduled crashes, and of reads. No program in sight. -/
namespace Go.Proofs.Ytgeoompgakdbiaa
open Go.RowKit Go.Maps
set_option linter.unusedSimpArgs false
set_option linter.unusedVariables false
/-- Ahead of the crash: the one disk is the other one, but for what is scheduled. -/
structure Ahead (kl : List Int) (d c : Mod) (j : Int) : Prop where
  eq : d = { c with armed := j, keep := kl }
  armed : c.armed = 0
  up : c.down = false
/-- Behind the crash: both are down, with the same files. -/
structure Behind (d c : Mod) : Prop where
  files : d.files = c.files
  one : d.down = true
  two : c.down = true
theorem ends_zero {M : Mod} (h : M.armed = 0) : endsB M = false := by
  unfold endsB
  rw [h]
  simp
theorem count_zero {M : Mod} (h : M.armed = 0) : countM M = M := by
  unfold countM
  rw [if_pos (by rw [h]; simp)]
theorem ends_more {M : Mod} {j : Int} (h : M.armed = j) (hj : 2 ≤ j) : endsB M = false := by
  unfold endsB
  rw [h]
  have : (j == 1) = false := by rw [beq_eq_false_iff_ne]; omega
  rw [this]
  simp
theorem count_more {M : Mod} {j : Int} (hd : M.down = false) (h : M.armed = j) (hj : 1 ≤ j) : countM M = { M with armed := j - 1 } := by
  unfold countM
  have : (j == 0) = false := by rw [beq_eq_false_iff_ne]; omega
  rw [if_neg (by rw [hd, h, this]; decide), h]
theorem ends_one {M : Mod} (hd : M.down = false) (h : M.armed = 1) : endsB M = true := by
  unfold endsB
  rw [hd, h]
  rfl
theorem write_kept (c : Mod) (j : Int) (kl : List Int) (f a : Int) (s : ByteArray) : writeD { c with armed := j, keep := kl } f a s = ({ (writeD c f a s).1 with armed := j, keep := kl }, (writeD c f a s).2) := by
  unfold writeD
  have : mayD { c with armed := j, keep := kl } f = mayD c f := rfl
  rw [this]
  split
  · split
    · rfl
    · split
      · rfl
      · split
        · rfl
        · rfl
  · rfl
theorem write_same {c : Mod} (f a : Int) (s : ByteArray) : (writeD c f a s).1.armed = c.armed ∧ (writeD c f a s).1.down = c.down ∧ (writeD c f a s).1.keep = c.keep := by
  unfold writeD
  split
  · split
    · exact ⟨rfl, rfl, rfl⟩
    · split
      · exact ⟨rfl, rfl, rfl⟩
      · split
        · exact ⟨rfl, rfl, rfl⟩
        · exact ⟨rfl, rfl, rfl⟩
  · exact ⟨rfl, rfl, rfl⟩
/-- Sync and Truncate, once the scheduled crash is counted. -/
def syncR (M : Mod) (f : Int) : Mod × Int := if mayD M f = 0 then (if 0 < M.lost then ({ M with lost := M.lost - 1 }, 9) else (settleD M f (M.files f).1, 0)) else (M, mayD M f)
def truncR (M : Mod) (f size : Int) : Mod × Int := if mayD M f = 0 then (if size < 0 ∨ ((M.files f).1.size : Int) < size then (M, 1) else (settleD M f ((M.files f).1.extract 0 size.toNat), 0)) else (M, mayD M f)
theorem sync_is (M : Mod) (f : Int) : SyncD M f = syncR (comesD M) f := rfl
theorem trunc_is (M : Mod) (f n : Int) : TruncD M f n = truncR (comesD M) f n := rfl
theorem syncR_kept (c : Mod) (j : Int) (kl : List Int) (f : Int) : syncR { c with armed := j, keep := kl } f = ({ (syncR c f).1 with armed := j, keep := kl }, (syncR c f).2) := by
  unfold syncR
  have : mayD { c with armed := j, keep := kl } f = mayD c f := rfl
  rw [this]
  split
  · split
    · rfl
    · rfl
  · rfl
theorem truncR_kept (c : Mod) (j : Int) (kl : List Int) (f n : Int) : truncR { c with armed := j, keep := kl } f n = ({ (truncR c f n).1 with armed := j, keep := kl }, (truncR c f n).2) := by
  unfold truncR
  have : mayD { c with armed := j, keep := kl } f = mayD c f := rfl
  rw [this]
  split
  · split
    · rfl
    · rfl
  · rfl
theorem syncR_same (c : Mod) (f : Int) : (syncR c f).1.armed = c.armed ∧ (syncR c f).1.down = c.down := by
  unfold syncR
  split
  · split
    · exact ⟨rfl, rfl⟩
    · exact ⟨rfl, rfl⟩
  · exact ⟨rfl, rfl⟩
theorem truncR_same (c : Mod) (f n : Int) : (truncR c f n).1.armed = c.armed ∧ (truncR c f n).1.down = c.down := by
  unfold truncR
  split
  · split
    · exact ⟨rfl, rfl⟩
    · exact ⟨rfl, rfl⟩
  · exact ⟨rfl, rfl⟩
theorem do_sync {M : Mod} {a : ActP} (h : opD a = 2) : doD M a = SyncD M a.f := by unfold doD; rw [if_pos h]
theorem do_trunc {M : Mod} {a : ActP} (h : opD a = 3) : doD M a = TruncD M a.f a.n := by unfold doD; rw [if_neg (by omega), if_pos h]
theorem do_lose {M : Mod} {a : ActP} (h : opD a = 4) : doD M a = ({ M with lost := max (bits BinOp.and .i64 a.n 3) 0 }, 0) := by unfold doD; rw [if_neg (by omega), if_neg (by omega), if_pos h]
theorem do_write {M : Mod} {a : ActP} (h : opD a < 4) (h2 : opD a ≠ 2) (h3 : opD a ≠ 3) : doD M a = WriteD M a.f a.n a.s := by unfold doD; rw [if_neg h2, if_neg h3, if_neg (by omega), if_neg (by omega), if_neg (by omega), if_neg (by omega)]
/-- What stands in the place of an act in which the crash happens. -/
def lastD (kl : List Int) (c : Mod) (a : ActP) : Mod := crashD (if opD a < 2 then (doD c a).1 else c) kl
theorem Ahead.lose {kl : List Int} {d c : Mod} {j : Int} (h : Ahead kl d c j) {a : ActP} (ha : opD a = 4) : (doD d a).2 = (doD c a).2 ∧ Ahead kl (doD d a).1 (doD c a).1 j := by
  obtain ⟨rfl, h2, h3⟩ := h
  rw [do_lose ha, do_lose ha]
  exact ⟨rfl, rfl, h2, h3⟩
theorem Ahead.step {kl : List Int} {d c : Mod} {j : Int} (h : Ahead kl d c j) {a : ActP} (ha : opD a < 4) (hj : 2 ≤ j) : (doD d a).2 = (doD c a).2 ∧ Ahead kl (doD d a).1 (doD c a).1 (j - 1) := by
  obtain ⟨rfl, h2, h3⟩ := h
  have e1 : endsB { c with armed := j, keep := kl } = false := ends_more rfl hj
  have e2 : countM { c with armed := j, keep := kl } = { c with armed := j - 1, keep := kl } := count_more h3 rfl (by omega)
  have e3 := ends_zero h2
  have e4 := count_zero h2
  have f1 : comesD { c with armed := j, keep := kl } = { c with armed := j - 1, keep := kl } := by unfold comesD; rw [if_neg (by rw [e1]; decide), e2]
  have f2 : comesD c = c := by unfold comesD; rw [if_neg (by rw [e3]; decide), e4]
  by_cases h4 : opD a = 2
  · rw [do_sync h4, do_sync h4, sync_is, sync_is, f1, f2, syncR_kept]
    obtain ⟨g1, g2⟩ := syncR_same c a.f
    exact ⟨rfl, rfl, g1.trans h2, g2.trans h3⟩
  · by_cases h5 : opD a = 3
    · rw [do_trunc h5, do_trunc h5, trunc_is, trunc_is, f1, f2, truncR_kept]
      obtain ⟨g1, g2⟩ := truncR_same c a.f a.n
      exact ⟨rfl, rfl, g1.trans h2, g2.trans h3⟩
    · rw [do_write ha h4 h5, do_write ha h4 h5]
      unfold WriteD
      rw [if_neg (by rw [e1]; decide), if_neg (by rw [e3]; decide), e2, e4, write_kept]
      obtain ⟨g1, g2, g3⟩ := write_same (c := c) a.f a.n a.s
      exact ⟨rfl, rfl, g1.trans h2, g2.trans h3⟩
theorem crash_down {M : Mod} (kl : List Int) : (crashD M kl).down = true := by
  unfold crashD
  split
  · assumption
  · rfl
theorem crash_files {c : Mod} (j : Int) (kl kl' : List Int) : (crashD { c with armed := j, keep := kl } kl').files = (crashD c kl').files := by
  unfold crashD
  by_cases h : c.down = true
  · rw [if_pos (show ({ c with armed := j, keep := kl } : Mod).down = true from h), if_pos h]
  · rw [if_neg (show ¬ ({ c with armed := j, keep := kl } : Mod).down = true from h), if_neg h]
theorem may_down {M : Mod} (h : M.down = true) (f : Int) : mayD M f = 8 := by unfold mayD; rw [if_pos h]
theorem Ahead.crash {kl : List Int} {d c : Mod} (h : Ahead kl d c 1) {a : ActP} (ha : opD a < 4) : (doD d a).2 = 8 ∧ Behind (doD d a).1 (lastD kl c a) := by
  obtain ⟨rfl, h2, h3⟩ := h
  have e1 : endsB { c with armed := 1, keep := kl } = true := ends_one h3 rfl
  have e2 : countM { c with armed := 1, keep := kl } = { c with armed := 0, keep := kl } := count_more (M := { c with armed := 1, keep := kl }) (j := 1) h3 rfl (by decide)
  have e3 := ends_zero h2
  have e4 := count_zero h2
  have f1 : comesD { c with armed := 1, keep := kl } = crashD { c with armed := 0, keep := kl } kl := by unfold comesD; rw [if_pos e1, e2]
  unfold lastD
  by_cases h4 : opD a = 2
  · rw [do_sync h4, sync_is, f1, if_neg (by omega)]
    unfold syncR
    rw [if_neg (by rw [may_down (crash_down _)]; decide), may_down (crash_down _)]
    exact ⟨rfl, crash_files _ _ _, crash_down _, crash_down _⟩
  · by_cases h5 : opD a = 3
    · rw [do_trunc h5, trunc_is, f1, if_neg (by omega)]
      unfold truncR
      rw [if_neg (by rw [may_down (crash_down _)]; decide), may_down (crash_down _)]
      exact ⟨rfl, crash_files _ _ _, crash_down _, crash_down _⟩
    · rw [do_write ha h4 h5, do_write ha h4 h5, if_pos (by omega)]
      unfold WriteD
      rw [if_pos e1, if_neg (by rw [e3]; decide), e2, e4, write_kept]
      exact ⟨rfl, crash_files _ _ _, crash_down _, crash_down _⟩
theorem Behind.step {d c : Mod} (h : Behind d c) {a : ActP} (ha : opD a < 4) : (doD d a).2 = 8 ∧ Behind (doD d a).1 c := by
  have e1 : endsB d = false := by unfold endsB; rw [h.one]; rfl
  have e2 : countM d = d := by unfold countM; rw [if_pos (by rw [h.one]; rfl)]
  have f1 : comesD d = d := by unfold comesD; rw [if_neg (by rw [e1]; decide), e2]
  have hm := may_down h.one
  by_cases h4 : opD a = 2
  · rw [do_sync h4, sync_is, f1]
    unfold syncR
    rw [if_neg (by rw [hm]; decide), hm]
    exact ⟨rfl, h⟩
  · by_cases h5 : opD a = 3
    · rw [do_trunc h5, trunc_is, f1]
      unfold truncR
      rw [if_neg (by rw [hm]; decide), hm]
      exact ⟨rfl, h⟩
    · rw [do_write ha h4 h5]
      unfold WriteD writeD
      rw [if_neg (by rw [e1]; decide), e2, if_neg (by rw [hm]; decide), hm]
      exact ⟨rfl, h⟩
theorem Behind.lose {d c : Mod} (h : Behind d c) {a : ActP} (ha : opD a = 4) : Behind (doD d a).1 c := by
  rw [do_lose ha]
  exact ⟨h.files, h.one, h.two⟩
theorem same_of {d c : Mod} (hf : d.files = c.files) (hd : d.down = c.down) (l : List ActP) : sameB d c l = true := by
  unfold sameB
  have hm : ∀ f, mayD d f = mayD c f := fun f => by unfold mayD; rw [hd]
  have : (l.all fun a => sameA d c a.f) = true := by
    rw [List.all_eq_true]
    intro a _
    have hr : readD d a.f 0 16777216 = readD c a.f 0 16777216 := by unfold readD; rw [hm, hf]
    unfold sameA
    rw [hr, hf]
    simp
  rw [this, hd]
  simp
theorem same_up {d c : Mod} (hf : d.files = c.files) (l : List ActP) : sameB (upD d) (upD c) l = true := same_of (d := upD d) (c := upD c) hf rfl l
end Go.Proofs.Ytgeoompgakdbiaa

/- The plain law of reads. No program in sight. -/
namespace Go.Proofs.Ytgeoompgakdbiaa
open Go.RowKit Go.Maps
set_option linter.unusedSimpArgs false
set_option linter.unusedVariables false
def disarm (M : Mod) : Mod := { M with armed := max 0 0, keep := [] }
theorem disarm_bad {M : Mod} {f at' : Int} {s : ByteArray} (h : M.down = true ∨ f < 0 ∨ 15 < f) : (WriteD (disarm M) f at' s).2 ≠ 0 := by
  have e1 : endsB (disarm M) = false := ends_zero rfl
  have e2 : countM (disarm M) = disarm M := count_zero rfl
  have hm : mayD (disarm M) f ≠ 0 := by
    unfold mayD disarm
    simp only []
    split
    · decide
    · rename_i hd
      rw [if_pos (h.resolve_left hd)]
      decide
  unfold WriteD writeD
  rw [if_neg (by rw [e1]; decide), e2, if_neg hm]
  exact hm
theorem put_read (s t : ByteArray) (a : Nat) : cutB (putB s a t) a t.size = t := by
  apply bn_ext
  · rw [cut_size, putB_size]
    split <;> omega
  · intro i hi
    rw [cut_size, putB_size] at hi
    have hi' : i < t.size := by split at hi <;> omega
    rw [bn_cut, if_pos hi', bn_put, if_pos (by omega)]
    congr 1
    omega
theorem cut_all (s : ByteArray) : cutB s 0 s.size = s := by
  apply bn_ext
  · rw [cut_size]
    omega
  · intro i hi
    rw [cut_size] at hi
    rw [bn_cut, if_pos (by omega)]
    congr 1
    omega
theorem cut_part (s : ByteArray) (a n : Nat) : cutB s a n = s.extract (min a s.size) (min a s.size + min n (s.size - min a s.size)) := by
  apply bn_ext
  · rw [cut_size]
    simp only [ByteArray.size_extract]
    omega
  · intro i hi
    rw [cut_size] at hi
    rw [bn_cut, if_pos (by omega), bn_extract, if_pos (by omega)]
    congr 1
    omega
/-- The disk after the write, the truncation and the crash; 'm': where the file was cut, 'p': how much was read. -/
theorem reads_plain {M : Mod} {f : Int} {a z : Nat} {s : ByteArray} (h : M.down = false) (h0 : 0 ≤ f) (h15 : f ≤ 15) (ha : a ≤ 3000) (hs : s.size ≤ 300) :
    ∃ (M2 : Mod) (all : ByteArray), WriteD (disarm M) f a s = (M2, 0) ∧ (M2.files f).1.size = all.size ∧ readD M2 f a s.size = (s, 0) ∧ readD M2 f 0 all.size = (all, 0) ∧ (∀ m p, m = min a all.size → p = min z (all.size - m) → readD M2 f a z = (all.extract m (m + p), 0)) ∧
      (∀ m : Nat, m = min a all.size → ∃ M3, TruncD M2 f m = (M3, 0) ∧ ((M.files f).1.size ≤ 16777216 → readD (upD (crashD M3 [])) f 0 16777216 = (all.extract 0 m, 0))) ∧ ((M.files f).1.size ≤ 16777216 → all.size ≤ 16777216) := by
  have e1 : endsB (disarm M) = false := ends_zero rfl
  have e2 : countM (disarm M) = disarm M := count_zero rfl
  have hm : mayD (disarm M) f = 0 := may_up h h0 h15
  obtain ⟨M2, hw, hf, hd, har, hq⟩ : ∃ M2 : Mod, WriteD (disarm M) f a s = (M2, 0) ∧ (M2.files f).1 = putB (M.files f).1 a s ∧ M2.down = false ∧ M2.armed = 0 ∧ True := by
    unfold WriteD writeD
    rw [if_neg (by rw [e1]; decide), e2, if_pos hm, if_neg (by omega), if_neg (by omega)]
    by_cases hz : s.size = 0
    · rw [if_pos hz]
      refine ⟨_, rfl, ?_, h, rfl, trivial⟩
      have : s.data.toList = [] := by rw [← List.length_eq_zero_iff, ba_len]; exact hz
      unfold putB putL
      rw [if_pos this]
      show (M.files f).1 = _
      apply ByteArray.ext
      simp
    · rw [if_neg hz]
      refine ⟨_, rfl, ?_, h, rfl, trivial⟩
      show (setF _ f _ f).1 = _
      rw [setF_same]
      rfl
  have hsize : (M.files f).1.size ≤ 16777216 → (putB (M.files f).1 a s).size ≤ 16777216 := fun hfit => by
    rw [putB_size]
    split <;> omega
  have hm2 : mayD M2 f = 0 := may_up hd h0 h15
  have rd : ∀ a n : Int, 0 ≤ a → 0 ≤ n → readD M2 f a n = (cutB (M2.files f).1 a.toNat n.toNat, 0) := fun a n g1 g2 => by
    unfold readD
    rw [if_pos hm2, if_neg (by omega)]
  refine ⟨M2, _, hw, congrArg ByteArray.size hf, ?_, ?_, ?_, ?_, hsize⟩
  · rw [rd _ _ (by omega) (by omega), hf, Int.toNat_natCast, Int.toNat_natCast, put_read]
  · rw [rd _ _ (by omega) (by omega), hf, Int.toNat_natCast]
    exact congrArg (fun x => (x, (0 : Int))) (cut_all _)
  · rintro m p rfl rfl
    rw [rd _ _ (by omega) (by omega), hf, Int.toNat_natCast, Int.toNat_natCast, cut_part]
  · rintro m rfl
    have f1 : comesD M2 = M2 := by unfold comesD; rw [if_neg (by rw [ends_zero har]; decide), count_zero har]
    rw [trunc_is, f1]
    unfold truncR
    rw [if_pos hm2, hf, if_neg (by omega), Int.toNat_natCast]
    refine ⟨_, rfl, fun hfit => ?_⟩
    have hsize := hsize hfit
    have hk : Kept (settleD M2 f ((putB (M.files f).1 a s).extract 0 (min a (putB (M.files f).1 a s).size))) f ((putB (M.files f).1 a s).extract 0 (min a (putB (M.files f).1 a s).size)) :=
      ⟨setF_same _ _ _, fun p hp => by
        have := (List.mem_filter.1 hp).2
        simpa using this⟩
    have hc := (hk.crash []).file
    rw [read_whole rfl h0 h15]
    · show ((crashD _ _).files f |>.1, (0 : Int)) = _
      rw [hc]
    · show ((crashD _ _).files f |>.1).size ≤ _
      rw [hc]
      simp only [ByteArray.size_extract]
      omega
end Go.Proofs.Ytgeoompgakdbiaa

/- Contracts for a disk of our own, results named. -/
namespace Go.Proofs.Ytgeoompgakdbiaa
open Go.RowKit Go.Maps
set_option linter.unusedSimpArgs false
set_option linter.unusedVariables false
set_option maxRecDepth 100000
theorem I64.nat {n : Nat} (h : n ≤ 16777216) : I64 n := ⟨by omega, by omega⟩
theorem Own.good {w0 w : World} {b c : Nat} {M : Mod} (h : Own w0 w b M c) : Good M c := by
  obtain ⟨O, S, hd⟩ := h.at
  exact hd.good
theorem Own.fit {w0 w : World} {b c : Nat} {M : Mod} (h : Own w0 w b M c) (f : Int) : (M.files f).1.size ≤ 16777216 := (h.good.sizes f).1
theorem Own.more {w0 w : World} {b c c' : Nat} {M : Mod} (h : Own w0 w b M c) (hc : c ≤ c') (hs : c' ≤ 1000000) : Own w0 w b M c' := by
  obtain ⟨h1, O, S, h2, h3, h4⟩ := h
  exact ⟨h1, O, S, h2.more hc hs, h3, h4⟩
theorem few9_R {S : Nat → Prop} {w : World} {v : Value} {l : List ActP} {r : Bool} (h : Acts S w v l) (hr : fewB l = r) : Calls Try.prog 9 #[v] w fun e w' => e = .returned (.bool r) ∧ w = w' := hr ▸ few9 h
theorem few_all {l : List ActP} (h : fewB l = true) : l.all okA = true ∧ l.length ≤ 40 := by
  unfold fewB at h
  simpa using h
theorem own_played {w0 w1 : World} {v : Value} {l : List ActP} (hx : Exts w0 w1) (h : Acts (fun k => k < w0.heap.size) w0 v l) (hl : fewB l = true) : Calls Try.prog 22 #[v] w1 fun e w' => ∃ b, e = .returned (.pointer (some ⟨b, 0, none⟩)) ∧ Own w0 w' b (playD M0 l) 240 := by
  have hs := hx.below.size
  have h1 : Acts (fun k => k < w1.heap.size) w1 v l := by
    obtain ⟨g1, xs, g2, g3⟩ := h.exts hx
    refine ⟨g1, xs, g2.mono fun k hk => by omega, fun i a ha => ?_⟩
    obtain ⟨kv, e1, e2, e3, e4, e5, e6⟩ := g3 i a ha
    exact ⟨kv, e1, e2, e3, e4, e5, e6.mono fun k hk => by omega⟩
  refine (played22 h1 hl).mono ?_
  rintro e w' ⟨b, rfl, hx1, O, S, hd, ho, hS⟩
  exact ⟨b, rfl, hx.trans hx1, O, S, hd, fun k hk => Nat.le_trans hs (ho k hk), fun k hk => Nat.le_trans hs (hS k hk)⟩
theorem own_read_R {w0 w : World} {b c : Nat} {M : Mod} {x : ByteArray} {r : Int} (h : Own w0 w b M c) (f at' size : Int) (ha : I64 at') (hs : I64 size) (hr : readD M f at' size = (x, r)) : Calls Try.prog 20 #[.pointer (some ⟨b, 0, none⟩), .int .i64 f, .int .i64 at', .int .i64 size] w fun e w' => e = .returned (.tuple #[.string x, .int .i64 r]) ∧ w = w' := by
  obtain ⟨O, S, hd⟩ := h.at
  have := read20 hd f at' size ha hs
  rw [hr] at this
  exact this
theorem own_down_R {w0 w : World} {b c : Nat} {M : Mod} {r : Bool} (h : Own w0 w b M c) (hr : M.down = r) : Calls Try.prog 14 #[.pointer (some ⟨b, 0, none⟩)] w fun e w' => e = .returned (.bool r) ∧ w = w' := by
  obtain ⟨O, S, hd⟩ := h.at
  exact hr ▸ down14 hd
theorem own_size_R {w0 w : World} {b c : Nat} {M : Mod} {r : Nat} (h : Own w0 w b M c) (f : Int) (hf : I64 f) (hr : (M.files f).1.size = r) : Calls Try.prog 16 #[.pointer (some ⟨b, 0, none⟩), .int .i64 f] w fun e w' => e = .returned (.int .i64 r) ∧ w = w' := by
  obtain ⟨O, S, hd⟩ := h.at
  exact hr ▸ size16 hd f hf
theorem own_disarm {w0 w : World} {b c : Nat} {M : Mod} (h : Own w0 w b M c) : Calls Try.prog 27 #[.pointer (some ⟨b, 0, none⟩), .int .i64 0, .slice none 0 0] w fun e w' => e = .returned (.tuple #[]) ∧ Own w0 w' b (disarm M) c := h.act fun O S hd _ => arm27 hd 0 (by constructor <;> decide) (.slice none 0 0) [] (RowF.nil (fun _ => False) _ _) (by decide) (fun x hx => by cases hx)
theorem own_trunc_R {w0 w : World} {b c : Nat} {M M' : Mod} {r : Int} (h : Own w0 w b M c) (f size : Int) (hf : I64 f) (hs : I64 size) (hr : TruncD M f size = (M', r)) : Calls Try.prog 30 #[.pointer (some ⟨b, 0, none⟩), .int .i64 f, .int .i64 size] w fun e w' => e = .returned (.int .i64 r) ∧ Own w0 w' b M' c := by
  have := h.act fun O S hd _ => trunc30 hd f size hf hs
  rw [hr] at this
  exact this
theorem own_start_R {w0 w : World} {b c : Nat} {M M' : Mod} (h : Own w0 w b M c) (hr : upD M = M') : Calls Try.prog 26 #[.pointer (some ⟨b, 0, none⟩)] w fun e w' => e = .returned (.tuple #[]) ∧ Own w0 w' b M' c := hr ▸ h.act fun O S hd _ => by
  refine (start26 hd).mono ?_
  rintro e w' ⟨rfl, h1, h2⟩
  exact ⟨rfl, After.same h1 h2⟩
/-- A crash with no list. -/
theorem own_crash_nil {w0 w : World} {b c : Nat} {M M' : Mod} (h : Own w0 w b M c) (hr : crashD M [] = M') : Calls Try.prog 25 #[.pointer (some ⟨b, 0, none⟩), .slice none 0 0] w fun e w' => e = .returned (.tuple #[]) ∧ Own w0 w' b M' c := hr ▸ h.act fun O S hd _ => crash25 (kl := []) hd (RowF.nil (fun _ => False) _ _) (fun k hk => hk.elim)
/-- A crash with a list that was handed in. -/
theorem own_crash_R {w0 w : World} {b c : Nat} {M M' : Mod} {kv : Value} {kl : List Int} (h : Own w0 w b M c) (hk : RowF (fun k => k < w0.heap.size) 1 w0 kv kl.length (intsC kl)) (hr : crashD M kl = M') : Calls Try.prog 25 #[.pointer (some ⟨b, 0, none⟩), kv] w fun e w' => e = .returned (.tuple #[]) ∧ Own w0 w' b M' c := hr ▸ h.act fun O S hd ho => crash25 hd (hk.exts h.1) (fun k hk ho' => by have := ho k ho'; omega)
theorem own_do_R {w0 w : World} {b c : Nat} {M M' : Mod} {r : Int} {kv : Value} {a : ActP} (h : Own w0 w b M c) (hk : RowF (fun k => k < w0.heap.size) 1 w0 kv a.keep.length (intsC a.keep)) (ha : ActOk a) (hc : c + 6 ≤ 1000000) (hr : doD M a = (M', r)) : Calls Try.prog 12 #[.pointer (some ⟨b, 0, none⟩), .agg #[.int .i64 a.op, .int .i64 a.f, .int .i64 a.n, .string a.s, kv]] w fun e w' => e = .returned (.int .i64 r) ∧ Own w0 w' b M' (c + 6) := by
  have := h.act fun O S hd ho => do12 hd a kv (hk.exts h.1) (fun k hk ho' => by have := ho k ho'; omega) ha hc
  rw [hr] at this
  exact this
theorem own_after_R {w0 w w1 : World} {b c : Nat} {M : Mod} {x : ByteArray} {r : Bool} {kv : Value} {kl : List Int} {S1 : Nat → Prop} (h : Own w0 w b M c) (hw : Exts w w1) (f : Int) (hk : RowF S1 1 w1 kv kl.length (intsC kl)) (hS1 : ∀ k, S1 k → k < w1.heap.size) (hr : afterD M f kl = (x, r)) : Calls Try.prog 23 #[.pointer (some ⟨b, 0, none⟩), .int .i64 f, kv] w1 fun e w' => e = .returned (.tuple #[.string x, .bool r]) ∧ Exts w1 w' := by
  obtain ⟨O, S, hd⟩ := h.at
  have := after23 (hd.exts hw) f hk hS1
  rw [hr] at this
  exact this
theorem own_after_one {w0 w w1 : World} {b c : Nat} {M : Mod} {x : ByteArray} {r : Bool} (h : Own w0 w b M c) (hw : Exts w w1) (f : Int) (t : TypeId) (hr : afterD M f [1] = (x, r)) : Calls Try.prog 23 #[.pointer (some ⟨b, 0, none⟩), .int .i64 f, .slice (some ⟨w1.heap.size, 0, none⟩) 1 1] (w1.alloc (.cells #[.int .i64 1] t)) fun e w' => e = .returned (.tuple #[.string x, .bool r]) ∧ Exts w1 w' := by
  have := own_after_R (kl := [1]) h (hw.alloc _) f (row_lit w1 [1] t (by decide)) (fun k hk => by
    have e : k = w1.heap.size := hk
    rw [e]
    show _ < (w1.heap.push _).size
    rw [Array.size_push]
    exact Nat.lt_succ_self _) hr
  refine this.mono ?_
  rintro e w' ⟨rfl, hx⟩
  exact ⟨rfl, Exts.trans (by repeat (first | exact Exts.refl _ | apply Exts.andR | apply Exts.alloc | apply Exts.wext | apply Exts.drew | apply Exts.drewN)) hx⟩
theorem own_after_arg {w0 w w1 : World} {b c : Nat} {M : Mod} {x : ByteArray} {r : Bool} {kv : Value} {kl : List Int} (h : Own w0 w b M c) (hw : Exts w w1) (f : Int) (hk : RowF (fun k => k < w0.heap.size) 1 w0 kv kl.length (intsC kl)) (hr : afterD M f kl = (x, r)) : Calls Try.prog 23 #[.pointer (some ⟨b, 0, none⟩), .int .i64 f, kv] w1 fun e w' => e = .returned (.tuple #[.string x, .bool r]) ∧ Exts w1 w' :=
  own_after_R h hw f (hk.exts (h.1.trans hw)) (fun k hk => Nat.lt_of_lt_of_le hk (h.1.trans hw).below.size) hr
end Go.Proofs.Ytgeoompgakdbiaa

/- From the form's reading of an argument to rows of cells in memory. No program in sight, but for the names. -/
namespace Go.Proofs.Ytgeoompgakdbiaa
open Go.RowKit Go.Deep
set_option linter.unusedSimpArgs false
set_option linter.unusedVariables false

section
variable {H : Type} {enc : TypeId × Value → H} {P : Program} {w : World} {base : Nat} {spare : Nat → Bool} {held : Bool} {fuel : Nat} {t : TypeId} {cs : List Value} {x : DataW H × List MemPlace}

/-- The cells read at a type. -/
def Reads (enc : TypeId × Value → H) (P : Program) (w : World) (base : Nat) (spare : Nat → Bool) (held : Bool) (t : TypeId) (cs : List Value) : Prop := ∃ n y, DataW.trod enc P w base spare held n t cs = some y

theorem Reads.int {k : IntKind} (ht : P.underlying t = some (.int k)) (h : Reads enc P w base spare held t cs) : ∃ n, cs = [.int k n] ∧ (Lit.int k n).wf = true := by
  obtain ⟨_, _, h⟩ := h
  obtain ⟨n, h1, _, h2⟩ := DataW.trod_int ht h
  exact ⟨n, h1, h2⟩
theorem Reads.bool (ht : P.underlying t = some .bool) (h : Reads enc P w base spare held t cs) : ∃ b, cs = [.bool b] := by
  obtain ⟨_, _, h⟩ := h
  obtain ⟨b, h1, _⟩ := DataW.trod_bool ht h
  exact ⟨b, h1⟩
theorem Reads.string (ht : P.underlying t = some .string) (h : Reads enc P w base spare held t cs) : ∃ s : ByteArray, cs = [.string s] ∧ s.size ≤ maxLen := by
  obtain ⟨_, _, h⟩ := h
  obtain ⟨s, h1, _, h2⟩ := DataW.trod_string ht h
  exact ⟨s, h1, h2⟩
theorem Reads.field {fs : Array Field} (ht : P.underlying t = some (.struct fs)) (h : Reads enc P w base spare held t cs) (i : Nat) (f : Field) (hf : fs[i]? = some f) {m : Nat} (hm : P.cellsOf f.type = m) :
    Reads enc P w base spare held f.type ((cs.drop f.offset).take m) := by
  subst hm
  obtain ⟨_, _, h⟩ := h
  obtain ⟨xs, n, _, _, _, hl, hx⟩ := DataW.trod_struct ht h
  have hi := (Array.getElem?_eq_some_iff.1 hf).1
  refine ⟨n, xs[i], ?_⟩
  rw [hx i f hf, List.getElem?_eq_getElem (by omega)]
theorem Reads.size {fs : Array Field} (ht : P.underlying t = some (.struct fs)) (h : Reads enc P w base spare held t cs) : cs.length = P.cellsOf t := by
  obtain ⟨_, _, h⟩ := h
  obtain ⟨xs, n, _, _, hl, _⟩ := DataW.trod_struct ht h
  exact hl
theorem Reads.slice {e : TypeId} {k : Nat} (ht : P.underlying t = some (.slice e)) (hk : P.cellsOf e = k) (hk0 : 0 < k) (h : Reads enc P w base spare held t cs) :
    ∃ ao n cap, ∃ L : List (List Value), cs = [.slice ao n cap] ∧ L.length = n ∧ RowF (fun _ => True) k w (.slice ao n cap) n L.flatten ∧ ∀ l ∈ L, l.length = k ∧ Reads enc P w base spare held e l := by
  obtain ⟨_, _, h⟩ := h
  rcases DataW.trod_slice ht h with ⟨rfl, _⟩ | ⟨a, len, cap, elems, rest, m, _, rfl, _, hb, hl, hm, hlen, hel, _, _⟩
  · exact ⟨none, 0, 0, [], rfl, rfl, RowF.nil _ _ _, fun l hl => by cases hl⟩
  · obtain ⟨C, hC⟩ := choose_lt (α := List Value) (n := len) (p := fun i c => w.cells? base (a.add (i * k)) k = some c ∧ Reads enc P w base spare held e c) (fun i hi => by
      have := hel i hi
      rw [hk, List.getElem?_eq_getElem (by omega)] at this
      obtain ⟨c, h1, h2⟩ := Option.bind_eq_some_iff.1 this
      exact ⟨c, h1, m, _, h2⟩)
    have hCl : ∀ l ∈ (List.range len).map C, l.length = k := by
      intro l hl
      rw [List.mem_map] at hl
      obtain ⟨i, hi, rfl⟩ := hl
      exact (World.cells?_some (hC i (by simpa using hi)).1).2.1
    refine ⟨some a, len, cap, (List.range len).map C, rfl, by simp, ⟨?_, some a, cap, rfl, hl, hm, (fun h => by cases h), fun hn => ?_⟩, ?_⟩
    · rw [flatten_len _ hCl]; simp
    · have at0 : ∃ v, w.cell? a = some v := by
        obtain ⟨_, h2, h3⟩ := World.cells?_some (hC 0 hn).1
        have := h3 0 hk0
        rw [Nat.zero_mul] at this
        have hadd : (a.add 0).add 0 = a := by simp [Addr.add]
        rw [hadd, List.getElem?_eq_getElem (by omega)] at this
        exact ⟨_, this⟩
      obtain ⟨v, hv⟩ := at0
      have hsp : a.spot = none := by
        unfold World.cell? at hv
        split at hv
        · split at hv
          · cases hv
          · simpa using ‹¬ a.spot.isSome = true›
        · cases hv
      obtain ⟨b, off, sp⟩ := a
      simp only at hsp
      subst hsp
      refine ⟨b, off, rfl, trivial, World.block_lt_of_cell? w _ hv, fun t c ht => ?_⟩
      have htl := (List.getElem?_eq_some_iff.1 ht).1
      rw [flatten_len _ hCl] at htl
      simp only [List.length_map, List.length_range] at htl
      have hdm : t / k * k + t % k = t := by rw [Nat.mul_comm]; exact Nat.div_add_mod t k
      have hmod := Nat.mod_lt t hk0
      have hi : t / k < len := Nat.div_lt_of_lt_mul (by rw [Nat.mul_comm]; exact htl)
      rw [← hdm, flatten_at _ hCl _ _ hmod] at ht
      simp only [List.getElem?_map, List.getElem?_range hi, Option.map_some, Option.bind_some] at ht
      obtain ⟨_, _, h3⟩ := World.cells?_some (hC (t / k) hi).1
      have := h3 (t % k) hmod
      rw [ht, Addr.add_lit, Addr.add_lit, Nat.add_assoc, hdm] at this
      exact this
    · intro l hl
      refine ⟨hCl l hl, ?_⟩
      rw [List.mem_map] at hl
      obtain ⟨i, hi, rfl⟩ := hl
      exact (hC i (by simpa using hi)).2
/-- An argument. -/
theorem Reads.arg {v : Value} {d : DataW H} {p : List MemPlace} (h : DataW.Trod enc P w base spare held t v d p) : Reads enc P w base spare held t v.cells.toList := by
  obtain ⟨n, h⟩ := h
  exact ⟨n, _, h⟩
/-- A list of what each reads as. -/
theorem list_of {α : Type} {β : Type} {R : β → α → Prop} : ∀ (L : List β), (∀ l ∈ L, ∃ a, R l a) → ∃ A : List α, A.length = L.length ∧ ∀ (i : Nat) (l : β), L[i]? = some l → ∃ a, A[i]? = some a ∧ R l a
  | [], _ => ⟨[], rfl, fun i l h => by simp at h⟩
  | l :: L, h => by
    obtain ⟨a, ha⟩ := h l (by simp)
    obtain ⟨A, h1, h2⟩ := list_of L (fun l' hl => h l' (by simp [hl]))
    refine ⟨a :: A, by simp [h1], fun i l' hi => ?_⟩
    cases i with
    | zero => simp at hi; subst hi; exact ⟨a, by simp, ha⟩
    | succ i => simp at hi; simpa using h2 i l' hi
end
end Go.Proofs.Ytgeoompgakdbiaa
