/- Lemmas that the laws of this seat share, 3 texts in one: Read, Copy, Write. No condition of their own. -/
import Derived.Test.YtgeoompgakdbiaaM3
import Derived.Shelf.SlMaps.Clone
import Derived.Deep.RegionHeld3
import Derived.Deep.AppendLies
import Derived.Deep.RegionLawGrows
import Derived.BigRegion
import Derived.Deep.RegionHeldLaw
/- Read. No condition. -/
namespace Go.Proofs.Ytgeoompgakdbiaa
open Go.RowKit Go.Maps
set_option linter.unusedSimpArgs false
set_option linter.unusedVariables false
set_option maxRecDepth 100000
/-- The part of a string that was asked for, as far as it exists. -/
def tailB (s : ByteArray) (a : Nat) : ByteArray := s.extract (min a s.size) s.size
def cutB (s : ByteArray) (a n : Nat) : ByteArray := (tailB s a).extract 0 (min n (tailB s a).size)
def readD (M : Mod) (f at' size : Int) : ByteArray × Int := if mayD M f = 0 then (if at' < 0 ∨ size < 0 then (⟨#[]⟩, 1) else (cutB (M.files f).1 at'.toNat size.toNat, 0)) else (⟨#[]⟩, mayD M f)
theorem mayD_arg {M : Mod} {f : Int} (h : mayD M f = 0) : 0 ≤ f ∧ f ≤ 15 ∧ M.down = false := by
  unfold mayD at h
  split at h
  · omega
  · rename_i hd
    split at h
    · omega
    · rename_i hf
      exact ⟨by omega, by omega, by simpa using hd⟩
theorem may44_D {w : World} {b c : Nat} {M : Mod} {O S : Nat → Prop} (hd : DiskAt w b M O S c) (f m : Int) (hm : mayD M f = m) : Calls Try.prog 44 #[.pointer (some ⟨b, 0, none⟩), .int .i64 f] w fun e w' => e = .returned (.int .i64 m) ∧ w = w' := by
  subst hm
  exact may44 hd f
set_option maxHeartbeats 1000000
theorem read20 {w : World} {b c : Nat} {M : Mod} {O S : Nat → Prop} (hd : DiskAt w b M O S c) (f at' size : Int) (ha : I64 at') (hs : I64 size) : Calls Try.prog 20 #[.pointer (some ⟨b, 0, none⟩), .int .i64 f, .int .i64 at', .int .i64 size] w fun e w' => e = .returned (.tuple #[.string (readD M f at' size).1, .int .i64 (readD M f at' size).2]) ∧ w = w' := by
  have HD := Lib.hid hd
  obtain ⟨m, hm⟩ : ∃ m, mayD M f = m := ⟨_, rfl⟩
  have HM := Lib.hid hm
  by_cases h0 : m = 0
  · subst h0
    obtain ⟨hf0, hf15, hdn⟩ := mayD_arg hm
    by_cases h1 : at' < 0
    · have HR := Lib.hid (show readD M f at' size = (⟨#[]⟩, 1) by unfold readD; rw [if_pos hm, if_pos (Or.inl h1)])
      have q1 : decide (at' < 0) = true := by simpa using h1
      clear hd hm h1
      go_enter Try.func20, Try.ntmps20
      go_wp2_with (first | (go_at_call 44; ((with_reducible refine (may44_D HD.out _ _ HM.out).mono ?_); rintro e w' ⟨rfl, rfl⟩)))
      go_ret2
      exact ⟨by rw [HR.out]; rfl, rfl⟩
    · have q1 : decide (at' < 0) = false := by simpa using h1
      by_cases h2 : size < 0
      · have HR := Lib.hid (show readD M f at' size = (⟨#[]⟩, 1) by unfold readD; rw [if_pos hm, if_pos (Or.inr h2)])
        have q2 : decide (size < 0) = true := by simpa using h2
        clear hd hm h1 h2
        go_enter Try.func20, Try.ntmps20
        go_wp2_with (first | (go_at_call 44; ((with_reducible refine (may44_D HD.out _ _ HM.out).mono ?_); rintro e w' ⟨rfl, rfl⟩)))
        go_ret2
        exact ⟨by rw [HR.out]; rfl, rfl⟩
      · have q2 : decide (size < 0) = false := by simpa using h2
        obtain ⟨a, rfl⟩ := Int.eq_ofNat_of_zero_le (show 0 ≤ at' by omega)
        obtain ⟨n, rfl⟩ := Int.eq_ofNat_of_zero_le (show 0 ≤ size by omega)
        have HR := Lib.hid (show readD M f a n = (cutB (M.files f).1 a n, 0) by unfold readD; rw [if_pos hm, if_neg (by omega)]; rfl)
        obtain ⟨fm, sm, qv, kv, lb, cc, ff, o1, o2, o3, n1, n2, n3, hF, hS, hQ, ⟨ko, kc, rfl, hK⟩⟩ := hd.cells
        obtain ⟨qo, qc, rfl⟩ := owns_shape hQ
        have c0 := cc 0
        have c1 := cc 1
        have c2 := cc 2
        have c3 := cc 3
        have c4 := cc 4
        have c5 := cc 5
        have c6 := cc 6
        simp only [boxD, List.getElem?_toArray, List.getElem?_cons_zero, List.getElem?_cons_succ] at c0 c1 c2 c3 c4 c5 c6
        clear cc
        have hl := hF.look (show I64 f by constructor <;> omega)
        obtain ⟨s, hs'⟩ : ∃ s, M.files f = s := ⟨_, rfl⟩
        rw [hs'] at hl
        have HS' := Lib.hid hs'
        unfold fileV at hl
        clear hd hm h1 h2 hF hS hQ hK hs'
        by_cases h3 : s.1.size < a
        · have t1 : tailB s.1 a = s.1.extract s.1.size s.1.size := by unfold tailB; rw [Nat.min_eq_right (by omega)]
          have t2 : (s.1.extract s.1.size s.1.size).size = 0 := by simp
          have HC := Lib.hid (show cutB s.1 a n = ByteArray.empty by unfold cutB; rw [t1, t2, Nat.min_zero]; simp)
          clear t1 t2
          by_cases h4 : 0 < n
          · go_enter Try.func20, Try.ntmps20
            go_wp2_with (first | (go_at_call 44; ((with_reducible refine (may44_D HD.out _ _ HM.out).mono ?_); rintro e w' ⟨rfl, rfl⟩)))
            go_ret2
            exact ⟨by rw [HR.out, HS'.out, HC.out]; rfl, rfl⟩
          · obtain rfl : n = 0 := by omega
            go_enter Try.func20, Try.ntmps20
            go_wp2_with (first | (go_at_call 44; ((with_reducible refine (may44_D HD.out _ _ HM.out).mono ?_); rintro e w' ⟨rfl, rfl⟩)))
            go_ret2
            exact ⟨by rw [HR.out, HS'.out, HC.out]; rfl, rfl⟩
        · have h3' : a ≤ s.1.size := by omega
          have t1 : tailB s.1 a = s.1.extract a s.1.size := by unfold tailB; rw [Nat.min_eq_left (by omega)]
          have t2 : (s.1.extract a s.1.size).size = s.1.size - a := by simp
          by_cases h4 : s.1.size - a < n
          · have HC := Lib.hid (show cutB s.1 a n = (s.1.extract a s.1.size).extract 0 (s.1.size - a) by unfold cutB; rw [t1, t2, Nat.min_eq_right (by omega)])
            clear t1 t2
            go_enter Try.func20, Try.ntmps20
            go_wp2_with (first | (go_at_call 44; ((with_reducible refine (may44_D HD.out _ _ HM.out).mono ?_); rintro e w' ⟨rfl, rfl⟩)))
            go_ret2
            exact ⟨by rw [HR.out, HS'.out, HC.out]; rfl, rfl⟩
          · have HC := Lib.hid (show cutB s.1 a n = (s.1.extract a s.1.size).extract 0 n by unfold cutB; rw [t1, t2, Nat.min_eq_left (by omega)])
            clear t1 t2
            go_enter Try.func20, Try.ntmps20
            go_wp2_with (first | (go_at_call 44; ((with_reducible refine (may44_D HD.out _ _ HM.out).mono ?_); rintro e w' ⟨rfl, rfl⟩)))
            go_ret2
            exact ⟨by rw [HR.out, HS'.out, HC.out]; rfl, rfl⟩
  · have HR := Lib.hid (show readD M f at' size = (⟨#[]⟩, m) by unfold readD; rw [if_neg (by rw [hm]; exact h0), hm])
    have q1 : (m == 0) = false := by simpa using h0
    have q2 : (m != 0) = true := by simpa using h0
    clear hd hm h0
    go_enter Try.func20, Try.ntmps20
    go_wp2_with (first | (go_at_call 44; ((with_reducible refine (may44_D HD.out _ _ HM.out).mono ?_); rintro e w' ⟨rfl, rfl⟩)))
    go_ret2
    exact ⟨by rw [HR.out]; rfl, rfl⟩
end Go.Proofs.Ytgeoompgakdbiaa

/- maps.Clone at the disk's two maps, and Copy. -/
namespace Go.Proofs.Ytgeoompgakdbiaa
open Go.RowKit Go.Maps
set_option linter.unusedSimpArgs false
set_option linter.unusedVariables false
set_option maxRecDepth 100000
set_option maxHeartbeats 2000000 in
theorem mclone40 (b : Nat) (es : Array MapEntry) (clock : Nat) (w : World) (hb : w.heap[b]? = some (.map es clock)) :
    Calls Try.prog 40 #[.map (some b)] w fun e w' => e = .returned (.map (some w.heap.size)) ∧ w' = w.alloc (.map es clock) := by
  have hq := fun w => run_eql_map_nil_sl (P := Try.prog) w 52 _ _ (some b) Try.underlying52
  go_enter Try.func40, Try.ntmps40
  go_wp2
  rw [run_callFunc_extern Try.func55 (by kernel_rfl) (by kernel_rfl) (by kernel_rfl) (e := Extern.MapsClone.clone) (by kernel_rfl), run_maps_clone_sl w 52 hb]
  simp only [Result.andThen]
  rw [Oper.upon_value]
  go_wp2
  rw [run_typeAssert_map_sl _ 52 20 _ _ _ Try.underlying52]
  simp only [Result.andThen]
  rw [Oper.upon_value]
  go_wp2
  go_ret
  exact ⟨rfl, rfl⟩
set_option maxHeartbeats 2000000 in
theorem mclone42 (b : Nat) (es : Array MapEntry) (clock : Nat) (w : World) (hb : w.heap[b]? = some (.map es clock)) :
    Calls Try.prog 42 #[.map (some b)] w fun e w' => e = .returned (.map (some w.heap.size)) ∧ w' = w.alloc (.map es clock) := by
  have hq := fun w => run_eql_map_nil_sl (P := Try.prog) w 53 _ _ (some b) Try.underlying53
  go_enter Try.func42, Try.ntmps42
  go_wp2
  rw [run_callFunc_extern Try.func55 (by kernel_rfl) (by kernel_rfl) (by kernel_rfl) (e := Extern.MapsClone.clone) (by kernel_rfl), run_maps_clone_sl w 53 hb]
  simp only [Result.andThen]
  rw [Oper.upon_value]
  go_wp2
  rw [run_typeAssert_map_sl _ 53 20 _ _ _ Try.underlying53]
  simp only [Result.andThen]
  rw [Oper.upon_value]
  go_wp2
  go_ret
  exact ⟨rfl, rfl⟩
theorem clone_files {w : World} {fm : Nat} {F : Int → FileB} (h : FilesAt w fm F) : Calls Try.prog 40 #[.map (some fm)] w fun e w' => e = .returned (.map (some w.heap.size)) ∧ Exts w w' ∧ FilesAt w' w.heap.size F := by
  obtain ⟨D, ⟨es, clock, hb, hF, hs, hD⟩, h2⟩ := h
  refine (mclone40 fm es clock w hb).mono ?_
  rintro e w' ⟨rfl, rfl⟩
  exact ⟨rfl, (Exts.refl w).alloc _, D, ⟨es, clock, (MapKept.heap_alloc w _).1, hF, hs, hD⟩, h2⟩
theorem clone_set {w : World} {sm n : Nat} {Q : List Sec} (h : SetAt w sm Q n) : Calls Try.prog 42 #[.map (some sm)] w fun e w' => e = .returned (.map (some w.heap.size)) ∧ Exts w w' ∧ SetAt w' w.heap.size Q n := by
  obtain ⟨D, ⟨es, clock, hb, hF, hs, hD⟩, h2⟩ := h
  refine (mclone42 sm es clock w hb).mono ?_
  rintro e w' ⟨rfl, rfl⟩
  exact ⟨rfl, (Exts.refl w).alloc _, D, ⟨es, clock, (MapKept.heap_alloc w _).1, hF, hs, hD⟩, h2⟩
theorem owns_base {w : World} {base e k n g : Nat} {v : Value} {xs : List Value} (h : w.ownsRow base e k v n xs) (hg : v.ownBlock = some g) : base ≤ g := by
  obtain ⟨_, ⟨rfl, _⟩ | ⟨g', cap, cur, rfl, hb, _⟩⟩ := h
  · cases hg
  · cases hg
    exact hb
theorem owns_lt {w : World} {base e k n g : Nat} {v : Value} {xs : List Value} (h : w.ownsRow base e k v n xs) (hg : v.ownBlock = some g) : g < w.heap.size := by
  obtain ⟨_, ⟨rfl, _⟩ | ⟨g', cap, cur, rfl, _, hb, _⟩⟩ := h
  · cases hg
  · cases hg
    exact (Array.getElem?_eq_some_iff.1 hb).1
theorem owns_any {w : World} {base e k n : Nat} {v : Value} {xs : List Value} (h : w.ownsRow base e k v n xs) : w.ownsRow 0 e k v n xs := by
  obtain ⟨h1, h2 | ⟨g', cap, cur, h2, hb, h3⟩⟩ := h
  · exact ⟨h1, .inl h2⟩
  · exact ⟨h1, .inr ⟨g', cap, cur, h2, Nat.zero_le _, h3⟩⟩
/-- A box whose content has turned, with blocks behind it. -/
theorem box_turn (w : World) (o o' : Obj) (x x' : Ex) (ys : Array Obj) (h : x'.bs = x.bs ++ ys) : Touch (fun k => k = w.heap.size) (wext (w.alloc o) x) (wext (w.alloc o') x') := by
  refine ⟨rfl, rfl, rfl, ?_, fun k hk hn => ?_⟩
  · simp [h]
  · simp only [wext_size, World.size_alloc] at hk
    simp only [wext, World.alloc, Array.getElem?_append, Array.getElem?_push, Array.size_push, h]
    by_cases h1 : k < w.heap.size + 1
    · have h2 : k < w.heap.size := by omega
      simp only [if_pos h1, if_neg (Nat.ne_of_lt h2)]
    · rw [if_neg h1, if_neg h1, if_pos (by omega)]
theorem copy18 {w : World} {b c : Nat} {M : Mod} {O S : Nat → Prop} (hd : DiskAt w b M O S c) : Calls Try.prog 18 #[.pointer (some ⟨b, 0, none⟩)] w fun e w' => ∃ b', e = .returned (.pointer (some ⟨b', 0, none⟩)) ∧ Exts w w' ∧ DiskAt w' b' M (fun k => w.heap.size ≤ k ∧ k < w'.heap.size) S c := by
  obtain ⟨fm, sm, qv, kv, lb, cc, ff, o1, o2, o3, n1, n2, n3, hF, hS, hQ, ⟨ko, kc, rfl, hK⟩⟩ := hd.cells
  obtain ⟨qo, qc, rfl⟩ := owns_shape hQ
  have c0 := cc 0
  have c1 := cc 1
  have c2 := cc 2
  have c3 := cc 3
  have c4 := cc 4
  have c5 := cc 5
  have c6 := cc 6
  simp only [boxD, List.getElem?_toArray, List.getElem?_cons_zero, List.getElem?_cons_succ] at c0 c1 c2 c3 c4 c5 c6
  clear cc
  have HD := Lib.hid hd
  have HF := Lib.hid hF
  have HS := Lib.hid hS
  have HQ := Lib.hid hQ
  have HK := Lib.hid hK
  obtain ⟨hc1, hc2⟩ : M.queue.length ≤ c ∧ c ≤ 1000000 := ⟨hd.good.count, hd.good.small⟩
  clear hF hS hQ hK hd
  go_enter Try.func18, Try.ntmps18
  go_wp2
  go_region_held3 (fun w' => w'.cell? ⟨b, 0, none⟩ = some (.map (some fm)) ∧ w'.cell? ⟨b, 1, none⟩ = some (.slice qo M.queue.length qc) ∧ w'.cell? ⟨b, 2, none⟩ = some (.map (some sm))) (first | assumption | (refine ⟨?_, ?_, ?_⟩ <;> (simp [go_sem, lb, c0, c1, c2]; done))) ((first | (go_at_call 40; ((with_reducible refine (clone_files (HF.out.touch (O := fun _ => False) (Touch.of_exts (by repeat (first | exact Exts.refl _ | apply Exts.andR | apply Exts.alloc | apply Exts.wext | apply Exts.drew | apply Exts.drewN))) (fun h => h))).mono ?_); rintro e w' ⟨rfl, ⟨x1, rfl⟩, h1⟩; (have H1 := Lib.hid h1); clear h1)) | (go_at_call 41; ((with_reducible refine (clone41 _ _ _ _ (ownsRow_exts HQ.out (by repeat (first | exact Exts.refl _ | apply Exts.andR | apply Exts.alloc | apply Exts.wext | apply Exts.drew | apply Exts.drewN))) (ones_secs _) (by omega)).mono ?_); rintro e w' ⟨v2, rfl, ⟨x2, rfl⟩, h1⟩; (obtain ⟨qo2, qc2, rfl⟩ := owns_shape h1); (have H2 := Lib.hid h1); clear h1)) | (go_at_call 42; ((with_reducible refine (clone_set (HS.out.touch (O := fun _ => False) (Touch.of_exts (by repeat (first | exact Exts.refl _ | apply Exts.andR | apply Exts.alloc | apply Exts.wext | apply Exts.drew | apply Exts.drewN))) (fun h => h))).mono ?_); rintro e w' ⟨rfl, ⟨x3, rfl⟩, h1⟩; (have H3 := Lib.hid h1); clear h1))))
  all_goals
    go_wp2
    go_ret
    simp only [heap_drew, World.size_alloc, wext_size, wext_of_drew, wext_and, add_and_size] at H1 H2 H3
    have b1 := fun o' => box_turn w (.cells #[.map (some fm), .slice qo M.queue.length qc, .map (some sm), .int .i64 M.lost, .bool M.down, .int .i64 M.armed, .slice ko M.keep.length kc] 56) o' x1 ((x1.and x2).and x3) (x2.bs ++ x3.bs) (by simp [Ex.and, Array.append_assoc])
    have b2 := fun o' => box_turn w (.cells #[.map (some fm), .slice qo M.queue.length qc, .map (some sm), .int .i64 M.lost, .bool M.down, .int .i64 M.armed, .slice ko M.keep.length kc] 56) o' (x1.and x2) ((x1.and x2).and x3) x3.bs rfl
    have b3 := fun o' => box_turn w (.cells #[.map (some fm), .slice qo M.queue.length qc, .map (some sm), .int .i64 M.lost, .bool M.down, .int .i64 M.armed, .slice ko M.keep.length kc] 56) o' ((x1.and x2).and x3) ((x1.and x2).and x3) #[] (by simp)
    have g2 := fun g (hg : (Value.slice qo2 M.queue.length qc2).ownBlock = some g) => owns_base H2.out hg
    have g3 := fun g (hg : (Value.slice qo2 M.queue.length qc2).ownBlock = some g) => owns_lt H2.out hg
    have hl1 := H1.out.lt
    have hl3 := H3.out.lt
    simp only [World.size_alloc, wext_size, add_and_size] at g2 g3 hl1 hl3
    refine ⟨_, rfl, (by repeat (first | exact Exts.refl _ | apply Exts.andR | apply Exts.alloc | apply Exts.wext | apply Exts.drew | apply Exts.drewN)), ⟨fun k hk ho => ?_, fun k hk => hk.2, fun k hk => ?_, ⟨Nat.le_refl _, by simp only [wext_size, World.size_alloc, add_and_size]; omega⟩, ⟨w.heap.size + 1, _, .slice qo2 M.queue.length qc2, .slice ko M.keep.length kc, ?_, ?_, ?_, fun g hg => ?_, ?_, H1.out.touch (b1 _) ?_, H3.out.touch (b3 _) ?_, ownsRow_touch (owns_any H2.out) (b2 _) ?_, ⟨ko, kc, rfl, ?_⟩⟩, HD.out.good⟩⟩
    · have := HD.out.sLt k hk
      omega
    · have := HD.out.sLt k hk
      simp only [wext_size, World.size_alloc, add_and_size]
      omega
    · rw [wext_heap_old _ _ _ (by simp)]
      exact (MapKept.heap_alloc w _).1
    · simp only [wext_size, World.size_alloc, add_and_size]
      omega
    · simp only [wext_size, World.size_alloc, add_and_size]
      omega
    · have h1 := g2 g hg
      have h2 := g3 g hg
      simp only [wext_size, World.size_alloc, add_and_size]
      omega
    · omega
    · omega
    · omega
    · intro g hg
      have h1 := g2 g hg
      omega
    · exact HK.out.exts (by repeat (first | exact Exts.refl _ | apply Exts.andR | apply Exts.alloc | apply Exts.wext | apply Exts.drew | apply Exts.drewN))
end Go.Proofs.Ytgeoompgakdbiaa

/- write. Conditions: at most 300 bytes. -/
namespace Go.Proofs.Ytgeoompgakdbiaa
open Go.RowKit Go.Maps
set_option linter.unusedSimpArgs false
set_option linter.unusedVariables false
set_option maxRecDepth 100000
/-- The pending sectors, with those from i on, m of them. -/
def addK (Q : List Sec) (f : Int) (i : Nat) : Nat → List Sec
  | 0 => Q
  | m + 1 => if (addK Q f i m).contains (f, ((i + m : Nat) : Int)) = true then addK Q f i m else addK Q f i m ++ [(f, ((i + m : Nat) : Int))]
def writeD (M : Mod) (f at' : Int) (s : ByteArray) : Mod × Int :=
  if mayD M f = 0 then
    (if at' < 0 then (M, 1) else if 16777216 < at' ∨ 16777216 - at' < (s.size : Int) then (M, 6) else if s.size = 0 then (M, 0) else
      ({ M with files := setF M.files f (putB (M.files f).1 at'.toNat s, (M.files f).2), queue := addK M.queue f (at'.toNat / 64) ((at'.toNat + s.size - 1) / 64 - at'.toNat / 64 + 1) }, 0))
  else (M, mayD M f)
/-- A disk made anew out of its parts. -/
theorem DiskAt.remake {w w' : World} {b c c' : Nat} {M M' : Mod} {O S : Nat → Prop} (h : DiskAt w b M O S c) (hsz : w.heap.size ≤ w'.heap.size) (fm sm : Nat) (qv kv : Value) (hb : w'.heap[b]? = some (.cells (boxD fm sm qv kv M') 56 (0, 0)))
    (o1 : O fm ∨ (w.heap.size ≤ fm ∧ fm < w'.heap.size)) (o2 : O sm ∨ (w.heap.size ≤ sm ∧ sm < w'.heap.size)) (o3 : ∀ g, qv.ownBlock = some g → O g ∨ (w.heap.size ≤ g ∧ g < w'.heap.size)) (hne : fm ≠ sm)
    (hF : FilesAt w' fm M'.files) (hS : SetAt w' sm M'.queue c') (hQ : w'.ownsRow 0 70 2 qv M'.queue.length (secsC M'.queue)) (hK : IntsIn S w' kv M'.keep) (hg : Good M' c') :
    DiskAt w' b M' (fun k => O k ∨ (w.heap.size ≤ k ∧ k < w'.heap.size)) S c' := by
  refine ⟨fun k hk ho => ?_, fun k hk => ?_, fun k hk => Nat.lt_of_lt_of_le (h.sLt k hk) hsz, Or.inl h.own, ⟨fm, sm, qv, kv, hb, o1, o2, o3, hne, hF, hS, hQ, hK⟩, hg⟩
  · rcases ho with ho | ho
    · exact h.apart k hk ho
    · have := h.sLt k hk
      omega
  · rcases hk with hk | hk
    · exact Nat.lt_of_lt_of_le (h.oLt k hk) hsz
    · exact hk.2
/-- The box's own cells, from one of them. -/
theorem DiskAt.box_of {w : World} {b c : Nat} {M : Mod} {O S : Nat → Prop} (h : DiskAt w b M O S c) {fm sm : Nat} {qv kv : Value} (c0 : w.cell? ⟨b, 0, none⟩ = some (.map (some fm))) (c1 : w.cell? ⟨b, 1, none⟩ = some qv) (c2 : w.cell? ⟨b, 2, none⟩ = some (.map (some sm))) (c6 : w.cell? ⟨b, 6, none⟩ = some kv) : w.heap[b]? = some (.cells (boxD fm sm qv kv M) 56 (0, 0)) := by
  obtain ⟨fm', sm', qv', kv', hb, _⟩ := h.ex
  simp only [World.cell?, hb] at c0 c1 c2 c6
  simp [boxD] at c0 c1 c2 c6
  subst c0 c1 c2 c6
  exact hb
theorem Good.more {M : Mod} {c c' : Nat} (h : Good M c) (hc : c ≤ c') (hs : c' ≤ 1000000) : Good M c' := ⟨h.lost, h.armed, Nat.le_trans h.count hc, h.secs, h.sizes, h.keep, hs⟩
theorem DiskAt.more {w : World} {b c c' : Nat} {M : Mod} {O S : Nat → Prop} (h : DiskAt w b M O S c) (hc : c ≤ c') (hs : c' ≤ 1000000) : DiskAt w b M O S c' := by
  obtain ⟨fm, sm, qv, kv, hb, o1, o2, o3, hne, hF, hS, hQ, hK⟩ := h.ex
  exact ⟨h.apart, h.oLt, h.sLt, h.own, ⟨fm, sm, qv, kv, hb, o1, o2, o3, hne, hF, hS.mono hc, hQ, hK⟩, h.good.more hc hs⟩
theorem After.trans {w w1 w2 : World} {b c1 c2 : Nat} {M1 M2 : Mod} {O S : Nat → Prop} (h1 : After w b M1 O S c1 w1) (h2 : ∀ O' S', DiskAt w1 b M1 O' S' c1 → After w1 b M2 O' S' c2 w2) : After w b M2 O S c2 w2 := by
  obtain ⟨O1, S1, hd, ho, hs, ht⟩ := h1
  obtain ⟨O2, S2, hd2, ho2, hs2, ht2⟩ := h2 O1 S1 hd
  refine ⟨O2, S2, hd2, fun k hk => ?_, fun k hk => ?_, ht.trans ht2 ho⟩
  · rcases ho2 k hk with h | h
    · exact ho k h
    · exact Or.inr (Nat.le_trans ht.size h)
  · rcases hs2 k hk with h | h
    · exact hs k h
    · exact Or.inr (Nat.le_trans ht.size h)
theorem DiskAt.after {w : World} {b c : Nat} {M : Mod} {O S : Nat → Prop} (h : DiskAt w b M O S c) : After w b M O S c w := ⟨O, S, h, fun _ => Or.inl, fun _ => Or.inl, Touch.refl _ _⟩
theorem secsC_snoc (Q : List Sec) (p : Sec) : secsC (Q ++ [p]) = secsC Q ++ [.int .i64 p.1, .int .i64 p.2] := by simp [secsC]
/-- The queue's block is neither the box nor a map. -/
theorem row_apart {w : World} {b fm sm n n' : Nat} {qv : Value} {xs : List Value} {a : Array Value} {fr : Nat × Nat} {F : Int → FileB} {Q : List Sec} (hq : w.ownsRow 0 70 2 qv n xs) (hb : w.heap[b]? = some (.cells a 56 fr)) (hF : FilesAt w fm F) (hS : SetAt w sm Q n') : ∀ k, qv.ownBlock = some k → k ≠ b ∧ k ≠ sm ∧ k ≠ fm ∧ k < w.heap.size := by
  intro k hk
  obtain ⟨D, ⟨es, clock, hm, _⟩, _⟩ := hF
  obtain ⟨D2, ⟨es2, clock2, hm2, _⟩, _⟩ := hS
  rcases hq.2 with ⟨rfl, _⟩ | ⟨g', cap, cur, rfl, _, hg', _⟩
  · cases hk
  · cases hk
    have key : ∀ {o : Obj} {x : Nat}, g' = x → w.heap[x]? = some o → o = .cells cur 70 (0, 0) := fun {o x} e h => by
      subst e
      rw [h] at hg'
      exact Option.some.inj hg'
    refine ⟨fun e => ?_, fun e => ?_, fun e => ?_, (Array.getElem?_eq_some_iff.1 hg').1⟩
    · have := key e hb; cases this
    · have := key e hm2; cases this
    · have := key e hm; cases this
/-- A sector is put behind the queue and into the set. -/
theorem DiskAt.push {wr W4 w9 W11 : World} {b c fm sm g cg qc kc : Nat} {qo ko : Option Addr} {M : Mod} {O S : Nat → Prop} {p : Sec} (h : DiskAt wr b M O S c) (hb : wr.heap[b]? = some (.cells (boxD fm sm (.slice qo M.queue.length qc) (.slice ko M.keep.length kc) M) 56 (0, 0)))
    (o1 : O fm) (o2 : O sm) (o3 : ∀ k, (Value.slice qo M.queue.length qc).ownBlock = some k → O k) (hne : fm ≠ sm) (hF : FilesAt wr fm M.files) (hS0 : SetAt wr sm M.queue c) (hQ : wr.ownsRow 0 70 2 (.slice qo M.queue.length qc) M.queue.length (secsC M.queue)) (hK : RowF S 1 wr (.slice ko M.keep.length kc) M.keep.length (intsC M.keep))
    (hX4 : Exts wr W4) (hgrow : W4.grownBy w9 (Value.slice qo M.queue.length qc).ownBlock) (hown : w9.ownsRow 0 70 2 (.slice (some ⟨g, 0, none⟩) (M.queue.length + 1) cg) (M.queue.length + 1) (secsC M.queue ++ [.int .i64 p.1, .int .i64 p.2])) (hat : (Value.slice qo M.queue.length qc).ownBlock = some g ∨ wr.heap.size ≤ g)
    (hturn : (w9.setCell ⟨b, 1, none⟩ (.slice (some ⟨g, 0, none⟩) (M.queue.length + 1) cg)).mapTurned W11 sm) (hS : SetAt W11 sm (M.queue ++ [p]) (c + 1)) (hp : 0 ≤ p.1 ∧ p.1 ≤ 15 ∧ 0 ≤ p.2 ∧ p.2 ≤ 262144) (hc : c + 1 ≤ 1000000) :
    DiskAt W11 b { M with queue := M.queue ++ [p] } (fun k => O k ∨ (wr.heap.size ≤ k ∧ k < W11.heap.size)) S (c + 1) ∧ Touch O wr W11 := by
  have hk := row_apart hQ hb hF hS0
  have lb := h.oLt b h.own
  have lf := h.oLt fm o1
  have ls := h.oLt sm o2
  have nbf : fm ≠ b := fun e => by
    obtain ⟨D, ⟨es, clock, hm, _⟩, _⟩ := hF
    rw [e, hb] at hm
    cases hm
  have nbs : sm ≠ b := fun e => by
    obtain ⟨D, ⟨es, clock, hm, _⟩, _⟩ := hS0
    rw [e, hb] at hm
    cases hm
  have t1 : Touch (fun k => (Value.slice qo M.queue.length qc).ownBlock = some k) wr w9 := (Touch.of_exts hX4).then (Touch.of_grown hgrow fun k hk => hk)
  have t2 : Touch (fun k => k = b) w9 (w9.setCell ⟨b, 1, none⟩ (.slice (some ⟨g, 0, none⟩) (M.queue.length + 1) cg)) := Touch.setCell _ _ _ rfl
  have t3 : Touch (fun k => k = sm) (w9.setCell ⟨b, 1, none⟩ (.slice (some ⟨g, 0, none⟩) (M.queue.length + 1) cg)) W11 := Touch.of_grown hturn.grown fun k hk => by cases hk; rfl
  have tO : Touch O wr W11 := ((t1.mono fun k hk => o3 k hk).then (t2.mono fun k hk => hk ▸ h.own)).then (t3.mono fun k hk => hk ▸ o2)
  have s1 := t1.size
  have s2 := t2.size
  have s3 := t3.size
  have g1 : g ≠ b ∧ g ≠ sm := by
    rcases hat with h1 | h1
    · exact ⟨(hk g h1).1, (hk g h1).2.1⟩
    · omega
  have gl : g < w9.heap.size := by
    rcases hown.2 with ⟨h1, _⟩ | ⟨g', cap, cur, hv, _, hg', _⟩
    · cases h1
    · cases hv
      exact (Array.getElem?_eq_some_iff.1 hg').1
  have hb9 : w9.heap[b]? = _ := (t1.block b lb (fun e => (hk b e).1 rfl)).trans hb
  have hbox := heap_setCell_at w9 b 1 (.slice (some ⟨g, 0, none⟩) (M.queue.length + 1) cg) hb9
  have hlen : (M.queue ++ [p]).length = M.queue.length + 1 := by simp
  refine ⟨h.remake tO.size fm sm (.slice (some ⟨g, 0, none⟩) (M.queue.length + 1) cg) (.slice ko M.keep.length kc) ?_ (Or.inl o1) (Or.inl o2) (fun k hkk => ?_) hne ?_ hS ?_ ⟨ko, kc, rfl, ?_⟩ ?_, tO⟩
  · exact (t3.block b (by rw [heap_setCell_size]; omega) (fun e => nbs e.symm)).trans hbox
  · cases hkk
    rcases hat with h1 | h1
    · exact Or.inl (o3 g h1)
    · exact Or.inr ⟨h1, by simp only [] at *; omega⟩
  · exact ((hF.touch t1 (fun e => (hk fm e).2.2.1 rfl)).touch t2 nbf).touch t3 hne
  · rw [hlen, secsC_snoc]
    exact ownsRow_touch (ownsRow_touch hown t2 (fun k hkk e => by cases hkk; exact g1.1 e)) t3 (fun k hkk e => by cases hkk; exact g1.2 e)
  · exact hK.touch tO fun k hk' => h.apart k hk'
  · exact ⟨h.good.lost, h.good.armed, by rw [hlen]; exact Nat.succ_le_succ h.good.count, fun q hq => by
      rcases List.mem_append.1 hq with hq | hq
      · exact h.good.secs q hq
      · simp at hq
        rw [hq]
        exact hp, h.good.sizes, h.good.keep, hc⟩
/-- append, the map's two halves of an assignment: kept folded in this text's walk. -/
def appR (ats : Array TypeId) (ty : TypeId) (args : Array Value) : Sem Value := Builtin.append_ ats ty args
theorem appR_in (ats : Array TypeId) (ty : TypeId) (args : Array Value) : Builtin.append_ ats ty args = appR ats ty args := rfl
def mapE (t : TypeId) (m k : Value) : Sem Value := Instr.mapEntry t m k
theorem mapE_in (t : TypeId) (m k : Value) : Instr.mapEntry t m k = mapE t m k := rfl
def mapS (t : TypeId) (m s v : Value) : Sem Unit := Instr.entryStore t m s v
theorem mapS_in (t : TypeId) (m s v : Value) : Instr.entryStore t m s v = mapS t m s v := rfl
attribute [local go_sem ↓] appR_in mapE_in mapS_in
theorem empty_of {s : ByteArray} {r : Bool} (h : (s.size == 0) = r) : s.toList.isEmpty = r := by
  rw [← h, Lib.toList_data, Bool.eq_iff_iff, List.isEmpty_iff, beq_iff_eq, ← ba_len, List.length_eq_zero_iff]
set_option maxHeartbeats 1000000
theorem write49 {w : World} {b c : Nat} {M : Mod} {O S : Nat → Prop} (hd : DiskAt w b M O S c) (f at' : Int) (s : ByteArray) (ha : I64 at') (hs : s.size ≤ 300) (hc : c + 6 ≤ 1000000) : Calls Try.prog 49 #[.pointer (some ⟨b, 0, none⟩), .int .i64 f, .int .i64 at', .string s] w fun e w' => e = .returned (.int .i64 (writeD M f at' s).2) ∧ After w b (writeD M f at' s).1 O S (c + 6) w' := by
  obtain ⟨i0, hi0, hz0, hz1, hz2⟩ := info_parts info70
  have HD := Lib.hid hd
  obtain ⟨m, hm⟩ : ∃ m, mayD M f = m := ⟨_, rfl⟩
  have HM := Lib.hid hm
  obtain ⟨ha1, ha2⟩ := ha
  have HSAME := Lib.hid (show After w b M O S (c + 6) w from (hd.more (by omega) hc).after)
  by_cases h0 : m = 0
  · subst h0
    obtain ⟨hf0, hf15, hdn⟩ := mayD_arg hm
    by_cases h1 : at' < 0
    · have HR := Lib.hid (show writeD M f at' s = (M, 1) by unfold writeD; rw [if_pos hm, if_pos h1])
      have q1 : decide (at' < 0) = true := by simpa using h1
      clear hd hm h1
      go_enter Try.func49, Try.ntmps49
      go_wp2_with (first | (go_at_call 44; ((with_reducible refine (may44_D HD.out _ _ HM.out).mono ?_); rintro e w' ⟨rfl, rfl⟩)))
      go_ret
      exact ⟨by rw [HR.out]; rfl, by rw [HR.out]; exact HSAME.out⟩
    · have q1 : decide (at' < 0) = false := by simpa using h1
      by_cases h2 : 16777216 < at'
      · have HR := Lib.hid (show writeD M f at' s = (M, 6) by unfold writeD; rw [if_pos hm, if_neg h1, if_pos (Or.inl h2)])
        have q2 : decide (16777216 < at') = true := by simpa using h2
        clear hd hm h1 h2
        go_enter Try.func49, Try.ntmps49
        go_wp2_with (first | (go_at_call 44; ((with_reducible refine (may44_D HD.out _ _ HM.out).mono ?_); rintro e w' ⟨rfl, rfl⟩)))
        go_ret
        exact ⟨by rw [HR.out]; rfl, by rw [HR.out]; exact HSAME.out⟩
      · have q2 : decide (16777216 < at') = false := by simpa using h2
        have hw : IntKind.i64.wrap (16777216 - at') = 16777216 - at' := by rw [IntKind.wrap_i64] <;> omega
        by_cases h3 : 16777216 - at' < (s.size : Int)
        · have HR := Lib.hid (show writeD M f at' s = (M, 6) by unfold writeD; rw [if_pos hm, if_neg h1, if_pos (Or.inr h3)])
          have q3 : decide (16777216 - at' < (s.size : Int)) = true := by simpa using h3
          clear hd hm h1 h2 h3
          go_enter Try.func49, Try.ntmps49
          go_wp2_with (first | (go_at_call 44; ((with_reducible refine (may44_D HD.out _ _ HM.out).mono ?_); rintro e w' ⟨rfl, rfl⟩)))
          go_ret
          exact ⟨by rw [HR.out]; rfl, by rw [HR.out]; exact HSAME.out⟩
        · have q3 : decide (16777216 - at' < (s.size : Int)) = false := by simpa using h3
          by_cases h4 : s.size = 0
          · have HR := Lib.hid (show writeD M f at' s = (M, 0) by unfold writeD; rw [if_pos hm, if_neg h1, if_neg (by omega), if_pos h4])
            have q4 : s.toList.isEmpty = true := empty_of (by simpa using h4)
            clear hd hm h1 h2 h3 h4
            go_enter Try.func49, Try.ntmps49
            go_wp2_with (first | (go_at_call 44; ((with_reducible refine (may44_D HD.out _ _ HM.out).mono ?_); rintro e w' ⟨rfl, rfl⟩)))
            go_ret
            exact ⟨by rw [HR.out]; rfl, by rw [HR.out]; exact HSAME.out⟩
          · have q4 : s.toList.isEmpty = false := empty_of (by simpa using h4)
            obtain ⟨a, rfl⟩ := Int.eq_ofNat_of_zero_le (show 0 ≤ at' by omega)
            obtain ⟨fm, sm, qv, kv, lb, cc, ff, o1, o2, o3, n1, n2, n3, hF, hS, hQ, ⟨ko, kc, rfl, hK⟩⟩ := hd.cells
            obtain ⟨qo, qc, rfl⟩ := owns_shape hQ
            have c0 := cc 0
            have c1 := cc 1
            have c2 := cc 2
            have c3 := cc 3
            have c4 := cc 4
            have c5 := cc 5
            have c6 := cc 6
            simp only [boxD, List.getElem?_toArray, List.getElem?_cons_zero, List.getElem?_cons_succ] at c0 c1 c2 c3 c4 c5 c6
            clear cc
            have hl := hF.look (show I64 f by constructor <;> omega)
            obtain ⟨x, hx⟩ : ∃ x, M.files f = x := ⟨_, rfl⟩
            rw [hx] at hl
            have HX := Lib.hid hx
            unfold fileV at hl
            have HF := Lib.hid hF
            have hxs : x.1.size ≤ maxFile := by rw [← hx]; exact (hd.good.sizes f).1
            have hat : a + s.size ≤ maxFile := by unfold maxFile; omega
            clear hd hm hF hS hQ hK hx
            go_enter Try.func49, Try.ntmps49
            go_wp2_with (first | (go_at_call 44; ((with_reducible refine (may44_D HD.out _ _ HM.out).mono ?_); rintro e w' ⟨rfl, rfl⟩)) | (go_at_call 47; ((with_reducible refine (put47 x.1 s a _ hxs hat).mono ?_); rintro e w' ⟨rfl, x1, rfl⟩)))
            refine wp_name ?_
            intro W1 hW1
            have hX1 : Exts w W1 := by rw [hW1]; exact (by repeat (first | exact Exts.refl _ | apply Exts.andR | apply Exts.alloc | apply Exts.wext | apply Exts.drew | apply Exts.drewN))
            have d0 := Exts.cell hX1 c0
            have d1 : W1.cell? ⟨w.heap.size, 0, none⟩ = some (.string (putB x.1 a s)) := by
              rw [hW1, wext_cell _ _ _ _ (by simp), World.cell?_alloc_new]
              rfl
            have d2 : W1.cell? ⟨w.heap.size, 1, none⟩ = some (.string x.2) := by
              rw [hW1, wext_cell _ _ _ _ (by simp), World.cell?_alloc_new]
              rfl
            have hF1 : FilesAt W1.drew fm M.files := HF.out.touch (O := fun _ => False) (Touch.of_exts (hX1.drew)) (fun h => h)
            obtain ⟨W2, hup, hF2, ht2⟩ := hF1.store hf0 hf15 (putB x.1 a s, x.2)
            unfold fileV at hup
            have hT2 : Touch (fun k => k = fm) W1.drew W2 := Touch.of_grown ht2.grown (fun k hk => by cases hk; rfl)
            have hfl : fm < w.heap.size := HD.out.oLt fm o1
            have f0 : W2.cell? ⟨b, 0, none⟩ = some (.map (some fm)) := hT2.cell (fun e => n2 e.symm) d0
            have f1 : W2.cell? ⟨w.heap.size, 0, none⟩ = some (.string (putB x.1 a s)) := hT2.cell (fun e => by simp only [] at e; omega) d1
            have f2 : W2.cell? ⟨w.heap.size, 1, none⟩ = some (.string x.2) := hT2.cell (fun e => by simp only [] at e; omega) d2
            have HX1 := Lib.hid hX1
            have HF2 := Lib.hid hF2
            have HT2 := Lib.hid hT2
            clear hW1 hX1 hF1 hF2 ht2 hT2 HF hl
            go_region_held3 (fun w' => w'.cell? ⟨b, 0, none⟩ = some (.map (some fm)) ∧ w'.cell? ⟨w.heap.size, 0, none⟩ = some (.string (putB x.1 a s)) ∧ w'.cell? ⟨w.heap.size, 1, none⟩ = some (.string x.2)) (first | assumption | (exact ⟨d0, d1, d2⟩) | (exact ⟨f0, f1, f2⟩)) (fail)
            all_goals
              go_wp2
              obtain ⟨F', hF'⟩ : ∃ F', setF M.files f (putB x.1 a s, x.2) = F' := ⟨_, rfl⟩
              obtain ⟨N, hN⟩ : ∃ N, (a + s.size - 1) / 64 - a / 64 + 1 = N := ⟨_, rfl⟩
              have HR := Lib.hid (show writeD M f a s = ({ M with files := F', queue := addK M.queue f (a / 64) N }, 0) by
                unfold writeD
                rw [if_pos HM.out, if_neg (by omega), if_neg (by omega), if_neg h4, Int.toNat_natCast, HX.out, hF', hN])
              have hg : Good { M with files := F' } c := ⟨HD.out.good.lost, HD.out.good.armed, HD.out.good.count, HD.out.good.secs, fun g => by
                rw [← hF']
                unfold setF
                simp only []
                split
                · refine ⟨?_, ?_⟩
                  · rw [putB_size]
                    split
                    · exact hxs
                    · exact Nat.max_le.2 ⟨hxs, hat⟩
                  · rw [← HX.out]
                    exact (HD.out.good.sizes f).2
                · exact HD.out.good.sizes g, HD.out.good.keep, HD.out.good.small⟩
              have hTw : Touch O w W2 := (Touch.of_exts HX1.out.drew).then (HT2.out.mono (fun k hk => hk ▸ o1))
              have hd2 : DiskAt W2 b { M with files := F' } (fun k => O k ∨ (w.heap.size ≤ k ∧ k < W2.heap.size)) S c := by
                have hTb : Touch (fun k => k = fm) w W2 := (Touch.of_exts HX1.out.drew).then HT2.out
                obtain ⟨fm', sm', qv, kv, hb, p1, p2, p3, p4, p5, p6, p7, p8⟩ := HD.out.ex
                have e1 : fm' = fm := by
                  simp only [World.cell?, hb] at c0
                  simp [boxD] at c0
                  exact c0
                subst e1
                refine HD.out.remake hTw.size fm' sm' qv kv ((hTb.block b lb (fun e => n2 e.symm)).trans hb) (Or.inl p1) (Or.inl p2) (fun g hg => Or.inl (p3 g hg)) p4 (by rw [← hF']; exact HF2.out) (p6.touch hTb (fun e => p4 e.symm)) (ownsRow_touch p7 hTb (fun g hg e => ?_)) (p8.touch hTb (fun k hk e => HD.out.apart k hk (e ▸ p1))) hg
                subst e
                obtain ⟨D, ⟨es, clock, hm, _⟩, _⟩ := p5
                rcases p7.2 with ⟨rfl, _⟩ | ⟨g', cap, cur, rfl, _, hg', _⟩
                · cases hg
                · cases hg
                  rw [hm] at hg'
                  cases hg'
              have HD2 := Lib.hid hd2
              have HTW := Lib.hid hTw
              have hN6 : N ≤ 6 := by omega
              have hN1 : a / 64 + N = (a + s.size - 1) / 64 + 1 := by omega
              obtain ⟨i, hi⟩ : ∃ i, a / 64 = i := ⟨_, rfl⟩
              rw [hi] at HR hN1
              have HI2 := Lib.hid (show (a : Int) / 64 = (i : Int) by omega)
              clear hup f0 f1 f2 d0 d1 d2 HF2 HT2 HX1 hF' hN hg hTw hd2 hi
              go_loopw [11] (fun j wr => ∃ (m : Nat) (Ow : Nat → Prop), m ≤ N ∧ j = .int .i64 (i + m : Nat) ∧ DiskAt wr b { M with files := F', queue := addK M.queue f i m } Ow S (c + m) ∧ (∀ k, Ow k → O k ∨ w.heap.size ≤ k) ∧ Touch O w wr) (fun j _ => i + N - (intOf j).toNat)
              case atStart => exact ⟨0, _, by omega, by rw [HI2.out]; rfl, HD2.out, fun k hk => hk.imp (fun h => h) (fun h => h.1), HTW.out⟩
              case round =>
                obtain ⟨m, Ow, hm, rfl, hdr, hor, htr⟩ := hrel
                have HDR := Lib.hid hdr
                have HOR := Lib.hid hor
                have HTR := Lib.hid htr
                by_cases hlt : m < N
                · obtain ⟨Q, hQ⟩ : ∃ Q, addK M.queue f i m = Q := ⟨_, rfl⟩
                  rw [hQ] at hdr HDR
                  have HQN := Lib.hid (show addK M.queue f i (m + 1) = if Q.contains (f, ((i + m : Nat) : Int)) = true then Q else Q ++ [(f, ((i + m : Nat) : Int))] by rw [← hQ]; rfl)
                  have hd := hdr
                  obtain ⟨fm2, sm2, qv, kv, lb2, cc2, ff2, u1, u2, u3, v1, v2, v3, wF, wS, wQ, ⟨ko2, kc2, rfl, wK⟩⟩ := hd.cells
                  obtain ⟨qo2, qc2, rfl⟩ := owns_shape wQ
                  have g0 := cc2 0
                  have g1 := cc2 1
                  have g2 := cc2 2
                  have g6 := cc2 6
                  simp only [boxD, List.getElem?_toArray, List.getElem?_cons_zero, List.getElem?_cons_succ] at g0 g1 g2 g6
                  have HS2 := Lib.hid wS
                  have HQ2 := Lib.hid wQ
                  have HK2 := Lib.hid wK
                  have HF2 := Lib.hid wF
                  have hp1 : I64 f := by constructor <;> omega
                  have hp2 : I64 ((i + m : Nat) : Int) := by constructor <;> omega
                  obtain ⟨nn, hnn⟩ : ∃ n, i + m = n := ⟨_, rfl⟩
                  rw [hnn] at HQN hp2 ⊢
                  obtain ⟨r, hr⟩ : ∃ r, Q.contains (f, (nn : Int)) = r := ⟨_, rfl⟩
                  rw [hr] at HQN
                  have HR1 := Lib.hid hr
                  clear hdr hor htr hQ hd cc2 wF wS wQ wK hr
                  go_wp2
                  refine wp_name ?_
                  intro W3 hW3
                  have hX3 : Exts wr W3 := by rw [hW3]; exact (by repeat (first | exact Exts.refl _ | apply Exts.andR | apply Exts.alloc | apply Exts.wext | apply Exts.drew | apply Exts.drewN))
                  have r0 : ∀ w', Exts W3 w' → w'.cell? ⟨b, 2, none⟩ = some (.map (some sm2)) := all_at hX3 g2
                  have s0 : W3.cell? ⟨wr.heap.size, 0, none⟩ = some (.int .i64 f) := by rw [hW3, World.cell?_alloc_new]; rfl
                  have s1 : W3.cell? ⟨wr.heap.size, 1, none⟩ = some (.int .i64 nn) := by rw [hW3, World.cell?_alloc_new]; rfl
                  have r1 : ∀ w', Exts W3 w' → w'.cell? ⟨wr.heap.size, 0, none⟩ = some (.int .i64 f) := all_at (Exts.refl _) s0
                  have r2 : ∀ w', Exts W3 w' → w'.cell? ⟨wr.heap.size, 1, none⟩ = some (.int .i64 nn) := all_at (Exts.refl _) s1
                  have r3 : ∀ w', Exts W3 w' → (Instr.lookup 53 (.map (some sm2)) (.agg #[.int .i64 f, .int .i64 nn]) false).run Try.prog w' = .ok (.bool r) w' := fun w' hw' => by
                    have := (HS2.out.touch (O := fun _ => False) (Touch.of_exts (hX3.trans hw')) (fun h => h)).look (p := (f, (nn : Int))) hp1 hp2
                    rw [HR1.out] at this
                    exact this
                  have HX3 := Lib.hid hX3
                  clear hW3 hX3
                  go_region_held3 (fun w' => Exts W3 w') (first | assumption | exact (Exts.refl _).drew | exact (by repeat (first | exact Exts.refl _ | apply Exts.andR | apply Exts.alloc | apply Exts.wext | apply Exts.drew | apply Exts.drewN))) (fail)
                  all_goals
                    (try go_frame)
                    cases r with
                    | true =>
                      have HQT := Lib.hid (show addK M.queue f i (m + 1) = Q by rw [HQN.out]; rfl)
                      clear HQN
                      go_wp2
                      refine ⟨⟨m + 1, Ow, by omega, by go_num, ?_, HOR.out, HTR.out.then (Touch.of_exts (HX3.out.trans (by repeat (first | exact Exts.refl _ | apply Exts.andR | apply Exts.alloc | apply Exts.wext | apply Exts.drew | apply Exts.drewN))))⟩, ?_⟩
                      · rw [HQT.out]
                        exact (HDR.out.kept (X := fun _ => False) (Touch.of_exts (HX3.out.trans (by repeat (first | exact Exts.refl _ | apply Exts.andR | apply Exts.alloc | apply Exts.wext | apply Exts.drew | apply Exts.drewN)))) (fun _ _ h => h) (fun _ _ h => h)).more (by omega) (by omega)
                      · simp [intOf]; omega
                    | false =>
                      have HQT := Lib.hid (show addK M.queue f i (m + 1) = Q ++ [(f, (nn : Int))] by rw [HQN.out]; rfl)
                      clear HQN
                      go_wp2
                      refine wp_name ?_
                      intro W4 hW4
                      have hX4 : Exts wr W4 := HX3.out.trans (by rw [hW4]; exact (by repeat (first | exact Exts.refl _ | apply Exts.andR | apply Exts.alloc | apply Exts.wext | apply Exts.drew | apply Exts.drewN)))
                      have hql : Q.length ≤ 1000000 := Nat.le_trans HDR.out.good.count HDR.out.good.small
                      have hbox := HDR.out.box_of g0 g1 g2 g6
                      have hk4 := row_apart HQ2.out hbox HF2.out HS2.out
                      have HB2 := Lib.hid hbox
                      have HK4 := Lib.hid hk4
                      have k0 : W4.cell? ⟨wr.heap.size, 0, none⟩ = some (.int .i64 f) := Exts.cell (by rw [hW4]; exact (by repeat (first | exact Exts.refl _ | apply Exts.andR | apply Exts.alloc | apply Exts.wext | apply Exts.drew | apply Exts.drewN))) s0
                      have k1 : W4.cell? ⟨wr.heap.size, 1, none⟩ = some (.int .i64 nn) := Exts.cell (by rw [hW4]; exact (by repeat (first | exact Exts.refl _ | apply Exts.andR | apply Exts.alloc | apply Exts.wext | apply Exts.drew | apply Exts.drewN))) s1
                      have k2 : W4.cell? ⟨b, 2, none⟩ = some (.map (some sm2)) := Exts.cell hX4 g2
                      have k3 : W4.cell? ⟨b, 1, none⟩ = some (.slice qo2 Q.length qc2) := Exts.cell hX4 g1
                      have l4 : wr.heap.size < W4.heap.size := World.block_lt_of_cell? _ _ k0
                      have k5 : W4.frozen? ⟨b, 1, none⟩ = false := (World.frozen?_of_block (hX4.below.block b (by omega))).trans (ff2 1)
                      have hsl : sm2 < wr.heap.size := HDR.out.oLt sm2 u2
                      have l5 : b < W4.heap.size := by omega
                      have HX4 := Lib.hid hX4
                      clear hW4 hX4 r0 r1 r2 r3
                      clear hbox hk4
                      obtain ⟨g, cg, w9, h9, hown9, hgrow9, hat9, hlt9⟩ := run_append_lies (P := Try.prog) (W4.drew.alloc (.cells #[.int .i64 f, .int .i64 nn] 70)) 54 54 0 70 i0 _ 2 16 Try.underlying54 hi0 hz0 hz1 hz2 rfl (by decide) (.slice qo2 Q.length qc2) Q.length (secsC Q) (ownsRow_exts HQ2.out (HX4.out.trans (by repeat (first | exact Exts.refl _ | apply Exts.andR | apply Exts.alloc | apply Exts.wext | apply Exts.drew | apply Exts.drewN)))) ⟨W4.heap.size, 0, none⟩ 1 1 [.int .i64 f, .int .i64 nn] rfl (by intro j u hj; match j, hj with | 0, hj => (simp at hj; subst hj; simp [go_sem]) | 1, hj => (simp at hj; subst hj; simp [go_sem])) (by intro u hu; simp at hu; rcases hu with rfl | rfl <;> rfl) (by decide) (by unfold maxLen; omega) (by omega) (Nat.zero_le _) (W4.heap.size + 1) (by simp)
                      have h9' : (appR #[54, 54] 54 #[.slice qo2 Q.length qc2, .slice (some ⟨W4.heap.size, 0, none⟩) 1 1]).run Try.prog (W4.alloc (.cells #[.int .i64 f, .int .i64 nn] 70)).drew = .ok (.slice (some ⟨g, 0, none⟩) (Q.length + 1) cg) w9 := h9
                      clear h9
                      have HG9 := Lib.hid ((World.grownBy_alloc W4.drew (.cells #[.int .i64 f, .int .i64 nn] 70) _).trans hgrow9)
                      have p0 := HG9.out.cell (v := .int .i64 f) (a := ⟨wr.heap.size, 0, none⟩) k0 (fun e => by have := (HK4.out _ e.symm).2.2.2; simp only [] at this; omega)
                      have p1 := HG9.out.cell (v := .int .i64 nn) (a := ⟨wr.heap.size, 1, none⟩) k1 (fun e => by have := (HK4.out _ e.symm).2.2.2; simp only [] at this; omega)
                      have p2 := HG9.out.cell (v := .map (some sm2)) (a := ⟨b, 2, none⟩) k2 (fun e => (HK4.out _ e.symm).1 rfl)
                      have p3 := HG9.out.cell (v := .slice qo2 Q.length qc2) (a := ⟨b, 1, none⟩) k3 (fun e => (HK4.out _ e.symm).1 rfl)
                      have p6 : W4.heap.size < w9.heap.size := by have := hgrow9.size; simp at this; omega
                      have p4 : w9.frozen? ⟨b, 1, none⟩ = false := (HG9.out.frozen_far ⟨b, 1, none⟩ l5 (fun e => (HK4.out _ e.symm).1 rfl)).trans k5
                      have q0 := (World.cell?_setCell_far w9 ⟨b, 1, none⟩ ⟨wr.heap.size, 0, none⟩ (.slice (some ⟨g, 0, none⟩) (Q.length + 1) cg) (by simp only []; omega)).trans p0
                      have q1 := (World.cell?_setCell_far w9 ⟨b, 1, none⟩ ⟨wr.heap.size, 1, none⟩ (.slice (some ⟨g, 0, none⟩) (Q.length + 1) cg) (by simp only []; omega)).trans p1
                      have q2 := (World.cell?_setCell_other w9 ⟨b, 1, none⟩ ⟨b, 2, none⟩ (.slice (some ⟨g, 0, none⟩) (Q.length + 1) cg) (by simp)).trans p2
                      have q3 := World.cell?_setCell_same _ _ (.slice (some ⟨g, 0, none⟩) (Q.length + 1) cg) p3
                      have q6 : W4.heap.size < (w9.setCell ⟨b, 1, none⟩ (.slice (some ⟨g, 0, none⟩) (Q.length + 1) cg)).heap.size := by rw [heap_setCell_size]; exact p6
                      obtain ⟨W10, W11, st, hen, hes, hS11, hm10, hm11⟩ := SetAt.entry (w := w9.setCell ⟨b, 1, none⟩ (.slice (some ⟨g, 0, none⟩) (Q.length + 1) cg)) (sm := sm2) (p := (f, (nn : Int))) (((HS2.out.touch (O := fun _ => False) (Touch.of_exts (HX4.out.trans (by repeat (first | exact Exts.refl _ | apply Exts.andR | apply Exts.alloc | apply Exts.wext | apply Exts.drew | apply Exts.drewN)) : Exts wr W4.drew)) (fun h => h)).touch (O := fun k => (Value.slice qo2 Q.length qc2).ownBlock = some k) (Touch.of_grown HG9.out (fun k hk => hk)) (fun e => (HK4.out _ e).2.1 rfl)).touch (O := fun k => k = b) (Touch.setCell _ _ _ rfl) v3) hp1 hp2 (by unfold maxLen; omega) HR1.out
                      simp only [secV] at hen
                      have hen' : (mapE 53 (.map (some sm2)) (.agg #[.int .i64 f, .int .i64 nn])).run Try.prog (w9.setCell ⟨b, 1, none⟩ (.slice (some ⟨g, 0, none⟩) (Q.length + 1) cg)) = .ok (.tuple #[.bool false, .int .i64 st]) W10 := hen
                      have hes' : (mapS 53 (.map (some sm2)) (.int .i64 st) (.bool true)).run Try.prog W10 = .ok () W11 := hes
                      clear hen hes
                      have hT10 := Touch.of_grown (O := fun k => k = sm2) hm10.grown (fun k hk => by cases hk; rfl)
                      have hT11 := Touch.of_grown (O := fun k => k = sm2) hm11.grown (fun k hk => by cases hk; rfl)
                      have t0 := hT10.cell (by simp only []; omega) q0
                      have t1 := hT10.cell (by simp only []; omega) q1
                      have t2 := hT10.cell (fun e => v3 e.symm) q2
                      have t3 := hT10.cell (fun e => v3 e.symm) q3
                      have t6 := Nat.lt_of_lt_of_le q6 hT10.size
                      have z0 := hT11.cell (by simp only []; omega) q0
                      have z1 := hT11.cell (by simp only []; omega) q1
                      have z2 := hT11.cell (fun e => v3 e.symm) q2
                      have z3 := hT11.cell (fun e => v3 e.symm) q3
                      have z6 := Nat.lt_of_lt_of_le q6 hT11.size
                      have HO9 := Lib.hid hown9
                      have HGR := Lib.hid hgrow9
                      have HS11 := Lib.hid hS11
                      have HM11 := Lib.hid hm11
                      have HAT9 := Lib.hid hat9
                      clear hown9 hgrow9 hat9 hS11 hm10 hm11 hT10 hT11
                      go_region
                      all_goals
                        (try go_frame)
                        go_wp2
                        obtain ⟨hP, tP⟩ := DiskAt.push HDR.out HB2.out u1 u2 u3 v1 HF2.out HS2.out HQ2.out HK2.out (HX4.out.trans (by repeat (first | exact Exts.refl _ | apply Exts.andR | apply Exts.alloc | apply Exts.wext | apply Exts.drew | apply Exts.drewN)) : Exts wr W4.drew) HG9.out HO9.out (HAT9.out.imp (fun h => h) (fun h => by have := HX4.out.below.size; omega)) HM11.out HS11.out ⟨hf0, hf15, by omega, by omega⟩ (by omega)
                        refine ⟨⟨m + 1, _, by omega, by go_num, by rw [HQT.out]; exact hP, fun k hk => ?_, HTR.out.trans tP HOR.out⟩, ?_⟩
                        · rcases hk with hk | hk
                          · exact HOR.out k hk
                          · exact Or.inr (Nat.le_trans HTR.out.size hk.1)
                        · simp [intOf]; omega
                · obtain rfl : m = N := by omega
                  clear hdr hor htr
                  go_wp2
                  go_ret
                  exact ⟨by rw [HR.out]; rfl, by rw [HR.out]; exact ⟨Ow, S, HDR.out.more (by omega) hc, HOR.out, fun _ => Or.inl, HTR.out⟩⟩
  · have HR := Lib.hid (show writeD M f at' s = (M, m) by unfold writeD; rw [if_neg (by rw [hm]; exact h0), hm])
    have q1 : (m == 0) = false := by simpa using h0
    have q2 : (m != 0) = true := by simpa using h0
    clear hd hm h0
    go_enter Try.func49, Try.ntmps49
    go_wp2_with (first | (go_at_call 44; ((with_reducible refine (may44_D HD.out _ _ HM.out).mono ?_); rintro e w' ⟨rfl, rfl⟩)))
    go_ret
    exact ⟨by rw [HR.out]; rfl, by rw [HR.out]; exact HSAME.out⟩
end Go.Proofs.Ytgeoompgakdbiaa
