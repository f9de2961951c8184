/- Lemmas that the laws of this seat share, 4 texts in one: DecPlain, SmallDec, SmallW, Decide. No condition of their own. -/
import Derived.Test.YtgmjcgjbbogefaaGreatM19
import Derived.Test.YtgmjcgjbbogefaaGreatM20
import Derived.Test.YtgmjcgjbbogefaaGreatM18
import Derived.OwnWalk
/- What Decide of package variance answers: plain laws. -/
namespace Go.Proofs.YtgmjcgjbbogefaaGreat
open Go.RowKit
set_option linter.unusedSimpArgs false
set_option linter.unusedVariables false

/-- The outcome that what is forced and the officer's word say. -/
def grantD (wh : Int) (off : Bool) : Bool := if wh = 1 then true else if wh = 2 then false else off
noncomputable def decD (D : List Dm) (B : List Cs) (id : Int) (v : List Int) (off : Bool) : Bool × List Cs × Int :=
  if (forD D B v).2.2 = 0 then
    (if (forD D B v).1 = 3 then (false, [], 25)
     else if (addD D B ⟨id, v, grantD (forD D B v).1 off⟩).2 = 0 then (grantD (forD D B v).1 off, (addD D B ⟨id, v, grantD (forD D B v).1 off⟩).1, 0)
     else (false, [], (addD D B ⟨id, v, grantD (forD D B v).1 off⟩).2))
  else (false, [], 1)
theorem for_ok {D : List Dm} {B : List Cs} {v : List Int} (h : checkD D B = true) (hv : inD D v = true) : forD D B v = (whatD D B v, byK D B v B.length, 0) := by
  unfold forD
  rw [h, hv]
  rfl
theorem for_no {D : List Dm} {B : List Cs} {v : List Int} (h : (checkD D B && inD D v) = false) : forD D B v = (0, [], 1) := by
  unfold forD
  rw [h]
  rfl
/-- A case is decided in a base that does not contradict itself. -/
theorem dec_ok {D : List Dm} {B : List Cs} {id : Int} {v : List Int} (off : Bool) (hc : (consD D B).2.2 = true) (hv : inD D v = true) (hi : (B.any fun d => d.id == id) = false) :
    ∃ g, decD D B id v off = (g, B ++ [⟨id, v, g⟩], 0) ∧ (consD D (B ++ [⟨id, v, g⟩])).2.2 = true ∧ (sideB D B v true = true → g = true) ∧ (sideB D B v false = true → g = false) := by
  have hck := consD_chk hc
  have hn := (consD_is hck).1 hc
  have hno : ¬ (sideB D B v true = true ∧ sideB D B v false = true) := fun h => hn (side_conf hck hv h.1 h.2)
  have hadd : ∀ g, sideB D B v (!g) = false → addD D B ⟨id, v, g⟩ = (B ++ [⟨id, v, g⟩], 0) := by
    intro g hs
    unfold addD
    simp only [hck, hv, hi]
    rw [clash_side, hs]
    rfl
  have key : ∀ g, sideB D B v (!g) = false → (whatD D B v = 3 → False) → grantD (whatD D B v) off = g → decD D B id v off = (g, B ++ [⟨id, v, g⟩], 0) ∧ (consD D (B ++ [⟨id, v, g⟩])).2.2 = true := by
    intro g hs h3 hg
    refine ⟨?_, (cons_snoc (c := ⟨id, v, g⟩) hck hn hv hi hs).2⟩
    unfold decD
    rw [for_ok hck hv]
    simp only [hg, hadd g hs]
    rw [if_pos trivial, if_neg h3, if_pos trivial]
  rw [whatD_S] at key
  cases ht : sideB D B v true with
  | true =>
    cases hf : sideB D B v false with
    | true => exact absurd ⟨ht, hf⟩ hno
    | false =>
      rw [ht, hf] at key
      obtain ⟨h1, h2⟩ := key true hf (by decide) rfl
      exact ⟨true, h1, h2, fun _ => rfl, fun h => by cases h⟩
  | false =>
    cases hf : sideB D B v false with
    | true =>
      rw [ht, hf] at key
      obtain ⟨h1, h2⟩ := key false ht (by decide) rfl
      exact ⟨false, h1, h2, fun h => (by cases h), fun _ => rfl⟩
    | false =>
      rw [ht, hf] at key
      obtain ⟨h1, h2⟩ := key off (by cases off <;> assumption) (by decide) rfl
      exact ⟨off, h1, h2, fun h => (by cases h), fun h => by cases h⟩
theorem dec_no {D : List Dm} {B : List Cs} {id : Int} {v : List Int} (off : Bool) (hv : inD D v = false) : decD D B id v off = (false, [], 1) := by
  unfold decD
  rw [for_no (by rw [hv, Bool.and_false])]
  rfl
/-- A case that was granted forces a stronger one. -/
theorem dec_up {D : List Dm} {B : List Cs} {id j : Int} {v w : List Int} (off : Bool) (hc : (consD D B).2.2 = true) (hm : (⟨j, v, true⟩ : Cs) ∈ B) (hb : belowD D v w = true) (hi : (B.any fun d => d.id == id) = false) : decD D B id w off = (true, B ++ [⟨id, w, true⟩], 0) := by
  have hck := consD_chk hc
  obtain ⟨hr, hv⟩ := check_in hck
  have hv1 := hv _ hm
  have hw : inD D w = true := by
    unfold belowD at hb
    simp only [Bool.and_eq_true] at hb
    have := hb.1
    unfold vecD at this
    simp only [Bool.and_eq_true] at this
    exact this.2.2
  obtain ⟨g, h1, _, h3, _⟩ := dec_ok (id := id) off hc hw hi
  have hs : sideB D B w true = true := side_true.2 ⟨_, hm, rfl, by rw [blk_below hr hv1 hw]; exact hb⟩
  obtain rfl := h3 hs
  exact h1
theorem dec_down {D : List Dm} {B : List Cs} {id j : Int} {v w : List Int} (off : Bool) (hc : (consD D B).2.2 = true) (hm : (⟨j, v, false⟩ : Cs) ∈ B) (hb : belowD D w v = true) (hi : (B.any fun d => d.id == id) = false) : decD D B id w off = (false, B ++ [⟨id, w, false⟩], 0) := by
  have hck := consD_chk hc
  obtain ⟨hr, hv⟩ := check_in hck
  have hv1 := hv _ hm
  have hw : inD D w = true := by
    unfold belowD at hb
    simp only [Bool.and_eq_true] at hb
    have := hb.1
    unfold vecD at this
    simp only [Bool.and_eq_true] at this
    exact this.2.1
  obtain ⟨g, h1, _, _, h4⟩ := dec_ok (id := id) off hc hw hi
  have hs : sideB D B w false = true := side_false.2 ⟨_, hm, rfl, by rw [blk_below hr hw hv1]; exact hb⟩
  obtain rfl := h4 hs
  exact h1
/-- What casesAgain answers. -/
noncomputable def againD (D : List Dm) (B : List Cs) (id : Int) (v : List Int) (g : Bool) (w : List Int) : Bool :=
  if (g && belowD D v w) = true then (decide ((decD D B id w false).2.2 = 0) && ((decD D B id w false).1 && decide ((decD D B id w false).2.1.length = B.length + 1)))
  else if (!g && belowD D w v) = true then (decide ((decD D B id w true).2.2 = 0) && (!(decD D B id w true).1 && decide ((decD D B id w true).2.1.length = B.length + 1)))
  else true
theorem again_ok {D : List Dm} {B : List Cs} {id j : Int} {v w : List Int} {g : Bool} (hc : (consD D B).2.2 = true) (hm : (⟨j, v, g⟩ : Cs) ∈ B) (hi : (B.any fun d => d.id == id) = false) : againD D B id v g w = true := by
  unfold againD
  cases g with
  | true =>
    cases hb : belowD D v w with
    | true => rw [dec_up false hc hm hb hi]; simp
    | false => simp
  | false =>
    cases hb : belowD D w v with
    | true => rw [dec_down true hc hm hb hi]; simp
    | false => simp
/-- The number that is given to a case that is new. -/
def topId (B : List Cs) : Nat → Int
  | 0 => 1
  | k + 1 => match B[k]? with | some c => max (topId B k) (c.id + 1) | none => topId B k
theorem topId_gt {B : List Cs} {k i : Nat} {c : Cs} (hi : i < k) (hk : k ≤ B.length) (h : B[i]? = some c) : c.id < topId B k := by
  induction k with
  | zero => omega
  | succ k ih =>
    unfold topId
    rw [List.getElem?_eq_getElem (show k < B.length by omega)]
    simp only []
    by_cases he : i = k
    · subst he
      rw [List.getElem?_eq_getElem (show i < B.length by omega)] at h
      have hc' := Option.some.inj h
      rw [hc']
      omega
    · have := ih (by omega) (by omega)
      omega
theorem topId_le {B : List Cs} (h : ∀ c ∈ B, c.id ≤ 1000000) : ∀ k, 1 ≤ topId B k ∧ topId B k ≤ 1000001
  | 0 => by unfold topId; omega
  | k + 1 => by
    have := topId_le h k
    unfold topId
    cases hc : B[k]? with
    | none => exact this
    | some c =>
      have := h c (List.mem_of_getElem? hc)
      simp only []
      omega
theorem topId_new {B : List Cs} {i : Int} (h : topId B B.length ≤ i) : (B.any fun d => d.id == i) = false := by
  rw [List.any_eq_false]
  intro c hc he
  obtain ⟨k, hk⟩ := List.getElem?_of_mem hc
  have := topId_gt (List.getElem?_eq_some_iff.1 hk).1 (Nat.le_refl _) hk
  simp only [beq_iff_eq] at he
  omega
end Go.Proofs.YtgmjcgjbbogefaaGreat

/- The three decisions that casesSmall makes. Plain. -/
namespace Go.Proofs.YtgmjcgjbbogefaaGreat
open Go.RowKit
set_option linter.unusedSimpArgs false
set_option linter.unusedVariables false
theorem dec_run {D : List Dm} {B : List Cs} {id : Int} {v : List Int} (off g : Bool) (hck : checkD D B = true) (hv : inD D v = true) (hi : (B.any fun d => d.id == id) = false) (hs : sideB D B v (!g) = false) (hg : off = g ∨ sideB D B v g = true) : decD D B id v off = (g, B ++ [⟨id, v, g⟩], 0) := by
  have hadd : addD D B ⟨id, v, g⟩ = (B ++ [⟨id, v, g⟩], 0) := by
    unfold addD
    simp only [hck, hv, hi]
    rw [clash_side, hs]
    rfl
  have hw : grantD (whatD D B v) off = g ∧ whatD D B v ≠ 3 := by
    unfold whatD
    cases g with
    | true =>
      simp only [Bool.not_true] at hs
      rw [hs]
      cases h : sideB D B v true with
      | true => simp [grantD]
      | false =>
        rcases hg with rfl | hg
        · simp [grantD]
        · rw [h] at hg; cases hg
    | false =>
      simp only [Bool.not_false] at hs
      rw [hs]
      cases h : sideB D B v false with
      | true => simp [grantD]
      | false =>
        rcases hg with rfl | hg
        · simp [grantD]
        · rw [h] at hg; cases hg
  unfold decD
  rw [for_ok hck hv]
  simp only [hw.1, hadd]
  rw [if_pos trivial, if_neg hw.2, if_pos trivial]
abbrev d1 : List Dm := [(3, dmO)]
abbrev b1 : List Cs := [⟨1, [1], true⟩]
def at1 (a b : List Int) (i : Nat) : Bool := match a[i]?, b[i]? with | some x, some y => decide (i < 1) && (inV 3 x && (inV 3 y && gO x.toNat y.toNat)) | _, _ => false
theorem at_d1 : atI d1 = at1 := by
  funext a b i
  unfold atI at1
  match i with
  | 0 => cases a[0]? <;> cases b[0]? <;> simp [atD, closedO]
  | i + 1 =>
    have h : d1[i + 1]? = none := rfl
    rw [h]
    have h2 : ¬ i + 1 < 1 := by omega
    cases a[i + 1]? <;> cases b[i + 1]? <;> simp [h2]
theorem blk_d1 : blkD d1 = fun a b => ((List.range 1).filter fun i => !at1 a b i).map Int.ofNat := by
  funext a b
  unfold blkD blkK
  rw [at_d1]
  rfl
theorem keeps_d1 : keepsD d1 = fun c l => if c.grant = true then ((List.range 1).filter fun i => !at1 c.vals l i).map Int.ofNat else ((List.range 1).filter fun i => !at1 l c.vals i).map Int.ofNat := by
  funext c l
  unfold keepsD
  rw [blk_d1]
theorem right_d1 : rightD d1 = true := by simp [rightD, closedO]
theorem chk_d1 (B : List Cs) (r : Bool) (h : ((B.all fun c => inD d1 c.vals) && decide (B.map Cs.id).Nodup) = r) : checkD d1 B = r := by
  unfold checkD
  rw [right_d1, h]
  rfl
theorem dec1 : decD d1 [] 1 [1] true = (true, b1, 0) := dec_run true true (chk_d1 _ _ (by decide)) (by decide) rfl rfl (.inl rfl)
theorem dec2 : decD d1 b1 2 [2] false = (true, b1 ++ [⟨2, [2], true⟩], 0) := dec_run false true (chk_d1 _ _ (by decide)) (by decide) (by decide) (by
  simp only [sideB, forcesD, keeps_d1]
  decide +kernel) (.inr (by
  simp only [sideB, forcesD, keeps_d1]
  decide +kernel))
theorem dec3 : decD d1 b1 3 [0] false = (false, b1 ++ [⟨3, [0], false⟩], 0) := dec_run false false (chk_d1 _ _ (by decide)) (by decide) (by decide) (by
  simp only [sideB, forcesD, keeps_d1]
  decide +kernel) (.inl rfl)
end Go.Proofs.YtgmjcgjbbogefaaGreat

/- Literals of the laws of chapter 39 as they lie in memory, and the contracts with given results. -/
namespace Go.Proofs.YtgmjcgjbbogefaaGreat
open Go.RowKit
set_option linter.unusedSimpArgs false
set_option linter.unusedVariables false
set_option maxRecDepth 100000
theorem forced11_R {S S1 S2 : Nat → Prop} (lo bo ao : Option Addr) (n1 c1 n c na ca : Nat) (D : List Dm) (B : List Cs) (al : List Int) (wh e : Int) (l : List Int) (m : Nat) (w : World) (hd : Dims S w lo n1 c1 D) (hb : Cases S1 w bo n c B) (ha : Ints S2 w ao na ca al) (hn : n ≤ 2000) (hR : forD D B al = (wh, l, e)) (hm : l.length = m) :
    Calls Tryz.prog 17 #[.slice lo n1 c1, .slice bo n c, .slice ao na ca] w fun e' w' => ∃ ro rc, e' = .returned (.tuple #[.int .i64 wh, .slice ro m rc, .int .i64 e]) ∧ Exts w w' ∧ Ints (fun b => w.heap.size ≤ b) w' ro m rc l := by
  have := forced11 lo bo ao n1 c1 n c na ca D B al w hd hb ha hn
  rw [hR] at this
  subst hm
  exact this
theorem add15_R {S S1 S2 : Nat → Prop} (lo bo ao : Option Addr) (n1 c1 n c na ca : Nat) (D : List Dm) (B : List Cs) (al : List Int) (cid : Int) (cg : Bool) (e : Int) (L : List Cs) (m : Nat) (w : World) (hd : Dims S w lo n1 c1 D) (hb : Cases S1 w bo n c B) (ha : Ints S2 w ao na ca al) (hn : n ≤ 100) (hcid : I64 cid) (hR : addD D B ⟨cid, al, cg⟩ = (L, e)) (hm : L.length = m) :
    Calls Tryz.prog 19 #[.slice lo n1 c1, .slice bo n c, .agg #[.int .i64 cid, .slice ao na ca, .bool cg]] w fun e' w' => ∃ ro rc, e' = .returned (.tuple #[.slice ro m rc, .int .i64 e]) ∧ Exts w w' ∧ Cases (fun b => w.heap.size ≤ b) w' ro m rc L := by
  have := add15 lo bo ao n1 c1 n c na ca D B cid al cg w hd hb ha hn hcid
  rw [hR] at this
  subst hm
  exact this
theorem cons13_R {S S1 : Nat → Prop} (lo bo : Option Addr) (n1 c1 n c : Nat) (D : List Dm) (B : List Cs) (x y : Int) (is : Bool) (w : World) (hd : Dims S w lo n1 c1 D) (hb : Cases S1 w bo n c B) (hn : n ≤ 2000) (hR : consD D B = (x, y, is)) :
    Calls Tryz.prog 6 #[.slice lo n1 c1, .slice bo n c] w fun e' w' => e' = .returned (.tuple #[.int .i64 x, .int .i64 y, .bool is]) ∧ Exts w w' := by
  have := consistent13 lo bo n1 c1 n c D B w hd hb hn
  rw [hR] at this
  exact this
end Go.Proofs.YtgmjcgjbbogefaaGreat


/- clone and Decide of package variance. No condition but at most 100 cases. -/
namespace Go.Proofs.YtgmjcgjbbogefaaGreat
open Go.RowKit Go.Maps
set_option linter.unusedSimpArgs false
set_option linter.unusedVariables false
set_option maxRecDepth 100000
set_option maxHeartbeats 2000000
theorem cases_cells {w : World} {B : List Cs} {xs : List Value} (hl : xs.length = B.length * 3) (h : ∀ (i : Nat) (d : Cs), B[i]? = some d → ∃ v, xs[i * 3]? = some (.int .i64 d.id) ∧ xs[i * 3 + 1]? = some v ∧ xs[i * 3 + 2]? = some (.bool d.grant) ∧ IntsV w v d.vals) : ∀ u ∈ xs, u.oneCell' = true := by
  intro u hu
  obtain ⟨k, hk⟩ := List.getElem?_of_mem hu
  have hk2 := (List.getElem?_eq_some_iff.1 hk).1
  have hi : k / 3 < B.length := by omega
  obtain ⟨v, e1, e2, e3, ao, c, rfl, _⟩ := h (k / 3) _ (List.getElem?_eq_getElem hi)
  have h3 : k = k / 3 * 3 ∨ k = k / 3 * 3 + 1 ∨ k = k / 3 * 3 + 2 := by omega
  rcases h3 with q | q | q
  · rw [q, e1] at hk; cases hk; rfl
  · rw [q, e2] at hk; cases hk; rfl
  · rw [q, e3] at hk; cases hk; rfl
theorem own_cell {w : World} {base g n cap s j : Nat} {e : TypeId} {xs : List Value} {u : Value} (h : w.ownsRow base e s (.slice (some ⟨g, 0, none⟩) n cap) n xs) (hu : xs[j]? = some u) : w.cell? ⟨g, j, none⟩ = some u := by
  have hn : 0 < n := by
    have h1 := h.1
    have h2 := (List.getElem?_eq_some_iff.1 hu).1
    exact Nat.pos_of_ne_zero (fun h0 => by subst h0; simp at h1; subst h1; simp at h2)
  obtain ⟨_, ao, c, hv, _, _, _, h5⟩ := RowF.of_owns h
  cases hv
  obtain ⟨b, off, hb, _, _, hc⟩ := h5 hn
  simp only [Option.some.injEq, Addr.mk.injEq, and_true] at hb
  obtain ⟨rfl, rfl⟩ := hb
  have := hc _ _ hu
  rwa [Nat.zero_add] at this
theorem own_some {w : World} {base e s n c : Nat} {ao : Option Addr} {xs : List Value} (h : w.ownsRow base e s (.slice ao n c) n xs) (hn : 0 < n) : ∃ g, ao = some ⟨g, 0, none⟩ ∧ base ≤ g ∧ g < w.heap.size := by
  obtain ⟨_, ⟨h1, h2⟩ | ⟨g, cap, cur, hv, hb, hg, _⟩⟩ := id h
  · omega
  · cases hv
    exact ⟨g, rfl, hb, (Array.getElem?_eq_some_iff.1 hg).1⟩
theorem vclone18 {S : Nat → Prop} (bo : Option Addr) (n c : Nat) (B : List Cs) (w : World) (hb : Cases S w bo n c B) (hn : n ≤ 100) (hs : ∀ d ∈ B, d.vals.length ≤ 1000) :
    Calls Tryz.prog 18 #[.slice bo n c] w fun e w' => ∃ ao' c', e = .returned (.slice ao' n c') ∧ Exts w w' := by
  obtain ⟨hl, hid, xs, hrow, hat⟩ := hb
  have h1 := cases_cells (by rw [hrow.len, hl]) hat
  have hxl := hrow.len
  have HS := Lib.hid hs
  have HAT := Lib.hid hat
  have HROW := Lib.hid hrow
  have H1 := Lib.hid h1
  have HL := Lib.hid hl
  clear hs hat hrow h1 hid
  go_enter Tryz.func18, Tryz.ntmps18
  go_wp2_with (first | (go_at_call 29; ((with_reducible refine (clone48 _ n xs _ (RowF.exts HROW.out (by repeat (first | exact Exts.refl _ | apply Exts.andR | apply Exts.alloc | apply Exts.wext | apply Exts.drew | apply Exts.drewN))) H1.out (by omega)).mono ?_); rintro e w' ⟨ao', c', rfl, ⟨x1, rfl⟩, hown⟩; (have HOWN := Lib.hid hown); clear hown)))
  refine wp_name ?_
  intro W1 hW1
  have HX := Lib.hid (show Exts w W1 by rw [hW1]; exact (by repeat (first | exact Exts.refl _ | apply Exts.andR | apply Exts.alloc | apply Exts.wext | apply Exts.drew | apply Exts.drewN)))
  have HOW := Lib.hid (show W1.ownsRow w.heap.size 28 3 (.slice ao' n c') n xs by rw [hW1]; exact ownsRow_exts HOWN.out (by repeat (first | exact Exts.refl _ | apply Exts.andR | apply Exts.alloc | apply Exts.wext | apply Exts.drew | apply Exts.drewN)))
  clear hW1 HOWN
  go_loopw [9] (fun j wr => ∃ (k : Nat) (ys : List Value), k ≤ n ∧ j = .int .i64 k ∧ Exts w wr ∧ wr.ownsRow w.heap.size 28 3 (.slice ao' n c') n ys ∧ ∀ t, k * 3 ≤ t → ys[t]? = xs[t]?) (fun j _ => n - (intOf j).toNat)
  case atStart => exact ⟨0, xs, by omega, rfl, HX.out, HOW.out, fun t _ => rfl⟩
  case round =>
    obtain ⟨k, ys, hk, rfl, hx, hown, hys⟩ := hrel
    by_cases hlt : k < n
    · obtain ⟨g, rfl, hgb, hgl⟩ := own_some hown (by omega)
      obtain ⟨v, e1, e2, e3, hv⟩ := HAT.out k _ (List.getElem?_eq_getElem (by rw [HL.out]; exact hlt))
      obtain ⟨vo, vc, rfl, hvi⟩ := hv
      have cv := own_cell hown ((hys _ (by omega)).trans e2)
      have fz : wr.frozen? ⟨g, k * 3 + 1, none⟩ = false := World.ownsRow.frozenAt hown _
      have hsm := HS.out _ (List.getElem_mem (show k < B.length by rw [HL.out]; exact hlt))
      have HVI := Lib.hid (RowF.exts hvi hx)
      have HO2 := Lib.hid hown
      have HX2 := Lib.hid hx
      have HY := Lib.hid hys
      clear e1 e2 e3 hvi hown hx hys
      go_wp2_with (first | (go_at_call 20; ((with_reducible refine (clone56_I _ _ _ _ _ (RowF.exts HVI.out (by repeat (first | exact Exts.refl _ | apply Exts.andR | apply Exts.alloc | apply Exts.wext | apply Exts.drew | apply Exts.drewN))) hsm).mono ?_); rintro e w' ⟨ro, rc, rfl, ⟨x2, rfl⟩, hr, ht⟩)))
      refine ⟨⟨k + 1, ys.set (k * 3 + 1) _, by omega, by go_num, ?_, ownsRow_exts (World.ownsRow.stored HO2.out (k * 3 + 1) _).1 (by repeat (first | exact Exts.refl _ | apply Exts.andR | apply Exts.alloc | apply Exts.wext | apply Exts.drew | apply Exts.drewN)), fun t ht => ?_⟩, by simp [intOf]; omega⟩
      · exact (exts_of_grown HX2.out (World.ownsRow.stored HO2.out (k * 3 + 1) _).2 (fun b hb => by cases hb; exact hgb)).trans (by repeat (first | exact Exts.refl _ | apply Exts.andR | apply Exts.alloc | apply Exts.wext | apply Exts.drew | apply Exts.drewN))
      · rw [List.getElem?_set_ne (by omega)]
        exact HY.out t (by omega)
    · obtain rfl : k = n := by omega
      go_wp2
      go_ret
      exact ⟨_, _, rfl, hx.trans (by repeat (first | exact Exts.refl _ | apply Exts.andR | apply Exts.alloc | apply Exts.wext | apply Exts.drew | apply Exts.drewN))⟩
/-- Decide answers what decD says; at an error the base that is handed back is not looked at. -/
theorem decide7 {S S1 S2 : Nat → Prop} (lo bo ao : Option Addr) (n1 c1 n c na ca : Nat) (D : List Dm) (B : List Cs) (al : List Int) (id : Int) (off : Bool) (w : World) (hd : Dims S w lo n1 c1 D) (hb : Cases S1 w bo n c B) (ha : Ints S2 w ao na ca al) (hn : n ≤ 100) (hna : na ≤ 1000) (hid : I64 id) (hs : ∀ d ∈ B, d.vals.length ≤ 1000) :
    Calls Tryz.prog 7 #[.slice lo n1 c1, .slice bo n c, .int .i64 id, .slice ao na ca, .bool off] w fun e w' => ∃ ro m rc, e = .returned (.tuple #[.bool (decD D B id al off).1, .slice ro m rc, .int .i64 (decD D B id al off).2.2]) ∧ Exts w w' ∧ ((decD D B id al off).2.2 = 0 → m = (decD D B id al off).2.1.length ∧ Cases (fun _ => True) w' ro m rc (decD D B id al off).2.1) := by
  have HD := Lib.hid hd
  have HB := Lib.hid hb
  have HA := Lib.hid ha
  have HS := Lib.hid hs
  have HID := Lib.hid hid
  have hn2 : n ≤ 2000 := by omega
  obtain ⟨⟨wh, l1, e0⟩, hR1⟩ : ∃ r, forD D B al = r := ⟨_, rfl⟩
  obtain ⟨m1, hM1⟩ : ∃ m, l1.length = m := ⟨_, rfl⟩
  have HR1 := Lib.hid hR1
  have HM1 := Lib.hid hM1
  clear hd hb ha hs hid hM1
  by_cases he : e0 = 0
  · subst he
    by_cases h3 : wh = 3
    · subst h3
      have HR := Lib.hid (show decD D B id al off = (false, [], 25) by unfold decD; rw [hR1]; simp)
      clear hR1
      go_enter Tryz.func7, Tryz.ntmps7
      go_wp2_with (first | (go_at_call 17; ((with_reducible refine (forced11_R _ _ _ _ _ _ _ _ _ D B al _ _ _ _ _ (HD.out.exts (by repeat (first | exact Exts.refl _ | apply Exts.andR | apply Exts.alloc | apply Exts.wext | apply Exts.drew | apply Exts.drewN))) (HB.out.exts (by repeat (first | exact Exts.refl _ | apply Exts.andR | apply Exts.alloc | apply Exts.wext | apply Exts.drew | apply Exts.drewN))) (RowF.exts HA.out (by repeat (first | exact Exts.refl _ | apply Exts.andR | apply Exts.alloc | apply Exts.wext | apply Exts.drew | apply Exts.drewN))) hn2 HR1.out HM1.out).mono ?_); rintro e w' ⟨ro1, rc1, rfl, ⟨x1, rfl⟩, hf⟩; clear hf)) | (go_at_call 18; ((with_reducible refine (vclone18 _ _ _ B _ (HB.out.exts (by repeat (first | exact Exts.refl _ | apply Exts.andR | apply Exts.alloc | apply Exts.wext | apply Exts.drew | apply Exts.drewN))) hn HS.out).mono ?_); rintro e w' ⟨ro2, rc2, rfl, ⟨x2, rfl⟩⟩)))
      go_ret3
      refine ⟨ro2, n, rc2, by rw [HR.out]; rfl, (by repeat (first | exact Exts.refl _ | apply Exts.andR | apply Exts.alloc | apply Exts.wext | apply Exts.drew | apply Exts.drewN)), fun h => ?_⟩
      rw [HR.out] at h
      cases h
    · by_cases h1 : wh = 1
      · subst h1
        have hg : grantD 1 off = true := rfl
        obtain ⟨⟨L3, e3⟩, hR3⟩ : ∃ r, addD D B ⟨id, al, true⟩ = r := ⟨_, rfl⟩
        obtain ⟨m3, hM3⟩ : ∃ m, L3.length = m := ⟨_, rfl⟩
        have HR3 := Lib.hid hR3
        have HM3 := Lib.hid hM3
        by_cases he3 : e3 = 0
        · subst he3
          have HR := Lib.hid (show decD D B id al off = (true, L3, 0) by unfold decD; rw [hR1]; simp [hg, hR3, h3])
          clear hR1 hR3 hM3 h3
          go_enter Tryz.func7, Tryz.ntmps7
          go_wp2_with (first | (go_at_call 17; ((with_reducible refine (forced11_R _ _ _ _ _ _ _ _ _ D B al _ _ _ _ _ (HD.out.exts (by repeat (first | exact Exts.refl _ | apply Exts.andR | apply Exts.alloc | apply Exts.wext | apply Exts.drew | apply Exts.drewN))) (HB.out.exts (by repeat (first | exact Exts.refl _ | apply Exts.andR | apply Exts.alloc | apply Exts.wext | apply Exts.drew | apply Exts.drewN))) (RowF.exts HA.out (by repeat (first | exact Exts.refl _ | apply Exts.andR | apply Exts.alloc | apply Exts.wext | apply Exts.drew | apply Exts.drewN))) hn2 HR1.out HM1.out).mono ?_); rintro e w' ⟨ro1, rc1, rfl, ⟨x1, rfl⟩, hf⟩; clear hf)) | (go_at_call 18; ((with_reducible refine (vclone18 _ _ _ B _ (HB.out.exts (by repeat (first | exact Exts.refl _ | apply Exts.andR | apply Exts.alloc | apply Exts.wext | apply Exts.drew | apply Exts.drewN))) hn HS.out).mono ?_); rintro e w' ⟨ro2, rc2, rfl, ⟨x2, rfl⟩⟩)) | (go_at_call 20; ((with_reducible refine (clone56_I _ _ _ al _ (RowF.exts HA.out (by repeat (first | exact Exts.refl _ | apply Exts.andR | apply Exts.alloc | apply Exts.wext | apply Exts.drew | apply Exts.drewN))) hna).mono ?_); rintro e w' ⟨ro3, rc3, rfl, ⟨x3, rfl⟩, hc3, ht3⟩; (try simp only [wext_and] at hc3); (have HC3 := Lib.hid hc3); clear hc3 ht3)) | (go_at_call 19; ((with_reducible refine (add15_R _ _ _ _ _ _ _ _ _ D B al _ _ _ _ _ _ (HD.out.exts (by repeat (first | exact Exts.refl _ | apply Exts.andR | apply Exts.alloc | apply Exts.wext | apply Exts.drew | apply Exts.drewN))) (HB.out.exts (by repeat (first | exact Exts.refl _ | apply Exts.andR | apply Exts.alloc | apply Exts.wext | apply Exts.drew | apply Exts.drewN))) (RowF.exts HC3.out (by repeat (first | exact Exts.refl _ | apply Exts.andR | apply Exts.alloc | apply Exts.wext | apply Exts.drew | apply Exts.drewN))) hn HID.out HR3.out HM3.out).mono ?_); rintro e w' ⟨ro4, rc4, rfl, ⟨x4, rfl⟩, hf⟩; (try simp only [wext_and] at hf); (have HF4 := Lib.hid hf); clear hf)))
          go_ret3
          refine ⟨ro4, m3, rc4, by rw [HR.out]; rfl, (by repeat (first | exact Exts.refl _ | apply Exts.andR | apply Exts.alloc | apply Exts.wext | apply Exts.drew | apply Exts.drewN)), fun _ => ?_⟩
          rw [HR.out]
          exact ⟨HM3.out.symm, (HF4.out.exts (by repeat (first | exact Exts.refl _ | apply Exts.andR | apply Exts.alloc | apply Exts.wext | apply Exts.drew | apply Exts.drewN))).mono fun _ _ => trivial⟩
        · have q9 : (e3 != 0) = true := by simpa using he3
          have HR := Lib.hid (show decD D B id al off = (false, [], e3) by unfold decD; rw [hR1]; simp [hg, hR3, h3, he3])
          have HNE := Lib.hid he3
          clear hR1 hR3 hM3 h3 he3
          go_enter Tryz.func7, Tryz.ntmps7
          go_wp2_with (first | (go_at_call 17; ((with_reducible refine (forced11_R _ _ _ _ _ _ _ _ _ D B al _ _ _ _ _ (HD.out.exts (by repeat (first | exact Exts.refl _ | apply Exts.andR | apply Exts.alloc | apply Exts.wext | apply Exts.drew | apply Exts.drewN))) (HB.out.exts (by repeat (first | exact Exts.refl _ | apply Exts.andR | apply Exts.alloc | apply Exts.wext | apply Exts.drew | apply Exts.drewN))) (RowF.exts HA.out (by repeat (first | exact Exts.refl _ | apply Exts.andR | apply Exts.alloc | apply Exts.wext | apply Exts.drew | apply Exts.drewN))) hn2 HR1.out HM1.out).mono ?_); rintro e w' ⟨ro1, rc1, rfl, ⟨x1, rfl⟩, hf⟩; clear hf)) | (go_at_call 18; ((with_reducible refine (vclone18 _ _ _ B _ (HB.out.exts (by repeat (first | exact Exts.refl _ | apply Exts.andR | apply Exts.alloc | apply Exts.wext | apply Exts.drew | apply Exts.drewN))) hn HS.out).mono ?_); rintro e w' ⟨ro2, rc2, rfl, ⟨x2, rfl⟩⟩)) | (go_at_call 20; ((with_reducible refine (clone56_I _ _ _ al _ (RowF.exts HA.out (by repeat (first | exact Exts.refl _ | apply Exts.andR | apply Exts.alloc | apply Exts.wext | apply Exts.drew | apply Exts.drewN))) hna).mono ?_); rintro e w' ⟨ro3, rc3, rfl, ⟨x3, rfl⟩, hc3, ht3⟩; (try simp only [wext_and] at hc3); (have HC3 := Lib.hid hc3); clear hc3 ht3)) | (go_at_call 19; ((with_reducible refine (add15_R _ _ _ _ _ _ _ _ _ D B al _ _ _ _ _ _ (HD.out.exts (by repeat (first | exact Exts.refl _ | apply Exts.andR | apply Exts.alloc | apply Exts.wext | apply Exts.drew | apply Exts.drewN))) (HB.out.exts (by repeat (first | exact Exts.refl _ | apply Exts.andR | apply Exts.alloc | apply Exts.wext | apply Exts.drew | apply Exts.drewN))) (RowF.exts HC3.out (by repeat (first | exact Exts.refl _ | apply Exts.andR | apply Exts.alloc | apply Exts.wext | apply Exts.drew | apply Exts.drewN))) hn HID.out HR3.out HM3.out).mono ?_); rintro e w' ⟨ro4, rc4, rfl, ⟨x4, rfl⟩, hf⟩; (try simp only [wext_and] at hf); (have HF4 := Lib.hid hf); clear hf)))
          go_ret3
          refine ⟨ro2, n, rc2, by rw [HR.out]; rfl, (by repeat (first | exact Exts.refl _ | apply Exts.andR | apply Exts.alloc | apply Exts.wext | apply Exts.drew | apply Exts.drewN)), fun h => ?_⟩
          rw [HR.out] at h
          exact absurd h HNE.out
      · by_cases h2 : wh = 2
        · subst h2
          have hg : grantD 2 off = false := rfl
          obtain ⟨⟨L3, e3⟩, hR3⟩ : ∃ r, addD D B ⟨id, al, false⟩ = r := ⟨_, rfl⟩
          obtain ⟨m3, hM3⟩ : ∃ m, L3.length = m := ⟨_, rfl⟩
          have HR3 := Lib.hid hR3
          have HM3 := Lib.hid hM3
          by_cases he3 : e3 = 0
          · subst he3
            have HR := Lib.hid (show decD D B id al off = (false, L3, 0) by unfold decD; rw [hR1]; simp [hg, hR3, h3])
            clear hR1 hR3 hM3 h3
            go_enter Tryz.func7, Tryz.ntmps7
            go_wp2_with (first | (go_at_call 17; ((with_reducible refine (forced11_R _ _ _ _ _ _ _ _ _ D B al _ _ _ _ _ (HD.out.exts (by repeat (first | exact Exts.refl _ | apply Exts.andR | apply Exts.alloc | apply Exts.wext | apply Exts.drew | apply Exts.drewN))) (HB.out.exts (by repeat (first | exact Exts.refl _ | apply Exts.andR | apply Exts.alloc | apply Exts.wext | apply Exts.drew | apply Exts.drewN))) (RowF.exts HA.out (by repeat (first | exact Exts.refl _ | apply Exts.andR | apply Exts.alloc | apply Exts.wext | apply Exts.drew | apply Exts.drewN))) hn2 HR1.out HM1.out).mono ?_); rintro e w' ⟨ro1, rc1, rfl, ⟨x1, rfl⟩, hf⟩; clear hf)) | (go_at_call 18; ((with_reducible refine (vclone18 _ _ _ B _ (HB.out.exts (by repeat (first | exact Exts.refl _ | apply Exts.andR | apply Exts.alloc | apply Exts.wext | apply Exts.drew | apply Exts.drewN))) hn HS.out).mono ?_); rintro e w' ⟨ro2, rc2, rfl, ⟨x2, rfl⟩⟩)) | (go_at_call 20; ((with_reducible refine (clone56_I _ _ _ al _ (RowF.exts HA.out (by repeat (first | exact Exts.refl _ | apply Exts.andR | apply Exts.alloc | apply Exts.wext | apply Exts.drew | apply Exts.drewN))) hna).mono ?_); rintro e w' ⟨ro3, rc3, rfl, ⟨x3, rfl⟩, hc3, ht3⟩; (try simp only [wext_and] at hc3); (have HC3 := Lib.hid hc3); clear hc3 ht3)) | (go_at_call 19; ((with_reducible refine (add15_R _ _ _ _ _ _ _ _ _ D B al _ _ _ _ _ _ (HD.out.exts (by repeat (first | exact Exts.refl _ | apply Exts.andR | apply Exts.alloc | apply Exts.wext | apply Exts.drew | apply Exts.drewN))) (HB.out.exts (by repeat (first | exact Exts.refl _ | apply Exts.andR | apply Exts.alloc | apply Exts.wext | apply Exts.drew | apply Exts.drewN))) (RowF.exts HC3.out (by repeat (first | exact Exts.refl _ | apply Exts.andR | apply Exts.alloc | apply Exts.wext | apply Exts.drew | apply Exts.drewN))) hn HID.out HR3.out HM3.out).mono ?_); rintro e w' ⟨ro4, rc4, rfl, ⟨x4, rfl⟩, hf⟩; (try simp only [wext_and] at hf); (have HF4 := Lib.hid hf); clear hf)))
            go_ret3
            refine ⟨ro4, m3, rc4, by rw [HR.out]; rfl, (by repeat (first | exact Exts.refl _ | apply Exts.andR | apply Exts.alloc | apply Exts.wext | apply Exts.drew | apply Exts.drewN)), fun _ => ?_⟩
            rw [HR.out]
            exact ⟨HM3.out.symm, (HF4.out.exts (by repeat (first | exact Exts.refl _ | apply Exts.andR | apply Exts.alloc | apply Exts.wext | apply Exts.drew | apply Exts.drewN))).mono fun _ _ => trivial⟩
          · have q9 : (e3 != 0) = true := by simpa using he3
            have HR := Lib.hid (show decD D B id al off = (false, [], e3) by unfold decD; rw [hR1]; simp [hg, hR3, h3, he3])
            have HNE := Lib.hid he3
            clear hR1 hR3 hM3 h3 he3
            go_enter Tryz.func7, Tryz.ntmps7
            go_wp2_with (first | (go_at_call 17; ((with_reducible refine (forced11_R _ _ _ _ _ _ _ _ _ D B al _ _ _ _ _ (HD.out.exts (by repeat (first | exact Exts.refl _ | apply Exts.andR | apply Exts.alloc | apply Exts.wext | apply Exts.drew | apply Exts.drewN))) (HB.out.exts (by repeat (first | exact Exts.refl _ | apply Exts.andR | apply Exts.alloc | apply Exts.wext | apply Exts.drew | apply Exts.drewN))) (RowF.exts HA.out (by repeat (first | exact Exts.refl _ | apply Exts.andR | apply Exts.alloc | apply Exts.wext | apply Exts.drew | apply Exts.drewN))) hn2 HR1.out HM1.out).mono ?_); rintro e w' ⟨ro1, rc1, rfl, ⟨x1, rfl⟩, hf⟩; clear hf)) | (go_at_call 18; ((with_reducible refine (vclone18 _ _ _ B _ (HB.out.exts (by repeat (first | exact Exts.refl _ | apply Exts.andR | apply Exts.alloc | apply Exts.wext | apply Exts.drew | apply Exts.drewN))) hn HS.out).mono ?_); rintro e w' ⟨ro2, rc2, rfl, ⟨x2, rfl⟩⟩)) | (go_at_call 20; ((with_reducible refine (clone56_I _ _ _ al _ (RowF.exts HA.out (by repeat (first | exact Exts.refl _ | apply Exts.andR | apply Exts.alloc | apply Exts.wext | apply Exts.drew | apply Exts.drewN))) hna).mono ?_); rintro e w' ⟨ro3, rc3, rfl, ⟨x3, rfl⟩, hc3, ht3⟩; (try simp only [wext_and] at hc3); (have HC3 := Lib.hid hc3); clear hc3 ht3)) | (go_at_call 19; ((with_reducible refine (add15_R _ _ _ _ _ _ _ _ _ D B al _ _ _ _ _ _ (HD.out.exts (by repeat (first | exact Exts.refl _ | apply Exts.andR | apply Exts.alloc | apply Exts.wext | apply Exts.drew | apply Exts.drewN))) (HB.out.exts (by repeat (first | exact Exts.refl _ | apply Exts.andR | apply Exts.alloc | apply Exts.wext | apply Exts.drew | apply Exts.drewN))) (RowF.exts HC3.out (by repeat (first | exact Exts.refl _ | apply Exts.andR | apply Exts.alloc | apply Exts.wext | apply Exts.drew | apply Exts.drewN))) hn HID.out HR3.out HM3.out).mono ?_); rintro e w' ⟨ro4, rc4, rfl, ⟨x4, rfl⟩, hf⟩; (try simp only [wext_and] at hf); (have HF4 := Lib.hid hf); clear hf)))
            go_ret3
            refine ⟨ro2, n, rc2, by rw [HR.out]; rfl, (by repeat (first | exact Exts.refl _ | apply Exts.andR | apply Exts.alloc | apply Exts.wext | apply Exts.drew | apply Exts.drewN)), fun h => ?_⟩
            rw [HR.out] at h
            exact absurd h HNE.out
        · have hg : grantD wh off = off := by unfold grantD; rw [if_neg h1, if_neg h2]
          have q1 : (wh == 1) = false := by simpa using h1
          have q2 : (wh == 2) = false := by simpa using h2
          have q3 : (wh == 3) = false := by simpa using h3
          clear h1 h2
          obtain ⟨⟨L3, e3⟩, hR3⟩ : ∃ r, addD D B ⟨id, al, off⟩ = r := ⟨_, rfl⟩
          obtain ⟨m3, hM3⟩ : ∃ m, L3.length = m := ⟨_, rfl⟩
          have HR3 := Lib.hid hR3
          have HM3 := Lib.hid hM3
          by_cases he3 : e3 = 0
          · subst he3
            have HR := Lib.hid (show decD D B id al off = (off, L3, 0) by unfold decD; rw [hR1]; simp [hg, hR3, h3])
            clear hR1 hR3 hM3 h3
            go_enter Tryz.func7, Tryz.ntmps7
            go_wp2_with (first | (go_at_call 17; ((with_reducible refine (forced11_R _ _ _ _ _ _ _ _ _ D B al _ _ _ _ _ (HD.out.exts (by repeat (first | exact Exts.refl _ | apply Exts.andR | apply Exts.alloc | apply Exts.wext | apply Exts.drew | apply Exts.drewN))) (HB.out.exts (by repeat (first | exact Exts.refl _ | apply Exts.andR | apply Exts.alloc | apply Exts.wext | apply Exts.drew | apply Exts.drewN))) (RowF.exts HA.out (by repeat (first | exact Exts.refl _ | apply Exts.andR | apply Exts.alloc | apply Exts.wext | apply Exts.drew | apply Exts.drewN))) hn2 HR1.out HM1.out).mono ?_); rintro e w' ⟨ro1, rc1, rfl, ⟨x1, rfl⟩, hf⟩; clear hf)) | (go_at_call 18; ((with_reducible refine (vclone18 _ _ _ B _ (HB.out.exts (by repeat (first | exact Exts.refl _ | apply Exts.andR | apply Exts.alloc | apply Exts.wext | apply Exts.drew | apply Exts.drewN))) hn HS.out).mono ?_); rintro e w' ⟨ro2, rc2, rfl, ⟨x2, rfl⟩⟩)) | (go_at_call 20; ((with_reducible refine (clone56_I _ _ _ al _ (RowF.exts HA.out (by repeat (first | exact Exts.refl _ | apply Exts.andR | apply Exts.alloc | apply Exts.wext | apply Exts.drew | apply Exts.drewN))) hna).mono ?_); rintro e w' ⟨ro3, rc3, rfl, ⟨x3, rfl⟩, hc3, ht3⟩; (try simp only [wext_and] at hc3); (have HC3 := Lib.hid hc3); clear hc3 ht3)) | (go_at_call 19; ((with_reducible refine (add15_R _ _ _ _ _ _ _ _ _ D B al _ _ _ _ _ _ (HD.out.exts (by repeat (first | exact Exts.refl _ | apply Exts.andR | apply Exts.alloc | apply Exts.wext | apply Exts.drew | apply Exts.drewN))) (HB.out.exts (by repeat (first | exact Exts.refl _ | apply Exts.andR | apply Exts.alloc | apply Exts.wext | apply Exts.drew | apply Exts.drewN))) (RowF.exts HC3.out (by repeat (first | exact Exts.refl _ | apply Exts.andR | apply Exts.alloc | apply Exts.wext | apply Exts.drew | apply Exts.drewN))) hn HID.out HR3.out HM3.out).mono ?_); rintro e w' ⟨ro4, rc4, rfl, ⟨x4, rfl⟩, hf⟩; (try simp only [wext_and] at hf); (have HF4 := Lib.hid hf); clear hf)))
            go_ret3
            refine ⟨ro4, m3, rc4, by rw [HR.out]; rfl, (by repeat (first | exact Exts.refl _ | apply Exts.andR | apply Exts.alloc | apply Exts.wext | apply Exts.drew | apply Exts.drewN)), fun _ => ?_⟩
            rw [HR.out]
            exact ⟨HM3.out.symm, (HF4.out.exts (by repeat (first | exact Exts.refl _ | apply Exts.andR | apply Exts.alloc | apply Exts.wext | apply Exts.drew | apply Exts.drewN))).mono fun _ _ => trivial⟩
          · have q9 : (e3 != 0) = true := by simpa using he3
            have HR := Lib.hid (show decD D B id al off = (false, [], e3) by unfold decD; rw [hR1]; simp [hg, hR3, h3, he3])
            have HNE := Lib.hid he3
            clear hR1 hR3 hM3 h3 he3
            go_enter Tryz.func7, Tryz.ntmps7
            go_wp2_with (first | (go_at_call 17; ((with_reducible refine (forced11_R _ _ _ _ _ _ _ _ _ D B al _ _ _ _ _ (HD.out.exts (by repeat (first | exact Exts.refl _ | apply Exts.andR | apply Exts.alloc | apply Exts.wext | apply Exts.drew | apply Exts.drewN))) (HB.out.exts (by repeat (first | exact Exts.refl _ | apply Exts.andR | apply Exts.alloc | apply Exts.wext | apply Exts.drew | apply Exts.drewN))) (RowF.exts HA.out (by repeat (first | exact Exts.refl _ | apply Exts.andR | apply Exts.alloc | apply Exts.wext | apply Exts.drew | apply Exts.drewN))) hn2 HR1.out HM1.out).mono ?_); rintro e w' ⟨ro1, rc1, rfl, ⟨x1, rfl⟩, hf⟩; clear hf)) | (go_at_call 18; ((with_reducible refine (vclone18 _ _ _ B _ (HB.out.exts (by repeat (first | exact Exts.refl _ | apply Exts.andR | apply Exts.alloc | apply Exts.wext | apply Exts.drew | apply Exts.drewN))) hn HS.out).mono ?_); rintro e w' ⟨ro2, rc2, rfl, ⟨x2, rfl⟩⟩)) | (go_at_call 20; ((with_reducible refine (clone56_I _ _ _ al _ (RowF.exts HA.out (by repeat (first | exact Exts.refl _ | apply Exts.andR | apply Exts.alloc | apply Exts.wext | apply Exts.drew | apply Exts.drewN))) hna).mono ?_); rintro e w' ⟨ro3, rc3, rfl, ⟨x3, rfl⟩, hc3, ht3⟩; (try simp only [wext_and] at hc3); (have HC3 := Lib.hid hc3); clear hc3 ht3)) | (go_at_call 19; ((with_reducible refine (add15_R _ _ _ _ _ _ _ _ _ D B al _ _ _ _ _ _ (HD.out.exts (by repeat (first | exact Exts.refl _ | apply Exts.andR | apply Exts.alloc | apply Exts.wext | apply Exts.drew | apply Exts.drewN))) (HB.out.exts (by repeat (first | exact Exts.refl _ | apply Exts.andR | apply Exts.alloc | apply Exts.wext | apply Exts.drew | apply Exts.drewN))) (RowF.exts HC3.out (by repeat (first | exact Exts.refl _ | apply Exts.andR | apply Exts.alloc | apply Exts.wext | apply Exts.drew | apply Exts.drewN))) hn HID.out HR3.out HM3.out).mono ?_); rintro e w' ⟨ro4, rc4, rfl, ⟨x4, rfl⟩, hf⟩; (try simp only [wext_and] at hf); (have HF4 := Lib.hid hf); clear hf)))
            go_ret3
            refine ⟨ro2, n, rc2, by rw [HR.out]; rfl, (by repeat (first | exact Exts.refl _ | apply Exts.andR | apply Exts.alloc | apply Exts.wext | apply Exts.drew | apply Exts.drewN)), fun h => ?_⟩
            rw [HR.out] at h
            exact absurd h HNE.out
  · have q0 : (e0 != 0) = true := by simpa using he
    have HR := Lib.hid (show decD D B id al off = (false, [], 1) by unfold decD; rw [hR1]; simp [he])
    clear hR1 he
    go_enter Tryz.func7, Tryz.ntmps7
    go_wp2_with (first | (go_at_call 17; ((with_reducible refine (forced11_R _ _ _ _ _ _ _ _ _ D B al _ _ _ _ _ (HD.out.exts (by repeat (first | exact Exts.refl _ | apply Exts.andR | apply Exts.alloc | apply Exts.wext | apply Exts.drew | apply Exts.drewN))) (HB.out.exts (by repeat (first | exact Exts.refl _ | apply Exts.andR | apply Exts.alloc | apply Exts.wext | apply Exts.drew | apply Exts.drewN))) (RowF.exts HA.out (by repeat (first | exact Exts.refl _ | apply Exts.andR | apply Exts.alloc | apply Exts.wext | apply Exts.drew | apply Exts.drewN))) hn2 HR1.out HM1.out).mono ?_); rintro e w' ⟨ro1, rc1, rfl, ⟨x1, rfl⟩, hf⟩; clear hf)) | (go_at_call 18; ((with_reducible refine (vclone18 _ _ _ B _ (HB.out.exts (by repeat (first | exact Exts.refl _ | apply Exts.andR | apply Exts.alloc | apply Exts.wext | apply Exts.drew | apply Exts.drewN))) hn HS.out).mono ?_); rintro e w' ⟨ro2, rc2, rfl, ⟨x2, rfl⟩⟩)))
    go_ret3
    refine ⟨ro2, n, rc2, by rw [HR.out]; rfl, (by repeat (first | exact Exts.refl _ | apply Exts.andR | apply Exts.alloc | apply Exts.wext | apply Exts.drew | apply Exts.drewN)), fun h => ?_⟩
    rw [HR.out] at h
    cases h
end Go.Proofs.YtgmjcgjbbogefaaGreat
