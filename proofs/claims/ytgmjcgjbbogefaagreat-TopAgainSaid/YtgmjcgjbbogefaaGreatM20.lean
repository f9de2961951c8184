/- Lemmas that the laws of this seat share, 4 texts in one: LawPre, StrongPre, Small9Plain, AddsLaw. No condition of their own. -/
import Derived.Test.YtgmjcgjbbogefaaGreatM19
import Derived.Test.YtgmjcgjbbogefaaGreatM7
import Derived.Test.YtgmjcgjbbogefaaGreatM13
import Derived.Test.YtgmjcgjbbogefaaGreatM9
/- What precedents force, and contradictions of a base: plain laws. -/
namespace Go.Proofs.YtgmjcgjbbogefaaGreat
open Go.RowKit
set_option linter.unusedSimpArgs false
set_option linter.unusedVariables false
theorem blk_below {D : List Dm} {a b : List Int} (hr : rightD D = true) (ha : inD D a = true) (hb : inD D b = true) : (blkD D a b).isEmpty = belowD D a b := by
  unfold blkD belowD blocksD
  rw [if_pos (vec_of hr ha hb), vec_of hr ha hb, Bool.true_and]
def conflicts (D : List Dm) (B : List Cs) : Prop := ∃ c, c ∈ B ∧ c.grant = true ∧ ∃ d, d ∈ B ∧ d.grant = false ∧ (blkD D c.vals d.vals).isEmpty = true
theorem consD_chk {D : List Dm} {B : List Cs} (h : (consD D B).2.2 = true) : checkD D B = true := by
  unfold consD at h
  split at h
  · assumption
  · cases h
theorem outC_is (o : Option (Nat × Nat)) : (outC o).2.2 = o.isNone := by
  match o with
  | none => rfl
  | some (i, k) => rfl
theorem consD_is {D : List Dm} {B : List Cs} (h : checkD D B = true) : (consD D B).2.2 = true ↔ ¬ conflicts D B := by
  unfold consD
  rw [if_pos h, outC_is, Option.isNone_iff_eq_none]
  constructor
  · rintro hn ⟨c, hc, hg, d, hd, hdg, he⟩
    unfold conFind at hn
    rw [List.findSome?_eq_none_iff] at hn
    obtain ⟨i, hi⟩ := List.getElem?_of_mem hc
    obtain ⟨k, hk⟩ := List.getElem?_of_mem hd
    have h1 := hn i (List.mem_range.2 (List.getElem?_eq_some_iff.1 hi).1)
    rw [Option.map_eq_none_iff] at h1
    unfold conRow at h1
    rw [hi] at h1
    simp only [hg, if_true] at h1
    unfold hitF at h1
    rw [List.find?_eq_none] at h1
    have h2 := h1 k (List.mem_range.2 (List.getElem?_eq_some_iff.1 hk).1)
    rw [hitI_of hk, hdg, he] at h2
    exact h2 rfl
  · intro hn
    refine conFind_none fun j hj => ?_
    unfold conRow
    rw [List.getElem?_eq_getElem hj]
    simp only []
    split
    · rename_i hg
      unfold hitF
      rw [List.find?_eq_none]
      intro k hk hh
      have hk := List.mem_range.1 hk
      rw [hitI_of (List.getElem?_eq_getElem hk)] at hh
      simp only [Bool.and_eq_true, Bool.not_eq_true'] at hh
      exact hn ⟨B[j], List.getElem_mem hj, hg, B[k], List.getElem_mem hk, hh.1, hh.2⟩
    · rfl
theorem side_true {D : List Dm} {B : List Cs} {al : List Int} : sideB D B al true = true ↔ ∃ c, c ∈ B ∧ c.grant = true ∧ (blkD D c.vals al).isEmpty = true := by
  simp only [sideB, List.any_eq_true, Bool.and_eq_true, beq_iff_eq, forcesD, keepsD]
  constructor
  · rintro ⟨c, hc, hg, h⟩
    rw [if_pos hg] at h
    exact ⟨c, hc, hg, h⟩
  · rintro ⟨c, hc, hg, h⟩
    exact ⟨c, hc, hg, by rw [if_pos hg]; exact h⟩
theorem side_false {D : List Dm} {B : List Cs} {al : List Int} : sideB D B al false = true ↔ ∃ c, c ∈ B ∧ c.grant = false ∧ (blkD D al c.vals).isEmpty = true := by
  simp only [sideB, List.any_eq_true, Bool.and_eq_true, beq_iff_eq, forcesD, keepsD]
  constructor
  · rintro ⟨c, hc, hg, h⟩
    rw [hg, if_neg (by decide)] at h
    exact ⟨c, hc, hg, h⟩
  · rintro ⟨c, hc, hg, h⟩
    exact ⟨c, hc, hg, by rw [hg, if_neg (by decide)]; exact h⟩
theorem check_in {D : List Dm} {B : List Cs} (h : checkD D B = true) : rightD D = true ∧ ∀ c ∈ B, inD D c.vals = true := by
  simp only [checkD, Bool.and_eq_true, List.all_eq_true] at h
  exact ⟨h.1, h.2.1⟩
/-- What would clash is a contradiction of the base. -/
theorem side_conf {D : List Dm} {B : List Cs} {al : List Int} (h : checkD D B = true) (ha : inD D al = true) (h1 : sideB D B al true = true) (h2 : sideB D B al false = true) : conflicts D B := by
  obtain ⟨hr, hv⟩ := check_in h
  obtain ⟨c, hc, hg, h3⟩ := side_true.1 h1
  obtain ⟨d, hd, hdg, h4⟩ := side_false.1 h2
  rw [blk_below hr (hv c hc) ha] at h3
  rw [blk_below hr ha (hv d hd)] at h4
  refine ⟨c, hc, hg, d, hd, hdg, ?_⟩
  rw [blk_below hr (hv c hc) (hv d hd)]
  exact below_trans hr (hv c hc) ha (hv d hd) h3 h4
theorem check_snoc (D : List Dm) (B : List Cs) (c : Cs) : checkD D (B ++ [c]) = (checkD D B && (inD D c.vals && !(B.any fun d => d.id == c.id))) := by
  rw [Bool.eq_iff_iff]
  simp only [checkD, Bool.and_eq_true, List.all_append, List.all_cons, List.all_nil, List.map_append, List.map_cons, List.map_nil, decide_eq_true_eq, List.nodup_append, Bool.not_eq_true', List.any_eq_false, Bool.and_true, beq_iff_eq]
  constructor
  · rintro ⟨h1, ⟨h2, h3⟩, h4, _, h5⟩
    refine ⟨⟨h1, h2, h4⟩, h3, fun d hd he => ?_⟩
    exact h5 d.id (List.mem_map_of_mem hd) c.id (by simp) he
  · rintro ⟨⟨h1, h2, h4⟩, h3, h5⟩
    refine ⟨h1, ⟨h2, h3⟩, h4, by simp, fun a ha b hb he => ?_⟩
    obtain ⟨d, hd, rfl⟩ := List.mem_map.1 ha
    simp at hb
    exact h5 d hd (he.trans hb)
theorem conf_true {D : List Dm} {B : List Cs} {al : List Int} (i : Int) (h : ¬ conflicts D B) : conflicts D (B ++ [⟨i, al, true⟩]) ↔ sideB D B al false = true := by
  rw [side_false]
  constructor
  · rintro ⟨c, hc, hg, d, hd, hdg, he⟩
    have hd' : d ∈ B := by
      rcases List.mem_append.1 hd with hd | hd
      · exact hd
      · simp at hd; rw [hd] at hdg; cases hdg
    rcases List.mem_append.1 hc with hc | hc
    · exact absurd ⟨c, hc, hg, d, hd', hdg, he⟩ h
    · simp at hc
      rw [hc] at he
      exact ⟨d, hd', hdg, he⟩
  · rintro ⟨d, hd, hdg, he⟩
    exact ⟨_, List.mem_append_right _ (List.mem_singleton.2 rfl), rfl, d, List.mem_append_left _ hd, hdg, he⟩
theorem conf_false {D : List Dm} {B : List Cs} {al : List Int} (i : Int) (h : ¬ conflicts D B) : conflicts D (B ++ [⟨i, al, false⟩]) ↔ sideB D B al true = true := by
  rw [side_true]
  constructor
  · rintro ⟨c, hc, hg, d, hd, hdg, he⟩
    have hc' : c ∈ B := by
      rcases List.mem_append.1 hc with hc | hc
      · exact hc
      · simp at hc; rw [hc] at hg; cases hg
    rcases List.mem_append.1 hd with hd | hd
    · exact absurd ⟨c, hc', hg, d, hd, hdg, he⟩ h
    · simp at hd
      rw [hd] at he
      exact ⟨c, hc', hg, he⟩
  · rintro ⟨c, hc, hg, he⟩
    exact ⟨c, List.mem_append_left _ hc, hg, _, List.mem_append_right _ (List.mem_singleton.2 rfl), rfl, he⟩
theorem maxId_gt {B : List Cs} {k i : Nat} {c : Cs} (hi : i < k) (hk : k ≤ B.length) (h : B[i]? = some c) (hc : c.id ≤ 1000000) : c.id < maxId B k := by
  induction k with
  | zero => omega
  | succ k ih =>
    unfold maxId
    rw [List.getElem?_eq_getElem (show k < B.length by omega)]
    simp only []
    by_cases he : i = k
    · subst he
      rw [List.getElem?_eq_getElem (show i < B.length by omega)] at h
      have hc' := Option.some.inj h
      rw [hc']
      omega
    · have := ih (by omega) (by omega)
      omega
theorem maxId_new {B : List Cs} (h : ∀ c ∈ B, c.id ≤ 1000000) : (B.any fun d => d.id == maxId B B.length) = false := by
  rw [List.any_eq_false]
  intro c hc he
  obtain ⟨i, hi⟩ := List.getElem?_of_mem hc
  have := maxId_gt (List.getElem?_eq_some_iff.1 hi).1 (Nat.le_refl _) hi (h c hc)
  simp only [beq_iff_eq] at he
  omega
theorem cons_with {D : List Dm} {B : List Cs} {al : List Int} {i : Int} (h : (consD D B).2.2 = true) (ha : inD D al = true) (hi : (B.any fun d => d.id == i) = false) : (consD D (B ++ [⟨i, al, true⟩])).2.2 = !sideB D B al false ∧ (consD D (B ++ [⟨i, al, false⟩])).2.2 = !sideB D B al true := by
  have hck := consD_chk h
  have hn := (consD_is hck).1 h
  have hc : ∀ g, checkD D (B ++ [⟨i, al, g⟩]) = true := fun g => by rw [check_snoc, hck, ha, hi]; rfl
  constructor
  · rw [Bool.eq_iff_iff, consD_is (hc true), conf_true i hn]
    simp
  · rw [Bool.eq_iff_iff, consD_is (hc false), conf_false i hn]
    simp
end Go.Proofs.YtgmjcgjbbogefaaGreat


/- What is forced when a vector grows, a base is turned or loses its first case: plain laws. -/
namespace Go.Proofs.YtgmjcgjbbogefaaGreat
open Go.RowKit
set_option linter.unusedSimpArgs false
set_option linter.unusedVariables false
theorem side_up {D : List Dm} {B : List Cs} {x y : List Int} (h : checkD D B = true) (hx : inD D x = true) (hy : inD D y = true) (hb : belowD D x y = true) (hs : sideB D B x true = true) : sideB D B y true = true := by
  obtain ⟨hr, hv⟩ := check_in h
  obtain ⟨c, hc, hg, h3⟩ := side_true.1 hs
  rw [blk_below hr (hv c hc) hx] at h3
  refine side_true.2 ⟨c, hc, hg, ?_⟩
  rw [blk_below hr (hv c hc) hy]
  exact below_trans hr (hv c hc) hx hy h3 hb
theorem side_down {D : List Dm} {B : List Cs} {x y : List Int} (h : checkD D B = true) (hx : inD D x = true) (hy : inD D y = true) (hb : belowD D x y = true) (hs : sideB D B y false = true) : sideB D B x false = true := by
  obtain ⟨hr, hv⟩ := check_in h
  obtain ⟨c, hc, hg, h3⟩ := side_false.1 hs
  rw [blk_below hr hy (hv c hc)] at h3
  refine side_false.2 ⟨c, hc, hg, ?_⟩
  rw [blk_below hr hx (hv c hc)]
  exact below_trans hr hx hy (hv c hc) hb h3
/-- What the numbers of the outcomes say. -/
def whatS (t f : Bool) : Int := if t = true then (if f = true then 3 else 1) else (if f = true then 2 else 0)
theorem whatD_S (D : List Dm) (B : List Cs) (x : List Int) : whatD D B x = whatS (sideB D B x true) (sideB D B x false) := rfl
/-- Cells of cases, read in a world. -/
def Cel (w : World) (ys : List Value) (L : List Cs) : Prop := ys.length = L.length * 3 ∧ ∀ (i : Nat) (d : Cs), L[i]? = some d → ∃ v, ys[i * 3]? = some (.int .i64 d.id) ∧ ys[i * 3 + 1]? = some v ∧ ys[i * 3 + 2]? = some (.bool d.grant) ∧ IntsV w v d.vals
theorem Cel.snoc {w : World} {ys : List Value} {L : List Cs} {v : Value} {d : Cs} (h : Cel w ys L) (hv : IntsV w v d.vals) : Cel w (ys ++ [.int .i64 d.id, v, .bool d.grant]) (L ++ [d]) := by
  obtain ⟨h1, h2⟩ := h
  refine ⟨by simp [h1]; omega, fun i d' hd => ?_⟩
  by_cases hi : i < L.length
  · rw [List.getElem?_append_left hi] at hd
    obtain ⟨v, e1, e2, e3, e4⟩ := h2 i d' hd
    exact ⟨v, by rw [List.getElem?_append_left (by omega)]; exact e1, by rw [List.getElem?_append_left (by omega)]; exact e2, by rw [List.getElem?_append_left (by omega)]; exact e3, e4⟩
  · rw [List.getElem?_append_right (by omega)] at hd
    obtain ⟨hi2, rfl⟩ : i - L.length = 0 ∧ d = d' := by
      cases hq : i - L.length with
      | zero => rw [hq] at hd; simp at hd; exact ⟨rfl, hd⟩
      | succ q => rw [hq] at hd; simp at hd
    obtain rfl : i = L.length := by omega
    refine ⟨v, ?_, ?_, ?_, hv⟩
    · rw [List.getElem?_append_right (by omega), h1, Nat.sub_self]; rfl
    · rw [List.getElem?_append_right (by omega), h1, show L.length * 3 + 1 - L.length * 3 = 1 by omega]; rfl
    · rw [List.getElem?_append_right (by omega), h1, show L.length * 3 + 2 - L.length * 3 = 2 by omega]; rfl
theorem Cel.cases {w w' : World} {ys : List Value} {L : List Cs} {S : Nat → Prop} {ro : Option Addr} {n rc : Nat} (h : Cel w ys L) (hn : L.length = n) (hid : ∀ x ∈ L, I64 x.id) (he : Exts w w') (hr : RowF S 3 w' (.slice ro n rc) n ys) : Cases S w' ro n rc L :=
  ⟨hn, hid, ys, hr, fun i d hd => let ⟨v, e1, e2, e3, e4⟩ := h.2 i d hd; ⟨v, e1, e2, e3, e4.exts he⟩⟩
/-- A part of a base. -/
theorem Cases.part {S : Nat → Prop} {w : World} {bo : Option Addr} {n c : Nat} {B : List Cs} (h : Cases S w bo n c B) (lo m cap' : Nat) (hlo : lo + m ≤ n) (hm : m ≤ cap') (hcap : cap' ≤ maxLen) (bo' : Option Addr) (h0 : bo' = none → cap' = 0) (hao : ∀ b off, bo = some ⟨b, off, none⟩ → 0 < m → bo' = some ⟨b, off + lo * 3, none⟩) : Cases S w bo' m cap' ((B.drop lo).take m) := by
  obtain ⟨h1, hi0, xs, h2, h3⟩ := h
  refine ⟨by rw [List.length_take, List.length_drop, h1]; omega, fun x hx => hi0 x (List.mem_of_mem_drop (List.mem_of_mem_take hx)), _, h2.part lo m cap' hlo hm hcap bo' h0 hao, fun i d hd => ?_⟩
  rw [List.getElem?_take] at hd
  split at hd
  · rename_i hi
    rw [List.getElem?_drop] at hd
    obtain ⟨v, e1, e2, e3, e4⟩ := h3 _ d hd
    refine ⟨v, ?_, ?_, ?_, e4⟩
    · rw [List.getElem?_take_of_lt (by omega), List.getElem?_drop, ← Nat.add_mul]; exact e1
    · rw [List.getElem?_take_of_lt (by omega), List.getElem?_drop, ← Nat.add_assoc, ← Nat.add_mul]; exact e2
    · rw [List.getElem?_take_of_lt (by omega), List.getElem?_drop, ← Nat.add_assoc, ← Nat.add_mul]; exact e3
  · cases hd
end Go.Proofs.YtgmjcgjbbogefaaGreat


/- The example of the laws of chapter 39: two dimensions of three values, and two cases. Plain. -/
namespace Go.Proofs.YtgmjcgjbbogefaaGreat
open Go.RowKit
set_option linter.unusedSimpArgs false
set_option linter.unusedVariables false

theorem wk_in12 {f : Rel} {lo : Nat} : ∀ {n a b : Nat}, Wk f lo n a b → n = 0 ∨ b < 12
  | 0, _, _, _ => .inl rfl
  | n + 1, a, b, ⟨c, _, hc, _, h⟩ => by
    right
    rcases wk_in12 h with rfl | h2
    · have : c = b := h
      omega
    · exact h2
theorem clR_eq {f g : Rel} (hb : Between f g) (hc : Closed g) (hf : ∀ a b, f a b = true → a < 12) (hg : ∀ a b, g a b = true → a < 12 ∧ b < 12) : clR f = g := by
  funext a b
  by_cases h : a < 12 ∧ b < 12
  · exact clR_at hb hc h.1 h.2
  · rw [Bool.eq_iff_iff]
    constructor
    · intro hr
      obtain ⟨n, hn⟩ := clR_iff.1 hr
      have hb12 : b < 12 := by
        rcases wk_in12 hn with h0 | h0
        · omega
        · exact h0
      obtain ⟨c, _, _, h1, _⟩ := hn
      exact absurd ⟨hf a c h1, hb12⟩ h
    · intro hr
      exact absurd (hg a b hr) h
def tabR (l : List (Nat × Nat)) : Rel := fun a b => l.any fun p => p.1 == a && p.2 == b
theorem tab_in {l : List (Nat × Nat)} (h : l.all (fun p => decide (p.1 < 12) && decide (p.2 < 12)) = true) {a b : Nat} (hr : tabR l a b = true) : a < 12 ∧ b < 12 := by
  simp only [tabR, List.any_eq_true, Bool.and_eq_true, beq_iff_eq] at hr
  obtain ⟨p, hp, rfl, rfl⟩ := hr
  have := List.all_eq_true.1 h p hp
  simpa using this
theorem pair_in {ps : List Pr} (h : ps.all (prIn 12) = true) {a b : Nat} (hr : pairRel ps a b = true) : a < 12 := by
  simp only [pairRel, List.any_eq_true, Bool.and_eq_true, beq_iff_eq] at hr
  obtain ⟨p, hp, h1, h2⟩ := hr
  have := List.all_eq_true.1 h p hp
  simp only [prIn, Bool.and_eq_true, decide_eq_true_eq] at this
  omega
def closedT (l : List (Nat × Nat)) : Bool := l.all fun p => l.all fun q => !(p.2 == q.1) || l.any fun r => r.1 == p.1 && r.2 == q.2
theorem closedT_ok {l : List (Nat × Nat)} (h : closedT l = true) : Closed (tabR l) := by
  intro a b c _ _ _ h1 h2
  simp only [tabR, List.any_eq_true, Bool.and_eq_true, beq_iff_eq] at h1 h2 ⊢
  obtain ⟨p, hp, rfl, rfl⟩ := h1
  obtain ⟨q, hq, h3, rfl⟩ := h2
  have := List.all_eq_true.1 (List.all_eq_true.1 h p hp) q hq
  rw [show (p.2 == q.1) = true by simpa using h3.symm] at this
  simp only [Bool.not_true, Bool.false_or, List.any_eq_true, Bool.and_eq_true, beq_iff_eq] at this
  exact this
def walkB (f : Rel) (lo : Nat) : Nat → Nat → Nat → Bool
  | 0, a, b => a == b
  | n + 1, a, b => (List.range 12).any fun c => decide (lo ≤ c) && (f a c && walkB f lo n c b)
theorem walkB_iff {f : Rel} {lo : Nat} : ∀ {n a b : Nat}, walkB f lo n a b = true ↔ Wk f lo n a b
  | 0, a, b => by simp [walkB, Wk]
  | n + 1, a, b => by
    simp only [walkB, Wk, List.any_eq_true, List.mem_range, Bool.and_eq_true, decide_eq_true_eq]
    constructor
    · rintro ⟨c, h1, h2, h3, h4⟩
      exact ⟨c, h2, h1, h3, walkB_iff.1 h4⟩
    · rintro ⟨c, h1, h2, h3, h4⟩
      exact ⟨c, h2, h1, h3, walkB_iff.2 h4⟩
theorem between_tab {f : Rel} {l : List (Nat × Nat)} (h1 : ∀ a b, a < 12 → b < 12 → f a b = true → tabR l a b = true) (h2 : l.all (fun p => walkB f 0 1 p.1 p.2 || (walkB f 0 2 p.1 p.2 || (walkB f 0 3 p.1 p.2 || walkB f 0 4 p.1 p.2))) = true) : Between f (tabR l) := by
  refine ⟨h1, fun a b _ _ hr => ?_⟩
  simp only [tabR, List.any_eq_true, Bool.and_eq_true, beq_iff_eq] at hr
  obtain ⟨p, hp, rfl, rfl⟩ := hr
  have := List.all_eq_true.1 h2 p hp
  simp only [Bool.or_eq_true] at this
  rcases this with h | h | h | h
  · exact ⟨0, walkB_iff.1 h⟩
  · exact ⟨1, walkB_iff.1 h⟩
  · exact ⟨2, walkB_iff.1 h⟩
  · exact ⟨3, walkB_iff.1 h⟩
abbrev dmO : List Pr := [(0, 1), (1, 2)]
abbrev tabO : List (Nat × Nat) := [(0, 1), (1, 2), (0, 2)]
theorem lo_of {ps : List Pr} {l : List (Nat × Nat)} (h : ps.all (fun p => l.any fun q => p.1 == (q.1 : Int) && p.2 == (q.2 : Int)) = true) : ∀ a b, a < 12 → b < 12 → pairRel ps a b = true → tabR l a b = true := by
  intro a b _ _ hr
  simp only [pairRel, List.any_eq_true, Bool.and_eq_true, beq_iff_eq] at hr
  obtain ⟨p, hp, h1, h2⟩ := hr
  have := List.all_eq_true.1 h p hp
  simp only [List.any_eq_true, Bool.and_eq_true, beq_iff_eq] at this
  obtain ⟨q, hq, h3, h4⟩ := this
  simp only [tabR, List.any_eq_true, Bool.and_eq_true, beq_iff_eq]
  exact ⟨q, hq, by omega, by omega⟩
theorem clO : clR (pairRel dmO) = tabR tabO := clR_eq (between_tab (lo_of (by decide)) (by decide +kernel)) (closedT_ok (by decide +kernel)) (fun a b h => pair_in (by decide) h) (fun a b h => tab_in (by decide) h)
abbrev gO : Rel := diagR (tabR tabO) 3
theorem closedO : closedD 3 dmO = (gO, true) := by
  rw [closed_yes (by decide) (by rw [clO]; decide +kernel), clO]
  rfl
end Go.Proofs.YtgmjcgjbbogefaaGreat


/- PrecedentAdds returns true. No condition. -/
namespace Go.Proofs.YtgmjcgjbbogefaaGreat
open Go.RowKit
set_option linter.unusedSimpArgs false
set_option linter.unusedVariables false
/-- What a decision is that is held against a base: the outcome that is forced is the other one. -/
theorem clash_side {D : List Dm} {L : List Cs} {al : List Int} {g : Bool} : (L.any fun d => d.grant != g && forcesD D al d) = sideB D L al (!g) := by
  unfold sideB
  congr 1
  funext d
  cases d.grant <;> cases g <;> rfl
theorem conf_nil (D : List Dm) : ¬ conflicts D [] := by
  rintro ⟨c, hc, _⟩
  cases hc
theorem cons_snoc {D : List Dm} {L : List Cs} {c : Cs} (h : checkD D L = true) (hn : ¬ conflicts D L) (ha : inD D c.vals = true) (hi : (L.any fun d => d.id == c.id) = false) (hs : sideB D L c.vals (!c.grant) = false) : ¬ conflicts D (L ++ [c]) ∧ (consD D (L ++ [c])).2.2 = true := by
  have hc := (consD_is h).2 hn
  have hck : checkD D (L ++ [c]) = true := by rw [check_snoc, h, ha, hi]; rfl
  obtain ⟨h1, h2⟩ := cons_with (i := c.id) hc ha hi
  have h3 : (consD D (L ++ [c])).2.2 = true := by
    obtain ⟨id, vs, gr⟩ := c
    cases gr with
    | true => rw [h1]; simp only [Bool.not_true] at hs; rw [hs]; rfl
    | false => rw [h2]; simp only [Bool.not_false] at hs; rw [hs]; rfl
  exact ⟨(consD_is hck).1 h3, h3⟩
theorem Cases.mono {S S' : Nat → Prop} {w : World} {bo : Option Addr} {n c : Nat} {B : List Cs} (h : Cases S w bo n c B) (hS : ∀ b, S b → S' b) : Cases S' w bo n c B :=
  let ⟨h1, h2, xs, h3, h4⟩ := h; ⟨h1, h2, xs, h3.mono hS, h4⟩
theorem cons_ex {X : Int × Int × Bool} (h : X.2.2 = true) : ∃ a b, X = (a, b, true) := by
  obtain ⟨a, b, c⟩ := X
  simp only at h
  subst h
  exact ⟨a, b, rfl⟩
set_option maxRecDepth 100000
set_option maxHeartbeats 16000000
end Go.Proofs.YtgmjcgjbbogefaaGreat

