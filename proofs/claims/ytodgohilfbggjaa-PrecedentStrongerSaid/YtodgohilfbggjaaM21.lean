/- Lemmas that the laws of this seat share, 3 texts in one: LawPre, OverLaw, StrongPre. No condition of their own. -/
import Derived.Test.YtodgohilfbggjaaM17
import Derived.Test.YtodgohilfbggjaaM4
import Derived.Test.YtodgohilfbggjaaM18
import Derived.Test.YtodgohilfbggjaaM19
/- What precedents force, and contradictions of a base: plain laws. -/
namespace Go.Proofs.Ytodgohilfbggjaa
open Go.RowKit
set_option linter.unusedSimpArgs false
set_option linter.unusedVariables false
theorem blk_below {D : List Dm} {a b : List Int} (hr : rightD D = true) (ha : inD D a = true) (hb : inD D b = true) : (blkD D a b).isEmpty = belowD D a b := by
  unfold blkD belowD blocksD
  rw [if_pos (vec_of hr ha hb), vec_of hr ha hb, Bool.true_and]
def conflicts (D : List Dm) (B : List Cs) : Prop := ∃ c, c ∈ B ∧ c.grant = true ∧ ∃ d, d ∈ B ∧ d.grant = false ∧ (blkD D c.vals d.vals).isEmpty = true
theorem consD_chk {D : List Dm} {B : List Cs} (h : (consD D B).2.2 = true) : checkD D B = true := by
  unfold consD at h
  split at h
  · assumption
  · cases h
theorem outC_is (o : Option (Nat × Nat)) : (outC o).2.2 = o.isNone := by
  match o with
  | none => rfl
  | some (i, k) => rfl
theorem consD_is {D : List Dm} {B : List Cs} (h : checkD D B = true) : (consD D B).2.2 = true ↔ ¬ conflicts D B := by
  unfold consD
  rw [if_pos h, outC_is, Option.isNone_iff_eq_none]
  constructor
  · rintro hn ⟨c, hc, hg, d, hd, hdg, he⟩
    unfold conFind at hn
    rw [List.findSome?_eq_none_iff] at hn
    obtain ⟨i, hi⟩ := List.getElem?_of_mem hc
    obtain ⟨k, hk⟩ := List.getElem?_of_mem hd
    have h1 := hn i (List.mem_range.2 (List.getElem?_eq_some_iff.1 hi).1)
    rw [Option.map_eq_none_iff] at h1
    unfold conRow at h1
    rw [hi] at h1
    simp only [hg, if_true] at h1
    unfold hitF at h1
    rw [List.find?_eq_none] at h1
    have h2 := h1 k (List.mem_range.2 (List.getElem?_eq_some_iff.1 hk).1)
    rw [hitI_of hk, hdg, he] at h2
    exact h2 rfl
  · intro hn
    refine conFind_none fun j hj => ?_
    unfold conRow
    rw [List.getElem?_eq_getElem hj]
    simp only []
    split
    · rename_i hg
      unfold hitF
      rw [List.find?_eq_none]
      intro k hk hh
      have hk := List.mem_range.1 hk
      rw [hitI_of (List.getElem?_eq_getElem hk)] at hh
      simp only [Bool.and_eq_true, Bool.not_eq_true'] at hh
      exact hn ⟨B[j], List.getElem_mem hj, hg, B[k], List.getElem_mem hk, hh.1, hh.2⟩
    · rfl
theorem side_true {D : List Dm} {B : List Cs} {al : List Int} : sideB D B al true = true ↔ ∃ c, c ∈ B ∧ c.grant = true ∧ (blkD D c.vals al).isEmpty = true := by
  simp only [sideB, List.any_eq_true, Bool.and_eq_true, beq_iff_eq, forcesD, keepsD]
  constructor
  · rintro ⟨c, hc, hg, h⟩
    rw [if_pos hg] at h
    exact ⟨c, hc, hg, h⟩
  · rintro ⟨c, hc, hg, h⟩
    exact ⟨c, hc, hg, by rw [if_pos hg]; exact h⟩
theorem side_false {D : List Dm} {B : List Cs} {al : List Int} : sideB D B al false = true ↔ ∃ c, c ∈ B ∧ c.grant = false ∧ (blkD D al c.vals).isEmpty = true := by
  simp only [sideB, List.any_eq_true, Bool.and_eq_true, beq_iff_eq, forcesD, keepsD]
  constructor
  · rintro ⟨c, hc, hg, h⟩
    rw [hg, if_neg (by decide)] at h
    exact ⟨c, hc, hg, h⟩
  · rintro ⟨c, hc, hg, h⟩
    exact ⟨c, hc, hg, by rw [hg, if_neg (by decide)]; exact h⟩
theorem check_in {D : List Dm} {B : List Cs} (h : checkD D B = true) : rightD D = true ∧ ∀ c ∈ B, inD D c.vals = true := by
  simp only [checkD, Bool.and_eq_true, List.all_eq_true] at h
  exact ⟨h.1, h.2.1⟩
/-- What would clash is a contradiction of the base. -/
theorem side_conf {D : List Dm} {B : List Cs} {al : List Int} (h : checkD D B = true) (ha : inD D al = true) (h1 : sideB D B al true = true) (h2 : sideB D B al false = true) : conflicts D B := by
  obtain ⟨hr, hv⟩ := check_in h
  obtain ⟨c, hc, hg, h3⟩ := side_true.1 h1
  obtain ⟨d, hd, hdg, h4⟩ := side_false.1 h2
  rw [blk_below hr (hv c hc) ha] at h3
  rw [blk_below hr ha (hv d hd)] at h4
  refine ⟨c, hc, hg, d, hd, hdg, ?_⟩
  rw [blk_below hr (hv c hc) (hv d hd)]
  exact below_trans hr (hv c hc) ha (hv d hd) h3 h4
theorem check_snoc (D : List Dm) (B : List Cs) (c : Cs) : checkD D (B ++ [c]) = (checkD D B && (inD D c.vals && !(B.any fun d => d.id == c.id))) := by
  rw [Bool.eq_iff_iff]
  simp only [checkD, Bool.and_eq_true, List.all_append, List.all_cons, List.all_nil, List.map_append, List.map_cons, List.map_nil, decide_eq_true_eq, List.nodup_append, Bool.not_eq_true', List.any_eq_false, Bool.and_true, beq_iff_eq]
  constructor
  · rintro ⟨h1, ⟨h2, h3⟩, h4, _, h5⟩
    refine ⟨⟨h1, h2, h4⟩, h3, fun d hd he => ?_⟩
    exact h5 d.id (List.mem_map_of_mem hd) c.id (by simp) he
  · rintro ⟨⟨h1, h2, h4⟩, h3, h5⟩
    refine ⟨h1, ⟨h2, h3⟩, h4, by simp, fun a ha b hb he => ?_⟩
    obtain ⟨d, hd, rfl⟩ := List.mem_map.1 ha
    simp at hb
    exact h5 d hd (he.trans hb)
theorem conf_true {D : List Dm} {B : List Cs} {al : List Int} (i : Int) (h : ¬ conflicts D B) : conflicts D (B ++ [⟨i, al, true⟩]) ↔ sideB D B al false = true := by
  rw [side_false]
  constructor
  · rintro ⟨c, hc, hg, d, hd, hdg, he⟩
    have hd' : d ∈ B := by
      rcases List.mem_append.1 hd with hd | hd
      · exact hd
      · simp at hd; rw [hd] at hdg; cases hdg
    rcases List.mem_append.1 hc with hc | hc
    · exact absurd ⟨c, hc, hg, d, hd', hdg, he⟩ h
    · simp at hc
      rw [hc] at he
      exact ⟨d, hd', hdg, he⟩
  · rintro ⟨d, hd, hdg, he⟩
    exact ⟨_, List.mem_append_right _ (List.mem_singleton.2 rfl), rfl, d, List.mem_append_left _ hd, hdg, he⟩
theorem conf_false {D : List Dm} {B : List Cs} {al : List Int} (i : Int) (h : ¬ conflicts D B) : conflicts D (B ++ [⟨i, al, false⟩]) ↔ sideB D B al true = true := by
  rw [side_true]
  constructor
  · rintro ⟨c, hc, hg, d, hd, hdg, he⟩
    have hc' : c ∈ B := by
      rcases List.mem_append.1 hc with hc | hc
      · exact hc
      · simp at hc; rw [hc] at hg; cases hg
    rcases List.mem_append.1 hd with hd | hd
    · exact absurd ⟨c, hc', hg, d, hd, hdg, he⟩ h
    · simp at hd
      rw [hd] at he
      exact ⟨c, hc', hg, he⟩
  · rintro ⟨c, hc, hg, he⟩
    exact ⟨c, List.mem_append_left _ hc, hg, _, List.mem_append_right _ (List.mem_singleton.2 rfl), rfl, he⟩
theorem maxId_gt {B : List Cs} {k i : Nat} {c : Cs} (hi : i < k) (hk : k ≤ B.length) (h : B[i]? = some c) (hc : c.id ≤ 1000000) : c.id < maxId B k := by
  induction k with
  | zero => omega
  | succ k ih =>
    unfold maxId
    rw [List.getElem?_eq_getElem (show k < B.length by omega)]
    simp only []
    by_cases he : i = k
    · subst he
      rw [List.getElem?_eq_getElem (show i < B.length by omega)] at h
      have hc' := Option.some.inj h
      rw [hc']
      omega
    · have := ih (by omega) (by omega)
      omega
theorem maxId_new {B : List Cs} (h : ∀ c ∈ B, c.id ≤ 1000000) : (B.any fun d => d.id == maxId B B.length) = false := by
  rw [List.any_eq_false]
  intro c hc he
  obtain ⟨i, hi⟩ := List.getElem?_of_mem hc
  have := maxId_gt (List.getElem?_eq_some_iff.1 hi).1 (Nat.le_refl _) hi (h c hc)
  simp only [beq_iff_eq] at he
  omega
theorem cons_with {D : List Dm} {B : List Cs} {al : List Int} {i : Int} (h : (consD D B).2.2 = true) (ha : inD D al = true) (hi : (B.any fun d => d.id == i) = false) : (consD D (B ++ [⟨i, al, true⟩])).2.2 = !sideB D B al false ∧ (consD D (B ++ [⟨i, al, false⟩])).2.2 = !sideB D B al true := by
  have hck := consD_chk h
  have hn := (consD_is hck).1 h
  have hc : ∀ g, checkD D (B ++ [⟨i, al, g⟩]) = true := fun g => by rw [check_snoc, hck, ha, hi]; rfl
  constructor
  · rw [Bool.eq_iff_iff, consD_is (hc true), conf_true i hn]
    simp
  · rw [Bool.eq_iff_iff, consD_is (hc false), conf_false i hn]
    simp
theorem by_some {D : List Dm} {B : List Cs} {l : List Int} {s : Bool} (h : sideB D B l s = true) : 0 < (byK D B l B.length).length := by
  simp only [sideB, List.any_eq_true, Bool.and_eq_true, beq_iff_eq] at h
  obtain ⟨c, hc, _, hf⟩ := h
  obtain ⟨i, hi⟩ := List.getElem?_of_mem hc
  have hm : (i : Int) ∈ byK D B l B.length := by
    unfold byK
    refine List.mem_map.2 ⟨i, List.mem_filter.2 ⟨List.mem_range.2 (List.getElem?_eq_some_iff.1 hi).1, ?_⟩, rfl⟩
    rw [forI_of hi]
    exact hf
  exact List.length_pos_of_mem hm
end Go.Proofs.Ytodgohilfbggjaa

/- PrecedentOverrule returns true. No condition. -/
namespace Go.Proofs.Ytodgohilfbggjaa
open Go.RowKit
set_option linter.unusedSimpArgs false
set_option linter.unusedVariables false
theorem check_take {D : List Dm} {B : List Cs} (h : checkD D B = true) (k : Nat) : checkD D (B.take k) = true := by
  simp only [checkD, Bool.and_eq_true, List.all_eq_true, decide_eq_true_eq] at h ⊢
  obtain ⟨h1, h2, h3⟩ := h
  refine ⟨h1, fun c hc => h2 c (List.mem_of_mem_take hc), ?_⟩
  exact ((List.take_sublist k B).map Cs.id).nodup h3
theorem check_erase {D : List Dm} {B : List Cs} (h : checkD D B = true) (k : Nat) : checkD D (B.eraseIdx k) = true := by
  simp only [checkD, Bool.and_eq_true, List.all_eq_true, decide_eq_true_eq] at h ⊢
  obtain ⟨h1, h2, h3⟩ := h
  refine ⟨h1, fun c hc => h2 c (List.mem_of_mem_eraseIdx hc), ?_⟩
  exact ((List.eraseIdx_sublist B k).map Cs.id).nodup h3
theorem forD_ok {D : List Dm} {B : List Cs} {l : List Int} (h : checkD D B = true) (hl : inD D l = true) : forD D B l = (whatD D B l, byK D B l B.length, 0) := by
  unfold forD
  rw [h, hl]
  rfl
theorem ovrK_prefix (D : List Dm) (B : List Cs) (i : Nat) {k n : Nat} (h : k ≤ n) : ovrK D B i k <+: ovrK D B i n := by
  unfold ovrK
  refine List.IsPrefix.map _ ?_
  obtain ⟨d, rfl⟩ := Nat.exists_eq_add_of_le h
  rw [List.range_add, List.filter_append]
  exact List.prefix_append _ _
theorem ovrK_at {D : List Dm} {B : List Cs} {i k n : Nat} (h : k < n) (hs : ovrK D B i (k + 1) = ovrK D B i k ++ [(k : Int)]) : (ovrK D B i n)[(ovrK D B i k).length]? = some (k : Int) := by
  have h2 := ovrK_prefix D B i (show k + 1 ≤ n from h)
  rw [hs] at h2
  obtain ⟨t, ht⟩ := h2
  rw [← ht, List.append_assoc, List.getElem?_append_right (Nat.le_refl _), Nat.sub_self]
  rfl
set_option maxRecDepth 100000
set_option maxHeartbeats 4000000
theorem overrule6 {S S1 : Nat → Prop} (lo bo : Option Addr) (n1 c1 n c : Nat) (D : List Dm) (B : List Cs) (at' : Int) (w : World) (hd : Dims S w lo n1 c1 D) (hb : Cases S1 w bo n c B) :
    Calls Try.prog 6 #[.slice lo n1 c1, .slice bo n c, .int .i64 at'] w fun e w' => e = .returned (.bool true) ∧ Exts w w' := by
  have HL := Lib.hid hb.1
  have HD := Lib.hid hd
  have HB := Lib.hid hb
  have hcc := (RowF.caps hb.2.2.choose_spec.1)
  unfold maxLen at hcc
  obtain ⟨hcc1, hcc4⟩ := hcc
  clear hd hb
  cases hfew : fewBD D B with
  | false =>
    have HFEW := Lib.hid hfew
    clear hfew
    go_enter Try.func6, Try.ntmps6
    go_wp2_with (first | (go_at_call 9; ((with_reducible refine (small9 _).mono ?_); rintro e w' ⟨rfl, x0, rfl⟩)) | (go_at_call 10; ((with_reducible refine (refFew10 _ _ _ _ _ _ D B _ _ (HD.out.exts (by repeat (first | exact Exts.refl _ | apply Exts.andR | apply Exts.alloc | apply Exts.wext | apply Exts.drew | apply Exts.drewN))) (HB.out.exts (by repeat (first | exact Exts.refl _ | apply Exts.andR | apply Exts.alloc | apply Exts.wext | apply Exts.drew | apply Exts.drewN))) HFEW.out).mono ?_); rintro e w' ⟨rfl, x1, rfl⟩)))
    go_ret
    exact ⟨rfl, (by repeat (first | exact Exts.refl _ | apply Exts.andR | apply Exts.alloc | apply Exts.wext | apply Exts.drew | apply Exts.drewN))⟩
  | true =>
    have HFEW := Lib.hid hfew
    have hn16 : n ≤ 16 := by have := (few_le hfew).2.1; rw [HL.out] at this; exact this
    have hn : n ≤ 2000 := by omega
    have hn1 : n ≤ 100 := by omega
    clear hfew
    cases hck : checkD D B with
    | false =>
      have HCK := Lib.hid hck
      clear hck
      go_enter Try.func6, Try.ntmps6
      go_wp2_with (first | (go_at_call 9; ((with_reducible refine (small9 _).mono ?_); rintro e w' ⟨rfl, x0, rfl⟩)) | (go_at_call 10; ((with_reducible refine (refFew10 _ _ _ _ _ _ D B _ _ (HD.out.exts (by repeat (first | exact Exts.refl _ | apply Exts.andR | apply Exts.alloc | apply Exts.wext | apply Exts.drew | apply Exts.drewN))) (HB.out.exts (by repeat (first | exact Exts.refl _ | apply Exts.andR | apply Exts.alloc | apply Exts.wext | apply Exts.drew | apply Exts.drewN))) HFEW.out).mono ?_); rintro e w' ⟨rfl, x1, rfl⟩)) | (go_at_call 24; ((with_reducible refine (right24 _ _ _ _ _ _ D B _ _ (HD.out.exts (by repeat (first | exact Exts.refl _ | apply Exts.andR | apply Exts.alloc | apply Exts.wext | apply Exts.drew | apply Exts.drewN))) (HB.out.exts (by repeat (first | exact Exts.refl _ | apply Exts.andR | apply Exts.alloc | apply Exts.wext | apply Exts.drew | apply Exts.drewN))) hn HCK.out).mono ?_); rintro e w' ⟨rfl, x2, rfl⟩)))
      go_ret
      exact ⟨rfl, (by repeat (first | exact Exts.refl _ | apply Exts.andR | apply Exts.alloc | apply Exts.wext | apply Exts.drew | apply Exts.drewN))⟩
    | true =>
      have HCK := Lib.hid hck
      by_cases h0 : at' < 0
      · have q0 : decide (at' < 0) = true := by simpa using h0
        clear h0 hck
        go_enter Try.func6, Try.ntmps6
        go_wp2_with (first | (go_at_call 9; ((with_reducible refine (small9 _).mono ?_); rintro e w' ⟨rfl, x0, rfl⟩)) | (go_at_call 10; ((with_reducible refine (refFew10 _ _ _ _ _ _ D B _ _ (HD.out.exts (by repeat (first | exact Exts.refl _ | apply Exts.andR | apply Exts.alloc | apply Exts.wext | apply Exts.drew | apply Exts.drewN))) (HB.out.exts (by repeat (first | exact Exts.refl _ | apply Exts.andR | apply Exts.alloc | apply Exts.wext | apply Exts.drew | apply Exts.drewN))) HFEW.out).mono ?_); rintro e w' ⟨rfl, x1, rfl⟩)) | (go_at_call 24; ((with_reducible refine (right24 _ _ _ _ _ _ D B _ _ (HD.out.exts (by repeat (first | exact Exts.refl _ | apply Exts.andR | apply Exts.alloc | apply Exts.wext | apply Exts.drew | apply Exts.drewN))) (HB.out.exts (by repeat (first | exact Exts.refl _ | apply Exts.andR | apply Exts.alloc | apply Exts.wext | apply Exts.drew | apply Exts.drewN))) hn HCK.out).mono ?_); rintro e w' ⟨rfl, x2, rfl⟩)))
        go_ret
        exact ⟨rfl, (by repeat (first | exact Exts.refl _ | apply Exts.andR | apply Exts.alloc | apply Exts.wext | apply Exts.drew | apply Exts.drewN))⟩
      · have q0 : decide (at' < 0) = false := by simpa using h0
        by_cases h1 : at' < (n : Int)
        · obtain ⟨i, rfl⟩ := Int.eq_ofNat_of_zero_le (show 0 ≤ at' by omega)
          have hin : i < n := by omega
          have q1 : decide ((n : Int) ≤ (i : Int)) = false := by simp; omega
          have hwr : IntKind.i64.wrap ((i : Int) + 1) = (i : Int) + 1 := by rw [IntKind.wrap_i64] <;> omega
          obtain ⟨ol, hol⟩ : ∃ l, ovrK D B i n = l := ⟨_, rfl⟩
          obtain ⟨om, hom⟩ : ∃ m, ol.length = m := ⟨_, rfl⟩
          have HOR := Lib.hid (show ovrD D B (i : Int) = (ol, 0) by unfold ovrD; rw [hck, HL.out, ← hol]; simp; omega)
          have HOM := Lib.hid hom
          have HOL := Lib.hid hol
          have HV := Lib.hid (check_vecs hck)
          have hom2 : om ≤ n := by rw [← hom, ← hol]; exact ovrK_len _ _ _ _
          clear h0 h1 hom hol
          go_enter Try.func6, Try.ntmps6
          go_wp2_with (first | (go_at_call 9; ((with_reducible refine (small9 _).mono ?_); rintro e w' ⟨rfl, x0, rfl⟩)) | (go_at_call 10; ((with_reducible refine (refFew10 _ _ _ _ _ _ D B _ _ (HD.out.exts (by repeat (first | exact Exts.refl _ | apply Exts.andR | apply Exts.alloc | apply Exts.wext | apply Exts.drew | apply Exts.drewN))) (HB.out.exts (by repeat (first | exact Exts.refl _ | apply Exts.andR | apply Exts.alloc | apply Exts.wext | apply Exts.drew | apply Exts.drewN))) HFEW.out).mono ?_); rintro e w' ⟨rfl, x1, rfl⟩)) | (go_at_call 24; ((with_reducible refine (right24 _ _ _ _ _ _ D B _ _ (HD.out.exts (by repeat (first | exact Exts.refl _ | apply Exts.andR | apply Exts.alloc | apply Exts.wext | apply Exts.drew | apply Exts.drewN))) (HB.out.exts (by repeat (first | exact Exts.refl _ | apply Exts.andR | apply Exts.alloc | apply Exts.wext | apply Exts.drew | apply Exts.drewN))) hn HCK.out).mono ?_); rintro e w' ⟨rfl, x2, rfl⟩)) | (go_at_call 19; ((with_reducible refine (over19_R _ _ _ _ _ _ D B _ _ _ _ _ (HD.out.exts (by repeat (first | exact Exts.refl _ | apply Exts.andR | apply Exts.alloc | apply Exts.wext | apply Exts.drew | apply Exts.drewN))) (HB.out.exts (by repeat (first | exact Exts.refl _ | apply Exts.andR | apply Exts.alloc | apply Exts.wext | apply Exts.drew | apply Exts.drewN))) hn1 HOR.out HOM.out).mono ?_); rintro e w' ⟨fo, fc, rfl, ⟨x3, rfl⟩, hf⟩; (try simp only [wext_and] at hf); (have HF := Lib.hid hf); clear hf)))
          refine wp_name ?_
          intro W hW
          have hX : Exts w W := by rw [hW]; exact (by repeat (first | exact Exts.refl _ | apply Exts.andR | apply Exts.alloc | apply Exts.wext | apply Exts.drew | apply Exts.drewN))
          have HX := Lib.hid hX
          have HDW := Lib.hid (HD.out.exts hX)
          have HBW := Lib.hid (HB.out.exts hX)
          have HFW := Lib.hid (show Ints _ W fo om fc ol by rw [hW]; exact RowF.exts HF.out (by repeat (first | exact Exts.refl _ | apply Exts.andR | apply Exts.alloc | apply Exts.wext | apply Exts.drew | apply Exts.drewN)))
          clear hW hX HF HB HD
          go_loopw [10, 11] (fun o j wr => ∃ (k m : Nat), i < k ∧ k ≤ n ∧ j = .int .i64 k ∧ o = .int .i64 m ∧ (ovrK D B i k).length = m ∧ Exts W wr) (fun _ j _ => n - (intOf j).toNat)
          case atStart => exact ⟨i + 1, 0, by omega, by omega, by go_num, rfl, by rw [ovrK_start]; rfl, Exts.refl _⟩
          case round =>
            obtain ⟨k, m, hik, hk, rfl, rfl, hmk, hx⟩ := hrel
            have HX2 := Lib.hid hx
            have HMK := Lib.hid hmk
            have hmle := ovrK_len D B i k
            rw [hmk] at hmle
            by_cases hlt : k < n
            · obtain ⟨b, off, id, vs, gr, vo, vc, rfl, lb, hc, e0, e1, e2, hvs, hid⟩ := (HBW.out.exts hx).get hlt
              have HC := Lib.hid hc
              have HVS := Lib.hid hvs
              have hiv : inD D vs = true := HV.out _ (List.mem_of_getElem? hc)
              have KD := Lib.hid (HDW.out.exts hx)
              have KB := Lib.hid ((HBW.out.exts hx).take hk)
              have htl : (B.take k).length = k := by rw [List.length_take, HL.out]; omega
              have hel : ((B.take k).eraseIdx i).length = k - 1 := by rw [List.length_eraseIdx, htl, if_pos hik]
              obtain ⟨wh1, hw1⟩ : ∃ x, whatD D (B.take k) vs = x := ⟨_, rfl⟩
              obtain ⟨wh2, hw2⟩ : ∃ x, whatD D ((B.take k).eraseIdx i) vs = x := ⟨_, rfl⟩
              obtain ⟨by1, hy1⟩ : ∃ x, byK D (B.take k) vs k = x := ⟨_, rfl⟩
              obtain ⟨by2, hy2⟩ : ∃ x, byK D ((B.take k).eraseIdx i) vs (k - 1) = x := ⟨_, rfl⟩
              obtain ⟨bm1, hb1⟩ : ∃ x, by1.length = x := ⟨_, rfl⟩
              obtain ⟨bm2, hb2⟩ : ∃ x, by2.length = x := ⟨_, rfl⟩
              have HN := Lib.hid (ovrK_next (D := D) hik hc)
              have HLO := Lib.hid (show lostC D B i k ⟨id, vs, gr⟩ = ((wh1 == wantC gr) && !(wh2 == wantC gr)) by unfold lostC; rw [← hw1, ← hw2])
              have HR1 := Lib.hid (show forD D (B.take k) vs = (wh1, by1, 0) by rw [forD_ok (check_take hck k) hiv, htl, hw1, hy1])
              have HR2 := Lib.hid (show forD D ((B.take k).eraseIdx i) vs = (wh2, by2, 0) by rw [forD_ok (check_erase (check_take hck k) i) hiv, hel, hw2, hy2])
              have HM1 := Lib.hid hb1
              have HM2 := Lib.hid hb2
              have i1 : (0 : Int) ≤ (k : Int) := by omega
              have i2 : (k : Int) < (n : Int) := by omega
              have i3 : (k : Int) ≤ (c : Int) := by omega
              have hk2 : k ≤ 2000 := by omega
              have hk3 : k - 1 ≤ 2000 := by omega
              have hk4 : k ≤ 100 := by omega
              have r0 : ∀ w', Exts wr w' → w'.cell? ⟨b, off + k * 3 + 1, none⟩ = some (.slice vo vs.length vc) := all_at (Exts.refl _) e1
              clear hc hvs hid hw1 hw2 hy1 hy2 hb1 hb2 hx hmk hiv htl hel hck
              obtain ⟨wt, hwt⟩ : ∃ x, wantC gr = x := ⟨_, rfl⟩
              obtain ⟨r1, hr1⟩ : ∃ r, (wh1 == wt) = r := ⟨_, rfl⟩
              obtain ⟨r2, hr2⟩ : ∃ r, (wh2 == wt) = r := ⟨_, rfl⟩
              have hr3 : (wh2 != wt) = !r2 := by rw [← hr2]; rfl
              have HS0 := Lib.hid (show ovrK D B i (k + 1) = if (r1 && !r2) = true then ovrK D B i k ++ [(k : Int)] else ovrK D B i k by rw [HN.out, HLO.out, hwt, hr1, hr2])
              cases gr with
              | true =>
                obtain rfl : wt = 1 := by rw [← hwt]; rfl
                clear hwt
                go_wp2
                go_region_held3 (fun w' => Exts wr w') (first | assumption | exact (Exts.refl _).drew | exact (by repeat (first | exact Exts.refl _ | apply Exts.andR | apply Exts.alloc | apply Exts.wext | apply Exts.drew | apply Exts.drewN))) ((first | (go_at_call 11; (with_reducible refine (forced11_R _ _ _ _ _ _ _ _ _ D (B.take k) vs wh1 _ by1 bm1 _ (KD.out.exts (by assumption)) (KB.out.exts (by assumption)) (RowF.exts HVS.out (by assumption)) hk2 HR1.out HM1.out).mono ?_); rintro e w' ⟨ro, rc, rfl, ⟨x5, rfl⟩, hks⟩; clear hks)))

                all_goals
                  go_wp2
                  refine wp_name ?_
                  intro W3 hW3
                  have e13 : Exts wr W3 := by rw [hW3]; exact (by repeat (first | exact Exts.refl _ | apply Exts.andR | apply Exts.alloc | apply Exts.wext | apply Exts.drew | apply Exts.drewN))
                  have KD3 := Lib.hid (KD.out.exts e13)
                  have KB3 := Lib.hid (KB.out.exts e13)
                  have HVS3 := Lib.hid (RowF.exts HVS.out e13)
                  have r3 : ∀ w', Exts W3 w' → w'.cell? ⟨b, off + k * 3 + 1, none⟩ = some (.slice vo vs.length vc) := all_at e13 e1
                  have EX := Lib.hid e13
                  clear hW3 e13 r0
                  go_region_held3 (fun w' => Exts W3 w') (first | assumption | exact (Exts.refl _).drew | exact (by repeat (first | exact Exts.refl _ | apply Exts.andR | apply Exts.alloc | apply Exts.wext | apply Exts.drew | apply Exts.drewN))) ((first | (go_at_call 27; (refine Calls.mono (without27 _ k _ i (B.take k) _ (KB3.out.exts ?_) hik hk4) ?_); (first | assumption | exact (by repeat (first | exact Exts.refl _ | apply Exts.andR | apply Exts.alloc | apply Exts.wext | apply Exts.drew | apply Exts.drewN))); rintro e w' ⟨uo, uc, rfl, ⟨x6, rfl⟩, hwo⟩; (have HWO := Lib.hid hwo); clear hwo) | (go_at_call 11; (refine Calls.mono (forced11_R _ _ _ _ _ _ _ _ _ D ((B.take k).eraseIdx i) vs wh2 _ by2 bm2 _ (KD3.out.exts ?_) (HWO.out.exts ?_) (RowF.exts HVS3.out ?_) hk3 HR2.out HM2.out) ?_); (first | assumption | exact (by repeat (first | exact Exts.refl _ | apply Exts.andR | apply Exts.alloc | apply Exts.wext | apply Exts.drew | apply Exts.drewN))); (exact (by repeat (first | exact Exts.refl _ | apply Exts.andR | apply Exts.alloc | apply Exts.wext | apply Exts.drew | apply Exts.drewN))); (first | assumption | exact (by repeat (first | exact Exts.refl _ | apply Exts.andR | apply Exts.alloc | apply Exts.wext | apply Exts.drew | apply Exts.drewN))); rintro e w' ⟨ro2, rc2, rfl, ⟨x7, rfl⟩, hks⟩; clear hks)))

                all_goals
                  cases r1 with
                  | false =>
                    go_wp2
                    refine ⟨⟨k + 1, m, by omega, by omega, by go_num, rfl, by rw [HS0.out]; exact HMK.out, HX2.out.trans (EX.out.trans (by repeat (first | exact Exts.refl _ | apply Exts.andR | apply Exts.alloc | apply Exts.wext | apply Exts.drew | apply Exts.drewN)))⟩, ?_⟩
                    simp [intOf]; omega
                  | true =>
                    cases r2 with
                    | true =>
                      go_wp2
                      refine ⟨⟨k + 1, m, by omega, by omega, by go_num, rfl, by rw [HS0.out]; exact HMK.out, HX2.out.trans (EX.out.trans (by repeat (first | exact Exts.refl _ | apply Exts.andR | apply Exts.alloc | apply Exts.wext | apply Exts.drew | apply Exts.drewN)))⟩, ?_⟩
                      simp [intOf]; omega
                    | false =>
                      have hs : ovrK D B i (k + 1) = ovrK D B i k ++ [(k : Int)] := HS0.out
                      have hat := ovrK_at hlt hs
                      rw [HMK.out, HOL.out] at hat
                      have hmo : m < om := by rw [← HOM.out]; exact (List.getElem?_eq_some_iff.1 hat).1
                      obtain ⟨b5, off5, x5, rfl, lb5, hx5, e5⟩ := ints_get (RowF.exts HFW.out (HX2.out.trans EX.out)) hmo
                      rw [hat] at hx5
                      cases hx5
                      have q5 : decide ((om : Int) ≤ (m : Int)) = false := by simp; omega
                      have q6 : (m : Int) < (om : Int) := by omega
                      clear hs hat
                      go_wp2
                      refine ⟨⟨k + 1, m + 1, by omega, by omega, by go_num, by go_num, by rw [HS0.out]; simp [HMK.out], HX2.out.trans (EX.out.trans (by repeat (first | exact Exts.refl _ | apply Exts.andR | apply Exts.alloc | apply Exts.wext | apply Exts.drew | apply Exts.drewN)))⟩, ?_⟩
                      simp [intOf]; omega
              | false =>
                obtain rfl : wt = 2 := by rw [← hwt]; rfl
                clear hwt
                go_wp2
                go_region_held3 (fun w' => Exts wr w') (first | assumption | exact (Exts.refl _).drew | exact (by repeat (first | exact Exts.refl _ | apply Exts.andR | apply Exts.alloc | apply Exts.wext | apply Exts.drew | apply Exts.drewN))) ((first | (go_at_call 11; (with_reducible refine (forced11_R _ _ _ _ _ _ _ _ _ D (B.take k) vs wh1 _ by1 bm1 _ (KD.out.exts (by assumption)) (KB.out.exts (by assumption)) (RowF.exts HVS.out (by assumption)) hk2 HR1.out HM1.out).mono ?_); rintro e w' ⟨ro, rc, rfl, ⟨x5, rfl⟩, hks⟩; clear hks)))

                all_goals
                  go_wp2
                  refine wp_name ?_
                  intro W3 hW3
                  have e13 : Exts wr W3 := by rw [hW3]; exact (by repeat (first | exact Exts.refl _ | apply Exts.andR | apply Exts.alloc | apply Exts.wext | apply Exts.drew | apply Exts.drewN))
                  have KD3 := Lib.hid (KD.out.exts e13)
                  have KB3 := Lib.hid (KB.out.exts e13)
                  have HVS3 := Lib.hid (RowF.exts HVS.out e13)
                  have r3 : ∀ w', Exts W3 w' → w'.cell? ⟨b, off + k * 3 + 1, none⟩ = some (.slice vo vs.length vc) := all_at e13 e1
                  have EX := Lib.hid e13
                  clear hW3 e13 r0
                  go_region_held3 (fun w' => Exts W3 w') (first | assumption | exact (Exts.refl _).drew | exact (by repeat (first | exact Exts.refl _ | apply Exts.andR | apply Exts.alloc | apply Exts.wext | apply Exts.drew | apply Exts.drewN))) ((first | (go_at_call 27; (refine Calls.mono (without27 _ k _ i (B.take k) _ (KB3.out.exts ?_) hik hk4) ?_); (first | assumption | exact (by repeat (first | exact Exts.refl _ | apply Exts.andR | apply Exts.alloc | apply Exts.wext | apply Exts.drew | apply Exts.drewN))); rintro e w' ⟨uo, uc, rfl, ⟨x6, rfl⟩, hwo⟩; (have HWO := Lib.hid hwo); clear hwo) | (go_at_call 11; (refine Calls.mono (forced11_R _ _ _ _ _ _ _ _ _ D ((B.take k).eraseIdx i) vs wh2 _ by2 bm2 _ (KD3.out.exts ?_) (HWO.out.exts ?_) (RowF.exts HVS3.out ?_) hk3 HR2.out HM2.out) ?_); (first | assumption | exact (by repeat (first | exact Exts.refl _ | apply Exts.andR | apply Exts.alloc | apply Exts.wext | apply Exts.drew | apply Exts.drewN))); (exact (by repeat (first | exact Exts.refl _ | apply Exts.andR | apply Exts.alloc | apply Exts.wext | apply Exts.drew | apply Exts.drewN))); (first | assumption | exact (by repeat (first | exact Exts.refl _ | apply Exts.andR | apply Exts.alloc | apply Exts.wext | apply Exts.drew | apply Exts.drewN))); rintro e w' ⟨ro2, rc2, rfl, ⟨x7, rfl⟩, hks⟩; clear hks)))

                all_goals
                  cases r1 with
                  | false =>
                    go_wp2
                    refine ⟨⟨k + 1, m, by omega, by omega, by go_num, rfl, by rw [HS0.out]; exact HMK.out, HX2.out.trans (EX.out.trans (by repeat (first | exact Exts.refl _ | apply Exts.andR | apply Exts.alloc | apply Exts.wext | apply Exts.drew | apply Exts.drewN)))⟩, ?_⟩
                    simp [intOf]; omega
                  | true =>
                    cases r2 with
                    | true =>
                      go_wp2
                      refine ⟨⟨k + 1, m, by omega, by omega, by go_num, rfl, by rw [HS0.out]; exact HMK.out, HX2.out.trans (EX.out.trans (by repeat (first | exact Exts.refl _ | apply Exts.andR | apply Exts.alloc | apply Exts.wext | apply Exts.drew | apply Exts.drewN)))⟩, ?_⟩
                      simp [intOf]; omega
                    | false =>
                      have hs : ovrK D B i (k + 1) = ovrK D B i k ++ [(k : Int)] := HS0.out
                      have hat := ovrK_at hlt hs
                      rw [HMK.out, HOL.out] at hat
                      have hmo : m < om := by rw [← HOM.out]; exact (List.getElem?_eq_some_iff.1 hat).1
                      obtain ⟨b5, off5, x5, rfl, lb5, hx5, e5⟩ := ints_get (RowF.exts HFW.out (HX2.out.trans EX.out)) hmo
                      rw [hat] at hx5
                      cases hx5
                      have q5 : decide ((om : Int) ≤ (m : Int)) = false := by simp; omega
                      have q6 : (m : Int) < (om : Int) := by omega
                      clear hs hat
                      go_wp2
                      refine ⟨⟨k + 1, m + 1, by omega, by omega, by go_num, by go_num, by rw [HS0.out]; simp [HMK.out], HX2.out.trans (EX.out.trans (by repeat (first | exact Exts.refl _ | apply Exts.andR | apply Exts.alloc | apply Exts.wext | apply Exts.drew | apply Exts.drewN)))⟩, ?_⟩
                      simp [intOf]; omega
            · obtain rfl : k = n := by omega
              have h2 : m = om := by rw [← HMK.out, ← HOM.out, HOL.out]
              subst h2
              clear hx hmk hck
              go_wp2
              go_ret
              exact ⟨rfl, HX.out.trans (HX2.out.trans (by repeat (first | exact Exts.refl _ | apply Exts.andR | apply Exts.alloc | apply Exts.wext | apply Exts.drew | apply Exts.drewN)))⟩
        · have q1 : decide ((n : Int) ≤ at') = true := by simp; omega
          clear h0 h1 hck
          go_enter Try.func6, Try.ntmps6
          go_wp2_with (first | (go_at_call 9; ((with_reducible refine (small9 _).mono ?_); rintro e w' ⟨rfl, x0, rfl⟩)) | (go_at_call 10; ((with_reducible refine (refFew10 _ _ _ _ _ _ D B _ _ (HD.out.exts (by repeat (first | exact Exts.refl _ | apply Exts.andR | apply Exts.alloc | apply Exts.wext | apply Exts.drew | apply Exts.drewN))) (HB.out.exts (by repeat (first | exact Exts.refl _ | apply Exts.andR | apply Exts.alloc | apply Exts.wext | apply Exts.drew | apply Exts.drewN))) HFEW.out).mono ?_); rintro e w' ⟨rfl, x1, rfl⟩)) | (go_at_call 24; ((with_reducible refine (right24 _ _ _ _ _ _ D B _ _ (HD.out.exts (by repeat (first | exact Exts.refl _ | apply Exts.andR | apply Exts.alloc | apply Exts.wext | apply Exts.drew | apply Exts.drewN))) (HB.out.exts (by repeat (first | exact Exts.refl _ | apply Exts.andR | apply Exts.alloc | apply Exts.wext | apply Exts.drew | apply Exts.drewN))) hn HCK.out).mono ?_); rintro e w' ⟨rfl, x2, rfl⟩)))
          go_ret
          exact ⟨rfl, (by repeat (first | exact Exts.refl _ | apply Exts.andR | apply Exts.alloc | apply Exts.wext | apply Exts.drew | apply Exts.drewN))⟩
end Go.Proofs.Ytodgohilfbggjaa

/- What is forced when a vector grows, a base is turned or loses its first case: plain laws. -/
namespace Go.Proofs.Ytodgohilfbggjaa
open Go.RowKit
set_option linter.unusedSimpArgs false
set_option linter.unusedVariables false
theorem side_up {D : List Dm} {B : List Cs} {x y : List Int} (h : checkD D B = true) (hx : inD D x = true) (hy : inD D y = true) (hb : belowD D x y = true) (hs : sideB D B x true = true) : sideB D B y true = true := by
  obtain ⟨hr, hv⟩ := check_in h
  obtain ⟨c, hc, hg, h3⟩ := side_true.1 hs
  rw [blk_below hr (hv c hc) hx] at h3
  refine side_true.2 ⟨c, hc, hg, ?_⟩
  rw [blk_below hr (hv c hc) hy]
  exact below_trans hr (hv c hc) hx hy h3 hb
theorem side_down {D : List Dm} {B : List Cs} {x y : List Int} (h : checkD D B = true) (hx : inD D x = true) (hy : inD D y = true) (hb : belowD D x y = true) (hs : sideB D B y false = true) : sideB D B x false = true := by
  obtain ⟨hr, hv⟩ := check_in h
  obtain ⟨c, hc, hg, h3⟩ := side_false.1 hs
  rw [blk_below hr hy (hv c hc)] at h3
  refine side_false.2 ⟨c, hc, hg, ?_⟩
  rw [blk_below hr hx (hv c hc)]
  exact below_trans hr hx hy (hv c hc) hb h3
theorem side_turn {D : List Dm} {B : List Cs} {x : List Int} (s : Bool) : sideB D B.reverse x s = sideB D B x s := by
  unfold sideB
  rw [List.any_reverse]
theorem what_turn {D : List Dm} {B : List Cs} {x : List Int} : whatD D B.reverse x = whatD D B x := by
  unfold whatD
  rw [side_turn, side_turn]
theorem check_turn {D : List Dm} {B : List Cs} (h : checkD D B = true) : checkD D B.reverse = true := by
  simp only [checkD, Bool.and_eq_true, List.all_eq_true, decide_eq_true_eq] at h ⊢
  obtain ⟨h1, h2, h3⟩ := h
  refine ⟨h1, fun c hc => h2 c (List.mem_reverse.1 hc), ?_⟩
  rw [List.map_reverse]
  exact (List.Perm.nodup_iff (List.reverse_perm _)).2 h3
theorem check_drop {D : List Dm} {B : List Cs} (h : checkD D B = true) (k : Nat) : checkD D (B.drop k) = true := by
  simp only [checkD, Bool.and_eq_true, List.all_eq_true, decide_eq_true_eq] at h ⊢
  obtain ⟨h1, h2, h3⟩ := h
  refine ⟨h1, fun c hc => h2 c (List.mem_of_mem_drop hc), ?_⟩
  exact ((List.drop_sublist k B).map Cs.id).nodup h3
theorem side_drop {D : List Dm} {B : List Cs} {x : List Int} {k : Nat} {s : Bool} (h : sideB D (B.drop k) x s = true) : sideB D B x s = true := by
  simp only [sideB, List.any_eq_true] at h ⊢
  obtain ⟨c, hc, h⟩ := h
  exact ⟨c, List.mem_of_mem_drop hc, h⟩
/-- The numbers below n, turned. -/
theorem range_turn (n : Nat) : (List.range n).reverse = (List.range n).map fun i => n - 1 - i := by
  apply List.ext_getElem?
  intro i
  by_cases hi : i < n
  · rw [List.getElem?_reverse (by simpa using hi), List.length_range, List.getElem?_range (by omega), List.getElem?_map, List.getElem?_range hi]
    rfl
  · rw [List.getElem?_eq_none (by simp; omega), List.getElem?_eq_none (by simp; omega)]
theorem forI_turn {D : List Dm} {B : List Cs} {x : List Int} {i : Nat} (h : i < B.length) : forI D B.reverse x i = forI D B x (B.length - 1 - i) := by
  unfold forI
  rw [List.getElem?_reverse h]
theorem by_turn {D : List Dm} {B : List Cs} {x : List Int} : byK D B.reverse x B.length = ((byK D B x B.length).map fun i => ((B.length : Int) - 1 - i)).reverse := by
  unfold byK
  rw [List.map_map, ← List.map_reverse, ← List.filter_reverse, range_turn, List.filter_map, List.map_map]
  have e : (List.range B.length).filter (fun i => forI D B.reverse x i) = (List.range B.length).filter ((fun i => forI D B x i) ∘ fun i => B.length - 1 - i) := by
    apply List.filter_congr
    intro i hi
    exact forI_turn (List.mem_range.1 hi)
  rw [e]
  apply List.map_congr_left
  intro i hi
  have := List.mem_range.1 (List.mem_filter.1 hi).1
  simp only [Function.comp]
  show (i : Int) = (B.length : Int) - 1 - ((B.length - 1 - i : Nat) : Int)
  omega
theorem by_turn_at {D : List Dm} {B : List Cs} {x : List Int} {i : Nat} {v : Int} (h : (byK D B x B.length)[i]? = some v) : (byK D B.reverse x B.length)[(byK D B x B.length).length - 1 - i]? = some ((B.length : Int) - 1 - v) := by
  have hi := (List.getElem?_eq_some_iff.1 h).1
  rw [by_turn, List.getElem?_reverse (by rw [List.length_map]; omega), List.length_map, show (byK D B x B.length).length - 1 - ((byK D B x B.length).length - 1 - i) = i by omega, List.getElem?_map, h]
  rfl
theorem by_turn_len {D : List Dm} {B : List Cs} {x : List Int} : (byK D B.reverse x B.length).length = (byK D B x B.length).length := by
  rw [by_turn, List.length_reverse, List.length_map]
theorem by_bound {D : List Dm} {B : List Cs} {x : List Int} {k i : Nat} {v : Int} (h : (byK D B x k)[i]? = some v) : 0 ≤ v ∧ v < k := by
  unfold byK at h
  rw [List.getElem?_map] at h
  cases hq : ((List.range k).filter fun i => forI D B x i)[i]? with
  | none => rw [hq] at h; cases h
  | some j =>
    rw [hq] at h
    cases h
    have := List.mem_range.1 (List.mem_filter.1 (List.mem_of_getElem? hq)).1
    exact ⟨Int.natCast_nonneg _, by show (j : Int) < k; omega⟩
/-- What the numbers of the outcomes say. -/
def whatS (t f : Bool) : Int := if t = true then (if f = true then 3 else 1) else (if f = true then 2 else 0)
theorem whatD_S (D : List Dm) (B : List Cs) (x : List Int) : whatD D B x = whatS (sideB D B x true) (sideB D B x false) := rfl
/-- Cells of cases, read in a world. -/
def Cel (w : World) (ys : List Value) (L : List Cs) : Prop := ys.length = L.length * 3 ∧ ∀ (i : Nat) (d : Cs), L[i]? = some d → ∃ v, ys[i * 3]? = some (.int .i64 d.id) ∧ ys[i * 3 + 1]? = some v ∧ ys[i * 3 + 2]? = some (.bool d.grant) ∧ IntsV w v d.vals
theorem Cel.snoc {w : World} {ys : List Value} {L : List Cs} {v : Value} {d : Cs} (h : Cel w ys L) (hv : IntsV w v d.vals) : Cel w (ys ++ [.int .i64 d.id, v, .bool d.grant]) (L ++ [d]) := by
  obtain ⟨h1, h2⟩ := h
  refine ⟨by simp [h1]; omega, fun i d' hd => ?_⟩
  by_cases hi : i < L.length
  · rw [List.getElem?_append_left hi] at hd
    obtain ⟨v, e1, e2, e3, e4⟩ := h2 i d' hd
    exact ⟨v, by rw [List.getElem?_append_left (by omega)]; exact e1, by rw [List.getElem?_append_left (by omega)]; exact e2, by rw [List.getElem?_append_left (by omega)]; exact e3, e4⟩
  · rw [List.getElem?_append_right (by omega)] at hd
    obtain ⟨hi2, rfl⟩ : i - L.length = 0 ∧ d = d' := by
      cases hq : i - L.length with
      | zero => rw [hq] at hd; simp at hd; exact ⟨rfl, hd⟩
      | succ q => rw [hq] at hd; simp at hd
    obtain rfl : i = L.length := by omega
    refine ⟨v, ?_, ?_, ?_, hv⟩
    · rw [List.getElem?_append_right (by omega), h1, Nat.sub_self]; rfl
    · rw [List.getElem?_append_right (by omega), h1, show L.length * 3 + 1 - L.length * 3 = 1 by omega]; rfl
    · rw [List.getElem?_append_right (by omega), h1, show L.length * 3 + 2 - L.length * 3 = 2 by omega]; rfl
theorem Cel.cases {w w' : World} {ys : List Value} {L : List Cs} {S : Nat → Prop} {ro : Option Addr} {n rc : Nat} (h : Cel w ys L) (hn : L.length = n) (hid : ∀ x ∈ L, I64 x.id) (he : Exts w w') (hr : RowF S 3 w' (.slice ro n rc) n ys) : Cases S w' ro n rc L :=
  ⟨hn, hid, ys, hr, fun i d hd => let ⟨v, e1, e2, e3, e4⟩ := h.2 i d hd; ⟨v, e1, e2, e3, e4.exts he⟩⟩
/-- A part of a base. -/
theorem Cases.part {S : Nat → Prop} {w : World} {bo : Option Addr} {n c : Nat} {B : List Cs} (h : Cases S w bo n c B) (lo m cap' : Nat) (hlo : lo + m ≤ n) (hm : m ≤ cap') (hcap : cap' ≤ maxLen) (bo' : Option Addr) (h0 : bo' = none → cap' = 0) (hao : ∀ b off, bo = some ⟨b, off, none⟩ → 0 < m → bo' = some ⟨b, off + lo * 3, none⟩) : Cases S w bo' m cap' ((B.drop lo).take m) := by
  obtain ⟨h1, hi0, xs, h2, h3⟩ := h
  refine ⟨by rw [List.length_take, List.length_drop, h1]; omega, fun x hx => hi0 x (List.mem_of_mem_drop (List.mem_of_mem_take hx)), _, h2.part lo m cap' hlo hm hcap bo' h0 hao, fun i d hd => ?_⟩
  rw [List.getElem?_take] at hd
  split at hd
  · rename_i hi
    rw [List.getElem?_drop] at hd
    obtain ⟨v, e1, e2, e3, e4⟩ := h3 _ d hd
    refine ⟨v, ?_, ?_, ?_, e4⟩
    · rw [List.getElem?_take_of_lt (by omega), List.getElem?_drop, ← Nat.add_mul]; exact e1
    · rw [List.getElem?_take_of_lt (by omega), List.getElem?_drop, ← Nat.add_assoc, ← Nat.add_mul]; exact e2
    · rw [List.getElem?_take_of_lt (by omega), List.getElem?_drop, ← Nat.add_assoc, ← Nat.add_mul]; exact e3
  · cases hd
end Go.Proofs.Ytodgohilfbggjaa
