/- FactorCloses returns true. No condition. -/
import Derived.Test.YtbafcfbchbjgfaaLawPlain
import Derived.Test.YtbafcfbchbjgfaaSmall8
import Derived.Test.YtbafcfbchbjgfaaRead
import Derived.BigRegion
namespace Go.Proofs.Ytbafcfbchbjgfaa
open Go.RowKit Go.Deep
set_option linter.unusedSimpArgs false
set_option linter.unusedVariables false

/-! Plain: what the closure of a right dimension holds. -/
structure Right (m : Nat) (ps : List Pr) (g : Rel) : Prop where
  le : 1 ≤ m ∧ m ≤ 12
  ins : ∀ p ∈ ps, 0 ≤ p.1 ∧ p.1 < m ∧ 0 ≤ p.2 ∧ p.2 < m
  diag : ∀ a, a < m → g a a = true
  anti : ∀ a b, a < m → b < m → g a b = true → g b a = true → a = b
  pair : ∀ p ∈ ps, g p.1.toNat p.2.toNat = true
  first : ∀ a b, a < m → b < m → a ≠ b → g a b = true → ∃ p ∈ ps, p.1 = a ∧ g p.2.toNat b = true
  trans : ∀ a b c, a < m → b < m → c < m → g a b = true → g b c = true → g a c = true
theorem right_of {m : Nat} {ps : List Pr} {g : Rel} (hg : closedD (m : Int) ps = (g, true)) : Right m ps g := by
  obtain ⟨hv, hc, hgd⟩ := closed_valid hg
  obtain ⟨hle, _, hin⟩ := valid_in hv
  have key : ∀ a b : Nat, a < m → b < m → (g a b = true ↔ Reach (pairRel ps) a b ∨ a = b) := fun a b ha hb => by
    rw [hgd]
    simp only [diagR, Bool.or_eq_true, clR_iff, Bool.and_eq_true, beq_iff_eq, decide_eq_true_eq]
    constructor
    · rintro (h1 | ⟨h1, _⟩)
      · exact .inl h1
      · exact .inr h1
    · rintro (h1 | h1)
      · exact .inl h1
      · exact .inr ⟨h1, by omega⟩
  have rel : ∀ p ∈ ps, pairRel ps p.1.toNat p.2.toNat = true := fun p hp => by
    have := hin p hp
    simp only [pairRel, List.any_eq_true, Bool.and_eq_true, beq_iff_eq]
    exact ⟨p, hp, by omega, by omega⟩
  refine ⟨by omega, hin, fun a ha => (key a a ha ha).2 (.inr rfl), fun a b ha hb h1 h2 => ?_, fun p hp => ?_, fun a b ha hb hne h1 => ?_, fun a b c ha hb hc' h1 h2 => ?_⟩
  · rcases (key a b ha hb).1 h1 with h1 | h1
    · rcases (key b a hb ha).1 h2 with h2 | h2
      · exact absurd (h1.trans h2) (cyc_no hc (by omega))
      · exact h2.symm
    · exact h1
  · have := hin p hp
    exact (key _ _ (by omega) (by omega)).2 (.inl (.one (by omega) (rel p hp)))
  · rcases (key a b ha hb).1 h1 with ⟨n, c, _, hc12, hf, hw⟩ | h1
    · simp only [pairRel, List.any_eq_true, Bool.and_eq_true, beq_iff_eq] at hf
      obtain ⟨p, hp, e1, e2⟩ := hf
      refine ⟨p, hp, e1, ?_⟩
      have hpc : p.2.toNat = c := by omega
      have hcm : c < m := by
        have := hin p hp
        omega
      rw [hpc]
      match n, hw with
      | 0, hw => exact (key c b hcm hb).2 (.inr hw)
      | n + 1, hw => exact (key c b hcm hb).2 (.inl ⟨n, hw⟩)
    · exact absurd h1 hne
  · rcases (key a b ha hb).1 h1 with h1 | rfl
    · rcases (key b c hb hc').1 h2 with h2 | rfl
      · exact (key a c ha hc').2 (.inl (h1.trans h2))
      · exact (key a b ha hb).2 (.inl h1)
    · exact h2
/-- The rows, laid out. -/
theorem rows_at {w : World} {ro : Option Addr} {m rc : Nat} {g : Rel} (h : BRows w ro m m rc g) (hm : 0 < m) : ∃ b off, ∃ rb rof rcap : Nat → Nat, ro = some ⟨b, off, none⟩ ∧ b < w.heap.size ∧ (∀ a, a < m → w.cell? ⟨b, off + a, none⟩ = some (.slice (some ⟨rb a, rof a, none⟩) m (rcap a))) ∧ (∀ a, a < m → rb a < w.heap.size) ∧ (∀ a, a < m → m ≤ rcap a) ∧ ∀ a j, a < m → j < m → w.cell? ⟨rb a, rof a + j, none⟩ = some (.bool (g a j)) := by
  obtain ⟨rows, ⟨h1, ao, cap, hv, h2, h3, h4, h5⟩, hr⟩ := h
  simp only [Value.slice.injEq, true_and] at hv
  obtain ⟨rfl, rfl⟩ := hv
  obtain ⟨b, off, rfl, _, hb, hc⟩ := h5 hm
  have key : ∀ a, a < m → ∃ q : Nat × Nat × Nat, w.cell? ⟨b, off + a, none⟩ = some (.slice (some ⟨q.1, q.2.1, none⟩) m q.2.2) ∧ q.1 < w.heap.size ∧ m ≤ q.2.2 ∧ ∀ j, j < m → w.cell? ⟨q.1, q.2.1 + j, none⟩ = some (.bool (g a j)) := fun a ha => by
    obtain ⟨bo, bc, e1, ⟨q1, ao2, cap2, hv2, q2, q3, q4, q5⟩⟩ := hr a ha
    simp only [Value.slice.injEq, true_and] at hv2
    obtain ⟨rfl, rfl⟩ := hv2
    obtain ⟨b', off', rfl, _, hb', hc'⟩ := q5 hm
    exact ⟨(b', off', bc), hc a _ e1, hb', q2, fun j hj => hc' j _ (by simp [bools, hj])⟩
  obtain ⟨Q, hQ⟩ := choose_lt key
  exact ⟨b, off, fun a => (Q a).1, fun a => (Q a).2.1, fun a => (Q a).2.2, rfl, hb, fun a ha => (hQ a ha).1, fun a ha => (hQ a ha).2.1, fun a ha => (hQ a ha).2.2.1, fun a j ha hj => (hQ a ha).2.2.2 j hj⟩
theorem closure10_bad {S : Nat → Prop} (V : Int) (po : Option Addr) (n c : Nat) (ps : List Pr) (cd : Int) (w : World) (h : Prs S w po n c ps) (hcd : (validB V ps = false ∧ cd = 1) ∨ (validB V ps = true ∧ (closedD V ps).2 = false ∧ cd = 16)) :
    Calls Try.prog 10 #[.agg #[.int .i64 V, .slice po n c]] w fun e w' => ∃ ro rc co cn cc, e = .returned (.tuple #[.slice ro 0 rc, .slice co cn cc, .int .i64 cd]) ∧ Exts w w' := by
  refine (closure10 V po n c ps w h).mono ?_
  rintro e w' ⟨ro, rn, rc, co, cn, cc, code, rfl, hx, hc⟩
  rcases hc with ⟨h1, rfl, rfl, rfl⟩ | ⟨h1, h2, rfl, rfl, _⟩ | ⟨h1, _⟩
  · rcases hcd with ⟨_, rfl⟩ | ⟨h2, _⟩
    · exact ⟨_, _, _, _, _, rfl, hx⟩
    · rw [h1] at h2; cases h2
  · rcases hcd with ⟨h3, rfl⟩ | ⟨_, _, rfl⟩
    · rw [h1] at h3; cases h3
    · exact ⟨_, _, _, _, _, rfl, hx⟩
  · rcases hcd with ⟨h3, rfl⟩ | ⟨_, h3, rfl⟩
    · rw [closed_no (.inl h3)] at h1; cases h1
    · rw [h1] at h3; cases h3
theorem closure10_ok {S : Nat → Prop} (m : Nat) (po : Option Addr) (n c : Nat) (ps : List Pr) (g : Rel) (w : World) (h : Prs S w po n c ps) (hok : closedD (m : Int) ps = (g, true)) :
    Calls Try.prog 10 #[.agg #[.int .i64 m, .slice po n c]] w fun e w' => ∃ ro rc co cc, e = .returned (.tuple #[.slice ro m rc, .slice co 0 cc, .int .i64 0]) ∧ Exts w w' ∧ BRows w' ro m m rc g := by
  refine (closure10 (m : Int) po n c ps w h).mono ?_
  rintro e w' ⟨ro, rn, rc, co, cn, cc, code, rfl, hx, hc⟩
  rcases hc with ⟨h1, rfl, rfl, rfl⟩ | ⟨h1, h2, rfl, rfl, _⟩ | ⟨h1, h2, rfl, rfl, h3⟩
  · rw [closed_no (.inl h1)] at hok; cases hok
  · rw [hok] at h2; cases h2
  · obtain rfl : rn = m := by omega
    rw [hok] at h3
    exact ⟨_, _, _, _, rfl, hx, h3⟩
/-- A pair among the first k leads from a to a value to which b is related, or that b is. -/
def firstK (ps : List Pr) (g : Rel) (a b k : Nat) : Bool := (ps.take k).any fun p => p.1 == (a : Int) && g p.2.toNat b
theorem firstK_next (ps : List Pr) (g : Rel) (a b k u v : Nat) (h : ps[k]? = some ((u : Int), (v : Int))) : firstK ps g a b (k + 1) = (firstK ps g a b k || (decide (u = a) && g v b)) := by
  unfold firstK
  rw [List.take_add_one, h, List.any_append]
  have : ((u : Int) == (a : Int)) = decide (u = a) := by
    rw [Bool.eq_iff_iff]
    simp
    omega
  simp [this]
set_option maxRecDepth 100000
set_option maxHeartbeats 2000000
theorem closure10_inv {S : Nat → Prop} (V : Int) (po : Option Addr) (n c : Nat) (ps : List Pr) (w : World) (h : Prs S w po n c ps) (hv : validB V ps = false) :
    Calls Try.prog 10 #[.agg #[.int .i64 V, .slice po n c]] w fun e w' => ∃ ro rc co cn cc, e = .returned (.tuple #[.slice ro 0 rc, .slice co cn cc, .int .i64 1]) ∧ Exts w w' := closure10_bad V po n c ps 1 w h (.inl ⟨hv, rfl⟩)
theorem closure10_circ {S : Nat → Prop} (V : Int) (po : Option Addr) (n c : Nat) (ps : List Pr) (w : World) (h : Prs S w po n c ps) (hv : validB V ps = true ∧ (closedD V ps).2 = false) :
    Calls Try.prog 10 #[.agg #[.int .i64 V, .slice po n c]] w fun e w' => ∃ ro rc co cn cc, e = .returned (.tuple #[.slice ro 0 rc, .slice co cn cc, .int .i64 16]) ∧ Exts w w' := closure10_bad V po n c ps 16 w h (.inr ⟨hv.1, hv.2, rfl⟩)
theorem closes4_inv {S : Nat → Prop} (V : Int) (po : Option Addr) (n c : Nat) (ps : List Pr) (w : World) (h : Prs S w po n c ps) (hcd : validB V ps = false) :
    Calls Try.prog 4 #[.agg #[.int .i64 V, .slice po n c]] w fun e w' => e = .returned (.bool true) ∧ Exts w w' := by
  have hm := RowF.nle h
  unfold maxLen at hm
  have H := Lib.hid h
  have HCD := Lib.hid hcd
  clear h hcd
  obtain ⟨q, q1⟩ : ∃ q, decide ((40 : Int) < (n : Int)) = q := ⟨_, rfl⟩
  cases q
  all_goals
    go_enter Try.func4, Try.ntmps4
    go_wp2_with (first | (go_at_call 8; ((with_reducible refine (small8 _).mono ?_); rintro e w' ⟨rfl, x0, rfl⟩)) | (go_at_call 10; ((with_reducible refine (closure10_inv _ _ _ _ ps _ (RowF.exts H.out (by repeat (first | exact Exts.refl _ | apply Exts.andR | apply Exts.alloc | apply Exts.wext | apply Exts.drew | apply Exts.drewN))) HCD.out).mono ?_); rintro e w' ⟨ro, rc, co, cn, cc, rfl, x1, rfl⟩)))
    go_ret
    exact ⟨rfl, (by repeat (first | exact Exts.refl _ | apply Exts.andR | apply Exts.alloc | apply Exts.wext | apply Exts.drew | apply Exts.drewN))⟩
theorem closes4_circ {S : Nat → Prop} (V : Int) (po : Option Addr) (n c : Nat) (ps : List Pr) (w : World) (h : Prs S w po n c ps) (hcd : validB V ps = true ∧ (closedD V ps).2 = false) :
    Calls Try.prog 4 #[.agg #[.int .i64 V, .slice po n c]] w fun e w' => e = .returned (.bool true) ∧ Exts w w' := by
  have hm := RowF.nle h
  unfold maxLen at hm
  have H := Lib.hid h
  have HCD := Lib.hid hcd
  clear h hcd
  obtain ⟨q, q1⟩ : ∃ q, decide ((40 : Int) < (n : Int)) = q := ⟨_, rfl⟩
  cases q
  all_goals
    go_enter Try.func4, Try.ntmps4
    go_wp2_with (first | (go_at_call 8; ((with_reducible refine (small8 _).mono ?_); rintro e w' ⟨rfl, x0, rfl⟩)) | (go_at_call 10; ((with_reducible refine (closure10_circ _ _ _ _ ps _ (RowF.exts H.out (by repeat (first | exact Exts.refl _ | apply Exts.andR | apply Exts.alloc | apply Exts.wext | apply Exts.drew | apply Exts.drewN))) HCD.out).mono ?_); rintro e w' ⟨ro, rc, co, cn, cc, rfl, x1, rfl⟩)))
    go_ret
    exact ⟨rfl, (by repeat (first | exact Exts.refl _ | apply Exts.andR | apply Exts.alloc | apply Exts.wext | apply Exts.drew | apply Exts.drewN))⟩
theorem closes4_long {S : Nat → Prop} (m : Nat) (po : Option Addr) (n c : Nat) (ps : List Pr) (g : Rel) (w : World) (h : Prs S w po n c ps) (hok : closedD (m : Int) ps = (g, true)) (h40 : 40 < n) :
    Calls Try.prog 4 #[.agg #[.int .i64 m, .slice po n c]] w fun e w' => e = .returned (.bool true) ∧ Exts w w' := by
  have hm := RowF.nle h
  unfold maxLen at hm
  have H := Lib.hid h
  have HOK := Lib.hid hok
  clear h hok
  have q1 : decide ((40 : Int) < (n : Int)) = true := by simp; omega
  go_enter Try.func4, Try.ntmps4
  go_wp2_with (first | (go_at_call 8; ((with_reducible refine (small8 _).mono ?_); rintro e w' ⟨rfl, x0, rfl⟩)) | (go_at_call 10; ((with_reducible refine (closure10_ok _ _ _ _ ps g _ (RowF.exts H.out (by repeat (first | exact Exts.refl _ | apply Exts.andR | apply Exts.alloc | apply Exts.wext | apply Exts.drew | apply Exts.drewN))) HOK.out).mono ?_); rintro e w' ⟨ro, rc, co, cc, rfl, ⟨x1, rfl⟩, -⟩)))
  go_ret
  exact ⟨rfl, (by repeat (first | exact Exts.refl _ | apply Exts.andR | apply Exts.alloc | apply Exts.wext | apply Exts.drew | apply Exts.drewN))⟩
set_option maxHeartbeats 16000000 in
theorem closes4_ok {S : Nat → Prop} (m : Nat) (po : Option Addr) (n c : Nat) (ps : List Pr) (g : Rel) (w : World) (h : Prs S w po n c ps) (hok : closedD (m : Int) ps = (g, true)) (h40 : ¬ 40 < n) :
    Calls Try.prog 4 #[.agg #[.int .i64 m, .slice po n c]] w fun e w' => e = .returned (.bool true) ∧ Exts w w' := by
  have hm := RowF.nle h
  unfold maxLen at hm
  have hl := Prs.len h
  have HR := Lib.hid (right_of hok)
  obtain ⟨hm1, hm12⟩ := HR.out.le
  have H := Lib.hid h
  have HOK := Lib.hid hok
  have HL := Lib.hid hl
  clear h hok hl
  have q1 : decide ((40 : Int) < (n : Int)) = false := by simp; omega
  go_enter Try.func4, Try.ntmps4
  go_wp2_with (first | (go_at_call 8; ((with_reducible refine (small8 _).mono ?_); rintro e w' ⟨rfl, x0, rfl⟩)) | (go_at_call 10; ((with_reducible refine (closure10_ok _ _ _ _ ps g _ (RowF.exts H.out (by repeat (first | exact Exts.refl _ | apply Exts.andR | apply Exts.alloc | apply Exts.wext | apply Exts.drew | apply Exts.drewN))) HOK.out).mono ?_); rintro e w' ⟨ro, rc, co, cc, rfl, ⟨x1, rfl⟩, hb⟩; (try simp only [wext_and] at hb); (have HB := Lib.hid hb); clear hb)))
  obtain ⟨W, hW⟩ : ∃ W, wext (w.alloc (.cells #[.int .i64 m, .slice po n c] 24)) (x0.and x1) = W := ⟨_, rfl⟩
  have HX := Lib.hid (show Exts w W by rw [← hW]; exact (by repeat (first | exact Exts.refl _ | apply Exts.andR | apply Exts.alloc | apply Exts.wext | apply Exts.drew | apply Exts.drewN)))
  have HP := Lib.hid (show Prs S W po n c ps from RowF.exts H.out HX.out)
  have cO0 : W.cell? ⟨w.heap.size, 0, none⟩ = some (.int .i64 m) := by rw [← hW]; simp [go_sem]
  have cO1 : W.cell? ⟨w.heap.size, 1, none⟩ = some (.slice po n c) := by rw [← hW]; simp [go_sem]
  have lO : w.heap.size < W.heap.size := by rw [← hW]; simp; omega
  rw [hW] at HB ⊢
  clear hW H
  obtain ⟨mb, mo, rb, rof, rcap, rfl, lM, hrow, lrow, hcap, hcell⟩ := rows_at HB.out hm1
  have HROW := Lib.hid hrow
  have HLR := Lib.hid lrow
  have HCAP := Lib.hid hcap
  have HCELL := Lib.hid hcell
  clear hrow lrow hcap hcell HB
  go_loopw [7] (fun i wr => ∃ (k : Nat), k ≤ m ∧ i = .int .i64 k ∧ Exts W wr) (fun i _ => m - (intOf i).toNat)
  case atStart => exact ⟨0, by omega, rfl, Exts.refl _⟩
  case round =>
    obtain ⟨k, hk, rfl, x, rfl⟩ := hrel
    by_cases hlt : k < m
    · have c1 := HROW.out k hlt
      go_wp2
      go_region
      go_wp2
      refine ⟨⟨k + 1, by omega, by go_num, (by repeat (first | exact Exts.refl _ | apply Exts.andR | apply Exts.alloc | apply Exts.wext | apply Exts.drew | apply Exts.drewN))⟩, ?_⟩
      simp [intOf]; omega
    · obtain rfl : m = k := by omega
      go_wp2
      go_loopw [8] (fun i wr => ∃ (a : Nat), a ≤ m ∧ i = .int .i64 a ∧ Exts W wr) (fun i _ => m - (intOf i).toNat)
      case atStart => exact ⟨0, by omega, rfl, (by repeat (first | exact Exts.refl _ | apply Exts.andR | apply Exts.alloc | apply Exts.wext | apply Exts.drew | apply Exts.drewN))⟩
      case round =>
        obtain ⟨a, ha, rfl, y, rfl⟩ := hrel
        by_cases hla : a < m
        · have ca := HROW.out a hla
          have lra := HLR.out a hla
          go_wp2
          go_loopw [9] (fun i wr => ∃ (b : Nat), b ≤ m ∧ i = .int .i64 b ∧ Exts W wr) (fun i _ => m - (intOf i).toNat)
          case atStart => exact ⟨0, by omega, rfl, (by repeat (first | exact Exts.refl _ | apply Exts.andR | apply Exts.alloc | apply Exts.wext | apply Exts.drew | apply Exts.drewN))⟩
          case round =>
            obtain ⟨b, hb, rfl, z, rfl⟩ := hrel
            by_cases hlb : b < m
            · have cb := HROW.out b hlb
              have lrb := HLR.out b hlb
              have cab := HCELL.out a b hla hlb
              have cba := HCELL.out b a hlb hla
              by_cases hab : a = b
              · have hg := HR.out.diag a hla
                have HGAB := Lib.hid hg
                subst hab
                rw [hg] at cab
                have HF := Lib.hid (show (true || firstK ps g a a n) = true from rfl)
                clear hg cba
                as_aux_lemma =>
                  go_wp2
                  (try (go_region; go_wp2))
                  go_loopw [10, 11] (fun f i wr => ∃ (q : Nat), q ≤ n ∧ i = .int .i64 q ∧ f = .bool (true || firstK ps g a a q) ∧ Exts W wr) (fun _ i _ => n - (intOf i).toNat)
                  case atStart => exact ⟨0, by omega, rfl, by first | (simp [firstK]; done) | (simp [firstK, e3]; done), (by repeat (first | exact Exts.refl _ | apply Exts.andR | apply Exts.alloc | apply Exts.wext | apply Exts.drew | apply Exts.drewN))⟩
                  case round =>
                    obtain ⟨q, hq, rfl, rfl, y2, rfl⟩ := hrel
                    by_cases hlq : q < n
                    · obtain ⟨pb, pof, ⟨p1, p2⟩, rfl, hpb, hp, e0, e1'⟩ := HP.out.get hlq
                      obtain ⟨i1, i2, i3, i4⟩ := HR.out.ins _ (List.mem_of_getElem? hp)
                      have huv := HR.out.pair _ (List.mem_of_getElem? hp)
                      simp only at i1 i2 i3 i4 e0 e1' huv
                      obtain ⟨u, rfl⟩ : ∃ u : Nat, p1 = u := ⟨p1.toNat, by omega⟩
                      obtain ⟨v, rfl⟩ : ∃ v : Nat, p2 = v := ⟨p2.toNat, by omega⟩
                      have hum : u < m := by omega
                      have hvm : v < m := by omega
                      have cu := HROW.out u hum
                      have lu := HLR.out u hum
                      have cv := HROW.out v hvm
                      have lv := HLR.out v hvm
                      have cuv := HCELL.out u v hum hvm
                      have cvb := HCELL.out v a hvm hlb
                      rw [show g u v = true from huv] at cuv
                      have HN := Lib.hid (firstK_next ps g a a q u v hp)
                      have n1 : decide ((u : Int) < 0) = false := by simp
                      have n2 : decide ((v : Int) < 0) = false := by simp
                      have n3 : decide (m ≤ u) = false := by simp; omega
                      have n4 : decide (m ≤ v) = false := by simp; omega
                      clear huv i1 i2 i3 i4 hp
                      obtain ⟨fq, hfq⟩ : ∃ fq, (true || firstK ps g a a q) = fq := ⟨_, rfl⟩
                      have HFQ := Lib.hid hfq
                      rw [hfq]
                      clear hfq
                      cases fq with
                      | true =>
                        go_wp2
                        (try (go_region; go_wp2))
                        (try (go_region; go_wp2))
                        refine ⟨⟨q + 1, by omega, by go_num, by rw [HN.out, ← Bool.or_assoc, HFQ.out]; rfl, (by repeat (first | exact Exts.refl _ | apply Exts.andR | apply Exts.alloc | apply Exts.wext | apply Exts.drew | apply Exts.drewN))⟩, ?_⟩
                        simp [intOf]; omega
                      | false =>
                        exact absurd HFQ.out (by simp)
                    · obtain rfl : n = q := by omega
                      rw [HF.out]
                      go_wp2
                      go_loopw [13] (fun i wr => ∃ (t : Nat), t ≤ m ∧ i = .int .i64 t ∧ Exts W wr) (fun i _ => m - (intOf i).toNat)
                      case atStart => exact ⟨0, by omega, rfl, (by repeat (first | exact Exts.refl _ | apply Exts.andR | apply Exts.alloc | apply Exts.wext | apply Exts.drew | apply Exts.drewN))⟩
                      case round =>
                        obtain ⟨t, ht, rfl, y3, rfl⟩ := hrel
                        by_cases hlt : t < m
                        · have cbt := HCELL.out a t hlb hlt
                          have cat := HCELL.out a t hla hlt
                          cases hbt : g a t with
                          | false =>
                            rw [hbt] at cbt
                            go_wp2
                            refine ⟨⟨t + 1, by omega, by go_num, (by repeat (first | exact Exts.refl _ | apply Exts.andR | apply Exts.alloc | apply Exts.wext | apply Exts.drew | apply Exts.drewN))⟩, ?_⟩
                            simp [intOf]; omega
                          | true =>
                            rw [hbt] at cbt
                            rw [HR.out.trans a a t hla hlb hlt HGAB.out hbt] at cat
                            clear hbt
                            go_wp2
                            refine ⟨⟨t + 1, by omega, by go_num, (by repeat (first | exact Exts.refl _ | apply Exts.andR | apply Exts.alloc | apply Exts.wext | apply Exts.drew | apply Exts.drewN))⟩, ?_⟩
                            simp [intOf]; omega
                        · obtain rfl : m = t := by omega
                          go_wp2
                          refine ⟨⟨a + 1, by omega, by go_num, (by repeat (first | exact Exts.refl _ | apply Exts.andR | apply Exts.alloc | apply Exts.wext | apply Exts.drew | apply Exts.drewN))⟩, ?_⟩
                          simp [intOf]; omega
              · have e1 : decide (a = b) = false := by simpa using hab
                have e2 : decide ((a : Int) = (b : Int)) = false := by simp; omega
                have e3 : ¬ ((a : Int) = (b : Int)) := by omega
                cases hgab : g a b with
                | false =>
                  rw [hgab] at cab
                  have HF := Lib.hid (show (true || firstK ps g a b n) = true from rfl)
                  clear hab hgab
                  as_aux_lemma =>
                    go_wp2
                    (try (go_region; go_wp2))
                    go_loopw [10, 11] (fun f i wr => ∃ (q : Nat), q ≤ n ∧ i = .int .i64 q ∧ f = .bool (true || firstK ps g a b q) ∧ Exts W wr) (fun _ i _ => n - (intOf i).toNat)
                    case atStart => exact ⟨0, by omega, rfl, by first | (simp [firstK]; done) | (simp [firstK, e3]; done), (by repeat (first | exact Exts.refl _ | apply Exts.andR | apply Exts.alloc | apply Exts.wext | apply Exts.drew | apply Exts.drewN))⟩
                    case round =>
                      obtain ⟨q, hq, rfl, rfl, y2, rfl⟩ := hrel
                      by_cases hlq : q < n
                      · obtain ⟨pb, pof, ⟨p1, p2⟩, rfl, hpb, hp, e0, e1'⟩ := HP.out.get hlq
                        obtain ⟨i1, i2, i3, i4⟩ := HR.out.ins _ (List.mem_of_getElem? hp)
                        have huv := HR.out.pair _ (List.mem_of_getElem? hp)
                        simp only at i1 i2 i3 i4 e0 e1' huv
                        obtain ⟨u, rfl⟩ : ∃ u : Nat, p1 = u := ⟨p1.toNat, by omega⟩
                        obtain ⟨v, rfl⟩ : ∃ v : Nat, p2 = v := ⟨p2.toNat, by omega⟩
                        have hum : u < m := by omega
                        have hvm : v < m := by omega
                        have cu := HROW.out u hum
                        have lu := HLR.out u hum
                        have cv := HROW.out v hvm
                        have lv := HLR.out v hvm
                        have cuv := HCELL.out u v hum hvm
                        have cvb := HCELL.out v b hvm hlb
                        rw [show g u v = true from huv] at cuv
                        have HN := Lib.hid (firstK_next ps g a b q u v hp)
                        have n1 : decide ((u : Int) < 0) = false := by simp
                        have n2 : decide ((v : Int) < 0) = false := by simp
                        have n3 : decide (m ≤ u) = false := by simp; omega
                        have n4 : decide (m ≤ v) = false := by simp; omega
                        clear huv i1 i2 i3 i4 hp
                        obtain ⟨fq, hfq⟩ : ∃ fq, (true || firstK ps g a b q) = fq := ⟨_, rfl⟩
                        have HFQ := Lib.hid hfq
                        rw [hfq]
                        clear hfq
                        cases fq with
                        | true =>
                          go_wp2
                          (try (go_region; go_wp2))
                          (try (go_region; go_wp2))
                          refine ⟨⟨q + 1, by omega, by go_num, by rw [HN.out, ← Bool.or_assoc, HFQ.out]; rfl, (by repeat (first | exact Exts.refl _ | apply Exts.andR | apply Exts.alloc | apply Exts.wext | apply Exts.drew | apply Exts.drewN))⟩, ?_⟩
                          simp [intOf]; omega
                        | false =>
                          exact absurd HFQ.out (by simp)
                      · obtain rfl : n = q := by omega
                        rw [HF.out]
                        go_wp2
                        go_loopw [13] (fun i wr => ∃ (t : Nat), t ≤ m ∧ i = .int .i64 t ∧ Exts W wr) (fun i _ => m - (intOf i).toNat)
                        case atStart => exact ⟨0, by omega, rfl, (by repeat (first | exact Exts.refl _ | apply Exts.andR | apply Exts.alloc | apply Exts.wext | apply Exts.drew | apply Exts.drewN))⟩
                        case round =>
                          obtain ⟨t, ht, rfl, y3, rfl⟩ := hrel
                          by_cases hlt : t < m
                          · go_wp2
                            refine ⟨⟨t + 1, by omega, by go_num, (by repeat (first | exact Exts.refl _ | apply Exts.andR | apply Exts.alloc | apply Exts.wext | apply Exts.drew | apply Exts.drewN))⟩, ?_⟩
                            simp [intOf]; omega
                          · obtain rfl : m = t := by omega
                            go_wp2
                            refine ⟨⟨b + 1, by omega, by go_num, (by repeat (first | exact Exts.refl _ | apply Exts.andR | apply Exts.alloc | apply Exts.wext | apply Exts.drew | apply Exts.drewN))⟩, ?_⟩
                            simp [intOf]; omega
                | true =>
                  have HGAB := Lib.hid hgab
                  have hgba : g b a = false := Bool.eq_false_iff.2 fun hc => hab (HR.out.anti a b hla hlb hgab hc)
                  have HF := Lib.hid (show (false || firstK ps g a b n) = true by
                    obtain ⟨p, hp, f1, f2⟩ := HR.out.first a b hla hlb hab hgab
                    rw [Bool.false_or, firstK, List.take_of_length_le (by rw [HL.out]; exact Nat.le_refl _), List.any_eq_true]
                    exact ⟨p, hp, by simp [f1, f2]⟩)
                  rw [hgab] at cab
                  rw [hgba] at cba
                  clear hab hgab hgba
                  as_aux_lemma =>
                    go_wp2
                    (try (go_region; go_wp2))
                    go_loopw [10, 11] (fun f i wr => ∃ (q : Nat), q ≤ n ∧ i = .int .i64 q ∧ f = .bool (false || firstK ps g a b q) ∧ Exts W wr) (fun _ i _ => n - (intOf i).toNat)
                    case atStart => exact ⟨0, by omega, rfl, by first | (simp [firstK]; done) | (simp [firstK, e3]; done), (by repeat (first | exact Exts.refl _ | apply Exts.andR | apply Exts.alloc | apply Exts.wext | apply Exts.drew | apply Exts.drewN))⟩
                    case round =>
                      obtain ⟨q, hq, rfl, rfl, y2, rfl⟩ := hrel
                      by_cases hlq : q < n
                      · obtain ⟨pb, pof, ⟨p1, p2⟩, rfl, hpb, hp, e0, e1'⟩ := HP.out.get hlq
                        obtain ⟨i1, i2, i3, i4⟩ := HR.out.ins _ (List.mem_of_getElem? hp)
                        have huv := HR.out.pair _ (List.mem_of_getElem? hp)
                        simp only at i1 i2 i3 i4 e0 e1' huv
                        obtain ⟨u, rfl⟩ : ∃ u : Nat, p1 = u := ⟨p1.toNat, by omega⟩
                        obtain ⟨v, rfl⟩ : ∃ v : Nat, p2 = v := ⟨p2.toNat, by omega⟩
                        have hum : u < m := by omega
                        have hvm : v < m := by omega
                        have cu := HROW.out u hum
                        have lu := HLR.out u hum
                        have cv := HROW.out v hvm
                        have lv := HLR.out v hvm
                        have cuv := HCELL.out u v hum hvm
                        have cvb := HCELL.out v b hvm hlb
                        rw [show g u v = true from huv] at cuv
                        have HN := Lib.hid (firstK_next ps g a b q u v hp)
                        have n1 : decide ((u : Int) < 0) = false := by simp
                        have n2 : decide ((v : Int) < 0) = false := by simp
                        have n3 : decide (m ≤ u) = false := by simp; omega
                        have n4 : decide (m ≤ v) = false := by simp; omega
                        clear huv i1 i2 i3 i4 hp
                        obtain ⟨fq, hfq⟩ : ∃ fq, (false || firstK ps g a b q) = fq := ⟨_, rfl⟩
                        have HFQ := Lib.hid hfq
                        rw [hfq]
                        clear hfq
                        cases fq with
                        | true =>
                          go_wp2
                          (try (go_region; go_wp2))
                          (try (go_region; go_wp2))
                          refine ⟨⟨q + 1, by omega, by go_num, by rw [HN.out, ← Bool.or_assoc, HFQ.out]; rfl, (by repeat (first | exact Exts.refl _ | apply Exts.andR | apply Exts.alloc | apply Exts.wext | apply Exts.drew | apply Exts.drewN))⟩, ?_⟩
                          simp [intOf]; omega
                        | false =>
                          by_cases hua : u = a
                          · subst hua
                            go_wp2
                            (try (go_region; go_wp2))
                            (try (go_region; go_wp2))
                            refine ⟨⟨q + 1, by omega, by go_num, by rw [HN.out, ← Bool.or_assoc, HFQ.out]; simp, (by repeat (first | exact Exts.refl _ | apply Exts.andR | apply Exts.alloc | apply Exts.wext | apply Exts.drew | apply Exts.drewN))⟩, ?_⟩
                            simp [intOf]; omega
                          · have hua1 : decide (u = a) = false := by simpa using hua
                            have hua2 : decide ((u : Int) = (a : Int)) = false := by simp; omega
                            have hua3 : ¬ ((u : Int) = (a : Int)) := by omega
                            have HUA := Lib.hid hua1
                            clear hua
                            go_wp2
                            (try (go_region; go_wp2))
                            (try (go_region; go_wp2))
                            refine ⟨⟨q + 1, by omega, by go_num, by rw [HN.out, ← Bool.or_assoc, HFQ.out, HUA.out]; rfl, (by repeat (first | exact Exts.refl _ | apply Exts.andR | apply Exts.alloc | apply Exts.wext | apply Exts.drew | apply Exts.drewN))⟩, ?_⟩
                            simp [intOf]; omega
                      · obtain rfl : n = q := by omega
                        rw [HF.out]
                        go_wp2
                        go_loopw [13] (fun i wr => ∃ (t : Nat), t ≤ m ∧ i = .int .i64 t ∧ Exts W wr) (fun i _ => m - (intOf i).toNat)
                        case atStart => exact ⟨0, by omega, rfl, (by repeat (first | exact Exts.refl _ | apply Exts.andR | apply Exts.alloc | apply Exts.wext | apply Exts.drew | apply Exts.drewN))⟩
                        case round =>
                          obtain ⟨t, ht, rfl, y3, rfl⟩ := hrel
                          by_cases hlt : t < m
                          · have cbt := HCELL.out b t hlb hlt
                            have cat := HCELL.out a t hla hlt
                            cases hbt : g b t with
                            | false =>
                              rw [hbt] at cbt
                              go_wp2
                              refine ⟨⟨t + 1, by omega, by go_num, (by repeat (first | exact Exts.refl _ | apply Exts.andR | apply Exts.alloc | apply Exts.wext | apply Exts.drew | apply Exts.drewN))⟩, ?_⟩
                              simp [intOf]; omega
                            | true =>
                              rw [hbt] at cbt
                              rw [HR.out.trans a b t hla hlb hlt HGAB.out hbt] at cat
                              clear hbt
                              go_wp2
                              refine ⟨⟨t + 1, by omega, by go_num, (by repeat (first | exact Exts.refl _ | apply Exts.andR | apply Exts.alloc | apply Exts.wext | apply Exts.drew | apply Exts.drewN))⟩, ?_⟩
                              simp [intOf]; omega
                          · obtain rfl : m = t := by omega
                            go_wp2
                            refine ⟨⟨b + 1, by omega, by go_num, (by repeat (first | exact Exts.refl _ | apply Exts.andR | apply Exts.alloc | apply Exts.wext | apply Exts.drew | apply Exts.drewN))⟩, ?_⟩
                            simp [intOf]; omega
            · obtain rfl : m = b := by omega
              go_wp2
              refine ⟨⟨a + 1, by omega, by go_num, (by repeat (first | exact Exts.refl _ | apply Exts.andR | apply Exts.alloc | apply Exts.wext | apply Exts.drew | apply Exts.drewN))⟩, ?_⟩
              simp [intOf]; omega
        · obtain rfl : m = a := by omega
          have q2 : decide (0 < m) = true := by simp; omega
          go_wp2
          go_ret
          exact ⟨rfl, HX.out.trans (by repeat (first | exact Exts.refl _ | apply Exts.andR | apply Exts.alloc | apply Exts.wext | apply Exts.drew | apply Exts.drewN))⟩
theorem closes4 {S : Nat → Prop} (V : Int) (po : Option Addr) (n c : Nat) (ps : List Pr) (w : World) (h : Prs S w po n c ps) :
    Calls Try.prog 4 #[.agg #[.int .i64 V, .slice po n c]] w fun e w' => e = .returned (.bool true) ∧ Exts w w' := by
  cases hv : validB V ps with
  | false => exact closes4_inv V po n c ps w h hv
  | true =>
    cases hok : (closedD V ps).2 with
    | false => exact closes4_circ V po n c ps w h ⟨hv, hok⟩
    | true =>
      obtain ⟨g, hg⟩ := closed_ok hok
      obtain ⟨⟨v1, v2⟩, _⟩ := valid_in hv
      obtain ⟨m, rfl⟩ : ∃ m : Nat, V = m := ⟨V.toNat, by omega⟩
      by_cases h40 : 40 < n
      · exact closes4_long m po n c ps g w h hg h40
      · exact closes4_ok m po n c ps g w h hg h40
end Go.Proofs.Ytbafcfbchbjgfaa
