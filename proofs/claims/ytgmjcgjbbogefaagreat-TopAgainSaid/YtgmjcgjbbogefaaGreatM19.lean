/- Lemmas that the laws of this seat share, 4 texts in one: Few, OverJoin, ConsT, With. No condition of their own. -/
import Derived.Test.YtgmjcgjbbogefaaGreatM18
import Derived.Test.YtgmjcgjbbogefaaGreatM13
/- Few of the reference of chapter 39. No condition. -/
namespace Go.Proofs.YtgmjcgjbbogefaaGreat
open Go.RowKit Go.Maps
set_option linter.unusedSimpArgs false
set_option linter.unusedVariables false
def shortC (B : List Cs) : Bool := B.all fun c => decide (c.vals.length ≤ 8)
noncomputable def fewBD (D : List Dm) (B : List Cs) : Bool := shortC (B.take 17) && (fewD D && decide (B.length ≤ 16))
theorem shortC_next {B : List Cs} {k : Nat} {c : Cs} (h : B[k]? = some c) : shortC (B.take (k + 1)) = (shortC (B.take k) && decide (c.vals.length ≤ 8)) := by
  unfold shortC
  rw [List.take_add_one, h, List.all_append]
  simp
theorem shortC_no {B : List Cs} {k : Nat} {c : Cs} (h : B[k]? = some c) (hk : k < 17) (h8 : 8 < c.vals.length) : shortC (B.take 17) = false := by
  unfold shortC
  rw [List.all_eq_false]
  refine ⟨c, ?_, by simp; omega⟩
  rw [List.mem_iff_getElem?]
  exact ⟨k, by rw [List.getElem?_take_of_lt hk]; exact h⟩
theorem few_le {D : List Dm} {B : List Cs} (h : fewBD D B = true) : fewD D = true ∧ B.length ≤ 16 ∧ ∀ c ∈ B, c.vals.length ≤ 8 := by
  simp only [fewBD, Bool.and_eq_true, decide_eq_true_eq] at h
  obtain ⟨h1, h2, h3⟩ := h
  refine ⟨h2, h3, fun c hc => ?_⟩
  rw [List.take_of_length_le (by omega)] at h1
  simp only [shortC, List.all_eq_true, decide_eq_true_eq] at h1
  exact h1 c hc
theorem few30_D {S : Nat → Prop} (lo : Option Addr) (n c : Nat) (D : List Dm) (r : Bool) (w : World) (h : Dims S w lo n c D) (hD : fewD D = r) :
    Calls Tryz.prog 12 #[.slice lo n c] w fun e w' => e = .returned (.bool r) ∧ Exts w w' := by
  subst hD
  exact few9 lo n c D w h
set_option maxRecDepth 100000
set_option maxHeartbeats 2000000
theorem refFew10 {S S1 : Nat → Prop} (lo bo : Option Addr) (n1 c1 n c : Nat) (D : List Dm) (B : List Cs) (r : Bool) (w : World) (hd : Dims S w lo n1 c1 D) (hb : Cases S1 w bo n c B) (hr : fewBD D B = r) :
    Calls Tryz.prog 5 #[.slice lo n1 c1, .slice bo n c] w fun e w' => e = .returned (.bool r) ∧ Exts w w' := by
  have hm := hb.nle
  unfold maxLen at hm
  have HR := Lib.hid hr
  have HB1 := Lib.hid hb.1
  have HD := Lib.hid hd
  have HB := Lib.hid hb
  clear hd hb hr
  go_enter Tryz.func5, Tryz.ntmps5
  go_wp2
  go_loopw [5] (fun i wr => ∃ (k : Nat), k ≤ n ∧ k ≤ 17 ∧ i = .int .i64 k ∧ Exts w wr ∧ shortC (B.take k) = true) (fun i _ => n - (intOf i).toNat)
  case atStart => exact ⟨0, by omega, by omega, rfl, Exts.refl _, by simp [shortC]⟩
  case round =>
    obtain ⟨k, hk, hk17, rfl, hx, hs⟩ := hrel
    have HX := Lib.hid hx
    have HS := Lib.hid hs
    clear hx hs
    by_cases hlt : k < n
    · by_cases h16 : k ≤ 16
      · obtain ⟨b, off, id, vs, gr, vo, vc, rfl, lb, hc, e0, e1, e2, hvs, hid⟩ := (HB.out.exts HX.out).get hlt
        have i1 : decide ((k : Int) ≤ 16) = true := by simp; omega
        by_cases h8 : 8 < vs.length
        · have i2 : decide ((8 : Int) < (vs.length : Int)) = true := by simp; omega
          have HF := Lib.hid (show r = false by rw [← HR.out]; unfold fewBD; rw [shortC_no hc (by omega) h8]; rfl)
          clear hc hvs hid h8
          go_wp2
          go_ret
          exact ⟨by rw [HF.out]; rfl, HX.out.trans (by repeat (first | exact Exts.refl _ | apply Exts.andR | apply Exts.alloc | apply Exts.wext | apply Exts.drew | apply Exts.drewN))⟩
        · have i2 : decide ((8 : Int) < (vs.length : Int)) = false := by simp; omega
          have HN := Lib.hid (show shortC (B.take (k + 1)) = true by rw [shortC_next hc, HS.out]; simp; omega)
          clear hc hvs hid h8
          go_wp2
          refine ⟨⟨k + 1, by omega, by omega, by go_num, HX.out.trans (by repeat (first | exact Exts.refl _ | apply Exts.andR | apply Exts.alloc | apply Exts.wext | apply Exts.drew | apply Exts.drewN)), HN.out⟩, ?_⟩
          simp [intOf]; omega
      · have i1 : decide ((k : Int) ≤ 16) = false := by simp; omega
        obtain rfl : k = 17 := by omega
        obtain ⟨rf, hrf⟩ : ∃ r, fewD D = r := ⟨_, rfl⟩
        have HRF := Lib.hid hrf
        have i2 : decide ((n : Int) ≤ 16) = false := by simp; omega
        have HF := Lib.hid (show r = false by rw [← HR.out]; unfold fewBD; rw [HB1.out, show decide (n ≤ 16) = false by simp; omega]; simp)
        clear hrf
        cases rf with
        | true =>
          go_wp2_with (first | (go_at_call 12; ((with_reducible refine (few30_D _ _ _ D _ _ (HD.out.exts (HX.out.trans (by repeat (first | exact Exts.refl _ | apply Exts.andR | apply Exts.alloc | apply Exts.wext | apply Exts.drew | apply Exts.drewN)))) HRF.out).mono ?_); rintro e w' ⟨rfl, x1, rfl⟩)))
          go_ret
          exact ⟨by rw [HF.out]; rfl, HX.out.trans (by repeat (first | exact Exts.refl _ | apply Exts.andR | apply Exts.alloc | apply Exts.wext | apply Exts.drew | apply Exts.drewN))⟩
        | false =>
          go_wp2_with (first | (go_at_call 12; ((with_reducible refine (few30_D _ _ _ D _ _ (HD.out.exts (HX.out.trans (by repeat (first | exact Exts.refl _ | apply Exts.andR | apply Exts.alloc | apply Exts.wext | apply Exts.drew | apply Exts.drewN)))) HRF.out).mono ?_); rintro e w' ⟨rfl, x1, rfl⟩)))
          go_ret
          exact ⟨by rw [HF.out]; rfl, HX.out.trans (by repeat (first | exact Exts.refl _ | apply Exts.andR | apply Exts.alloc | apply Exts.wext | apply Exts.drew | apply Exts.drewN))⟩
    · obtain rfl : k = n := by omega
      obtain ⟨rf, hrf⟩ : ∃ r, fewD D = r := ⟨_, rfl⟩
      have HRF := Lib.hid hrf
      obtain ⟨rn, hrn⟩ : ∃ r, decide ((k : Int) ≤ 16) = r := ⟨_, rfl⟩
      have HF := Lib.hid (show r = (rf && rn) by
        rw [← HR.out, ← hrf, ← hrn]
        unfold fewBD
        rw [List.take_of_length_le (by rw [HB1.out]; omega), HB1.out]
        have h1 := HS.out
        rw [List.take_of_length_le (by rw [HB1.out]; omega)] at h1
        rw [h1, Bool.true_and]
        refine congrArg _ ?_
        exact decide_eq_decide.2 (by omega))
      clear hrf
      cases rf <;> cases rn
      all_goals
        go_wp2_with (first | (go_at_call 12; ((with_reducible refine (few30_D _ _ _ D _ _ (HD.out.exts (HX.out.trans (by repeat (first | exact Exts.refl _ | apply Exts.andR | apply Exts.alloc | apply Exts.wext | apply Exts.drew | apply Exts.drewN)))) HRF.out).mono ?_); rintro e w' ⟨rfl, x1, rfl⟩)))
        go_ret
        exact ⟨by rw [HF.out]; rfl, HX.out.trans (by repeat (first | exact Exts.refl _ | apply Exts.andR | apply Exts.alloc | apply Exts.wext | apply Exts.drew | apply Exts.drewN))⟩
end Go.Proofs.YtgmjcgjbbogefaaGreat


/- Overrule and Add, each in one. -/
namespace Go.Proofs.YtgmjcgjbbogefaaGreat
open Go.RowKit Go.Maps
set_option linter.unusedSimpArgs false
set_option linter.unusedVariables false
theorem add15 {S S1 S2 : Nat → Prop} (lo bo ao : Option Addr) (n1 c1 n c na ca : Nat) (D : List Dm) (B : List Cs) (cid : Int) (al : List Int) (cg : Bool) (w : World) (hd : Dims S w lo n1 c1 D) (hb : Cases S1 w bo n c B) (ha : Ints S2 w ao na ca al) (hn : n ≤ 100) (hcid : I64 cid) :
    Calls Tryz.prog 19 #[.slice lo n1 c1, .slice bo n c, .agg #[.int .i64 cid, .slice ao na ca, .bool cg]] w fun e w' => ∃ ro rc, e = .returned (.tuple #[.slice ro (addD D B ⟨cid, al, cg⟩).1.length rc, .int .i64 (addD D B ⟨cid, al, cg⟩).2]) ∧ Exts w w' ∧ Cases (fun b => w.heap.size ≤ b) w' ro (addD D B ⟨cid, al, cg⟩).1.length rc (addD D B ⟨cid, al, cg⟩).1 := by
  have hl := hb.1
  have hnil : ∀ w', Cases (fun b => w.heap.size ≤ b) w' none 0 0 [] := fun w' => ⟨rfl, (fun _ hx => by cases hx), [], RowF.nil _ _ _, (fun _ _ hd => by cases hd)⟩
  cases hck : (checkD D B && inD D al) with
  | false =>
    have hr : addD D B ⟨cid, al, cg⟩ = ([], 1) := by unfold addD; rw [hck]; rfl
    rw [hr]
    refine (add15_arg lo bo ao n1 c1 n c na ca D B cid al cg w hd hb ha hn hck).mono ?_
    rintro e w' ⟨rfl, he⟩
    exact ⟨none, 0, rfl, he, hnil _⟩
  | true =>
    have hck2 := hck
    rw [Bool.and_eq_true] at hck2
    cases han : (B.any fun d => d.id == cid) with
    | true =>
      have hr : addD D B ⟨cid, al, cg⟩ = ([], 5) := by unfold addD; rw [hck]; simp only [han]; rfl
      rw [hr]
      refine (add15_twice lo bo ao n1 c1 n c na ca D B cid al cg w hd hb ha hn hck2.1 hck2.2 han).mono ?_
      rintro e w' ⟨rfl, he⟩
      exact ⟨none, 0, rfl, he, hnil _⟩
    | false =>
      refine (add15_go lo bo ao n1 c1 n c na ca D B cid al cg w hd hb ha hn hcid hck2.1 hck2.2 han).mono ?_
      rintro e w' ⟨ro, rn, rc, code, rfl, he, ⟨h1, rfl, rfl, rfl, rfl⟩ | ⟨h1, rfl, rfl, h2⟩⟩
      · have hr : addD D B ⟨cid, al, cg⟩ = ([], 25) := by unfold addD; rw [hck]; simp only [han]; unfold clashB at h1; simp only [h1]; rfl
        rw [hr]
        exact ⟨none, 0, rfl, he, hnil _⟩
      · have hr : addD D B ⟨cid, al, cg⟩ = (B ++ [⟨cid, al, cg⟩], 0) := by unfold addD; rw [hck]; simp only [han]; unfold clashB at h1; simp only [h1]; rfl
        rw [hr]
        have hlen : (B ++ [(⟨cid, al, cg⟩ : Cs)]).length = n + 1 := by simp [hl]
        refine ⟨ro, rc, ?_, he, ?_⟩
        · rw [hlen]
        · rw [hlen]; exact h2
end Go.Proofs.YtgmjcgjbbogefaaGreat


/- Consistent of package precedent. No condition but at most 2000 cases. -/
namespace Go.Proofs.YtgmjcgjbbogefaaGreat
open Go.RowKit Go.Maps
set_option linter.unusedSimpArgs false
set_option linter.unusedVariables false

noncomputable def conRow (D : List Dm) (B : List Cs) (i : Nat) : Option Nat := match B[i]? with | some c => if c.grant = true then hitF D B c.vals else none | none => none
noncomputable def conFind (D : List Dm) (B : List Cs) : Option (Nat × Nat) := (List.range B.length).findSome? fun i => (conRow D B i).map fun k => (i, k)
def outC : Option (Nat × Nat) → Int × Int × Bool
  | some (i, k) => (i, k, false)
  | none => (-1, -1, true)
noncomputable def consD (D : List Dm) (B : List Cs) : Int × Int × Bool := if checkD D B = true then outC (conFind D B) else (-1, -1, false)
theorem conFind_some {D : List Dm} {B : List Cs} {i k : Nat} (h1 : ∀ j, j < i → conRow D B j = none) (h2 : conRow D B i = some k) (hi : i < B.length) : conFind D B = some (i, k) := by
  unfold conFind
  rw [List.findSome?_eq_some_iff]
  refine ⟨List.range i, i, (List.range (B.length - (i + 1))).map (· + (i + 1)), ?_, by rw [h2]; rfl, fun j hj => by rw [h1 j (List.mem_range.1 hj)]; rfl⟩
  apply List.ext_getElem?
  intro q
  by_cases hq : q < i
  · rw [List.getElem?_append_left (by simpa using hq), List.getElem?_range (by omega), List.getElem?_range hq]
  · rw [List.getElem?_append_right (by simpa using Nat.le_of_not_lt hq), List.length_range]
    by_cases hq2 : q = i
    · subst hq2
      simp [hi]
    · obtain ⟨t, rfl⟩ : ∃ t, q = i + 1 + t := ⟨q - (i + 1), by omega⟩
      rw [show i + 1 + t - i = t + 1 by omega, List.getElem?_cons_succ, List.getElem?_map]
      by_cases ht : i + 1 + t < B.length
      · rw [List.getElem?_range ht, List.getElem?_range (by omega)]
        simp; omega
      · rw [List.getElem?_eq_none (by simp; omega), List.getElem?_eq_none (by simp; omega)]
        rfl
theorem conFind_none {D : List Dm} {B : List Cs} (h : ∀ j, j < B.length → conRow D B j = none) : conFind D B = none := by
  unfold conFind
  rw [List.findSome?_eq_none_iff]
  intro j hj
  rw [h j (List.mem_range.1 hj)]
  rfl
theorem index37_D {S S1 : Nat → Prop} (mb cb : Nat) (mo vo bo : Option Addr) (n1 mc vn vc n c : Nat) (D : List Dm) (B : List Cs) (vs : List Int) (r : Int) (w : World) (h : Ords w mo n1 mc D) (hvs : Ints S w vo vn vc vs) (hb : Cases S1 w bo n c B) (hv : ∀ c ∈ B, inD D c.vals = true) (hiv : inD D vs = true) (cm : w.cell? ⟨mb, 0, none⟩ = some (.slice mo n1 mc)) (cc : w.cell? ⟨cb, 1, none⟩ = some (.slice vo vn vc)) (hr : outI (hitF D B vs) = r) :
    Calls Tryz.prog 14 #[.slice bo n c, .func (.func 15) #[] #[.pointer (some ⟨mb, 0, none⟩), .pointer (some ⟨cb, 0, none⟩)]] w fun e w' => e = .returned (.int .i64 r) ∧ Exts w w' := by
  subst hr
  exact index37 mb cb mo vo bo n1 mc vn vc n c D B vs w h hvs hb hv hiv cm cc
set_option maxRecDepth 100000
set_option maxHeartbeats 2000000
theorem consistent13_no {S S1 : Nat → Prop} (lo bo : Option Addr) (n1 c1 n c : Nat) (D : List Dm) (B : List Cs) (w : World) (hd : Dims S w lo n1 c1 D) (hb : Cases S1 w bo n c B) (hn : n ≤ 2000) (hck : checkD D B = false) :
    Calls Tryz.prog 6 #[.slice lo n1 c1, .slice bo n c] w fun e w' => e = .returned (.tuple #[.int .i64 (-1), .int .i64 (-1), .bool false]) ∧ Exts w w' := by
  have HD := Lib.hid hd
  have HB := Lib.hid hb
  have HCK := Lib.hid hck
  clear hd hb hck
  go_enter Tryz.func6, Tryz.ntmps6
  go_wp2_with (first | (go_at_call 13; ((with_reducible refine (check31 _ _ _ _ _ _ D B _ _ (HD.out.exts (by repeat (first | exact Exts.refl _ | apply Exts.andR | apply Exts.alloc | apply Exts.wext | apply Exts.drew | apply Exts.drewN))) (HB.out.exts (by repeat (first | exact Exts.refl _ | apply Exts.andR | apply Exts.alloc | apply Exts.wext | apply Exts.drew | apply Exts.drewN))) hn HCK.out).mono ?_); rintro e w' ⟨mo, N, mc, rfl, ⟨x1, rfl⟩, hm⟩; (try simp only [wext_and] at hm); (have HM := Lib.hid hm); clear hm)))
  go_ret3
  exact ⟨rfl, (by repeat (first | exact Exts.refl _ | apply Exts.andR | apply Exts.alloc | apply Exts.wext | apply Exts.drew | apply Exts.drewN))⟩
theorem consistent13_yes {S S1 : Nat → Prop} (lo bo : Option Addr) (n1 c1 n c : Nat) (D : List Dm) (B : List Cs) (w : World) (hd : Dims S w lo n1 c1 D) (hb : Cases S1 w bo n c B) (hn : n ≤ 2000) (hck : checkD D B = true) :
    Calls Tryz.prog 6 #[.slice lo n1 c1, .slice bo n c] w fun e w' => e = .returned (.tuple #[.int .i64 (outC (conFind D B)).1, .int .i64 (outC (conFind D B)).2.1, .bool (outC (conFind D B)).2.2]) ∧ Exts w w' := by
  have hmf : ∀ (fn : Fn) (first cap : Array Value) (w : World), (Instr.makeFunc fn first cap).run Tryz.prog w = .ok (.func fn first cap) w := fun _ _ _ _ => rfl
  have HL := Lib.hid hb.1
  have HD := Lib.hid hd
  have HB := Lib.hid hb
  have HCK := Lib.hid hck
  have HV := Lib.hid (check_vecs hck)
  clear hd hb hck
  go_enter Tryz.func6, Tryz.ntmps6
  go_wp2_with (first | (go_at_call 13; ((with_reducible refine (check31_ok _ _ _ _ _ _ D B _ (HD.out.exts (by repeat (first | exact Exts.refl _ | apply Exts.andR | apply Exts.alloc | apply Exts.wext | apply Exts.drew | apply Exts.drewN))) (HB.out.exts (by repeat (first | exact Exts.refl _ | apply Exts.andR | apply Exts.alloc | apply Exts.wext | apply Exts.drew | apply Exts.drewN))) hn HCK.out).mono ?_); rintro e w' ⟨mo, mc, rfl, ⟨x1, rfl⟩, hm⟩; (try simp only [wext_and] at hm); (have HM := Lib.hid hm); clear hm)))
  refine wp_name ?_
  intro W hW
  have HX := Lib.hid (show Exts w W by rw [hW]; exact (by repeat (first | exact Exts.refl _ | apply Exts.andR | apply Exts.alloc | apply Exts.wext | apply Exts.drew | apply Exts.drewN)))
  have cM : W.cell? ⟨w.heap.size + x1.bs.size, 0, none⟩ = some (.slice mo n1 mc) := by rw [hW]; simp [go_sem]
  have lM : w.heap.size + x1.bs.size < W.heap.size := World.block_lt_of_cell? W _ cM
  have CM := Lib.hid cM
  have HMW := Lib.hid (show Ords W mo n1 mc D by rw [hW]; exact HM.out.exts (by repeat (first | exact Exts.refl _ | apply Exts.andR | apply Exts.alloc | apply Exts.wext | apply Exts.drew | apply Exts.drewN)))
  have HBW := Lib.hid (HB.out.exts HX.out)
  clear hW HM HB HD
  go_loopw [22] (fun i wr => ∃ (k : Nat), k ≤ n ∧ i = .int .i64 k ∧ Exts W wr ∧ ∀ j, j < k → conRow D B j = none) (fun i _ => n - (intOf i).toNat)
  case atStart => exact ⟨0, by omega, rfl, Exts.refl _, fun j hj => by omega⟩
  case round =>
    obtain ⟨k, hk, rfl, ⟨x, rfl⟩, hin⟩ := hrel
    have HI := Lib.hid hin
    clear hin
    by_cases hlt : k < n
    · obtain ⟨b, off, id, vs, gr, vo2, vc2, rfl, lb, hc, e0, e1, e2, hvs, hid⟩ := HBW.out.get hlt
      have HVS := Lib.hid hvs
      have HC := Lib.hid hc
      have HIV := Lib.hid (show inD D vs = true from HV.out _ (List.mem_of_getElem? hc))
      have HROW := Lib.hid (show conRow D B k = if gr = true then hitF D B vs else none by unfold conRow; rw [hc])
      clear hvs hc hid
      cases gr with
      | false =>
        go_wp2
        refine ⟨⟨k + 1, by omega, by go_num, (by repeat (first | exact Exts.refl _ | apply Exts.andR | apply Exts.alloc | apply Exts.wext | apply Exts.drew | apply Exts.drewN)), fun j hj => ?_⟩, ?_⟩
        · by_cases hjk : j = k
          · rw [hjk, HROW.out]; rfl
          · exact HI.out j (by omega)
        · simp [intOf]; omega
      | true =>
        cases hh : hitF D B vs with
        | none =>
          have HO := Lib.hid (show outI (hitF D B vs) = -1 by rw [hh]; rfl)
          have HN := Lib.hid (HROW.out.trans (show (if true = true then hitF D B vs else none) = none from hh))
          clear hh
          go_wp2_with (first | (go_at_call 14; ((with_reducible refine (index37_D _ _ _ _ _ _ _ _ _ _ _ D B vs _ _ (HMW.out.exts (by repeat (first | exact Exts.refl _ | apply Exts.andR | apply Exts.alloc | apply Exts.wext | apply Exts.drew | apply Exts.drewN))) (RowF.exts HVS.out (by repeat (first | exact Exts.refl _ | apply Exts.andR | apply Exts.alloc | apply Exts.wext | apply Exts.drew | apply Exts.drewN))) (HBW.out.exts (by repeat (first | exact Exts.refl _ | apply Exts.andR | apply Exts.alloc | apply Exts.wext | apply Exts.drew | apply Exts.drewN))) HV.out HIV.out (Exts.cell (by repeat (first | exact Exts.refl _ | apply Exts.andR | apply Exts.alloc | apply Exts.wext | apply Exts.drew | apply Exts.drewN)) CM.out) (by simp [go_sem]) HO.out).mono ?_); rintro e w' ⟨rfl, x2, rfl⟩)))
          refine ⟨⟨k + 1, by omega, by go_num, (by repeat (first | exact Exts.refl _ | apply Exts.andR | apply Exts.alloc | apply Exts.wext | apply Exts.drew | apply Exts.drewN)), fun j hj => ?_⟩, ?_⟩
          · by_cases hjk : j = k
            · rw [hjk, HN.out]
            · exact HI.out j (by omega)
          · simp [intOf]; omega
        | some q =>
          have HO := Lib.hid (show outI (hitF D B vs) = (q : Int) by rw [hh]; rfl)
          have HN := Lib.hid (HROW.out.trans (show (if true = true then hitF D B vs else none) = some q from hh))
          have HF := Lib.hid (conFind_some HI.out HN.out (by rw [HL.out]; exact hlt))
          clear hh
          go_wp2_with (first | (go_at_call 14; ((with_reducible refine (index37_D _ _ _ _ _ _ _ _ _ _ _ D B vs _ _ (HMW.out.exts (by repeat (first | exact Exts.refl _ | apply Exts.andR | apply Exts.alloc | apply Exts.wext | apply Exts.drew | apply Exts.drewN))) (RowF.exts HVS.out (by repeat (first | exact Exts.refl _ | apply Exts.andR | apply Exts.alloc | apply Exts.wext | apply Exts.drew | apply Exts.drewN))) (HBW.out.exts (by repeat (first | exact Exts.refl _ | apply Exts.andR | apply Exts.alloc | apply Exts.wext | apply Exts.drew | apply Exts.drewN))) HV.out HIV.out (Exts.cell (by repeat (first | exact Exts.refl _ | apply Exts.andR | apply Exts.alloc | apply Exts.wext | apply Exts.drew | apply Exts.drewN)) CM.out) (by simp [go_sem]) HO.out).mono ?_); rintro e w' ⟨rfl, x2, rfl⟩)))
          go_ret3
          exact ⟨by rw [HF.out]; rfl, HX.out.trans (by repeat (first | exact Exts.refl _ | apply Exts.andR | apply Exts.alloc | apply Exts.wext | apply Exts.drew | apply Exts.drewN))⟩
    · obtain rfl : k = n := by omega
      have HF := Lib.hid (conFind_none (by rw [HL.out]; exact HI.out))
      go_wp2
      go_ret3
      exact ⟨by rw [HF.out]; rfl, HX.out.trans (by repeat (first | exact Exts.refl _ | apply Exts.andR | apply Exts.alloc | apply Exts.wext | apply Exts.drew | apply Exts.drewN))⟩
theorem consistent13 {S S1 : Nat → Prop} (lo bo : Option Addr) (n1 c1 n c : Nat) (D : List Dm) (B : List Cs) (w : World) (hd : Dims S w lo n1 c1 D) (hb : Cases S1 w bo n c B) (hn : n ≤ 2000) :
    Calls Tryz.prog 6 #[.slice lo n1 c1, .slice bo n c] w fun e w' => e = .returned (.tuple #[.int .i64 (consD D B).1, .int .i64 (consD D B).2.1, .bool (consD D B).2.2]) ∧ Exts w w' := by
  unfold consD
  cases hck : checkD D B with
  | true =>
    rw [if_pos rfl]
    exact consistent13_yes lo bo n1 c1 n c D B w hd hb hn hck
  | false =>
    rw [if_neg (by decide)]
    exact consistent13_no lo bo n1 c1 n c D B w hd hb hn hck
end Go.Proofs.YtgmjcgjbbogefaaGreat


/- with of law 39. -/
namespace Go.Proofs.YtgmjcgjbbogefaaGreat
open Go.RowKit Go.Maps
set_option linter.unusedSimpArgs false
set_option linter.unusedVariables false
set_option maxRecDepth 100000
set_option maxHeartbeats 4000000
def maxId (B : List Cs) : Nat → Int
  | 0 => 0
  | k + 1 => match B[k]? with | some c => max (maxId B k) (min c.id 1099511627776 + 1) | none => maxId B k
theorem Cases.snoc {S' : Nat → Prop} {w w' : World} {ro : Option Addr} {n rc : Nat} {B : List Cs} {d : Cs} {v : Value} {xs : List Value} (h1 : B.length = n) (h0 : ∀ x ∈ B, I64 x.id) (h2 : xs.length = n * 3) (h3 : ∀ (i : Nat) (d : Cs), B[i]? = some d → ∃ v, xs[i * 3]? = some (.int .i64 d.id) ∧ xs[i * 3 + 1]? = some v ∧ xs[i * 3 + 2]? = some (.bool d.grant) ∧ IntsV w v d.vals) (he : Exts w w') (hv : IntsV w v d.vals) (hid : I64 d.id) (hr : RowF S' 3 w' (.slice ro (n + 1) rc) (n + 1) (xs ++ [.int .i64 d.id, v, .bool d.grant])) : Cases S' w' ro (n + 1) rc (B ++ [d]) := by
  refine ⟨by simp [h1], fun x hx => ?_, _, hr, fun i d' hd => ?_⟩
  · rcases List.mem_append.1 hx with hx | hx
    · exact h0 x hx
    · simp at hx; rw [hx]; exact hid
  · by_cases hi : i < n
    · rw [List.getElem?_append_left (by omega)] at hd
      obtain ⟨v, e1, e2, e3, e4⟩ := h3 i d' hd
      exact ⟨v, by rw [List.getElem?_append_left (by omega)]; exact e1, by rw [List.getElem?_append_left (by omega)]; exact e2, by rw [List.getElem?_append_left (by omega)]; exact e3, e4.exts he⟩
    · rw [List.getElem?_append_right (by omega)] at hd
      have hi2 : i = n := by
        have := (List.getElem?_eq_some_iff.1 hd).1
        simp at this
        omega
      subst hi2
      rw [h1, Nat.sub_self] at hd
      simp at hd
      subst hd
      refine ⟨v, ?_, ?_, ?_, hv.exts he⟩
      · rw [List.getElem?_append_right (by omega), h2, Nat.sub_self]; rfl
      · rw [List.getElem?_append_right (by omega), h2, show i * 3 + 1 - i * 3 = 1 by omega]; rfl
      · rw [List.getElem?_append_right (by omega), h2, show i * 3 + 2 - i * 3 = 2 by omega]; rfl
end Go.Proofs.YtgmjcgjbbogefaaGreat

