/- Lemmas that the laws of this seat share, 4 texts in one: OverJoin, ConsT, RefCons, Small9Plain. No condition of their own. -/
import Derived.Test.YtodgohilfbggjaaM15
import Derived.Test.YtodgohilfbggjaaM16
import Derived.Test.YtodgohilfbggjaaM13
import Derived.Test.YtodgohilfbggjaaM7
/- Overrule and Add, each in one. -/
namespace Go.Proofs.Ytodgohilfbggjaa
open Go.RowKit Go.Maps
set_option linter.unusedSimpArgs false
set_option linter.unusedVariables false
theorem overrule19 {S S1 : Nat → Prop} (lo bo : Option Addr) (n1 c1 n c : Nat) (D : List Dm) (B : List Cs) (at' : Int) (w : World) (hd : Dims S w lo n1 c1 D) (hb : Cases S1 w bo n c B) (hn : n ≤ 100) : Calls Try.prog 19 #[.slice lo n1 c1, .slice bo n c, .int .i64 at'] w fun e w' => ∃ ro rc, e = .returned (.tuple #[.slice ro (ovrD D B at').1.length rc, .int .i64 (ovrD D B at').2]) ∧ Exts w w' ∧ Ints (fun b => w.heap.size ≤ b) w' ro (ovrD D B at').1.length rc (ovrD D B at').1 := by
  have hl := hb.1
  cases hck : (checkD D B && (decide (0 ≤ at') && decide (at' < (B.length : Int)))) with
  | false =>
    have hr : ovrD D B at' = ([], 1) := by unfold ovrD; rw [hck]; rfl
    rw [hr]
    refine (overrule19_no lo bo n1 c1 n c D B at' w hd hb (by omega) hck).mono ?_
    rintro e w' ⟨rfl, he⟩
    exact ⟨none, 0, rfl, he, RowF.nil _ _ _⟩
  | true =>
    have hr : ovrD D B at' = (ovrK D B at'.toNat n, 0) := by unfold ovrD; rw [hck, hl]; rfl
    rw [hr]
    simp only [Bool.and_eq_true, decide_eq_true_eq] at hck
    obtain ⟨h1, h2, h3⟩ := hck
    obtain ⟨i, rfl⟩ := Int.eq_ofNat_of_zero_le h2
    exact overrule19_go lo bo n1 c1 n c i D B w hd hb hn h1 (by omega)
theorem refOverrule20 {S S1 : Nat → Prop} (lo bo : Option Addr) (n1 c1 n c : Nat) (D : List Dm) (B : List Cs) (at' : Int) (w : World) (hd : Dims S w lo n1 c1 D) (hb : Cases S1 w bo n c B) (hn : n ≤ 100) : Calls Try.prog 20 #[.slice lo n1 c1, .slice bo n c, .int .i64 at'] w fun e w' => ∃ ro rc, e = .returned (.tuple #[.slice ro (ovrD D B at').1.length rc, .int .i64 (ovrD D B at').2]) ∧ Exts w w' ∧ Ints (fun b => w.heap.size ≤ b) w' ro (ovrD D B at').1.length rc (ovrD D B at').1 := by
  have hl := hb.1
  cases hck : (checkD D B && (decide (0 ≤ at') && decide (at' < (B.length : Int)))) with
  | false =>
    have hr : ovrD D B at' = ([], 1) := by unfold ovrD; rw [hck]; rfl
    rw [hr]
    refine (refOverrule20_no lo bo n1 c1 n c D B at' w hd hb (by omega) hck).mono ?_
    rintro e w' ⟨rfl, he⟩
    exact ⟨none, 0, rfl, he, RowF.nil _ _ _⟩
  | true =>
    have hr : ovrD D B at' = (ovrK D B at'.toNat n, 0) := by unfold ovrD; rw [hck, hl]; rfl
    rw [hr]
    simp only [Bool.and_eq_true, decide_eq_true_eq] at hck
    obtain ⟨h1, h2, h3⟩ := hck
    obtain ⟨i, rfl⟩ := Int.eq_ofNat_of_zero_le h2
    exact refOverrule20_go lo bo n1 c1 n c i D B w hd hb hn h1 (by omega)
theorem add15 {S S1 S2 : Nat → Prop} (lo bo ao : Option Addr) (n1 c1 n c na ca : Nat) (D : List Dm) (B : List Cs) (cid : Int) (al : List Int) (cg : Bool) (w : World) (hd : Dims S w lo n1 c1 D) (hb : Cases S1 w bo n c B) (ha : Ints S2 w ao na ca al) (hn : n ≤ 100) (hcid : I64 cid) :
    Calls Try.prog 15 #[.slice lo n1 c1, .slice bo n c, .agg #[.int .i64 cid, .slice ao na ca, .bool cg]] w fun e w' => ∃ ro rc, e = .returned (.tuple #[.slice ro (addD D B ⟨cid, al, cg⟩).1.length rc, .int .i64 (addD D B ⟨cid, al, cg⟩).2]) ∧ Exts w w' ∧ Cases (fun b => w.heap.size ≤ b) w' ro (addD D B ⟨cid, al, cg⟩).1.length rc (addD D B ⟨cid, al, cg⟩).1 := by
  have hl := hb.1
  have hnil : ∀ w', Cases (fun b => w.heap.size ≤ b) w' none 0 0 [] := fun w' => ⟨rfl, (fun _ hx => by cases hx), [], RowF.nil _ _ _, (fun _ _ hd => by cases hd)⟩
  cases hck : (checkD D B && inD D al) with
  | false =>
    have hr : addD D B ⟨cid, al, cg⟩ = ([], 1) := by unfold addD; rw [hck]; rfl
    rw [hr]
    refine (add15_arg lo bo ao n1 c1 n c na ca D B cid al cg w hd hb ha hn hck).mono ?_
    rintro e w' ⟨rfl, he⟩
    exact ⟨none, 0, rfl, he, hnil _⟩
  | true =>
    have hck2 := hck
    rw [Bool.and_eq_true] at hck2
    cases han : (B.any fun d => d.id == cid) with
    | true =>
      have hr : addD D B ⟨cid, al, cg⟩ = ([], 5) := by unfold addD; rw [hck]; simp only [han]; rfl
      rw [hr]
      refine (add15_twice lo bo ao n1 c1 n c na ca D B cid al cg w hd hb ha hn hck2.1 hck2.2 han).mono ?_
      rintro e w' ⟨rfl, he⟩
      exact ⟨none, 0, rfl, he, hnil _⟩
    | false =>
      refine (add15_go lo bo ao n1 c1 n c na ca D B cid al cg w hd hb ha hn hcid hck2.1 hck2.2 han).mono ?_
      rintro e w' ⟨ro, rn, rc, code, rfl, he, ⟨h1, rfl, rfl, rfl, rfl⟩ | ⟨h1, rfl, rfl, h2⟩⟩
      · have hr : addD D B ⟨cid, al, cg⟩ = ([], 25) := by unfold addD; rw [hck]; simp only [han]; unfold clashB at h1; simp only [h1]; rfl
        rw [hr]
        exact ⟨none, 0, rfl, he, hnil _⟩
      · have hr : addD D B ⟨cid, al, cg⟩ = (B ++ [⟨cid, al, cg⟩], 0) := by unfold addD; rw [hck]; simp only [han]; unfold clashB at h1; simp only [h1]; rfl
        rw [hr]
        have hlen : (B ++ [(⟨cid, al, cg⟩ : Cs)]).length = n + 1 := by simp [hl]
        refine ⟨ro, rc, ?_, he, ?_⟩
        · rw [hlen]
        · rw [hlen]; exact h2
end Go.Proofs.Ytodgohilfbggjaa

/- Consistent of package precedent. No condition but at most 2000 cases. -/
namespace Go.Proofs.Ytodgohilfbggjaa
open Go.RowKit Go.Maps
set_option linter.unusedSimpArgs false
set_option linter.unusedVariables false

noncomputable def conRow (D : List Dm) (B : List Cs) (i : Nat) : Option Nat := match B[i]? with | some c => if c.grant = true then hitF D B c.vals else none | none => none
noncomputable def conFind (D : List Dm) (B : List Cs) : Option (Nat × Nat) := (List.range B.length).findSome? fun i => (conRow D B i).map fun k => (i, k)
def outC : Option (Nat × Nat) → Int × Int × Bool
  | some (i, k) => (i, k, false)
  | none => (-1, -1, true)
noncomputable def consD (D : List Dm) (B : List Cs) : Int × Int × Bool := if checkD D B = true then outC (conFind D B) else (-1, -1, false)
theorem conFind_some {D : List Dm} {B : List Cs} {i k : Nat} (h1 : ∀ j, j < i → conRow D B j = none) (h2 : conRow D B i = some k) (hi : i < B.length) : conFind D B = some (i, k) := by
  unfold conFind
  rw [List.findSome?_eq_some_iff]
  refine ⟨List.range i, i, (List.range (B.length - (i + 1))).map (· + (i + 1)), ?_, by rw [h2]; rfl, fun j hj => by rw [h1 j (List.mem_range.1 hj)]; rfl⟩
  apply List.ext_getElem?
  intro q
  by_cases hq : q < i
  · rw [List.getElem?_append_left (by simpa using hq), List.getElem?_range (by omega), List.getElem?_range hq]
  · rw [List.getElem?_append_right (by simpa using Nat.le_of_not_lt hq), List.length_range]
    by_cases hq2 : q = i
    · subst hq2
      simp [hi]
    · obtain ⟨t, rfl⟩ : ∃ t, q = i + 1 + t := ⟨q - (i + 1), by omega⟩
      rw [show i + 1 + t - i = t + 1 by omega, List.getElem?_cons_succ, List.getElem?_map]
      by_cases ht : i + 1 + t < B.length
      · rw [List.getElem?_range ht, List.getElem?_range (by omega)]
        simp; omega
      · rw [List.getElem?_eq_none (by simp; omega), List.getElem?_eq_none (by simp; omega)]
        rfl
theorem conFind_none {D : List Dm} {B : List Cs} (h : ∀ j, j < B.length → conRow D B j = none) : conFind D B = none := by
  unfold conFind
  rw [List.findSome?_eq_none_iff]
  intro j hj
  rw [h j (List.mem_range.1 hj)]
  rfl
theorem index37_D {S S1 : Nat → Prop} (mb cb : Nat) (mo vo bo : Option Addr) (n1 mc vn vc n c : Nat) (D : List Dm) (B : List Cs) (vs : List Int) (r : Int) (w : World) (h : Ords w mo n1 mc D) (hvs : Ints S w vo vn vc vs) (hb : Cases S1 w bo n c B) (hv : ∀ c ∈ B, inD D c.vals = true) (hiv : inD D vs = true) (cm : w.cell? ⟨mb, 0, none⟩ = some (.slice mo n1 mc)) (cc : w.cell? ⟨cb, 1, none⟩ = some (.slice vo vn vc)) (hr : outI (hitF D B vs) = r) :
    Calls Try.prog 37 #[.slice bo n c, .func (.func 38) #[] #[.pointer (some ⟨mb, 0, none⟩), .pointer (some ⟨cb, 0, none⟩)]] w fun e w' => e = .returned (.int .i64 r) ∧ Exts w w' := by
  subst hr
  exact index37 mb cb mo vo bo n1 mc vn vc n c D B vs w h hvs hb hv hiv cm cc
set_option maxRecDepth 100000
set_option maxHeartbeats 2000000
theorem consistent13_no {S S1 : Nat → Prop} (lo bo : Option Addr) (n1 c1 n c : Nat) (D : List Dm) (B : List Cs) (w : World) (hd : Dims S w lo n1 c1 D) (hb : Cases S1 w bo n c B) (hn : n ≤ 2000) (hck : checkD D B = false) :
    Calls Try.prog 13 #[.slice lo n1 c1, .slice bo n c] w fun e w' => e = .returned (.tuple #[.int .i64 (-1), .int .i64 (-1), .bool false]) ∧ Exts w w' := by
  have HD := Lib.hid hd
  have HB := Lib.hid hb
  have HCK := Lib.hid hck
  clear hd hb hck
  go_enter Try.func13, Try.ntmps13
  go_wp2_with (first | (go_at_call 31; ((with_reducible refine (check31 _ _ _ _ _ _ D B _ _ (HD.out.exts (by repeat (first | exact Exts.refl _ | apply Exts.andR | apply Exts.alloc | apply Exts.wext | apply Exts.drew | apply Exts.drewN))) (HB.out.exts (by repeat (first | exact Exts.refl _ | apply Exts.andR | apply Exts.alloc | apply Exts.wext | apply Exts.drew | apply Exts.drewN))) hn HCK.out).mono ?_); rintro e w' ⟨mo, N, mc, rfl, ⟨x1, rfl⟩, hm⟩; (try simp only [wext_and] at hm); (have HM := Lib.hid hm); clear hm)))
  go_ret3
  exact ⟨rfl, (by repeat (first | exact Exts.refl _ | apply Exts.andR | apply Exts.alloc | apply Exts.wext | apply Exts.drew | apply Exts.drewN))⟩
theorem consistent13_yes {S S1 : Nat → Prop} (lo bo : Option Addr) (n1 c1 n c : Nat) (D : List Dm) (B : List Cs) (w : World) (hd : Dims S w lo n1 c1 D) (hb : Cases S1 w bo n c B) (hn : n ≤ 2000) (hck : checkD D B = true) :
    Calls Try.prog 13 #[.slice lo n1 c1, .slice bo n c] w fun e w' => e = .returned (.tuple #[.int .i64 (outC (conFind D B)).1, .int .i64 (outC (conFind D B)).2.1, .bool (outC (conFind D B)).2.2]) ∧ Exts w w' := by
  have hmf : ∀ (fn : Fn) (first cap : Array Value) (w : World), (Instr.makeFunc fn first cap).run Try.prog w = .ok (.func fn first cap) w := fun _ _ _ _ => rfl
  have HL := Lib.hid hb.1
  have HD := Lib.hid hd
  have HB := Lib.hid hb
  have HCK := Lib.hid hck
  have HV := Lib.hid (check_vecs hck)
  clear hd hb hck
  go_enter Try.func13, Try.ntmps13
  go_wp2_with (first | (go_at_call 31; ((with_reducible refine (check31_ok _ _ _ _ _ _ D B _ (HD.out.exts (by repeat (first | exact Exts.refl _ | apply Exts.andR | apply Exts.alloc | apply Exts.wext | apply Exts.drew | apply Exts.drewN))) (HB.out.exts (by repeat (first | exact Exts.refl _ | apply Exts.andR | apply Exts.alloc | apply Exts.wext | apply Exts.drew | apply Exts.drewN))) hn HCK.out).mono ?_); rintro e w' ⟨mo, mc, rfl, ⟨x1, rfl⟩, hm⟩; (try simp only [wext_and] at hm); (have HM := Lib.hid hm); clear hm)))
  refine wp_name ?_
  intro W hW
  have HX := Lib.hid (show Exts w W by rw [hW]; exact (by repeat (first | exact Exts.refl _ | apply Exts.andR | apply Exts.alloc | apply Exts.wext | apply Exts.drew | apply Exts.drewN)))
  have cM : W.cell? ⟨w.heap.size + x1.bs.size, 0, none⟩ = some (.slice mo n1 mc) := by rw [hW]; simp [go_sem]
  have lM : w.heap.size + x1.bs.size < W.heap.size := World.block_lt_of_cell? W _ cM
  have CM := Lib.hid cM
  have HMW := Lib.hid (show Ords W mo n1 mc D by rw [hW]; exact HM.out.exts (by repeat (first | exact Exts.refl _ | apply Exts.andR | apply Exts.alloc | apply Exts.wext | apply Exts.drew | apply Exts.drewN)))
  have HBW := Lib.hid (HB.out.exts HX.out)
  clear hW HM HB HD
  go_loopw [22] (fun i wr => ∃ (k : Nat), k ≤ n ∧ i = .int .i64 k ∧ Exts W wr ∧ ∀ j, j < k → conRow D B j = none) (fun i _ => n - (intOf i).toNat)
  case atStart => exact ⟨0, by omega, rfl, Exts.refl _, fun j hj => by omega⟩
  case round =>
    obtain ⟨k, hk, rfl, ⟨x, rfl⟩, hin⟩ := hrel
    have HI := Lib.hid hin
    clear hin
    by_cases hlt : k < n
    · obtain ⟨b, off, id, vs, gr, vo2, vc2, rfl, lb, hc, e0, e1, e2, hvs, hid⟩ := HBW.out.get hlt
      have HVS := Lib.hid hvs
      have HC := Lib.hid hc
      have HIV := Lib.hid (show inD D vs = true from HV.out _ (List.mem_of_getElem? hc))
      have HROW := Lib.hid (show conRow D B k = if gr = true then hitF D B vs else none by unfold conRow; rw [hc])
      clear hvs hc hid
      cases gr with
      | false =>
        go_wp2
        refine ⟨⟨k + 1, by omega, by go_num, (by repeat (first | exact Exts.refl _ | apply Exts.andR | apply Exts.alloc | apply Exts.wext | apply Exts.drew | apply Exts.drewN)), fun j hj => ?_⟩, ?_⟩
        · by_cases hjk : j = k
          · rw [hjk, HROW.out]; rfl
          · exact HI.out j (by omega)
        · simp [intOf]; omega
      | true =>
        cases hh : hitF D B vs with
        | none =>
          have HO := Lib.hid (show outI (hitF D B vs) = -1 by rw [hh]; rfl)
          have HN := Lib.hid (HROW.out.trans (show (if true = true then hitF D B vs else none) = none from hh))
          clear hh
          go_wp2_with (first | (go_at_call 37; ((with_reducible refine (index37_D _ _ _ _ _ _ _ _ _ _ _ D B vs _ _ (HMW.out.exts (by repeat (first | exact Exts.refl _ | apply Exts.andR | apply Exts.alloc | apply Exts.wext | apply Exts.drew | apply Exts.drewN))) (RowF.exts HVS.out (by repeat (first | exact Exts.refl _ | apply Exts.andR | apply Exts.alloc | apply Exts.wext | apply Exts.drew | apply Exts.drewN))) (HBW.out.exts (by repeat (first | exact Exts.refl _ | apply Exts.andR | apply Exts.alloc | apply Exts.wext | apply Exts.drew | apply Exts.drewN))) HV.out HIV.out (Exts.cell (by repeat (first | exact Exts.refl _ | apply Exts.andR | apply Exts.alloc | apply Exts.wext | apply Exts.drew | apply Exts.drewN)) CM.out) (by simp [go_sem]) HO.out).mono ?_); rintro e w' ⟨rfl, x2, rfl⟩)))
          refine ⟨⟨k + 1, by omega, by go_num, (by repeat (first | exact Exts.refl _ | apply Exts.andR | apply Exts.alloc | apply Exts.wext | apply Exts.drew | apply Exts.drewN)), fun j hj => ?_⟩, ?_⟩
          · by_cases hjk : j = k
            · rw [hjk, HN.out]
            · exact HI.out j (by omega)
          · simp [intOf]; omega
        | some q =>
          have HO := Lib.hid (show outI (hitF D B vs) = (q : Int) by rw [hh]; rfl)
          have HN := Lib.hid (HROW.out.trans (show (if true = true then hitF D B vs else none) = some q from hh))
          have HF := Lib.hid (conFind_some HI.out HN.out (by rw [HL.out]; exact hlt))
          clear hh
          go_wp2_with (first | (go_at_call 37; ((with_reducible refine (index37_D _ _ _ _ _ _ _ _ _ _ _ D B vs _ _ (HMW.out.exts (by repeat (first | exact Exts.refl _ | apply Exts.andR | apply Exts.alloc | apply Exts.wext | apply Exts.drew | apply Exts.drewN))) (RowF.exts HVS.out (by repeat (first | exact Exts.refl _ | apply Exts.andR | apply Exts.alloc | apply Exts.wext | apply Exts.drew | apply Exts.drewN))) (HBW.out.exts (by repeat (first | exact Exts.refl _ | apply Exts.andR | apply Exts.alloc | apply Exts.wext | apply Exts.drew | apply Exts.drewN))) HV.out HIV.out (Exts.cell (by repeat (first | exact Exts.refl _ | apply Exts.andR | apply Exts.alloc | apply Exts.wext | apply Exts.drew | apply Exts.drewN)) CM.out) (by simp [go_sem]) HO.out).mono ?_); rintro e w' ⟨rfl, x2, rfl⟩)))
          go_ret3
          exact ⟨by rw [HF.out]; rfl, HX.out.trans (by repeat (first | exact Exts.refl _ | apply Exts.andR | apply Exts.alloc | apply Exts.wext | apply Exts.drew | apply Exts.drewN))⟩
    · obtain rfl : k = n := by omega
      have HF := Lib.hid (conFind_none (by rw [HL.out]; exact HI.out))
      go_wp2
      go_ret3
      exact ⟨by rw [HF.out]; rfl, HX.out.trans (by repeat (first | exact Exts.refl _ | apply Exts.andR | apply Exts.alloc | apply Exts.wext | apply Exts.drew | apply Exts.drewN))⟩
theorem consistent13 {S S1 : Nat → Prop} (lo bo : Option Addr) (n1 c1 n c : Nat) (D : List Dm) (B : List Cs) (w : World) (hd : Dims S w lo n1 c1 D) (hb : Cases S1 w bo n c B) (hn : n ≤ 2000) :
    Calls Try.prog 13 #[.slice lo n1 c1, .slice bo n c] w fun e w' => e = .returned (.tuple #[.int .i64 (consD D B).1, .int .i64 (consD D B).2.1, .bool (consD D B).2.2]) ∧ Exts w w' := by
  unfold consD
  cases hck : checkD D B with
  | true =>
    rw [if_pos rfl]
    exact consistent13_yes lo bo n1 c1 n c D B w hd hb hn hck
  | false =>
    rw [if_neg (by decide)]
    exact consistent13_no lo bo n1 c1 n c D B w hd hb hn hck
end Go.Proofs.Ytodgohilfbggjaa

/- Consistent of the reference of chapter 39. No condition but at most 2000 cases. -/
namespace Go.Proofs.Ytodgohilfbggjaa
open Go.RowKit Go.Maps
set_option linter.unusedSimpArgs false
set_option linter.unusedVariables false
set_option maxRecDepth 100000
set_option maxHeartbeats 4000000
theorem refCons14_no {S S1 : Nat → Prop} (lo bo : Option Addr) (n1 c1 n c : Nat) (D : List Dm) (B : List Cs) (w : World) (hd : Dims S w lo n1 c1 D) (hb : Cases S1 w bo n c B) (hn : n ≤ 2000) (hck : checkD D B = false) :
    Calls Try.prog 14 #[.slice lo n1 c1, .slice bo n c] w fun e w' => e = .returned (.tuple #[.int .i64 (-1), .int .i64 (-1), .bool false]) ∧ Exts w w' := by
  have HD := Lib.hid hd
  have HB := Lib.hid hb
  have HCK := Lib.hid hck
  clear hd hb hck
  go_enter Try.func14, Try.ntmps14
  go_wp2_with (first | (go_at_call 25; ((with_reducible refine (refRight25 _ _ _ _ _ _ D B _ _ (HD.out.exts (by repeat (first | exact Exts.refl _ | apply Exts.andR | apply Exts.alloc | apply Exts.wext | apply Exts.drew | apply Exts.drewN))) (HB.out.exts (by repeat (first | exact Exts.refl _ | apply Exts.andR | apply Exts.alloc | apply Exts.wext | apply Exts.drew | apply Exts.drewN))) hn HCK.out).mono ?_); rintro e w' ⟨rfl, x1, rfl⟩)))
  go_ret3
  exact ⟨rfl, (by repeat (first | exact Exts.refl _ | apply Exts.andR | apply Exts.alloc | apply Exts.wext | apply Exts.drew | apply Exts.drewN))⟩
theorem refCons14_yes {S S1 : Nat → Prop} (lo bo : Option Addr) (n1 c1 n c : Nat) (D : List Dm) (B : List Cs) (w : World) (hd : Dims S w lo n1 c1 D) (hb : Cases S1 w bo n c B) (hn : n ≤ 2000) (hck : checkD D B = true) :
    Calls Try.prog 14 #[.slice lo n1 c1, .slice bo n c] w fun e w' => e = .returned (.tuple #[.int .i64 (outC (conFind D B)).1, .int .i64 (outC (conFind D B)).2.1, .bool (outC (conFind D B)).2.2]) ∧ Exts w w' := by
  have HL := Lib.hid hb.1
  have HD := Lib.hid hd
  have HB := Lib.hid hb
  have HCK := Lib.hid hck
  have HV := Lib.hid (check_vecs hck)
  have HRT := Lib.hid (check_right hck)
  clear hd hb hck
  go_enter Try.func14, Try.ntmps14
  go_wp2_with (first | (go_at_call 25; ((with_reducible refine (refRight25 _ _ _ _ _ _ D B _ _ (HD.out.exts (by repeat (first | exact Exts.refl _ | apply Exts.andR | apply Exts.alloc | apply Exts.wext | apply Exts.drew | apply Exts.drewN))) (HB.out.exts (by repeat (first | exact Exts.refl _ | apply Exts.andR | apply Exts.alloc | apply Exts.wext | apply Exts.drew | apply Exts.drewN))) hn HCK.out).mono ?_); rintro e w' ⟨rfl, x1, rfl⟩)) | (go_at_call 36; ((with_reducible refine (closures36 _ _ _ D _ (HD.out.exts (by repeat (first | exact Exts.refl _ | apply Exts.andR | apply Exts.alloc | apply Exts.wext | apply Exts.drew | apply Exts.drewN))) HRT.out).mono ?_); rintro e w' ⟨mo, mc, rfl, ⟨x3, rfl⟩, hm⟩; (try simp only [wext_and] at hm); (have HM := Lib.hid hm); clear hm)))
  refine wp_name ?_
  intro W hW
  have HX := Lib.hid (show Exts w W by rw [hW]; exact (by repeat (first | exact Exts.refl _ | apply Exts.andR | apply Exts.alloc | apply Exts.wext | apply Exts.drew | apply Exts.drewN)))
  have HMW := Lib.hid (show Ords W mo n1 mc D by rw [hW]; exact HM.out.exts (by repeat (first | exact Exts.refl _ | apply Exts.andR | apply Exts.alloc | apply Exts.wext | apply Exts.drew | apply Exts.drewN)))
  have HBW := Lib.hid (HB.out.exts HX.out)
  clear hW HM HB HD
  have HM := HMW
  clear HMW
  go_loopw [8] (fun i wr => ∃ (k : Nat), k ≤ n ∧ i = .int .i64 k ∧ Exts W wr ∧ ∀ j, j < k → conRow D B j = none) (fun i _ => n - (intOf i).toNat)
  case atStart => exact ⟨0, by omega, rfl, Exts.refl _, fun j hj => by omega⟩
  case round =>
    obtain ⟨k, hk, rfl, ⟨x, rfl⟩, hin⟩ := hrel
    have HI := Lib.hid hin
    clear hin
    by_cases hlt : k < n
    · obtain ⟨b, off, id, vs, gr, vo2, vc2, rfl, lb, hc, e0, e1, e2, hvs, hid⟩ := HBW.out.get hlt
      have HVS := Lib.hid hvs
      have HC := Lib.hid hc
      have HIV := Lib.hid (show inD D vs = true from HV.out _ (List.mem_of_getElem? hc))
      have HROW := Lib.hid (show conRow D B k = if gr = true then hitF D B vs else none by unfold conRow; rw [hc])
      clear hvs hc hid
      go_wp2
      go_loopw [9] (fun i wr => ∃ (q : Nat), q ≤ n ∧ i = .int .i64 q ∧ Exts W wr ∧ (gr = true → ∀ j, j < q → hitI D B vs j = false)) (fun i _ => n - (intOf i).toNat)
      case atStart => exact ⟨0, by omega, rfl, (by repeat (first | exact Exts.refl _ | apply Exts.andR | apply Exts.alloc | apply Exts.wext | apply Exts.drew | apply Exts.drewN)), fun _ j hj => by omega⟩
      case round =>
        obtain ⟨q, hq, rfl, ⟨y, rfl⟩, hz⟩ := hrel
        have HZ := Lib.hid hz
        clear hz
        by_cases hlq : q < n
        · obtain ⟨b', off', id', ds, gr', vo', vc', e, lb', hc', e0', e1', e2', hds, _⟩ := HBW.out.get hlq
          cases e
          have HDS := Lib.hid hds
          have HC' := Lib.hid hc'
          have HID := Lib.hid (show inD D ds = true from HV.out _ (List.mem_of_getElem? hc'))
          obtain ⟨ks, hks⟩ : ∃ ks, blkD D vs ds = ks := ⟨_, rfl⟩
          obtain ⟨m', hm'⟩ : ∃ m', ks.length = m' := ⟨_, rfl⟩
          have HK := Lib.hid hks
          have HMM := Lib.hid hm'
          have HH := Lib.hid (show hitI D B vs q = (!gr' && decide (m' = 0)) by rw [hitI_of hc', hks, ← hm']; cases ks <;> simp)
          clear hds hc' hks hm'
          cases gr with
          | false =>
            go_wp2
            first | refine wp_region_ext_lit2 (by kernel_rfl) (by kernel_rfl) ?_ | refine wp_region_ext_lit (by kernel_rfl) (by kernel_rfl) ?_
            repeat (go_big_quiet_step (fail))
            refine wpQuiet_nil ?_
            intro _ hwq'
            obtain ⟨xq, hwq''⟩ := hwq'
            subst hwq''
            go_wp2
            refine ⟨⟨q + 1, by omega, by go_num, (by repeat (first | exact Exts.refl _ | apply Exts.andR | apply Exts.alloc | apply Exts.wext | apply Exts.drew | apply Exts.drewN)), fun h => by cases h⟩, ?_⟩
            simp [intOf]; omega
          | true =>
            have HZ2 := Lib.hid (HZ.out rfl)
            cases gr' with
            | true =>
              go_wp2
              first | refine wp_region_ext_lit2 (by kernel_rfl) (by kernel_rfl) ?_ | refine wp_region_ext_lit (by kernel_rfl) (by kernel_rfl) ?_
              repeat (go_big_quiet_step (fail))
              refine wpQuiet_nil ?_
              intro _ hwq'
              obtain ⟨xq, hwq''⟩ := hwq'
              subst hwq''
              go_wp2
              refine ⟨⟨q + 1, by omega, by go_num, (by repeat (first | exact Exts.refl _ | apply Exts.andR | apply Exts.alloc | apply Exts.wext | apply Exts.drew | apply Exts.drewN)), fun _ j hj => ?_⟩, ?_⟩
              · by_cases hjq : j = q
                · rw [hjq, HH.out]; rfl
                · exact HZ2.out j (by omega)
              · simp [intOf]; omega
            | false =>
              by_cases h0 : m' = 0
              · have q1 : ((m' : Int) == 0) = true := by simp; omega
                have q2 : (m' == 0) = true := by simpa using h0
                have HN := Lib.hid (HROW.out.trans (show (if true = true then hitF D B vs else none) = some q from find_range' (by rw [HL.out]; exact hlq) HZ2.out (by rw [HH.out, h0]; rfl)))
                have HF := Lib.hid (conFind_some HI.out HN.out (by rw [HL.out]; exact hlt))
                clear h0
                go_wp2
                refine wp_name ?_
                intro W2 hW2
                have e12 : Exts W W2 := by rw [hW2]; exact (by repeat (first | exact Exts.refl _ | apply Exts.andR | apply Exts.alloc | apply Exts.wext | apply Exts.drew | apply Exts.drewN))
                have r1 : ∀ w', Exts W2 w' → w'.cell? ⟨b, off + k * 3 + 1, none⟩ = some (.slice vo2 vs.length vc2) := all_at e12 e1
                have r2 : ∀ w', Exts W2 w' → w'.cell? ⟨b, off + k * 3 + 2, none⟩ = some (.bool true) := all_at e12 e2
                have r3 : ∀ w', Exts W2 w' → w'.cell? ⟨b, off + q * 3 + 1, none⟩ = some (.slice vo' ds.length vc') := all_at e12 e1'
                have r4 : ∀ w', Exts W2 w' → w'.cell? ⟨b, off + q * 3 + 2, none⟩ = some (.bool false) := all_at e12 e2'
                have KM := Lib.hid (HM.out.exts e12)
                have KV := Lib.hid (RowF.exts HVS.out e12)
                have KD := Lib.hid (RowF.exts HDS.out e12)
                have EX := Lib.hid e12
                clear hW2 e12
                have i1 : (0 : Int) ≤ (k : Int) := by omega
                have i2 : (k : Int) < (n : Int) := by omega
                have i3 : (0 : Int) ≤ (q : Int) := by omega
                have i4 : (q : Int) < (n : Int) := by omega
                go_region_held3 (fun w' => Exts W2 w') (first | assumption | exact (Exts.refl _).drew | exact (by repeat (first | exact Exts.refl _ | apply Exts.andR | apply Exts.alloc | apply Exts.wext | apply Exts.drew | apply Exts.drewN))) ((first | (go_at_call 40; (with_reducible refine (blocks40_N _ _ _ _ _ _ _ _ _ D vs ds ks m' _ (KM.out.exts (by assumption)) (RowF.exts KV.out (by assumption)) (RowF.exts KD.out (by assumption)) HIV.out HID.out HK.out HMM.out).mono ?_); rintro e w' ⟨ro, rc, rfl, ⟨x5, rfl⟩, hks⟩; clear hks)))

                all_goals
                  go_wp2
                  go_ret3
                  exact ⟨by rw [HF.out]; rfl, HX.out.trans (EX.out.trans (by repeat (first | exact Exts.refl _ | apply Exts.andR | apply Exts.alloc | apply Exts.wext | apply Exts.drew | apply Exts.drewN)))⟩
              · have q1 : ((m' : Int) == 0) = false := by simp; omega
                have q2 : (m' == 0) = false := by simpa using h0
                have HQ := Lib.hid (show hitI D B vs q = false by rw [HH.out]; simp [h0])
                clear h0
                go_wp2
                refine wp_name ?_
                intro W2 hW2
                have e12 : Exts W W2 := by rw [hW2]; exact (by repeat (first | exact Exts.refl _ | apply Exts.andR | apply Exts.alloc | apply Exts.wext | apply Exts.drew | apply Exts.drewN))
                have r1 : ∀ w', Exts W2 w' → w'.cell? ⟨b, off + k * 3 + 1, none⟩ = some (.slice vo2 vs.length vc2) := all_at e12 e1
                have r2 : ∀ w', Exts W2 w' → w'.cell? ⟨b, off + k * 3 + 2, none⟩ = some (.bool true) := all_at e12 e2
                have r3 : ∀ w', Exts W2 w' → w'.cell? ⟨b, off + q * 3 + 1, none⟩ = some (.slice vo' ds.length vc') := all_at e12 e1'
                have r4 : ∀ w', Exts W2 w' → w'.cell? ⟨b, off + q * 3 + 2, none⟩ = some (.bool false) := all_at e12 e2'
                have KM := Lib.hid (HM.out.exts e12)
                have KV := Lib.hid (RowF.exts HVS.out e12)
                have KD := Lib.hid (RowF.exts HDS.out e12)
                have EX := Lib.hid e12
                clear hW2 e12
                have i1 : (0 : Int) ≤ (k : Int) := by omega
                have i2 : (k : Int) < (n : Int) := by omega
                have i3 : (0 : Int) ≤ (q : Int) := by omega
                have i4 : (q : Int) < (n : Int) := by omega
                go_region_held3 (fun w' => Exts W2 w') (first | assumption | exact (Exts.refl _).drew | exact (by repeat (first | exact Exts.refl _ | apply Exts.andR | apply Exts.alloc | apply Exts.wext | apply Exts.drew | apply Exts.drewN))) ((first | (go_at_call 40; (with_reducible refine (blocks40_N _ _ _ _ _ _ _ _ _ D vs ds ks m' _ (KM.out.exts (by assumption)) (RowF.exts KV.out (by assumption)) (RowF.exts KD.out (by assumption)) HIV.out HID.out HK.out HMM.out).mono ?_); rintro e w' ⟨ro, rc, rfl, ⟨x5, rfl⟩, hks⟩; clear hks)))

                all_goals
                  go_wp2
                  refine ⟨⟨q + 1, by omega, by go_num, EX.out.trans (by repeat (first | exact Exts.refl _ | apply Exts.andR | apply Exts.alloc | apply Exts.wext | apply Exts.drew | apply Exts.drewN)), fun _ j hj => ?_⟩, ?_⟩
                  · by_cases hjq : j = q
                    · rw [hjq, HQ.out]
                    · exact HZ2.out j (by omega)
                  · simp [intOf]; omega
        · obtain rfl : q = n := by omega
          have HN := Lib.hid (show conRow D B k = none by
            rw [HROW.out]
            cases gr with
            | false => rfl
            | true =>
              rw [if_pos rfl]
              unfold hitF
              rw [List.find?_eq_none]
              intro j hj
              rw [HZ.out rfl j (by have := List.mem_range.1 hj; rw [HL.out] at this; exact this)]
              simp)
          go_wp2
          refine ⟨⟨k + 1, by omega, by go_num, (by repeat (first | exact Exts.refl _ | apply Exts.andR | apply Exts.alloc | apply Exts.wext | apply Exts.drew | apply Exts.drewN)), fun j hj => ?_⟩, ?_⟩
          · by_cases hjk : j = k
            · rw [hjk, HN.out]
            · exact HI.out j (by omega)
          · simp [intOf]; omega
    · obtain rfl : k = n := by omega
      have HF := Lib.hid (conFind_none (by rw [HL.out]; exact HI.out))
      go_wp2
      go_ret3
      exact ⟨by rw [HF.out]; rfl, HX.out.trans (by repeat (first | exact Exts.refl _ | apply Exts.andR | apply Exts.alloc | apply Exts.wext | apply Exts.drew | apply Exts.drewN))⟩
theorem refCons14 {S S1 : Nat → Prop} (lo bo : Option Addr) (n1 c1 n c : Nat) (D : List Dm) (B : List Cs) (w : World) (hd : Dims S w lo n1 c1 D) (hb : Cases S1 w bo n c B) (hn : n ≤ 2000) :
    Calls Try.prog 14 #[.slice lo n1 c1, .slice bo n c] w fun e w' => e = .returned (.tuple #[.int .i64 (consD D B).1, .int .i64 (consD D B).2.1, .bool (consD D B).2.2]) ∧ Exts w w' := by
  unfold consD
  cases hck : checkD D B with
  | true =>
    rw [if_pos rfl]
    exact refCons14_yes lo bo n1 c1 n c D B w hd hb hn hck
  | false =>
    rw [if_neg (by decide)]
    exact refCons14_no lo bo n1 c1 n c D B w hd hb hn hck
end Go.Proofs.Ytodgohilfbggjaa

/- The example of the laws of chapter 39: two dimensions of three values, and two cases. Plain. -/
namespace Go.Proofs.Ytodgohilfbggjaa
open Go.RowKit
set_option linter.unusedSimpArgs false
set_option linter.unusedVariables false

theorem wk_in12 {f : Rel} {lo : Nat} : ∀ {n a b : Nat}, Wk f lo n a b → n = 0 ∨ b < 12
  | 0, _, _, _ => .inl rfl
  | n + 1, a, b, ⟨c, _, hc, _, h⟩ => by
    right
    rcases wk_in12 h with rfl | h2
    · have : c = b := h
      omega
    · exact h2
theorem clR_eq {f g : Rel} (hb : Between f g) (hc : Closed g) (hf : ∀ a b, f a b = true → a < 12) (hg : ∀ a b, g a b = true → a < 12 ∧ b < 12) : clR f = g := by
  funext a b
  by_cases h : a < 12 ∧ b < 12
  · exact clR_at hb hc h.1 h.2
  · rw [Bool.eq_iff_iff]
    constructor
    · intro hr
      obtain ⟨n, hn⟩ := clR_iff.1 hr
      have hb12 : b < 12 := by
        rcases wk_in12 hn with h0 | h0
        · omega
        · exact h0
      obtain ⟨c, _, _, h1, _⟩ := hn
      exact absurd ⟨hf a c h1, hb12⟩ h
    · intro hr
      exact absurd (hg a b hr) h
def tabR (l : List (Nat × Nat)) : Rel := fun a b => l.any fun p => p.1 == a && p.2 == b
theorem tab_in {l : List (Nat × Nat)} (h : l.all (fun p => decide (p.1 < 12) && decide (p.2 < 12)) = true) {a b : Nat} (hr : tabR l a b = true) : a < 12 ∧ b < 12 := by
  simp only [tabR, List.any_eq_true, Bool.and_eq_true, beq_iff_eq] at hr
  obtain ⟨p, hp, rfl, rfl⟩ := hr
  have := List.all_eq_true.1 h p hp
  simpa using this
theorem pair_in {ps : List Pr} (h : ps.all (prIn 12) = true) {a b : Nat} (hr : pairRel ps a b = true) : a < 12 := by
  simp only [pairRel, List.any_eq_true, Bool.and_eq_true, beq_iff_eq] at hr
  obtain ⟨p, hp, h1, h2⟩ := hr
  have := List.all_eq_true.1 h p hp
  simp only [prIn, Bool.and_eq_true, decide_eq_true_eq] at this
  omega
def closedT (l : List (Nat × Nat)) : Bool := l.all fun p => l.all fun q => !(p.2 == q.1) || l.any fun r => r.1 == p.1 && r.2 == q.2
theorem closedT_ok {l : List (Nat × Nat)} (h : closedT l = true) : Closed (tabR l) := by
  intro a b c _ _ _ h1 h2
  simp only [tabR, List.any_eq_true, Bool.and_eq_true, beq_iff_eq] at h1 h2 ⊢
  obtain ⟨p, hp, rfl, rfl⟩ := h1
  obtain ⟨q, hq, h3, rfl⟩ := h2
  have := List.all_eq_true.1 (List.all_eq_true.1 h p hp) q hq
  rw [show (p.2 == q.1) = true by simpa using h3.symm] at this
  simp only [Bool.not_true, Bool.false_or, List.any_eq_true, Bool.and_eq_true, beq_iff_eq] at this
  exact this
def walkB (f : Rel) (lo : Nat) : Nat → Nat → Nat → Bool
  | 0, a, b => a == b
  | n + 1, a, b => (List.range 12).any fun c => decide (lo ≤ c) && (f a c && walkB f lo n c b)
theorem walkB_iff {f : Rel} {lo : Nat} : ∀ {n a b : Nat}, walkB f lo n a b = true ↔ Wk f lo n a b
  | 0, a, b => by simp [walkB, Wk]
  | n + 1, a, b => by
    simp only [walkB, Wk, List.any_eq_true, List.mem_range, Bool.and_eq_true, decide_eq_true_eq]
    constructor
    · rintro ⟨c, h1, h2, h3, h4⟩
      exact ⟨c, h2, h1, h3, walkB_iff.1 h4⟩
    · rintro ⟨c, h1, h2, h3, h4⟩
      exact ⟨c, h2, h1, h3, walkB_iff.2 h4⟩
theorem between_tab {f : Rel} {l : List (Nat × Nat)} (h1 : ∀ a b, a < 12 → b < 12 → f a b = true → tabR l a b = true) (h2 : l.all (fun p => walkB f 0 1 p.1 p.2 || (walkB f 0 2 p.1 p.2 || (walkB f 0 3 p.1 p.2 || walkB f 0 4 p.1 p.2))) = true) : Between f (tabR l) := by
  refine ⟨h1, fun a b _ _ hr => ?_⟩
  simp only [tabR, List.any_eq_true, Bool.and_eq_true, beq_iff_eq] at hr
  obtain ⟨p, hp, rfl, rfl⟩ := hr
  have := List.all_eq_true.1 h2 p hp
  simp only [Bool.or_eq_true] at this
  rcases this with h | h | h | h
  · exact ⟨0, walkB_iff.1 h⟩
  · exact ⟨1, walkB_iff.1 h⟩
  · exact ⟨2, walkB_iff.1 h⟩
  · exact ⟨3, walkB_iff.1 h⟩
abbrev dmO : List Pr := [(0, 1), (1, 2)]
abbrev tabO : List (Nat × Nat) := [(0, 1), (1, 2), (0, 2)]
theorem lo_of {ps : List Pr} {l : List (Nat × Nat)} (h : ps.all (fun p => l.any fun q => p.1 == (q.1 : Int) && p.2 == (q.2 : Int)) = true) : ∀ a b, a < 12 → b < 12 → pairRel ps a b = true → tabR l a b = true := by
  intro a b _ _ hr
  simp only [pairRel, List.any_eq_true, Bool.and_eq_true, beq_iff_eq] at hr
  obtain ⟨p, hp, h1, h2⟩ := hr
  have := List.all_eq_true.1 h p hp
  simp only [List.any_eq_true, Bool.and_eq_true, beq_iff_eq] at this
  obtain ⟨q, hq, h3, h4⟩ := this
  simp only [tabR, List.any_eq_true, Bool.and_eq_true, beq_iff_eq]
  exact ⟨q, hq, by omega, by omega⟩
theorem clO : clR (pairRel dmO) = tabR tabO := clR_eq (between_tab (lo_of (by decide)) (by decide +kernel)) (closedT_ok (by decide +kernel)) (fun a b h => pair_in (by decide) h) (fun a b h => tab_in (by decide) h)
abbrev gO : Rel := diagR (tabR tabO) 3
theorem closedO : closedD 3 dmO = (gO, true) := by
  rw [closed_yes (by decide) (by rw [clO]; decide +kernel), clO]
  rfl
abbrev lO : List Dm := [(3, dmO), (3, dmO)]
abbrev bO : List Cs := [⟨1, [1, 1], true⟩, ⟨2, [0, 1], false⟩]
theorem rightO : rightD lO = true := by simp [rightD, closedO]
/-- The order of two values in a dimension of the example, computed. -/
def atT (a b : List Int) (i : Nat) : Bool := match a[i]?, b[i]? with | some x, some y => decide (i < 2) && (inV 3 x && (inV 3 y && gO x.toNat y.toNat)) | _, _ => false
theorem at_lO : atI lO = atT := by
  funext a b i
  unfold atI atT
  match i with
  | 0 => cases a[0]? <;> cases b[0]? <;> simp [atD, closedO]
  | 1 => cases a[1]? <;> cases b[1]? <;> simp [atD, closedO]
  | i + 2 =>
    have h : lO[i + 2]? = none := rfl
    rw [h]
    have h2 : ¬ i + 2 < 2 := by omega
    cases a[i + 2]? <;> cases b[i + 2]? <;> simp [h2]
theorem blk_lO : blkD lO = fun a b => ((List.range 2).filter fun i => !atT a b i).map Int.ofNat := by
  funext a b
  unfold blkD blkK
  rw [at_lO]
  rfl
theorem keeps_lO : keepsD lO = fun c l => if c.grant = true then ((List.range 2).filter fun i => !atT c.vals l i).map Int.ofNat else ((List.range 2).filter fun i => !atT l c.vals i).map Int.ofNat := by
  funext c l
  unfold keepsD
  rw [blk_lO]
theorem chk_lO (B : List Cs) (r : Bool) (h : ((B.all fun c => inD lO c.vals) && decide (B.map Cs.id).Nodup) = r) : checkD lO B = r := by
  unfold checkD
  rw [rightO, h]
  rfl
theorem chkO : checkD lO bO = true := chk_lO _ _ (by decide)
theorem chk3 (al : List Int) (g : Bool) (h : inD lO al = true) : checkD lO [⟨1, [1, 1], true⟩, ⟨2, [0, 1], false⟩, ⟨3, al, g⟩] = true := chk_lO _ _ (by
  simp only [List.all_cons, List.all_nil, h]
  rfl)
theorem chkX : checkD lO [⟨0, [1], false⟩] = false := chk_lO _ _ (by decide)
theorem for_lO (B : List Cs) (al : List Int) (r : Int × List Int × Int) (h1 : checkD lO B = true) (h2 : inD lO al = true) (h3 : (whatD lO B al, byK lO B al B.length, (0 : Int)) = r) : forD lO B al = r := by
  rw [← h3]
  unfold forD
  rw [h1, h2]
  rfl
theorem for1 : forD lO bO [2, 1] = (1, [0], 0) := for_lO _ _ _ chkO (by decide) (by
  simp only [whatD, sideB, byK, forI, forcesD, keeps_lO]
  decide +kernel
  )
theorem for2 : forD lO bO [0, 0] = (2, [1], 0) := for_lO _ _ _ chkO (by decide) (by
  simp only [whatD, sideB, byK, forI, forcesD, keeps_lO]
  decide +kernel
  )
theorem for3 : forD lO bO [0, 2] = (0, [], 0) := for_lO _ _ _ chkO (by decide) (by
  simp only [whatD, sideB, byK, forI, forcesD, keeps_lO]
  decide +kernel
  )
theorem for4 : forD lO bO [2, 0] = (0, [], 0) := for_lO _ _ _ chkO (by decide) (by
  simp only [whatD, sideB, byK, forI, forcesD, keeps_lO]
  decide +kernel
  )
theorem add1 : addD lO bO ⟨3, [1, 2], false⟩ = ([], 25) := by
  unfold addD
  rw [chkO]
  simp only [forcesD, keeps_lO]
  rfl
theorem add2 : addD lO bO ⟨3, [1, 0], false⟩ = ([⟨1, [1, 1], true⟩, ⟨2, [0, 1], false⟩, ⟨3, [1, 0], false⟩], 0) := by
  unfold addD
  rw [chkO]
  simp only [forcesD, keeps_lO]
  rfl
theorem hit_lO : hitI lO = fun B vs k => match B[k]? with | some d => !d.grant && (((List.range 2).filter fun i => !atT vs d.vals i).map Int.ofNat).isEmpty | none => false := by
  funext B vs k
  unfold hitI
  rw [blk_lO]
  rfl
theorem cons_lO (B : List Cs) (r : Int × Int × Bool) (h1 : checkD lO B = true) (h2 : outC (conFind lO B) = r) : consD lO B = r := by
  unfold consD
  rw [if_pos h1, h2]
theorem cons1 : consD lO [⟨1, [1, 1], true⟩, ⟨2, [0, 1], false⟩, ⟨3, [0, 0], true⟩] = (2, 1, false) := cons_lO _ _ (chk3 _ _ (by decide)) (by
  simp only [conFind, conRow, hitF, hit_lO]
  decide +kernel)
theorem cons2 : consD lO bO = (-1, -1, true) := cons_lO _ _ chkO (by
  simp only [conFind, conRow, hitF, hit_lO]
  decide +kernel)
theorem ovr1 : ovrD lO [⟨1, [1, 1], true⟩, ⟨2, [0, 1], false⟩, ⟨3, [2, 2], true⟩] 0 = ([2], 0) := by
  unfold ovrD
  rw [chk3 _ _ (by decide)]
  simp only [ovrK, lostI, lostC, whatD, sideB, forcesD, keeps_lO]
  decide +kernel
theorem dist1 : distD lO bO [2, 0] false = ([[1]], 0) := by
  unfold distD distK
  rw [chkO]
  simp only [keeps_lO]
  rfl
theorem dist2 : distD lO bO [2, 0] true = ([[0]], 0) := by
  unfold distD distK
  rw [chkO]
  simp only [keeps_lO]
  rfl
end Go.Proofs.Ytodgohilfbggjaa
