/- Lemmas that the laws of this seat share, 4 texts in one: AddC, Del, OverPlain, Dist. No condition of their own. -/
import Derived.Test.YtgmjcgjbbogefaaGreatM13
import Derived.Lib.SliceRun
import Derived.Deep.RegionLaw
/- Add of package precedent. No condition but at most 100 cases. -/
namespace Go.Proofs.YtgmjcgjbbogefaaGreat
open Go.RowKit Go.Maps
set_option linter.unusedSimpArgs false
set_option linter.unusedVariables false

def idI (B : List Cs) (x : Int) (k : Nat) : Bool := match B[k]? with | some d => d.id == x | none => false
def idF (B : List Cs) (x : Int) : Option Nat := (List.range B.length).find? (idI B x)
theorem idI_of {B : List Cs} {x : Int} {k : Nat} {d : Cs} (h : B[k]? = some d) : idI B x k = (d.id == x) := by
  unfold idI
  rw [h]
theorem idF_any (B : List Cs) (x : Int) : decide ((0 : Int) ≤ outI (idF B x)) = B.any fun d => d.id == x := by
  cases h : idF B x with
  | none =>
    have : (B.any fun d => d.id == x) = false := by
      rw [List.any_eq_false]
      intro d hd
      obtain ⟨k, hk⟩ := List.getElem?_of_mem hd
      unfold idF at h
      rw [List.find?_eq_none] at h
      have := h k (List.mem_range.2 (List.getElem?_eq_some_iff.1 hk).1)
      rw [idI_of hk] at this
      simpa using this
    rw [this]
    rfl
  | some k =>
    have : (B.any fun d => d.id == x) = true := by
      unfold idF at h
      have h1 := List.find?_some h
      have h2 := List.mem_range.1 (List.mem_of_find?_eq_some h)
      rw [idI_of (List.getElem?_eq_getElem h2)] at h1
      rw [List.any_eq_true]
      exact ⟨_, List.getElem_mem h2, h1⟩
    rw [this]
    simp [outI]
set_option maxRecDepth 100000
set_option maxHeartbeats 2000000
theorem same42 (cb : Nat) (dso : Option Addr) (dn dc : Nat) (id x : Int) (gr r : Bool) (w : World) (cc : w.cell? ⟨cb, 0, none⟩ = some (.int .i64 x)) (hr : (id == x) = r) :
    Calls Tryz.prog 31 #[.agg #[.int .i64 id, .slice dso dn dc, .bool gr], .pointer (some ⟨cb, 0, none⟩)] w fun e w' => e = .returned (.bool r) ∧ Exts w w' := by
  have lc : cb < w.heap.size := World.block_lt_of_cell? w _ cc
  have HR := Lib.hid hr
  go_enter Tryz.func31, Tryz.ntmps31
  go_wp2
  go_ret
  exact ⟨by rw [← HR.out]; rfl, (by repeat (first | exact Exts.refl _ | apply Exts.andR | apply Exts.alloc | apply Exts.wext | apply Exts.drew | apply Exts.drewN))⟩
theorem index37_id {S1 : Nat → Prop} (cb : Nat) (bo : Option Addr) (n c : Nat) (B : List Cs) (x : Int) (w : World) (hb : Cases S1 w bo n c B) (cc : w.cell? ⟨cb, 0, none⟩ = some (.int .i64 x)) :
    Calls Tryz.prog 14 #[.slice bo n c, .func (.func 31) #[] #[.pointer (some ⟨cb, 0, none⟩)]] w fun e w' => e = .returned (.int .i64 (outI (idF B x))) ∧ Exts w w' := by
  have hm := hb.nle
  unfold maxLen at hm
  have lc : cb < w.heap.size := World.block_lt_of_cell? w _ cc
  have HL := Lib.hid hb.1
  have HB := Lib.hid hb
  have CC := Lib.hid cc
  clear hb
  go_enter Tryz.func14, Tryz.ntmps14
  go_wp2
  go_loopw [8] (fun i wr => ∃ (k : Nat), k ≤ n ∧ i = .int .i64 k ∧ Exts w wr ∧ ∀ j, j < k → idI B x j = false) (fun i _ => n - (intOf i).toNat)
  case atStart => exact ⟨0, by omega, rfl, Exts.refl _, fun j hj => by omega⟩
  case round =>
    obtain ⟨k, hk, rfl, ⟨y, rfl⟩, hin⟩ := hrel
    have HI := Lib.hid hin
    clear hin
    by_cases hlt : k < n
    · obtain ⟨b, off, id, ds, gr, vo2, vc2, rfl, lb, hc, e0, e1, e2, hds, hid⟩ := HB.out.get hlt
      obtain ⟨r, hr⟩ : ∃ r, (id == x) = r := ⟨_, rfl⟩
      have HH := Lib.hid (show idI B x k = r by rw [idI_of hc]; exact hr)
      have HR := Lib.hid hr
      clear hds hc hid hr
      cases r with
      | true =>
        have HO := Lib.hid (show idF B x = some k from find_range' (by rw [HL.out]; exact hlt) HI.out HH.out)
        go_wp2_with (first | (go_at_call 31; ((with_reducible refine (same42 _ _ _ _ _ _ _ _ _ (Exts.cell (by repeat (first | exact Exts.refl _ | apply Exts.andR | apply Exts.alloc | apply Exts.wext | apply Exts.drew | apply Exts.drewN)) CC.out) HR.out).mono ?_); rintro e w' ⟨rfl, x2, rfl⟩)))
        go_ret
        exact ⟨by rw [HO.out]; rfl, (by repeat (first | exact Exts.refl _ | apply Exts.andR | apply Exts.alloc | apply Exts.wext | apply Exts.drew | apply Exts.drewN))⟩
      | false =>
        go_wp2_with (first | (go_at_call 31; ((with_reducible refine (same42 _ _ _ _ _ _ _ _ _ (Exts.cell (by repeat (first | exact Exts.refl _ | apply Exts.andR | apply Exts.alloc | apply Exts.wext | apply Exts.drew | apply Exts.drewN)) CC.out) HR.out).mono ?_); rintro e w' ⟨rfl, x2, rfl⟩)))
        refine ⟨⟨k + 1, by omega, by go_num, (by repeat (first | exact Exts.refl _ | apply Exts.andR | apply Exts.alloc | apply Exts.wext | apply Exts.drew | apply Exts.drewN)), fun j hj => ?_⟩, ?_⟩
        · by_cases hjk : j = k
          · rw [hjk]; exact HH.out
          · exact HI.out j (by omega)
        · simp [intOf]; omega
    · obtain rfl : k = n := by omega
      have HO := Lib.hid (show idF B x = none by
        unfold idF
        rw [List.find?_eq_none]
        intro j hj
        rw [HI.out j (by have := List.mem_range.1 hj; rw [HL.out] at this; exact this)]
        simp)
      go_wp2
      go_ret
      exact ⟨by rw [HO.out]; rfl, (by repeat (first | exact Exts.refl _ | apply Exts.andR | apply Exts.alloc | apply Exts.wext | apply Exts.drew | apply Exts.drewN))⟩
theorem contains41 {S1 : Nat → Prop} (cb : Nat) (bo : Option Addr) (n c : Nat) (B : List Cs) (x : Int) (r : Bool) (w : World) (hb : Cases S1 w bo n c B) (cc : w.cell? ⟨cb, 0, none⟩ = some (.int .i64 x)) (hr : (B.any fun d => d.id == x) = r) :
    Calls Tryz.prog 30 #[.slice bo n c, .func (.func 31) #[] #[.pointer (some ⟨cb, 0, none⟩)]] w fun e w' => e = .returned (.bool r) ∧ Exts w w' := by
  have hq := idF_any B x
  rw [hr] at hq
  obtain ⟨o, ho⟩ : ∃ o, outI (idF B x) = o := ⟨_, rfl⟩
  rw [ho] at hq
  have HO := Lib.hid ho
  have HB := Lib.hid hb
  have CC := Lib.hid cc
  clear hb hr ho
  go_enter Tryz.func30, Tryz.ntmps30
  go_wp2_with (first | (go_at_call 14; ((with_reducible refine (index37_id _ _ _ _ B x _ (HB.out.exts (by repeat (first | exact Exts.refl _ | apply Exts.andR | apply Exts.alloc | apply Exts.wext | apply Exts.drew | apply Exts.drewN))) (Exts.cell (by repeat (first | exact Exts.refl _ | apply Exts.andR | apply Exts.alloc | apply Exts.wext | apply Exts.drew | apply Exts.drewN)) CC.out)).mono ?_); rintro e w' ⟨rfl, x2, rfl⟩; rw [HO.out])))
  go_ret
  exact ⟨rfl, (by repeat (first | exact Exts.refl _ | apply Exts.andR | apply Exts.alloc | apply Exts.wext | apply Exts.drew | apply Exts.drewN))⟩
/-- Adding a decision: the base with it, or why not. -/
noncomputable def addD (D : List Dm) (B : List Cs) (c : Cs) : List Cs × Int := if (checkD D B && inD D c.vals) = true then (if (B.any fun d => d.id == c.id) = true then ([], 5) else if (B.any fun d => d.grant != c.grant && forcesD D c.vals d) = true then ([], 25) else (B ++ [c], 0)) else ([], 1)
/-- Cases of one's own, in a slice. -/
def CasesIn (w : World) (xs : List Value) (B : List Cs) : Prop := xs.length = B.length * 3 ∧ ∀ (i : Nat) (d : Cs), B[i]? = some d → ∃ v, xs[i * 3]? = some (.int .i64 d.id) ∧ xs[i * 3 + 1]? = some v ∧ xs[i * 3 + 2]? = some (.bool d.grant) ∧ IntsV w v d.vals ∧ (TypedBy 3 w v ∨ d.vals = [])
theorem RowF.zero {S : Nat → Prop} {k c : Nat} {w w' : World} {ao : Option Addr} {xs : List Value} (h : RowF S k w (.slice ao 0 c) 0 xs) : RowF S k w' (.slice ao 0 c) 0 xs := by
  obtain ⟨q1, ao2, cap2, hv, q2, q3, q4, q5⟩ := h
  exact ⟨q1, ao2, cap2, hv, q2, q3, q4, fun h => absurd h (Nat.lt_irrefl _)⟩
theorem CasesIn.step {S : Nat → Prop} {wr V w9 : World} {base m m' oc rc : Nat} {oo ro : Option Addr} {xs : List Value} {B : List Cs} {c : Cs} (hI : CasesIn wr xs B) (hO : wr.ownsRow base 28 3 (.slice oo m oc) m xs) (hV : Exts wr V) (hks : Ints S V ro m' rc c.vals) (hm : c.vals.length = m') (ht : TypedBy 3 V (.slice ro m' rc) ∨ c.vals = []) (hg : V.grownBy w9 (Value.slice oo m oc).ownBlock) : CasesIn w9 (xs ++ [.int .i64 c.id, .slice ro m' rc, .bool c.grant]) (B ++ [c]) := by
  subst hm
  have hu := (TypedBy.of_owns hO).exts hV
  have hv : IntsV V (.slice ro c.vals.length rc) c.vals := ⟨ro, rc, rfl, RowF.mono hks fun _ _ => trivial⟩
  obtain ⟨h1, h2⟩ := hI
  refine ⟨by simp [h1]; omega, fun i d hd => ?_⟩
  by_cases hi : i < B.length
  · rw [List.getElem?_append_left hi] at hd
    obtain ⟨v, e1, e2, e3, e4, e5⟩ := h2 i d hd
    refine ⟨v, by rw [List.getElem?_append_left (by omega)]; exact e1, by rw [List.getElem?_append_left (by omega)]; exact e2, by rw [List.getElem?_append_left (by omega)]; exact e3, ?_, ?_⟩
    · obtain ⟨ao, cc, rfl, q⟩ := e4.exts hV
      refine ⟨ao, cc, rfl, ?_⟩
      rcases e5 with e5 | e5
      · exact RowF.grown q hg ((e5.exts hV).ne hu (by decide))
      · rw [e5] at q ⊢
        exact RowF.zero q
    · exact e5.imp (fun e5 => (e5.exts hV).grown hg ((e5.exts hV).ne hu (by decide))) fun h => h
  · rw [List.getElem?_append_right (by omega)] at hd
    obtain ⟨hi2, rfl⟩ : i - B.length = 0 ∧ c = d := by
      cases hq : i - B.length with
      | zero => rw [hq] at hd; simp at hd; exact ⟨rfl, hd⟩
      | succ q => rw [hq] at hd; simp at hd
    obtain rfl : i = B.length := by omega
    refine ⟨.slice ro c.vals.length rc, ?_, ?_, ?_, ?_, ht.imp (fun ht => ht.grown hg (ht.ne hu (by decide))) fun h => h⟩
    · rw [List.getElem?_append_right (by omega), h1, Nat.sub_self]; rfl
    · rw [List.getElem?_append_right (by omega), h1, show B.length * 3 + 1 - B.length * 3 = 1 by omega]; rfl
    · rw [List.getElem?_append_right (by omega), h1, show B.length * 3 + 2 - B.length * 3 = 2 by omega]; rfl
    · refine ⟨ro, rc, rfl, ?_⟩
      have q := RowF.mono hks (S' := fun _ => True) fun _ _ => trivial
      rcases ht with ht | ht
      · exact RowF.grown q hg (ht.ne hu (by decide))
      · have hk : Ints (fun _ => True) V ro c.vals.length rc c.vals := q
        show Ints (fun _ => True) w9 ro c.vals.length rc c.vals
        rw [ht] at hk ⊢
        exact RowF.zero hk
theorem CasesIn.cases {w : World} {base m oc : Nat} {oo : Option Addr} {xs : List Value} {B : List Cs} (hI : CasesIn w xs B) (hO : w.ownsRow base 28 3 (.slice oo m oc) m xs) (hm : B.length = m) (hid : ∀ x ∈ B, I64 x.id) : Cases (fun b => base ≤ b) w oo m oc B :=
  ⟨hm, hid, xs, RowF.of_owns hO, fun i d hd => let ⟨v, e1, e2, e3, e4, _⟩ := hI.2 i d hd; ⟨v, e1, e2, e3, e4⟩⟩
theorem info33 : (Tryz.prog.info? 28).map (fun i => (i.zero, i.size, i.bytes)) = some (some (.agg #[.int .i64 0, .slice none 0 0, .bool false]), 3, 40) := by kernel_rfl
theorem three_one (a : Int) (v : Value) (b : Bool) (hv : v.oneCell' = true) : ∀ u ∈ [Value.int .i64 a, v, .bool b], u.oneCell' = true := by
  intro u hu
  simp at hu
  rcases hu with rfl | rfl | rfl
  · rfl
  · exact hv
  · rfl
theorem add15_arg {S S1 S2 : Nat → Prop} (lo bo ao : Option Addr) (n1 c1 n c na ca : Nat) (D : List Dm) (B : List Cs) (cid : Int) (al : List Int) (cg : Bool) (w : World) (hd : Dims S w lo n1 c1 D) (hb : Cases S1 w bo n c B) (ha : Ints S2 w ao na ca al) (hn : n ≤ 100) (hck : (checkD D B && inD D al) = false) :
    Calls Tryz.prog 19 #[.slice lo n1 c1, .slice bo n c, .agg #[.int .i64 cid, .slice ao na ca, .bool cg]] w fun e w' => e = .returned (.tuple #[.slice none 0 0, .int .i64 1]) ∧ Exts w w' := by
  have hn' : n ≤ 2000 := by omega
  have HL := Lib.hid hb.1
  have HD := Lib.hid hd
  have HB := Lib.hid hb
  have HA := Lib.hid ha
  have hn0 := hn
  clear hd hb ha
  have hn := hn'
  have hmf : ∀ (fn : Fn) (first cap : Array Value) (w : World), (Instr.makeFunc fn first cap).run Tryz.prog w = .ok (.func fn first cap) w := fun _ _ _ _ => rfl
  cases h1 : checkD D B with
  | false =>
    have HCK := Lib.hid h1
    clear h1 hck
    go_enter Tryz.func19, Tryz.ntmps19
    go_wp2_with (first | (go_at_call 13; ((with_reducible refine (check31 _ _ _ _ _ _ D B _ _ (HD.out.exts (by repeat (first | exact Exts.refl _ | apply Exts.andR | apply Exts.alloc | apply Exts.wext | apply Exts.drew | apply Exts.drewN))) (HB.out.exts (by repeat (first | exact Exts.refl _ | apply Exts.andR | apply Exts.alloc | apply Exts.wext | apply Exts.drew | apply Exts.drewN))) hn HCK.out).mono ?_); rintro e w' ⟨mo, N, mc, rfl, ⟨x1, rfl⟩, hm⟩; (try simp only [wext_and] at hm); (have HM := Lib.hid hm); clear hm)))
    go_ret2
    exact ⟨rfl, (by repeat (first | exact Exts.refl _ | apply Exts.andR | apply Exts.alloc | apply Exts.wext | apply Exts.drew | apply Exts.drewN))⟩
  | true =>
    have HCK := Lib.hid h1
    have HIN := Lib.hid (show inD D al = false by rw [h1] at hck; exact hck)
    clear h1 hck
    go_enter Tryz.func19, Tryz.ntmps19
    go_wp2_with (first | (go_at_call 13; ((with_reducible refine (check31_ok _ _ _ _ _ _ D B _ (HD.out.exts (by repeat (first | exact Exts.refl _ | apply Exts.andR | apply Exts.alloc | apply Exts.wext | apply Exts.drew | apply Exts.drewN))) (HB.out.exts (by repeat (first | exact Exts.refl _ | apply Exts.andR | apply Exts.alloc | apply Exts.wext | apply Exts.drew | apply Exts.drewN))) hn HCK.out).mono ?_); rintro e w' ⟨mo, mc, rfl, ⟨x1, rfl⟩, hm⟩; (try simp only [wext_and] at hm); (have HM := Lib.hid hm); clear hm)) | (go_at_call 27; ((with_reducible refine (isVector32_D _ _ _ _ _ _ D al _ _ (HM.out.exts (by repeat (first | exact Exts.refl _ | apply Exts.andR | apply Exts.alloc | apply Exts.wext | apply Exts.drew | apply Exts.drewN))) (RowF.exts HA.out (by repeat (first | exact Exts.refl _ | apply Exts.andR | apply Exts.alloc | apply Exts.wext | apply Exts.drew | apply Exts.drewN))) HIN.out).mono ?_); rintro e w' ⟨rfl, x2, rfl⟩)))
    go_ret2
    exact ⟨rfl, (by repeat (first | exact Exts.refl _ | apply Exts.andR | apply Exts.alloc | apply Exts.wext | apply Exts.drew | apply Exts.drewN))⟩
theorem add15_twice {S S1 S2 : Nat → Prop} (lo bo ao : Option Addr) (n1 c1 n c na ca : Nat) (D : List Dm) (B : List Cs) (cid : Int) (al : List Int) (cg : Bool) (w : World) (hd : Dims S w lo n1 c1 D) (hb : Cases S1 w bo n c B) (ha : Ints S2 w ao na ca al) (hn : n ≤ 100) (hck : checkD D B = true) (hin : inD D al = true) (han : (B.any fun d => d.id == cid) = true) :
    Calls Tryz.prog 19 #[.slice lo n1 c1, .slice bo n c, .agg #[.int .i64 cid, .slice ao na ca, .bool cg]] w fun e w' => e = .returned (.tuple #[.slice none 0 0, .int .i64 5]) ∧ Exts w w' := by
  have hn' : n ≤ 2000 := by omega
  have HL := Lib.hid hb.1
  have HD := Lib.hid hd
  have HB := Lib.hid hb
  have HA := Lib.hid ha
  have hn0 := hn
  clear hd hb ha
  have hn := hn'
  have hmf : ∀ (fn : Fn) (first cap : Array Value) (w : World), (Instr.makeFunc fn first cap).run Tryz.prog w = .ok (.func fn first cap) w := fun _ _ _ _ => rfl
  have HCK := Lib.hid hck
  have HIN := Lib.hid hin
  have HAN := Lib.hid han
  clear hck hin han
  go_enter Tryz.func19, Tryz.ntmps19
  go_wp2_with (first | (go_at_call 13; ((with_reducible refine (check31_ok _ _ _ _ _ _ D B _ (HD.out.exts (by repeat (first | exact Exts.refl _ | apply Exts.andR | apply Exts.alloc | apply Exts.wext | apply Exts.drew | apply Exts.drewN))) (HB.out.exts (by repeat (first | exact Exts.refl _ | apply Exts.andR | apply Exts.alloc | apply Exts.wext | apply Exts.drew | apply Exts.drewN))) hn HCK.out).mono ?_); rintro e w' ⟨mo, mc, rfl, ⟨x1, rfl⟩, hm⟩; (try simp only [wext_and] at hm); (have HM := Lib.hid hm); clear hm)) | (go_at_call 27; ((with_reducible refine (isVector32_D _ _ _ _ _ _ D al _ _ (HM.out.exts (by repeat (first | exact Exts.refl _ | apply Exts.andR | apply Exts.alloc | apply Exts.wext | apply Exts.drew | apply Exts.drewN))) (RowF.exts HA.out (by repeat (first | exact Exts.refl _ | apply Exts.andR | apply Exts.alloc | apply Exts.wext | apply Exts.drew | apply Exts.drewN))) HIN.out).mono ?_); rintro e w' ⟨rfl, x2, rfl⟩)) | (go_at_call 30; ((with_reducible refine (contains41 _ _ _ _ B _ _ _ (HB.out.exts (by repeat (first | exact Exts.refl _ | apply Exts.andR | apply Exts.alloc | apply Exts.wext | apply Exts.drew | apply Exts.drewN))) (by simp [go_sem]) HAN.out).mono ?_); rintro e w' ⟨rfl, x3, rfl⟩)))
  go_ret2
  exact ⟨rfl, (by repeat (first | exact Exts.refl _ | apply Exts.andR | apply Exts.alloc | apply Exts.wext | apply Exts.drew | apply Exts.drewN))⟩
noncomputable def clashB (D : List Dm) (L : List Cs) (al : List Int) (cg : Bool) : Bool := L.any fun d => d.grant != cg && forcesD D al d
theorem clash_next {D : List Dm} {B : List Cs} {al : List Int} {cg : Bool} {k : Nat} {d : Cs} (h : B[k]? = some d) (h1 : clashB D (B.take k) al cg = false) (h2 : (d.grant != cg && forcesD D al d) = false) : clashB D (B.take (k + 1)) al cg = false := by
  unfold clashB at h1 ⊢
  rw [List.take_add_one, h, List.any_append, h1]
  simpa using h2
theorem clash_yes {D : List Dm} {B : List Cs} {al : List Int} {cg : Bool} {k : Nat} {d : Cs} (h : B[k]? = some d) (h2 : (d.grant != cg && forcesD D al d) = true) : clashB D B al cg = true := by
  unfold clashB
  rw [List.any_eq_true]
  exact ⟨d, List.mem_of_getElem? h, h2⟩
theorem vec_le12 {D : List Dm} {l : List Int} (hr : rightD D = true) (h : inD D l = true) : l.length ≤ 12 := by
  have := (inD_iff.1 h).1
  simp only [rightD, Bool.and_eq_true, decide_eq_true_eq] at hr
  omega
theorem add15_go {S S1 S2 : Nat → Prop} (lo bo ao : Option Addr) (n1 c1 n c na ca : Nat) (D : List Dm) (B : List Cs) (cid : Int) (al : List Int) (cg : Bool) (w : World) (hd : Dims S w lo n1 c1 D) (hb : Cases S1 w bo n c B) (ha : Ints S2 w ao na ca al) (hn : n ≤ 100) (hcid : I64 cid) (hck : checkD D B = true) (hin : inD D al = true) (han : (B.any fun d => d.id == cid) = false) :
    Calls Tryz.prog 19 #[.slice lo n1 c1, .slice bo n c, .agg #[.int .i64 cid, .slice ao na ca, .bool cg]] w fun e w' => ∃ ro rn rc code, e = .returned (.tuple #[.slice ro rn rc, .int .i64 code]) ∧ Exts w w' ∧ ((clashB D B al cg = true ∧ ro = none ∧ rn = 0 ∧ rc = 0 ∧ code = 25) ∨ (clashB D B al cg = false ∧ rn = n + 1 ∧ code = 0 ∧ Cases (fun b => w.heap.size ≤ b) w' ro (n + 1) rc (B ++ [⟨cid, al, cg⟩]))) := by
  have hall : ∀ x ∈ B ++ [⟨cid, al, cg⟩], I64 x.id := fun x hx => by
    rw [List.mem_append] at hx
    rcases hx with hx | hx
    · exact hb.2.1 x hx
    · simp at hx
      rw [hx]; exact hcid
  have hna := ints_len ha
  have hal : na ≤ 1000 := by
    have := vec_le12 (check_right hck) hin
    omega
  have HNA := Lib.hid hna
  have HALL := Lib.hid hall
  clear hall hna
  have hn' : n ≤ 2000 := by omega
  have HL := Lib.hid hb.1
  have HD := Lib.hid hd
  have HB := Lib.hid hb
  have HA := Lib.hid ha
  have hn0 := hn
  clear hd hb ha
  have hn := hn'
  obtain ⟨i0, hi, hz0, hz1, hz2⟩ := info_parts info33
  have hmf : ∀ (fn : Fn) (first cap : Array Value) (w : World), (Instr.makeFunc fn first cap).run Tryz.prog w = .ok (.func fn first cap) w := fun _ _ _ _ => rfl
  have q0 : decide ((2000 : Int) ≤ (n : Int)) = false := by simp; omega
  have HCK := Lib.hid hck
  have HIN := Lib.hid hin
  have HAN := Lib.hid han
  have HV := Lib.hid (check_vecs hck)
  have HRT := Lib.hid (check_right hck)
  clear hck hin han
  go_enter Tryz.func19, Tryz.ntmps19
  go_wp2_with (first | (go_at_call 13; ((with_reducible refine (check31_ok _ _ _ _ _ _ D B _ (HD.out.exts (by repeat (first | exact Exts.refl _ | apply Exts.andR | apply Exts.alloc | apply Exts.wext | apply Exts.drew | apply Exts.drewN))) (HB.out.exts (by repeat (first | exact Exts.refl _ | apply Exts.andR | apply Exts.alloc | apply Exts.wext | apply Exts.drew | apply Exts.drewN))) hn HCK.out).mono ?_); rintro e w' ⟨mo, mc, rfl, ⟨x1, rfl⟩, hm⟩; (try simp only [wext_and] at hm); (have HM := Lib.hid hm); clear hm)) | (go_at_call 27; ((with_reducible refine (isVector32_D _ _ _ _ _ _ D al _ _ (HM.out.exts (by repeat (first | exact Exts.refl _ | apply Exts.andR | apply Exts.alloc | apply Exts.wext | apply Exts.drew | apply Exts.drewN))) (RowF.exts HA.out (by repeat (first | exact Exts.refl _ | apply Exts.andR | apply Exts.alloc | apply Exts.wext | apply Exts.drew | apply Exts.drewN))) HIN.out).mono ?_); rintro e w' ⟨rfl, x2, rfl⟩)) | (go_at_call 30; ((with_reducible refine (contains41 _ _ _ _ B _ _ _ (HB.out.exts (by repeat (first | exact Exts.refl _ | apply Exts.andR | apply Exts.alloc | apply Exts.wext | apply Exts.drew | apply Exts.drewN))) (by simp [go_sem]) HAN.out).mono ?_); rintro e w' ⟨rfl, x3, rfl⟩)))
  refine wp_name ?_
  intro W hW
  have HX := Lib.hid (show Exts w W by rw [hW]; exact (by repeat (first | exact Exts.refl _ | apply Exts.andR | apply Exts.alloc | apply Exts.wext | apply Exts.drew | apply Exts.drewN)))
  have cB0 : W.cell? ⟨w.heap.size, 0, none⟩ = some (.int .i64 cid) := by rw [hW]; simp [go_sem]
  have cB1 : W.cell? ⟨w.heap.size, 1, none⟩ = some (.slice ao na ca) := by rw [hW]; simp [go_sem]
  have cB2 : W.cell? ⟨w.heap.size, 2, none⟩ = some (.bool cg) := by rw [hW]; simp [go_sem]
  have lB : w.heap.size < W.heap.size := World.block_lt_of_cell? W _ cB0
  have HMW := Lib.hid (show Ords W mo n1 mc D by rw [hW]; exact HM.out.exts (by repeat (first | exact Exts.refl _ | apply Exts.andR | apply Exts.alloc | apply Exts.wext | apply Exts.drew | apply Exts.drewN)))
  have HBW := Lib.hid (HB.out.exts HX.out)
  have HAW0 := Lib.hid (RowF.exts HA.out HX.out)
  clear hW HM HB HD HA
  go_loopw [10, 39] (fun o i wr => ∃ (k : Nat) (xs : List Value), k ≤ n ∧ i = .int .i64 k ∧ Exts W wr ∧ wr.ownsRow W.heap.size 28 3 o k xs ∧ CasesIn wr xs (B.take k) ∧ clashB D (B.take k) al cg = false) (fun _ i _ => n - (intOf i).toNat)
  case atStart => exact ⟨0, [], by omega, rfl, Exts.refl _, World.ownsRow_nil _ _ _ _, ⟨by simp, fun i d hd => by simp at hd⟩, by simp [clashB]⟩
  case round =>
    obtain ⟨k, xs, hk, rfl, hx, hown, hci, hcl⟩ := hrel
    have HX2 := Lib.hid hx
    have HBS := Lib.hid (show W.heap.size ≤ wr.heap.size from hx.below.size)
    have HO := Lib.hid hown
    have HCI := Lib.hid hci
    have HCL := Lib.hid hcl
    have c0 := Exts.cell hx cB0
    have c1 := Exts.cell hx cB1
    have c2 := Exts.cell hx cB2
    have lB2 : w.heap.size < wr.heap.size := World.block_lt_of_cell? wr _ c0
    have HM := Lib.hid (HMW.out.exts hx)
    have HAW := Lib.hid (RowF.exts HAW0.out hx)
    obtain ⟨oo, oc, rfl⟩ := owns_shape hown
    by_cases hlt : k < n
    · obtain ⟨b, off, id, vs, gr, vo, vc, rfl, lb, hc, e0, e1, e2, hvs, hid⟩ := (HBW.out.exts hx).get hlt
      have HVS := Lib.hid hvs
      have HC := Lib.hid hc
      have HIV := Lib.hid (show inD D vs = true from HV.out _ (List.mem_of_getElem? hc))
      have hvl : vs.length ≤ 1000 := by
        have := vec_le12 HRT.out HIV.out
        omega
      obtain ⟨ks, hks⟩ : ∃ ks, keepsD D ⟨id, vs, gr⟩ al = ks := ⟨_, rfl⟩
      obtain ⟨m', hm'⟩ : ∃ m', ks.length = m' := ⟨_, rfl⟩
      have HK := Lib.hid hks
      have HMM := Lib.hid hm'
      have HF := Lib.hid (show forcesD D al ⟨id, vs, gr⟩ = decide (m' = 0) by
        unfold forcesD
        rw [hks, ← hm']
        cases ks <;> simp)
      clear hvs hc hid hks hm' hx hown hci hcl
      by_cases hg : gr = cg
      · have q1 : (gr == cg) = true := by simpa using hg
        have q2 : (gr != cg) = false := by simpa using hg
        have HQ := Lib.hid (show ((⟨id, vs, gr⟩ : Cs).grant != cg && forcesD D al ⟨id, vs, gr⟩) = false by
          show ((gr != cg) && _) = false
          rw [q2]; rfl)
        clear hg
        go_wp2_with (first | (go_at_call 33; ((with_reducible refine (clone44 _ _ _ _ vs _ _ (RowF.exts HVS.out (by repeat (first | exact Exts.refl _ | apply Exts.andR | apply Exts.alloc | apply Exts.wext | apply Exts.drew | apply Exts.drewN))) hvl).mono ?_); rintro e w' ⟨ca2, cc2, rfl, ⟨x6, rfl⟩, hcr, hct⟩; (try simp only [wext_and] at hcr hct); (have HCR := Lib.hid hcr); (have HCT := Lib.hid hct); clear hcr hct)) | (at_builtin; refine wpList_append_lies _ rfl (.tmp 57) (.tmp 60) 23 rfl W.heap.size 28 i0 _ 3 40 Tryz.underlying23 hi hz0 hz1 hz2 rfl (by decide) (.slice oo k oc) k xs rfl (ownsRow_exts HO.out (by repeat (first | exact Exts.refl _ | apply Exts.andR | apply Exts.alloc | apply Exts.wext | apply Exts.drew | apply Exts.drewN))) ⟨_, 0, none⟩ 1 1 [.int .i64 id, .slice ca2 vs.length cc2, .bool gr] rfl rfl (by intro j u hj; match j, hj with | 0, hj => (simp at hj; subst hj; simp [go_sem]) | 1, hj => (simp at hj; subst hj; simp [go_sem]) | 2, hj => (simp at hj; subst hj; simp [go_sem])) (three_one _ _ _ rfl) (by decide) (by unfold maxLen; omega) (by omega) (by have := HBS.out; simp; omega) _ rfl ?_; intro g2 cg2 w9 hown' hgrow hat hlt'))
        refine ⟨⟨k + 1, _, by omega, by go_num, exts_of_grown (W := W) (HX2.out.trans (by repeat (first | exact Exts.refl _ | apply Exts.andR | apply Exts.alloc | apply Exts.wext | apply Exts.drew | apply Exts.drewN))) hgrow (fun b hb => owns_base HO.out hb), hown', ?_, clash_next HC.out HCL.out HQ.out⟩, ?_⟩
        · have := HCI.out.step (c := ⟨id, vs, gr⟩) HO.out (V := _) ?_ (RowF.exts HCR.out (by repeat (first | exact Exts.refl _ | apply Exts.andR | apply Exts.alloc | apply Exts.wext | apply Exts.drew | apply Exts.drewN))) rfl (.inl (HCT.out.exts (by repeat (first | exact Exts.refl _ | apply Exts.andR | apply Exts.alloc | apply Exts.wext | apply Exts.drew | apply Exts.drewN)))) hgrow
          · rw [List.take_add_one, HC.out]
            exact this
          · exact (by repeat (first | exact Exts.refl _ | apply Exts.andR | apply Exts.alloc | apply Exts.wext | apply Exts.drew | apply Exts.drewN))
        · simp [intOf]; omega
      · have q1 : (gr == cg) = false := by simpa using hg
        have q2 : (gr != cg) = true := by simpa using hg
        have HG := Lib.hid q2
        clear hg
        by_cases h0 : m' = 0
        · have q3 : ((m' : Int) == 0) = true := by simp; omega
          have q4 : (m' == 0) = true := by simpa using h0
          have HCY := Lib.hid (clash_yes (D := D) (al := al) (cg := cg) HC.out (by
            show ((gr != cg) && _) = true
            rw [HG.out, HF.out, h0]; rfl))
          clear h0
          go_wp2_with (first | (go_at_call 32; ((with_reducible refine (keeps43 _ _ _ _ _ _ _ _ _ D _ vs al _ ks m' _ (HM.out.exts (by repeat (first | exact Exts.refl _ | apply Exts.andR | apply Exts.alloc | apply Exts.wext | apply Exts.drew | apply Exts.drewN))) (RowF.exts HVS.out (by repeat (first | exact Exts.refl _ | apply Exts.andR | apply Exts.alloc | apply Exts.wext | apply Exts.drew | apply Exts.drewN))) (RowF.exts HAW.out (by repeat (first | exact Exts.refl _ | apply Exts.andR | apply Exts.alloc | apply Exts.wext | apply Exts.drew | apply Exts.drewN))) HIV.out HIN.out HK.out HMM.out).mono ?_); rintro e w' ⟨ro, rc, rfl, ⟨x5, rfl⟩, hks⟩; clear hks)))
          go_ret2
          exact ⟨none, 0, 0, 25, rfl, HX.out.trans (HX2.out.trans (by repeat (first | exact Exts.refl _ | apply Exts.andR | apply Exts.alloc | apply Exts.wext | apply Exts.drew | apply Exts.drewN))), .inl ⟨HCY.out, rfl, rfl, rfl, rfl⟩⟩
        · have q3 : ((m' : Int) == 0) = false := by simp; omega
          have q4 : (m' == 0) = false := by simpa using h0
          have HQ := Lib.hid (show ((⟨id, vs, gr⟩ : Cs).grant != cg && forcesD D al ⟨id, vs, gr⟩) = false by
            rw [HF.out]
            simp [h0])
          clear h0
          go_wp2_with (first | (go_at_call 32; ((with_reducible refine (keeps43 _ _ _ _ _ _ _ _ _ D _ vs al _ ks m' _ (HM.out.exts (by repeat (first | exact Exts.refl _ | apply Exts.andR | apply Exts.alloc | apply Exts.wext | apply Exts.drew | apply Exts.drewN))) (RowF.exts HVS.out (by repeat (first | exact Exts.refl _ | apply Exts.andR | apply Exts.alloc | apply Exts.wext | apply Exts.drew | apply Exts.drewN))) (RowF.exts HAW.out (by repeat (first | exact Exts.refl _ | apply Exts.andR | apply Exts.alloc | apply Exts.wext | apply Exts.drew | apply Exts.drewN))) HIV.out HIN.out HK.out HMM.out).mono ?_); rintro e w' ⟨ro, rc, rfl, ⟨x5, rfl⟩, hks⟩; clear hks)) | (go_at_call 33; ((with_reducible refine (clone44 _ _ _ _ vs _ _ (RowF.exts HVS.out (by repeat (first | exact Exts.refl _ | apply Exts.andR | apply Exts.alloc | apply Exts.wext | apply Exts.drew | apply Exts.drewN))) hvl).mono ?_); rintro e w' ⟨ca2, cc2, rfl, ⟨x6, rfl⟩, hcr, hct⟩; (try simp only [wext_and] at hcr hct); (have HCR := Lib.hid hcr); (have HCT := Lib.hid hct); clear hcr hct)) | (at_builtin; refine wpList_append_lies _ rfl (.tmp 57) (.tmp 60) 23 rfl W.heap.size 28 i0 _ 3 40 Tryz.underlying23 hi hz0 hz1 hz2 rfl (by decide) (.slice oo k oc) k xs rfl (ownsRow_exts HO.out (by repeat (first | exact Exts.refl _ | apply Exts.andR | apply Exts.alloc | apply Exts.wext | apply Exts.drew | apply Exts.drewN))) ⟨_, 0, none⟩ 1 1 [.int .i64 id, .slice ca2 vs.length cc2, .bool gr] rfl rfl (by intro j u hj; match j, hj with | 0, hj => (simp at hj; subst hj; simp [go_sem]) | 1, hj => (simp at hj; subst hj; simp [go_sem]) | 2, hj => (simp at hj; subst hj; simp [go_sem])) (three_one _ _ _ rfl) (by decide) (by unfold maxLen; omega) (by omega) (by have := HBS.out; simp; omega) _ rfl ?_; intro g2 cg2 w9 hown' hgrow hat hlt'))
          refine ⟨⟨k + 1, _, by omega, by go_num, exts_of_grown (W := W) (HX2.out.trans (by repeat (first | exact Exts.refl _ | apply Exts.andR | apply Exts.alloc | apply Exts.wext | apply Exts.drew | apply Exts.drewN))) hgrow (fun b hb => owns_base HO.out hb), hown', ?_, clash_next HC.out HCL.out HQ.out⟩, ?_⟩
          · have := HCI.out.step (c := ⟨id, vs, gr⟩) HO.out (V := _) ?_ (RowF.exts HCR.out (by repeat (first | exact Exts.refl _ | apply Exts.andR | apply Exts.alloc | apply Exts.wext | apply Exts.drew | apply Exts.drewN))) rfl (.inl (HCT.out.exts (by repeat (first | exact Exts.refl _ | apply Exts.andR | apply Exts.alloc | apply Exts.wext | apply Exts.drew | apply Exts.drewN)))) hgrow
            · rw [List.take_add_one, HC.out]
              exact this
            · exact (by repeat (first | exact Exts.refl _ | apply Exts.andR | apply Exts.alloc | apply Exts.wext | apply Exts.drew | apply Exts.drewN))
          · simp [intOf]; omega
    · obtain rfl : k = n := by omega
      have htk : B.take k = B := List.take_of_length_le (by rw [HL.out]; exact Nat.le_refl _)
      rw [htk] at hci hcl
      have HCI2 := Lib.hid hci
      have HCL2 := Lib.hid hcl
      clear htk hx hown hci hcl
      go_wp2_with (first | (go_at_call 33; ((with_reducible refine (clone44 _ _ _ _ al _ _ (RowF.exts HAW.out (by repeat (first | exact Exts.refl _ | apply Exts.andR | apply Exts.alloc | apply Exts.wext | apply Exts.drew | apply Exts.drewN))) hal).mono ?_); rintro e w' ⟨ca2, cc2, rfl, ⟨x6, rfl⟩, hcr, hct⟩; (try simp only [wext_and] at hcr hct); (have HCR := Lib.hid hcr); (have HCT := Lib.hid hct); clear hcr hct)) | (at_builtin; refine wpList_append_lies _ rfl (.tmp 63) (.tmp 66) 23 rfl W.heap.size 28 i0 _ 3 40 Tryz.underlying23 hi hz0 hz1 hz2 rfl (by decide) (.slice oo k oc) k xs rfl (ownsRow_exts HO.out (by repeat (first | exact Exts.refl _ | apply Exts.andR | apply Exts.alloc | apply Exts.wext | apply Exts.drew | apply Exts.drewN))) ⟨_, 0, none⟩ 1 1 [.int .i64 cid, .slice ca2 na cc2, .bool cg] rfl rfl (by intro j u hj; match j, hj with | 0, hj => (simp at hj; subst hj; simp [go_sem]) | 1, hj => (simp at hj; subst hj; simp [go_sem]) | 2, hj => (simp at hj; subst hj; simp [go_sem])) (three_one _ _ _ rfl) (by decide) (by unfold maxLen; omega) (by omega) (by have := HBS.out; simp; omega) _ rfl ?_; intro g2 cg2 w9 hown' hgrow hat hlt'))
      go_ret2
      refine ⟨some ⟨g2, 0, none⟩, k + 1, cg2, 0, rfl, HX.out.trans (exts_of_grown (W := W) (HX2.out.trans (by repeat (first | exact Exts.refl _ | apply Exts.andR | apply Exts.alloc | apply Exts.wext | apply Exts.drew | apply Exts.drewN))) hgrow (fun b hb => owns_base HO.out hb)), .inr ⟨HCL2.out, rfl, rfl, ?_⟩⟩
      have hfin := HCI2.out.step (c := ⟨cid, al, cg⟩) HO.out (V := _) ?_ (RowF.exts HCR.out (by repeat (first | exact Exts.refl _ | apply Exts.andR | apply Exts.alloc | apply Exts.wext | apply Exts.drew | apply Exts.drewN))) HNA.out (.inl (HCT.out.exts (by repeat (first | exact Exts.refl _ | apply Exts.andR | apply Exts.alloc | apply Exts.wext | apply Exts.drew | apply Exts.drewN)))) hgrow
      · have hcs := hfin.cases hown' (by simp [HL.out]) HALL.out
        obtain ⟨e1, e2, ys, e3, e4⟩ := hcs
        exact ⟨e1, e2, ys, RowF.mono e3 fun b hb => Nat.le_trans HX.out.below.size hb, e4⟩
      · exact (by repeat (first | exact Exts.refl _ | apply Exts.andR | apply Exts.alloc | apply Exts.wext | apply Exts.drew | apply Exts.drewN))
end Go.Proofs.YtgmjcgjbbogefaaGreat


/- slices.Clone and slices.Delete at cases. No condition but the bounds. -/
namespace Go.Proofs.YtgmjcgjbbogefaaGreat
open Go.RowKit Go.Maps
set_option linter.unusedSimpArgs false
set_option linter.unusedVariables false

set_option maxHeartbeats 400000 in
theorem clone48 (v : Value) (n : Nat) (xs : List Value) (w : World) {S : Nat → Prop} (h : RowF S 3 w v n xs) (h1 : ∀ u ∈ xs, u.oneCell' = true) (hb : n * 40 ≤ 140737488355328) :
    Calls Tryz.prog 29 #[v] w fun e w' => ∃ ao' c', e = .returned (.slice ao' n c') ∧ Exts w w' ∧ w'.ownsRow w.heap.size 28 3 (.slice ao' n c') n xs := by
  obtain ⟨i0, hi, hz0, hz1, hz2⟩ := info_parts info33
  have hnle := h.nle
  have hlen := h.len
  obtain ⟨_, ao, cap, rfl, h2, h3, h4, h5⟩ := id h
  cases ao with
  | none =>
    have hc := h4 rfl
    subst hc
    obtain rfl : n = 0 := by omega
    obtain rfl : xs = [] := List.eq_nil_of_length_eq_zero (by simpa using hlen)
    have e := fun w => Lib.run_eql_slice_nil (P := Tryz.prog) w 23 28 none 0 0 0 0 Tryz.underlying23
    go_enter Tryz.func29, Tryz.ntmps29
    go_wp2
    go_ret
    exact ⟨none, 0, rfl, Exts.refl _, World.ownsRow_nil _ _ _ _⟩
  | some a =>
    have e := fun w => Lib.run_eql_slice_nil (P := Tryz.prog) w 23 28 (some a) n cap 0 0 Tryz.underlying23
    have hx : ∀ j u, xs[j]? = some u → (w.alloc (.cells #[] 28)).cell? (a.add j) = some u := by
      intro j u hj
      have hn : 0 < n := by
        have := (List.getElem?_eq_some_iff.1 hj).1
        rw [hlen] at this
        exact Nat.pos_of_ne_zero (fun h0 => by subst h0; simp at this)
      obtain ⟨b, off, hab, _, hbs, hc⟩ := h5 hn
      cases hab
      rw [Addr.add_lit, World.cell?_alloc_lt _ _ _ hbs]
      exact hc j u hj
    clear h2 h3 h4 h5 h
    unfold maxLen at hnle
    go_enter Tryz.func29, Tryz.ntmps29
    go_wp2_with (at_builtin; refine wpList_append_own _ rfl _ _ 23 rfl w.heap.size 28 i0 _ 3 40 Tryz.underlying23 hi hz0 hz1 hz2 rfl (by decide) _ 0 [] rfl (World.ownsRow_made w #[] 0 (Nat.le_refl _) (by decide) rfl) a n cap xs rfl hlen hx h1 (by unfold maxLen; omega) (by omega) (by simp) ?_; intro v' w1 hown hgrow hnil)
    go_ret
    simp only [Nat.zero_add, List.nil_append] at hown
    obtain ⟨ao', c', rfl⟩ := owns_shape hown
    exact ⟨ao', c', rfl, exts_of_grown ((Exts.refl w).alloc _) hgrow (fun b hb => by cases hb; exact Nat.le_refl _), hown⟩

set_option maxRecDepth 100000
set_option maxHeartbeats 2000000
end Go.Proofs.YtgmjcgjbbogefaaGreat


/- Parts of a base, and a base without a case. -/
namespace Go.Proofs.YtgmjcgjbbogefaaGreat
open Go.RowKit
set_option linter.unusedSimpArgs false
set_option linter.unusedVariables false

theorem Cases.take {S : Nat → Prop} {w : World} {bo : Option Addr} {n c k : Nat} {B : List Cs} (h : Cases S w bo n c B) (hk : k ≤ n) : Cases S w bo k c (B.take k) := by
  obtain ⟨h1, h0, xs, h2, h3⟩ := h
  obtain ⟨_, ao, cap, hv, q1, q2, q3, q4⟩ := id h2
  simp only [Value.slice.injEq, true_and] at hv
  obtain ⟨rfl, rfl⟩ := hv
  refine ⟨by simp [h1, Nat.min_eq_left hk], fun x hx => h0 x (List.mem_of_mem_take hx), _, h2.part 0 k c (by omega) (by omega) q2 bo q3 (fun b off hb _ => by rw [hb]; simp), fun i d hd => ?_⟩
  by_cases hi : i < k
  · rw [List.getElem?_take_of_lt hi] at hd
    obtain ⟨v, e1, e2, e3, e4⟩ := h3 i d hd
    refine ⟨v, ?_, ?_, ?_, e4⟩
    · rw [Nat.zero_mul, List.drop_zero, List.getElem?_take_of_lt (by omega)]; exact e1
    · rw [Nat.zero_mul, List.drop_zero, List.getElem?_take_of_lt (by omega)]; exact e2
    · rw [Nat.zero_mul, List.drop_zero, List.getElem?_take_of_lt (by omega)]; exact e3
  · rw [List.getElem?_eq_none (by rw [List.length_take]; omega)] at hd
    cases hd
end Go.Proofs.YtgmjcgjbbogefaaGreat


/- Distinguish of package precedent, and of the reference. No condition but at most 2000 cases. -/
namespace Go.Proofs.YtgmjcgjbbogefaaGreat
open Go.RowKit Go.Maps
set_option linter.unusedSimpArgs false
set_option linter.unusedVariables false

/-- Lists of numbers, in a slice. -/
def ListsIn (w : World) (rows : List Value) (LL : List (List Int)) : Prop := rows.length = LL.length ∧ ∀ (i : Nat) (l : List Int), LL[i]? = some l → ∃ v, rows[i]? = some v ∧ IntsV w v l ∧ TypedBy 3 w v
def Lists (w : World) (o : Option Addr) (n c : Nat) (LL : List (List Int)) : Prop := ∃ rows, RowF (fun _ => True) 1 w (.slice o n c) n rows ∧ ListsIn w rows LL
theorem ListsIn.exts {w w' : World} {rows : List Value} {LL : List (List Int)} (h : ListsIn w rows LL) (he : Exts w w') : ListsIn w' rows LL :=
  ⟨h.1, fun i l hl => let ⟨v, e1, e2, e3⟩ := h.2 i l hl; ⟨v, e1, e2.exts he, e3.exts he⟩⟩
theorem Lists.exts {w w' : World} {o : Option Addr} {n c : Nat} {LL : List (List Int)} (h : Lists w o n c LL) (he : Exts w w') : Lists w' o n c LL :=
  let ⟨rows, h1, h2⟩ := h; ⟨rows, h1.exts he, h2.exts he⟩
theorem Lists.nil (w : World) : Lists w none 0 0 [] := ⟨[], RowF.nil _ _ _, rfl, fun i l hl => by simp at hl⟩
theorem IntsV.grown {e : TypeId} {w w' : World} {v u : Value} {l : List Int} (h : IntsV w v l) (ht : TypedBy 3 w v) (hg : w.grownBy w' u.ownBlock) (hu : TypedBy e w u) (hne : 3 ≠ e) : IntsV w' v l := by
  obtain ⟨ao, c, rfl, h2⟩ := h
  exact ⟨ao, c, rfl, RowF.grown h2 hg (ht.ne hu hne)⟩
theorem ListsIn.grown {e : TypeId} {w w' : World} {u : Value} {rows : List Value} {LL : List (List Int)} (h : ListsIn w rows LL) (hg : w.grownBy w' u.ownBlock) (hu : TypedBy e w u) (hne : 3 ≠ e) : ListsIn w' rows LL :=
  ⟨h.1, fun i l hl => let ⟨v, e1, e2, e3⟩ := h.2 i l hl; ⟨v, e1, e2.grown e3 hg hu hne, e3.grown hg (e3.ne hu hne)⟩⟩
theorem ListsIn.snoc {w : World} {rows : List Value} {LL : List (List Int)} {v : Value} {l : List Int} (h : ListsIn w rows LL) (hv : IntsV w v l) (ht : TypedBy 3 w v) : ListsIn w (rows ++ [v]) (LL ++ [l]) := by
  refine ⟨by simp [h.1], fun i l' hl => ?_⟩
  by_cases hi : i < LL.length
  · rw [List.getElem?_append_left hi] at hl
    obtain ⟨v', e1, e2⟩ := h.2 i l' hl
    exact ⟨v', by rw [List.getElem?_append_left (by rw [h.1]; exact hi)]; exact e1, e2⟩
  · rw [List.getElem?_append_right (by omega)] at hl
    obtain ⟨hi2, rfl⟩ : i - LL.length = 0 ∧ l = l' := by
      cases hq : i - LL.length with
      | zero => rw [hq] at hl; simp at hl; exact ⟨rfl, hl⟩
      | succ q => rw [hq] at hl; simp at hl
    exact ⟨v, by rw [List.getElem?_append_right (by rw [h.1]; omega), h.1, hi2]; rfl, hv, ht⟩
theorem ListsIn.step {S : Nat → Prop} {wr V w9 : World} {base m m' oc rc : Nat} {oo ro : Option Addr} {rows : List Value} {LL : List (List Int)} {ks : List Int} (hI : ListsIn wr rows LL) (hO : wr.ownsRow base 24 1 (.slice oo m oc) m rows) (hV : Exts wr V) (hks : Ints S V ro m' rc ks) (hm : ks.length = m') (ht : TypedBy 3 V (.slice ro m' rc)) (hg : V.grownBy w9 (Value.slice oo m oc).ownBlock) : ListsIn w9 (rows ++ [.slice ro m' rc]) (LL ++ [ks]) := by
  subst hm
  have hu := (TypedBy.of_owns hO).exts hV
  refine ((hI.exts hV).grown hg hu (by decide)).snoc ?_ (ht.grown hg (ht.ne hu (by decide)))
  exact IntsV.grown (e := 24) ⟨ro, rc, rfl, RowF.mono hks fun _ _ => trivial⟩ ht hg hu (by decide)
theorem Lists.get {w : World} {o : Option Addr} {n c : Nat} {LL : List (List Int)} (h : Lists w o n c LL) {i : Nat} (hi : i < n) : ∃ b off l vo vc, o = some ⟨b, off, none⟩ ∧ b < w.heap.size ∧ LL[i]? = some l ∧ w.cell? ⟨b, off + i, none⟩ = some (.slice vo l.length vc) ∧ Ints (fun _ => True) w vo l.length vc l := by
  obtain ⟨rows, ⟨q1, ao2, cap2, hv, q2, q3, q4, q5⟩, h1, h2⟩ := h
  simp only [Value.slice.injEq, true_and] at hv
  obtain ⟨rfl, rfl⟩ := hv
  obtain ⟨b, off, rfl, _, hb, hc⟩ := q5 (by omega)
  have hl : LL[i]? = some (LL[i]'(by omega)) := List.getElem?_eq_getElem (by omega)
  obtain ⟨v, e1, ⟨vo, vc, rfl, e2⟩, _⟩ := h2 i _ hl
  exact ⟨b, off, _, vo, vc, rfl, hb, hl, hc _ _ e1, e2⟩
theorem Lists.len {w : World} {o : Option Addr} {n c : Nat} {LL : List (List Int)} (h : Lists w o n c LL) : LL.length = n := by
  obtain ⟨rows, h1, h2, _⟩ := h
  have := h1.len
  omega
set_option maxRecDepth 100000
set_option maxHeartbeats 4000000
end Go.Proofs.YtgmjcgjbbogefaaGreat

