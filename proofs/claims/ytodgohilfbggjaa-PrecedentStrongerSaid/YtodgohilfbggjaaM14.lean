/- Lemmas that the laws of this seat share, 3 texts in one: AddC, Del, OverPlain. No condition of their own. -/
import Derived.Test.YtodgohilfbggjaaM13
import Derived.Lib.SliceRun
import Derived.Deep.RegionLaw
/- Add of package precedent. No condition but at most 100 cases. -/
namespace Go.Proofs.Ytodgohilfbggjaa
open Go.RowKit Go.Maps
set_option linter.unusedSimpArgs false
set_option linter.unusedVariables false

def idI (B : List Cs) (x : Int) (k : Nat) : Bool := match B[k]? with | some d => d.id == x | none => false
def idF (B : List Cs) (x : Int) : Option Nat := (List.range B.length).find? (idI B x)
theorem idI_of {B : List Cs} {x : Int} {k : Nat} {d : Cs} (h : B[k]? = some d) : idI B x k = (d.id == x) := by
  unfold idI
  rw [h]
theorem idF_any (B : List Cs) (x : Int) : decide ((0 : Int) ≤ outI (idF B x)) = B.any fun d => d.id == x := by
  cases h : idF B x with
  | none =>
    have : (B.any fun d => d.id == x) = false := by
      rw [List.any_eq_false]
      intro d hd
      obtain ⟨k, hk⟩ := List.getElem?_of_mem hd
      unfold idF at h
      rw [List.find?_eq_none] at h
      have := h k (List.mem_range.2 (List.getElem?_eq_some_iff.1 hk).1)
      rw [idI_of hk] at this
      simpa using this
    rw [this]
    rfl
  | some k =>
    have : (B.any fun d => d.id == x) = true := by
      unfold idF at h
      have h1 := List.find?_some h
      have h2 := List.mem_range.1 (List.mem_of_find?_eq_some h)
      rw [idI_of (List.getElem?_eq_getElem h2)] at h1
      rw [List.any_eq_true]
      exact ⟨_, List.getElem_mem h2, h1⟩
    rw [this]
    simp [outI]
set_option maxRecDepth 100000
set_option maxHeartbeats 2000000
theorem same42 (cb : Nat) (dso : Option Addr) (dn dc : Nat) (id x : Int) (gr r : Bool) (w : World) (cc : w.cell? ⟨cb, 0, none⟩ = some (.int .i64 x)) (hr : (id == x) = r) :
    Calls Try.prog 42 #[.agg #[.int .i64 id, .slice dso dn dc, .bool gr], .pointer (some ⟨cb, 0, none⟩)] w fun e w' => e = .returned (.bool r) ∧ Exts w w' := by
  have lc : cb < w.heap.size := World.block_lt_of_cell? w _ cc
  have HR := Lib.hid hr
  go_enter Try.func42, Try.ntmps42
  go_wp2
  go_ret
  exact ⟨by rw [← HR.out]; rfl, (by repeat (first | exact Exts.refl _ | apply Exts.andR | apply Exts.alloc | apply Exts.wext | apply Exts.drew | apply Exts.drewN))⟩
theorem index37_id {S1 : Nat → Prop} (cb : Nat) (bo : Option Addr) (n c : Nat) (B : List Cs) (x : Int) (w : World) (hb : Cases S1 w bo n c B) (cc : w.cell? ⟨cb, 0, none⟩ = some (.int .i64 x)) :
    Calls Try.prog 37 #[.slice bo n c, .func (.func 42) #[] #[.pointer (some ⟨cb, 0, none⟩)]] w fun e w' => e = .returned (.int .i64 (outI (idF B x))) ∧ Exts w w' := by
  have hm := hb.nle
  unfold maxLen at hm
  have lc : cb < w.heap.size := World.block_lt_of_cell? w _ cc
  have HL := Lib.hid hb.1
  have HB := Lib.hid hb
  have CC := Lib.hid cc
  clear hb
  go_enter Try.func37, Try.ntmps37
  go_wp2
  go_loopw [8] (fun i wr => ∃ (k : Nat), k ≤ n ∧ i = .int .i64 k ∧ Exts w wr ∧ ∀ j, j < k → idI B x j = false) (fun i _ => n - (intOf i).toNat)
  case atStart => exact ⟨0, by omega, rfl, Exts.refl _, fun j hj => by omega⟩
  case round =>
    obtain ⟨k, hk, rfl, ⟨y, rfl⟩, hin⟩ := hrel
    have HI := Lib.hid hin
    clear hin
    by_cases hlt : k < n
    · obtain ⟨b, off, id, ds, gr, vo2, vc2, rfl, lb, hc, e0, e1, e2, hds, hid⟩ := HB.out.get hlt
      obtain ⟨r, hr⟩ : ∃ r, (id == x) = r := ⟨_, rfl⟩
      have HH := Lib.hid (show idI B x k = r by rw [idI_of hc]; exact hr)
      have HR := Lib.hid hr
      clear hds hc hid hr
      cases r with
      | true =>
        have HO := Lib.hid (show idF B x = some k from find_range' (by rw [HL.out]; exact hlt) HI.out HH.out)
        go_wp2_with (first | (go_at_call 42; ((with_reducible refine (same42 _ _ _ _ _ _ _ _ _ (Exts.cell (by repeat (first | exact Exts.refl _ | apply Exts.andR | apply Exts.alloc | apply Exts.wext | apply Exts.drew | apply Exts.drewN)) CC.out) HR.out).mono ?_); rintro e w' ⟨rfl, x2, rfl⟩)))
        go_ret
        exact ⟨by rw [HO.out]; rfl, (by repeat (first | exact Exts.refl _ | apply Exts.andR | apply Exts.alloc | apply Exts.wext | apply Exts.drew | apply Exts.drewN))⟩
      | false =>
        go_wp2_with (first | (go_at_call 42; ((with_reducible refine (same42 _ _ _ _ _ _ _ _ _ (Exts.cell (by repeat (first | exact Exts.refl _ | apply Exts.andR | apply Exts.alloc | apply Exts.wext | apply Exts.drew | apply Exts.drewN)) CC.out) HR.out).mono ?_); rintro e w' ⟨rfl, x2, rfl⟩)))
        refine ⟨⟨k + 1, by omega, by go_num, (by repeat (first | exact Exts.refl _ | apply Exts.andR | apply Exts.alloc | apply Exts.wext | apply Exts.drew | apply Exts.drewN)), fun j hj => ?_⟩, ?_⟩
        · by_cases hjk : j = k
          · rw [hjk]; exact HH.out
          · exact HI.out j (by omega)
        · simp [intOf]; omega
    · obtain rfl : k = n := by omega
      have HO := Lib.hid (show idF B x = none by
        unfold idF
        rw [List.find?_eq_none]
        intro j hj
        rw [HI.out j (by have := List.mem_range.1 hj; rw [HL.out] at this; exact this)]
        simp)
      go_wp2
      go_ret
      exact ⟨by rw [HO.out]; rfl, (by repeat (first | exact Exts.refl _ | apply Exts.andR | apply Exts.alloc | apply Exts.wext | apply Exts.drew | apply Exts.drewN))⟩
theorem contains41 {S1 : Nat → Prop} (cb : Nat) (bo : Option Addr) (n c : Nat) (B : List Cs) (x : Int) (r : Bool) (w : World) (hb : Cases S1 w bo n c B) (cc : w.cell? ⟨cb, 0, none⟩ = some (.int .i64 x)) (hr : (B.any fun d => d.id == x) = r) :
    Calls Try.prog 41 #[.slice bo n c, .func (.func 42) #[] #[.pointer (some ⟨cb, 0, none⟩)]] w fun e w' => e = .returned (.bool r) ∧ Exts w w' := by
  have hq := idF_any B x
  rw [hr] at hq
  obtain ⟨o, ho⟩ : ∃ o, outI (idF B x) = o := ⟨_, rfl⟩
  rw [ho] at hq
  have HO := Lib.hid ho
  have HB := Lib.hid hb
  have CC := Lib.hid cc
  clear hb hr ho
  go_enter Try.func41, Try.ntmps41
  go_wp2_with (first | (go_at_call 37; ((with_reducible refine (index37_id _ _ _ _ B x _ (HB.out.exts (by repeat (first | exact Exts.refl _ | apply Exts.andR | apply Exts.alloc | apply Exts.wext | apply Exts.drew | apply Exts.drewN))) (Exts.cell (by repeat (first | exact Exts.refl _ | apply Exts.andR | apply Exts.alloc | apply Exts.wext | apply Exts.drew | apply Exts.drewN)) CC.out)).mono ?_); rintro e w' ⟨rfl, x2, rfl⟩; rw [HO.out])))
  go_ret
  exact ⟨rfl, (by repeat (first | exact Exts.refl _ | apply Exts.andR | apply Exts.alloc | apply Exts.wext | apply Exts.drew | apply Exts.drewN))⟩
/-- Adding a decision: the base with it, or why not. -/
noncomputable def addD (D : List Dm) (B : List Cs) (c : Cs) : List Cs × Int := if (checkD D B && inD D c.vals) = true then (if (B.any fun d => d.id == c.id) = true then ([], 5) else if (B.any fun d => d.grant != c.grant && forcesD D c.vals d) = true then ([], 25) else (B ++ [c], 0)) else ([], 1)
/-- Cases of one's own, in a slice. -/
def CasesIn (w : World) (xs : List Value) (B : List Cs) : Prop := xs.length = B.length * 3 ∧ ∀ (i : Nat) (d : Cs), B[i]? = some d → ∃ v, xs[i * 3]? = some (.int .i64 d.id) ∧ xs[i * 3 + 1]? = some v ∧ xs[i * 3 + 2]? = some (.bool d.grant) ∧ IntsV w v d.vals ∧ (TypedBy 3 w v ∨ d.vals = [])
theorem RowF.zero {S : Nat → Prop} {k c : Nat} {w w' : World} {ao : Option Addr} {xs : List Value} (h : RowF S k w (.slice ao 0 c) 0 xs) : RowF S k w' (.slice ao 0 c) 0 xs := by
  obtain ⟨q1, ao2, cap2, hv, q2, q3, q4, q5⟩ := h
  exact ⟨q1, ao2, cap2, hv, q2, q3, q4, fun h => absurd h (Nat.lt_irrefl _)⟩
theorem CasesIn.step {S : Nat → Prop} {wr V w9 : World} {base m m' oc rc : Nat} {oo ro : Option Addr} {xs : List Value} {B : List Cs} {c : Cs} (hI : CasesIn wr xs B) (hO : wr.ownsRow base 33 3 (.slice oo m oc) m xs) (hV : Exts wr V) (hks : Ints S V ro m' rc c.vals) (hm : c.vals.length = m') (ht : TypedBy 3 V (.slice ro m' rc) ∨ c.vals = []) (hg : V.grownBy w9 (Value.slice oo m oc).ownBlock) : CasesIn w9 (xs ++ [.int .i64 c.id, .slice ro m' rc, .bool c.grant]) (B ++ [c]) := by
  subst hm
  have hu := (TypedBy.of_owns hO).exts hV
  have hv : IntsV V (.slice ro c.vals.length rc) c.vals := ⟨ro, rc, rfl, RowF.mono hks fun _ _ => trivial⟩
  obtain ⟨h1, h2⟩ := hI
  refine ⟨by simp [h1]; omega, fun i d hd => ?_⟩
  by_cases hi : i < B.length
  · rw [List.getElem?_append_left hi] at hd
    obtain ⟨v, e1, e2, e3, e4, e5⟩ := h2 i d hd
    refine ⟨v, by rw [List.getElem?_append_left (by omega)]; exact e1, by rw [List.getElem?_append_left (by omega)]; exact e2, by rw [List.getElem?_append_left (by omega)]; exact e3, ?_, ?_⟩
    · obtain ⟨ao, cc, rfl, q⟩ := e4.exts hV
      refine ⟨ao, cc, rfl, ?_⟩
      rcases e5 with e5 | e5
      · exact RowF.grown q hg ((e5.exts hV).ne hu (by decide))
      · rw [e5] at q ⊢
        exact RowF.zero q
    · exact e5.imp (fun e5 => (e5.exts hV).grown hg ((e5.exts hV).ne hu (by decide))) fun h => h
  · rw [List.getElem?_append_right (by omega)] at hd
    obtain ⟨hi2, rfl⟩ : i - B.length = 0 ∧ c = d := by
      cases hq : i - B.length with
      | zero => rw [hq] at hd; simp at hd; exact ⟨rfl, hd⟩
      | succ q => rw [hq] at hd; simp at hd
    obtain rfl : i = B.length := by omega
    refine ⟨.slice ro c.vals.length rc, ?_, ?_, ?_, ?_, ht.imp (fun ht => ht.grown hg (ht.ne hu (by decide))) fun h => h⟩
    · rw [List.getElem?_append_right (by omega), h1, Nat.sub_self]; rfl
    · rw [List.getElem?_append_right (by omega), h1, show B.length * 3 + 1 - B.length * 3 = 1 by omega]; rfl
    · rw [List.getElem?_append_right (by omega), h1, show B.length * 3 + 2 - B.length * 3 = 2 by omega]; rfl
    · refine ⟨ro, rc, rfl, ?_⟩
      have q := RowF.mono hks (S' := fun _ => True) fun _ _ => trivial
      rcases ht with ht | ht
      · exact RowF.grown q hg (ht.ne hu (by decide))
      · have hk : Ints (fun _ => True) V ro c.vals.length rc c.vals := q
        show Ints (fun _ => True) w9 ro c.vals.length rc c.vals
        rw [ht] at hk ⊢
        exact RowF.zero hk
theorem CasesIn.cases {w : World} {base m oc : Nat} {oo : Option Addr} {xs : List Value} {B : List Cs} (hI : CasesIn w xs B) (hO : w.ownsRow base 33 3 (.slice oo m oc) m xs) (hm : B.length = m) (hid : ∀ x ∈ B, I64 x.id) : Cases (fun b => base ≤ b) w oo m oc B :=
  ⟨hm, hid, xs, RowF.of_owns hO, fun i d hd => let ⟨v, e1, e2, e3, e4, _⟩ := hI.2 i d hd; ⟨v, e1, e2, e3, e4⟩⟩
theorem info33 : (Try.prog.info? 33).map (fun i => (i.zero, i.size, i.bytes)) = some (some (.agg #[.int .i64 0, .slice none 0 0, .bool false]), 3, 40) := by kernel_rfl
theorem three_one (a : Int) (v : Value) (b : Bool) (hv : v.oneCell' = true) : ∀ u ∈ [Value.int .i64 a, v, .bool b], u.oneCell' = true := by
  intro u hu
  simp at hu
  rcases hu with rfl | rfl | rfl
  · rfl
  · exact hv
  · rfl
theorem add15_arg {S S1 S2 : Nat → Prop} (lo bo ao : Option Addr) (n1 c1 n c na ca : Nat) (D : List Dm) (B : List Cs) (cid : Int) (al : List Int) (cg : Bool) (w : World) (hd : Dims S w lo n1 c1 D) (hb : Cases S1 w bo n c B) (ha : Ints S2 w ao na ca al) (hn : n ≤ 100) (hck : (checkD D B && inD D al) = false) :
    Calls Try.prog 15 #[.slice lo n1 c1, .slice bo n c, .agg #[.int .i64 cid, .slice ao na ca, .bool cg]] w fun e w' => e = .returned (.tuple #[.slice none 0 0, .int .i64 1]) ∧ Exts w w' := by
  have hn' : n ≤ 2000 := by omega
  have HL := Lib.hid hb.1
  have HD := Lib.hid hd
  have HB := Lib.hid hb
  have HA := Lib.hid ha
  have hn0 := hn
  clear hd hb ha
  have hn := hn'
  have hmf : ∀ (fn : Fn) (first cap : Array Value) (w : World), (Instr.makeFunc fn first cap).run Try.prog w = .ok (.func fn first cap) w := fun _ _ _ _ => rfl
  cases h1 : checkD D B with
  | false =>
    have HCK := Lib.hid h1
    clear h1 hck
    go_enter Try.func15, Try.ntmps15
    go_wp2_with (first | (go_at_call 31; ((with_reducible refine (check31 _ _ _ _ _ _ D B _ _ (HD.out.exts (by repeat (first | exact Exts.refl _ | apply Exts.andR | apply Exts.alloc | apply Exts.wext | apply Exts.drew | apply Exts.drewN))) (HB.out.exts (by repeat (first | exact Exts.refl _ | apply Exts.andR | apply Exts.alloc | apply Exts.wext | apply Exts.drew | apply Exts.drewN))) hn HCK.out).mono ?_); rintro e w' ⟨mo, N, mc, rfl, ⟨x1, rfl⟩, hm⟩; (try simp only [wext_and] at hm); (have HM := Lib.hid hm); clear hm)))
    go_ret2
    exact ⟨rfl, (by repeat (first | exact Exts.refl _ | apply Exts.andR | apply Exts.alloc | apply Exts.wext | apply Exts.drew | apply Exts.drewN))⟩
  | true =>
    have HCK := Lib.hid h1
    have HIN := Lib.hid (show inD D al = false by rw [h1] at hck; exact hck)
    clear h1 hck
    go_enter Try.func15, Try.ntmps15
    go_wp2_with (first | (go_at_call 31; ((with_reducible refine (check31_ok _ _ _ _ _ _ D B _ (HD.out.exts (by repeat (first | exact Exts.refl _ | apply Exts.andR | apply Exts.alloc | apply Exts.wext | apply Exts.drew | apply Exts.drewN))) (HB.out.exts (by repeat (first | exact Exts.refl _ | apply Exts.andR | apply Exts.alloc | apply Exts.wext | apply Exts.drew | apply Exts.drewN))) hn HCK.out).mono ?_); rintro e w' ⟨mo, mc, rfl, ⟨x1, rfl⟩, hm⟩; (try simp only [wext_and] at hm); (have HM := Lib.hid hm); clear hm)) | (go_at_call 32; ((with_reducible refine (isVector32_D _ _ _ _ _ _ D al _ _ (HM.out.exts (by repeat (first | exact Exts.refl _ | apply Exts.andR | apply Exts.alloc | apply Exts.wext | apply Exts.drew | apply Exts.drewN))) (RowF.exts HA.out (by repeat (first | exact Exts.refl _ | apply Exts.andR | apply Exts.alloc | apply Exts.wext | apply Exts.drew | apply Exts.drewN))) HIN.out).mono ?_); rintro e w' ⟨rfl, x2, rfl⟩)))
    go_ret2
    exact ⟨rfl, (by repeat (first | exact Exts.refl _ | apply Exts.andR | apply Exts.alloc | apply Exts.wext | apply Exts.drew | apply Exts.drewN))⟩
theorem add15_twice {S S1 S2 : Nat → Prop} (lo bo ao : Option Addr) (n1 c1 n c na ca : Nat) (D : List Dm) (B : List Cs) (cid : Int) (al : List Int) (cg : Bool) (w : World) (hd : Dims S w lo n1 c1 D) (hb : Cases S1 w bo n c B) (ha : Ints S2 w ao na ca al) (hn : n ≤ 100) (hck : checkD D B = true) (hin : inD D al = true) (han : (B.any fun d => d.id == cid) = true) :
    Calls Try.prog 15 #[.slice lo n1 c1, .slice bo n c, .agg #[.int .i64 cid, .slice ao na ca, .bool cg]] w fun e w' => e = .returned (.tuple #[.slice none 0 0, .int .i64 5]) ∧ Exts w w' := by
  have hn' : n ≤ 2000 := by omega
  have HL := Lib.hid hb.1
  have HD := Lib.hid hd
  have HB := Lib.hid hb
  have HA := Lib.hid ha
  have hn0 := hn
  clear hd hb ha
  have hn := hn'
  have hmf : ∀ (fn : Fn) (first cap : Array Value) (w : World), (Instr.makeFunc fn first cap).run Try.prog w = .ok (.func fn first cap) w := fun _ _ _ _ => rfl
  have HCK := Lib.hid hck
  have HIN := Lib.hid hin
  have HAN := Lib.hid han
  clear hck hin han
  go_enter Try.func15, Try.ntmps15
  go_wp2_with (first | (go_at_call 31; ((with_reducible refine (check31_ok _ _ _ _ _ _ D B _ (HD.out.exts (by repeat (first | exact Exts.refl _ | apply Exts.andR | apply Exts.alloc | apply Exts.wext | apply Exts.drew | apply Exts.drewN))) (HB.out.exts (by repeat (first | exact Exts.refl _ | apply Exts.andR | apply Exts.alloc | apply Exts.wext | apply Exts.drew | apply Exts.drewN))) hn HCK.out).mono ?_); rintro e w' ⟨mo, mc, rfl, ⟨x1, rfl⟩, hm⟩; (try simp only [wext_and] at hm); (have HM := Lib.hid hm); clear hm)) | (go_at_call 32; ((with_reducible refine (isVector32_D _ _ _ _ _ _ D al _ _ (HM.out.exts (by repeat (first | exact Exts.refl _ | apply Exts.andR | apply Exts.alloc | apply Exts.wext | apply Exts.drew | apply Exts.drewN))) (RowF.exts HA.out (by repeat (first | exact Exts.refl _ | apply Exts.andR | apply Exts.alloc | apply Exts.wext | apply Exts.drew | apply Exts.drewN))) HIN.out).mono ?_); rintro e w' ⟨rfl, x2, rfl⟩)) | (go_at_call 41; ((with_reducible refine (contains41 _ _ _ _ B _ _ _ (HB.out.exts (by repeat (first | exact Exts.refl _ | apply Exts.andR | apply Exts.alloc | apply Exts.wext | apply Exts.drew | apply Exts.drewN))) (by simp [go_sem]) HAN.out).mono ?_); rintro e w' ⟨rfl, x3, rfl⟩)))
  go_ret2
  exact ⟨rfl, (by repeat (first | exact Exts.refl _ | apply Exts.andR | apply Exts.alloc | apply Exts.wext | apply Exts.drew | apply Exts.drewN))⟩
noncomputable def clashB (D : List Dm) (L : List Cs) (al : List Int) (cg : Bool) : Bool := L.any fun d => d.grant != cg && forcesD D al d
theorem clash_next {D : List Dm} {B : List Cs} {al : List Int} {cg : Bool} {k : Nat} {d : Cs} (h : B[k]? = some d) (h1 : clashB D (B.take k) al cg = false) (h2 : (d.grant != cg && forcesD D al d) = false) : clashB D (B.take (k + 1)) al cg = false := by
  unfold clashB at h1 ⊢
  rw [List.take_add_one, h, List.any_append, h1]
  simpa using h2
theorem clash_yes {D : List Dm} {B : List Cs} {al : List Int} {cg : Bool} {k : Nat} {d : Cs} (h : B[k]? = some d) (h2 : (d.grant != cg && forcesD D al d) = true) : clashB D B al cg = true := by
  unfold clashB
  rw [List.any_eq_true]
  exact ⟨d, List.mem_of_getElem? h, h2⟩
theorem vec_le12 {D : List Dm} {l : List Int} (hr : rightD D = true) (h : inD D l = true) : l.length ≤ 12 := by
  have := (inD_iff.1 h).1
  simp only [rightD, Bool.and_eq_true, decide_eq_true_eq] at hr
  omega
theorem add15_go {S S1 S2 : Nat → Prop} (lo bo ao : Option Addr) (n1 c1 n c na ca : Nat) (D : List Dm) (B : List Cs) (cid : Int) (al : List Int) (cg : Bool) (w : World) (hd : Dims S w lo n1 c1 D) (hb : Cases S1 w bo n c B) (ha : Ints S2 w ao na ca al) (hn : n ≤ 100) (hcid : I64 cid) (hck : checkD D B = true) (hin : inD D al = true) (han : (B.any fun d => d.id == cid) = false) :
    Calls Try.prog 15 #[.slice lo n1 c1, .slice bo n c, .agg #[.int .i64 cid, .slice ao na ca, .bool cg]] w fun e w' => ∃ ro rn rc code, e = .returned (.tuple #[.slice ro rn rc, .int .i64 code]) ∧ Exts w w' ∧ ((clashB D B al cg = true ∧ ro = none ∧ rn = 0 ∧ rc = 0 ∧ code = 25) ∨ (clashB D B al cg = false ∧ rn = n + 1 ∧ code = 0 ∧ Cases (fun b => w.heap.size ≤ b) w' ro (n + 1) rc (B ++ [⟨cid, al, cg⟩]))) := by
  have hall : ∀ x ∈ B ++ [⟨cid, al, cg⟩], I64 x.id := fun x hx => by
    rw [List.mem_append] at hx
    rcases hx with hx | hx
    · exact hb.2.1 x hx
    · simp at hx
      rw [hx]; exact hcid
  have hna := ints_len ha
  have hal : na ≤ 1000 := by
    have := vec_le12 (check_right hck) hin
    omega
  have HNA := Lib.hid hna
  have HALL := Lib.hid hall
  clear hall hna
  have hn' : n ≤ 2000 := by omega
  have HL := Lib.hid hb.1
  have HD := Lib.hid hd
  have HB := Lib.hid hb
  have HA := Lib.hid ha
  have hn0 := hn
  clear hd hb ha
  have hn := hn'
  obtain ⟨i0, hi, hz0, hz1, hz2⟩ := info_parts info33
  have hmf : ∀ (fn : Fn) (first cap : Array Value) (w : World), (Instr.makeFunc fn first cap).run Try.prog w = .ok (.func fn first cap) w := fun _ _ _ _ => rfl
  have q0 : decide ((2000 : Int) ≤ (n : Int)) = false := by simp; omega
  have HCK := Lib.hid hck
  have HIN := Lib.hid hin
  have HAN := Lib.hid han
  have HV := Lib.hid (check_vecs hck)
  have HRT := Lib.hid (check_right hck)
  clear hck hin han
  go_enter Try.func15, Try.ntmps15
  go_wp2_with (first | (go_at_call 31; ((with_reducible refine (check31_ok _ _ _ _ _ _ D B _ (HD.out.exts (by repeat (first | exact Exts.refl _ | apply Exts.andR | apply Exts.alloc | apply Exts.wext | apply Exts.drew | apply Exts.drewN))) (HB.out.exts (by repeat (first | exact Exts.refl _ | apply Exts.andR | apply Exts.alloc | apply Exts.wext | apply Exts.drew | apply Exts.drewN))) hn HCK.out).mono ?_); rintro e w' ⟨mo, mc, rfl, ⟨x1, rfl⟩, hm⟩; (try simp only [wext_and] at hm); (have HM := Lib.hid hm); clear hm)) | (go_at_call 32; ((with_reducible refine (isVector32_D _ _ _ _ _ _ D al _ _ (HM.out.exts (by repeat (first | exact Exts.refl _ | apply Exts.andR | apply Exts.alloc | apply Exts.wext | apply Exts.drew | apply Exts.drewN))) (RowF.exts HA.out (by repeat (first | exact Exts.refl _ | apply Exts.andR | apply Exts.alloc | apply Exts.wext | apply Exts.drew | apply Exts.drewN))) HIN.out).mono ?_); rintro e w' ⟨rfl, x2, rfl⟩)) | (go_at_call 41; ((with_reducible refine (contains41 _ _ _ _ B _ _ _ (HB.out.exts (by repeat (first | exact Exts.refl _ | apply Exts.andR | apply Exts.alloc | apply Exts.wext | apply Exts.drew | apply Exts.drewN))) (by simp [go_sem]) HAN.out).mono ?_); rintro e w' ⟨rfl, x3, rfl⟩)))
  refine wp_name ?_
  intro W hW
  have HX := Lib.hid (show Exts w W by rw [hW]; exact (by repeat (first | exact Exts.refl _ | apply Exts.andR | apply Exts.alloc | apply Exts.wext | apply Exts.drew | apply Exts.drewN)))
  have cB0 : W.cell? ⟨w.heap.size, 0, none⟩ = some (.int .i64 cid) := by rw [hW]; simp [go_sem]
  have cB1 : W.cell? ⟨w.heap.size, 1, none⟩ = some (.slice ao na ca) := by rw [hW]; simp [go_sem]
  have cB2 : W.cell? ⟨w.heap.size, 2, none⟩ = some (.bool cg) := by rw [hW]; simp [go_sem]
  have lB : w.heap.size < W.heap.size := World.block_lt_of_cell? W _ cB0
  have HMW := Lib.hid (show Ords W mo n1 mc D by rw [hW]; exact HM.out.exts (by repeat (first | exact Exts.refl _ | apply Exts.andR | apply Exts.alloc | apply Exts.wext | apply Exts.drew | apply Exts.drewN)))
  have HBW := Lib.hid (HB.out.exts HX.out)
  have HAW0 := Lib.hid (RowF.exts HA.out HX.out)
  clear hW HM HB HD HA
  go_loopw [10, 39] (fun o i wr => ∃ (k : Nat) (xs : List Value), k ≤ n ∧ i = .int .i64 k ∧ Exts W wr ∧ wr.ownsRow W.heap.size 33 3 o k xs ∧ CasesIn wr xs (B.take k) ∧ clashB D (B.take k) al cg = false) (fun _ i _ => n - (intOf i).toNat)
  case atStart => exact ⟨0, [], by omega, rfl, Exts.refl _, World.ownsRow_nil _ _ _ _, ⟨by simp, fun i d hd => by simp at hd⟩, by simp [clashB]⟩
  case round =>
    obtain ⟨k, xs, hk, rfl, hx, hown, hci, hcl⟩ := hrel
    have HX2 := Lib.hid hx
    have HBS := Lib.hid (show W.heap.size ≤ wr.heap.size from hx.below.size)
    have HO := Lib.hid hown
    have HCI := Lib.hid hci
    have HCL := Lib.hid hcl
    have c0 := Exts.cell hx cB0
    have c1 := Exts.cell hx cB1
    have c2 := Exts.cell hx cB2
    have lB2 : w.heap.size < wr.heap.size := World.block_lt_of_cell? wr _ c0
    have HM := Lib.hid (HMW.out.exts hx)
    have HAW := Lib.hid (RowF.exts HAW0.out hx)
    obtain ⟨oo, oc, rfl⟩ := owns_shape hown
    by_cases hlt : k < n
    · obtain ⟨b, off, id, vs, gr, vo, vc, rfl, lb, hc, e0, e1, e2, hvs, hid⟩ := (HBW.out.exts hx).get hlt
      have HVS := Lib.hid hvs
      have HC := Lib.hid hc
      have HIV := Lib.hid (show inD D vs = true from HV.out _ (List.mem_of_getElem? hc))
      have hvl : vs.length ≤ 1000 := by
        have := vec_le12 HRT.out HIV.out
        omega
      obtain ⟨ks, hks⟩ : ∃ ks, keepsD D ⟨id, vs, gr⟩ al = ks := ⟨_, rfl⟩
      obtain ⟨m', hm'⟩ : ∃ m', ks.length = m' := ⟨_, rfl⟩
      have HK := Lib.hid hks
      have HMM := Lib.hid hm'
      have HF := Lib.hid (show forcesD D al ⟨id, vs, gr⟩ = decide (m' = 0) by
        unfold forcesD
        rw [hks, ← hm']
        cases ks <;> simp)
      clear hvs hc hid hks hm' hx hown hci hcl
      by_cases hg : gr = cg
      · have q1 : (gr == cg) = true := by simpa using hg
        have q2 : (gr != cg) = false := by simpa using hg
        have HQ := Lib.hid (show ((⟨id, vs, gr⟩ : Cs).grant != cg && forcesD D al ⟨id, vs, gr⟩) = false by
          show ((gr != cg) && _) = false
          rw [q2]; rfl)
        clear hg
        go_wp2_with (first | (go_at_call 44; ((with_reducible refine (clone44 _ _ _ _ vs _ _ (RowF.exts HVS.out (by repeat (first | exact Exts.refl _ | apply Exts.andR | apply Exts.alloc | apply Exts.wext | apply Exts.drew | apply Exts.drewN))) hvl).mono ?_); rintro e w' ⟨ca2, cc2, rfl, ⟨x6, rfl⟩, hcr, hct⟩; (try simp only [wext_and] at hcr hct); (have HCR := Lib.hid hcr); (have HCT := Lib.hid hct); clear hcr hct)) | (at_builtin; refine wpList_append_lies _ rfl (.tmp 57) (.tmp 60) 23 rfl W.heap.size 33 i0 _ 3 40 Try.underlying23 hi hz0 hz1 hz2 rfl (by decide) (.slice oo k oc) k xs rfl (ownsRow_exts HO.out (by repeat (first | exact Exts.refl _ | apply Exts.andR | apply Exts.alloc | apply Exts.wext | apply Exts.drew | apply Exts.drewN))) ⟨_, 0, none⟩ 1 1 [.int .i64 id, .slice ca2 vs.length cc2, .bool gr] rfl rfl (by intro j u hj; match j, hj with | 0, hj => (simp at hj; subst hj; simp [go_sem]) | 1, hj => (simp at hj; subst hj; simp [go_sem]) | 2, hj => (simp at hj; subst hj; simp [go_sem])) (three_one _ _ _ rfl) (by decide) (by unfold maxLen; omega) (by omega) (by have := HBS.out; simp; omega) _ rfl ?_; intro g2 cg2 w9 hown' hgrow hat hlt'))
        refine ⟨⟨k + 1, _, by omega, by go_num, exts_of_grown (W := W) (HX2.out.trans (by repeat (first | exact Exts.refl _ | apply Exts.andR | apply Exts.alloc | apply Exts.wext | apply Exts.drew | apply Exts.drewN))) hgrow (fun b hb => owns_base HO.out hb), hown', ?_, clash_next HC.out HCL.out HQ.out⟩, ?_⟩
        · have := HCI.out.step (c := ⟨id, vs, gr⟩) HO.out (V := _) ?_ (RowF.exts HCR.out (by repeat (first | exact Exts.refl _ | apply Exts.andR | apply Exts.alloc | apply Exts.wext | apply Exts.drew | apply Exts.drewN))) rfl (.inl (HCT.out.exts (by repeat (first | exact Exts.refl _ | apply Exts.andR | apply Exts.alloc | apply Exts.wext | apply Exts.drew | apply Exts.drewN)))) hgrow
          · rw [List.take_add_one, HC.out]
            exact this
          · exact (by repeat (first | exact Exts.refl _ | apply Exts.andR | apply Exts.alloc | apply Exts.wext | apply Exts.drew | apply Exts.drewN))
        · simp [intOf]; omega
      · have q1 : (gr == cg) = false := by simpa using hg
        have q2 : (gr != cg) = true := by simpa using hg
        have HG := Lib.hid q2
        clear hg
        by_cases h0 : m' = 0
        · have q3 : ((m' : Int) == 0) = true := by simp; omega
          have q4 : (m' == 0) = true := by simpa using h0
          have HCY := Lib.hid (clash_yes (D := D) (al := al) (cg := cg) HC.out (by
            show ((gr != cg) && _) = true
            rw [HG.out, HF.out, h0]; rfl))
          clear h0
          go_wp2_with (first | (go_at_call 43; ((with_reducible refine (keeps43 _ _ _ _ _ _ _ _ _ D _ vs al _ ks m' _ (HM.out.exts (by repeat (first | exact Exts.refl _ | apply Exts.andR | apply Exts.alloc | apply Exts.wext | apply Exts.drew | apply Exts.drewN))) (RowF.exts HVS.out (by repeat (first | exact Exts.refl _ | apply Exts.andR | apply Exts.alloc | apply Exts.wext | apply Exts.drew | apply Exts.drewN))) (RowF.exts HAW.out (by repeat (first | exact Exts.refl _ | apply Exts.andR | apply Exts.alloc | apply Exts.wext | apply Exts.drew | apply Exts.drewN))) HIV.out HIN.out HK.out HMM.out).mono ?_); rintro e w' ⟨ro, rc, rfl, ⟨x5, rfl⟩, hks⟩; clear hks)))
          go_ret2
          exact ⟨none, 0, 0, 25, rfl, HX.out.trans (HX2.out.trans (by repeat (first | exact Exts.refl _ | apply Exts.andR | apply Exts.alloc | apply Exts.wext | apply Exts.drew | apply Exts.drewN))), .inl ⟨HCY.out, rfl, rfl, rfl, rfl⟩⟩
        · have q3 : ((m' : Int) == 0) = false := by simp; omega
          have q4 : (m' == 0) = false := by simpa using h0
          have HQ := Lib.hid (show ((⟨id, vs, gr⟩ : Cs).grant != cg && forcesD D al ⟨id, vs, gr⟩) = false by
            rw [HF.out]
            simp [h0])
          clear h0
          go_wp2_with (first | (go_at_call 43; ((with_reducible refine (keeps43 _ _ _ _ _ _ _ _ _ D _ vs al _ ks m' _ (HM.out.exts (by repeat (first | exact Exts.refl _ | apply Exts.andR | apply Exts.alloc | apply Exts.wext | apply Exts.drew | apply Exts.drewN))) (RowF.exts HVS.out (by repeat (first | exact Exts.refl _ | apply Exts.andR | apply Exts.alloc | apply Exts.wext | apply Exts.drew | apply Exts.drewN))) (RowF.exts HAW.out (by repeat (first | exact Exts.refl _ | apply Exts.andR | apply Exts.alloc | apply Exts.wext | apply Exts.drew | apply Exts.drewN))) HIV.out HIN.out HK.out HMM.out).mono ?_); rintro e w' ⟨ro, rc, rfl, ⟨x5, rfl⟩, hks⟩; clear hks)) | (go_at_call 44; ((with_reducible refine (clone44 _ _ _ _ vs _ _ (RowF.exts HVS.out (by repeat (first | exact Exts.refl _ | apply Exts.andR | apply Exts.alloc | apply Exts.wext | apply Exts.drew | apply Exts.drewN))) hvl).mono ?_); rintro e w' ⟨ca2, cc2, rfl, ⟨x6, rfl⟩, hcr, hct⟩; (try simp only [wext_and] at hcr hct); (have HCR := Lib.hid hcr); (have HCT := Lib.hid hct); clear hcr hct)) | (at_builtin; refine wpList_append_lies _ rfl (.tmp 57) (.tmp 60) 23 rfl W.heap.size 33 i0 _ 3 40 Try.underlying23 hi hz0 hz1 hz2 rfl (by decide) (.slice oo k oc) k xs rfl (ownsRow_exts HO.out (by repeat (first | exact Exts.refl _ | apply Exts.andR | apply Exts.alloc | apply Exts.wext | apply Exts.drew | apply Exts.drewN))) ⟨_, 0, none⟩ 1 1 [.int .i64 id, .slice ca2 vs.length cc2, .bool gr] rfl rfl (by intro j u hj; match j, hj with | 0, hj => (simp at hj; subst hj; simp [go_sem]) | 1, hj => (simp at hj; subst hj; simp [go_sem]) | 2, hj => (simp at hj; subst hj; simp [go_sem])) (three_one _ _ _ rfl) (by decide) (by unfold maxLen; omega) (by omega) (by have := HBS.out; simp; omega) _ rfl ?_; intro g2 cg2 w9 hown' hgrow hat hlt'))
          refine ⟨⟨k + 1, _, by omega, by go_num, exts_of_grown (W := W) (HX2.out.trans (by repeat (first | exact Exts.refl _ | apply Exts.andR | apply Exts.alloc | apply Exts.wext | apply Exts.drew | apply Exts.drewN))) hgrow (fun b hb => owns_base HO.out hb), hown', ?_, clash_next HC.out HCL.out HQ.out⟩, ?_⟩
          · have := HCI.out.step (c := ⟨id, vs, gr⟩) HO.out (V := _) ?_ (RowF.exts HCR.out (by repeat (first | exact Exts.refl _ | apply Exts.andR | apply Exts.alloc | apply Exts.wext | apply Exts.drew | apply Exts.drewN))) rfl (.inl (HCT.out.exts (by repeat (first | exact Exts.refl _ | apply Exts.andR | apply Exts.alloc | apply Exts.wext | apply Exts.drew | apply Exts.drewN)))) hgrow
            · rw [List.take_add_one, HC.out]
              exact this
            · exact (by repeat (first | exact Exts.refl _ | apply Exts.andR | apply Exts.alloc | apply Exts.wext | apply Exts.drew | apply Exts.drewN))
          · simp [intOf]; omega
    · obtain rfl : k = n := by omega
      have htk : B.take k = B := List.take_of_length_le (by rw [HL.out]; exact Nat.le_refl _)
      rw [htk] at hci hcl
      have HCI2 := Lib.hid hci
      have HCL2 := Lib.hid hcl
      clear htk hx hown hci hcl
      go_wp2_with (first | (go_at_call 44; ((with_reducible refine (clone44 _ _ _ _ al _ _ (RowF.exts HAW.out (by repeat (first | exact Exts.refl _ | apply Exts.andR | apply Exts.alloc | apply Exts.wext | apply Exts.drew | apply Exts.drewN))) hal).mono ?_); rintro e w' ⟨ca2, cc2, rfl, ⟨x6, rfl⟩, hcr, hct⟩; (try simp only [wext_and] at hcr hct); (have HCR := Lib.hid hcr); (have HCT := Lib.hid hct); clear hcr hct)) | (at_builtin; refine wpList_append_lies _ rfl (.tmp 63) (.tmp 66) 23 rfl W.heap.size 33 i0 _ 3 40 Try.underlying23 hi hz0 hz1 hz2 rfl (by decide) (.slice oo k oc) k xs rfl (ownsRow_exts HO.out (by repeat (first | exact Exts.refl _ | apply Exts.andR | apply Exts.alloc | apply Exts.wext | apply Exts.drew | apply Exts.drewN))) ⟨_, 0, none⟩ 1 1 [.int .i64 cid, .slice ca2 na cc2, .bool cg] rfl rfl (by intro j u hj; match j, hj with | 0, hj => (simp at hj; subst hj; simp [go_sem]) | 1, hj => (simp at hj; subst hj; simp [go_sem]) | 2, hj => (simp at hj; subst hj; simp [go_sem])) (three_one _ _ _ rfl) (by decide) (by unfold maxLen; omega) (by omega) (by have := HBS.out; simp; omega) _ rfl ?_; intro g2 cg2 w9 hown' hgrow hat hlt'))
      go_ret2
      refine ⟨some ⟨g2, 0, none⟩, k + 1, cg2, 0, rfl, HX.out.trans (exts_of_grown (W := W) (HX2.out.trans (by repeat (first | exact Exts.refl _ | apply Exts.andR | apply Exts.alloc | apply Exts.wext | apply Exts.drew | apply Exts.drewN))) hgrow (fun b hb => owns_base HO.out hb)), .inr ⟨HCL2.out, rfl, rfl, ?_⟩⟩
      have hfin := HCI2.out.step (c := ⟨cid, al, cg⟩) HO.out (V := _) ?_ (RowF.exts HCR.out (by repeat (first | exact Exts.refl _ | apply Exts.andR | apply Exts.alloc | apply Exts.wext | apply Exts.drew | apply Exts.drewN))) HNA.out (.inl (HCT.out.exts (by repeat (first | exact Exts.refl _ | apply Exts.andR | apply Exts.alloc | apply Exts.wext | apply Exts.drew | apply Exts.drewN)))) hgrow
      · have hcs := hfin.cases hown' (by simp [HL.out]) HALL.out
        obtain ⟨e1, e2, ys, e3, e4⟩ := hcs
        exact ⟨e1, e2, ys, RowF.mono e3 fun b hb => Nat.le_trans HX.out.below.size hb, e4⟩
      · exact (by repeat (first | exact Exts.refl _ | apply Exts.andR | apply Exts.alloc | apply Exts.wext | apply Exts.drew | apply Exts.drewN))
end Go.Proofs.Ytodgohilfbggjaa

/- slices.Clone and slices.Delete at cases. No condition but the bounds. -/
namespace Go.Proofs.Ytodgohilfbggjaa
open Go.RowKit Go.Maps
set_option linter.unusedSimpArgs false
set_option linter.unusedVariables false

set_option maxHeartbeats 400000 in
theorem clone48 (v : Value) (n : Nat) (xs : List Value) (w : World) {S : Nat → Prop} (h : RowF S 3 w v n xs) (h1 : ∀ u ∈ xs, u.oneCell' = true) (hb : n * 40 ≤ 140737488355328) :
    Calls Try.prog 48 #[v] w fun e w' => ∃ ao' c', e = .returned (.slice ao' n c') ∧ Exts w w' ∧ w'.ownsRow w.heap.size 33 3 (.slice ao' n c') n xs := by
  obtain ⟨i0, hi, hz0, hz1, hz2⟩ := info_parts info33
  have hnle := h.nle
  have hlen := h.len
  obtain ⟨_, ao, cap, rfl, h2, h3, h4, h5⟩ := id h
  cases ao with
  | none =>
    have hc := h4 rfl
    subst hc
    obtain rfl : n = 0 := by omega
    obtain rfl : xs = [] := List.eq_nil_of_length_eq_zero (by simpa using hlen)
    have e := fun w => Lib.run_eql_slice_nil (P := Try.prog) w 23 33 none 0 0 0 0 Try.underlying23
    go_enter Try.func48, Try.ntmps48
    go_wp2
    go_ret
    exact ⟨none, 0, rfl, Exts.refl _, World.ownsRow_nil _ _ _ _⟩
  | some a =>
    have e := fun w => Lib.run_eql_slice_nil (P := Try.prog) w 23 33 (some a) n cap 0 0 Try.underlying23
    have hx : ∀ j u, xs[j]? = some u → (w.alloc (.cells #[] 33)).cell? (a.add j) = some u := by
      intro j u hj
      have hn : 0 < n := by
        have := (List.getElem?_eq_some_iff.1 hj).1
        rw [hlen] at this
        exact Nat.pos_of_ne_zero (fun h0 => by subst h0; simp at this)
      obtain ⟨b, off, hab, _, hbs, hc⟩ := h5 hn
      cases hab
      rw [Addr.add_lit, World.cell?_alloc_lt _ _ _ hbs]
      exact hc j u hj
    clear h2 h3 h4 h5 h
    unfold maxLen at hnle
    go_enter Try.func48, Try.ntmps48
    go_wp2_with (at_builtin; refine wpList_append_own _ rfl _ _ 23 rfl w.heap.size 33 i0 _ 3 40 Try.underlying23 hi hz0 hz1 hz2 rfl (by decide) _ 0 [] rfl (World.ownsRow_made w #[] 0 (Nat.le_refl _) (by decide) rfl) a n cap xs rfl hlen hx h1 (by unfold maxLen; omega) (by omega) (by simp) ?_; intro v' w1 hown hgrow hnil)
    go_ret
    simp only [Nat.zero_add, List.nil_append] at hown
    obtain ⟨ao', c', rfl⟩ := owns_shape hown
    exact ⟨ao', c', rfl, exts_of_grown ((Exts.refl w).alloc _) hgrow (fun b hb => by cases hb; exact Nat.le_refl _), hown⟩

theorem owns_take {w : World} {base g n cap i : Nat} {xs : List Value} (h : w.ownsRow base 33 3 (.slice (some ⟨g, 0, none⟩) n cap) n xs) (hi : i ≤ n) : w.ownsRow base 33 3 (.slice (some ⟨g, 0, none⟩) i cap) i (xs.take (i * 3)) := by
  obtain ⟨h1, ⟨h2, _⟩ | ⟨g', cap', cur, e, h3, h4, h5, h6, h7, h8⟩⟩ := h
  · cases h2
  · simp only [Value.slice.injEq, Option.some.injEq, Addr.mk.injEq, and_true, true_and] at e
    obtain ⟨rfl, rfl⟩ := e
    refine ⟨by rw [List.length_take, h1, Nat.min_eq_left (Nat.mul_le_mul_right _ hi)], .inr ⟨g, cap, cur, rfl, h3, h4, by omega, h6, h7, ?_⟩⟩
    rw [← h8, List.take_take, Nat.min_eq_left (Nat.mul_le_mul_right _ hi)]
theorem owns_at {w : World} {base g n cap : Nat} {xs : List Value} (h : w.ownsRow base 33 3 (.slice (some ⟨g, 0, none⟩) n cap) n xs) {j : Nat} {u : Value} (hu : xs[j]? = some u) : w.cell? ⟨g, j, none⟩ = some u := by
  obtain ⟨h1, ⟨h2, _⟩ | ⟨g', cap', cur, e, h3, h4, h5, h6, h7, h8⟩⟩ := h
  · cases h2
  · simp only [Value.slice.injEq, Option.some.injEq, Addr.mk.injEq, and_true, true_and] at e
    obtain ⟨rfl, rfl⟩ := e
    have hj := (List.getElem?_eq_some_iff.1 hu).1
    rw [← h8, List.getElem?_take_of_lt (by omega)] at hu
    rw [cell_of_row w g j cur 33 (0, 0) h4]
    simpa using hu
theorem owns_set {w : World} {base g m cap j : Nat} {xs : List Value} (v : Value) (h : w.ownsRow base 33 3 (.slice (some ⟨g, 0, none⟩) m cap) m xs) (hj : m * 3 ≤ j) : (w.setCell ⟨g, j, none⟩ v).ownsRow base 33 3 (.slice (some ⟨g, 0, none⟩) m cap) m xs := by
  obtain ⟨h1, ⟨h2, _⟩ | ⟨g', cap', cur, e, h3, h4, h5, h6, h7, h8⟩⟩ := h
  · cases h2
  · simp only [Value.slice.injEq, Option.some.injEq, Addr.mk.injEq, and_true, true_and] at e
    obtain ⟨rfl, rfl⟩ := e
    refine ⟨h1, .inr ⟨g, cap, _, rfl, h3, set_cells j v h4, h5, h6, by simpa using h7, ?_⟩⟩
    rw [← h8]
    apply List.ext_getElem?
    intro t
    by_cases ht : t < m * 3
    · rw [List.getElem?_take_of_lt ht, List.getElem?_take_of_lt ht, Array.getElem?_toList, Array.getElem?_toList, Array.getElem?_setIfInBounds, if_neg (by omega)]
    · rw [List.getElem?_eq_none (by rw [List.length_take]; omega), List.getElem?_eq_none (by rw [List.length_take]; omega)]
theorem zero33 (w : World) : (zeroValue 33).run Try.prog w = .ok (.agg #[.int .i64 0, .slice none 0 0, .bool false]) w := by kernel_rfl
theorem zeroCells33 : (Builtin.zeroCells (Value.agg #[.int .i64 0, .slice none 0 0, .bool false]).cells 1).toList = [.int .i64 0, .slice none 0 0, .bool false] := by kernel_rfl
theorem run_clear_last {w : World} {base g m cap : Nat} {xs : List Value} (h : w.ownsRow base 33 3 (.slice (some ⟨g, 0, none⟩) m cap) m xs) (hm : m + 1 ≤ cap) : ∃ w', (∀ (ty : TypeId) (c : Nat), (Builtin.clear_ #[23] ty #[.slice (some ⟨g, m * 3, none⟩) 1 c]).run Try.prog w = .ok (.tuple #[]) w') ∧ w'.ownsRow base 33 3 (.slice (some ⟨g, 0, none⟩) m cap) m xs ∧ w.grownBy w' (some g) := by
  have hcells : ∀ j, j < 3 → (w.cell? ⟨g, m * 3 + j, none⟩).isSome = true ∧ w.frozen? ⟨g, m * 3 + j, none⟩ = false := fun j hj => by
    obtain ⟨h1, ⟨h2, _⟩ | ⟨g', cap', cur, e, h3, h4, h5, h6, h7, h8⟩⟩ := h
    · cases h2
    · simp only [Value.slice.injEq, Option.some.injEq, Addr.mk.injEq, and_true, true_and] at e
      obtain ⟨rfl, rfl⟩ := e
      refine ⟨?_, frozen_row _ h4⟩
      rw [cell_of_row w g _ cur 33 (0, 0) h4, Array.getElem?_eq_getElem (by omega)]
      rfl
  have hst := run_storeCells_cells (P := Try.prog) g (m * 3) [.int .i64 0, .slice none 0 0, .bool false] 0 w (fun j hj => (hcells j hj).1) (fun j hj => (hcells j hj).2) (three_one 0 _ false rfl)
  refine ⟨((w.setCell ⟨g, m * 3, none⟩ (.int .i64 0)).setCell ⟨g, m * 3 + 1, none⟩ (.slice none 0 0)).setCell ⟨g, m * 3 + 1 + 1, none⟩ (.bool false), ?_, ?_, ?_⟩
  · intro ty c
    simp [Builtin.clear_, run_underlying Try.underlying23, zero33, zeroCells33]
    simp only [Nat.add_zero] at hst
    rw [hst]
    rfl
  · exact owns_set _ (owns_set _ (owns_set _ h (by omega)) (by omega)) (by omega)
  · have g1 := grown_set w g (m * 3) (.int .i64 0)
    have g2 := grown_set (w.setCell ⟨g, m * 3, none⟩ (.int .i64 0)) g (m * 3 + 1) (.slice none 0 0)
    have g3 := grown_set ((w.setCell ⟨g, m * 3, none⟩ (.int .i64 0)).setCell ⟨g, m * 3 + 1, none⟩ (.slice none 0 0)) g (m * 3 + 1 + 1) (.bool false)
    exact (g1.trans g2).trans g3
theorem step_append_fits {ops : Array Oper} {o : Oper} {a : Act} {w : World} {K : Act → World → Prop} {Q : Exit → Act → World → Prop} {E : Prop}
    (hg : o.guard = none) (s x : Operand) (t : TypeId) (hop : o.op = Op.call { callee := Callee.builtin Builtin.append, args := #[s, x], argTypes := #[t, t] })
    (base : Nat) (e : TypeId) (i : TypeInfo) (size : Nat) (h1 : Try.prog.underlying t = some (.slice e)) (h2 : Try.prog.info? e = some i) (h4 : i.size = size)
    (g k cap : Nat) (xs : List Value) (hs : a.eval s = .slice (some ⟨g, 0, none⟩) k cap) (hown : w.ownsRow base e size (.slice (some ⟨g, 0, none⟩) k cap) k xs) (ad : Addr) (m c : Nat) (news : List Value) (hx : a.eval x = .slice (some ad) m c) (hn : news.length = m * size)
    (hc : ∀ j u, news[j]? = some u → w.cell? (ad.add j) = some u) (h1c : ∀ u ∈ news, u.oneCell' = true) (b1 : k + m ≤ cap)
    (hK : ∀ w', w'.ownsRow base e size (.slice (some ⟨g, 0, none⟩) (k + m) cap) (k + m) (xs ++ news) → w.grownBy w' (some g) → K (a.put o.dst (.slice (some ⟨g, 0, none⟩) (k + m) cap)) w') :
    if Region.wanted o (yielded ops a.tmps) = true then Oper.wp Try.prog o a w K Q else E := by
  have hw : Region.wanted o (yielded ops a.tmps) = true := by simp [Region.wanted, hg]
  rw [if_pos hw]
  obtain ⟨w', hrun, r1, r2⟩ := run_append_fits (P := Try.prog) w base t o.type e i size h1 h2 h4 g k cap xs hown ad m c news hn hc h1c b1
  unfold Oper.wp
  simp [execOp, hop, resolve, invoke, builtin, hs, hx, hrun, Result.andThen]
  exact hK w' r1 r2
set_option maxRecDepth 100000
set_option maxHeartbeats 2000000
theorem delete47 (base g n cap i : Nat) (xs : List Value) (w : World) (h : w.ownsRow base 33 3 (.slice (some ⟨g, 0, none⟩) n cap) n xs) (h1 : ∀ u ∈ xs, u.oneCell' = true) (hi : i < n) (hn : n ≤ 100) :
    Calls Try.prog 47 #[.slice (some ⟨g, 0, none⟩) n cap, .int .i64 i, .int .i64 ((i : Int) + 1)] w fun e w' => e = .returned (.slice (some ⟨g, 0, none⟩) (n - 1) cap) ∧ w'.ownsRow base 33 3 (.slice (some ⟨g, 0, none⟩) (n - 1) cap) (n - 1) (xs.take (i * 3) ++ xs.drop ((i + 1) * 3)) ∧ w.grownBy w' (some g) := by
  have H := Lib.hid h
  have hcap : n ≤ cap ∧ cap ≤ maxLen := by
    obtain ⟨_, ⟨h2, _⟩ | ⟨g', cap', cur, e, _, _, h5, h6, _⟩⟩ := h
    · cases h2
    · simp only [Value.slice.injEq, Option.some.injEq, Addr.mk.injEq, and_true, true_and] at e
      obtain ⟨rfl, rfl⟩ := e
      exact ⟨h5, h6⟩
  obtain ⟨hc1, hc2⟩ := hcap
  unfold maxLen at hc2
  have q1 : ((i : Int) == (i : Int) + 1) = false := by simp; omega
  obtain ⟨i0, hi0, hz0, hz1, hz2⟩ := info_parts info33
  have hdl : (xs.drop ((i + 1) * 3)).length = (n - (i + 1)) * 3 := by rw [List.length_drop, h.1, ← Nat.sub_mul]
  have hd1 : ∀ u ∈ xs.drop ((i + 1) * 3), u.oneCell' = true := fun u hu => h1 u (List.mem_of_mem_drop hu)
  have HDL := Lib.hid hdl
  have HD1 := Lib.hid hd1
  have e1 : i + (n - (i + 1)) = n - 1 := by omega
  have hic : i ≤ cap := by omega
  have hwr : IntKind.i64.wrap ((i : Int) + 1) = (i : Int) + 1 := by rw [IntKind.wrap_i64]; omega
  have hp0 : (0 : Int) ≤ (i : Int) + 1 := by omega
  have hp1 : (i : Int) + 1 ≤ (n : Int) := by omega
  have hp2 : ((i : Int) + 1).toNat = i + 1 := by omega
  have hp3 : (0 : Int) ≤ (i : Int) := by omega
  have hp4 : (i : Int) ≤ (cap : Int) := by omega
  clear h h1 hdl hd1
  by_cases hce : cap = i + 1
  · obtain rfl : n = i + 1 := by omega
    subst hce
    have hce' : ((i + 1 : Nat) : Int) = (i : Int) + 1 := by omega
    have hce2 : (i : Int) ≤ (i : Int) + 1 := by omega
    have hce3 : ¬ i + 1 = i := by omega
    have hce4 : i + 1 - i = 1 := by omega
    go_enter Try.func47, Try.ntmps47
    go_wp2
    go_region_law (refine step_append_fits rfl (.tmp 22) (.tmp 25) 23 rfl base 33 i0 3 Try.underlying23 hi0 hz1 g i (i + 1) (xs.take (i * 3)) (by simp [Act.eval, Act.put]) (owns_take H.out.drew (by omega)) ⟨g, 0, none⟩ 0 0 [] (by simp [Act.eval, Act.put]) rfl (by intro j u hj; cases hj) (fun u hu => nomatch hu) (by omega) ?_; intro w9 hown9 hgrow9)
    all_goals
      simp only [Nat.add_zero, List.append_nil] at hown9
      obtain ⟨w10, hclr, hown10, hgrow10⟩ := run_clear_last hown9 (by omega)
      have HO10 := Lib.hid hown10
      have hdr : w.grownBy w.drew (some g) := ⟨rfl, rfl, rfl, Nat.le_refl _, fun _ _ _ => rfl⟩
      have HG := Lib.hid ((hdr.trans hgrow9).trans hgrow10)
      clear hown9 hgrow9 hown10 hgrow10
      go_wp2
      go_ret
      refine ⟨rfl, ?_, HG.out⟩
      rw [List.drop_eq_nil_of_le (by have := HDL.out; rw [List.length_drop] at this; omega), List.append_nil]
      exact HO10.out
  · have hce' : ¬ (cap : Int) = (i : Int) + 1 := by omega
    go_enter Try.func47, Try.ntmps47
    go_wp2
    go_region_law (refine step_append_fits rfl (.tmp 22) (.tmp 25) 23 rfl base 33 i0 3 Try.underlying23 hi0 hz1 g i cap (xs.take (i * 3)) (by simp [Act.eval, Act.put]) (owns_take H.out.drew (by omega)) ⟨g, (i + 1) * 3, none⟩ (n - (i + 1)) (cap - (i + 1)) (xs.drop ((i + 1) * 3)) (by simp [Act.eval, Act.put]) HDL.out (by intro j u hj; rw [Addr.add_lit]; rw [List.getElem?_drop] at hj; exact owns_at H.out.drew hj) HD1.out (by omega) ?_; intro w9 hown9 hgrow9)
    all_goals
      rw [e1] at hown9
      obtain ⟨w10, hclr, hown10, hgrow10⟩ := run_clear_last hown9 (by omega)
      have HO10 := Lib.hid hown10
      have hdr : w.grownBy w.drew (some g) := ⟨rfl, rfl, rfl, Nat.le_refl _, fun _ _ _ => rfl⟩
      have HG := Lib.hid ((hdr.trans hgrow9).trans hgrow10)
      have hq0 : (0 : Int) ≤ (n : Int) - 1 := by omega
      have hq1 : n - 1 ≤ n := by omega
      have hq2 : n - (n - 1) = 1 := by omega
      have hq3 : ((n - 1 : Nat) : Int) ≤ (n : Int) := by omega
      have hq4 : ¬ cap = n - 1 := by omega
      clear hown9 hgrow9 hown10 hgrow10
      go_wp2
      go_ret
      exact ⟨rfl, HO10.out, HG.out⟩
end Go.Proofs.Ytodgohilfbggjaa

/- Parts of a base, and a base without a case. -/
namespace Go.Proofs.Ytodgohilfbggjaa
open Go.RowKit
set_option linter.unusedSimpArgs false
set_option linter.unusedVariables false

theorem owns_some {w : World} {base e s n c : Nat} {ao : Option Addr} {xs : List Value} (h : w.ownsRow base e s (.slice ao n c) n xs) (hn : 0 < n) : ∃ g, ao = some ⟨g, 0, none⟩ ∧ base ≤ g := by
  obtain ⟨h1, ⟨h2, h3⟩ | ⟨g', cap', cur, ee, h3, h4, h5, h6, h7, h8⟩⟩ := h
  · cases h2
    omega
  · simp only [Value.slice.injEq, true_and] at ee
    obtain ⟨rfl, rfl⟩ := ee
    exact ⟨g', rfl, h3⟩
theorem Cases.take {S : Nat → Prop} {w : World} {bo : Option Addr} {n c k : Nat} {B : List Cs} (h : Cases S w bo n c B) (hk : k ≤ n) : Cases S w bo k c (B.take k) := by
  obtain ⟨h1, h0, xs, h2, h3⟩ := h
  obtain ⟨_, ao, cap, hv, q1, q2, q3, q4⟩ := id h2
  simp only [Value.slice.injEq, true_and] at hv
  obtain ⟨rfl, rfl⟩ := hv
  refine ⟨by simp [h1, Nat.min_eq_left hk], fun x hx => h0 x (List.mem_of_mem_take hx), _, h2.part 0 k c (by omega) (by omega) q2 bo q3 (fun b off hb _ => by rw [hb]; simp), fun i d hd => ?_⟩
  by_cases hi : i < k
  · rw [List.getElem?_take_of_lt hi] at hd
    obtain ⟨v, e1, e2, e3, e4⟩ := h3 i d hd
    refine ⟨v, ?_, ?_, ?_, e4⟩
    · rw [Nat.zero_mul, List.drop_zero, List.getElem?_take_of_lt (by omega)]; exact e1
    · rw [Nat.zero_mul, List.drop_zero, List.getElem?_take_of_lt (by omega)]; exact e2
    · rw [Nat.zero_mul, List.drop_zero, List.getElem?_take_of_lt (by omega)]; exact e3
  · rw [List.getElem?_eq_none (by rw [List.length_take]; omega)] at hd
    cases hd
/-- The row without the cells of a case. -/
theorem Cases.less {S' : Nat → Prop} {w w' : World} {ro : Option Addr} {n rc i : Nat} {B : List Cs} {xs : List Value} (h1 : B.length = n) (h0 : ∀ x ∈ B, I64 x.id) (h2 : xs.length = n * 3) (h3 : ∀ (i : Nat) (d : Cs), B[i]? = some d → ∃ v, xs[i * 3]? = some (.int .i64 d.id) ∧ xs[i * 3 + 1]? = some v ∧ xs[i * 3 + 2]? = some (.bool d.grant) ∧ IntsV w v d.vals) (hi : i < n) (he : Exts w w') (hr : RowF S' 3 w' (.slice ro (n - 1) rc) (n - 1) (xs.take (i * 3) ++ xs.drop ((i + 1) * 3))) : Cases S' w' ro (n - 1) rc (B.eraseIdx i) := by
  refine ⟨by rw [List.length_eraseIdx, if_pos (by omega), h1], fun x hx => h0 x (List.mem_of_mem_eraseIdx hx), _, hr, fun j d hd => ?_⟩
  rw [List.getElem?_eraseIdx] at hd
  by_cases hj : j < i
  · rw [if_pos hj] at hd
    obtain ⟨v, e1, e2, e3, e4⟩ := h3 j d hd
    refine ⟨v, ?_, ?_, ?_, e4.exts he⟩
    · rw [List.getElem?_append_left (by rw [List.length_take, h2]; omega), List.getElem?_take_of_lt (by omega)]; exact e1
    · rw [List.getElem?_append_left (by rw [List.length_take, h2]; omega), List.getElem?_take_of_lt (by omega)]; exact e2
    · rw [List.getElem?_append_left (by rw [List.length_take, h2]; omega), List.getElem?_take_of_lt (by omega)]; exact e3
  · rw [if_neg hj] at hd
    obtain ⟨v, e1, e2, e3, e4⟩ := h3 (j + 1) d hd
    have hlt : (xs.take (i * 3)).length = i * 3 := by rw [List.length_take, h2]; omega
    refine ⟨v, ?_, ?_, ?_, e4.exts he⟩
    · rw [List.getElem?_append_right (by omega), hlt, List.getElem?_drop, ← e1]; congr 1; omega
    · rw [List.getElem?_append_right (by omega), hlt, List.getElem?_drop, ← e2]; congr 1; omega
    · rw [List.getElem?_append_right (by omega), hlt, List.getElem?_drop, ← e3]; congr 1; omega
theorem erase_take (B : List Cs) {i k : Nat} (h : i < k) : (B.eraseIdx i).take (k - 1) = (B.take k).eraseIdx i := by
  apply List.ext_getElem?
  intro j
  rw [List.getElem?_take, List.getElem?_eraseIdx, List.getElem?_eraseIdx, List.getElem?_take, List.getElem?_take]
  by_cases h1 : j < i
  · rw [if_pos h1, if_pos h1, if_pos (by omega), if_pos (by omega)]
  · rw [if_neg h1, if_neg h1]
    by_cases h2 : j < k - 1
    · rw [if_pos h2, if_pos (by omega)]
    · rw [if_neg h2, if_neg (by omega)]
/-- The outcome that a case has. -/
def wantC (g : Bool) : Int := if g = true then 1 else 2
noncomputable def lostC (D : List Dm) (B : List Cs) (i k : Nat) (c : Cs) : Bool := (whatD D (B.take k) c.vals == wantC c.grant) && !(whatD D ((B.take k).eraseIdx i) c.vals == wantC c.grant)
noncomputable def lostI (D : List Dm) (B : List Cs) (i k : Nat) : Bool := match B[k]? with | some c => lostC D B i k c | none => false
noncomputable def ovrK (D : List Dm) (B : List Cs) (i k : Nat) : List Int := ((List.range k).filter fun j => decide (i < j) && lostI D B i j).map Int.ofNat
noncomputable def ovrD (D : List Dm) (B : List Cs) (i : Int) : List Int × Int := if (checkD D B && (decide (0 ≤ i) && decide (i < (B.length : Int)))) = true then (ovrK D B i.toNat B.length, 0) else ([], 1)
theorem ovrK_len (D : List Dm) (B : List Cs) (i k : Nat) : (ovrK D B i k).length ≤ k := by
  unfold ovrK
  rw [List.length_map]
  exact Nat.le_trans (List.length_filter_le _ _) (by simp)
theorem ovrK_next {D : List Dm} {B : List Cs} {i k : Nat} {c : Cs} (hi : i < k) (h : B[k]? = some c) : ovrK D B i (k + 1) = if lostC D B i k c = true then ovrK D B i k ++ [(k : Int)] else ovrK D B i k := by
  unfold ovrK
  rw [List.range_succ, List.filter_append, List.map_append]
  have : lostI D B i k = lostC D B i k c := by
    unfold lostI
    rw [h]
  rw [List.filter_cons, this]
  cases hq : lostC D B i k c <;> simp [hi]
theorem ovrK_start (D : List Dm) (B : List Cs) (i : Nat) : ovrK D B i (i + 1) = [] := by
  unfold ovrK
  rw [List.map_eq_nil_iff, List.filter_eq_nil_iff]
  intro j hj
  have := List.mem_range.1 hj
  have h : ¬ i < j := by omega
  simp [h]
end Go.Proofs.Ytodgohilfbggjaa
