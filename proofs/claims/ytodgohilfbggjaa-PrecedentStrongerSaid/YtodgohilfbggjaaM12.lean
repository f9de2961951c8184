/- Lemmas that the laws of this seat share, 4 texts in one: Maps, Check, Forced, RefRt. No condition of their own. -/
import Derived.Test.YtodgohilfbggjaaM1
import Derived.Maps.OwnOps
import Derived.Maps.OwnSet
import Derived.Test.YtodgohilfbggjaaM11
/- Maps to bools that a call makes: sets of numbers, and of sides. No program in sight but the types. -/
namespace Go.Proofs.Ytodgohilfbggjaa
open Go.RowKit Go.Maps
set_option linter.unusedSimpArgs false
set_option linter.unusedVariables false

theorem lawI : Keyed Try.prog 3 := int_keyed Try.underlying3
theorem lawB : Keyed Try.prog 4 := bool_keyed Try.underlying4
theorem zeroB (w : World) : (zeroValue 4).run Try.prog w = .ok (.bool false) w := by kernel_rfl
theorem plainElem_bool_inv {H : Type} {e : TypeId} (he : Try.prog.underlying e = some .bool) {v : Value} {z : DataW H × List MemPlace} (h : plainElem Try.prog e v = some z) : ∃ x, v = .bool x ∧ z = (.lit (.bool x), []) := by
  unfold plainElem at h
  split at h
  · cases h
    exact ⟨_, rfl, rfl⟩
  · rename_i h1
    rw [he] at h1
    cases h1
  · rename_i h1
    rw [he] at h1
    cases h1
  · cases h
/-- A map to bools, as a function of the keys' data. -/
def MapB (w : World) (k : TypeId) (b n : Nat) (f : Lit → Bool) : Prop := ∃ D : DataW Unit, w.ownsMap Try.prog k (plainElem Try.prog 4) b n D ∧ ∀ l, D.atKey l (.lit (.bool false)) = .lit (.bool (f l))
open Classical in
noncomputable def putF (f : Lit → Bool) (kl : Lit) (x : Bool) : Lit → Bool := fun l => if l = kl then x else f l
theorem putF_same (f : Lit → Bool) (kl : Lit) (x : Bool) : putF f kl x kl = x := by simp [putF]
theorem putF_other (f : Lit → Bool) {kl l : Lit} (x : Bool) (h : l ≠ kl) : putF f kl x l = f l := by simp [putF, h]
theorem MapB.made (w : World) (k : TypeId) : MapB (w.alloc (.map #[] 0)) k w.heap.size 0 fun _ => false := ⟨_, World.ownsMap_made _ _ _ _, fun l => rfl⟩
theorem MapB.kept {w w' : World} {k : TypeId} {b n : Nat} {f : Lit → Bool} {row : Option Nat} (h : MapB w k b n f) (hg : w.grownBy w' row) (hne : some b ≠ row) : MapB w' k b n f := by
  obtain ⟨D, h1, h2⟩ := h
  exact ⟨D, h1.kept hg hne, h2⟩
theorem MapB.exts {w w' : World} {k : TypeId} {b n : Nat} {f : Lit → Bool} (h : MapB w k b n f) (he : Exts w w') : MapB w' k b n f := h.kept (grownBy_exts he none) (by simp)
theorem MapB.lt {w : World} {k : TypeId} {b n : Nat} {f : Lit → Bool} (h : MapB w k b n f) : b < w.heap.size := by
  obtain ⟨D, h1, _⟩ := h
  exact h1.lt
theorem MapB.look {w : World} {k t b n : Nat} {f : Lit → Bool} {key : Value} {kl : Lit} (h : MapB w k b n f) (K : Keyed Try.prog k) (ht : Try.prog.underlying t = some (.map k 4)) (hkey : keyOf Try.prog k key = some kl) : (Instr.lookup t (.map (some b)) key false).run Try.prog w = .ok (.bool (f kl)) w := by
  obtain ⟨D, h1, h2⟩ := h
  obtain ⟨v, ps, hrun, hv⟩ := h1.lookup K ht (zeroB w) (plainElem_bool Try.underlying4 false) hkey
  obtain ⟨x, rfl, hx⟩ := plainElem_bool_inv Try.underlying4 hv
  rw [hrun]
  have := h2 kl
  simp only [Prod.mk.injEq] at hx
  rw [hx.1] at this
  cases this
  rfl
theorem MapB.put {w : World} {k t b n : Nat} {f : Lit → Bool} {key : Value} {kl : Lit} (h : MapB w k b n f) (K : Keyed Try.prog k) (ht : Try.prog.underlying t = some (.map k 4)) (hn : n < maxLen) (hkey : keyOf Try.prog k key = some kl) (hk : WideAt.IsKeyLit kl) (x : Bool) : ∃ w', (Instr.mapUpdate t (.map (some b)) key (.bool x)).run Try.prog w = .ok () w' ∧ MapB w' k b (n + 1) (putF f kl x) ∧ w.grownBy w' (some b) := by
  obtain ⟨D, h1, h2⟩ := h
  obtain ⟨w', r1, r2, r3⟩ := h1.update K ht hn hkey (plainElem_bool Try.underlying4 x)
  refine ⟨w', r1, ⟨_, r2, fun l => ?_⟩, r3⟩
  by_cases hl : l = kl
  · subst hl
    rw [putF_same]
    exact atKey_put_same h1.isMap hk _ _
  · rw [putF_other f x hl, atKey_put_other hl]
    exact h2 l
theorem mapB_update {w : World} {ops : Array Oper} {rest : List Oper} {o : Oper} {a : Act} {Q : Exit → Act → World → Prop}
    (hg : o.guard = none) (m x v : Operand) (t k : TypeId) (hop : o.op = Op.mapUpdate t m x v) (K : Keyed Try.prog k) (ht : Try.prog.underlying t = some (.map k 4)) (b n : Nat) (f : Lit → Bool)
    (hm : a.eval m = .map (some b)) (hown : MapB w k b n f) (hn : n < maxLen) (key : Value) (y : Bool) (kl : Lit) (hx : a.eval x = key) (hv : a.eval v = .bool y) (hkey : keyOf Try.prog k key = some kl) (hk : WideAt.IsKeyLit kl)
    (hK : ∀ w', MapB w' k b (n + 1) (putF f kl y) → w.grownBy w' (some b) → wpList Try.prog ops Q rest (a.put o.dst undef) w') :
    wpList Try.prog ops Q (o :: rest) a w := by
  refine wpList_plain hg fun K' hK' => ?_
  obtain ⟨w', hrun, r1, r2⟩ := hown.put K ht hn hkey hk y
  unfold Oper.wp
  simp [execOp, hop, hm, hx, hv, hrun, Result.andThen]
  exact hK' _ _ (hK w' r1 r2)
theorem isKey_int (a : Int) : WideAt.IsKeyLit (.int .i64 a) := by trivial
theorem isKey_bool (a : Bool) : WideAt.IsKeyLit (.bool a) := by trivial
end Go.Proofs.Ytodgohilfbggjaa

/- check of package precedent. No condition but at most 2000 cases. -/
namespace Go.Proofs.Ytodgohilfbggjaa
open Go.RowKit Go.Maps
set_option linter.unusedSimpArgs false
set_option linter.unusedVariables false

theorem key_int {x : Int} (h : I64 x) : keyOf Try.prog 3 (.int .i64 x) = some (.int .i64 x) := keyOf_int_mk Try.underlying3 (by
  obtain ⟨h1, h2⟩ := h
  simp [Lit.wf, IntKind.min, IntKind.max, IntKind.signed, IntKind.bits]
  omega)
/-- The Ids so far. -/
def idsF (L : List Cs) : Lit → Bool
  | .int .i64 x => L.any fun c => c.id == x
  | _ => false
theorem idsF_next {B : List Cs} {k : Nat} {c : Cs} (h : B[k]? = some c) (l : Lit) : putF (idsF (B.take k)) (.int .i64 c.id) true l = idsF (B.take (k + 1)) l := by
  by_cases hl : l = .int .i64 c.id
  · rw [hl, putF_same]
    simp [idsF, List.take_add_one, h]
  · rw [putF_other _ _ hl]
    cases l with
    | int q x =>
      cases q <;> try rfl
      simp only [idsF]
      rw [List.take_add_one, h, List.any_append]
      have : (c.id == x) = false := by
        have : ¬ c.id = x := fun hc => hl (by rw [hc])
        simpa using this
      simp [this]
    | _ => rfl
theorem MapB.congr {w : World} {k : TypeId} {b n : Nat} {f f' : Lit → Bool} (h : MapB w k b n f) (he : ∀ l, f l = f' l) : MapB w k b n f' := by
  obtain ⟨D, h1, h2⟩ := h
  exact ⟨D, h1, fun l => by rw [h2 l, he l]⟩
/-- The first k cases are right. -/
def OkK (D : List Dm) (B : List Cs) (k : Nat) : Prop := (∀ c ∈ B.take k, inD D c.vals = true) ∧ ((B.take k).map Cs.id).Nodup
theorem OkK.zero (D : List Dm) (B : List Cs) : OkK D B 0 := ⟨by simp, by simp⟩
theorem OkK.next {D : List Dm} {B : List Cs} {k : Nat} {c : Cs} (h : OkK D B k) (hc : B[k]? = some c) (hv : inD D c.vals = true) (hi : ((B.take k).any fun d => d.id == c.id) = false) : OkK D B (k + 1) := by
  obtain ⟨h1, h2⟩ := h
  constructor
  · intro d hd
    rw [List.take_add_one, hc, List.mem_append] at hd
    rcases hd with hd | hd
    · exact h1 d hd
    · simp at hd
      rw [hd]; exact hv
  · rw [List.take_add_one, hc, List.map_append, List.nodup_append]
    refine ⟨h2, by simp, fun x hx y hy => ?_⟩
    simp at hy
    subst hy
    intro he
    subst he
    obtain ⟨d, hd, e⟩ := List.mem_map.1 hx
    rw [List.any_eq_false] at hi
    exact hi d hd (by simpa using e)
theorem check_all {D : List Dm} {B : List Cs} (hr : rightD D = true) (h : OkK D B B.length) : checkD D B = true := by
  obtain ⟨h1, h2⟩ := h
  rw [List.take_of_length_le (Nat.le_refl _)] at h1 h2
  unfold checkD
  rw [hr]
  simp only [Bool.true_and, Bool.and_eq_true, List.all_eq_true, decide_eq_true_eq]
  exact ⟨h1, h2⟩
theorem check_vec {D : List Dm} {B : List Cs} {k : Nat} {c : Cs} (hc : B[k]? = some c) (hv : inD D c.vals = false) : checkD D B = false := by
  refine Bool.eq_false_iff.2 fun h => ?_
  simp only [checkD, Bool.and_eq_true, List.all_eq_true] at h
  have := h.2.1 c (List.mem_of_getElem? hc)
  rw [hv] at this
  cases this
theorem check_twice {D : List Dm} {B : List Cs} {k : Nat} {c : Cs} (hc : B[k]? = some c) (hi : ((B.take k).any fun d => d.id == c.id) = true) : checkD D B = false := by
  refine Bool.eq_false_iff.2 fun h => ?_
  simp only [checkD, Bool.and_eq_true, decide_eq_true_eq] at h
  rw [List.any_eq_true] at hi
  obtain ⟨d, hd, he⟩ := hi
  obtain ⟨j, hj⟩ := List.getElem?_of_mem hd
  have hjk : j < k := by
    have := (List.getElem?_eq_some_iff.1 hj).1
    rw [List.length_take] at this
    omega
  rw [List.getElem?_take_of_lt hjk] at hj
  have hn := h.2.2
  rw [List.Nodup, List.pairwise_iff_getElem] at hn
  have hl1 := (List.getElem?_eq_some_iff.1 hj).1
  have hl2 := (List.getElem?_eq_some_iff.1 hc).1
  refine hn j k (by simpa using hl1) (by simpa using hl2) hjk ?_
  simp only [List.getElem_map]
  have e1 : B[j] = d := (List.getElem?_eq_some_iff.1 hj).2
  have e2 : B[k] = c := (List.getElem?_eq_some_iff.1 hc).2
  rw [e1, e2]
  simpa using he
theorem isVector32_D {S : Nat → Prop} (mo ao : Option Addr) (n mc na ca : Nat) (D : List Dm) (al : List Int) (r : Bool) (w : World) (h : Ords w mo n mc D) (ha : Ints S w ao na ca al) (hr : inD D al = r) :
    Calls Try.prog 32 #[.slice mo n mc, .slice ao na ca] w fun e w' => e = .returned (.bool r) ∧ Exts w w' := by
  subst hr
  exact isVector32 mo ao n mc na ca D al w h ha
set_option maxRecDepth 100000
set_option maxHeartbeats 4000000
theorem check31_no {S S1 : Nat → Prop} (lo bo : Option Addr) (n1 c1 n c : Nat) (D : List Dm) (B : List Cs) (w : World) (hd : Dims S w lo n1 c1 D) (hb : Cases S1 w bo n c B) (hr : rightD D = false) (hn : n ≤ 2000) :
    Calls Try.prog 31 #[.slice lo n1 c1, .slice bo n c] w fun e w' => e = .returned (.tuple #[.slice none 0 0, .bool false]) ∧ Exts w w' := by
  have hmm := @run_makeMap Try.prog
  have HD := Lib.hid hd
  have HB := Lib.hid hb
  have HR := Lib.hid hr
  clear hd hb hr
  go_enter Try.func31, Try.ntmps31
  go_wp2_with (first | (go_at_call 54; ((with_reducible refine (read54_no _ _ _ D _ (HD.out.exts (by repeat (first | exact Exts.refl _ | apply Exts.andR | apply Exts.alloc | apply Exts.wext | apply Exts.drew | apply Exts.drewN))) HR.out).mono ?_); rintro e w' ⟨rfl, x1, rfl⟩)))
  go_loopw [19] (fun i wr => i = .int .i64 0 ∧ Exts w wr) (fun _ _ => 0)
  case atStart => exact ⟨rfl, (by repeat (first | exact Exts.refl _ | apply Exts.andR | apply Exts.alloc | apply Exts.wext | apply Exts.drew | apply Exts.drewN))⟩
  case round =>
    obtain ⟨rfl, x, rfl⟩ := hrel
    by_cases hlt : 0 < n
    · obtain ⟨b, off, id, vs, gr, vo, vc, rfl, lb, hc, e0, e1, e2, hv, hid⟩ := HB.out.get hlt
      rw [Nat.zero_mul, Nat.add_zero] at e0 e1 e2
      clear hc hv hid
      go_wp2
      go_ret2
      exact ⟨rfl, (by repeat (first | exact Exts.refl _ | apply Exts.andR | apply Exts.alloc | apply Exts.wext | apply Exts.drew | apply Exts.drewN))⟩
    · obtain rfl : n = 0 := by omega
      go_wp2
      go_ret2
      exact ⟨rfl, (by repeat (first | exact Exts.refl _ | apply Exts.andR | apply Exts.alloc | apply Exts.wext | apply Exts.drew | apply Exts.drewN))⟩
theorem check31_yes {S S1 : Nat → Prop} (lo bo : Option Addr) (n1 c1 n c : Nat) (D : List Dm) (B : List Cs) (w : World) (hd : Dims S w lo n1 c1 D) (hb : Cases S1 w bo n c B) (hr : rightD D = true) (hn : n ≤ 2000) :
    Calls Try.prog 31 #[.slice lo n1 c1, .slice bo n c] w fun e w' => ∃ mo N mc, e = .returned (.tuple #[.slice mo N mc, .bool (checkD D B)]) ∧ Exts w w' ∧ (checkD D B = true → N = n1 ∧ Ords w' mo n1 mc D) := by
  have hmm := @run_makeMap Try.prog
  have HL := Lib.hid hb.1
  have HD := Lib.hid hd
  have HB := Lib.hid hb
  have HR := Lib.hid hr
  clear hd hb hr
  go_enter Try.func31, Try.ntmps31
  go_wp2_with (first | (go_at_call 54; ((with_reducible refine (read54_yes _ _ _ D _ (HD.out.exts (by repeat (first | exact Exts.refl _ | apply Exts.andR | apply Exts.alloc | apply Exts.wext | apply Exts.drew | apply Exts.drewN))) HR.out).mono ?_); rintro e w' ⟨mo, mc, rfl, ⟨x1, rfl⟩, hm⟩; (have HM := Lib.hid hm); clear hm)))
  obtain ⟨w1, hw1⟩ : ∃ w1, wext w x1 = w1 := ⟨_, rfl⟩
  have HX := Lib.hid (show Exts w w1 by rw [← hw1]; exact (by repeat (first | exact Exts.refl _ | apply Exts.andR | apply Exts.alloc | apply Exts.wext | apply Exts.drew | apply Exts.drewN)))
  have lW : w1.heap.size = w.heap.size + x1.bs.size := by rw [← hw1]; simp
  rw [hw1] at HM ⊢
  have HB1 := Lib.hid (HB.out.exts HX.out)
  clear hw1 HB HD
  go_loopw [19] (fun i wr => ∃ (k : Nat), k ≤ n ∧ i = .int .i64 k ∧ Exts w1 wr ∧ MapB wr 3 (w.heap.size + x1.bs.size) k (idsF (B.take k)) ∧ OkK D B k) (fun i _ => n - (intOf i).toNat)
  case atStart =>
    refine ⟨0, by omega, rfl, (by repeat (first | exact Exts.refl _ | apply Exts.andR | apply Exts.alloc | apply Exts.wext | apply Exts.drew | apply Exts.drewN)), ?_, OkK.zero D B⟩
    have := MapB.made w1 3
    rw [lW] at this
    exact this.congr fun l => by cases l <;> first | rfl | (rename_i q x; cases q <;> rfl)
  case round =>
    obtain ⟨k, hk, rfl, hx, hmap, hok⟩ := hrel
    have HX2 := Lib.hid hx
    have HMAP := Lib.hid hmap
    have HOK := Lib.hid hok
    have lmap := hmap.lt
    clear hx hmap hok
    by_cases hlt : k < n
    · obtain ⟨b, off, id, vs, gr, vo, vc, rfl, lb, hc, e0, e1, e2, hvs, hid⟩ := (HB1.out.exts HX2.out).get hlt
      have HC := Lib.hid hc
      have HVS := Lib.hid hvs
      have HKI := Lib.hid (key_int hid)
      have HMW := HM
      have HM := Lib.hid (HMW.out.exts HX2.out)
      obtain ⟨f, hf⟩ : ∃ f, ((B.take k).any fun d => d.id == id) = f := ⟨_, rfl⟩
      have hlook : ∀ w', Exts wr w' → (Instr.lookup 86 (.map (some (w.heap.size + x1.bs.size))) (.int .i64 id) false).run Try.prog w' = .ok (.bool f) w' := fun w' he => by
        rw [← hf]
        exact (HMAP.out.exts he).look lawI Try.underlying86 HKI.out
      have HF := Lib.hid hf
      obtain ⟨r, hr⟩ : ∃ r, inD D vs = r := ⟨_, rfl⟩
      have HIN := Lib.hid hr
      clear hc hvs hid hf hr HMW
      cases f with
      | true =>
        have HN := Lib.hid (check_twice (D := D) HC.out HF.out)
        go_wp2
        go_ret2
        exact ⟨none, 0, 0, by rw [HN.out]; rfl, HX.out.trans (HX2.out.trans (by repeat (first | exact Exts.refl _ | apply Exts.andR | apply Exts.alloc | apply Exts.wext | apply Exts.drew | apply Exts.drewN))), fun h => by rw [HN.out] at h; cases h⟩
      | false =>
        cases r with
        | false =>
          have HN := Lib.hid (check_vec HC.out HIN.out)
          go_wp2_with (first | (go_at_call 32; ((with_reducible refine (isVector32_D _ _ _ _ _ _ D vs _ _ (HM.out.exts (by repeat (first | exact Exts.refl _ | apply Exts.andR | apply Exts.alloc | apply Exts.wext | apply Exts.drew | apply Exts.drewN))) (RowF.exts HVS.out (by repeat (first | exact Exts.refl _ | apply Exts.andR | apply Exts.alloc | apply Exts.wext | apply Exts.drew | apply Exts.drewN))) HIN.out).mono ?_); rintro e w' ⟨rfl, x2, rfl⟩)))
          go_ret2
          exact ⟨none, 0, 0, by rw [HN.out]; rfl, HX.out.trans (HX2.out.trans (by repeat (first | exact Exts.refl _ | apply Exts.andR | apply Exts.alloc | apply Exts.wext | apply Exts.drew | apply Exts.drewN))), fun h => by rw [HN.out] at h; cases h⟩
        | true =>
          go_wp2_with (first | (go_at_call 32; ((with_reducible refine (isVector32_D _ _ _ _ _ _ D vs _ _ (HM.out.exts (by repeat (first | exact Exts.refl _ | apply Exts.andR | apply Exts.alloc | apply Exts.wext | apply Exts.drew | apply Exts.drewN))) (RowF.exts HVS.out (by repeat (first | exact Exts.refl _ | apply Exts.andR | apply Exts.alloc | apply Exts.wext | apply Exts.drew | apply Exts.drewN))) HIN.out).mono ?_); rintro e w' ⟨rfl, x2, rfl⟩)) | (at_mapUpdate; refine mapB_update rfl _ _ _ 86 3 rfl lawI Try.underlying86 (w.heap.size + x1.bs.size) k _ rfl (HMAP.out.exts (by repeat (first | exact Exts.refl _ | apply Exts.andR | apply Exts.alloc | apply Exts.wext | apply Exts.drew | apply Exts.drewN))) (by unfold maxLen; omega) _ _ _ rfl rfl HKI.out (isKey_int _) ?_; intro w9 hmap' hgrow))
          refine ⟨⟨k + 1, by omega, by go_num, exts_of_grown (W := w1) (HX2.out.trans (by repeat (first | exact Exts.refl _ | apply Exts.andR | apply Exts.alloc | apply Exts.wext | apply Exts.drew | apply Exts.drewN))) hgrow (fun b hb => by cases hb; omega), hmap'.congr (idsF_next HC.out), HOK.out.next HC.out HIN.out HF.out⟩, ?_⟩
          simp [intOf]; omega
    · obtain rfl : k = n := by omega
      have HN := Lib.hid (check_all HR.out (by rw [HL.out]; exact HOK.out))
      have q1 : decide ((k : Int) ≤ 2000) = true := by simp; omega
      go_wp2
      go_ret2
      exact ⟨mo, n1, mc, by rw [HN.out]; rfl, HX.out.trans (HX2.out.trans (by repeat (first | exact Exts.refl _ | apply Exts.andR | apply Exts.alloc | apply Exts.wext | apply Exts.drew | apply Exts.drewN))), fun _ => ⟨rfl, HM.out.exts (HX2.out.trans (by repeat (first | exact Exts.refl _ | apply Exts.andR | apply Exts.alloc | apply Exts.wext | apply Exts.drew | apply Exts.drewN)))⟩⟩
/-- check: the closures, where the base is right for the dimensions. -/
theorem check31 {S S1 : Nat → Prop} (lo bo : Option Addr) (n1 c1 n c : Nat) (D : List Dm) (B : List Cs) (r : Bool) (w : World) (hd : Dims S w lo n1 c1 D) (hb : Cases S1 w bo n c B) (hn : n ≤ 2000) (hr : checkD D B = r) :
    Calls Try.prog 31 #[.slice lo n1 c1, .slice bo n c] w fun e w' => ∃ mo N mc, e = .returned (.tuple #[.slice mo N mc, .bool r]) ∧ Exts w w' ∧ (r = true → N = n1 ∧ Ords w' mo n1 mc D) := by
  subst hr
  cases h : rightD D with
  | true => exact check31_yes lo bo n1 c1 n c D B w hd hb h hn
  | false =>
    have hc : checkD D B = false := by simp [checkD, h]
    refine (check31_no lo bo n1 c1 n c D B w hd hb h hn).mono ?_
    rintro e w' ⟨rfl, hx⟩
    exact ⟨none, 0, 0, by rw [hc], hx, fun h => by rw [hc] at h; cases h⟩
end Go.Proofs.Ytodgohilfbggjaa

/- forced of package precedent. No condition but a right base of at most 2000 cases. -/
namespace Go.Proofs.Ytodgohilfbggjaa
open Go.RowKit Go.Maps
set_option linter.unusedSimpArgs false
set_option linter.unusedVariables false

theorem key_bool (x : Bool) : keyOf Try.prog 4 (.bool x) = some (.bool x) := keyOf_bool_mk Try.underlying4 x
/-- The sides that the first cases force. -/
noncomputable def sideF (D : List Dm) (L : List Cs) (l : List Int) : Lit → Bool
  | .bool s => sideB D L l s
  | _ => false
theorem sideF_next {D : List Dm} {B : List Cs} {l : List Int} {k : Nat} {c : Cs} (h : B[k]? = some c) (hf : forcesD D l c = true) (x : Lit) : putF (sideF D (B.take k) l) (.bool c.grant) true x = sideF D (B.take (k + 1)) l x := by
  by_cases hl : x = .bool c.grant
  · rw [hl, putF_same]
    simp [sideF, sideB_next _ h, hf]
  · rw [putF_other _ _ hl]
    cases x with
    | bool s =>
      have : (c.grant == s) = false := by
        have : ¬ c.grant = s := fun hc => hl (by rw [hc])
        simpa using this
      simp [sideF, sideB_next _ h, this]
    | _ => rfl
theorem sideF_stay {D : List Dm} {B : List Cs} {l : List Int} {k : Nat} {c : Cs} (h : B[k]? = some c) (hf : forcesD D l c = false) (x : Lit) : sideF D (B.take k) l x = sideF D (B.take (k + 1)) l x := by
  cases x with
  | bool s => simp [sideF, sideB_next _ h, hf]
  | _ => rfl
theorem MapB.mono {w : World} {k : TypeId} {b n n' : Nat} {f : Lit → Bool} (h : MapB w k b n f) (hn : n ≤ n') : MapB w k b n' f := by
  obtain ⟨D, h1, h2⟩ := h
  exact ⟨D, h1.mono hn, h2⟩
theorem MapB.ne_own {w : World} {k : TypeId} {b n : Nat} {f : Lit → Bool} {base s m : Nat} {e : TypeId} {v : Value} {xs : List Value} (h : MapB w k b n f) (ho : w.ownsRow base e s v m xs) : some b ≠ v.ownBlock := fun hc => by
  obtain ⟨c, hg⟩ := TypedBy.of_owns ho b hc.symm
  obtain ⟨D, ⟨es, clock, hb, _⟩, _⟩ := h
  rw [hg] at hb
  cases hb
theorem MapB.grown_ne {w : World} {k : TypeId} {b n : Nat} {f : Lit → Bool} {base s m : Nat} {e : TypeId} {v : Value} {xs : List Value} (h : MapB w k b n f) (ho : w.ownsRow base e s v m xs) : v.ownBlock = none ∨ v.ownBlock ≠ some b := by
  right
  exact fun hc => h.ne_own ho hc.symm
set_option maxRecDepth 100000
set_option maxHeartbeats 4000000
theorem forced33 {S S1 : Nat → Prop} (mo bo ao : Option Addr) (n1 mc n c na ca : Nat) (D : List Dm) (B : List Cs) (al : List Int) (w : World) (h : Ords w mo n1 mc D) (hb : Cases S w bo n c B) (ha : Ints S1 w ao na ca al) (hn : n ≤ 2000) (hv : ∀ c ∈ B, inD D c.vals = true) (hia : inD D al = true) :
    Calls Try.prog 33 #[.slice mo n1 mc, .slice bo n c, .slice ao na ca] w fun e w' => ∃ ro rc, e = .returned (.tuple #[.int .i64 (whatD D B al), .slice ro (byK D B al n).length rc]) ∧ Exts w w' ∧ Ints (fun b => w.heap.size ≤ b) w' ro (byK D B al n).length rc (byK D B al n) := by
  obtain ⟨i0, hi, hz0, hz1, hz2⟩ := info_parts info3
  have hmm := @run_makeMap Try.prog
  have hm := h.nle
  have hn12 := h.le12
  have hma := RowF.nle ha
  unfold maxLen at hm hma
  have HL := Lib.hid hb.1
  have H := Lib.hid h
  have HB := Lib.hid hb
  have HA := Lib.hid ha
  have HV := Lib.hid hv
  have HIA := Lib.hid hia
  clear h hb ha hv hia
  go_enter Try.func33, Try.ntmps33
  go_wp2
  go_loopw [8, 15] (fun o i wr => ∃ (k m : Nat), k ≤ n ∧ i = .int .i64 k ∧ (byK D B al k).length = m ∧ Exts w wr ∧ wr.ownsRow w.heap.size 3 1 o m (intsC (byK D B al k)) ∧ MapB wr 4 w.heap.size k (sideF D (B.take k) al)) (fun _ i _ => n - (intOf i).toNat)
  case atStart =>
    refine ⟨0, 0, by omega, rfl, rfl, (by repeat (first | exact Exts.refl _ | apply Exts.andR | apply Exts.alloc | apply Exts.wext | apply Exts.drew | apply Exts.drewN)), World.ownsRow_nil _ _ _ _, ?_⟩
    exact (MapB.made w 4).congr fun l => by cases l <;> rfl
  case round =>
    obtain ⟨k, m, hk, rfl, hmk, hx, hown, hmap⟩ := hrel
    have HX := Lib.hid hx
    have HBS := Lib.hid (show w.heap.size ≤ wr.heap.size from hx.below.size)
    have HO := Lib.hid hown
    have HMAP := Lib.hid hmap
    have HMK := Lib.hid hmk
    have lmap := hmap.lt
    have hmle := byK_len D B al k
    rw [hmk] at hmle
    obtain ⟨oo, oc, rfl⟩ := owns_shape hown
    clear hx hown hmap hmk
    by_cases hlt : k < n
    · obtain ⟨b, off, id, vs, gr, vo, vc, rfl, lb, hc, e0, e1, e2, hvs, hid⟩ := (HB.out.exts HX.out).get hlt
      have HC := Lib.hid hc
      have HVS := Lib.hid hvs
      have HIV := Lib.hid (show inD D vs = true from HV.out _ (List.mem_of_getElem? hc))
      have HA2 := Lib.hid (RowF.exts HA.out HX.out)
      have HOR := Lib.hid (H.out.exts HX.out)
      obtain ⟨ks, hks⟩ : ∃ ks, keepsD D ⟨id, vs, gr⟩ al = ks := ⟨_, rfl⟩
      obtain ⟨m', hm'⟩ : ∃ m', ks.length = m' := ⟨_, rfl⟩
      have HK := Lib.hid hks
      have HM := Lib.hid hm'
      have hfor : forcesD D al ⟨id, vs, gr⟩ = decide (m' = 0) := by
        unfold forcesD
        rw [hks, ← hm']
        cases ks <;> simp
      have hat := forI_of (D := D) (l := al) hc
      rw [hfor] at hat
      have HF := Lib.hid hfor
      have HAT := Lib.hid hat
      have HN := Lib.hid (byK_next D B al k)
      clear hc hvs hid hks hm' hfor hat
      by_cases h0 : m' = 0
      · have q1 : ((m' : Int) == 0) = true := by simp; omega
        have q2 : (m' == 0) = true := by simpa using h0
        have HE := Lib.hid (show byK D B al (k + 1) = byK D B al k ++ [(k : Int)] by rw [HN.out, HAT.out, h0]; rfl)
        have HFT := Lib.hid (show forcesD D al ⟨id, vs, gr⟩ = true by rw [HF.out, h0]; rfl)
        clear h0
        go_wp2_with (first | (go_at_call 43; ((with_reducible refine (keeps43 _ _ _ _ _ _ _ _ _ D id vs al gr ks m' _ (HOR.out.exts (by repeat (first | exact Exts.refl _ | apply Exts.andR | apply Exts.alloc | apply Exts.wext | apply Exts.drew | apply Exts.drewN))) (RowF.exts HVS.out (by repeat (first | exact Exts.refl _ | apply Exts.andR | apply Exts.alloc | apply Exts.wext | apply Exts.drew | apply Exts.drewN))) (RowF.exts HA2.out (by repeat (first | exact Exts.refl _ | apply Exts.andR | apply Exts.alloc | apply Exts.wext | apply Exts.drew | apply Exts.drewN))) HIV.out HIA.out HK.out HM.out).mono ?_); rintro e w' ⟨ro, rc, rfl, ⟨x2, rfl⟩, hks⟩; clear hks)) | (at_builtin; refine wpList_append_lies _ rfl (.tmp 26) (.tmp 28) 24 rfl w.heap.size 3 i0 _ 1 8 Try.underlying24 hi hz0 hz1 hz2 rfl (by decide) (.slice oo m oc) m (intsC (byK D B al k)) rfl (ownsRow_exts HO.out (by repeat (first | exact Exts.refl _ | apply Exts.andR | apply Exts.alloc | apply Exts.wext | apply Exts.drew | apply Exts.drewN))) ⟨_, 0, none⟩ 1 1 [.int .i64 k] rfl rfl (by intro j u hj; match j, hj with | 0, hj => (simp at hj; subst hj; simp [go_sem])) (int_one _) (by decide) (by unfold maxLen; omega) (by omega) (by have := HBS.out; simp; omega) _ rfl ?_; intro g2 cg w9 hown' hgrow hat hlt'; (have c9 : w9.cell? ⟨wr.heap.size, 2, none⟩ = some (.bool gr) := (World.cell?_of_block (hgrow.block wr.heap.size (by simp; omega) (fun hc => by have := (HO.out.lt _ hc.symm).2; omega))).trans (by simp [go_sem])); (have HM9 := Lib.hid ((HMAP.out.exts (by repeat (first | exact Exts.refl _ | apply Exts.andR | apply Exts.alloc | apply Exts.wext | apply Exts.drew | apply Exts.drewN))).kept hgrow (HMAP.out.ne_own HO.out))); (have HO9 := Lib.hid hown'); (have HG9 := Lib.hid hgrow); (have l9 : wr.heap.size < w9.heap.size := by have := hgrow.size; simp at this; omega); clear hgrow hown' hat) | (at_mapUpdate; refine mapB_update rfl _ _ _ 88 4 rfl lawB Try.underlying88 w.heap.size k _ rfl HM9.out (by unfold maxLen; omega) _ _ _ rfl rfl (key_bool _) (isKey_bool _) ?_; intro w10 hmap' hgrow2))
        refine ⟨⟨k + 1, m + 1, by omega, by go_num, by rw [HE.out, List.length_append, HMK.out]; rfl, exts_of_grown (W := w) (exts_of_grown (W := w) (HX.out.trans (by repeat (first | exact Exts.refl _ | apply Exts.andR | apply Exts.alloc | apply Exts.wext | apply Exts.drew | apply Exts.drewN))) HG9.out (fun b hb => owns_base HO.out hb)) hgrow2 (fun b hb => by cases hb; exact Nat.le_refl _), by rw [HE.out, intsC_snoc]; exact HO9.out.kept hgrow2 (HM9.out.grown_ne HO9.out), hmap'.congr (sideF_next HC.out HFT.out)⟩, ?_⟩
        simp [intOf]; omega
      · have q1 : ((m' : Int) == 0) = false := by simp; omega
        have q2 : (m' == 0) = false := by simpa using h0
        have HE := Lib.hid (show byK D B al (k + 1) = byK D B al k by rw [HN.out, HAT.out]; simp [h0])
        have HFF := Lib.hid (show forcesD D al ⟨id, vs, gr⟩ = false by rw [HF.out]; simp [h0])
        clear h0
        go_wp2_with (first | (go_at_call 43; ((with_reducible refine (keeps43 _ _ _ _ _ _ _ _ _ D id vs al gr ks m' _ (HOR.out.exts (by repeat (first | exact Exts.refl _ | apply Exts.andR | apply Exts.alloc | apply Exts.wext | apply Exts.drew | apply Exts.drewN))) (RowF.exts HVS.out (by repeat (first | exact Exts.refl _ | apply Exts.andR | apply Exts.alloc | apply Exts.wext | apply Exts.drew | apply Exts.drewN))) (RowF.exts HA2.out (by repeat (first | exact Exts.refl _ | apply Exts.andR | apply Exts.alloc | apply Exts.wext | apply Exts.drew | apply Exts.drewN))) HIV.out HIA.out HK.out HM.out).mono ?_); rintro e w' ⟨ro, rc, rfl, ⟨x2, rfl⟩, hks⟩; clear hks)))
        refine ⟨⟨k + 1, m, by omega, by go_num, by rw [HE.out]; exact HMK.out, HX.out.trans (by repeat (first | exact Exts.refl _ | apply Exts.andR | apply Exts.alloc | apply Exts.wext | apply Exts.drew | apply Exts.drewN)), by rw [HE.out]; exact ownsRow_exts HO.out (by repeat (first | exact Exts.refl _ | apply Exts.andR | apply Exts.alloc | apply Exts.wext | apply Exts.drew | apply Exts.drewN)), ((HMAP.out.exts (by repeat (first | exact Exts.refl _ | apply Exts.andR | apply Exts.alloc | apply Exts.wext | apply Exts.drew | apply Exts.drewN))).mono (Nat.le_succ _)).congr (sideF_stay HC.out HFF.out)⟩, ?_⟩
        simp [intOf]; omega
    · obtain rfl : k = n := by omega
      have htk : B.take k = B := List.take_of_length_le (by rw [HL.out]; exact Nat.le_refl _)
      have HS := HMAP.out
      rw [htk] at HS
      have HS2 := Lib.hid HS
      obtain ⟨st, hst⟩ : ∃ st, sideB D B al true = st := ⟨_, rfl⟩
      obtain ⟨sf, hsf⟩ : ∃ sf, sideB D B al false = sf := ⟨_, rfl⟩
      have hT : ∀ w', Exts wr w' → (Instr.lookup 88 (.map (some w.heap.size)) (.bool true) false).run Try.prog w' = .ok (.bool st) w' := fun w' he => by
        rw [← hst]
        exact (HS2.out.exts he).look lawB Try.underlying88 (key_bool true)
      have hF : ∀ w', Exts wr w' → (Instr.lookup 88 (.map (some w.heap.size)) (.bool false) false).run Try.prog w' = .ok (.bool sf) w' := fun w' he => by
        rw [← hsf]
        exact (HS2.out.exts he).look lawB Try.underlying88 (key_bool false)
      have HST := Lib.hid hst
      have HSF := Lib.hid hsf
      have HWH := Lib.hid (show whatD D B al = (if st = true then (if sf = true then 3 else 1) else (if sf = true then 2 else 0)) by unfold whatD; rw [hst, hsf])
      clear htk HS hst hsf
      cases st <;> cases sf
      · have HNIL := Lib.hid (show byK D B al k = [] by have := by_nil HST.out HSF.out; rw [HL.out] at this; exact this)
        go_wp2
        go_ret2
        exact ⟨none, 0, by rw [HWH.out, HNIL.out]; rfl, HX.out.trans (by repeat (first | exact Exts.refl _ | apply Exts.andR | apply Exts.alloc | apply Exts.wext | apply Exts.drew | apply Exts.drewN)), by rw [HNIL.out]; exact RowF.nil _ _ _⟩
      all_goals
        go_wp2
        go_ret2
        exact ⟨oo, oc, by rw [HWH.out, HMK.out]; rfl, HX.out.trans (by repeat (first | exact Exts.refl _ | apply Exts.andR | apply Exts.alloc | apply Exts.wext | apply Exts.drew | apply Exts.drewN)), by rw [HMK.out]; exact RowF.of_owns (ownsRow_exts HO.out (by repeat (first | exact Exts.refl _ | apply Exts.andR | apply Exts.alloc | apply Exts.wext | apply Exts.drew | apply Exts.drewN)))⟩
end Go.Proofs.Ytodgohilfbggjaa

/- Right and closures of the reference of chapter 39. No condition but at most 2000 cases. -/
namespace Go.Proofs.Ytodgohilfbggjaa
open Go.RowKit Go.Maps
set_option linter.unusedSimpArgs false
set_option linter.unusedVariables false

theorem right50_D {S : Nat → Prop} (lo : Option Addr) (n c : Nat) (D : List Dm) (r : Bool) (w : World) (h : Dims S w lo n c D) (hr : rightD D = r) :
    Calls Try.prog 50 #[.slice lo n c] w fun e w' => e = .returned (.bool r) ∧ Exts w w' := by
  subst hr
  exact right20 lo n c D w h
theorem vector34_D {S S1 : Nat → Prop} (lo ao : Option Addr) (n c na ca : Nat) (D : List Dm) (al : List Int) (r : Bool) (w : World) (h : Dims S w lo n c D) (ha : Ints S1 w ao na ca al) (hD : inD D al = r) :
    Calls Try.prog 34 #[.slice lo n c, .slice ao na ca] w fun e w' => e = .returned (.bool r) ∧ Exts w w' := by
  subst hD
  exact vector29 lo ao n c na ca D al w h ha
theorem closure55_ok {S : Nat → Prop} (m : Nat) (po : Option Addr) (n c : Nat) (ps : List Pr) (g : Rel) (w : World) (h : Prs S w po n c ps) (hok : closedD (m : Int) ps = (g, true)) :
    Calls Try.prog 55 #[.agg #[.int .i64 m, .slice po n c]] w fun e w' => ∃ ro rc co cc, e = .returned (.tuple #[.slice ro m rc, .slice co 0 cc, .int .i64 0]) ∧ Exts w w' ∧ BRows w' ro m m rc g := by
  refine (closure11 (m : Int) po n c ps w h).mono ?_
  rintro e w' ⟨ro, rn, rc, co, cn, cc, code, rfl, hx, hc⟩
  rcases hc with ⟨h1, rfl, rfl, rfl⟩ | ⟨h1, h2, rfl, rfl, _⟩ | ⟨h1, h2, rfl, rfl, h3⟩
  · rw [closed_no (.inl h1)] at hok; cases hok
  · rw [hok] at h2; cases h2
  · obtain rfl : rn = m := by omega
    rw [hok] at h3
    exact ⟨_, _, _, _, rfl, hx, h3⟩
set_option maxRecDepth 100000
set_option maxHeartbeats 2000000
theorem closures36 {S : Nat → Prop} (lo : Option Addr) (n c : Nat) (D : List Dm) (w : World) (h : Dims S w lo n c D) (hr : rightD D = true) :
    Calls Try.prog 36 #[.slice lo n c] w fun e w' => ∃ mo mc, e = .returned (.slice mo n mc) ∧ Exts w w' ∧ Ords w' mo n mc D := by
  obtain ⟨i0, hi, hz0, hz1, hz2⟩ := info_parts info87
  have hl := h.1
  have hm := h.nle
  unfold maxLen at hm
  have hn12 : n ≤ 12 := by
    simp only [rightD, Bool.and_eq_true, decide_eq_true_eq] at hr
    omega
  have H := Lib.hid h
  have HL := Lib.hid hl
  have HR := Lib.hid hr
  clear h hl hr
  go_enter Try.func36, Try.ntmps36
  go_wp2
  go_loopw [3, 4] (fun o i wr => ∃ (k : Nat) (rows : List Value), k ≤ n ∧ i = .int .i64 k ∧ Exts w wr ∧ wr.ownsRow w.heap.size 87 1 o k rows ∧ OrdIn wr k D rows) (fun _ i _ => n - (intOf i).toNat)
  case atStart => exact ⟨0, [], by omega, rfl, (by repeat (first | exact Exts.refl _ | apply Exts.andR | apply Exts.alloc | apply Exts.wext | apply Exts.drew | apply Exts.drewN)), World.ownsRow_nil _ _ _ _, fun i V ps hi => by omega⟩
  case round =>
    obtain ⟨k, rows, hk, rfl, hx, hown, hin⟩ := hrel
    have HX := Lib.hid hx
    have HBS := Lib.hid (show w.heap.size ≤ wr.heap.size from hx.below.size)
    have HO := Lib.hid hown
    have HI := Lib.hid hin
    obtain ⟨oo, oc, rfl⟩ := owns_shape hown
    clear hx hown hin
    by_cases hlt : k < n
    · obtain ⟨b, off, V, ps, po, pc, rfl, hb, hd, e0, e1, hp⟩ := (H.out.exts HX.out).get hlt
      obtain ⟨g, hg⟩ := closed_ok (right_at HR.out hd)
      have HP := Lib.hid hp
      obtain ⟨m, rfl⟩ : ∃ m : Nat, V = m := by
        obtain ⟨⟨h1, _⟩, _⟩ := valid_in (closed_valid hg).1
        exact ⟨V.toNat, by omega⟩
      have HG := Lib.hid hg
      have HD := Lib.hid hd
      clear hp hg hd
      go_wp2_with (first | (go_at_call 55; ((with_reducible refine (closure55_ok _ _ _ _ ps g _ (RowF.exts HP.out (by repeat (first | exact Exts.refl _ | apply Exts.andR | apply Exts.alloc | apply Exts.wext | apply Exts.drew | apply Exts.drewN))) HG.out).mono ?_); rintro e w' ⟨ro, rc, co, cc, rfl, ⟨x1, rfl⟩, hb⟩; (try simp only [wext_and] at hb); (have HB := Lib.hid hb); clear hb)) | (at_builtin; refine wpList_append_lies _ rfl (.tmp 23) (.tmp 25) 58 rfl w.heap.size 87 i0 _ 1 24 Try.underlying58 hi hz0 hz1 hz2 rfl (by decide) (.slice oo k oc) k rows rfl (ownsRow_exts HO.out (by repeat (first | exact Exts.refl _ | apply Exts.andR | apply Exts.alloc | apply Exts.wext | apply Exts.drew | apply Exts.drewN))) ⟨_, 0, none⟩ 1 1 [.slice ro m rc] rfl rfl (by intro j u hj; match j, hj with | 0, hj => (simp at hj; subst hj; simp [go_sem])) (by intro u hu; simp at hu; subst hu; rfl) (by decide) (by unfold maxLen; omega) (by omega) (by have := HBS.out; simp; omega) _ rfl ?_; intro g2 cg w9 hown' hgrow hat hlt'))
      refine ⟨⟨k + 1, rows ++ [.slice ro m rc], by omega, by go_num, exts_of_grown (W := w) (HX.out.trans (by repeat (first | exact Exts.refl _ | apply Exts.andR | apply Exts.alloc | apply Exts.wext | apply Exts.drew | apply Exts.drewN))) hgrow (fun b hb => owns_base HO.out hb), hown', HI.out.next HO.out (by repeat (first | exact Exts.refl _ | apply Exts.andR | apply Exts.alloc | apply Exts.wext | apply Exts.drew | apply Exts.drewN)) HD.out HG.out (HB.out.exts (by repeat (first | exact Exts.refl _ | apply Exts.andR | apply Exts.alloc | apply Exts.wext | apply Exts.drew | apply Exts.drewN))) hgrow⟩, ?_⟩
      simp [intOf]; omega
    · obtain rfl : k = n := by omega
      go_wp2
      go_ret
      exact ⟨oo, oc, rfl, HX.out.trans (by repeat (first | exact Exts.refl _ | apply Exts.andR | apply Exts.alloc | apply Exts.wext | apply Exts.drew | apply Exts.drewN)), HL.out, HR.out, rows, (RowF.of_owns HO.out).mono fun _ _ => trivial, fun i V ps hd => HI.out i V ps (by have := (List.getElem?_eq_some_iff.1 hd).1; have := HL.out; omega) hd⟩
theorem refRight25_no {S S1 : Nat → Prop} (lo bo : Option Addr) (n1 c1 n c : Nat) (D : List Dm) (B : List Cs) (w : World) (hd : Dims S w lo n1 c1 D) (hb : Cases S1 w bo n c B) (hr : rightD D = false) :
    Calls Try.prog 25 #[.slice lo n1 c1, .slice bo n c] w fun e w' => e = .returned (.bool false) ∧ Exts w w' := by
  have HD := Lib.hid hd
  have HR := Lib.hid hr
  clear hd hb hr
  go_enter Try.func25, Try.ntmps25
  go_wp2_with (first | (go_at_call 50; ((with_reducible refine (right50_D _ _ _ D _ _ (HD.out.exts (by repeat (first | exact Exts.refl _ | apply Exts.andR | apply Exts.alloc | apply Exts.wext | apply Exts.drew | apply Exts.drewN))) HR.out).mono ?_); rintro e w' ⟨rfl, x1, rfl⟩)))
  go_ret
  exact ⟨rfl, (by repeat (first | exact Exts.refl _ | apply Exts.andR | apply Exts.alloc | apply Exts.wext | apply Exts.drew | apply Exts.drewN))⟩
theorem refRight25_yes {S S1 : Nat → Prop} (lo bo : Option Addr) (n1 c1 n c : Nat) (D : List Dm) (B : List Cs) (w : World) (hd : Dims S w lo n1 c1 D) (hb : Cases S1 w bo n c B) (hr : rightD D = true) (hn : n ≤ 2000) :
    Calls Try.prog 25 #[.slice lo n1 c1, .slice bo n c] w fun e w' => e = .returned (.bool (checkD D B)) ∧ Exts w w' := by
  have HL := Lib.hid hb.1
  have HD := Lib.hid hd
  have HB := Lib.hid hb
  have HR := Lib.hid hr
  have q1 : decide ((2000 : Int) < (n : Int)) = false := by simp; omega
  clear hd hb hr
  go_enter Try.func25, Try.ntmps25
  go_wp2_with (first | (go_at_call 50; ((with_reducible refine (right50_D _ _ _ D _ _ (HD.out.exts (by repeat (first | exact Exts.refl _ | apply Exts.andR | apply Exts.alloc | apply Exts.wext | apply Exts.drew | apply Exts.drewN))) HR.out).mono ?_); rintro e w' ⟨rfl, x1, rfl⟩)))
  go_loopw [5] (fun i wr => ∃ (k : Nat), k ≤ n ∧ i = .int .i64 k ∧ Exts w wr ∧ OkK D B k) (fun i _ => n - (intOf i).toNat)
  case atStart => exact ⟨0, by omega, rfl, (by repeat (first | exact Exts.refl _ | apply Exts.andR | apply Exts.alloc | apply Exts.wext | apply Exts.drew | apply Exts.drewN)), OkK.zero D B⟩
  case round =>
    obtain ⟨k, hk, rfl, ⟨x, rfl⟩, hok⟩ := hrel
    have HOK := Lib.hid hok
    clear hok
    by_cases hlt : k < n
    · obtain ⟨b, off, id, vs, gr, vo, vc, rfl, lb, hc, e0, e1, e2, hvs, hid⟩ := HB.out.get hlt
      have HC := Lib.hid hc
      have HVS := Lib.hid hvs
      obtain ⟨r, hr⟩ : ∃ r, inD D vs = r := ⟨_, rfl⟩
      have HIN := Lib.hid hr
      clear hc hvs hid hr
      cases r with
      | false =>
        have HN := Lib.hid (check_vec HC.out HIN.out)
        go_wp2_with (first | (go_at_call 34; ((with_reducible refine (vector34_D _ _ _ _ _ _ D vs _ _ (HD.out.exts (by repeat (first | exact Exts.refl _ | apply Exts.andR | apply Exts.alloc | apply Exts.wext | apply Exts.drew | apply Exts.drewN))) (RowF.exts HVS.out (by repeat (first | exact Exts.refl _ | apply Exts.andR | apply Exts.alloc | apply Exts.wext | apply Exts.drew | apply Exts.drewN))) HIN.out).mono ?_); rintro e w' ⟨rfl, x2, rfl⟩)))
        go_ret
        exact ⟨by rw [HN.out]; rfl, (by repeat (first | exact Exts.refl _ | apply Exts.andR | apply Exts.alloc | apply Exts.wext | apply Exts.drew | apply Exts.drewN))⟩
      | true =>
        go_wp2_with (first | (go_at_call 34; ((with_reducible refine (vector34_D _ _ _ _ _ _ D vs _ _ (HD.out.exts (by repeat (first | exact Exts.refl _ | apply Exts.andR | apply Exts.alloc | apply Exts.wext | apply Exts.drew | apply Exts.drewN))) (RowF.exts HVS.out (by repeat (first | exact Exts.refl _ | apply Exts.andR | apply Exts.alloc | apply Exts.wext | apply Exts.drew | apply Exts.drewN))) HIN.out).mono ?_); rintro e w' ⟨rfl, x2, rfl⟩)))
        go_loopw [6] (fun i wr => ∃ (j : Nat), j ≤ k ∧ i = .int .i64 j ∧ Exts w wr ∧ ((B.take j).any fun d => d.id == id) = false) (fun i _ => k - (intOf i).toNat)
        case atStart => exact ⟨0, by omega, rfl, (by repeat (first | exact Exts.refl _ | apply Exts.andR | apply Exts.alloc | apply Exts.wext | apply Exts.drew | apply Exts.drewN)), by simp⟩
        case round =>
          obtain ⟨j, hj, rfl, ⟨y, rfl⟩, hz⟩ := hrel
          have HZ := Lib.hid hz
          clear hz
          by_cases hlj : j < k
          · obtain ⟨b', off', id', vs', gr', vo', vc', e, lb', hc', e0', _, _, _, _⟩ := HB.out.get (i := j) (by omega)
            cases e
            have HC' := Lib.hid hc'
            clear hc'
            by_cases hid : id' = id
            · have q3 : (id' == id) = true := by simpa using hid
              have HN := Lib.hid (check_twice (D := D) HC.out (by
                rw [List.any_eq_true]
                refine ⟨_, List.mem_of_getElem? (show (B.take k)[j]? = some _ by rw [List.getElem?_take_of_lt hlj]; exact HC'.out), ?_⟩
                simpa using hid))
              clear hid
              have hjn : j < n := by omega
              go_wp2
              first | refine wp_region_ext_lit2 (by kernel_rfl) (by kernel_rfl) ?_ | refine wp_region_ext_lit (by kernel_rfl) (by kernel_rfl) ?_
              repeat (go_big_quiet_step (fail))
              refine wpQuiet_nil ?_
              intro _ hwq'
              obtain ⟨xq, hwq''⟩ := hwq'
              subst hwq''
              go_wp2
              go_ret
              exact ⟨by rw [HN.out]; rfl, (by repeat (first | exact Exts.refl _ | apply Exts.andR | apply Exts.alloc | apply Exts.wext | apply Exts.drew | apply Exts.drewN))⟩
            · have q3 : (id' == id) = false := by simpa using hid
              have HQ := Lib.hid q3
              have hjn : j < n := by omega
              clear hid
              go_wp2
              first | refine wp_region_ext_lit2 (by kernel_rfl) (by kernel_rfl) ?_ | refine wp_region_ext_lit (by kernel_rfl) (by kernel_rfl) ?_
              repeat (go_big_quiet_step (fail))
              refine wpQuiet_nil ?_
              intro _ hwq'
              obtain ⟨xq, hwq''⟩ := hwq'
              subst hwq''
              go_wp2
              refine ⟨⟨j + 1, by omega, by go_num, (by repeat (first | exact Exts.refl _ | apply Exts.andR | apply Exts.alloc | apply Exts.wext | apply Exts.drew | apply Exts.drewN)), by rw [List.take_add_one, HC'.out, List.any_append, HZ.out]; simpa using HQ.out⟩, ?_⟩
              simp [intOf]; omega
          · obtain rfl : j = k := by omega
            go_wp2
            refine ⟨⟨j + 1, by omega, by go_num, (by repeat (first | exact Exts.refl _ | apply Exts.andR | apply Exts.alloc | apply Exts.wext | apply Exts.drew | apply Exts.drewN)), HOK.out.next HC.out HIN.out HZ.out⟩, ?_⟩
            simp [intOf]; omega
    · obtain rfl : k = n := by omega
      have HN := Lib.hid (check_all HR.out (by rw [HL.out]; exact HOK.out))
      go_wp2
      go_ret
      exact ⟨by rw [HN.out]; rfl, (by repeat (first | exact Exts.refl _ | apply Exts.andR | apply Exts.alloc | apply Exts.wext | apply Exts.drew | apply Exts.drewN))⟩
theorem refRight25 {S S1 : Nat → Prop} (lo bo : Option Addr) (n1 c1 n c : Nat) (D : List Dm) (B : List Cs) (r : Bool) (w : World) (hd : Dims S w lo n1 c1 D) (hb : Cases S1 w bo n c B) (hn : n ≤ 2000) (hr : checkD D B = r) :
    Calls Try.prog 25 #[.slice lo n1 c1, .slice bo n c] w fun e w' => e = .returned (.bool r) ∧ Exts w w' := by
  subst hr
  cases h : rightD D with
  | true => exact refRight25_yes lo bo n1 c1 n c D B w hd hb h hn
  | false =>
    rw [show checkD D B = false by simp [checkD, h]]
    exact refRight25_no lo bo n1 c1 n c D B w hd hb h
end Go.Proofs.Ytodgohilfbggjaa
