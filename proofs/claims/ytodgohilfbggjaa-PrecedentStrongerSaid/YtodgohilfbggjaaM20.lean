/- Lemmas that the laws of this seat share, 4 texts in one: RefAdd2, AddJoin, Open38, Open39. No condition of their own. -/
import Derived.Test.YtodgohilfbggjaaM19
import Derived.Test.YtodgohilfbggjaaM17
import Derived.Test.YtodgohilfbggjaaM7
import Derived.Test.YtodgohilfbggjaaM3
import Derived.Lib.SmallJoins
import Derived.OpenShut
import Derived.Test.YtodgohilfbggjaaM10
/- Add of the reference of chapter 39. No condition but at most 100 cases. -/
namespace Go.Proofs.Ytodgohilfbggjaa
open Go.RowKit Go.Maps
set_option linter.unusedSimpArgs false
set_option linter.unusedVariables false
set_option maxRecDepth 100000
set_option maxHeartbeats 4000000
theorem step_append_rowO {P : Program} {ops : Array Oper} {o : Oper} {a : Act} {w : World} {K : Act → World → Prop} {Q : Exit → Act → World → Prop} {E : Prop}
    (hg : o.guard = none) (s x : Operand) (t : TypeId) (hop : o.op = Op.call { callee := Callee.builtin Builtin.append, args := #[s, x], argTypes := #[t, t] })
    (base : Nat) (e : TypeId) (i : TypeInfo) (z : Value) (size bytes : Nat) (ht : P.underlying t = some (.slice e)) (hi : P.info? e = some i) (hz : i.zero = some z)
    (hsize : i.size = size) (hby : i.bytes = bytes) (hzs : z.cells.size = size) (hsz : 0 < size)
    (v : Value) (n : Nat) (xs : List Value) (hs : a.eval s = v) (hown : w.ownsRow base e size v n xs)
    (ad : Option Addr) (m c : Nat) (news : List Value) (hx : a.eval x = .slice ad m c) {S : Nat → Prop} (hrow : RowF S size w (.slice ad m c) m news) (h1 : ∀ u ∈ news, u.oneCell' = true)
    (h63 : n + m ≤ maxLen) (hbytes : (n + m) * bytes ≤ 140737488355328) (hbase : base ≤ w.heap.size)
    (hK : ∀ ao' c' w', w'.ownsRow base e size (.slice ao' (n + m) c') (n + m) (xs ++ news) → w.grownBy w' v.ownBlock → K (a.put o.dst (.slice ao' (n + m) c')) w') :
    if Region.wanted o (yielded ops a.tmps) = true then Oper.wp P o a w K Q else E := by
  cases ad with
  | some ad => exact step_append_row hg s x t hop base e i z size bytes ht hi hz hsize hby hzs hsz v n xs hs hown ad m c news hx hrow h1 h63 hbytes hbase hK
  | none =>
    obtain ⟨hl, ao2, cap2, hv, h2, h3, h4, h5⟩ := hrow
    simp only [Value.slice.injEq, true_and] at hv
    obtain ⟨rfl, rfl⟩ := hv
    have hc := h4 rfl
    subst hc
    obtain rfl : m = 0 := by omega
    obtain rfl : news = [] := List.eq_nil_of_length_eq_zero (by simpa using hl)
    obtain ⟨ao', c', hv⟩ := owns_shape hown
    have hw : Region.wanted o (yielded ops a.tmps) = true := by simp [Region.wanted, hg]
    rw [if_pos hw]
    have hrun := run_append_owned_none (P := P) (w := w) base t o.type e i size ht hi v n xs hown
    have := hK ao' c' w (by rw [List.append_nil, Nat.add_zero, ← hv]; exact hown) (grownBy_exts (Exts.refl w) _)
    rw [Nat.add_zero, ← hv] at this
    unfold Oper.wp
    simp [execOp, hop, resolve, invoke, builtin, hs, hx, hrun, Result.andThen]
    exact this
theorem made_at (w : World) {base : Nat} (n : Nat) (hn : n = w.heap.size) (hb : base ≤ w.heap.size) : (w.alloc (.cells #[] 33)).ownsRow base 33 3 (.slice (some ⟨n, 0, none⟩) 0 0) 0 [] := by
  subst hn
  exact World.ownsRow_made w #[] 0 hb (by decide) rfl
theorem heap_drew (w : World) : w.drew.heap = w.heap := rfl
theorem alloc_atR (w : World) (o : Obj) (n : Nat) (h : n = w.heap.size) : (w.alloc o).heap[n]? = some o := by
  subst h
  rw [heap_alloc_if, if_neg (by omega), if_pos rfl]
theorem alloc_belowR (w : World) (o : Obj) (n : Nat) (x : Option Obj) (h : n < w.heap.size) (hx : w.heap[n]? = x) : (w.alloc o).heap[n]? = x := by
  rw [heap_alloc_if, if_pos h, hx]
theorem lit_kept {W w1 : World} {row : Option Nat} {b : Nat} {c : Array Value} {t : TypeId} {fr : Nat × Nat} (hg : W.grownBy w1 row) (h : W.heap[b]? = some (.cells c t fr)) (hne : some b ≠ row) : w1.heap[b]? = some (.cells c t fr) :=
  (hg.block b (Array.getElem?_eq_some_iff.1 h).1 hne).trans h
theorem three_cells {w : World} {b : Nat} {x y z : Value} {t : TypeId} {fr : Nat × Nat} (h : w.heap[b]? = some (.cells #[x, y, z] t fr)) : ∀ (j : Nat) (u : Value), [x, y, z][j]? = some u → w.cell? (Addr.add ⟨b, 0, none⟩ j) = some u := by
  intro j u hj
  rw [show Addr.add ⟨b, 0, none⟩ j = ⟨b, j, none⟩ by unfold Addr.add; split <;> simp_all]
  rw [cell_of_row w b _ _ t fr h]
  simpa using hj
theorem Cases.mono {S S' : Nat → Prop} {w : World} {bo : Option Addr} {n c : Nat} {B : List Cs} (h : Cases S w bo n c B) (hS : ∀ b, S b → S' b) : Cases S' w bo n c B := by
  obtain ⟨h1, h0, xs, h2, h3⟩ := h
  exact ⟨h1, h0, xs, RowF.mono h2 hS, h3⟩
theorem ra_snoc {S2 : Nat → Prop} {w wr w9 w' : World} {base j na ca c9 : Nat} {ao o9 : Option Addr} {B : List Cs} {cid : Int} {al : List Int} {cg : Bool} {xs : List Value} (h1 : B.length = j) (h0 : ∀ x ∈ B, I64 x.id) (h2 : xs.length = j * 3) (h3 : ∀ (i : Nat) (d : Cs), B[i]? = some d → ∃ v, xs[i * 3]? = some (.int .i64 d.id) ∧ xs[i * 3 + 1]? = some v ∧ xs[i * 3 + 2]? = some (.bool d.grant) ∧ IntsV w v d.vals) (he : Exts w wr) (ha : Ints S2 wr ao na ca al) (hna : al.length = na) (hcid : I64 cid) (h9 : Exts wr w9) (ho : w9.ownsRow base 33 3 (.slice o9 (j + 1) c9) (j + 1) (xs ++ [.int .i64 cid, .slice ao na ca, .bool cg])) (hx : Exts w9 w') : Cases (fun b => base ≤ b) w' o9 (j + 1) c9 (B ++ [⟨cid, al, cg⟩]) := by
  subst hna
  exact (Cases.snoc h1 h0 h2 (fun i d hd => let ⟨v, e1, e2, e3, e4⟩ := h3 i d hd; ⟨v, e1, e2, e3, e4.exts he⟩) h9 (d := ⟨cid, al, cg⟩) ⟨ao, ca, rfl, RowF.mono ha fun _ _ => trivial⟩ hcid (RowF.of_owns ho)).exts hx
theorem refAdd16_arg {S S1 S2 : Nat → Prop} (lo bo ao : Option Addr) (n1 c1 n c na ca : Nat) (D : List Dm) (B : List Cs) (cid : Int) (al : List Int) (cg : Bool) (w : World) (hd : Dims S w lo n1 c1 D) (hb : Cases S1 w bo n c B) (ha : Ints S2 w ao na ca al) (hn : n ≤ 100) (hck : (checkD D B && inD D al) = false) :
    Calls Try.prog 16 #[.slice lo n1 c1, .slice bo n c, .agg #[.int .i64 cid, .slice ao na ca, .bool cg]] w fun e w' => e = .returned (.tuple #[.slice none 0 0, .int .i64 1]) ∧ Exts w w' := by
  have hn' : n ≤ 2000 := by omega
  have HL := Lib.hid hb.1
  have HD := Lib.hid hd
  have HB := Lib.hid hb
  have HA := Lib.hid ha
  have hn0 := hn
  clear hd hb ha
  have hn := hn'
  cases h1 : checkD D B with
  | false =>
    have HCK := Lib.hid h1
    clear h1 hck
    go_enter Try.func16, Try.ntmps16
    go_wp2_with (first | (go_at_call 25; ((with_reducible refine (refRight25 _ _ _ _ _ _ D B _ _ (HD.out.exts (by repeat (first | exact Exts.refl _ | apply Exts.andR | apply Exts.alloc | apply Exts.wext | apply Exts.drew | apply Exts.drewN))) (HB.out.exts (by repeat (first | exact Exts.refl _ | apply Exts.andR | apply Exts.alloc | apply Exts.wext | apply Exts.drew | apply Exts.drewN))) hn HCK.out).mono ?_); rintro e w' ⟨rfl, x1, rfl⟩)))
    go_ret2
    exact ⟨rfl, (by repeat (first | exact Exts.refl _ | apply Exts.andR | apply Exts.alloc | apply Exts.wext | apply Exts.drew | apply Exts.drewN))⟩
  | true =>
    have HCK := Lib.hid h1
    have HIN := Lib.hid (show inD D al = false by rw [h1] at hck; exact hck)
    clear h1 hck
    go_enter Try.func16, Try.ntmps16
    go_wp2_with (first | (go_at_call 25; ((with_reducible refine (refRight25 _ _ _ _ _ _ D B _ _ (HD.out.exts (by repeat (first | exact Exts.refl _ | apply Exts.andR | apply Exts.alloc | apply Exts.wext | apply Exts.drew | apply Exts.drewN))) (HB.out.exts (by repeat (first | exact Exts.refl _ | apply Exts.andR | apply Exts.alloc | apply Exts.wext | apply Exts.drew | apply Exts.drewN))) hn HCK.out).mono ?_); rintro e w' ⟨rfl, x1, rfl⟩)) | (go_at_call 34; ((with_reducible refine (vector34_D _ _ _ _ _ _ D al _ _ (HD.out.exts (by repeat (first | exact Exts.refl _ | apply Exts.andR | apply Exts.alloc | apply Exts.wext | apply Exts.drew | apply Exts.drewN))) (RowF.exts HA.out (by repeat (first | exact Exts.refl _ | apply Exts.andR | apply Exts.alloc | apply Exts.wext | apply Exts.drew | apply Exts.drewN))) HIN.out).mono ?_); rintro e w' ⟨rfl, x2, rfl⟩)))
    go_ret2
    exact ⟨rfl, (by repeat (first | exact Exts.refl _ | apply Exts.andR | apply Exts.alloc | apply Exts.wext | apply Exts.drew | apply Exts.drewN))⟩
theorem refAdd16_twice {S S1 S2 : Nat → Prop} (lo bo ao : Option Addr) (n1 c1 n c na ca : Nat) (D : List Dm) (B : List Cs) (cid : Int) (al : List Int) (cg : Bool) (w : World) (hd : Dims S w lo n1 c1 D) (hb : Cases S1 w bo n c B) (ha : Ints S2 w ao na ca al) (hn : n ≤ 100) (hck : checkD D B = true) (hin : inD D al = true) (han : (B.any fun d => d.id == cid) = true) :
    Calls Try.prog 16 #[.slice lo n1 c1, .slice bo n c, .agg #[.int .i64 cid, .slice ao na ca, .bool cg]] w fun e w' => e = .returned (.tuple #[.slice none 0 0, .int .i64 5]) ∧ Exts w w' := by
  have hn' : n ≤ 2000 := by omega
  have HL := Lib.hid hb.1
  have HD := Lib.hid hd
  have HB := Lib.hid hb
  have HA := Lib.hid ha
  have hn0 := hn
  clear hd hb ha
  have hn := hn'
  have HAN := Lib.hid han
  clear han
  have HCK := Lib.hid hck
  have HIN := Lib.hid hin
  have HV := Lib.hid (check_vecs hck)
  have HRT := Lib.hid (check_right hck)
  clear hck hin
  have q0 : decide ((2000 : Int) ≤ (n : Int)) = false := by simp; omega
  go_enter Try.func16, Try.ntmps16
  go_wp2_with (first | (go_at_call 25; ((with_reducible refine (refRight25 _ _ _ _ _ _ D B _ _ (HD.out.exts (by repeat (first | exact Exts.refl _ | apply Exts.andR | apply Exts.alloc | apply Exts.wext | apply Exts.drew | apply Exts.drewN))) (HB.out.exts (by repeat (first | exact Exts.refl _ | apply Exts.andR | apply Exts.alloc | apply Exts.wext | apply Exts.drew | apply Exts.drewN))) hn HCK.out).mono ?_); rintro e w' ⟨rfl, x1, rfl⟩)) | (go_at_call 34; ((with_reducible refine (vector34_D _ _ _ _ _ _ D al _ _ (HD.out.exts (by repeat (first | exact Exts.refl _ | apply Exts.andR | apply Exts.alloc | apply Exts.wext | apply Exts.drew | apply Exts.drewN))) (RowF.exts HA.out (by repeat (first | exact Exts.refl _ | apply Exts.andR | apply Exts.alloc | apply Exts.wext | apply Exts.drew | apply Exts.drewN))) HIN.out).mono ?_); rintro e w' ⟨rfl, x2, rfl⟩)))
  refine wp_name ?_
  intro W hW
  have HX := Lib.hid (show Exts w W by rw [hW]; exact (by repeat (first | exact Exts.refl _ | apply Exts.andR | apply Exts.alloc | apply Exts.wext | apply Exts.drew | apply Exts.drewN)))
  have cB0 : W.cell? ⟨w.heap.size, 0, none⟩ = some (.int .i64 cid) := by rw [hW]; simp [go_sem]
  have cB1 : W.cell? ⟨w.heap.size, 1, none⟩ = some (.slice ao na ca) := by rw [hW]; simp [go_sem]
  have cB2 : W.cell? ⟨w.heap.size, 2, none⟩ = some (.bool cg) := by rw [hW]; simp [go_sem]
  have lB : w.heap.size < W.heap.size := World.block_lt_of_cell? W _ cB0
  have HBW := Lib.hid (HB.out.exts HX.out)
  have HAW0 := Lib.hid (RowF.exts HA.out HX.out)
  have HDW := Lib.hid (HD.out.exts HX.out)
  clear hW HB HD HA
  go_loopw [8] (fun i wr => ∃ (k : Nat), k ≤ n ∧ i = .int .i64 k ∧ Exts W wr ∧ ((B.take k).any fun d => d.id == cid) = false) (fun i _ => n - (intOf i).toNat)
  case atStart => exact ⟨0, by omega, rfl, Exts.refl _, by simp⟩
  case round =>
    obtain ⟨k, hk, rfl, ⟨y, rfl⟩, hz⟩ := hrel
    have HZ := Lib.hid hz
    clear hz
    by_cases hlt : k < n
    · obtain ⟨b, off, id, vs, gr, vo, vc, rfl, lb, hc, e0, _, _, _, _⟩ := HBW.out.get hlt
      have HC := Lib.hid hc
      clear hc
      cases q3 : (id == cid) with
      | true =>
        go_wp2
        first | refine wp_region_ext_lit2 (by kernel_rfl) (by kernel_rfl) ?_ | refine wp_region_ext_lit (by kernel_rfl) (by kernel_rfl) ?_
        repeat (go_big_quiet_step (fail))
        refine wpQuiet_nil ?_
        intro _ hwq'
        obtain ⟨xq, hwq''⟩ := hwq'
        subst hwq''
        go_wp2
        go_ret2
        exact ⟨rfl, HX.out.trans (by repeat (first | exact Exts.refl _ | apply Exts.andR | apply Exts.alloc | apply Exts.wext | apply Exts.drew | apply Exts.drewN))⟩
      | false =>
        have HQ := Lib.hid q3
        go_wp2
        first | refine wp_region_ext_lit2 (by kernel_rfl) (by kernel_rfl) ?_ | refine wp_region_ext_lit (by kernel_rfl) (by kernel_rfl) ?_
        repeat (go_big_quiet_step (fail))
        refine wpQuiet_nil ?_
        intro _ hwq'
        obtain ⟨xq, hwq''⟩ := hwq'
        subst hwq''
        go_wp2
        refine ⟨⟨k + 1, by omega, by go_num, (by repeat (first | exact Exts.refl _ | apply Exts.andR | apply Exts.alloc | apply Exts.wext | apply Exts.drew | apply Exts.drewN)), by rw [List.take_add_one, HC.out, List.any_append, HZ.out]; simpa using HQ.out⟩, ?_⟩
        simp [intOf]; omega
    · obtain rfl : k = n := by omega
      have htk : B.take k = B := List.take_of_length_le (by rw [HL.out]; exact Nat.le_refl _)
      have := HZ.out
      rw [htk, HAN.out] at this
      cases this

theorem refAdd16_go {S S1 S2 : Nat → Prop} (lo bo ao : Option Addr) (n1 c1 n c na ca : Nat) (D : List Dm) (B : List Cs) (cid : Int) (al : List Int) (cg : Bool) (w : World) (hd : Dims S w lo n1 c1 D) (hb : Cases S1 w bo n c B) (ha : Ints S2 w ao na ca al) (hn : n ≤ 100) (hcid : I64 cid) (hck : checkD D B = true) (hin : inD D al = true) (han : (B.any fun d => d.id == cid) = false) :
    Calls Try.prog 16 #[.slice lo n1 c1, .slice bo n c, .agg #[.int .i64 cid, .slice ao na ca, .bool cg]] w fun e w' => ∃ ro rn rc code, e = .returned (.tuple #[.slice ro rn rc, .int .i64 code]) ∧ Exts w w' ∧ ((clashB D B al cg = true ∧ ro = none ∧ rn = 0 ∧ rc = 0 ∧ code = 25) ∨ (clashB D B al cg = false ∧ rn = n + 1 ∧ code = 0 ∧ Cases (fun b => w.heap.size ≤ b) w' ro (n + 1) rc (B ++ [⟨cid, al, cg⟩]))) := by
  have HNA := Lib.hid (ints_len ha)
  have HBI := Lib.hid hb.2.1
  have HXS := Lib.hid (show ∃ xs, RowF S1 3 w (.slice bo n c) n xs ∧ (∀ u ∈ xs, u.oneCell' = true) ∧ (∀ (i : Nat) (d : Cs), B[i]? = some d → ∃ v, xs[i * 3]? = some (.int .i64 d.id) ∧ xs[i * 3 + 1]? = some v ∧ xs[i * 3 + 2]? = some (.bool d.grant) ∧ IntsV w v d.vals) from let ⟨q1, q2, xs, q3, q4⟩ := hb; ⟨xs, q3, Cases.ones q1 (RowF.len q3) q4, q4⟩)
  have HAN := Lib.hid han
  obtain ⟨i0, hi, hz0, hz1, hz2⟩ := info_parts info33
  clear han
  have hn' : n ≤ 2000 := by omega
  have HL := Lib.hid hb.1
  have HD := Lib.hid hd
  have HB := Lib.hid hb
  have HA := Lib.hid ha
  have hn0 := hn
  clear hd hb ha
  have hn := hn'
  have HCK := Lib.hid hck
  have HIN := Lib.hid hin
  have HV := Lib.hid (check_vecs hck)
  have HRT := Lib.hid (check_right hck)
  clear hck hin
  have q0 : decide ((2000 : Int) ≤ (n : Int)) = false := by simp; omega
  go_enter Try.func16, Try.ntmps16
  go_wp2_with (first | (go_at_call 25; ((with_reducible refine (refRight25 _ _ _ _ _ _ D B _ _ (HD.out.exts (by repeat (first | exact Exts.refl _ | apply Exts.andR | apply Exts.alloc | apply Exts.wext | apply Exts.drew | apply Exts.drewN))) (HB.out.exts (by repeat (first | exact Exts.refl _ | apply Exts.andR | apply Exts.alloc | apply Exts.wext | apply Exts.drew | apply Exts.drewN))) hn HCK.out).mono ?_); rintro e w' ⟨rfl, x1, rfl⟩)) | (go_at_call 34; ((with_reducible refine (vector34_D _ _ _ _ _ _ D al _ _ (HD.out.exts (by repeat (first | exact Exts.refl _ | apply Exts.andR | apply Exts.alloc | apply Exts.wext | apply Exts.drew | apply Exts.drewN))) (RowF.exts HA.out (by repeat (first | exact Exts.refl _ | apply Exts.andR | apply Exts.alloc | apply Exts.wext | apply Exts.drew | apply Exts.drewN))) HIN.out).mono ?_); rintro e w' ⟨rfl, x2, rfl⟩)))
  refine wp_name ?_
  intro W hW
  have HX := Lib.hid (show Exts w W by rw [hW]; exact (by repeat (first | exact Exts.refl _ | apply Exts.andR | apply Exts.alloc | apply Exts.wext | apply Exts.drew | apply Exts.drewN)))
  have cB0 : W.cell? ⟨w.heap.size, 0, none⟩ = some (.int .i64 cid) := by rw [hW]; simp [go_sem]
  have cB1 : W.cell? ⟨w.heap.size, 1, none⟩ = some (.slice ao na ca) := by rw [hW]; simp [go_sem]
  have cB2 : W.cell? ⟨w.heap.size, 2, none⟩ = some (.bool cg) := by rw [hW]; simp [go_sem]
  have lB : w.heap.size < W.heap.size := World.block_lt_of_cell? W _ cB0
  have HBW := Lib.hid (HB.out.exts HX.out)
  have HAW0 := Lib.hid (RowF.exts HA.out HX.out)
  have HDW := Lib.hid (HD.out.exts HX.out)
  clear hW HB HD HA
  go_loopw [8] (fun i wr => ∃ (k : Nat), k ≤ n ∧ i = .int .i64 k ∧ Exts W wr ∧ ((B.take k).any fun d => d.id == cid) = false) (fun i _ => n - (intOf i).toNat)
  case atStart => exact ⟨0, by omega, rfl, Exts.refl _, by simp⟩
  case round =>
    obtain ⟨k, hk, rfl, ⟨y, rfl⟩, hz⟩ := hrel
    have HZ := Lib.hid hz
    clear hz
    by_cases hlt : k < n
    · obtain ⟨b, off, id, vs, gr, vo, vc, rfl, lb, hc, e0, _, _, _, _⟩ := HBW.out.get hlt
      have q3 : (id == cid) = false := by
        have := HAN.out
        rw [List.any_eq_false] at this
        have := this _ (List.mem_of_getElem? hc)
        simpa using this
      have HC := Lib.hid hc
      clear hc
      have HQ := Lib.hid q3
      go_wp2
      first | refine wp_region_ext_lit2 (by kernel_rfl) (by kernel_rfl) ?_ | refine wp_region_ext_lit (by kernel_rfl) (by kernel_rfl) ?_
      repeat (go_big_quiet_step (fail))
      refine wpQuiet_nil ?_
      intro _ hwq'
      obtain ⟨xq, hwq''⟩ := hwq'
      subst hwq''
      go_wp2
      refine ⟨⟨k + 1, by omega, by go_num, (by repeat (first | exact Exts.refl _ | apply Exts.andR | apply Exts.alloc | apply Exts.wext | apply Exts.drew | apply Exts.drewN)), by rw [List.take_add_one, HC.out, List.any_append, HZ.out]; simpa using HQ.out⟩, ?_⟩
      simp [intOf]; omega
    · obtain rfl : k = n := by omega
      have HD := HDW
      go_wp2_with (first | (go_at_call 36; ((with_reducible refine (closures36 _ _ _ D _ (HD.out.exts (by repeat (first | exact Exts.refl _ | apply Exts.andR | apply Exts.alloc | apply Exts.wext | apply Exts.drew | apply Exts.drewN))) HRT.out).mono ?_); rintro e w' ⟨mo, mc, rfl, ⟨x3, rfl⟩, hm⟩; (try simp only [wext_and] at hm); (have HM := Lib.hid hm); clear hm)))
      go_loopw [10] (fun i wr => ∃ (j : Nat), j ≤ k ∧ i = .int .i64 j ∧ Exts W wr ∧ Ords wr mo n1 mc D ∧ clashB D (B.take j) al cg = false) (fun i _ => k - (intOf i).toNat)
      case atStart => exact ⟨0, by omega, rfl, (by repeat (first | exact Exts.refl _ | apply Exts.andR | apply Exts.alloc | apply Exts.wext | apply Exts.drew | apply Exts.drewN)), HM.out.exts (by repeat (first | exact Exts.refl _ | apply Exts.andR | apply Exts.alloc | apply Exts.wext | apply Exts.drew | apply Exts.drewN)), by simp [clashB]⟩
      case round =>
        obtain ⟨j, hj, rfl, hx, hm, hcl⟩ := hrel
        have HX2 := Lib.hid hx
        have HM := Lib.hid hm
        have HCL := Lib.hid hcl
        have c0 := Exts.cell hx cB0
        have c1 := Exts.cell hx cB1
        have c2 := Exts.cell hx cB2
        have lB2 : w.heap.size < wr.heap.size := World.block_lt_of_cell? wr _ c0
        have HAW := Lib.hid (RowF.exts HAW0.out hx)
        by_cases hlt : j < k
        · obtain ⟨b, off, id, vs, gr, vo, vc, rfl, lb, hc, e0, e1, e2, hvs, hid⟩ := (HBW.out.exts hx).get hlt
          have HVS := Lib.hid hvs
          have HC := Lib.hid hc
          have HIV := Lib.hid (show inD D vs = true from HV.out _ (List.mem_of_getElem? hc))
          obtain ⟨ks, hks⟩ : ∃ ks, keepsD D ⟨id, vs, gr⟩ al = ks := ⟨_, rfl⟩
          obtain ⟨m', hm'⟩ : ∃ m', ks.length = m' := ⟨_, rfl⟩
          have HK := Lib.hid hks
          have HMM := Lib.hid hm'
          have HF := Lib.hid (show forcesD D al ⟨id, vs, gr⟩ = decide (m' = 0) by
            unfold forcesD
            rw [hks, ← hm']
            cases ks <;> simp)
          have r0 : ∀ w', Exts wr w' → w'.cell? ⟨b, off + j * 3, none⟩ = some (.int .i64 id) := all_at (Exts.refl _) e0
          have r1 : ∀ w', Exts wr w' → w'.cell? ⟨b, off + j * 3 + 1, none⟩ = some (.slice vo vs.length vc) := all_at (Exts.refl _) e1
          have r2 : ∀ w', Exts wr w' → w'.cell? ⟨b, off + j * 3 + 2, none⟩ = some (.bool gr) := all_at (Exts.refl _) e2
          have r3 : ∀ w', Exts wr w' → w'.cell? ⟨w.heap.size, 1, none⟩ = some (.slice ao na ca) := all_at (Exts.refl _) c1
          have r4 : ∀ w', Exts wr w' → w'.cell? ⟨w.heap.size, 2, none⟩ = some (.bool cg) := all_at (Exts.refl _) c2
          have i1 : (0 : Int) ≤ (j : Int) := by omega
          have i2 : (j : Int) < (k : Int) := by omega
          clear hvs hc hid hks hm' hx hm hcl
          by_cases hg : gr = cg
          · have q1 : (gr == cg) = true := by simpa using hg
            have q2 : (gr != cg) = false := by simpa using hg
            have HQ := Lib.hid (show ((⟨id, vs, gr⟩ : Cs).grant != cg && forcesD D al ⟨id, vs, gr⟩) = false by
              show ((gr != cg) && _) = false
              rw [q2]; rfl)
            clear hg HF r0 r1 r2 r3 r4
            go_wp2
            first | refine wp_region_ext_lit2 (by kernel_rfl) (by kernel_rfl) ?_ | refine wp_region_ext_lit (by kernel_rfl) (by kernel_rfl) ?_
            repeat (go_big_quiet_step (fail))
            refine wpQuiet_nil ?_
            intro _ hwq'
            obtain ⟨xq, hwq''⟩ := hwq'
            subst hwq''
            go_wp2
            refine ⟨⟨j + 1, by omega, by go_num, HX2.out.trans (by repeat (first | exact Exts.refl _ | apply Exts.andR | apply Exts.alloc | apply Exts.wext | apply Exts.drew | apply Exts.drewN)), HM.out.exts (by repeat (first | exact Exts.refl _ | apply Exts.andR | apply Exts.alloc | apply Exts.wext | apply Exts.drew | apply Exts.drewN)), clash_next HC.out HCL.out HQ.out⟩, ?_⟩
            simp [intOf]; omega
          · have q1 : (gr == cg) = false := by simpa using hg
            have q2 : (gr != cg) = true := by simpa using hg
            have HG := Lib.hid q2
            clear hg
            by_cases h0 : m' = 0
            · have q3 : ((m' : Int) == 0) = true := by simp; omega
              have q4 : (m' == 0) = true := by simpa using h0
              have HCY := Lib.hid (clash_yes (D := D) (al := al) (cg := cg) HC.out (by
                show ((gr != cg) && _) = true
                rw [HG.out, HF.out, h0]; rfl))
              clear h0
              go_wp2
              go_region_held3 (fun w' => Exts wr w') (first | assumption | exact (Exts.refl _).drew | exact (by repeat (first | exact Exts.refl _ | apply Exts.andR | apply Exts.alloc | apply Exts.wext | apply Exts.drew | apply Exts.drewN))) ((first | (go_at_call 45; (with_reducible refine (keeps45 _ _ _ _ _ _ _ _ _ D _ vs al _ ks m' _ (HM.out.exts (by assumption)) (RowF.exts HVS.out (by assumption)) (RowF.exts HAW.out (by assumption)) HIV.out HIN.out HK.out HMM.out).mono ?_); rintro e w' ⟨ro, rc, rfl, ⟨x5, rfl⟩, hks⟩; clear hks)))

              all_goals
                go_wp2
                go_ret2
                exact ⟨none, 0, 0, 25, rfl, HX.out.trans (HX2.out.trans (by repeat (first | exact Exts.refl _ | apply Exts.andR | apply Exts.alloc | apply Exts.wext | apply Exts.drew | apply Exts.drewN))), .inl ⟨HCY.out, rfl, rfl, rfl, rfl⟩⟩
            · have q3 : ((m' : Int) == 0) = false := by simp; omega
              have q4 : (m' == 0) = false := by simpa using h0
              have HQ := Lib.hid (show ((⟨id, vs, gr⟩ : Cs).grant != cg && forcesD D al ⟨id, vs, gr⟩) = false by
                rw [HF.out]
                simp [h0])
              clear h0
              go_wp2
              go_region_held3 (fun w' => Exts wr w') (first | assumption | exact (Exts.refl _).drew | exact (by repeat (first | exact Exts.refl _ | apply Exts.andR | apply Exts.alloc | apply Exts.wext | apply Exts.drew | apply Exts.drewN))) ((first | (go_at_call 45; (with_reducible refine (keeps45 _ _ _ _ _ _ _ _ _ D _ vs al _ ks m' _ (HM.out.exts (by assumption)) (RowF.exts HVS.out (by assumption)) (RowF.exts HAW.out (by assumption)) HIV.out HIN.out HK.out HMM.out).mono ?_); rintro e w' ⟨ro, rc, rfl, ⟨x5, rfl⟩, hks⟩; clear hks)))

              all_goals
                go_wp2
                refine ⟨⟨j + 1, by omega, by go_num, HX2.out.trans (by repeat (first | exact Exts.refl _ | apply Exts.andR | apply Exts.alloc | apply Exts.wext | apply Exts.drew | apply Exts.drewN)), HM.out.exts (by repeat (first | exact Exts.refl _ | apply Exts.andR | apply Exts.alloc | apply Exts.wext | apply Exts.drew | apply Exts.drewN)), clash_next HC.out HCL.out HQ.out⟩, ?_⟩
                simp [intOf]; omega
        · obtain rfl : j = k := by omega
          have htk : B.take j = B := List.take_of_length_le (by rw [HL.out]; exact Nat.le_refl _)
          rw [htk] at hcl
          have HCL2 := Lib.hid hcl
          obtain ⟨xs, hxs⟩ := HXS.out
          have HR := Lib.hid (RowF.exts hxs.1 (HX.out.trans hx))
          have HONE := Lib.hid hxs.2.1
          have H3 := Lib.hid hxs.2.2
          have HLX := Lib.hid (RowF.len hxs.1)
          have c1' := c1
          have HVL := Lib.hid (show ∀ x ∈ B ++ [⟨cid, al, cg⟩], x.vals.length ≤ 1000 from fun x hx => by
            rw [List.mem_append] at hx
            have : inD D x.vals = true := by
              rcases hx with hx | hx
              · exact HV.out x hx
              · simp at hx; rw [hx]; exact HIN.out
            have := vec_le12 HRT.out this
            omega)
          clear htk hx hm hcl hxs
          go_wp2
          go_region_held3 (fun w' => w'.cell? ⟨w.heap.size, 0, none⟩ = some (.int .i64 cid) ∧ w'.cell? ⟨w.heap.size, 1, none⟩ = some (.slice ao na ca) ∧ w'.cell? ⟨w.heap.size, 2, none⟩ = some (.bool cg)) (first | exact ⟨Exts.cell (HE9.out.trans (by repeat (first | exact Exts.refl _ | apply Exts.andR | apply Exts.alloc | apply Exts.wext | apply Exts.drew | apply Exts.drewN))) c0, Exts.cell (HE9.out.trans (by repeat (first | exact Exts.refl _ | apply Exts.andR | apply Exts.alloc | apply Exts.wext | apply Exts.drew | apply Exts.drewN))) c1', Exts.cell (HE9.out.trans (by repeat (first | exact Exts.refl _ | apply Exts.andR | apply Exts.alloc | apply Exts.wext | apply Exts.drew | apply Exts.drewN))) c2⟩ | exact ⟨Exts.cell (HX1.out.trans (by repeat (first | exact Exts.refl _ | apply Exts.andR | apply Exts.alloc | apply Exts.wext | apply Exts.drew | apply Exts.drewN))) c0, Exts.cell (HX1.out.trans (by repeat (first | exact Exts.refl _ | apply Exts.andR | apply Exts.alloc | apply Exts.wext | apply Exts.drew | apply Exts.drewN))) c1', Exts.cell (HX1.out.trans (by repeat (first | exact Exts.refl _ | apply Exts.andR | apply Exts.alloc | apply Exts.wext | apply Exts.drew | apply Exts.drewN))) c2⟩ | exact ⟨Exts.cell (by repeat (first | exact Exts.refl _ | apply Exts.andR | apply Exts.alloc | apply Exts.wext | apply Exts.drew | apply Exts.drewN)) c0, Exts.cell (by repeat (first | exact Exts.refl _ | apply Exts.andR | apply Exts.alloc | apply Exts.wext | apply Exts.drew | apply Exts.drewN)) c1', Exts.cell (by repeat (first | exact Exts.refl _ | apply Exts.andR | apply Exts.alloc | apply Exts.wext | apply Exts.drew | apply Exts.drewN)) c2⟩) ((first | (refine step_append_rowO rfl (.tmp 67) (.tmp 68) 23 rfl wr.heap.size 33 i0 _ 3 40 Try.underlying23 hi hz0 hz1 hz2 rfl (by decide) _ 0 [] rfl (ownsRow_exts (made_at (wr.drew.alloc (.cells #[.int .i64 cid, .slice ao na ca, .bool cg] 33)) (wr.heap.size + 1) (by simp) (by simp <;> omega)) (by repeat (first | exact Exts.refl _ | apply Exts.andR | apply Exts.alloc | apply Exts.wext | apply Exts.drew | apply Exts.drewN))) bo j c xs rfl (RowF.exts HR.out (by repeat (first | exact Exts.refl _ | apply Exts.andR | apply Exts.alloc | apply Exts.wext | apply Exts.drew | apply Exts.drewN))) HONE.out (by unfold maxLen; omega) (by omega) (by simp <;> omega) ?_; intro ao1 c1 w1 hown1 hg1; simp only [Nat.zero_add, List.nil_append] at hown1 ⊢; (have HO1 := Lib.hid hown1); (have HX1 := Lib.hid (exts_of_grown (W := wr) (by repeat (first | exact Exts.refl _ | apply Exts.andR | apply Exts.alloc | apply Exts.wext | apply Exts.drew | apply Exts.drewN)) hg1 (fun b hb => by cases hb; simp <;> omega))); (have hcl := lit_kept (b := wr.heap.size) (c := #[.int .i64 cid, .slice ao na ca, .bool cg]) (t := 33) (fr := (0, 0)) hg1 (by (repeat (first | exact alloc_atR _ _ _ (by simp; first | done | fail) | refine alloc_belowR _ _ _ _ (by first | (simp; first | done | fail) | (simp; omega)) ?_ | rw [heap_drew] | fail)); first | done | fail) (fun hc => absurd (Option.some.inj (show some _ = some _ from hc)) (by first | (simp; first | done | fail) | (simp; omega)))); (have HCL3 := Lib.hid (three_cells hcl)); clear hown1 hg1 hcl) | (refine step_append_rowO rfl (.tmp 67) (.tmp 68) 23 rfl wr.heap.size 33 i0 _ 3 40 Try.underlying23 hi hz0 hz1 hz2 rfl (by decide) _ 0 [] rfl (ownsRow_exts (World.ownsRow_made wr.drew #[] 0 (Nat.le_refl _) (by decide) rfl) (by repeat (first | exact Exts.refl _ | apply Exts.andR | apply Exts.alloc | apply Exts.wext | apply Exts.drew | apply Exts.drewN))) bo j c xs rfl (RowF.exts HR.out (by repeat (first | exact Exts.refl _ | apply Exts.andR | apply Exts.alloc | apply Exts.wext | apply Exts.drew | apply Exts.drewN))) HONE.out (by unfold maxLen; omega) (by omega) (by simp <;> omega) ?_; intro ao1 c1 w1 hown1 hg1; simp only [Nat.zero_add, List.nil_append] at hown1 ⊢; (have HO1 := Lib.hid hown1); (have HX1 := Lib.hid (exts_of_grown (W := wr) (by repeat (first | exact Exts.refl _ | apply Exts.andR | apply Exts.alloc | apply Exts.wext | apply Exts.drew | apply Exts.drewN)) hg1 (fun b hb => by cases hb; simp <;> omega))); (have hcl := lit_kept (b := wr.heap.size + 1) (c := #[.int .i64 cid, .slice ao na ca, .bool cg]) (t := 33) (fr := (0, 0)) hg1 (by (repeat (first | exact alloc_atR _ _ _ (by simp; first | done | fail) | refine alloc_belowR _ _ _ _ (by first | (simp; first | done | fail) | (simp; omega)) ?_ | rw [heap_drew] | fail)); first | done | fail) (fun hc => absurd (Option.some.inj (show some _ = some _ from hc)) (by first | (simp; first | done | fail) | (simp; omega)))); (have HCL3 := Lib.hid (three_cells hcl)); clear hown1 hg1 hcl) | (refine step_append_rowO rfl (.tmp 67) (.tmp 68) 23 rfl wr.heap.size 33 i0 _ 3 40 Try.underlying23 hi hz0 hz1 hz2 rfl (by decide) _ 0 [] rfl (ownsRow_exts (World.ownsRow_made wr.drew #[] 0 (Nat.le_refl _) (by decide) rfl) (by repeat (first | exact Exts.refl _ | apply Exts.andR | apply Exts.alloc | apply Exts.wext | apply Exts.drew | apply Exts.drewN))) bo j c xs rfl (RowF.exts HR.out (by repeat (first | exact Exts.refl _ | apply Exts.andR | apply Exts.alloc | apply Exts.wext | apply Exts.drew | apply Exts.drewN))) HONE.out (by unfold maxLen; omega) (by omega) (by simp <;> omega) ?_; intro ao1 c1 w1 hown1 hg1; simp only [Nat.zero_add, List.nil_append] at hown1 ⊢; (have HO1 := Lib.hid hown1); (have HX1 := Lib.hid (exts_of_grown (W := wr) (by repeat (first | exact Exts.refl _ | apply Exts.andR | apply Exts.alloc | apply Exts.wext | apply Exts.drew | apply Exts.drewN)) hg1 (fun b hb => by cases hb; simp <;> omega))); clear hown1 hg1) | (refine step_append_lies w1 rfl (.tmp 69) (.tmp 71) 23 rfl wr.heap.size 33 i0 _ 3 40 Try.underlying23 hi hz0 hz1 hz2 rfl (by decide) (.slice ao1 j c1) j xs rfl (ownsRow_exts HO1.out (by repeat (first | exact Exts.refl _ | apply Exts.andR | apply Exts.alloc | apply Exts.wext | apply Exts.drew | apply Exts.drewN))) ⟨_, 0, none⟩ 1 1 [.int .i64 cid, .slice ao na ca, .bool cg] rfl rfl HCL3.out (three_one _ _ _ rfl) (by decide) (by unfold maxLen; omega) (by omega) (by have := HX1.out.below.size; simp <;> omega) _ rfl ?_; intro g2 cg2 w9 hown' hgrow hat hlt'; (have HO9 := Lib.hid hown'); (have HE9 := Lib.hid (exts_of_grown (W := wr) (HX1.out.trans (by repeat (first | exact Exts.refl _ | apply Exts.andR | apply Exts.alloc | apply Exts.wext | apply Exts.drew | apply Exts.drewN))) hgrow (fun b hb => owns_base HO1.out hb))); clear hown' hgrow hat hlt') | (refine step_append_lies (w1.alloc (.cells #[.int .i64 cid, .slice ao na ca, .bool cg] 33)) rfl (.tmp 69) (.tmp 71) 23 rfl wr.heap.size 33 i0 _ 3 40 Try.underlying23 hi hz0 hz1 hz2 rfl (by decide) (.slice ao1 j c1) j xs rfl (ownsRow_exts HO1.out (by repeat (first | exact Exts.refl _ | apply Exts.andR | apply Exts.alloc | apply Exts.wext | apply Exts.drew | apply Exts.drewN))) ⟨_, 0, none⟩ 1 1 [.int .i64 cid, .slice ao na ca, .bool cg] rfl rfl (by intro j u hj; match j, hj with | 0, hj => (simp at hj; subst hj; simp [go_sem]) | 1, hj => (simp at hj; subst hj; simp [go_sem]) | 2, hj => (simp at hj; subst hj; simp [go_sem])) (three_one _ _ _ rfl) (by decide) (by unfold maxLen; omega) (by omega) (by have := HX1.out.below.size; simp <;> omega) _ rfl ?_; intro g2 cg2 w9 hown' hgrow hat hlt'; (have HO9 := Lib.hid hown'); (have HE9 := Lib.hid (exts_of_grown (W := wr) (HX1.out.trans (by repeat (first | exact Exts.refl _ | apply Exts.andR | apply Exts.alloc | apply Exts.wext | apply Exts.drew | apply Exts.drewN))) hgrow (fun b hb => owns_base HO1.out hb))); clear hown' hgrow hat hlt') | (go_at_call 46; (with_reducible refine (cases46 (S := fun b => wr.heap.size ≤ b) _ _ _ (B ++ [⟨cid, al, cg⟩]) _ (ra_snoc HL.out HBI.out HLX.out H3.out (HX.out.trans HX2.out) HAW.out HNA.out hcid HE9.out HO9.out (by repeat (first | exact Exts.refl _ | apply Exts.andR | apply Exts.alloc | apply Exts.wext | apply Exts.drew | apply Exts.drewN))) HVL.out (by omega)).mono ?_); rintro e w' ⟨ro, rc, rfl, ⟨x5, rfl⟩, hcs⟩; (have HCS := Lib.hid hcs); clear hcs)))
          all_goals
            go_wp2
            go_ret2
            exact ⟨ro, j + 1, rc, 0, rfl, HX.out.trans (HX2.out.trans (HE9.out.trans (by repeat (first | exact Exts.refl _ | apply Exts.andR | apply Exts.alloc | apply Exts.wext | apply Exts.drew | apply Exts.drewN)))), .inr ⟨HCL2.out, rfl, rfl, HCS.out.mono fun b hb => Nat.le_trans (HX.out.trans (HX2.out.trans HE9.out)).below.size hb⟩⟩
end Go.Proofs.Ytodgohilfbggjaa

/- Add of the reference, in one. -/
namespace Go.Proofs.Ytodgohilfbggjaa
open Go.RowKit Go.Maps
set_option linter.unusedSimpArgs false
set_option linter.unusedVariables false
theorem refAdd16 {S S1 S2 : Nat → Prop} (lo bo ao : Option Addr) (n1 c1 n c na ca : Nat) (D : List Dm) (B : List Cs) (cid : Int) (al : List Int) (cg : Bool) (w : World) (hd : Dims S w lo n1 c1 D) (hb : Cases S1 w bo n c B) (ha : Ints S2 w ao na ca al) (hn : n ≤ 100) (hcid : I64 cid) :
    Calls Try.prog 16 #[.slice lo n1 c1, .slice bo n c, .agg #[.int .i64 cid, .slice ao na ca, .bool cg]] w fun e w' => ∃ ro rc, e = .returned (.tuple #[.slice ro (addD D B ⟨cid, al, cg⟩).1.length rc, .int .i64 (addD D B ⟨cid, al, cg⟩).2]) ∧ Exts w w' ∧ Cases (fun b => w.heap.size ≤ b) w' ro (addD D B ⟨cid, al, cg⟩).1.length rc (addD D B ⟨cid, al, cg⟩).1 := by
  have hl := hb.1
  have hnil : ∀ w', Cases (fun b => w.heap.size ≤ b) w' none 0 0 [] := fun w' => ⟨rfl, (fun _ hx => by cases hx), [], RowF.nil _ _ _, (fun _ _ hd => by cases hd)⟩
  cases hck : (checkD D B && inD D al) with
  | false =>
    have hr : addD D B ⟨cid, al, cg⟩ = ([], 1) := by unfold addD; rw [hck]; rfl
    rw [hr]
    refine (refAdd16_arg lo bo ao n1 c1 n c na ca D B cid al cg w hd hb ha hn hck).mono ?_
    rintro e w' ⟨rfl, he⟩
    exact ⟨none, 0, rfl, he, hnil _⟩
  | true =>
    have hck2 := hck
    rw [Bool.and_eq_true] at hck2
    cases han : (B.any fun d => d.id == cid) with
    | true =>
      have hr : addD D B ⟨cid, al, cg⟩ = ([], 5) := by unfold addD; rw [hck]; simp only [han]; rfl
      rw [hr]
      refine (refAdd16_twice lo bo ao n1 c1 n c na ca D B cid al cg w hd hb ha hn hck2.1 hck2.2 han).mono ?_
      rintro e w' ⟨rfl, he⟩
      exact ⟨none, 0, rfl, he, hnil _⟩
    | false =>
      refine (refAdd16_go lo bo ao n1 c1 n c na ca D B cid al cg w hd hb ha hn hcid hck2.1 hck2.2 han).mono ?_
      rintro e w' ⟨ro, rn, rc, code, rfl, he, ⟨h1, rfl, rfl, rfl, rfl⟩ | ⟨h1, rfl, rfl, h2⟩⟩
      · have hr : addD D B ⟨cid, al, cg⟩ = ([], 25) := by unfold addD; rw [hck]; simp only [han]; unfold clashB at h1; simp only [h1]; rfl
        rw [hr]
        exact ⟨none, 0, rfl, he, hnil _⟩
      · have hr : addD D B ⟨cid, al, cg⟩ = (B ++ [⟨cid, al, cg⟩], 0) := by unfold addD; rw [hck]; simp only [han]; unfold clashB at h1; simp only [h1]; rfl
        rw [hr]
        have hlen : (B ++ [(⟨cid, al, cg⟩ : Cs)]).length = n + 1 := by simp [hl]
        refine ⟨ro, rc, ?_, he, ?_⟩
        · rw [hlen]
        · rw [hlen]; exact h2
end Go.Proofs.Ytodgohilfbggjaa

/- Arguments that came in, read: lists of numbers and of dimensions. No condition. -/
namespace Go.Proofs.Ytodgohilfbggjaa
open Go.RowKit Go.Deep Go.Joins Go.WideShapes
set_option linter.unusedSimpArgs false
set_option linter.unusedVariables false
set_option maxRecDepth 100000

section
variable {H : Type} {enc : TypeId × Value → H} {w : World} {base : Nat} {spare : Nat → Bool} {held : Bool} {cs : List Value}

theorem areads {t e : TypeId} {n m : Nat} (ht : Try.prog.underlying t = some (.array n e)) (hm : Try.prog.cellsOf e = m) (h : Reads enc Try.prog w base spare held t cs) : cs.length = Try.prog.cellsOf t ∧ ∀ i, i < n → Reads enc Try.prog w base spare held e ((cs.drop (i * m)).take m) := by
  subst hm
  obtain ⟨_, _, h⟩ := h
  obtain ⟨xs, n', _, _, hl, hn, hx⟩ := DataW.trod_array ht h
  refine ⟨hl, fun i hi => ⟨n', xs[i]'(by omega), ?_⟩⟩
  rw [hx i hi, List.getElem?_eq_getElem (by omega)]
theorem list2 {α : Type} {l : List α} (h : l.length = 2) : ∃ a b, l = [a, b] := by
  match l, h with
  | [a, b], _ => exact ⟨a, b, rfl⟩
theorem cells3 : Try.prog.cellsOf 3 = 1 := by kernel_rfl
theorem cells22 : Try.prog.cellsOf 50 = 1 := by kernel_rfl
theorem cells24 : Try.prog.cellsOf 52 = 2 := by kernel_rfl
theorem cells45 : Try.prog.cellsOf 56 = 2 := by kernel_rfl
theorem read_int {cs : List Value} (h : Reads enc Try.prog w base spare held 3 cs) : ∃ n, cs = [.int .i64 n] := by
  obtain ⟨n, h1, h2⟩ := h.int Try.underlying3
  exact ⟨n, h1⟩
theorem flat_of {α : Type} {f : α → List Value} {L : List (List Value)} {A : List α} (h1 : A.length = L.length) (h2 : ∀ (i : Nat) (l : List Value), L[i]? = some l → ∃ a, A[i]? = some a ∧ l = f a) : L = A.map f := by
  apply List.ext_getElem?
  intro i
  rw [List.getElem?_map]
  cases hl : L[i]? with
  | none => rw [List.getElem?_eq_none (by have := List.getElem?_eq_none_iff.1 hl; omega)]; rfl
  | some l =>
    obtain ⟨a, ha, rfl⟩ := h2 i l hl
    rw [ha]; rfl
theorem read_pr (h : Reads enc Try.prog w base spare held 56 cs) : ∃ p : Pr, cs = prCells p := by
  obtain ⟨hl, hr⟩ := areads Try.underlying56 cells3 h
  obtain ⟨a, b, rfl⟩ := list2 (hl.trans cells45)
  have h0 : Reads enc Try.prog w base spare held 3 [a] := hr 0 (by decide)
  have h1 : Reads enc Try.prog w base spare held 3 [b] := hr 1 (by decide)
  obtain ⟨x, e0⟩ := read_int h0
  obtain ⟨y, e1⟩ := read_int h1
  cases e0; cases e1
  exact ⟨(x, y), rfl⟩
theorem read_prs {v : Value} (h : Reads enc Try.prog w base spare held 50 [v]) : ∃ ps : List Pr, PrsV w v ps := by
  obtain ⟨ao, n, cap, L, e, hL, hr, hl⟩ := h.slice Try.underlying50 cells45 (by decide)
  cases e
  obtain ⟨A, h1, h2⟩ := list_of (R := fun l v => l = prCells v) L (fun l hm => read_pr (hl l hm).2)
  have := flat_of h1 h2
  subst this
  have hn : A.length = n := by rw [h1, hL]
  subst hn
  exact ⟨A, ao, cap, rfl, hr⟩
theorem intsC_flat (A : List Int) : (A.map fun n => [Value.int .i64 n]).flatten = intsC A := by
  induction A with
  | nil => rfl
  | cons a A ih => rw [List.map_cons, List.flatten_cons, ih]; rfl
theorem open_il {r : Go.Reach} {b0 : Nat} {v : Value} {d : DataW H} {p : List MemPlace} (hv : Value.okWide Try.prog w r b0 24 v) (h : DataW.Trod enc Try.prog w base spare held 24 v d p) :
    ∃ ao n cap, ∃ l : List Int, v = .slice ao n cap ∧ Ints (fun _ => True) w ao n cap l := by
  obtain ⟨a, n, c, rfl⟩ := okWide_slice Try.underlying24 hv
  have h : Reads enc Try.prog w base spare held 24 [.slice a n c] := Reads.arg h
  obtain ⟨ao, n, cap, L, e, hL, hr, hl⟩ := h.slice Try.underlying24 cells3 (by decide)
  cases e
  obtain ⟨A, h1, h2⟩ := list_of (R := fun l n => l = [.int .i64 n]) L (fun l hm => read_int (hl l hm).2)
  have := flat_of h1 (f := fun n => [.int .i64 n]) h2
  subst this
  refine ⟨a, n, c, A, rfl, ?_⟩
  rw [Ints, ← intsC_flat]
  exact hr
theorem open_dims {r : Go.Reach} {b0 : Nat} {v : Value} {d : DataW H} {p : List MemPlace} (hv : Value.okWide Try.prog w r b0 22 v) (h : DataW.Trod enc Try.prog w base spare held 22 v d p) :
    ∃ ao n cap, ∃ D : List Dm, v = .slice ao n cap ∧ Dims (fun _ => True) w ao n cap D := by
  obtain ⟨a, n, c, rfl⟩ := okWide_slice Try.underlying22 hv
  have h : Reads enc Try.prog w base spare held 22 [.slice a n c] := Reads.arg h
  obtain ⟨ao, n, cap, L, e, hL, hr, hl⟩ := h.slice Try.underlying22 cells24 (by decide)
  cases e
  obtain ⟨A, h1, h2⟩ := list_of (α := Dm) (R := fun l d => ∃ b, l = [.int .i64 d.1, b] ∧ PrsV w b d.2) L (fun l hm => by
    obtain ⟨hlen, h⟩ := hl l hm
    obtain ⟨x, b, rfl⟩ := list2 hlen
    have h0 : Reads enc Try.prog w base spare held 3 [x] := h.field Try.underlying52 0 _ rfl cells3
    have h1 : Reads enc Try.prog w base spare held 50 [b] := h.field Try.underlying52 1 _ rfl cells22
    obtain ⟨V, e0⟩ := read_int h0
    obtain ⟨ps, q⟩ := read_prs h1
    cases e0
    exact ⟨(V, ps), b, rfl, q⟩)
  refine ⟨a, n, c, A, rfl, h1.trans hL, L.flatten, hr, fun i d hd => ?_⟩
  have hi := (List.getElem?_eq_some_iff.1 hd).1
  have hLi : L[i]? = some L[i] := List.getElem?_eq_getElem (by omega)
  obtain ⟨q, hq, b, hlab, r1⟩ := h2 i L[i] hLi
  rw [hd] at hq
  cases hq
  have f0 := flatten_at (k := 2) L (fun l hm => (hl l hm).1) i 0 (by decide)
  have f1 := flatten_at (k := 2) L (fun l hm => (hl l hm).1) i 1 (by decide)
  rw [hLi, hlab] at f0 f1
  exact ⟨b, f0, f1, r1⟩
end
end Go.Proofs.Ytodgohilfbggjaa

/- Arguments that came in, read: lists of cases. No condition. -/
namespace Go.Proofs.Ytodgohilfbggjaa
open Go.RowKit Go.Deep Go.Joins Go.WideShapes
set_option linter.unusedSimpArgs false
set_option linter.unusedVariables false
set_option maxRecDepth 100000

section
variable {H : Type} {enc : TypeId × Value → H} {w : World} {base : Nat} {spare : Nat → Bool} {held : Bool} {cs : List Value}
theorem list3 {α : Type} {l : List α} (h : l.length = 3) : ∃ a b c, l = [a, b, c] := by
  match l, h with
  | [a, b, c], _ => exact ⟨a, b, c, rfl⟩
theorem cells33 : Try.prog.cellsOf 33 = 3 := by kernel_rfl
theorem cellsI : Try.prog.cellsOf 24 = 1 := by kernel_rfl
theorem cells4b : Try.prog.cellsOf 4 = 1 := by kernel_rfl
theorem read_i64 {cs : List Value} (h : Reads enc Try.prog w base spare held 3 cs) : ∃ n, cs = [.int .i64 n] ∧ I64 n := by
  obtain ⟨n, h1, h2⟩ := h.int Try.underlying3
  exact ⟨n, h1, I64.of_wf h2⟩
theorem read_il {v : Value} (h : Reads enc Try.prog w base spare held 24 [v]) : ∃ l : List Int, IntsV w v l := by
  obtain ⟨ao, n, cap, L, e, hL, hr, hl⟩ := h.slice Try.underlying24 cells3 (by decide)
  cases e
  obtain ⟨A, h1, h2⟩ := list_of (R := fun l n => l = [.int .i64 n]) L (fun l hm => read_int (hl l hm).2)
  have := flat_of h1 (f := fun n => [.int .i64 n]) h2
  subst this
  have hn : A.length = n := by rw [h1, hL]
  subst hn
  refine ⟨A, ao, cap, rfl, ?_⟩
  rw [Ints, ← intsC_flat]
  exact hr
theorem open_cases {r : Go.Reach} {b0 : Nat} {v : Value} {d : DataW H} {p : List MemPlace} (hv : Value.okWide Try.prog w r b0 23 v) (h : DataW.Trod enc Try.prog w base spare held 23 v d p) :
    ∃ ao n cap, ∃ B : List Cs, v = .slice ao n cap ∧ Cases (fun _ => True) w ao n cap B := by
  obtain ⟨a, n, c, rfl⟩ := okWide_slice Try.underlying23 hv
  have h : Reads enc Try.prog w base spare held 23 [.slice a n c] := Reads.arg h
  obtain ⟨ao, n, cap, L, e, hL, hr, hl⟩ := h.slice Try.underlying23 cells33 (by decide)
  cases e
  obtain ⟨A, h1, h2⟩ := list_of (α := Cs) (R := fun l d => ∃ b, l = [.int .i64 d.id, b, .bool d.grant] ∧ I64 d.id ∧ IntsV w b d.vals) L (fun l hm => by
    obtain ⟨hlen, h⟩ := hl l hm
    obtain ⟨x, b, g, rfl⟩ := list3 hlen
    have h0 : Reads enc Try.prog w base spare held 3 [x] := h.field Try.underlying33 0 _ rfl cells3
    have h1 : Reads enc Try.prog w base spare held 24 [b] := h.field Try.underlying33 1 _ rfl cellsI
    have h2 : Reads enc Try.prog w base spare held 4 [g] := h.field Try.underlying33 2 _ rfl cells4b
    obtain ⟨V, e0, i0⟩ := read_i64 h0
    obtain ⟨ps, q⟩ := read_il h1
    obtain ⟨g, e2⟩ := h2.bool Try.underlying4
    cases e0; cases e2
    exact ⟨⟨V, ps, g⟩, b, rfl, i0, q⟩)
  have hAn : A.length = n := by rw [h1, hL]
  refine ⟨a, n, c, A, rfl, hAn, fun x hx => ?_, L.flatten, hr, fun i d hd => ?_⟩
  · obtain ⟨i, hi⟩ := List.getElem?_of_mem hx
    have hi1 := (List.getElem?_eq_some_iff.1 hi).1
    have hLi : L[i]? = some L[i] := List.getElem?_eq_getElem (by omega)
    obtain ⟨q, hq, b, hlab, r1, r2⟩ := h2 i L[i] hLi
    rw [hi] at hq
    cases hq
    exact r1
  · have hi := (List.getElem?_eq_some_iff.1 hd).1
    have hLi : L[i]? = some L[i] := List.getElem?_eq_getElem (by omega)
    obtain ⟨q, hq, b, hlab, r1, r2⟩ := h2 i L[i] hLi
    rw [hd] at hq
    cases hq
    have f0 := flatten_at (k := 3) L (fun l hm => (hl l hm).1) i 0 (by decide)
    have f1 := flatten_at (k := 3) L (fun l hm => (hl l hm).1) i 1 (by decide)
    have f2 := flatten_at (k := 3) L (fun l hm => (hl l hm).1) i 2 (by decide)
    rw [hLi, hlab] at f0 f1 f2
    exact ⟨b, f0, f1, f2, r2⟩
end
end Go.Proofs.Ytodgohilfbggjaa
