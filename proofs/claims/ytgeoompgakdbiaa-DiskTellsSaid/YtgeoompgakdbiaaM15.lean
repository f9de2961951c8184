/- Lemmas that the laws of this seat share, 4 texts in one: RefCr, RefCrash, RefOps, RefOps2. No condition of their own. -/
import Derived.Test.YtgeoompgakdbiaaM14
/- The reference: Crash. -/
namespace Go.Proofs.Ytgeoompgakdbiaa
open Go.RowKit Go.Maps
set_option linter.unusedSimpArgs false
set_option linter.unusedVariables false
set_option maxRecDepth 100000
theorem and_one (n : Int) : bits .and .i64 n 1 = n % 2 := by
  have h1 : (BitVec.ofInt 64 1).toNat = 2 ^ 1 - 1 := by decide
  have key : (BitVec.ofInt 64 n &&& BitVec.ofInt 64 1).toNat = (n % ((2 ^ 64 : Nat) : Int)).toNat % 2 ^ 1 := by
    rw [BitVec.toNat_and, BitVec.toNat_ofInt, h1, Nat.and_two_pow_sub_one_eq_mod]
  show IntKind.i64.wrap ((BitVec.ofInt 64 n &&& BitVec.ofInt 64 1).toNat : Nat) = n % 2
  rw [key, IntKind.wrap_i64]
  omega
theorem odd_one (v : Int) : oddB v = (bits .and .i64 v 1 == 1) := by
  unfold oddB
  rw [and_one]
  rcases (show v % 2 = 0 ∨ v % 2 = 1 by omega) with h | h <;> rw [h] <;> rfl
theorem sur_surv (kl : List Int) (F : Int → FileB) (i : Nat) (p : Sec) : sur kl F i p = if kl.length = 0 then F else if oddB (kl.getD (i % kl.length) 0) = false then F else surv F p := by
  unfold sur surv
  rfl
/-- The files after the crash, as a list. -/
def fallL (L : List FileT) : List FileT := L.map fun x => (x.1, (x.2.2, x.2.2))
theorem getL_fall (L : List FileT) (f : Int) : getL (fallL L) f = ((getL L f).2, (getL L f).2) := by
  induction L with
  | nil => rfl
  | cons x L ih =>
    show (if x.1 = f then (x.2.2, x.2.2) else getL (fallL L) f) = _
    show _ = ((if x.1 = f then x.2 else getL L f).2, (if x.1 = f then x.2 else getL L f).2)
    by_cases h : x.1 = f
    · rw [if_pos h, if_pos h]
    · rw [if_neg h, if_neg h, ih]
theorem Lists.fall {L : List FileT} {F : Int → FileB} (h : Lists L F) : Lists (fallL L) (fallF F) := by
  refine ⟨fun f => ?_, ?_, fun x hx => ?_⟩
  · rw [getL_fall, h.get]
    rfl
  · have : (fallL L).map Prod.fst = L.map Prod.fst := by
      unfold fallL
      rw [List.map_map]
      rfl
    rw [this]
    exact h.once
  · obtain ⟨y, hy, rfl⟩ := List.mem_map.1 hx
    exact h.few y hy
theorem fallL_step {L : List FileT} {k : Nat} {p : FileT} (h : L[k]? = some p) : fallL (L.take (k + 1)) = fallL (L.take k) ++ [(p.1, (p.2.2, p.2.2))] := by
  rw [List.take_add_one, h]
  unfold fallL
  rw [List.map_append]
  rfl
theorem fallL_len (L : List FileT) : (fallL L).length = L.length := by unfold fallL; rw [List.length_map]
end Go.Proofs.Ytgeoompgakdbiaa

/- The reference: Crash: the walk. -/
namespace Go.Proofs.Ytgeoompgakdbiaa
open Go.RowKit Go.Maps
set_option linter.unusedSimpArgs false
set_option linter.unusedVariables false
set_option maxRecDepth 100000
attribute [local go_sem ↓] appR_in
theorem RefAt.fallen {w W : World} {b c n : Nat} {M : Mod} {O S : Nat → Prop} {L : List FileT} {fv : Value} {xs : List Value} (h : RefAt w b M O S c) (hx : Exts w W) (hrow : W.ownsRow w.heap.size 65 3 fv n xs) (hn : (fallL L).length = n) (hxs : filesC (fallL L) = xs) (hL : Lists L M.files) : AfterR w b { M with files := fallF M.files, queue := [] } O S c ((W.setCell ⟨b, 0, none⟩ fv).setCell ⟨b, 1, none⟩ (.slice none 0 0)) := by
  have hgd := h.good
  have hA7 := h.files (L' := fallL L) (n := n) hx hrow hn hxs hL.fall ⟨hgd.lost, hgd.armed, hgd.count, hgd.secs, fun f => ⟨(hgd.sizes f).2, (hgd.sizes f).2⟩, hgd.keep, hgd.small⟩
  exact hA7.then (c2 := c) (M2 := { M with files := fallF M.files, queue := [] }) (fun O'' S'' h => h.queues (Q' := []) (Exts.refl _) (qv := .slice none 0 0) (n := 0) (xs := []) ⟨rfl, .inl ⟨rfl, rfl⟩⟩ rfl rfl ⟨hgd.lost, hgd.armed, Nat.zero_le _, fun p hp => (by cases hp), fun f => ⟨(hgd.sizes f).2, (hgd.sizes f).2⟩, hgd.keep, hgd.small⟩)
/-- What the crash has done to the files so far. -/
def crashK (M : Mod) (kl : List Int) (k : Nat) : Mod := { M with files := surK kl M.files M.queue k, down := true, armed := 0 }
set_option maxHeartbeats 4000000
theorem crash36 {w : World} {b c : Nat} {M : Mod} {O S : Nat → Prop} (hd : RefAt w b M O S c) (ko : Option Addr) (kc n : Nat) (kl : List Int) {S1 : Nat → Prop} (hk : RowF S1 1 w (.slice ko n kc) n (intsC kl)) (hn : kl.length = n) (hS1 : ∀ k, S1 k → ¬ O k) : Calls Try.prog 36 #[.pointer (some ⟨b, 0, none⟩), .slice ko n kc] w fun e w' => e = .returned (.tuple #[]) ∧ AfterR w b (crashD M kl) O S c w' := by
  have HD := Lib.hid hd
  cases hdn : M.down with
  | true =>
    have HC := Lib.hid (show crashD M kl = M by unfold crashD; rw [if_pos hdn])
    obtain ⟨fv, qv, kv0, L, hbox, lb, cc, ff, o1, o2, o12, hF, hQ, ⟨ko0, kc0, rfl, hK⟩, hL⟩ := hd.cells
    obtain ⟨fo, fc, rfl⟩ := owns_shape hF
    obtain ⟨qo, qc, rfl⟩ := owns_shape hQ
    have c0 := cc 0
    have c1 := cc 1
    have c3 := cc 3
    have c4 := cc 4
    simp only [boxR, List.getElem?_toArray, List.getElem?_cons_zero, List.getElem?_cons_succ] at c0 c1 c3 c4
    rw [hdn] at c3
    have hm := HD.out.good.small
    clear cc hbox o1 o2 o12 hF hQ hK hL hd hk
    go_enter Try.func36, Try.ntmps36
    go_wp2
    refine bodyPost_ret (results_none rfl _ _ _) rfl ?_
    rw [HC.out]
    exact ⟨rfl, AfterR.same HD.out (Touch.refl _ _)⟩
  | false =>
    obtain ⟨i0, hi0, hz0, hz1, hz2⟩ := info_parts info65
    have hcnt := hd.good.count
    have hsml := hd.good.small
    have HK := Lib.hid hk
    have HN := Lib.hid hn
    obtain ⟨m, hm⟩ : ∃ n, M.queue.length = n := ⟨_, rfl⟩
    rw [hm] at hcnt
    have HM := Lib.hid hm
    have HC := Lib.hid (show crashD M kl = { M with files := fallF (surK kl M.files M.queue m), queue := [], down := true, armed := 0 } by unfold crashD; rw [if_neg (by rw [hdn]; decide), hm])
    obtain ⟨fv, qv, kv0, L, hbox, lb, cc, ff, o1, o2, o12, hF, hQ, ⟨ko0, kc0, rfl, hK⟩, hL⟩ := hd.cells
    obtain ⟨fo, fc, rfl⟩ := owns_shape hF
    obtain ⟨qo, qc, rfl⟩ := owns_shape hQ
    have c0 := cc 0
    have c1 := cc 1
    have c3 := cc 3
    have c4 := cc 4
    simp only [boxR, List.getElem?_toArray, List.getElem?_cons_zero, List.getElem?_cons_succ] at c0 c1 c3 c4
    rw [hdn] at c3
    have f3 := ff 3
    have f4 := ff 4
    clear cc ff hbox o1 o2 o12 hF hQ hK hL hd hk hn hm
    go_enter Try.func36, Try.ntmps36
    go_wp2
    have hT : Touch (fun k => k = b) w ((w.setCell ⟨b, 3, none⟩ (.bool true)).setCell ⟨b, 4, none⟩ (.int .i64 0)) := (Touch.setCell (O := fun k => k = b) _ _ _ rfl).then (Touch.setCell (O := fun k => k = b) _ _ _ rfl)
    have h1 : RefAt ((w.setCell ⟨b, 3, none⟩ (.bool true)).setCell ⟨b, 4, none⟩ (.int .i64 0)) b (crashK M kl 0) O S c := RefAt.box HD.out rfl rfl rfl ⟨HD.out.good.lost, ⟨Int.le_refl 0, (by decide : (0 : Int) ≤ 9223372036854775807)⟩, HD.out.good.count, HD.out.good.secs, HD.out.good.sizes, HD.out.good.keep, HD.out.good.small⟩ (fun fv qv kv hb => by
      rw [heap_setCell_at _ _ _ _ (heap_setCell_at _ _ _ _ hb)]
      rfl) hT
    have HA1 := Lib.hid (AfterR.same h1 (hT.mono fun k hk => hk ▸ HD.out.own))
    clear h1 hT c0 c1 c3 c4 f3 f4
    have HK2 := Lib.hid (show RowF S1 1 w (.slice ko n kc) kl.length (intsC kl) by rw [HN.out]; exact HK.out)
    go_loopw [4] (fun si wr => ∃ k : Nat, si = .int .i64 k ∧ k ≤ m ∧ (n = 0 → k = 0) ∧ AfterR w b (crashK M kl k) O S c wr) (fun si _ => m - (intOf si).toNat)
    case atStart => exact ⟨0, rfl, Nat.zero_le _, fun _ => rfl, HA1.out⟩
    case round =>
      obtain ⟨k, rfl, hk, hk0, hA⟩ := hrel
      have HA := Lib.hid hA
      obtain ⟨O', S', hr, ho, hs', ht⟩ := hA
      have HRR := Lib.hid hr
      have HO := Lib.hid ho
      have HS := Lib.hid hs'
      have HT := Lib.hid ht
      obtain ⟨fv, qv, kv0, L, hbox, lb', cc, ff, o1, o2, o12, hF, hQ, hK2, hL⟩ := hr.cells
      obtain ⟨fo, fc, rfl⟩ := owns_shape hF
      obtain ⟨qo, qc, rfl⟩ := owns_shape hQ
      have c0 := cc 0
      have c1 := cc 1
      simp only [boxR, List.getElem?_toArray, List.getElem?_cons_zero, List.getElem?_cons_succ] at c0 c1
      have hQm : (crashK M kl k).queue = M.queue := rfl
      rw [hQm, HM.out] at c1
      have HQR := Lib.hid (show RowF (fun b => 0 ≤ b) 2 wr (.slice qo m qc) m (secsC M.queue) by have := RowF.of_owns hQ; rwa [hQm, HM.out] at this)
      clear hr ho hs' ht cc hbox o1 o2 o12 hF hQ hK2 hQm
      by_cases hn0 : n = 0
      · have hkz := hk0 hn0
        have y0 : decide (0 < n) = false := by simp; omega
        have HE := Lib.hid (show (crashK M kl k).files = surK kl M.files M.queue m by
          have hnil : kl = [] := List.eq_nil_of_length_eq_zero (by rw [HN.out]; exact hn0)
          rw [hkz]
          subst hnil
          exact (surK_nil _ _ m).symm)
        clear hk0 hkz hn0
        by_cases hm0 : k < m
        · have y1 : decide (k < m) = true := by simpa using hm0
          clear hm0
          go_wp2
          clear c0 c1 HQR HA
          obtain ⟨w1, rfl⟩ : ∃ w1, w1 = wr := ⟨_, rfl⟩
          obtain ⟨fv, qv, kv0, L, hbox, lb2, cc, ff2, o1, o2, o12, hF, hQ, hK2, hL⟩ := HRR.out.cells
          obtain ⟨fo, fc, rfl⟩ := owns_shape hF
          have c0 := cc 0
          have c1 := cc 1
          simp only [boxR, List.getElem?_toArray, List.getElem?_cons_zero, List.getElem?_cons_succ] at c0 c1
          have hlen := hL.len
          obtain ⟨q, hq⟩ : ∃ q, L.length = q := ⟨_, rfl⟩
          rw [hq] at c0 hF hlen
          have HF := Lib.hid (RowF.of_owns hF)
          have HL := Lib.hid hL
          have HQ := Lib.hid hq
          have f20 := ff2 0
          have f21 := ff2 1
          clear cc ff2 hbox o1 o2 o12 hF hQ hK2 hL hq
          go_loopw [5, 6] (fun so si wr => ∃ (i : Nat) (oo : Option Addr) (oc : Nat), so = .slice oo i oc ∧ si = .int .i64 i ∧ i ≤ q ∧ Exts w1 wr ∧ wr.ownsRow w1.heap.size 65 3 so i (filesC (fallL (L.take i)))) (fun _ si _ => q - (intOf si).toNat)
          case atStart => exact ⟨0, none, 0, rfl, rfl, Nat.zero_le _, Exts.refl _, ⟨rfl, .inl ⟨rfl, rfl⟩⟩⟩
          case round =>
            obtain ⟨i, oo, oc, rfl, rfl, hi, hx, hown⟩ := hrel
            have hsz2 := hx.below.size
            have d0 := Exts.cell hx c0
            have d1 := Exts.cell hx c1
            have fr0 : wr.frozen? ⟨b, 0, none⟩ = false := (World.frozen?_of_block (hx.below.block b lb2)).trans f20
            have fr1 : wr.frozen? ⟨b, 1, none⟩ = false := (World.frozen?_of_block (hx.below.block b lb2)).trans f21
            have lbw : b < wr.heap.size := World.block_lt_of_cell? wr _ d0
            have HX := Lib.hid hx
            have HOW := Lib.hid hown
            clear hx hown
            by_cases hiq : i < q
            · obtain ⟨p, hp⟩ : ∃ p, L[i]? = some p := ⟨_, List.getElem?_eq_getElem (by rw [HQ.out]; exact hiq)⟩
              obtain ⟨g, off, rfl, _, lg, e0, e1, e2⟩ := files_at HF.out HQ.out hp
              have g0 := Exts.cell HX.out e0
              have g1 := Exts.cell HX.out e1
              have g2 := Exts.cell HX.out e2
              have lg' : g < wr.heap.size := World.block_lt_of_cell? wr _ g0
              have HST := Lib.hid (fallL_step hp)
              have HFL := Lib.hid (show (fallL (L.take i)).length = i by rw [fallL_len, List.length_take, HQ.out]; omega)
              obtain ⟨pn, pa, pb⟩ := p
              simp only at g0 g1 g2
              clear hp e0 e1 e2 lg
              go_wp2
              obtain ⟨g', cg, w9, h9, hown9, hgrow9, hat9, hlt9⟩ := run_append_lies (P := Try.prog) (wr.drew.alloc (.cells #[.int .i64 pn, .string pb, .string pb] 65)) 57 57 w1.heap.size 65 i0 _ 3 40 Try.underlying57 hi0 hz0 hz1 hz2 rfl (by decide) (.slice oo i oc) i (filesC (fallL (L.take i))) (ownsRow_exts HOW.out (by repeat (first | exact Exts.refl _ | apply Exts.andR | apply Exts.alloc | apply Exts.wext | apply Exts.drew | apply Exts.drewN))) ⟨wr.heap.size, 0, none⟩ 1 1 [.int .i64 pn, .string pb, .string pb] rfl (by intro t u hj; match t, hj with | 0, hj => (simp at hj; subst hj; simp [go_sem]) | 1, hj => (simp at hj; subst hj; simp [go_sem]) | 2, hj => (simp at hj; subst hj; simp [go_sem]) | t + 3, hj => (simp at hj)) (by intro u hu; simp at hu; rcases hu with rfl | rfl <;> rfl) (by decide) (by unfold maxLen; omega) (by omega) (by simp; omega) _ rfl
              have h9' : (appR #[57, 57] 57 #[.slice oo i oc, .slice (some ⟨wr.heap.size, 0, none⟩) 1 1]).run Try.prog (wr.alloc (.cells #[.int .i64 pn, .string pb, .string pb] 65)).drew = .ok (.slice (some ⟨g', 0, none⟩) (i + 1) cg) w9 := h9
              have HX9 := Lib.hid (exts_of_grown (HX.out.trans (by repeat (first | exact Exts.refl _ | apply Exts.andR | apply Exts.alloc | apply Exts.wext | apply Exts.drew | apply Exts.drewN))) hgrow9 (fun b hb => (HOW.out.lt b hb).1))
              have HO9 := Lib.hid hown9
              clear h9 hown9 hgrow9 hat9
              go_region
              all_goals
                (try go_frame)
                go_wp2
                exact ⟨⟨i + 1, _, cg, rfl, by go_num, by omega, HX9.out, by rw [HST.out, filesC_snoc]; exact HO9.out⟩, by simp [intOf]; omega⟩
            · obtain rfl : i = q := by omega
              have e1 : L.take i = L := List.take_of_length_le (by rw [HQ.out]; exact Nat.le_refl _)
              have HE1 := Lib.hid e1
              clear e1
              go_wp2
              go_end0
              have hA8 := HRR.out.fallen HX.out HOW.out (by rw [fallL_len, HQ.out]) (by rw [HE1.out]) HL.out
              have hA9 := AfterR.next HO.out HS.out HT.out hA8
              rw [HE.out] at hA9
              rw [HC.out]
              exact ⟨rfl, hA9⟩
        · have y1 : decide (k < m) = false := by simpa using hm0
          clear hm0
          go_wp2
          clear c0 c1 HQR HA
          obtain ⟨w1, rfl⟩ : ∃ w1, w1 = wr := ⟨_, rfl⟩
          obtain ⟨fv, qv, kv0, L, hbox, lb2, cc, ff2, o1, o2, o12, hF, hQ, hK2, hL⟩ := HRR.out.cells
          obtain ⟨fo, fc, rfl⟩ := owns_shape hF
          have c0 := cc 0
          have c1 := cc 1
          simp only [boxR, List.getElem?_toArray, List.getElem?_cons_zero, List.getElem?_cons_succ] at c0 c1
          have hlen := hL.len
          obtain ⟨q, hq⟩ : ∃ q, L.length = q := ⟨_, rfl⟩
          rw [hq] at c0 hF hlen
          have HF := Lib.hid (RowF.of_owns hF)
          have HL := Lib.hid hL
          have HQ := Lib.hid hq
          have f20 := ff2 0
          have f21 := ff2 1
          clear cc ff2 hbox o1 o2 o12 hF hQ hK2 hL hq
          go_loopw [5, 6] (fun so si wr => ∃ (i : Nat) (oo : Option Addr) (oc : Nat), so = .slice oo i oc ∧ si = .int .i64 i ∧ i ≤ q ∧ Exts w1 wr ∧ wr.ownsRow w1.heap.size 65 3 so i (filesC (fallL (L.take i)))) (fun _ si _ => q - (intOf si).toNat)
          case atStart => exact ⟨0, none, 0, rfl, rfl, Nat.zero_le _, Exts.refl _, ⟨rfl, .inl ⟨rfl, rfl⟩⟩⟩
          case round =>
            obtain ⟨i, oo, oc, rfl, rfl, hi, hx, hown⟩ := hrel
            have hsz2 := hx.below.size
            have d0 := Exts.cell hx c0
            have d1 := Exts.cell hx c1
            have fr0 : wr.frozen? ⟨b, 0, none⟩ = false := (World.frozen?_of_block (hx.below.block b lb2)).trans f20
            have fr1 : wr.frozen? ⟨b, 1, none⟩ = false := (World.frozen?_of_block (hx.below.block b lb2)).trans f21
            have lbw : b < wr.heap.size := World.block_lt_of_cell? wr _ d0
            have HX := Lib.hid hx
            have HOW := Lib.hid hown
            clear hx hown
            by_cases hiq : i < q
            · obtain ⟨p, hp⟩ : ∃ p, L[i]? = some p := ⟨_, List.getElem?_eq_getElem (by rw [HQ.out]; exact hiq)⟩
              obtain ⟨g, off, rfl, _, lg, e0, e1, e2⟩ := files_at HF.out HQ.out hp
              have g0 := Exts.cell HX.out e0
              have g1 := Exts.cell HX.out e1
              have g2 := Exts.cell HX.out e2
              have lg' : g < wr.heap.size := World.block_lt_of_cell? wr _ g0
              have HST := Lib.hid (fallL_step hp)
              have HFL := Lib.hid (show (fallL (L.take i)).length = i by rw [fallL_len, List.length_take, HQ.out]; omega)
              obtain ⟨pn, pa, pb⟩ := p
              simp only at g0 g1 g2
              clear hp e0 e1 e2 lg
              go_wp2
              obtain ⟨g', cg, w9, h9, hown9, hgrow9, hat9, hlt9⟩ := run_append_lies (P := Try.prog) (wr.drew.alloc (.cells #[.int .i64 pn, .string pb, .string pb] 65)) 57 57 w1.heap.size 65 i0 _ 3 40 Try.underlying57 hi0 hz0 hz1 hz2 rfl (by decide) (.slice oo i oc) i (filesC (fallL (L.take i))) (ownsRow_exts HOW.out (by repeat (first | exact Exts.refl _ | apply Exts.andR | apply Exts.alloc | apply Exts.wext | apply Exts.drew | apply Exts.drewN))) ⟨wr.heap.size, 0, none⟩ 1 1 [.int .i64 pn, .string pb, .string pb] rfl (by intro t u hj; match t, hj with | 0, hj => (simp at hj; subst hj; simp [go_sem]) | 1, hj => (simp at hj; subst hj; simp [go_sem]) | 2, hj => (simp at hj; subst hj; simp [go_sem]) | t + 3, hj => (simp at hj)) (by intro u hu; simp at hu; rcases hu with rfl | rfl <;> rfl) (by decide) (by unfold maxLen; omega) (by omega) (by simp; omega) _ rfl
              have h9' : (appR #[57, 57] 57 #[.slice oo i oc, .slice (some ⟨wr.heap.size, 0, none⟩) 1 1]).run Try.prog (wr.alloc (.cells #[.int .i64 pn, .string pb, .string pb] 65)).drew = .ok (.slice (some ⟨g', 0, none⟩) (i + 1) cg) w9 := h9
              have HX9 := Lib.hid (exts_of_grown (HX.out.trans (by repeat (first | exact Exts.refl _ | apply Exts.andR | apply Exts.alloc | apply Exts.wext | apply Exts.drew | apply Exts.drewN))) hgrow9 (fun b hb => (HOW.out.lt b hb).1))
              have HO9 := Lib.hid hown9
              clear h9 hown9 hgrow9 hat9
              go_region
              all_goals
                (try go_frame)
                go_wp2
                exact ⟨⟨i + 1, _, cg, rfl, by go_num, by omega, HX9.out, by rw [HST.out, filesC_snoc]; exact HO9.out⟩, by simp [intOf]; omega⟩
            · obtain rfl : i = q := by omega
              have e1 : L.take i = L := List.take_of_length_le (by rw [HQ.out]; exact Nat.le_refl _)
              have HE1 := Lib.hid e1
              clear e1
              go_wp2
              go_end0
              have hA8 := HRR.out.fallen HX.out HOW.out (by rw [fallL_len, HQ.out]) (by rw [HE1.out]) HL.out
              have hA9 := AfterR.next HO.out HS.out HT.out hA8
              rw [HE.out] at hA9
              rw [HC.out]
              exact ⟨rfl, hA9⟩
      · have y0 : decide (0 < n) = true := by simp; omega
        by_cases hlt : k < m
        · have y1 : decide (k < m) = true := by simpa using hlt
          obtain ⟨p, hp⟩ : ∃ p, M.queue[k]? = some p := ⟨_, List.getElem?_eq_getElem (by rw [HM.out]; exact hlt)⟩
          obtain ⟨g, off, rfl, _, lg, e0, e1⟩ := secs_at HQR.out HM.out hp
          have hsec := HD.out.good.secs p (List.mem_of_getElem? hp)
          have hst := surK_step (kl := kl) (F := M.files) hp
          obtain ⟨pf, pi⟩ := p
          simp only at e0 e1 hsec
          obtain ⟨hp0, hp15, hpn0, hpn⟩ := hsec
          obtain ⟨pn, rfl⟩ := Int.eq_ofNat_of_zero_le hpn0
          obtain ⟨J, hJ⟩ : ∃ J, k % n = J := ⟨_, rfl⟩
          have hJn : J < n := by rw [← hJ]; exact Nat.mod_lt _ (by omega)
          have hJi : ((k : Nat) : Int) % ((n : Nat) : Int) = (J : Int) := by omega
          obtain ⟨v, hv⟩ : ∃ v, kl.getD J 0 = v := ⟨_, rfl⟩
          obtain ⟨kb, ko', rfl, hkS, lkb, ckv⟩ := HK2.out.at (k := J) (by rw [HN.out]; exact hJn) hv
          have ckr := HT.out.cell (hS1 kb hkS) ckv
          have lkr : kb < wr.heap.size := World.block_lt_of_cell? wr _ ckr
          have hvv : kl.getD (k % kl.length) 0 = v := by rw [HN.out, hJ, hv]
          rw [sur_surv, if_neg (by rw [HN.out]; exact hn0), hvv, odd_one] at hst
          have hsv := survive52 HRR.out pf pn hp0 hp15 (by omega)
          by_cases z1 : bits BinOp.and IntKind.i64 v 1 = 1
          · have y2 : (bits BinOp.and IntKind.i64 v 1 == 1) = true := by simpa using z1
            have HST := Lib.hid (show crashK M kl (k + 1) = { crashK M kl k with files := surv (crashK M kl k).files (pf, (pn : Int)) } by
              unfold crashK
              rw [hst, if_neg (by rw [y2]; decide)])
            clear hst hvv hv hJ hp z1 ckv
            go_wp2_with (first | (go_at_call 52; ((with_reducible refine hsv.mono ?_); rintro e w5 ⟨rfl, hA5⟩)))
            exact ⟨⟨k + 1, by go_num, by omega, fun h => absurd h hn0, by rw [HST.out]; exact AfterR.next HO.out HS.out HT.out hA5⟩, by simp [intOf]; omega⟩
          · have y2 : (bits BinOp.and IntKind.i64 v 1 == 1) = false := by simpa using z1
            have HST := Lib.hid (show crashK M kl (k + 1) = crashK M kl k by
              unfold crashK
              rw [hst, if_pos (by rw [y2])])
            clear hst hvv hv hJ hp z1 ckv
            go_wp2
            exact ⟨⟨k + 1, by go_num, by omega, fun h => absurd h hn0, by rw [HST.out]; exact HA.out⟩, by simp [intOf]; omega⟩
        · have y1 : decide (k < m) = false := by simpa using hlt
          obtain rfl : k = m := by omega
          have HE := Lib.hid (show (crashK M kl k).files = surK kl M.files M.queue k from rfl)
          go_wp2
          clear c0 c1 HQR HA
          obtain ⟨w1, rfl⟩ : ∃ w1, w1 = wr := ⟨_, rfl⟩
          obtain ⟨fv, qv, kv0, L, hbox, lb2, cc, ff2, o1, o2, o12, hF, hQ, hK2, hL⟩ := HRR.out.cells
          obtain ⟨fo, fc, rfl⟩ := owns_shape hF
          have c0 := cc 0
          have c1 := cc 1
          simp only [boxR, List.getElem?_toArray, List.getElem?_cons_zero, List.getElem?_cons_succ] at c0 c1
          have hlen := hL.len
          obtain ⟨q, hq⟩ : ∃ q, L.length = q := ⟨_, rfl⟩
          rw [hq] at c0 hF hlen
          have HF := Lib.hid (RowF.of_owns hF)
          have HL := Lib.hid hL
          have HQ := Lib.hid hq
          have f20 := ff2 0
          have f21 := ff2 1
          clear cc ff2 hbox o1 o2 o12 hF hQ hK2 hL hq
          go_loopw [5, 6] (fun so si wr => ∃ (i : Nat) (oo : Option Addr) (oc : Nat), so = .slice oo i oc ∧ si = .int .i64 i ∧ i ≤ q ∧ Exts w1 wr ∧ wr.ownsRow w1.heap.size 65 3 so i (filesC (fallL (L.take i)))) (fun _ si _ => q - (intOf si).toNat)
          case atStart => exact ⟨0, none, 0, rfl, rfl, Nat.zero_le _, Exts.refl _, ⟨rfl, .inl ⟨rfl, rfl⟩⟩⟩
          case round =>
            obtain ⟨i, oo, oc, rfl, rfl, hi, hx, hown⟩ := hrel
            have hsz2 := hx.below.size
            have d0 := Exts.cell hx c0
            have d1 := Exts.cell hx c1
            have fr0 : wr.frozen? ⟨b, 0, none⟩ = false := (World.frozen?_of_block (hx.below.block b lb2)).trans f20
            have fr1 : wr.frozen? ⟨b, 1, none⟩ = false := (World.frozen?_of_block (hx.below.block b lb2)).trans f21
            have lbw : b < wr.heap.size := World.block_lt_of_cell? wr _ d0
            have HX := Lib.hid hx
            have HOW := Lib.hid hown
            clear hx hown
            by_cases hiq : i < q
            · obtain ⟨p, hp⟩ : ∃ p, L[i]? = some p := ⟨_, List.getElem?_eq_getElem (by rw [HQ.out]; exact hiq)⟩
              obtain ⟨g, off, rfl, _, lg, e0, e1, e2⟩ := files_at HF.out HQ.out hp
              have g0 := Exts.cell HX.out e0
              have g1 := Exts.cell HX.out e1
              have g2 := Exts.cell HX.out e2
              have lg' : g < wr.heap.size := World.block_lt_of_cell? wr _ g0
              have HST := Lib.hid (fallL_step hp)
              have HFL := Lib.hid (show (fallL (L.take i)).length = i by rw [fallL_len, List.length_take, HQ.out]; omega)
              obtain ⟨pn, pa, pb⟩ := p
              simp only at g0 g1 g2
              clear hp e0 e1 e2 lg
              go_wp2
              obtain ⟨g', cg, w9, h9, hown9, hgrow9, hat9, hlt9⟩ := run_append_lies (P := Try.prog) (wr.drew.alloc (.cells #[.int .i64 pn, .string pb, .string pb] 65)) 57 57 w1.heap.size 65 i0 _ 3 40 Try.underlying57 hi0 hz0 hz1 hz2 rfl (by decide) (.slice oo i oc) i (filesC (fallL (L.take i))) (ownsRow_exts HOW.out (by repeat (first | exact Exts.refl _ | apply Exts.andR | apply Exts.alloc | apply Exts.wext | apply Exts.drew | apply Exts.drewN))) ⟨wr.heap.size, 0, none⟩ 1 1 [.int .i64 pn, .string pb, .string pb] rfl (by intro t u hj; match t, hj with | 0, hj => (simp at hj; subst hj; simp [go_sem]) | 1, hj => (simp at hj; subst hj; simp [go_sem]) | 2, hj => (simp at hj; subst hj; simp [go_sem]) | t + 3, hj => (simp at hj)) (by intro u hu; simp at hu; rcases hu with rfl | rfl <;> rfl) (by decide) (by unfold maxLen; omega) (by omega) (by simp; omega) _ rfl
              have h9' : (appR #[57, 57] 57 #[.slice oo i oc, .slice (some ⟨wr.heap.size, 0, none⟩) 1 1]).run Try.prog (wr.alloc (.cells #[.int .i64 pn, .string pb, .string pb] 65)).drew = .ok (.slice (some ⟨g', 0, none⟩) (i + 1) cg) w9 := h9
              have HX9 := Lib.hid (exts_of_grown (HX.out.trans (by repeat (first | exact Exts.refl _ | apply Exts.andR | apply Exts.alloc | apply Exts.wext | apply Exts.drew | apply Exts.drewN))) hgrow9 (fun b hb => (HOW.out.lt b hb).1))
              have HO9 := Lib.hid hown9
              clear h9 hown9 hgrow9 hat9
              go_region
              all_goals
                (try go_frame)
                go_wp2
                exact ⟨⟨i + 1, _, cg, rfl, by go_num, by omega, HX9.out, by rw [HST.out, filesC_snoc]; exact HO9.out⟩, by simp [intOf]; omega⟩
            · obtain rfl : i = q := by omega
              have e1 : L.take i = L := List.take_of_length_le (by rw [HQ.out]; exact Nat.le_refl _)
              have HE1 := Lib.hid e1
              clear e1
              go_wp2
              go_end0
              have hA8 := HRR.out.fallen HX.out HOW.out (by rw [fallL_len, HQ.out]) (by rw [HE1.out]) HL.out
              have hA9 := AfterR.next HO.out HS.out HT.out hA8
              rw [HE.out] at hA9
              rw [HC.out]
              exact ⟨rfl, hA9⟩
end Go.Proofs.Ytgeoompgakdbiaa

/- The reference: comes, Write, Sync, Truncate. -/
namespace Go.Proofs.Ytgeoompgakdbiaa
open Go.RowKit Go.Maps
set_option linter.unusedSimpArgs false
set_option linter.unusedVariables false
set_option maxRecDepth 100000
/-- The write that comes ahead of a scheduled crash. -/
def tryM (M : Mod) (f at' : Int) (s : ByteArray) : Mod := if decide (0 ≤ f) && (decide (f ≤ 15) && fitsB at' s.size) then addM M f at'.toNat s else M
def comesW (M : Mod) (f at' : Int) (s : ByteArray) : Mod := if endsB M = true then crashD (tryM (countM M) f at' s) M.keep else countM M
theorem add_keep (M : Mod) (f : Int) (a : Nat) (s : ByteArray) : (addM M f a s).keep = M.keep := by unfold addM; split <;> rfl
theorem try_keep (M : Mod) (f at' : Int) (s : ByteArray) : (tryM M f at' s).keep = M.keep := by unfold tryM; split <;> first | rfl | exact add_keep ..
theorem fits_iff {a : Int} {n : Nat} (h : 0 ≤ a) : fitsB a n = true ↔ ¬ (16777216 < a ∨ 16777216 - a < (n : Int)) := by
  unfold fitsB
  simp
  omega
theorem write_add (M : Mod) (f at' : Int) (s : ByteArray) : writeD M f at' s = if mayD M f = 0 then (if at' < 0 then (M, 1) else if fitsB at' s.size = false then (M, 6) else (addM M f at'.toNat s, 0)) else (M, mayD M f) := by
  unfold writeD
  by_cases h0 : mayD M f = 0
  · rw [if_pos h0, if_pos h0]
    by_cases h1 : at' < 0
    · rw [if_pos h1, if_pos h1]
    · rw [if_neg h1, if_neg h1]
      cases hf : fitsB at' s.size with
      | true =>
        rw [if_neg ((fits_iff (by omega)).1 hf)]
        unfold addM
        by_cases h2 : s.size = 0
        · rw [if_pos h2, if_pos h2]
          rfl
        · rw [if_neg h2, if_neg h2]
          rfl
      | false =>
        have : 16777216 < at' ∨ 16777216 - at' < (s.size : Int) := by
          by_cases h : 16777216 < at' ∨ 16777216 - at' < (s.size : Int)
          · exact h
          · have := (fits_iff (n := s.size) (show 0 ≤ at' by omega)).2 h
            rw [hf] at this
            cases this
        rw [if_pos this, if_pos rfl]
  · rw [if_neg h0, if_neg h0]
theorem ends_up {M : Mod} (h : endsB M = true) : M.down = false := by
  unfold endsB at h
  simp at h
  exact h.1
theorem try_write {M : Mod} (h : M.down = false) (f at' : Int) (s : ByteArray) : tryM M f at' s = (writeD M f at' s).1 := by
  rw [write_add]
  unfold tryM
  by_cases hf : 0 ≤ f ∧ f ≤ 15
  · have hm : mayD M f = 0 := may_up h hf.1 hf.2
    rw [if_pos hm]
    have y1 : decide (0 ≤ f) = true := by simpa using hf.1
    have y2 : decide (f ≤ 15) = true := by simpa using hf.2
    rw [y1, y2, Bool.true_and, Bool.true_and]
    by_cases h1 : at' < 0
    · have : fitsB at' s.size = false := by
        unfold fitsB
        have : decide (0 ≤ at') = false := by simp; omega
        rw [this]
        rfl
      rw [if_pos h1, this, if_neg (by decide)]
    · rw [if_neg h1]
      cases hfb : fitsB at' s.size <;> simp
  · have hm : mayD M f ≠ 0 := by
      unfold mayD
      rw [if_neg (by rw [h]; decide), if_pos (by omega)]
      decide
    rw [if_neg hm, if_neg]
    simp
    omega
theorem comes_write (M : Mod) (f at' : Int) (s : ByteArray) : WriteD M f at' s = if endsB M = true then (comesW M f at' s, 8) else writeD (comesW M f at' s) f at' s := by
  unfold WriteD comesW
  cases he : endsB M with
  | true =>
    rw [if_pos rfl, if_pos rfl, if_pos rfl]
    have hd : (countM M).down = false := by rw [count_down]; exact ends_up he
    rw [← try_write hd, try_keep, count_keep]
  | false => rw [if_neg (by decide), if_neg (by decide), if_neg (by decide)]
theorem comes_nothing (M : Mod) : comesW M 0 0 ⟨#[]⟩ = comesD M := by
  unfold comesW comesD
  have : tryM (countM M) 0 0 ⟨#[]⟩ = countM M := by
    unfold tryM addM
    split
    · rfl
    · rfl
  rw [this, count_keep]
theorem comes_down {M : Mod} (h : endsB M = true) (f at' : Int) (s : ByteArray) : (comesW M f at' s).down = true := by
  unfold comesW
  rw [if_pos h]
  exact crash_down _
theorem RefAt.keeping {w : World} {b c : Nat} {M : Mod} {O S : Nat → Prop} (h : RefAt w b M O S c) : ∃ ko kc, w.cell? ⟨b, 5, none⟩ = some (.slice ko M.keep.length kc) ∧ RowF S 1 w (.slice ko M.keep.length kc) M.keep.length (intsC M.keep) := by
  obtain ⟨fv, qv, kv, L, hb, o1, o2, hF, hQ, ⟨ko, kc, rfl, hK⟩, hL⟩ := h.ex
  exact ⟨ko, kc, by simp [World.cell?, hb, boxR], hK⟩
theorem add54_R {w : World} {b c : Nat} {M M' : Mod} {O S : Nat → Prop} (hd : RefAt w b M O S c) (f at' : Int) (s : ByteArray) (h0 : 0 ≤ f) (h15 : f ≤ 15) (hs : s.size ≤ 300) (hf : fitsB at' s.size = true) (hc : c + 6 ≤ 1000000) (hr : addM M f at'.toNat s = M') : Calls Try.prog 54 #[.pointer (some ⟨b, 0, none⟩), .int .i64 f, .int .i64 at', .string s] w fun e w' => e = .returned (.tuple #[]) ∧ AfterR w b M' O S (c + 6) w' := by
  subst hr
  unfold fitsB at hf
  simp at hf
  have := add54 hd f at'.toNat s h0 h15 hs (by omega) hc
  rwa [Int.toNat_of_nonneg hf.1] at this
set_option maxHeartbeats 2000000
theorem comes50 {w : World} {b c : Nat} {M : Mod} {O S : Nat → Prop} (hd : RefAt w b M O S c) (f at' : Int) (s : ByteArray) (ha : I64 at') (hs : s.size ≤ 300) (hc : c + 6 ≤ 1000000) : Calls Try.prog 50 #[.pointer (some ⟨b, 0, none⟩), .int .i64 f, .int .i64 at', .string s] w fun e w' => e = .returned (.tuple #[]) ∧ AfterR w b (comesW M f at' s) O S (c + 6) w' := by
  have HD := Lib.hid hd
  obtain ⟨ha1, ha2⟩ := hd.good.armed
  have HSAME := Lib.hid ((AfterR.same hd (Touch.refl O w)).more (c' := c + 6) (by omega) hc)
  obtain ⟨fv, qv, kv0, L, hbox, lb, cc, ff, o1, o2, o12, hF, hQ, ⟨ko0, kc0, rfl, hK⟩, hL⟩ := hd.cells
  have c3 := cc 3
  have c4 := cc 4
  simp only [boxR, List.getElem?_toArray, List.getElem?_cons_zero, List.getElem?_cons_succ] at c3 c4
  have f4 := ff 4
  clear cc ff hbox o1 o2 o12 hF hQ hK hL
  clear hd
  cases hdn : M.down with
  | true =>
    have HC := Lib.hid (show comesW M f at' s = M by unfold comesW endsB countM; rw [hdn]; rfl)
    rw [hdn] at c3
    go_enter Try.func50, Try.ntmps50
    go_wp2
    refine bodyPost_ret (results_none rfl _ _ _) rfl ?_
    rw [HC.out]
    exact ⟨rfl, HSAME.out⟩
  | false =>
    rw [hdn] at c3
    obtain ⟨a, haa⟩ : ∃ a, M.armed = a := ⟨_, rfl⟩
    rw [haa] at c4 ha1 ha2
    by_cases h0 : a = 0
    · subst h0
      have HC := Lib.hid (show comesW M f at' s = M by unfold comesW; rw [ends_zero haa, count_zero haa]; rfl)
      go_enter Try.func50, Try.ntmps50
      go_wp2
      refine bodyPost_ret (results_none rfl _ _ _) rfl ?_
      rw [HC.out]
      exact ⟨rfl, HSAME.out⟩
    · have q1 : (a == 0) = false := by simpa using h0
      have hw : IntKind.i64.wrap (a - 1) = a - 1 := by rw [IntKind.wrap_i64] <;> omega
      have hcm : countM M = { M with armed := a - 1 } := count_more hdn haa (by omega)
      have h1 : RefAt (w.setCell ⟨b, 4, none⟩ (.int .i64 (a - 1))) b (countM M) O S c := by
        rw [hcm]
        exact RefAt.box HD.out rfl rfl rfl ⟨HD.out.good.lost, ⟨by simp only []; omega, by simp only []; omega⟩, HD.out.good.count, HD.out.good.secs, HD.out.good.sizes, HD.out.good.keep, HD.out.good.small⟩ (fun fv qv kv hb => by rw [heap_setCell_at _ _ _ _ hb]; rfl) (Touch.setCell _ _ _ rfl)
      have hT : Touch O w (w.setCell ⟨b, 4, none⟩ (.int .i64 (a - 1))) := Touch.setCell _ _ _ HD.out.own
      have H1 := Lib.hid h1
      have HT := Lib.hid hT
      clear h1 hT hcm
      by_cases h2 : 0 < a - 1
      · have q2 : decide (0 < a - 1) = true := by simpa using h2
        have q2' : decide (1 < a) = true := by simp; omega
        have HC := Lib.hid (show comesW M f at' s = countM M by unfold comesW; rw [ends_more haa (by omega)]; rfl)
        clear h2 haa hdn h0
        go_enter Try.func50, Try.ntmps50
        go_wp2
        refine bodyPost_ret (results_none rfl _ _ _) rfl ?_
        rw [HC.out]
        exact ⟨rfl, AfterR.ahead HT.out ((AfterR.same H1.out (Touch.refl _ _)).more (by omega) hc)⟩
      · have q2 : decide (0 < a - 1) = false := by simpa using h2
        have q2' : decide (1 < a) = false := by simp; omega
        have he : endsB M = true := ends_one hdn (by omega)
        have HC := Lib.hid (show comesW M f at' s = crashD (tryM (countM M) f at' s) M.keep by unfold comesW; rw [if_pos he])
        have HFT := Lib.hid (fun w => fits53 w at' s ha hs)
        by_cases hf0 : 0 ≤ f
        · have q3 : decide (0 ≤ f) = true := by simpa using hf0
          by_cases hf15 : f ≤ 15
          · have q4 : decide (f ≤ 15) = true := by simpa using hf15
            obtain ⟨r, hfr⟩ : ∃ r, fitsB at' s.size = r := ⟨_, rfl⟩
            rw [hfr] at HFT
            have htr : tryM (countM M) f at' s = if r = true then addM (countM M) f at'.toNat s else countM M := by
              unfold tryM
              rw [q3, q4, hfr]
              simp
            cases r with
            | true =>
              have HTR := Lib.hid (show addM (countM M) f at'.toNat s = tryM (countM M) f at' s by rw [htr]; rfl)
              have HFR := Lib.hid hfr
              have HKE := Lib.hid (show (tryM (countM M) f at' s).keep = M.keep by rw [try_keep, count_keep])
              clear h2 haa hdn h0 he htr hfr
              go_enter Try.func50, Try.ntmps50
              go_wp2_with (first | (go_at_call 53; ((with_reducible refine Calls.mono (HFT.out _) ?_); rintro e w1 ⟨rfl, rfl⟩)) | (go_at_call 54; ((with_reducible refine (add54_R H1.out f at' s hf0 hf15 hs HFR.out hc HTR.out).mono ?_); rintro e w2 ⟨rfl, ⟨O2, S2, hd2, ho2, hs2, ht2⟩⟩; (obtain ⟨ko, kc, ck, hk⟩ := hd2.keeping); (have lb2 : b < w2.heap.size := World.block_lt_of_cell? w2 _ ck))) | (go_at_call 36; ((with_reducible refine (crash36 hd2 ko kc _ _ hk rfl hd2.apart).mono ?_); rintro e w3 ⟨rfl, hA3⟩)))
              go_end0
              refine ⟨rfl, ?_⟩
              rw [HC.out]
              rw [HKE.out] at hA3
              exact AfterR.ahead HT.out (AfterR.next ho2 hs2 ht2 hA3)
            | false =>
              have HTR := Lib.hid (show tryM (countM M) f at' s = countM M by rw [htr]; rfl)
              have HKE := Lib.hid (show (countM M).keep = M.keep from count_keep M)
              obtain ⟨ko, kc, ck, hk⟩ := H1.out.keeping
              have HKK := Lib.hid hk
              clear h2 haa hdn h0 he htr hfr hk
              go_enter Try.func50, Try.ntmps50
              go_wp2_with (first | (go_at_call 53; ((with_reducible refine Calls.mono (HFT.out _) ?_); rintro e w1 ⟨rfl, rfl⟩)) | (go_at_call 36; ((with_reducible refine (crash36 H1.out ko kc _ _ HKK.out rfl H1.out.apart).mono ?_); rintro e w3 ⟨rfl, hA3⟩)))
              go_end0
              refine ⟨rfl, ?_⟩
              rw [HC.out, HTR.out]
              rw [HKE.out] at hA3
              exact AfterR.ahead HT.out (hA3.more (by omega) hc)
          · have q4 : decide (f ≤ 15) = false := by simpa using hf15
            have HTR := Lib.hid (show tryM (countM M) f at' s = countM M by unfold tryM; rw [q3, q4]; rfl)
            have HKE := Lib.hid (show (countM M).keep = M.keep from count_keep M)
            obtain ⟨ko, kc, ck, hk⟩ := H1.out.keeping
            have HKK := Lib.hid hk
            clear h2 haa hdn h0 he hf0 hf15 hk
            go_enter Try.func50, Try.ntmps50
            go_wp2_with (first | (go_at_call 36; ((with_reducible refine (crash36 H1.out ko kc _ _ HKK.out rfl H1.out.apart).mono ?_); rintro e w3 ⟨rfl, hA3⟩)))
            go_end0
            refine ⟨rfl, ?_⟩
            rw [HC.out, HTR.out]
            rw [HKE.out] at hA3
            exact AfterR.ahead HT.out (hA3.more (by omega) hc)
        · have q3 : decide (0 ≤ f) = false := by simpa using hf0
          have HTR := Lib.hid (show tryM (countM M) f at' s = countM M by unfold tryM; rw [q3]; rfl)
          have HKE := Lib.hid (show (countM M).keep = M.keep from count_keep M)
          obtain ⟨ko, kc, ck, hk⟩ := H1.out.keeping
          have HKK := Lib.hid hk
          clear h2 haa hdn h0 he hf0 hk
          go_enter Try.func50, Try.ntmps50
          go_wp2_with (first | (go_at_call 36; ((with_reducible refine (crash36 H1.out ko kc _ _ HKK.out rfl H1.out.apart).mono ?_); rintro e w3 ⟨rfl, hA3⟩)))
          go_end0
          refine ⟨rfl, ?_⟩
          rw [HC.out, HTR.out]
          rw [HKE.out] at hA3
          exact AfterR.ahead HT.out (hA3.more (by omega) hc)
end Go.Proofs.Ytgeoompgakdbiaa

/- The reference: Write, Sync, Truncate; tell. -/
namespace Go.Proofs.Ytgeoompgakdbiaa
open Go.RowKit Go.Maps
set_option linter.unusedSimpArgs false
set_option linter.unusedVariables false
set_option maxRecDepth 100000
theorem write_comes (M : Mod) (f at' : Int) (s : ByteArray) : WriteD M f at' s = writeD (comesW M f at' s) f at' s := by
  rw [comes_write]
  cases he : endsB M with
  | true =>
    have hd := comes_down he f at' s
    rw [if_pos rfl]
    unfold writeD
    rw [if_neg (by rw [may_down hd]; decide), may_down hd]
  | false => rw [if_neg (by decide)]
theorem comes50_nil {w : World} {b c : Nat} {M M' : Mod} {O S : Nat → Prop} (hd : RefAt w b M O S c) (hc : c + 6 ≤ 1000000) (hr : comesD M = M') : Calls Try.prog 50 #[.pointer (some ⟨b, 0, none⟩), .int .i64 0, .int .i64 0, .string ⟨#[]⟩] w fun e w' => e = .returned (.tuple #[]) ∧ AfterR w b M' O S (c + 6) w' := by
  have := comes50 hd 0 0 ⟨#[]⟩ (by constructor <;> decide) (by decide) hc
  rw [comes_nothing, hr] at this
  exact this
set_option maxHeartbeats 2000000
theorem refWrite38 {w : World} {b c : Nat} {M : Mod} {O S : Nat → Prop} (hd : RefAt w b M O S c) (f at' : Int) (s : ByteArray) (ha : I64 at') (hs : s.size ≤ 300) (hc : c + 12 ≤ 1000000) : Calls Try.prog 38 #[.pointer (some ⟨b, 0, none⟩), .int .i64 f, .int .i64 at', .string s] w fun e w' => e = .returned (.int .i64 (WriteD M f at' s).2) ∧ AfterR w b (WriteD M f at' s).1 O S (c + 12) w' := by
  have HD := Lib.hid hd
  have hc6 : c + 6 ≤ 1000000 := by omega
  obtain ⟨M1, hM1⟩ : ∃ M1, comesW M f at' s = M1 := ⟨_, rfl⟩
  have h50 := comes50 hd f at' s ha hs hc6
  rw [hM1] at h50
  have hW : WriteD M f at' s = writeD M1 f at' s := by rw [write_comes, hM1]
  rw [write_add] at hW
  obtain ⟨m, hm⟩ : ∃ m, mayD M1 f = m := ⟨_, rfl⟩
  have HM := Lib.hid hm
  rw [hm] at hW
  clear hd hM1
  by_cases h0 : m = 0
  · subst h0
    obtain ⟨hf0, hf15, _⟩ := mayD_arg hm
    rw [if_pos rfl] at hW
    by_cases h1 : at' < 0
    · have q1 : decide (at' < 0) = true := by simpa using h1
      rw [if_pos h1] at hW
      have HR := Lib.hid hW
      clear hW hm h1
      go_enter Try.func38, Try.ntmps38
      go_wp2_with (first | (go_at_call 50; ((with_reducible refine h50.mono ?_); rintro e w1 ⟨rfl, ⟨O1, S1, hd1, ho1, hs1, ht1⟩⟩)) | (go_at_call 46; ((with_reducible refine (refMay46_D hd1 f _ HM.out).mono ?_); rintro e w2 ⟨rfl, rfl⟩)))
      go_ret
      exact ⟨by rw [HR.out]; rfl, by rw [HR.out]; exact AfterR.next ho1 hs1 ht1 ((AfterR.same hd1 (Touch.refl _ _)).more (by omega) hc)⟩
    · have q1 : decide (at' < 0) = false := by simpa using h1
      rw [if_neg h1] at hW
      obtain ⟨r, hfr⟩ : ∃ r, fitsB at' s.size = r := ⟨_, rfl⟩
      have hft := fun w => fits53 w at' s ha hs
      rw [hfr] at hft hW
      have HFT := Lib.hid hft
      clear hft
      cases r with
      | false =>
        rw [if_pos rfl] at hW
        have HR := Lib.hid hW
        clear hW hm h1 hfr
        go_enter Try.func38, Try.ntmps38
        go_wp2_with (first | (go_at_call 50; ((with_reducible refine h50.mono ?_); rintro e w1 ⟨rfl, ⟨O1, S1, hd1, ho1, hs1, ht1⟩⟩)) | (go_at_call 46; ((with_reducible refine (refMay46_D hd1 f _ HM.out).mono ?_); rintro e w2 ⟨rfl, rfl⟩)) | (go_at_call 53; ((with_reducible refine Calls.mono (HFT.out _) ?_); rintro e w3 ⟨rfl, rfl⟩)))
        go_ret
        exact ⟨by rw [HR.out]; rfl, by rw [HR.out]; exact AfterR.next ho1 hs1 ht1 ((AfterR.same hd1 (Touch.refl _ _)).more (by omega) hc)⟩
      | true =>
        rw [if_neg (by decide)] at hW
        have HR := Lib.hid hW
        have HFR := Lib.hid hfr
        clear hW hm h1 hfr
        go_enter Try.func38, Try.ntmps38
        go_wp2_with (first | (go_at_call 50; ((with_reducible refine h50.mono ?_); rintro e w1 ⟨rfl, ⟨O1, S1, hd1, ho1, hs1, ht1⟩⟩)) | (go_at_call 46; ((with_reducible refine (refMay46_D hd1 f _ HM.out).mono ?_); rintro e w2 ⟨rfl, rfl⟩)) | (go_at_call 53; ((with_reducible refine Calls.mono (HFT.out _) ?_); rintro e w3 ⟨rfl, rfl⟩)) | (go_at_call 54; ((with_reducible refine (add54_R hd1 f at' s hf0 hf15 hs HFR.out (by omega) rfl).mono ?_); rintro e w4 ⟨rfl, hA4⟩)))
        go_ret
        exact ⟨by rw [HR.out]; rfl, by rw [HR.out]; exact AfterR.next ho1 hs1 ht1 (hA4.more (by omega) hc)⟩
  · have q1 : (m == 0) = false := by simpa using h0
    have q1' : (m != 0) = true := by simpa using h0
    rw [if_neg h0] at hW
    have HR := Lib.hid hW
    clear hW hm h0
    go_enter Try.func38, Try.ntmps38
    go_wp2_with (first | (go_at_call 50; ((with_reducible refine h50.mono ?_); rintro e w1 ⟨rfl, ⟨O1, S1, hd1, ho1, hs1, ht1⟩⟩)) | (go_at_call 46; ((with_reducible refine (refMay46_D hd1 f _ HM.out).mono ?_); rintro e w2 ⟨rfl, rfl⟩)))
    go_ret
    exact ⟨by rw [HR.out]; rfl, by rw [HR.out]; exact AfterR.next ho1 hs1 ht1 ((AfterR.same hd1 (Touch.refl _ _)).more (by omega) hc)⟩
end Go.Proofs.Ytgeoompgakdbiaa
