/- Lemmas that the laws of this seat share, 4 texts in one: Crash, Ops, Sync, New. No condition of their own. -/
import Derived.Test.YtgeoompgakdbiaaM5
import Derived.Deep.RegionLaw
import Derived.Test.YtgeoompgakdbiaaM4
/- Crash. -/
namespace Go.Proofs.Ytgeoompgakdbiaa
open Go.RowKit Go.Maps
set_option linter.unusedSimpArgs false
set_option linter.unusedVariables false
set_option maxRecDepth 100000
theorem owns_sec {w : World} {n c k : Nat} {qo : Option Addr} {Q : List Sec} {p : Sec} (h : w.ownsRow 0 70 2 (.slice qo n c) n (secsC Q)) (hp : Q[k]? = some p) : ∃ g, qo = some ⟨g, 0, none⟩ ∧ g < w.heap.size ∧ w.cell? ⟨g, k * 2, none⟩ = some (.int .i64 p.1) ∧ w.cell? ⟨g, k * 2 + 1, none⟩ = some (.int .i64 p.2) := by
  by_cases hn : qo = none
  · subst hn
    obtain ⟨h1, ⟨h2, h3⟩ | ⟨g', cap, cur, h2, _⟩⟩ := h
    · rw [secsC_len] at h1
      have := (List.getElem?_eq_some_iff.1 hp).1
      omega
    · cases h2
  · obtain ⟨g, rfl⟩ : ∃ g, qo = some ⟨g, 0, none⟩ := by
      obtain ⟨h1, ⟨h2, h3⟩ | ⟨g', cap, cur, h2, _⟩⟩ := h
      · cases h2
        exact absurd rfl hn
      · cases h2
        exact ⟨_, rfl⟩
    obtain ⟨sp, hr, _⟩ := RowS.of_owns h
    exact ⟨g, rfl, hr.lt, (hr.cells hp).1, (hr.cells hp).2⟩
theorem _root_.Go.Proofs.Ytgeoompgakdbiaa.RowF.at {S : Nat → Prop} {w : World} {ao : Option Addr} {n cap k : Nat} {l : List Int} {v : Int} (h : RowF S 1 w (.slice ao n cap) l.length (intsC l)) (hk : k < l.length) (hv : l.getD k 0 = v) : ∃ b o, ao = some ⟨b, o, none⟩ ∧ S b ∧ b < w.heap.size ∧ w.cell? ⟨b, o + k, none⟩ = some (.int .i64 v) := by
  obtain ⟨h1, ao', cap', e, _, _, _, h5⟩ := h
  cases e
  obtain ⟨b, o, rfl, hS, hb, hx⟩ := h5 (by omega)
  refine ⟨b, o, rfl, hS, hb, hx k _ ?_⟩
  subst hv
  rw [intsC, List.getElem?_map, List.getElem?_eq_getElem hk]
  simp [List.getD_eq_getElem?_getD, hk]
set_option maxHeartbeats 8000000
theorem crash25 {w : World} {b c : Nat} {M : Mod} {O S S1 : Nat → Prop} (hd : DiskAt w b M O S c) {kv : Value} {kl : List Int} (hk : RowF S1 1 w kv kl.length (intsC kl)) (hS1 : ∀ k, S1 k → ¬ O k) :
    Calls Try.prog 25 #[.pointer (some ⟨b, 0, none⟩), kv] w fun e w' => e = .returned (.tuple #[]) ∧ After w b (crashD M kl) O S c w' := by
  have HD := Lib.hid hd
  have HKL := Lib.hid hk
  obtain ⟨dn, hdn⟩ : ∃ d, M.down = d := ⟨_, rfl⟩
  obtain ⟨fm, sm, qv, kv, lb, cc, ff, o1, o2, o3, n1, n2, n3, hF, hS, hQ, ⟨ko, kc, rfl, hK⟩⟩ := hd.cells
  obtain ⟨qo, qc, rfl⟩ := owns_shape hQ
  have c0 := cc 0
  have c1 := cc 1
  have c2 := cc 2
  have c3 := cc 3
  have c4 := cc 4
  have c5 := cc 5
  have c6 := cc 6
  simp only [boxD, List.getElem?_toArray, List.getElem?_cons_zero, List.getElem?_cons_succ] at c0 c1 c2 c3 c4 c5 c6
  clear cc
  rw [hdn] at c4
  cases dn with
  | true =>
    have HC := Lib.hid (show crashD M kl = M by unfold crashD; rw [if_pos hdn])
    clear hd hF hS hQ hK hk
    go_enter Try.func25, Try.ntmps25
    go_wp2
    (try simp only [Exit.inBlock, Exit.then])
    refine bodyPost_ret (results_none rfl _ _ _) rfl ?_
    exact ⟨rfl, by rw [HC.out]; exact HD.out.after⟩
  | false =>
    have HC := Lib.hid (show crashD M kl = { M with files := fallF (surK kl M.files M.queue M.queue.length), queue := [], down := true, armed := 0 } by unfold crashD; rw [if_neg (by rw [hdn]; decide)])
    have hbox := hd.box_of c0 c1 c2 c6
    have hr := row_apart hQ hbox hF hS
    have hql : M.queue.length ≤ 1000000 := Nat.le_trans hd.good.count hd.good.small
    have hsl : sm < w.heap.size := hd.oLt sm o2
    have hfl : fm < w.heap.size := hd.oLt fm o1
    have f4 := ff 4
    have f5 := ff 5
    have HF := Lib.hid hF
    have HS := Lib.hid hS
    have HQ := Lib.hid hQ
    have HK := Lib.hid hK
    have HRA := Lib.hid hr
    have HB := Lib.hid hbox
    obtain ⟨ao, n, cap, rfl⟩ : ∃ ao n cap, kv = .slice ao n cap := by
      obtain ⟨_, ao, cap, h, _⟩ := hk
      exact ⟨ao, _, cap, h⟩
    have HN := Lib.hid (show n = kl.length by
      obtain ⟨_, ao, cap, h, _⟩ := hk
      cases h
      rfl)
    have hn1 : n ≤ 9223372036854775807 := by
      have := hk.nle
      unfold maxLen at this
      rw [HN.out]
      omega
    clear hd hF hS hQ hK hk hr hbox
    go_enter Try.func25, Try.ntmps25
    go_wp2
    refine wp_name ?_
    intro W0 hW0
    have hb0 : W0.heap[b]? = some (.cells (boxD fm sm (.slice qo M.queue.length qc) (.slice ko M.keep.length kc) { M with down := true, armed := 0 }) 56 (0, 0)) := by
      rw [hW0]
      have h1 := heap_setCell_at w b 4 (.bool true) HB.out
      exact heap_setCell_at _ b 5 (.int .i64 0) h1
    have T0 : Touch (fun k => k = b) w W0 := by
      rw [hW0]
      exact (Touch.setCell (O := fun k => k = b) _ _ _ rfl).then (Touch.setCell (O := fun k => k = b) _ _ _ rfl)
    have g0 : W0.cell? ⟨b, 0, none⟩ = some (.map (some fm)) := by simp [World.cell?, hb0, boxD]
    have g1 : W0.cell? ⟨b, 1, none⟩ = some (.slice qo M.queue.length qc) := by simp [World.cell?, hb0, boxD]
    have HB0 := Lib.hid hb0
    have HT0 := Lib.hid T0
    have hwl : w.heap.size = W0.heap.size := by rw [hW0, heap_setCell_size, heap_setCell_size]
    have lb0 : b < W0.heap.size := by omega
    clear hW0 hb0 T0
    go_loopw [25] (fun si wr => ∃ k : Nat, si = .int .i64 k ∧ k ≤ M.queue.length ∧ FilesAt wr fm (surK kl M.files M.queue k) ∧ Touch (fun j => j = fm) W0 wr) (fun si _ => M.queue.length - (intOf si).toNat)
    case atStart => exact ⟨0, rfl, Nat.zero_le _, HF.out.touch HT0.out n2, Touch.refl _ _⟩
    case round =>
      obtain ⟨k, rfl, hkn, hfr, htr⟩ := hrel
      have HFR := Lib.hid hfr
      have HTR := Lib.hid htr
      have d0 := htr.cell (fun e => n2 e.symm) g0
      by_cases hlt : k < M.queue.length
      · obtain ⟨p, hp⟩ : ∃ p, M.queue[k]? = some p := ⟨_, List.getElem?_eq_getElem hlt⟩
        obtain ⟨hp0, hp15, hp2, hp3⟩ := HD.out.good.secs p (List.mem_of_getElem? hp)
        have HST := Lib.hid (surK_step (kl := kl) (F := M.files) hp)
        obtain ⟨g, hgo, lg, s0, s1⟩ := owns_sec HQ.out hp
        obtain ⟨pf, pn⟩ := p
        obtain ⟨pn, rfl⟩ := Int.eq_ofNat_of_zero_le hp2
        simp only at hp0 hp15 hp3 s0 s1
        have hgr := HRA.out g (by rw [hgo]; rfl)
        have s0' := htr.cell (fun e => hgr.2.2.1 e) (HT0.out.cell (fun e => hgr.1 e) s0)
        have s1' := htr.cell (fun e => hgr.2.2.1 e) (HT0.out.cell (fun e => hgr.1 e) s1)
        subst hgo
        obtain ⟨x, hx⟩ : ∃ x, surK kl M.files M.queue k pf = x := ⟨_, rfl⟩
        have hlk := hfr.look (f := pf) (by constructor <;> omega)
        rw [hx] at hlk
        unfold fileV at hlk
        have HX := Lib.hid hx
        obtain ⟨A, hA⟩ : ∃ A, pn * 64 = A := ⟨_, rfl⟩
        have hwr : IntKind.i64.wrap (((pn : Nat) : Int) * 64) = (A : Int) := by rw [IntKind.wrap_i64] <;> omega
        have hA2 : A ≤ 16777216 := by omega
        have HA := Lib.hid hA
        clear hA
        have hfit := surK_fit (kl := kl) (Q := M.queue) HD.out.good.sizes k pf
        rw [hx] at hfit
        have hsz : wr.heap.size ≥ W0.heap.size := htr.size
        have lgr : g < wr.heap.size := by omega
        have lbr : b < wr.heap.size := by omega
        clear hfr htr hp hx s0 s1 hgr
        go_wp2
        refine wp_name ?_
        intro W1 hW1
        have hX1 : Exts wr W1 := by rw [hW1]; exact (by repeat (first | exact Exts.refl _ | apply Exts.andR | apply Exts.alloc | apply Exts.wext | apply Exts.drew | apply Exts.drewN))
        have e0 : W1.cell? ⟨wr.heap.size, 0, none⟩ = some (.int .i64 pf) := by rw [hW1, World.cell?_alloc_new]; rfl
        have e1 : W1.cell? ⟨wr.heap.size, 1, none⟩ = some (.int .i64 pn) := by rw [hW1, World.cell?_alloc_new]; rfl
        have r0 : ∀ w', Exts W1 w' → w'.cell? ⟨b, 0, none⟩ = some (.map (some fm)) := all_at hX1 d0
        have r1 : ∀ w', Exts W1 w' → w'.cell? ⟨wr.heap.size, 0, none⟩ = some (.int .i64 pf) := all_at (Exts.refl _) e0
        have r2 : ∀ w', Exts W1 w' → w'.cell? ⟨wr.heap.size, 1, none⟩ = some (.int .i64 pn) := all_at (Exts.refl _) e1
        have r3 : ∀ w', Exts W1 w' → (Instr.lookup 52 (.map (some fm)) (.int .i64 pf) false).run Try.prog w' = .ok (.agg #[.string x.1, .string x.2]) w' := fun w' hw' => by
          have := (HFR.out.touch (O := fun _ => False) (Touch.of_exts (hX1.trans hw')) (fun h => h)).look (f := pf) (by constructor <;> omega)
          rw [HX.out] at this
          exact this
        have HX1 := Lib.hid hX1
        clear hW1 hX1 hlk
        have r4 := r3 W1.drew (by repeat (first | exact Exts.refl _ | apply Exts.andR | apply Exts.alloc | apply Exts.wext | apply Exts.drew | apply Exts.drewN))
        have r5 := r3 (W1.alloc (.cells #[.string ⟨#[]⟩, .string ⟨#[]⟩] 63)).drew (by repeat (first | exact Exts.refl _ | apply Exts.andR | apply Exts.alloc | apply Exts.wext | apply Exts.drew | apply Exts.drewN))
        go_region
        all_goals
          (try go_frame)
          by_cases z0 : n = 0
          · have y0 : (((n : Nat) : Int) == 0) = true := by rw [z0]; rfl
            have HSUR := Lib.hid (show sur kl (surK kl M.files M.queue k) k (pf, (pn : Int)) = surK kl M.files M.queue k by unfold sur; rw [if_pos (by rw [← HN.out]; exact z0)])
            clear z0
            go_wp2
            refine ⟨⟨k + 1, by go_num, hlt, ?_, HTR.out.then (Touch.of_exts (HX1.out.trans (by repeat (first | exact Exts.refl _ | apply Exts.andR | apply Exts.alloc | apply Exts.wext | apply Exts.drew | apply Exts.drewN))))⟩, ?_⟩
            · rw [HST.out, HSUR.out]
              exact HFR.out.touch (O := fun _ => False) (Touch.of_exts (HX1.out.trans (by repeat (first | exact Exts.refl _ | apply Exts.andR | apply Exts.alloc | apply Exts.wext | apply Exts.drew | apply Exts.drewN)))) (fun h => h)
            · simp [intOf]; omega
          · have y0 : (((n : Nat) : Int) == 0) = false := by simp; omega
            obtain ⟨J, hJ⟩ : ∃ J, k % n = J := ⟨_, rfl⟩
            have hJn : J < n := by rw [← hJ]; exact Nat.mod_lt _ (by omega)
            have hJi : ((k : Nat) : Int) % ((n : Nat) : Int) = (J : Int) := by omega
            obtain ⟨v, hv⟩ : ∃ v, kl.getD J 0 = v := ⟨_, rfl⟩
            obtain ⟨kb, ko', rfl, hkS, lkb, ckv⟩ := HKL.out.at (k := J) (by rw [← HN.out]; exact hJn) hv
            have hkO := hS1 kb hkS
            have ckr := HTR.out.cell (fun e => hkO (by rw [show kb = fm from e]; exact o1)) (HT0.out.cell (fun e => hkO (by rw [show kb = b from e]; exact HD.out.own)) ckv)
            have ck1 := Exts.cell HX1.out ckr
            have lk1 : kb < W1.heap.size := World.block_lt_of_cell? W1 _ ck1
            have hvv : kl.getD (k % kl.length) 0 = v := by rw [← HN.out, hJ, hv]
            have hn0 : ¬ kl.length = 0 := by rw [← HN.out]; exact z0
            by_cases z1 : bits BinOp.and IntKind.i64 v 1 = 0
            · have y1 : (bits BinOp.and IntKind.i64 v 1 == 0) = true := by simpa using z1
              have HSUR := Lib.hid (show sur kl (surK kl M.files M.queue k) k (pf, (pn : Int)) = surK kl M.files M.queue k by
                unfold sur
                rw [if_neg hn0, if_pos (by rw [hvv]; unfold oddB; rw [y1]; rfl)])
              clear hJ hv ckv ckr z1 hvv hn0
              go_wp2
              refine ⟨⟨k + 1, by go_num, hlt, ?_, HTR.out.then (Touch.of_exts (HX1.out.trans (by repeat (first | exact Exts.refl _ | apply Exts.andR | apply Exts.alloc | apply Exts.wext | apply Exts.drew | apply Exts.drewN))))⟩, ?_⟩
              · rw [HST.out, HSUR.out]
                exact HFR.out.touch (O := fun _ => False) (Touch.of_exts (HX1.out.trans (by repeat (first | exact Exts.refl _ | apply Exts.andR | apply Exts.alloc | apply Exts.wext | apply Exts.drew | apply Exts.drewN)))) (fun h => h)
              · simp [intOf]; omega
            · have y1 : (bits BinOp.and IntKind.i64 v 1 == 0) = false := by simpa using z1
              by_cases z2 : x.1.size ≤ A
              · have y2 : decide (x.1.size ≤ A) = true := by simpa using z2
                have HSUR := Lib.hid (show sur kl (surK kl M.files M.queue k) k (pf, (pn : Int)) = surK kl M.files M.queue k by
                  unfold sur
                  rw [if_neg hn0, if_neg (by rw [hvv]; unfold oddB; rw [y1]; decide), if_pos (by simp only [Int.toNat_natCast]; rw [HX.out, HA.out]; exact z2)])
                clear hJ hv ckv ckr z1 hvv hn0 z2
                go_wp2
                refine ⟨⟨k + 1, by go_num, hlt, ?_, HTR.out.then (Touch.of_exts (HX1.out.trans (by repeat (first | exact Exts.refl _ | apply Exts.andR | apply Exts.alloc | apply Exts.wext | apply Exts.drew | apply Exts.drewN))))⟩, ?_⟩
                · rw [HST.out, HSUR.out]
                  exact HFR.out.touch (O := fun _ => False) (Touch.of_exts (HX1.out.trans (by repeat (first | exact Exts.refl _ | apply Exts.andR | apply Exts.alloc | apply Exts.wext | apply Exts.drew | apply Exts.drewN)))) (fun h => h)
                · simp [intOf]; omega
              · have y2 : decide (x.1.size ≤ A) = false := by simpa using z2
                have HSUR := Lib.hid (show sur kl (surK kl M.files M.queue k) k (pf, (pn : Int)) = setF (surK kl M.files M.queue k) pf (x.1, putB x.2 A (sectB x.1 pn)) by
                  unfold sur
                  rw [if_neg hn0, if_neg (by rw [hvv]; unfold oddB; rw [y1]; decide), if_neg (by simp only [Int.toNat_natCast]; rw [HX.out, HA.out]; exact z2)]
                  simp only [Int.toNat_natCast]
                  rw [HX.out, HA.out])
                have hA1 : A < x.1.size := by omega
                clear hJ hv ckv ckr z1 hvv hn0 z2
                go_wp2
                refine wp_name ?_
                intro W5 hW5
                have hlw1 : wr.heap.size < W1.heap.size := World.block_lt_of_cell? W1 _ e0
                have hX5 : Exts wr W5 := HX1.out.trans (by rw [hW5]; exact (by repeat (first | exact Exts.refl _ | apply Exts.andR | apply Exts.alloc | apply Exts.wext | apply Exts.drew | apply Exts.drewN)))
                have u0 : W5.cell? ⟨W1.heap.size, 0, none⟩ = some (.string x.1) := by rw [hW5]; exact (World.cell?_alloc_new ..)
                have u1 : W5.cell? ⟨W1.heap.size, 1, none⟩ = some (.string x.2) := by rw [hW5]; exact (World.cell?_alloc_new ..)
                have u2 : W5.frozen? ⟨W1.heap.size, 1, none⟩ = false := by rw [hW5]; simp [go_sem]
                have u3 : W5.cell? ⟨b, 0, none⟩ = some (.map (some fm)) := Exts.cell hX5 d0
                have u4 : W5.cell? ⟨wr.heap.size, 0, none⟩ = some (.int .i64 pf) := Exts.cell (by rw [hW5]; exact (by repeat (first | exact Exts.refl _ | apply Exts.andR | apply Exts.alloc | apply Exts.wext | apply Exts.drew | apply Exts.drewN))) e0
                have u5 : W1.heap.size < W5.heap.size := World.block_lt_of_cell? W5 _ u0
                have HX5 := Lib.hid hX5
                obtain ⟨B, hB⟩ : ∃ B, min (A + 64) x.1.size = B := ⟨_, rfl⟩
                have hB1 : B ≤ x.1.size := by omega
                have hB2 : A ≤ B := by omega
                have HSB := Lib.hid (show sectB x.1 pn = x.1.extract A B by unfold sectB; rw [HA.out, hB])
                have hmin : (if (x.1.size : Int) < IntKind.i64.wrap (((A : Nat) : Int) + 64) then (x.1.size : Int) else IntKind.i64.wrap (((A : Nat) : Int) + 64)) = ((B : Nat) : Int) := by
                  rw [IntKind.wrap_i64] <;> split <;> omega
                have hes : (x.1.extract A B).size = B - A := by rw [ByteArray.size_extract]; omega
                have hfs := hfit.1
                clear hB
                clear ff c0 c1 c2 c3 c4 c5 c6 f4 f5 g0 g1 d0 s0' s1' e0 e1 ck1 hkS hkO lk1 lkb y0 y1 y2 hJn hJi hwl hsl hn1 hwr lgr
                clear hW5 hX5 r0 r1 r2 r3 r4 r5
                go_region_with ((go_at_call 47; ((with_reducible refine (put47 x.2 (x.1.extract A B) A _ hfit.2 (by rw [hes]; omega)).mono ?_); rintro e w6 ⟨rfl, ⟨x6, rfl⟩⟩)))
                all_goals
                  obtain ⟨W7, hW7⟩ : ∃ W7, W7 = wext (W5.setCell ⟨W1.heap.size, 1, none⟩ (.string (putB x.2 A (x.1.extract A B)))) x6 := ⟨_, rfl⟩
                  rw [← hW7]
                  have hT57 : Touch (fun j => j = W1.heap.size) W5 W7 := by
                    rw [hW7]
                    exact (Touch.setCell (O := fun j => j = W1.heap.size) W5 ⟨W1.heap.size, 1, none⟩ _ rfl).then (Touch.of_exts (by repeat (first | exact Exts.refl _ | apply Exts.andR | apply Exts.alloc | apply Exts.wext | apply Exts.drew | apply Exts.drewN)))
                  have v0 : W7.cell? ⟨W1.heap.size, 0, none⟩ = some (.string x.1) := by
                    rw [hW7]
                    exact Exts.cell (by repeat (first | exact Exts.refl _ | apply Exts.andR | apply Exts.alloc | apply Exts.wext | apply Exts.drew | apply Exts.drewN)) ((World.cell?_setCell_other W5 ⟨W1.heap.size, 1, none⟩ ⟨W1.heap.size, 0, none⟩ _ (by simp)).trans u0)
                  have v1 : W7.cell? ⟨W1.heap.size, 1, none⟩ = some (.string (putB x.2 A (x.1.extract A B))) := by
                    rw [hW7]
                    exact Exts.cell (by repeat (first | exact Exts.refl _ | apply Exts.andR | apply Exts.alloc | apply Exts.wext | apply Exts.drew | apply Exts.drewN)) (World.cell?_setCell_same _ _ _ u1)
                  have v2 := hT57.cell (fun e => by simp only [] at e; omega) u3
                  have v3 := hT57.cell (fun e => by simp only [] at e; omega) u4
                  have hT7 : Touch (fun _ => False) wr W7 := (Touch.of_exts HX5.out).trans hT57 (fun j hj => Or.inr (by omega))
                  have hT7d : Touch (fun _ => False) wr W7.drew := hT7.then (Touch.of_exts (by repeat (first | exact Exts.refl _ | apply Exts.andR | apply Exts.alloc | apply Exts.wext | apply Exts.drew | apply Exts.drewN)))
                  obtain ⟨W8, hup, hF8, ht8⟩ := (HFR.out.touch hT7d (fun h => h)).store hp0 hp15 (x.1, putB x.2 A (x.1.extract A B))
                  unfold fileV at hup
                  have HF8 := Lib.hid hF8
                  have HT8 := Lib.hid (hT7d.mono (O' := fun j => j = fm) (fun _ h => h.elim) |>.then (Touch.of_grown ht8.grown (fun j hj => by cases hj; rfl)))
                  clear hW7 hT57 hT7 hT7d hF8 ht8 u0 u1 u2 u3 u4
                  go_wp2
                  go_region
                  all_goals
                    (try go_frame)
                    clear hup
                    go_wp2
                    refine ⟨⟨k + 1, by go_num, hlt, ?_, HTR.out.then HT8.out⟩, ?_⟩
                    · rw [HST.out, HSUR.out, HSB.out]
                      exact HF8.out
                    · simp [intOf]; omega
      · obtain rfl : k = M.queue.length := by omega
        obtain ⟨wm, rfl⟩ : ∃ x, x = wr := ⟨wr, rfl⟩
        obtain ⟨F, hF⟩ : ∃ F, surK kl M.files M.queue M.queue.length = F := ⟨_, rfl⟩
        rw [hF] at hfr HC
        have hg : Good { M with files := fallF F, queue := [], down := true, armed := 0 } c := by rw [← hF]; exact HD.out.good.crash kl
        have HG := Lib.hid hg
        obtain ⟨D0, hown, hkeys, hat0⟩ := hfr
        have HKEYS := Lib.hid hkeys
        have HAT0 := Lib.hid hat0
        have lbm : b < wm.heap.size := Nat.lt_of_lt_of_le lb0 htr.size
        have lfm : fm < wm.heap.size := hown.lt
        have hbm : wm.heap[b]? = _ := (htr.block b lb0 (fun e => n2 e.symm)).trans HB0.out
        have HBM := Lib.hid hbm
        have hTm : Touch O w wm := (HT0.out.mono (fun j hj => hj ▸ HD.out.own)).then (htr.mono (fun j hj => hj ▸ o1))
        have HTM := Lib.hid hTm
        clear htr hkeys hat0 hF hg hbm HFR HTR HKL
        clear c0 c1 c2 c3 c4 c5 c6 f4 f5
        go_wp2_with (first | (at_range; refine wpList_range_own _ rfl _ 52 rfl 3 63 lawI Try.underlying52 fileR fm 16 D0 rfl hown ?_; intro w1 hrg0 hg0 hs0) | go_in)
        go_frame
        go_loopw [89] (fun _ wr => ∃ (D : DataW Unit) (left : Lit → Bool) (cnt : Nat), wr.ranges Try.prog 3 fileR fm wm.heap.size 16 D left cnt ∧ wm.grownBy wr (some fm) ∧ MidF F D0 D left) (fun _ wr => wr.rangeLeft fm wm.heap.size)
        case atStart => exact ⟨_, _, _, hrg0, hg0.but _, MidF.start HAT0.out⟩
        case round =>
          obtain ⟨D, left, cnt, hrg, hgw, hmid⟩ := hrel
          have HM := Lib.hid hmid
          have HGW := Lib.hid hgw
          have hbr : wr.heap[b]? = _ := (hgw.block b lbm (fun e => by cases e; exact n2 rfl)).trans HBM.out
          have HBR := Lib.hid hbr
          have x0 : wr.cell? ⟨b, 0, none⟩ = some (.map (some fm)) := by simp [World.cell?, hbr, boxD]
          have x1 : wr.cell? ⟨b, 1, none⟩ = some (.slice qo M.queue.length qc) := by simp [World.cell?, hbr, boxD]
          have x2 : wr.cell? ⟨b, 2, none⟩ = some (.map (some sm)) := by simp [World.cell?, hbr, boxD]
          have y1 : wr.frozen? ⟨b, 1, none⟩ = false := by simp [World.frozen?, hbr]
          have y2 : wr.frozen? ⟨b, 2, none⟩ = false := by simp [World.frozen?, hbr]
          have lbr : b < wr.heap.size := Nat.lt_of_lt_of_le lbm hgw.size
          clear hmid hbr
          go_wp2_with (first | (at_next; refine wpList_next_ranges _ rfl _ rfl 3 lawI fileR id id (fun key _ _ => ⟨key, rfl⟩) (fun v _ _ => ⟨v, rfl⟩) fm wm.heap.size 16 _ _ _ rfl hrg ?_ ?_) | go_in)
          · intro _ hl0
            have hmk : (Instr.makeMap 53 none).run Try.prog wr = .ok (.map (some wr.heap.size)) (wr.alloc (.map #[] 0)) := by simp [Instr.makeMap, run_underlying Try.underlying53, go_sem]
            have HRG := Lib.hid hrg
            have HL0 := Lib.hid hl0
            clear hl0
            go_wp2
            go_end0
            rw [HC.out]
            have t9 : Touch (fun j => j = b) wr ((wr.setCell ⟨b, 1, none⟩ (.slice none 0 0)).setCell ⟨b, 2, none⟩ (.map (some wr.heap.size))) := (Touch.setCell (O := fun j => j = b) _ _ _ rfl).then (Touch.setCell (O := fun j => j = b) _ _ _ rfl)
            have hs9 : ((wr.setCell ⟨b, 1, none⟩ (.slice none 0 0)).setCell ⟨b, 2, none⟩ (.map (some wr.heap.size))).heap.size = wr.heap.size := by rw [heap_setCell_size, heap_setCell_size]
            have hb9 : ((wr.setCell ⟨b, 1, none⟩ (.slice none 0 0)).setCell ⟨b, 2, none⟩ (.map (some wr.heap.size))).heap[b]? = some (.cells (boxD fm wr.heap.size (.slice none 0 0) (.slice ko M.keep.length kc) { M with files := fallF F, queue := [], down := true, armed := 0 }) 56 (0, 0)) := heap_setCell_at _ b 2 _ (heap_setCell_at wr b 1 _ HBR.out)
            have hset := SetAt.made ((wr.setCell ⟨b, 1, none⟩ (.slice none 0 0)).setCell ⟨b, 2, none⟩ (.map (some wr.heap.size)))
            rw [hs9] at hset
            have htr : Touch (fun j => j = fm) wm wr := Touch.of_grown HGW.out (fun j hj => by cases hj; rfl)
            generalize (wr.setCell ⟨b, 1, none⟩ (.slice none 0 0)).setCell ⟨b, 2, none⟩ (.map (some wr.heap.size)) = w9 at t9 hs9 hb9 hset ⊢
            have tA : Touch (fun _ => False) w9 (w9.alloc (.map #[] 0)) := Touch.of_exts (by repeat (first | exact Exts.refl _ | apply Exts.andR | apply Exts.alloc | apply Exts.wext | apply Exts.drew | apply Exts.drewN))
            have tO : Touch O w (w9.alloc (.map #[] 0)) := ((HTM.out.then (htr.mono (fun j hj => hj ▸ o1))).then (t9.mono (fun j hj => hj ▸ HD.out.own))).then (tA.mono (fun _ h => h.elim))
            have hsw : w.heap.size ≤ wr.heap.size := Nat.le_trans HTM.out.size htr.size
            have hsz9 : (w9.alloc (.map #[] 0)).heap.size = wr.heap.size + 1 := by simp [hs9]
            have hfile : FilesAt wr fm (fallF F) := ⟨D, HRG.out.owns, fun kl' h => HKEYS.out kl' (by rw [← HM.out.has]; exact h), fun g => HM.out.finish HAT0.out HL0.out g⟩
            exact ⟨rfl, _, _, HD.out.remake tO.size fm wr.heap.size (.slice none 0 0) (.slice ko M.keep.length kc) ((tA.block b (by omega) (fun h => h)).trans hb9) (Or.inl o1) (Or.inr ⟨hsw, by omega⟩) (fun g hg => by cases hg) (by omega) ((hfile.touch t9 n2).touch tA (fun h => h)) (hset.mono (Nat.zero_le _)) ⟨rfl, .inl ⟨rfl, rfl⟩⟩ ⟨ko, kc, rfl, HK.out.touch tO (fun j hj => HD.out.apart j hj)⟩ HG.out, fun j hj => hj.imp (fun h => h) (fun h => h.1), fun _ => Or.inl, tO⟩
          · intro kv vv kl' yd yp w1 cnt1 hkey hlx hv hat hrg1 hlt hg1 hs1 hen
            obtain ⟨x, rfl, rfl, hwx⟩ := Maps.keyOf_int_inv Try.underlying3 hkey
            obtain ⟨y, rfl, hy⟩ := fileR_inv hv
            obtain rfl : y = F x := by
              simp only [Prod.mk.injEq] at hy
              have e1 := HM.out.came hlx
              rw [hat, hy.1] at e1
              exact fileD_inj e1
            have hgw1 := hgw.andThen hg1 (fun j hj => by cases hj; exact Or.inl (Nat.le_refl _))
            have HGW1 := Lib.hid hgw1
            have z0 : w1.cell? ⟨b, 0, none⟩ = some (.map (some fm)) := (Touch.of_grown (O := fun j => j = wm.heap.size) hg1 (fun j hj => by cases hj; rfl)).cell (fun e => by simp only [] at e; omega) x0
            have lb1 : b < w1.heap.size := World.block_lt_of_cell? w1 _ z0
            unfold fileV at hen
            obtain ⟨y, hyy⟩ : ∃ y, F x = y := ⟨_, rfl⟩
            have HYY := Lib.hid hyy
            rw [hyy] at hen
            have hX9 : Exts w1 (w1.alloc (.cells #[.string y.1, .string y.2] 63)).drew := (by repeat (first | exact Exts.refl _ | apply Exts.andR | apply Exts.alloc | apply Exts.wext | apply Exts.drew | apply Exts.drewN))
            have hr9 := hrg1.kept (Exts.grown hX9) (by simp) (by simp)
            obtain ⟨W10, hup, hr10, ht10⟩ := ranges_put hr9 lawI Try.underlying52 (by unfold maxLen; omega) hkey (fileR_mk (y.2, y.2)) (by rw [HM.out.has, HM.out.sub _ hlx])
            unfold fileV at hup
            have HR10 := Lib.hid hr10
            have HT10 := Lib.hid ht10
            have HRG := Lib.hid hrg
            have HRG1 := Lib.hid hrg1
            have HX9 := Lib.hid hX9
            clear hv hy hat hg1 hgw1 hX9 hr9 hr10 ht10 hgw hyy
            go_wp2
            go_region
            all_goals
              (try go_frame)
              clear hup
              go_wp2
              go_roundw
              case rel => exact ⟨_, _, cnt1, HR10.out, (HGW1.out.andThen (Exts.grown HX9.out) (fun j hj => by cases hj)).andThen HT10.out.grown (fun j hj => by cases hj; exact Or.inr rfl), by
                have := HM.out.step HRG.out.owns.isMap hlx
                unfold fallF at this
                rw [HYY.out] at this
                exact this⟩
              case measure => rw [HR10.out.left_eq, HRG.out.left_eq]; exact hlt
end Go.Proofs.Ytgeoompgakdbiaa

/- Write, Sync, Truncate. -/
namespace Go.Proofs.Ytgeoompgakdbiaa
open Go.RowKit Go.Maps
set_option linter.unusedSimpArgs false
set_option linter.unusedVariables false
set_option maxRecDepth 100000
def WriteD (M : Mod) (f at' : Int) (s : ByteArray) : Mod × Int :=
  if endsB M = true then (crashD (writeD (countM M) f at' s).1 (writeD (countM M) f at' s).1.keep, 8) else writeD (countM M) f at' s
/-- The keep cell, and what it holds. -/
theorem DiskAt.keeping {w : World} {b c : Nat} {M : Mod} {O S : Nat → Prop} (h : DiskAt w b M O S c) : ∃ kv, w.cell? ⟨b, 6, none⟩ = some kv ∧ RowF S 1 w kv M.keep.length (intsC M.keep) := by
  obtain ⟨fm, sm, qv, kv, hb, o1, o2, o3, hne, hF, hS, hQ, ⟨ko, kc, rfl, hK⟩⟩ := h.ex
  exact ⟨_, by simp [World.cell?, hb, boxD], hK⟩
theorem DiskAt.lt {w : World} {b c : Nat} {M : Mod} {O S : Nat → Prop} (h : DiskAt w b M O S c) : b < w.heap.size := h.oLt b h.own
theorem After.ahead {w w1 w2 : World} {b c : Nat} {M : Mod} {O S : Nat → Prop} (ht : Touch O w w1) (h : After w1 b M O S c w2) : After w b M O S c w2 := by
  obtain ⟨O', S', h1, h2, h3, h4⟩ := h
  exact ⟨O', S', h1, fun k hk => (h2 k hk).imp (fun h => h) (fun h => Nat.le_trans ht.size h), fun k hk => (h3 k hk).imp (fun h => h) (fun h => Nat.le_trans ht.size h), ht.then h4⟩
theorem After.next {w w1 w2 : World} {b c1 c2 : Nat} {M M2 : Mod} {O S O' S' : Nat → Prop} (h1 : DiskAt w1 b M O' S' c1) (h2 : ∀ k, O' k → O k ∨ w.heap.size ≤ k) (h3 : ∀ k, S' k → S k ∨ w.heap.size ≤ k) (h4 : Touch O w w1) (h : After w1 b M2 O' S' c2 w2) : After w b M2 O S c2 w2 := by
  obtain ⟨O2, S2, g1, g2, g3, g4⟩ := h
  refine ⟨O2, S2, g1, fun k hk => ?_, fun k hk => ?_, h4.trans g4 h2⟩
  · rcases g2 k hk with h | h
    · exact h2 k h
    · exact Or.inr (Nat.le_trans h4.size h)
  · rcases g3 k hk with h | h
    · exact h3 k h
    · exact Or.inr (Nat.le_trans h4.size h)
/-- What a sync does, once a scheduled crash has happened or not. -/
def comesD (M : Mod) : Mod := if endsB M = true then crashD (countM M) (countM M).keep else countM M
def SyncD (M : Mod) (f : Int) : Mod × Int :=
  if mayD (comesD M) f = 0 then (if 0 < (comesD M).lost then ({ comesD M with lost := (comesD M).lost - 1 }, 9) else (settleD (comesD M) f ((comesD M).files f).1, 0)) else (comesD M, mayD (comesD M) f)
def TruncD (M : Mod) (f size : Int) : Mod × Int :=
  if mayD (comesD M) f = 0 then (if size < 0 ∨ (((comesD M).files f).1.size : Int) < size then (comesD M, 1) else (settleD (comesD M) f (((comesD M).files f).1.extract 0 size.toNat), 0)) else (comesD M, mayD (comesD M) f)
set_option maxHeartbeats 1000000
theorem write29 {w : World} {b c : Nat} {M : Mod} {O S : Nat → Prop} (hd : DiskAt w b M O S c) (f at' : Int) (s : ByteArray) (ha : I64 at') (hs : s.size ≤ 300) (hc : c + 6 ≤ 1000000) : Calls Try.prog 29 #[.pointer (some ⟨b, 0, none⟩), .int .i64 f, .int .i64 at', .string s] w fun e w' => e = .returned (.int .i64 (WriteD M f at' s).2) ∧ After w b (WriteD M f at' s).1 O S (c + 6) w' := by
  obtain ⟨r, hr⟩ : ∃ r, endsB M = r := ⟨_, rfl⟩
  have h43 := ends43 hd
  rw [hr] at h43
  cases r with
  | false =>
    have HR := Lib.hid (show WriteD M f at' s = writeD (countM M) f at' s by unfold WriteD; rw [if_neg (by rw [hr]; decide)])
    go_enter Try.func29, Try.ntmps29
    go_wp2_with (first | (go_at_call 43; ((with_reducible refine h43.mono ?_); rintro e w1 ⟨rfl, hd1, ht1⟩)) | (go_at_call 49; ((with_reducible refine (write49 hd1 f at' s ha hs hc).mono ?_); rintro e w2 ⟨rfl, hA2⟩)))
    go_ret
    rw [HR.out]
    exact ⟨rfl, After.ahead ht1 hA2⟩
  | true =>
    have HR := Lib.hid (show WriteD M f at' s = (crashD (writeD (countM M) f at' s).1 (writeD (countM M) f at' s).1.keep, 8) by unfold WriteD; rw [if_pos hr])
    go_enter Try.func29, Try.ntmps29
    go_wp2_with (first | (go_at_call 43; ((with_reducible refine h43.mono ?_); rintro e w1 ⟨rfl, hd1, ht1⟩)) | (go_at_call 49; ((with_reducible refine (write49 hd1 f at' s ha hs hc).mono ?_); rintro e w2 ⟨rfl, ⟨O2, S2, hd2, ho2, hs2, ht2⟩⟩; (obtain ⟨kv, ck, hk⟩ := hd2.keeping); (have lb2 := hd2.lt))) | (go_at_call 25; ((with_reducible refine (crash25 hd2 hk hd2.apart).mono ?_); rintro e w3 ⟨rfl, hA3⟩)))
    go_ret
    rw [HR.out]
    exact ⟨rfl, After.ahead ht1 (After.next hd2 ho2 hs2 ht2 hA3)⟩
end Go.Proofs.Ytgeoompgakdbiaa

/- Sync, Truncate. -/
namespace Go.Proofs.Ytgeoompgakdbiaa
open Go.RowKit Go.Maps
set_option linter.unusedSimpArgs false
set_option linter.unusedVariables false
set_option maxRecDepth 100000
theorem DiskAt.opened {w : World} {b c : Nat} {M : Mod} {O S : Nat → Prop} (h : DiskAt w b M O S c) {f : Int} (hf : I64 f) : ∃ fm, w.cell? ⟨b, 0, none⟩ = some (.map (some fm)) ∧ w.cell? ⟨b, 3, none⟩ = some (.int .i64 M.lost) ∧ w.frozen? ⟨b, 3, none⟩ = false ∧ b < w.heap.size ∧ (Instr.lookup 52 (.map (some fm)) (.int .i64 f) false).run Try.prog w = .ok (.agg #[.string (M.files f).1, .string (M.files f).2]) w := by
  obtain ⟨fm, sm, qv, kv, hb, o1, o2, o3, hne, hF, hS, hQ, hK⟩ := h.ex
  exact ⟨fm, by simp [World.cell?, hb, boxD], by simp [World.cell?, hb, boxD], by simp [World.frozen?, hb], h.lt, hF.look hf⟩
theorem DiskAt.lostD {w : World} {b c : Nat} {M : Mod} {O S : Nat → Prop} (h : DiskAt w b M O S c) (v : Int) (h0 : 0 ≤ v) (h1 : v ≤ 9223372036854775807) : DiskAt (w.setCell ⟨b, 3, none⟩ (.int .i64 v)) b { M with lost := v } O S c :=
  h.box rfl rfl rfl ⟨⟨h0, h1⟩, h.good.armed, h.good.count, h.good.secs, h.good.sizes, h.good.keep, h.good.small⟩ (fun fm sm qv kv hb => heap_setCell_at w b 3 _ hb) (Touch.setCell (O := fun k => k = b) _ _ _ rfl)
theorem count_good {M : Mod} {c : Nat} (h : Good M c) : Good (countM M) c := by
  unfold countM
  split
  · exact h
  · rename_i hn
    have := h.armed
    simp at hn
    exact ⟨h.lost, by simp only []; omega, h.count, h.secs, h.sizes, h.keep, h.small⟩
theorem comes_good {M : Mod} {c : Nat} (h : Good M c) : Good (comesD M) c := by
  unfold comesD
  split
  · unfold crashD
    split
    · exact count_good h
    · exact (count_good h).crash _
  · exact count_good h
set_option maxHeartbeats 1000000
theorem sync19 {w : World} {b c : Nat} {M : Mod} {O S : Nat → Prop} (hd : DiskAt w b M O S c) (f : Int) (hf64 : I64 f) : Calls Try.prog 19 #[.pointer (some ⟨b, 0, none⟩), .int .i64 f] w fun e w' => e = .returned (.int .i64 (SyncD M f).2) ∧ After w b (SyncD M f).1 O S c w' := by
  obtain ⟨r, hr⟩ : ∃ r, endsB M = r := ⟨_, rfl⟩
  have h43 := ends43 hd
  rw [hr] at h43
  obtain ⟨M', hM'⟩ : ∃ M', comesD M = M' := ⟨_, rfl⟩
  obtain ⟨m, hm⟩ : ∃ m, mayD M' f = m := ⟨_, rfl⟩
  obtain ⟨x, hx⟩ : ∃ x, M'.files f = x := ⟨_, rfl⟩
  obtain ⟨lo, hlo⟩ : ∃ lo, M'.lost = lo := ⟨_, rfl⟩
  have HM := Lib.hid hm
  have HF := Lib.hid hx
  have HLO := Lib.hid hlo
  have HGG := Lib.hid (comes_good hd.good)
  have hsz : x.1.size ≤ maxFile := by
    have := ((comes_good hd.good).sizes f).1
    rw [hM', hx] at this
    exact this
  have hlo2 : 0 ≤ lo ∧ lo ≤ 9223372036854775807 := by
    have := (comes_good hd.good).lost
    rw [hM', hlo] at this
    exact this
  obtain ⟨hlo0, hlo1⟩ := hlo2
  cases r with
  | false =>
    have HE := Lib.hid (show countM M = M' by rw [← hM']; unfold comesD; rw [if_neg (by rw [hr]; decide)])
    clear hd
    by_cases h0 : m = 0
    · subst h0
      obtain ⟨hf0, hf15, hdn⟩ := mayD_arg hm
      by_cases h1 : 0 < lo
      · have HR := Lib.hid (show SyncD M f = ({ M' with lost := lo - 1 }, 9) by unfold SyncD; rw [hM', hm, if_pos rfl, hlo, if_pos h1])
        have y1 : decide (0 < lo) = true := by simpa using h1
        have y2 : IntKind.i64.wrap (lo - 1) = lo - 1 := by rw [IntKind.wrap_i64] <;> omega
        have HL3 := Lib.hid (show 0 ≤ lo - 1 ∧ lo - 1 ≤ 9223372036854775807 by omega)
        clear hm h1 hx hlo hM'
        go_enter Try.func19, Try.ntmps19
        go_wp2_with (first | (go_at_call 43; ((with_reducible refine h43.mono ?_); rintro e w2 ⟨rfl, hd2, ht2⟩; rw [HE.out] at hd2; (have ho2 : ∀ k, O k → O k ∨ w.heap.size ≤ k := fun _ h => Or.inl h); (have hs2 : ∀ k, S k → S k ∨ w.heap.size ≤ k := fun _ h => Or.inl h); (obtain ⟨fm, z0, z3, zf, lb2, hlk⟩ := hd2.opened hf64); rw [HF.out] at hlk; rw [HLO.out] at z3)) | (go_at_call 44; ((with_reducible refine (may44_D hd2 _ _ HM.out).mono ?_); rintro e w' ⟨rfl, rfl⟩)))
        go_ret
        rw [HR.out]
        exact ⟨rfl, After.next hd2 ho2 hs2 ht2 ⟨_, _, hd2.lostD (lo - 1) HL3.out.1 HL3.out.2, fun _ => Or.inl, fun _ => Or.inl, Touch.setCell _ _ _ hd2.own⟩⟩
      · have HR := Lib.hid (show SyncD M f = (settleD M' f x.1, 0) by unfold SyncD; rw [hM', hm, if_pos rfl, hlo, if_neg h1, hx])
        have y1 : decide (0 < lo) = false := by simpa using h1
        clear hm h1 hx hlo hM'
        go_enter Try.func19, Try.ntmps19
        go_wp2_with (first | (go_at_call 43; ((with_reducible refine h43.mono ?_); rintro e w2 ⟨rfl, hd2, ht2⟩; rw [HE.out] at hd2; (have ho2 : ∀ k, O k → O k ∨ w.heap.size ≤ k := fun _ h => Or.inl h); (have hs2 : ∀ k, S k → S k ∨ w.heap.size ≤ k := fun _ h => Or.inl h); (obtain ⟨fm, z0, z3, zf, lb2, hlk⟩ := hd2.opened hf64); rw [HF.out] at hlk; rw [HLO.out] at z3)) | (go_at_call 44; ((with_reducible refine (may44_D hd2 _ _ HM.out).mono ?_); rintro e w' ⟨rfl, rfl⟩)) | (go_at_call 45; ((with_reducible refine (settle45 hd2 hf0 hf15 hsz).mono ?_); rintro e w3 ⟨rfl, hA3⟩)))
        go_ret
        rw [HR.out]
        exact ⟨rfl, After.next hd2 ho2 hs2 ht2 hA3⟩
    · have HR := Lib.hid (show SyncD M f = (M', m) by unfold SyncD; rw [hM', hm, if_neg h0])
      have y1 : (m == 0) = false := by simpa using h0
      have y2 : (m != 0) = true := by simpa using h0
      clear hm h0 hx hlo hM'
      go_enter Try.func19, Try.ntmps19
      go_wp2_with (first | (go_at_call 43; ((with_reducible refine h43.mono ?_); rintro e w2 ⟨rfl, hd2, ht2⟩; rw [HE.out] at hd2; (have ho2 : ∀ k, O k → O k ∨ w.heap.size ≤ k := fun _ h => Or.inl h); (have hs2 : ∀ k, S k → S k ∨ w.heap.size ≤ k := fun _ h => Or.inl h); (obtain ⟨fm, z0, z3, zf, lb2, hlk⟩ := hd2.opened hf64); rw [HF.out] at hlk; rw [HLO.out] at z3)) | (go_at_call 44; ((with_reducible refine (may44_D hd2 _ _ HM.out).mono ?_); rintro e w' ⟨rfl, rfl⟩)))
      go_ret
      rw [HR.out]
      exact ⟨rfl, After.next hd2 ho2 hs2 ht2 hd2.after⟩
  | true =>
    have HE := Lib.hid (show crashD (countM M) (countM M).keep = M' by rw [← hM']; unfold comesD; rw [if_pos hr])
    clear hd
    by_cases h0 : m = 0
    · subst h0
      obtain ⟨hf0, hf15, hdn⟩ := mayD_arg hm
      by_cases h1 : 0 < lo
      · have HR := Lib.hid (show SyncD M f = ({ M' with lost := lo - 1 }, 9) by unfold SyncD; rw [hM', hm, if_pos rfl, hlo, if_pos h1])
        have y1 : decide (0 < lo) = true := by simpa using h1
        have y2 : IntKind.i64.wrap (lo - 1) = lo - 1 := by rw [IntKind.wrap_i64] <;> omega
        have HL3 := Lib.hid (show 0 ≤ lo - 1 ∧ lo - 1 ≤ 9223372036854775807 by omega)
        clear hm h1 hx hlo hM'
        go_enter Try.func19, Try.ntmps19
        go_wp2_with (first | (go_at_call 43; ((with_reducible refine h43.mono ?_); rintro e w1 ⟨rfl, hd1, ht1⟩; (obtain ⟨kv, ck, hk⟩ := hd1.keeping); (have lb1 := hd1.lt))) | (go_at_call 25; ((with_reducible refine (crash25 hd1 hk hd1.apart).mono ?_); rintro e w2 ⟨rfl, hA⟩; rw [HE.out] at hA; (obtain ⟨O2, S2, hd2, ho2, hs2, ht2⟩ := After.ahead ht1 hA); clear hA ck; (obtain ⟨fm, z0, z3, zf, lb2, hlk⟩ := hd2.opened hf64); rw [HF.out] at hlk; rw [HLO.out] at z3)) | (go_at_call 44; ((with_reducible refine (may44_D hd2 _ _ HM.out).mono ?_); rintro e w' ⟨rfl, rfl⟩)))
        go_ret
        rw [HR.out]
        exact ⟨rfl, After.next hd2 ho2 hs2 ht2 ⟨_, _, hd2.lostD (lo - 1) HL3.out.1 HL3.out.2, fun _ => Or.inl, fun _ => Or.inl, Touch.setCell _ _ _ hd2.own⟩⟩
      · have HR := Lib.hid (show SyncD M f = (settleD M' f x.1, 0) by unfold SyncD; rw [hM', hm, if_pos rfl, hlo, if_neg h1, hx])
        have y1 : decide (0 < lo) = false := by simpa using h1
        clear hm h1 hx hlo hM'
        go_enter Try.func19, Try.ntmps19
        go_wp2_with (first | (go_at_call 43; ((with_reducible refine h43.mono ?_); rintro e w1 ⟨rfl, hd1, ht1⟩; (obtain ⟨kv, ck, hk⟩ := hd1.keeping); (have lb1 := hd1.lt))) | (go_at_call 25; ((with_reducible refine (crash25 hd1 hk hd1.apart).mono ?_); rintro e w2 ⟨rfl, hA⟩; rw [HE.out] at hA; (obtain ⟨O2, S2, hd2, ho2, hs2, ht2⟩ := After.ahead ht1 hA); clear hA ck; (obtain ⟨fm, z0, z3, zf, lb2, hlk⟩ := hd2.opened hf64); rw [HF.out] at hlk; rw [HLO.out] at z3)) | (go_at_call 44; ((with_reducible refine (may44_D hd2 _ _ HM.out).mono ?_); rintro e w' ⟨rfl, rfl⟩)) | (go_at_call 45; ((with_reducible refine (settle45 hd2 hf0 hf15 hsz).mono ?_); rintro e w3 ⟨rfl, hA3⟩)))
        go_ret
        rw [HR.out]
        exact ⟨rfl, After.next hd2 ho2 hs2 ht2 hA3⟩
    · have HR := Lib.hid (show SyncD M f = (M', m) by unfold SyncD; rw [hM', hm, if_neg h0])
      have y1 : (m == 0) = false := by simpa using h0
      have y2 : (m != 0) = true := by simpa using h0
      clear hm h0 hx hlo hM'
      go_enter Try.func19, Try.ntmps19
      go_wp2_with (first | (go_at_call 43; ((with_reducible refine h43.mono ?_); rintro e w1 ⟨rfl, hd1, ht1⟩; (obtain ⟨kv, ck, hk⟩ := hd1.keeping); (have lb1 := hd1.lt))) | (go_at_call 25; ((with_reducible refine (crash25 hd1 hk hd1.apart).mono ?_); rintro e w2 ⟨rfl, hA⟩; rw [HE.out] at hA; (obtain ⟨O2, S2, hd2, ho2, hs2, ht2⟩ := After.ahead ht1 hA); clear hA ck; (obtain ⟨fm, z0, z3, zf, lb2, hlk⟩ := hd2.opened hf64); rw [HF.out] at hlk; rw [HLO.out] at z3)) | (go_at_call 44; ((with_reducible refine (may44_D hd2 _ _ HM.out).mono ?_); rintro e w' ⟨rfl, rfl⟩)))
      go_ret
      rw [HR.out]
      exact ⟨rfl, After.next hd2 ho2 hs2 ht2 hd2.after⟩
theorem trunc30 {w : World} {b c : Nat} {M : Mod} {O S : Nat → Prop} (hd : DiskAt w b M O S c) (f size : Int) (hf64 : I64 f) (hs64 : I64 size) : Calls Try.prog 30 #[.pointer (some ⟨b, 0, none⟩), .int .i64 f, .int .i64 size] w fun e w' => e = .returned (.int .i64 (TruncD M f size).2) ∧ After w b (TruncD M f size).1 O S c w' := by
  obtain ⟨r, hr⟩ : ∃ r, endsB M = r := ⟨_, rfl⟩
  have h43 := ends43 hd
  rw [hr] at h43
  obtain ⟨M', hM'⟩ : ∃ M', comesD M = M' := ⟨_, rfl⟩
  obtain ⟨m, hm⟩ : ∃ m, mayD M' f = m := ⟨_, rfl⟩
  obtain ⟨x, hx⟩ : ∃ x, M'.files f = x := ⟨_, rfl⟩
  obtain ⟨lo, hlo⟩ : ∃ lo, M'.lost = lo := ⟨_, rfl⟩
  have HM := Lib.hid hm
  have HF := Lib.hid hx
  have HLO := Lib.hid hlo
  have HGG := Lib.hid (comes_good hd.good)
  have hsz : x.1.size ≤ maxFile := by
    have := ((comes_good hd.good).sizes f).1
    rw [hM', hx] at this
    exact this
  have hlo2 : 0 ≤ lo ∧ lo ≤ 9223372036854775807 := by
    have := (comes_good hd.good).lost
    rw [hM', hlo] at this
    exact this
  obtain ⟨hlo0, hlo1⟩ := hlo2
  cases r with
  | false =>
    have HE := Lib.hid (show countM M = M' by rw [← hM']; unfold comesD; rw [if_neg (by rw [hr]; decide)])
    clear hd
    by_cases h0 : m = 0
    · subst h0
      obtain ⟨hf0, hf15, hdn⟩ := mayD_arg hm
      by_cases h1 : size < 0
      · have HR := Lib.hid (show TruncD M f size = (M', 1) by unfold TruncD; rw [hM', hm, if_pos rfl, if_pos (Or.inl h1)])
        have y1 : decide (size < 0) = true := by simpa using h1
        clear hm h1 hx hlo hM'
        go_enter Try.func30, Try.ntmps30
        go_wp2_with (first | (go_at_call 43; ((with_reducible refine h43.mono ?_); rintro e w2 ⟨rfl, hd2, ht2⟩; rw [HE.out] at hd2; (have ho2 : ∀ k, O k → O k ∨ w.heap.size ≤ k := fun _ h => Or.inl h); (have hs2 : ∀ k, S k → S k ∨ w.heap.size ≤ k := fun _ h => Or.inl h); (obtain ⟨fm, z0, z3, zf, lb2, hlk⟩ := hd2.opened hf64); rw [HF.out] at hlk; rw [HLO.out] at z3)) | (go_at_call 44; ((with_reducible refine (may44_D hd2 _ _ HM.out).mono ?_); rintro e w' ⟨rfl, rfl⟩)))
        go_ret
        rw [HR.out]
        exact ⟨rfl, After.next hd2 ho2 hs2 ht2 hd2.after⟩
      · have y1 : decide (size < 0) = false := by simpa using h1
        by_cases h2 : (x.1.size : Int) < size
        · have HR := Lib.hid (show TruncD M f size = (M', 1) by unfold TruncD; rw [hM', hm, if_pos rfl, hx, if_pos (Or.inr h2)])
          have y2 : decide ((x.1.size : Int) < size) = true := by simpa using h2
          clear hm h1 h2 hx hlo hM'
          go_enter Try.func30, Try.ntmps30
          go_wp2_with (first | (go_at_call 43; ((with_reducible refine h43.mono ?_); rintro e w2 ⟨rfl, hd2, ht2⟩; rw [HE.out] at hd2; (have ho2 : ∀ k, O k → O k ∨ w.heap.size ≤ k := fun _ h => Or.inl h); (have hs2 : ∀ k, S k → S k ∨ w.heap.size ≤ k := fun _ h => Or.inl h); (obtain ⟨fm, z0, z3, zf, lb2, hlk⟩ := hd2.opened hf64); rw [HF.out] at hlk; rw [HLO.out] at z3)) | (go_at_call 44; ((with_reducible refine (may44_D hd2 _ _ HM.out).mono ?_); rintro e w' ⟨rfl, rfl⟩)) | (go_at_call 16; ((with_reducible refine (size16 hd2 f hf64).mono ?_); rintro e w' ⟨rfl, rfl⟩; rw [HF.out])))
          go_ret
          rw [HR.out]
          exact ⟨rfl, After.next hd2 ho2 hs2 ht2 hd2.after⟩
        · have y2 : decide ((x.1.size : Int) < size) = false := by simpa using h2
          obtain ⟨t, rfl⟩ := Int.eq_ofNat_of_zero_le (show 0 ≤ size by omega)
          have HR := Lib.hid (show TruncD M f t = (settleD M' f (x.1.extract 0 t), 0) by unfold TruncD; rw [hM', hm, if_pos rfl, hx, if_neg (by omega), Int.toNat_natCast])
          have ht : t ≤ x.1.size := by omega
          have hes : (x.1.extract 0 t).size ≤ maxFile := by rw [ByteArray.size_extract]; omega
          clear hm h1 h2 hx hlo hM'
          go_enter Try.func30, Try.ntmps30
          go_wp2_with (first | (go_at_call 43; ((with_reducible refine h43.mono ?_); rintro e w2 ⟨rfl, hd2, ht2⟩; rw [HE.out] at hd2; (have ho2 : ∀ k, O k → O k ∨ w.heap.size ≤ k := fun _ h => Or.inl h); (have hs2 : ∀ k, S k → S k ∨ w.heap.size ≤ k := fun _ h => Or.inl h); (obtain ⟨fm, z0, z3, zf, lb2, hlk⟩ := hd2.opened hf64); rw [HF.out] at hlk; rw [HLO.out] at z3)) | (go_at_call 44; ((with_reducible refine (may44_D hd2 _ _ HM.out).mono ?_); rintro e w' ⟨rfl, rfl⟩)) | (go_at_call 16; ((with_reducible refine (size16 hd2 f hf64).mono ?_); rintro e w' ⟨rfl, rfl⟩; rw [HF.out])) | (go_at_call 45; ((with_reducible refine (settle45 hd2 hf0 hf15 hes).mono ?_); rintro e w3 ⟨rfl, hA3⟩)))
          go_ret
          rw [HR.out]
          exact ⟨rfl, After.next hd2 ho2 hs2 ht2 hA3⟩
    · have HR := Lib.hid (show TruncD M f size = (M', m) by unfold TruncD; rw [hM', hm, if_neg h0])
      have y1 : (m == 0) = false := by simpa using h0
      have y2 : (m != 0) = true := by simpa using h0
      clear hm h0 hx hlo hM'
      go_enter Try.func30, Try.ntmps30
      go_wp2_with (first | (go_at_call 43; ((with_reducible refine h43.mono ?_); rintro e w2 ⟨rfl, hd2, ht2⟩; rw [HE.out] at hd2; (have ho2 : ∀ k, O k → O k ∨ w.heap.size ≤ k := fun _ h => Or.inl h); (have hs2 : ∀ k, S k → S k ∨ w.heap.size ≤ k := fun _ h => Or.inl h); (obtain ⟨fm, z0, z3, zf, lb2, hlk⟩ := hd2.opened hf64); rw [HF.out] at hlk; rw [HLO.out] at z3)) | (go_at_call 44; ((with_reducible refine (may44_D hd2 _ _ HM.out).mono ?_); rintro e w' ⟨rfl, rfl⟩)))
      go_ret
      rw [HR.out]
      exact ⟨rfl, After.next hd2 ho2 hs2 ht2 hd2.after⟩
  | true =>
    have HE := Lib.hid (show crashD (countM M) (countM M).keep = M' by rw [← hM']; unfold comesD; rw [if_pos hr])
    clear hd
    by_cases h0 : m = 0
    · subst h0
      obtain ⟨hf0, hf15, hdn⟩ := mayD_arg hm
      by_cases h1 : size < 0
      · have HR := Lib.hid (show TruncD M f size = (M', 1) by unfold TruncD; rw [hM', hm, if_pos rfl, if_pos (Or.inl h1)])
        have y1 : decide (size < 0) = true := by simpa using h1
        clear hm h1 hx hlo hM'
        go_enter Try.func30, Try.ntmps30
        go_wp2_with (first | (go_at_call 43; ((with_reducible refine h43.mono ?_); rintro e w1 ⟨rfl, hd1, ht1⟩; (obtain ⟨kv, ck, hk⟩ := hd1.keeping); (have lb1 := hd1.lt))) | (go_at_call 25; ((with_reducible refine (crash25 hd1 hk hd1.apart).mono ?_); rintro e w2 ⟨rfl, hA⟩; rw [HE.out] at hA; (obtain ⟨O2, S2, hd2, ho2, hs2, ht2⟩ := After.ahead ht1 hA); clear hA ck; (obtain ⟨fm, z0, z3, zf, lb2, hlk⟩ := hd2.opened hf64); rw [HF.out] at hlk; rw [HLO.out] at z3)) | (go_at_call 44; ((with_reducible refine (may44_D hd2 _ _ HM.out).mono ?_); rintro e w' ⟨rfl, rfl⟩)))
        go_ret
        rw [HR.out]
        exact ⟨rfl, After.next hd2 ho2 hs2 ht2 hd2.after⟩
      · have y1 : decide (size < 0) = false := by simpa using h1
        by_cases h2 : (x.1.size : Int) < size
        · have HR := Lib.hid (show TruncD M f size = (M', 1) by unfold TruncD; rw [hM', hm, if_pos rfl, hx, if_pos (Or.inr h2)])
          have y2 : decide ((x.1.size : Int) < size) = true := by simpa using h2
          clear hm h1 h2 hx hlo hM'
          go_enter Try.func30, Try.ntmps30
          go_wp2_with (first | (go_at_call 43; ((with_reducible refine h43.mono ?_); rintro e w1 ⟨rfl, hd1, ht1⟩; (obtain ⟨kv, ck, hk⟩ := hd1.keeping); (have lb1 := hd1.lt))) | (go_at_call 25; ((with_reducible refine (crash25 hd1 hk hd1.apart).mono ?_); rintro e w2 ⟨rfl, hA⟩; rw [HE.out] at hA; (obtain ⟨O2, S2, hd2, ho2, hs2, ht2⟩ := After.ahead ht1 hA); clear hA ck; (obtain ⟨fm, z0, z3, zf, lb2, hlk⟩ := hd2.opened hf64); rw [HF.out] at hlk; rw [HLO.out] at z3)) | (go_at_call 44; ((with_reducible refine (may44_D hd2 _ _ HM.out).mono ?_); rintro e w' ⟨rfl, rfl⟩)) | (go_at_call 16; ((with_reducible refine (size16 hd2 f hf64).mono ?_); rintro e w' ⟨rfl, rfl⟩; rw [HF.out])))
          go_ret
          rw [HR.out]
          exact ⟨rfl, After.next hd2 ho2 hs2 ht2 hd2.after⟩
        · have y2 : decide ((x.1.size : Int) < size) = false := by simpa using h2
          obtain ⟨t, rfl⟩ := Int.eq_ofNat_of_zero_le (show 0 ≤ size by omega)
          have HR := Lib.hid (show TruncD M f t = (settleD M' f (x.1.extract 0 t), 0) by unfold TruncD; rw [hM', hm, if_pos rfl, hx, if_neg (by omega), Int.toNat_natCast])
          have ht : t ≤ x.1.size := by omega
          have hes : (x.1.extract 0 t).size ≤ maxFile := by rw [ByteArray.size_extract]; omega
          clear hm h1 h2 hx hlo hM'
          go_enter Try.func30, Try.ntmps30
          go_wp2_with (first | (go_at_call 43; ((with_reducible refine h43.mono ?_); rintro e w1 ⟨rfl, hd1, ht1⟩; (obtain ⟨kv, ck, hk⟩ := hd1.keeping); (have lb1 := hd1.lt))) | (go_at_call 25; ((with_reducible refine (crash25 hd1 hk hd1.apart).mono ?_); rintro e w2 ⟨rfl, hA⟩; rw [HE.out] at hA; (obtain ⟨O2, S2, hd2, ho2, hs2, ht2⟩ := After.ahead ht1 hA); clear hA ck; (obtain ⟨fm, z0, z3, zf, lb2, hlk⟩ := hd2.opened hf64); rw [HF.out] at hlk; rw [HLO.out] at z3)) | (go_at_call 44; ((with_reducible refine (may44_D hd2 _ _ HM.out).mono ?_); rintro e w' ⟨rfl, rfl⟩)) | (go_at_call 16; ((with_reducible refine (size16 hd2 f hf64).mono ?_); rintro e w' ⟨rfl, rfl⟩; rw [HF.out])) | (go_at_call 45; ((with_reducible refine (settle45 hd2 hf0 hf15 hes).mono ?_); rintro e w3 ⟨rfl, hA3⟩)))
          go_ret
          rw [HR.out]
          exact ⟨rfl, After.next hd2 ho2 hs2 ht2 hA3⟩
    · have HR := Lib.hid (show TruncD M f size = (M', m) by unfold TruncD; rw [hM', hm, if_neg h0])
      have y1 : (m == 0) = false := by simpa using h0
      have y2 : (m != 0) = true := by simpa using h0
      clear hm h0 hx hlo hM'
      go_enter Try.func30, Try.ntmps30
      go_wp2_with (first | (go_at_call 43; ((with_reducible refine h43.mono ?_); rintro e w1 ⟨rfl, hd1, ht1⟩; (obtain ⟨kv, ck, hk⟩ := hd1.keeping); (have lb1 := hd1.lt))) | (go_at_call 25; ((with_reducible refine (crash25 hd1 hk hd1.apart).mono ?_); rintro e w2 ⟨rfl, hA⟩; rw [HE.out] at hA; (obtain ⟨O2, S2, hd2, ho2, hs2, ht2⟩ := After.ahead ht1 hA); clear hA ck; (obtain ⟨fm, z0, z3, zf, lb2, hlk⟩ := hd2.opened hf64); rw [HF.out] at hlk; rw [HLO.out] at z3)) | (go_at_call 44; ((with_reducible refine (may44_D hd2 _ _ HM.out).mono ?_); rintro e w' ⟨rfl, rfl⟩)))
      go_ret
      rw [HR.out]
      exact ⟨rfl, After.next hd2 ho2 hs2 ht2 hd2.after⟩
end Go.Proofs.Ytgeoompgakdbiaa

/- New, Down, Size of a new disk. -/
namespace Go.Proofs.Ytgeoompgakdbiaa
open Go.RowKit Go.Maps
set_option linter.unusedSimpArgs false
set_option linter.unusedVariables false
set_option maxRecDepth 100000
def M0 : Mod := { files := fun _ => nof, queue := [], lost := 0, down := false, armed := 0, keep := [] }
set_option maxHeartbeats 1000000
theorem new10 (w : World) : Calls Try.prog 10 #[] w fun e w' => ∃ b, e = .returned (.pointer (some ⟨b, 0, none⟩)) ∧ Exts w w' ∧ DiskAt w' b M0 (fun k => w.heap.size ≤ k ∧ k < w'.heap.size) (fun _ => False) 0 := by
  have hmk : ∀ (t : TypeId) (w : World), (Instr.makeMap t none).run Try.prog w = .ok (.map (some w.heap.size)) (w.alloc (.map #[] 0)) := fun _ _ => rfl
  go_enter Try.func10, Try.ntmps10
  go_wp2
  go_ret
  have hs := SetAt.made (w.alloc (.map #[] 0))
  rw [World.size_alloc] at hs
  refine ⟨_, rfl, (by repeat (first | exact Exts.refl _ | apply Exts.andR | apply Exts.alloc | apply Exts.wext | apply Exts.drew | apply Exts.drewN)), ⟨fun k hk => hk.elim, fun k hk => hk.2, fun k hk => hk.elim, ⟨by omega, by simp⟩, ⟨w.heap.size, w.heap.size + 1, .slice none 0 0, .slice none 0 0, ?_, ⟨Nat.le_refl _, by simp; omega⟩, ⟨by omega, by simp⟩, fun g hg => (by cases hg), by omega, (FilesAt.made w).touch (O := fun _ => False) (Touch.of_exts (by repeat (first | exact Exts.refl _ | apply Exts.andR | apply Exts.alloc | apply Exts.wext | apply Exts.drew | apply Exts.drewN))) (fun h => h), hs.touch (O := fun _ => False) (Touch.of_exts (by repeat (first | exact Exts.refl _ | apply Exts.andR | apply Exts.alloc | apply Exts.wext | apply Exts.drew | apply Exts.drewN))) (fun h => h), ⟨rfl, .inl ⟨rfl, rfl⟩⟩, ⟨none, 0, rfl, RowF.nil _ _ _⟩⟩, ?_⟩⟩
  · have := (MapKept.heap_alloc ((w.alloc (.map #[] 0)).alloc (.map #[] 0)) (.cells #[.map (some w.heap.size), .slice none 0 0, .map (some (w.heap.size + 1)), .int .i64 0, .bool false, .int .i64 0, .slice none 0 0] 56)).1
    simp only [World.size_alloc] at this
    exact this
  · exact ⟨⟨by decide, by decide⟩, ⟨by decide, by decide⟩, Nat.le_refl _, fun p hp => by simp [M0] at hp, fun f => ⟨Nat.zero_le _, Nat.zero_le _⟩, fun x hx => by simp [M0] at hx, by decide⟩
end Go.Proofs.Ytgeoompgakdbiaa
