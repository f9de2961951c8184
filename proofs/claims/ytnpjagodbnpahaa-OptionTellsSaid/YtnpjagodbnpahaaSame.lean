/- SamePhase, SamePhases and Same of the reference, where the two sides read alike. Conditions: the numbers are small. -/
import Derived.Test.YtnpjagodbnpahaaOpt4
namespace Go.Proofs.Ytnpjagodbnpahaa
open Go.RowKit
set_option linter.unusedSimpArgs false
set_option linter.unusedVariables false

theorem volCells_len (v : Vol) : (volCells v).length = 9 := rfl
theorem entCells_len (v : Ent) : (entCells v).length = 2 := rfl
theorem volFlat_at (l : List Vol) (i j : Nat) (hj : j < 9) : (volFlat l)[i * 9 + j]? = (l[i]?).bind fun v => (volCells v)[j]? := by
  unfold volFlat
  rw [flatten_at _ (by intro x hx; rw [List.mem_map] at hx; obtain ⟨v, _, rfl⟩ := hx; rfl) i j hj, List.getElem?_map]
  cases l[i]? <;> rfl
theorem entFlat_at (l : List Ent) (i j : Nat) (hj : j < 2) : (entFlat l)[i * 2 + j]? = (l[i]?).bind fun v => (entCells v)[j]? := by
  unfold entFlat
  rw [flatten_at _ (by intro x hx; rw [List.mem_map] at hx; obtain ⟨v, _, rfl⟩ := hx; rfl) i j hj, List.getElem?_map]
  cases l[i]? <;> rfl

theorem Vols.get {S : Nat → Prop} {w : World} {ao : Option Addr} {cap : Nat} {l : List Vol} (h : Vols S w (.slice ao l.length cap) l) {i : Nat} {p1 p2 p3 p4 p5 p6 p7 p8 : Int} {p9 : Bool} (hp : l[i]? = some (p1, p2, p3, p4, p5, p6, p7, p8, p9)) :
    ∃ b off, ao = some ⟨b, off, none⟩ ∧ b < w.heap.size ∧ w.cell? ⟨b, off + i * 9, none⟩ = some (.int .i64 p1) ∧ w.cell? ⟨b, off + i * 9 + 1, none⟩ = some (.int .i64 p2) ∧ w.cell? ⟨b, off + i * 9 + 2, none⟩ = some (.int .i64 p3)
      ∧ w.cell? ⟨b, off + i * 9 + 3, none⟩ = some (.int .i64 p4) ∧ w.cell? ⟨b, off + i * 9 + 4, none⟩ = some (.int .i64 p5) ∧ w.cell? ⟨b, off + i * 9 + 5, none⟩ = some (.int .i64 p6) ∧ w.cell? ⟨b, off + i * 9 + 6, none⟩ = some (.int .i64 p7)
      ∧ w.cell? ⟨b, off + i * 9 + 7, none⟩ = some (.int .i64 p8) ∧ w.cell? ⟨b, off + i * 9 + 8, none⟩ = some (.bool p9) := by
  obtain ⟨h1, ao2, cap2, hv, h2, h3, h4, h5⟩ := h
  simp only [Value.slice.injEq, true_and] at hv
  obtain ⟨rfl, rfl⟩ := hv
  obtain ⟨b, off, rfl, hS, hb, hc⟩ := h5 (by have := (List.getElem?_eq_some_iff.1 hp).1; omega)
  have g : ∀ j c, j < 9 → (volCells (p1, p2, p3, p4, p5, p6, p7, p8, p9))[j]? = some c → w.cell? ⟨b, off + i * 9 + j, none⟩ = some c := by
    intro j c hj he
    rw [Nat.add_assoc]
    exact hc _ _ (by rw [volFlat_at l i j hj, hp]; exact he)
  exact ⟨b, off, rfl, hb, g 0 _ (by omega) rfl, g 1 _ (by omega) rfl, g 2 _ (by omega) rfl, g 3 _ (by omega) rfl, g 4 _ (by omega) rfl, g 5 _ (by omega) rfl, g 6 _ (by omega) rfl, g 7 _ (by omega) rfl, g 8 _ (by omega) rfl⟩
theorem Ents.get {S : Nat → Prop} {w : World} {ao : Option Addr} {cap : Nat} {l : List Ent} (h : Ents S w (.slice ao l.length cap) l) {i : Nat} {s : ByteArray} {n : Int} (hp : l[i]? = some (s, n)) :
    ∃ b off, ao = some ⟨b, off, none⟩ ∧ b < w.heap.size ∧ w.cell? ⟨b, off + i * 2, none⟩ = some (.string s) ∧ w.cell? ⟨b, off + i * 2 + 1, none⟩ = some (.int .i64 n) := by
  obtain ⟨h1, ao2, cap2, hv, h2, h3, h4, h5⟩ := h
  simp only [Value.slice.injEq, true_and] at hv
  obtain ⟨rfl, rfl⟩ := hv
  obtain ⟨b, off, rfl, hS, hb, hc⟩ := h5 (by have := (List.getElem?_eq_some_iff.1 hp).1; omega)
  have g : ∀ j c, j < 2 → (entCells (s, n))[j]? = some c → w.cell? ⟨b, off + i * 2 + j, none⟩ = some c := by
    intro j c hj he
    rw [Nat.add_assoc]
    exact hc _ _ (by rw [entFlat_at l i j hj, hp]; exact he)
  exact ⟨b, off, rfl, hb, g 0 _ (by omega) rfl, g 1 _ (by omega) rfl⟩

set_option maxRecDepth 100000
set_option maxHeartbeats 2000000 in
theorem same13 (aa ab ba bb : Option Addr) (ca cb da db : Nat) (p : PhC) (w : World) {S S' : Nat → Prop} (h1 : Vols S w (.slice aa p.1.length ca) p.1) (h2 : Ents S w (.slice ab p.2.length cb) p.2) (h3 : Vols S' w (.slice ba p.1.length da) p.1) (h4 : Ents S' w (.slice bb p.2.length db) p.2)
    (f1 : p.1.length ≤ 100000) (f2 : p.2.length ≤ 100000) :
    Calls Try.prog 13 #[.agg #[.slice aa p.1.length ca, .slice ab p.2.length cb], .agg #[.slice ba p.1.length da, .slice bb p.2.length db]] w fun e w' => e = .returned (.bool true) ∧ Exts w w' := by
  have H1 := Lib.hid h1
  have H2 := Lib.hid h2
  have H3 := Lib.hid h3
  have H4 := Lib.hid h4
  clear h1 h2 h3 h4
  go_enter Try.func13, Try.ntmps13
  go_wp2
  go_loopw [5] (fun i wr => ∃ (k : Nat) (x : Ex), k ≤ p.1.length ∧ i = .int .i64 k ∧ wr = wext ((w.alloc (.cells #[.slice aa p.1.length ca, .slice ab p.2.length cb] 33)).alloc (.cells #[.slice ba p.1.length da, .slice bb p.2.length db] 33)) x) (fun i _ => p.1.length - (intOf i).toNat)
  case atStart => exact ⟨0, _, by omega, rfl, (wext_self _).symm⟩
  case round =>
    obtain ⟨k, x, hk, rfl, rfl⟩ := hrel
    by_cases hlt : k < p.1.length
    · obtain ⟨⟨p1, p2, p3, p4, p5, p6, p7, p8, p9⟩, hp⟩ : ∃ q, p.1[k]? = some q := ⟨p.1[k], List.getElem?_eq_getElem hlt⟩
      obtain ⟨b, off, rfl, hb, e0, e1, e2, e3, e4, e5, e6, e7, e8⟩ := H1.out.get hp
      obtain ⟨b', off', rfl, hb', d0, d1, d2, d3, d4, d5, d6, d7, d8⟩ := H3.out.get hp
      go_wp2
      first | refine wp_region_ext_lit2 (by kernel_rfl) (by kernel_rfl) ?_ | refine wp_region_ext_lit (by kernel_rfl) (by kernel_rfl) ?_
      repeat (go_big_quiet_step (fail))
      refine wpQuiet_nil ?_
      intro _ hwq'
      obtain ⟨xq, hwq''⟩ := hwq'
      subst hwq''
      go_wp2
      go_roundw
      case rel => exact ⟨k + 1, xq, by omega, by go_num, rfl⟩
      case measure => simp [intOf]; omega
    · go_wp2
      go_loopw [6] (fun i wr => ∃ (k : Nat) (x : Ex), k ≤ p.2.length ∧ i = .int .i64 k ∧ wr = wext ((w.alloc (.cells #[.slice aa p.1.length ca, .slice ab p.2.length cb] 33)).alloc (.cells #[.slice ba p.1.length da, .slice bb p.2.length db] 33)) x) (fun i _ => p.2.length - (intOf i).toNat)
      case atStart => exact ⟨0, x, by omega, rfl, rfl⟩
      case round =>
        obtain ⟨k2, x2, hk2, rfl, rfl⟩ := hrel
        by_cases hlt2 : k2 < p.2.length
        · obtain ⟨⟨s, n⟩, hp⟩ : ∃ q, p.2[k2]? = some q := ⟨p.2[k2], List.getElem?_eq_getElem hlt2⟩
          obtain ⟨b, off, rfl, hb, e0, e1⟩ := H2.out.get hp
          obtain ⟨b', off', rfl, hb', d0, d1⟩ := H4.out.get hp
          go_wp2
          first | refine wp_region_ext_lit2 (by kernel_rfl) (by kernel_rfl) ?_ | refine wp_region_ext_lit (by kernel_rfl) (by kernel_rfl) ?_
          repeat (go_big_quiet_step (fail))
          refine wpQuiet_nil ?_
          intro _ hwq'
          obtain ⟨xq, hwq''⟩ := hwq'
          subst hwq''
          go_wp2
          go_roundw
          case rel => exact ⟨k2 + 1, xq, by omega, by go_num, rfl⟩
          case measure => simp [intOf]; omega
        · go_wp2
          go_ret
          exact ⟨rfl, (by repeat (first | exact Exts.refl _ | apply Exts.andR | apply Exts.alloc | apply Exts.wext | apply Exts.drew | apply Exts.drewN))⟩

set_option maxHeartbeats 2000000 in
theorem same15 (ao bo : Option Addr) (ca da : Nat) (P : List PhC) (w : World) {S S' : Nat → Prop} (h1 : Phs S w (.slice ao P.length ca) P) (h2 : Phs S' w (.slice bo P.length da) P) (hf : Fits P) :
    Calls Try.prog 15 #[.slice ao P.length ca, .slice bo P.length da] w fun e w' => e = .returned (.bool true) ∧ Exts w w' := by
  have H1 := Lib.hid h1
  have H2 := Lib.hid h2
  have HF := Lib.hid hf.2
  have hn := hf.1
  clear h1 h2 hf
  go_enter Try.func15, Try.ntmps15
  go_wp2
  go_loopw [5] (fun i wr => ∃ (k : Nat) (x : Ex), k ≤ P.length ∧ i = .int .i64 k ∧ wr = wext w x) (fun i _ => P.length - (intOf i).toNat)
  case atStart => exact ⟨0, _, by omega, rfl, (wext_self _).symm⟩
  case round =>
    obtain ⟨k, x, hk, rfl, rfl⟩ := hrel
    by_cases hlt : k < P.length
    · obtain ⟨p, hp⟩ : ∃ q, P[k]? = some q := ⟨P[k], List.getElem?_eq_getElem hlt⟩
      have fa := HF.out p (List.mem_of_getElem? hp)
      obtain ⟨b, off, aa, ca', ab, cb', rfl, hb, _, e0, e1, v1, v2⟩ := H1.out.get hp
      obtain ⟨b', off', ba, da', bb, db', rfl, hb', _, d0, d1, v3, v4⟩ := H2.out.get hp
      have V1 := Lib.hid v1
      have V2 := Lib.hid v2
      have V3 := Lib.hid v3
      have V4 := Lib.hid v4
      clear v1 v2 v3 v4
      go_wp2
      first | refine wp_region_ext_lit2 (by kernel_rfl) (by kernel_rfl) ?_ | refine wp_region_ext_lit (by kernel_rfl) (by kernel_rfl) ?_
      repeat (go_big_quiet_step (((first | (go_at_call 13; exact Calls.ext_of (same13 _ _ _ _ _ _ _ _ p _ (V1.out.exts (by repeat (first | exact Exts.refl _ | apply Exts.andR | apply Exts.alloc | apply Exts.wext | apply Exts.drew | apply Exts.drewN))) (V2.out.exts (by repeat (first | exact Exts.refl _ | apply Exts.andR | apply Exts.alloc | apply Exts.wext | apply Exts.drew | apply Exts.drewN))) (V3.out.exts (by repeat (first | exact Exts.refl _ | apply Exts.andR | apply Exts.alloc | apply Exts.wext | apply Exts.drew | apply Exts.drewN))) (V4.out.exts (by repeat (first | exact Exts.refl _ | apply Exts.andR | apply Exts.alloc | apply Exts.wext | apply Exts.drew | apply Exts.drewN))) fa.1 fa.2))))))
      refine wpQuiet_nil ?_
      intro _ hwq'
      obtain ⟨xq, hwq''⟩ := hwq'
      subst hwq''
      go_wp2
      go_roundw
      case rel => exact ⟨k + 1, xq, by omega, by go_num, rfl⟩
      case measure => simp [intOf]; omega
    · go_wp2
      go_ret
      exact ⟨rfl, (by repeat (first | exact Exts.refl _ | apply Exts.andR | apply Exts.alloc | apply Exts.wext | apply Exts.drew | apply Exts.drewN))⟩

set_option maxHeartbeats 2000000 in
theorem same14 (id ho lot us un : Int) (ov : Bool) (ao bo : Option Addr) (ca da : Nat) (P : List PhC) (w : World) {S S' : Nat → Prop} (h1 : Phs S w (.slice ao P.length ca) P) (h2 : Phs S' w (.slice bo P.length da) P) (hf : Fits P) :
    Calls Try.prog 14 #[rightV id ho lot (.slice ao P.length ca) us un ov, rightV id ho lot (.slice bo P.length da) us un ov] w fun e w' => e = .returned (.bool true) ∧ Exts w w' := by
  have H1 := Lib.hid h1
  have H2 := Lib.hid h2
  have HF := Lib.hid hf
  clear h1 h2 hf
  have b : (ov == ov) = true := by simp
  go_enter Try.func14, Try.ntmps14
  go_wp2_with (first | (go_at_call 15; refine (same15 _ _ _ _ P _ (H1.out.exts (by repeat (first | exact Exts.refl _ | apply Exts.andR | apply Exts.alloc | apply Exts.wext | apply Exts.drew | apply Exts.drewN))) (H2.out.exts (by repeat (first | exact Exts.refl _ | apply Exts.andR | apply Exts.alloc | apply Exts.wext | apply Exts.drew | apply Exts.drewN))) HF.out).mono ?_; rintro e w' ⟨rfl, x, rfl⟩))
  go_ret
  exact ⟨rfl, (by repeat (first | exact Exts.refl _ | apply Exts.andR | apply Exts.alloc | apply Exts.wext | apply Exts.drew | apply Exts.drewN))⟩
end Go.Proofs.Ytnpjagodbnpahaa
