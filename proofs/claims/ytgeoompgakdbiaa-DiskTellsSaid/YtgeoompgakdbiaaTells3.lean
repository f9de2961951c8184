/- DiskTells returns true. No condition. -/
import Derived.Test.YtgeoompgakdbiaaM16
import Derived.Deep.RegionHeld3
namespace Go.Proofs.Ytgeoompgakdbiaa
open Go.RowKit Go.Maps
set_option linter.unusedSimpArgs false
set_option linter.unusedVariables false
set_option maxRecDepth 100000
theorem play_step (M : Mod) (l : List ActP) (k : Nat) (a : ActP) (h : l[k]? = some a) : playD M (l.take (k + 1)) = (doD (playD M (l.take k)) a).1 := by
  have : l.take (k + 1) = l.take k ++ [a] := by rw [List.take_add_one, h]; rfl
  rw [this]
  unfold playD
  rw [List.foldl_append]
  rfl
set_option maxHeartbeats 4000000
theorem tells3 {w : World} {v : Value} {l : List ActP} (h : Acts (fun k => k < w.heap.size) w v l) (f at' size : Int) (hf : I64 f) (ha : I64 at') (hz : I64 size) :
    Calls Try.prog 3 #[v, .int .i64 f, .int .i64 at', .int .i64 size] w fun e w' => e = .returned (.bool true) ∧ Exts w w' := by
  obtain ⟨ao, len, cap, rfl, hn, hmm⟩ := h.shape
  have H := Lib.hid h
  have HN := Lib.hid hn
  clear h hn hmm
  cases hfew : fewB l with
  | false =>
    have HFEW := Lib.hid hfew
    clear hfew
    go_enter Try.func3, Try.ntmps3
    go_wp2_with (first | (go_at_call 8; ((with_reducible refine (small8 _).mono ?_); rintro e w1 ⟨rfl, hx1⟩)) | (go_at_call 9; ((with_reducible refine (few9_R (H.out.exts hx1) HFEW.out).mono ?_); rintro e w2 ⟨rfl, rfl⟩)))
    go_ret
    exact ⟨rfl, hx1⟩
  | true =>
    have HFEW := Lib.hid hfew
    obtain ⟨hall, h40⟩ := few_all hfew
    have HALL := Lib.hid hall
    have h40 : len ≤ 40 := HN.out ▸ h40
    clear hfew hall
    go_enter Try.func3, Try.ntmps3
    go_wp2_with (first | (go_at_call 8; ((with_reducible refine (small8 _).mono ?_); rintro e w1 ⟨rfl, hx1⟩)) | (go_at_call 9; ((with_reducible refine (few9_R (H.out.exts hx1) HFEW.out).mono ?_); rintro e w2 ⟨rfl, rfl⟩)) | (go_at_call 10; ((with_reducible refine (own_new w _ hx1).mono ?_); rintro e w3 ⟨b1, rfl, D0, -⟩)) | (go_at_call 11; ((with_reducible refine (with_new D0).mono ?_); rintro e w4 ⟨br, rfl, P0⟩)))
    have HP0 := Lib.hid P0
    clear P0 D0 hx1
    go_loopw [10, 12] (fun sd si wr => ∃ (k b : Nat), sd = .pointer (some ⟨b, 0, none⟩) ∧ si = .int .i64 k ∧ k ≤ len ∧ With w wr b (playD M0 (l.take k)) (6 * k) br (playD M0 (l.take k)) (12 * k)) (fun _ si _ => len - (intOf si).toNat)
    case atStart => exact ⟨0, b1, rfl, rfl, Nat.zero_le _, HP0.out⟩
    case round =>
      obtain ⟨k, b, rfl, rfl, hk, hP⟩ := hrel
      have HP := Lib.hid hP
      by_cases hlt : k < len
      · obtain ⟨a, hla⟩ : ∃ a, l[k]? = some a := ⟨_, List.getElem?_eq_getElem (by rw [← HN.out]; exact hlt)⟩
        obtain ⟨a0, hla0⟩ : ∃ a, l[0]? = some a := ⟨_, List.getElem?_eq_getElem (by rw [← HN.out]; omega)⟩
        obtain ⟨ab, off, ko, kc, hao, lb, c0, c1, c2, c3, c4, hkeep⟩ := H.out.get hla
        obtain ⟨ab', off', ko0, kc0, hao', lb0, z0, z1, z2, z3, z4, hkeep0⟩ := H.out.get hla0
        rw [hao] at hao'
        simp only [Option.some.injEq, Addr.mk.injEq, and_true] at hao'
        obtain ⟨rfl, rfl⟩ := hao'
        subst hao
        simp only [Nat.zero_mul, Nat.add_zero] at z0 z1 z2 z3 z4
        have hok := okA_ok (List.all_eq_true.1 HALL.out a (List.mem_of_getElem? hla)) (H.out.1 a (List.mem_of_getElem? hla))
        have hok0 := okA_ok (List.all_eq_true.1 HALL.out a0 (List.mem_of_getElem? hla0)) (H.out.1 a0 (List.mem_of_getElem? hla0))
        have HST := Lib.hid (play_step M0 l k a hla)
        obtain ⟨M1, r, hd1⟩ : ∃ M1 r, doD (playD M0 (l.take k)) a = (M1, r) := ⟨_, _, rfl⟩
        obtain ⟨dn, hdn⟩ : ∃ d, M1.down = d := ⟨_, rfl⟩
        obtain ⟨sz, hsz⟩ : ∃ d, (M1.files f).1.size = d := ⟨_, rfl⟩
        have HD1 := Lib.hid hd1
        have HDN := Lib.hid hdn
        have HSZ := Lib.hid hsz
        have HKP := Lib.hid hkeep
        have HKP0 := Lib.hid hkeep0
        have HOK := Lib.hid hok
        have HOK0 := Lib.hid hok0
        have r0 : ∀ w', Exts w w' → w'.cell? ⟨ab, off + k * 5, none⟩ = some (.int .i64 a.op) := all_at (Exts.refl _) c0
        have r1 : ∀ w', Exts w w' → w'.cell? ⟨ab, off + k * 5 + 1, none⟩ = some (.int .i64 a.f) := all_at (Exts.refl _) c1
        have r2 : ∀ w', Exts w w' → w'.cell? ⟨ab, off + k * 5 + 2, none⟩ = some (.int .i64 a.n) := all_at (Exts.refl _) c2
        have r3 : ∀ w', Exts w w' → w'.cell? ⟨ab, off + k * 5 + 3, none⟩ = some (.string a.s) := all_at (Exts.refl _) c3
        have r4 : ∀ w', Exts w w' → w'.cell? ⟨ab, off + k * 5 + 4, none⟩ = some (.slice ko a.keep.length kc) := all_at (Exts.refl _) c4
        have Z0 := Lib.hid z0
        have Z1 := Lib.hid z1
        have Z2 := Lib.hid z2
        have Z3 := Lib.hid z3
        have Z4 := Lib.hid z4
        have hS := hP.1
        have hHS := hP.1.below.size
        have hlr : ab < wr.heap.size := by omega
        clear hd1 hdn hsz hkeep hkeep0 hok hok0 c0 c1 c2 c3 c4 z0 z1 z2 z3 z4 hP hla hla0
        go_wp2
        go_region_held3 (fun w' => Exts w w') (first | assumption | exact hS.drew | exact (hS.trans (by repeat (first | exact Exts.refl _ | apply Exts.andR | apply Exts.alloc | apply Exts.wext | apply Exts.drew | apply Exts.drewN)))) ((first | (go_at_call 12; ((with_reducible refine (with_do HP.out (by repeat (first | exact Exts.refl _ | apply Exts.andR | apply Exts.alloc | apply Exts.wext | apply Exts.drew | apply Exts.drewN)) HKP.out HOK.out (by omega) HD1.out).mono ?_); rintro e w5 ⟨rfl, P1⟩; (have hS5 := P1.1))) | (go_at_call 13; ((with_reducible refine (with_tell P1 (Exts.refl _) HKP.out HOK.out (by omega) HD1.out).mono ?_); rintro e w6 ⟨rfl, P2⟩; (have hS6 := P2.1))) | (go_at_call 14; ((with_reducible refine (with_down P2 (Exts.refl _) HDN.out).mono ?_); rintro e w7 ⟨rfl, rfl⟩)) | (go_at_call 15; ((with_reducible refine (with_downR P2 (Exts.refl _) HDN.out).mono ?_); rintro e w7 ⟨rfl, rfl⟩)) | (go_at_call 16; ((with_reducible refine (with_size P2 (Exts.refl _) f hf HSZ.out).mono ?_); rintro e w7 ⟨rfl, rfl⟩)) | (go_at_call 17; ((with_reducible refine (with_sizeR P2 (Exts.refl _) f HSZ.out).mono ?_); rintro e w8 ⟨rfl, hx8⟩; (have hS8 := P2.1.trans hx8)))))
        all_goals
          have P3 := P2.exts hx8
          have HP3 := Lib.hid P3
          clear r0 r1 r2 r3 r4 hS hS5 hS6 hS8 P1 P2 P3 hx8
          by_cases hmid : k = len / 2
          · have q1 : ((k : Int) == (len : Int) / 2) = true := by simp; omega
            have hlen0 : 0 < len := by omega
            clear hmid
            go_wp2_with (first | (go_at_call 18; ((with_reducible refine HP3.out.copy.mono ?_); rintro e w9 ⟨b', rfl, T0⟩; (have f0 := Exts.cell T0.1.1 Z0.out); (have f1 := Exts.cell T0.1.1 Z1.out); (have f2 := Exts.cell T0.1.1 Z2.out); (have f3 := Exts.cell T0.1.1 Z3.out); (have f4 := Exts.cell T0.1.1 Z4.out); (have l9 : ab < w9.heap.size := World.block_lt_of_cell? w9 _ f0))) | (go_at_call 12; ((with_reducible refine (trio_do T0 (Exts.refl _) HKP0.out HOK0.out (by omega)).mono ?_); rintro e w10 ⟨rfl, T1⟩)) | (go_at_call 19; ((with_reducible refine (trio_sync T1 (Exts.refl _) f hf).mono ?_); rintro e w11 ⟨rfl, T2⟩)))
            refine ⟨⟨k + 1, b', rfl, by go_num, by omega, ?_⟩, by simp [intOf]; omega⟩
            rw [HST.out, HD1.out]
            exact T2.1.more (by omega) (by omega) (by omega) (by omega)
          · have q1 : ((k : Int) == (len : Int) / 2) = false := by rw [beq_eq_false_iff_ne]; omega
            clear hmid
            go_wp2
            refine ⟨⟨k + 1, b, rfl, by go_num, by omega, ?_⟩, by simp [intOf]; omega⟩
            rw [HST.out, HD1.out]
            exact HP3.out.more (by omega) (by omega) (by omega) (by omega)
      · obtain rfl : k = len := by omega
        have e1 : l.take k = l := List.take_of_length_le (by rw [HN.out]; exact Nat.le_refl _)
        obtain ⟨⟨x, r⟩, hr⟩ : ∃ p, readD (playD M0 l) f at' size = p := ⟨_, rfl⟩
        have HR := Lib.hid hr
        have HE := Lib.hid e1
        rw [HE.out] at hP
        have HP2 := Lib.hid hP
        clear hP hr e1 HP
        go_wp2_with (first | (go_at_call 20; ((with_reducible refine (with_read HP2.out (Exts.refl _) f at' size ha hz HR.out).mono ?_); rintro e w5 ⟨rfl, rfl⟩)) | (go_at_call 21; ((with_reducible refine (with_readR HP2.out (Exts.refl _) f at' size ha hz HR.out).mono ?_); rintro e w6 ⟨rfl, hx6⟩)))
        go_ret
        exact ⟨rfl, HP2.out.1.trans hx6⟩
end Go.Proofs.Ytgeoompgakdbiaa
