/- OptionTells returns true. No condition. -/
import Derived.Test.YtnpjagodbnpahaaAny
import Derived.Test.YtnpjagodbnpahaaPeaks
namespace Go.Proofs.Ytnpjagodbnpahaa
open Go.RowKit
set_option linter.unusedSimpArgs false
set_option linter.unusedVariables false
theorem box_on {w W : World} {B : Nat} {L : Array Value} (h : Exts w W) (l : B < w.heap.size) (c : ∀ i, w.cell? ⟨B, i, none⟩ = L[i]?) : (∀ i, W.cell? ⟨B, i, none⟩ = L[i]?) ∧ B < W.heap.size := by
  obtain ⟨x, rfl⟩ := h
  exact ⟨fun i => (wext_cell w x B i l).trans (c i), by simp; omega⟩
theorem box_new {w W : World} {B : Nat} (L : Array Value) {t : TypeId} (h : Exts (w.alloc (.cells L t)) W) (hB : w.heap.size = B) : (∀ i, W.cell? ⟨B, i, none⟩ = L[i]?) ∧ B < W.heap.size := by
  subst hB
  obtain ⟨x, rfl⟩ := h
  exact ⟨fun i => (wext_cell _ _ _ _ (by simp)).trans (World.cell?_alloc_new w L t i), by simp; omega⟩
theorem use12_R (id ho lot us un : Int) (ov : Bool) (ao : Option Addr) (cap : Nat) (P : List PhC) (w : World) {S : Nat → Prop} (h : Phs S w (.slice ao P.length cap) P) (hf : Fits P) (day : Int) (R1 : RD) (p1 : PhC) (e1 : Int) (hD : usD ⟨id, ho, lot, us, un, ov, P⟩ day = (R1, p1, e1)) :
    Calls Try.prog 12 #[rightV id ho lot (.slice ao P.length cap) us un ov, .int .i64 day] w fun e w' => ∃ a k aa ca ab cb, e = .returned (.tuple #[rightV R1.id R1.ho R1.lot (.slice a R1.P.length k) R1.us R1.un R1.ov, .agg #[.slice aa p1.1.length ca, .slice ab p1.2.length cb], .int .i64 e1]) ∧ Exts w w' ∧ Phs (fun _ => True) w' (.slice a R1.P.length k) R1.P ∧ Vols (fun _ => True) w' (.slice aa p1.1.length ca) p1.1 ∧ Ents (fun _ => True) w' (.slice ab p1.2.length cb) p1.2 := by
  have := use12_any id ho lot us un ov ao cap P w h hf day
  rw [hD] at this
  exact this
theorem use20_R (id ho lot us un : Int) (ov : Bool) (ao : Option Addr) (cap : Nat) (P : List PhC) (w : World) {S : Nat → Prop} (h : Phs S w (.slice ao P.length cap) P) (hf : Fits P) (day : Int) (R1 : RD) (p1 : PhC) (e1 : Int) (hD : usD ⟨id, ho, lot, us, un, ov, P⟩ day = (R1, p1, e1)) :
    Calls Try.prog 20 #[rightV id ho lot (.slice ao P.length cap) us un ov, .int .i64 day] w fun e w' => ∃ a k aa ca ab cb, e = .returned (.tuple #[rightV R1.id R1.ho R1.lot (.slice a R1.P.length k) R1.us R1.un R1.ov, .agg #[.slice aa p1.1.length ca, .slice ab p1.2.length cb], .int .i64 e1]) ∧ Exts w w' ∧ Phs (fun _ => True) w' (.slice a R1.P.length k) R1.P ∧ Vols (fun _ => True) w' (.slice aa p1.1.length ca) p1.1 ∧ Ents (fun _ => True) w' (.slice ab p1.2.length cb) p1.2 := by
  have := use20_any id ho lot us un ov ao cap P w h hf day
  rw [hD] at this
  exact this
theorem lapse16_R (id ho lot us un : Int) (ov : Bool) (ao : Option Addr) (cap : Nat) (P : List PhC) (w : World) {S : Nat → Prop} (h : Phs S w (.slice ao P.length cap) P) (hf : Fits P) (day : Int) (R2 : RD) (b2 : Bool) (hD : lapseD ⟨id, ho, lot, us, un, ov, P⟩ day = (R2, b2)) :
    Calls Try.prog 16 #[rightV id ho lot (.slice ao P.length cap) us un ov, .int .i64 day] w fun e w' => ∃ a k, e = .returned (.tuple #[rightV R2.id R2.ho R2.lot (.slice a R2.P.length k) R2.us R2.un R2.ov, .bool b2]) ∧ Exts w w' ∧ Phs (fun _ => True) w' (.slice a R2.P.length k) R2.P := by
  have := lapse16_any id ho lot us un ov ao cap P w h hf day
  rw [hD] at this
  exact this
theorem lapse21_R (id ho lot us un : Int) (ov : Bool) (ao : Option Addr) (cap : Nat) (P : List PhC) (w : World) {S : Nat → Prop} (h : Phs S w (.slice ao P.length cap) P) (hf : Fits P) (day : Int) (R2 : RD) (b2 : Bool) (hD : lapseD ⟨id, ho, lot, us, un, ov, P⟩ day = (R2, b2)) :
    Calls Try.prog 21 #[rightV id ho lot (.slice ao P.length cap) us un ov, .int .i64 day] w fun e w' => ∃ a k, e = .returned (.tuple #[rightV R2.id R2.ho R2.lot (.slice a R2.P.length k) R2.us R2.un R2.ov, .bool b2]) ∧ Exts w w' ∧ Phs (fun _ => True) w' (.slice a R2.P.length k) R2.P := by
  have := lapse21_any id ho lot us un ov ao cap P w h hf day
  rw [hD] at this
  exact this
theorem transfer22_R (id ho lot us un : Int) (ov : Bool) (ao : Option Addr) (cap : Nat) (P : List PhC) (w : World) {S : Nat → Prop} (h : Phs S w (.slice ao P.length cap) P) (hf : Fits P) (n : Int) (R3 : RD) (e3 : Int) (hD : transferD ⟨id, ho, lot, us, un, ov, P⟩ n = (R3, e3)) :
    Calls Try.prog 22 #[rightV id ho lot (.slice ao P.length cap) us un ov, .int .i64 n] w fun e w' => ∃ a k, e = .returned (.tuple #[rightV R3.id R3.ho R3.lot (.slice a R3.P.length k) R3.us R3.un R3.ov, .int .i64 e3]) ∧ Exts w w' ∧ Phs (fun _ => True) w' (.slice a R3.P.length k) R3.P := by
  have := transfer22_any id ho lot us un ov ao cap P w h hf n
  rw [hD] at this
  exact this
theorem transfer23_R (id ho lot us un : Int) (ov : Bool) (ao : Option Addr) (cap : Nat) (P : List PhC) (w : World) {S : Nat → Prop} (h : Phs S w (.slice ao P.length cap) P) (hf : Fits P) (n : Int) (R3 : RD) (e3 : Int) (hD : transferD ⟨id, ho, lot, us, un, ov, P⟩ n = (R3, e3)) :
    Calls Try.prog 23 #[rightV id ho lot (.slice ao P.length cap) us un ov, .int .i64 n] w fun e w' => ∃ a k, e = .returned (.tuple #[rightV R3.id R3.ho R3.lot (.slice a R3.P.length k) R3.us R3.un R3.ov, .int .i64 e3]) ∧ Exts w w' ∧ Phs (fun _ => True) w' (.slice a R3.P.length k) R3.P := by
  have := transfer23_any id ho lot us un ov ao cap P w h hf n
  rw [hD] at this
  exact this
theorem split17_R (id ho lot us un : Int) (ov : Bool) (ao : Option Addr) (cap : Nat) (P : List PhC) (w : World) {S : Nat → Prop} (h : Phs S w (.slice ao P.length cap) P) (hf : Fits P) (n nid : Int) (R4 R5 : RD) (e5 : Int) (hD : splitD ⟨id, ho, lot, us, un, ov, P⟩ n nid = (R4, R5, e5)) :
    Calls Try.prog 17 #[rightV id ho lot (.slice ao P.length cap) us un ov, .int .i64 n, .int .i64 nid] w fun e w' => ∃ a k b l, e = .returned (.tuple #[rightV R4.id R4.ho R4.lot (.slice a R4.P.length k) R4.us R4.un R4.ov, rightV R5.id R5.ho R5.lot (.slice b R5.P.length l) R5.us R5.un R5.ov, .int .i64 e5]) ∧ Exts w w' ∧ Phs (fun _ => True) w' (.slice a R4.P.length k) R4.P ∧ Phs (fun _ => True) w' (.slice b R5.P.length l) R5.P := by
  have := split17_any id ho lot us un ov ao cap P w h hf n nid
  rw [hD] at this
  exact this
theorem split24_R (id ho lot us un : Int) (ov : Bool) (ao : Option Addr) (cap : Nat) (P : List PhC) (w : World) {S : Nat → Prop} (h : Phs S w (.slice ao P.length cap) P) (hf : Fits P) (n nid : Int) (R4 R5 : RD) (e5 : Int) (hD : splitD ⟨id, ho, lot, us, un, ov, P⟩ n nid = (R4, R5, e5)) :
    Calls Try.prog 24 #[rightV id ho lot (.slice ao P.length cap) us un ov, .int .i64 n, .int .i64 nid] w fun e w' => ∃ a k b l, e = .returned (.tuple #[rightV R4.id R4.ho R4.lot (.slice a R4.P.length k) R4.us R4.un R4.ov, rightV R5.id R5.ho R5.lot (.slice b R5.P.length l) R5.us R5.un R5.ov, .int .i64 e5]) ∧ Exts w w' ∧ Phs (fun _ => True) w' (.slice a R4.P.length k) R4.P ∧ Phs (fun _ => True) w' (.slice b R5.P.length l) R5.P := by
  have := split24_any id ho lot us un ov ao cap P w h hf n nid
  rw [hD] at this
  exact this

theorem left11_LP (id ho lot us un : Int) (ov : Bool) (ao : Option Addr) (cap : Nat) (P LP : List PhC) (hL : leftP P us ov = LP) (w : World) {S : Nat → Prop} (h : Phs S w (.slice ao P.length cap) P) (hf : Fits P) :
    Calls Try.prog 11 #[rightV id ho lot (.slice ao P.length cap) us un ov] w fun e w' => ∃ ao' c', e = .returned (.slice ao' LP.length c') ∧ Exts w w' ∧ Phs (fun b => w.heap.size ≤ b) w' (.slice ao' LP.length c') LP := by
  subst hL
  exact left11 id ho lot us un ov ao cap P w h hf
theorem left27_LP (id ho lot us un : Int) (ov : Bool) (ao : Option Addr) (cap : Nat) (P LP : List PhC) (hL : leftP P us ov = LP) (w : World) {S : Nat → Prop} (h : Phs S w (.slice ao P.length cap) P) (hf : Fits P) :
    Calls Try.prog 27 #[rightV id ho lot (.slice ao P.length cap) us un ov] w fun e w' => ∃ ao' c', e = .returned (.slice ao' LP.length c') ∧ Exts w w' ∧ Phs (fun b => w.heap.size ≤ b) w' (.slice ao' LP.length c') LP := by
  subst hL
  exact left27 id ho lot us un ov ao cap P w h hf
theorem leftP_fits {P : List PhC} (h : Fits P) (us : Int) (ov : Bool) : Fits (leftP P us ov) := by
  unfold leftP
  split
  · exact h.drop _
  · exact fits_nil

set_option maxRecDepth 100000
set_option maxHeartbeats 4000000 in
theorem tells6_in (id ho lot us un : Int) (ov : Bool) (ao : Option Addr) (cap : Nat) (P : List PhC) (day n nid : Int) (al : Option Addr) (cl : Nat) (l : List Int) (w : World) {S S' : Nat → Prop} (h : Phs S w (.slice ao P.length cap) P) (hI : Ints S' w (.slice al l.length cl) l) (hf : fewB P = true) (hn : l.length ≤ 100) :
    Calls Try.prog 6 #[rightV id ho lot (.slice ao P.length cap) us un ov, .int .i64 day, .int .i64 n, .int .i64 nid, .slice al l.length cl] w fun e w' => e = .returned (.bool true) ∧ Exts w w' := by
  have H := Lib.hid h
  have HI := Lib.hid hI
  have HF := Lib.hid hf
  have ht := fits_of_few hf
  have HT := Lib.hid ht
  have hP := few_len hf
  obtain ⟨⟨R1, p1, e1⟩, hD1⟩ : ∃ D, usD ⟨id, ho, lot, us, un, ov, P⟩ day = D := ⟨_, rfl⟩
  obtain ⟨⟨R2, b2⟩, hD2⟩ : ∃ D, lapseD ⟨id, ho, lot, us, un, ov, P⟩ day = D := ⟨_, rfl⟩
  obtain ⟨⟨R3, e3⟩, hD3⟩ : ∃ D, transferD ⟨id, ho, lot, us, un, ov, P⟩ n = D := ⟨_, rfl⟩
  obtain ⟨⟨R4, R5, e5⟩, hD5⟩ : ∃ D, splitD ⟨id, ho, lot, us, un, ov, P⟩ n nid = D := ⟨_, rfl⟩
  obtain ⟨LP, hLP⟩ : ∃ LP, leftP P us ov = LP := ⟨_, rfl⟩
  obtain ⟨lb, hlb⟩ : ∃ b, liv P.length us ov = b := ⟨_, rfl⟩
  have f1 := usD_fits ⟨id, ho, lot, us, un, ov, P⟩ ht day
  have f2 := lapseD_fits ⟨id, ho, lot, us, un, ov, P⟩ ht day
  have f3 := transferD_fits ⟨id, ho, lot, us, un, ov, P⟩ ht n
  have f5 := splitD_fits ⟨id, ho, lot, us, un, ov, P⟩ ht n nid
  have f6 := leftP_fits ht us ov
  rw [hD1] at f1
  rw [hD2] at f2
  rw [hD3] at f3
  rw [hD5] at f5
  rw [hLP] at f6
  have F1 := Lib.hid f1.1
  have G1 := Lib.hid f1.2.1
  have G2 := Lib.hid f1.2.2
  have F2 := Lib.hid f2
  have F3 := Lib.hid f3
  have F4 := Lib.hid f5.1
  have F5 := Lib.hid f5.2
  have F6 := Lib.hid f6
  have D1 := Lib.hid hD1
  have D2 := Lib.hid hD2
  have D3 := Lib.hid hD3
  have D5 := Lib.hid hD5
  have DL := Lib.hid hLP
  have DB := Lib.hid hlb
  have b100 : decide ((100 : Int) < (l.length : Int)) = false := by simp; omega
  clear h hI hf ht hD1 hD2 hD3 hD5 hLP hlb f1 f2 f3 f5 f6
  go_enter Try.func6, Try.ntmps6
  go_wp2_with (first | (go_at_call 8; ((with_reducible refine (small8 _).mono ?_); rintro e w' ⟨rfl, x1, rfl⟩)) | (go_at_call 9; ((with_reducible refine (few9_eq _ _ _ _ _ _ _ _ P _ _ HF.out (H.out.exts (by repeat (first | exact Exts.refl _ | apply Exts.andR | apply Exts.alloc | apply Exts.wext | apply Exts.drew | apply Exts.drewN)))).mono ?_); rintro e w' ⟨rfl, x2, rfl⟩)) | (go_at_call 12; ((with_reducible refine (use12_R _ _ _ _ _ _ _ _ P _ (H.out.exts (by repeat (first | exact Exts.refl _ | apply Exts.andR | apply Exts.alloc | apply Exts.wext | apply Exts.drew | apply Exts.drewN))) HT.out _ R1 p1 e1 D1.out).mono ?_); rintro e W2 ⟨a12, k12, aa3, ca3, ab3, cb3, rfl, hx, h1, h2, h3⟩; (have EW2 := Lib.hid (Exts.trans (a := w) (by repeat (first | exact Exts.refl _ | apply Exts.andR | apply Exts.alloc | apply Exts.wext | apply Exts.drew | apply Exts.drewN)) hx)); (obtain ⟨ct5_2, lt5_2⟩ := box_new (W := W2) (B := w.heap.size) #[.int .i64 id, .int .i64 ho, .int .i64 lot, .slice ao P.length cap, .int .i64 us, .int .i64 un, .bool ov] (Exts.trans (by repeat (first | with_reducible exact Exts.refl _ | with_reducible apply Exts.alloc | with_reducible apply Exts.wext | with_reducible apply Exts.drew)) hx) rfl); (have KH2 := Lib.hid (H.out.exts EW2.out)); (have KA2 := Lib.hid h1); (have KV2 := Lib.hid h2); (have KE2 := Lib.hid h3); clear h1 h2 h3; clear hx)) | (go_at_call 20; ((with_reducible refine (use20_R _ _ _ _ _ _ _ _ P _ (Phs.exts KH2.out (by repeat (first | exact Exts.refl _ | apply Exts.andR | apply Exts.alloc | apply Exts.wext | apply Exts.drew | apply Exts.drewN))) HT.out _ R1 p1 e1 D1.out).mono ?_); rintro e W3 ⟨a15, k15, aa6, ca6, ab6, cb6, rfl, hx, h1, h2, h3⟩; (have EX : Exts W2 W3 := Exts.trans (by repeat (first | exact Exts.refl _ | apply Exts.andR | apply Exts.alloc | apply Exts.wext | apply Exts.drew | apply Exts.drewN)) hx); (have EW3 := Lib.hid (EW2.out.trans EX)); clear EW2; (obtain ⟨ct5_3, lt5_3⟩ := box_on EX lt5_2 ct5_2); (obtain ⟨ct12_3, lt12_3⟩ := box_new (W := W3) (B := W2.heap.size) #[.int .i64 R1.id, .int .i64 R1.ho, .int .i64 R1.lot, .slice a12 R1.P.length k12, .int .i64 R1.us, .int .i64 R1.un, .bool R1.ov] (Exts.trans (by repeat (first | with_reducible exact Exts.refl _ | with_reducible apply Exts.alloc | with_reducible apply Exts.wext | with_reducible apply Exts.drew)) hx) rfl); (obtain ⟨ct13_3, lt13_3⟩ := box_new (W := W3) (B := W2.heap.size + 1) #[.slice aa3 p1.1.length ca3, .slice ab3 p1.2.length cb3] (Exts.trans (by repeat (first | with_reducible exact Exts.refl _ | with_reducible apply Exts.alloc | with_reducible apply Exts.wext | with_reducible apply Exts.drew)) hx) (by simp)); (have KH3 := Lib.hid (KH2.out.exts EX)); (have KA3 := Lib.hid (KA2.out.exts EX)); (have KV3 := Lib.hid (Vols.exts KV2.out EX)); (have KE3 := Lib.hid (Ents.exts KE2.out EX)); (have KB3 := Lib.hid h1); (have KW3 := Lib.hid h2); (have KF3 := Lib.hid h3); clear h1 h2 h3 KH2 KA2 KV2 KE2; clear ct5_2 lt5_2 hx EX)) | (go_at_call 14; ((with_reducible refine (same14 _ _ _ _ _ _ _ _ _ _ R1.P _ (Phs.exts KA3.out (by repeat (first | exact Exts.refl _ | apply Exts.andR | apply Exts.alloc | apply Exts.wext | apply Exts.drew | apply Exts.drewN))) (Phs.exts KB3.out (by repeat (first | exact Exts.refl _ | apply Exts.andR | apply Exts.alloc | apply Exts.wext | apply Exts.drew | apply Exts.drewN))) F1.out).mono ?_); rintro e w' ⟨rfl, y1, rfl⟩)) | (go_at_call 13; ((with_reducible refine (same13 _ _ _ _ _ _ _ _ p1 _ (Vols.exts KV3.out (by repeat (first | exact Exts.refl _ | apply Exts.andR | apply Exts.alloc | apply Exts.wext | apply Exts.drew | apply Exts.drewN))) (Ents.exts KE3.out (by repeat (first | exact Exts.refl _ | apply Exts.andR | apply Exts.alloc | apply Exts.wext | apply Exts.drew | apply Exts.drewN))) (Vols.exts KW3.out (by repeat (first | exact Exts.refl _ | apply Exts.andR | apply Exts.alloc | apply Exts.wext | apply Exts.drew | apply Exts.drewN))) (Ents.exts KF3.out (by repeat (first | exact Exts.refl _ | apply Exts.andR | apply Exts.alloc | apply Exts.wext | apply Exts.drew | apply Exts.drewN))) G1.out G2.out).mono ?_); rintro e w' ⟨rfl, y2, rfl⟩)) | (go_at_call 16; ((with_reducible refine (lapse16_R _ _ _ _ _ _ _ _ P _ (Phs.exts KH3.out (by repeat (first | exact Exts.refl _ | apply Exts.andR | apply Exts.alloc | apply Exts.wext | apply Exts.drew | apply Exts.drewN))) HT.out _ R2 b2 D2.out).mono ?_); rintro e W4 ⟨a18, k18, rfl, hx, h1⟩; (have EX : Exts W3 W4 := Exts.trans (by repeat (first | exact Exts.refl _ | apply Exts.andR | apply Exts.alloc | apply Exts.wext | apply Exts.drew | apply Exts.drewN)) hx); (have EW4 := Lib.hid (EW3.out.trans EX)); clear EW3; (obtain ⟨ct5_4, lt5_4⟩ := box_on EX lt5_3 ct5_3); (have KH4 := Lib.hid (KH3.out.exts EX)); (have KA4 := Lib.hid h1); clear h1 KH3 KA3 KV3 KE3 KB3 KW3 KF3; clear ct5_3 lt5_3 ct12_3 lt12_3 ct13_3 lt13_3 hx EX)) | (go_at_call 21; ((with_reducible refine (lapse21_R _ _ _ _ _ _ _ _ P _ (Phs.exts KH4.out (by repeat (first | exact Exts.refl _ | apply Exts.andR | apply Exts.alloc | apply Exts.wext | apply Exts.drew | apply Exts.drewN))) HT.out _ R2 b2 D2.out).mono ?_); rintro e W5 ⟨a20, k20, rfl, hx, h1⟩; (have EX : Exts W4 W5 := Exts.trans (by repeat (first | exact Exts.refl _ | apply Exts.andR | apply Exts.alloc | apply Exts.wext | apply Exts.drew | apply Exts.drewN)) hx); (have EW5 := Lib.hid (EW4.out.trans EX)); clear EW4; (obtain ⟨ct5_5, lt5_5⟩ := box_on EX lt5_4 ct5_4); (obtain ⟨ct18_5, lt18_5⟩ := box_new (W := W5) (B := W4.heap.size) #[.int .i64 R2.id, .int .i64 R2.ho, .int .i64 R2.lot, .slice a18 R2.P.length k18, .int .i64 R2.us, .int .i64 R2.un, .bool R2.ov] (Exts.trans (by repeat (first | with_reducible exact Exts.refl _ | with_reducible apply Exts.alloc | with_reducible apply Exts.wext | with_reducible apply Exts.drew)) hx) rfl); (have KH5 := Lib.hid (KH4.out.exts EX)); (have KA5 := Lib.hid (KA4.out.exts EX)); (have KB5 := Lib.hid h1); clear h1 KH4 KA4; clear ct5_4 lt5_4 hx EX)) | (go_at_call 22; ((with_reducible refine (transfer22_R _ _ _ _ _ _ _ _ P _ (Phs.exts KH5.out (by repeat (first | exact Exts.refl _ | apply Exts.andR | apply Exts.alloc | apply Exts.wext | apply Exts.drew | apply Exts.drewN))) HT.out _ R3 e3 D3.out).mono ?_); rintro e W6 ⟨a22, k22, rfl, hx, h1⟩; (have EX : Exts W5 W6 := Exts.trans (by repeat (first | exact Exts.refl _ | apply Exts.andR | apply Exts.alloc | apply Exts.wext | apply Exts.drew | apply Exts.drewN)) hx); (have EW6 := Lib.hid (EW5.out.trans EX)); clear EW5; (obtain ⟨ct5_6, lt5_6⟩ := box_on EX lt5_5 ct5_5); (obtain ⟨ct18_6, lt18_6⟩ := box_on EX lt18_5 ct18_5); (obtain ⟨ct20_6, lt20_6⟩ := box_new (W := W6) (B := W5.heap.size) #[.int .i64 R2.id, .int .i64 R2.ho, .int .i64 R2.lot, .slice a20 R2.P.length k20, .int .i64 R2.us, .int .i64 R2.un, .bool R2.ov] (Exts.trans (by repeat (first | with_reducible exact Exts.refl _ | with_reducible apply Exts.alloc | with_reducible apply Exts.wext | with_reducible apply Exts.drew)) hx) rfl); (have KH6 := Lib.hid (KH5.out.exts EX)); (have KA6 := Lib.hid (KA5.out.exts EX)); (have KB6 := Lib.hid (KB5.out.exts EX)); (have KC6 := Lib.hid h1); clear h1 KH5 KA5 KB5; clear ct5_5 lt5_5 ct18_5 lt18_5 hx EX)) | (go_at_call 23; ((with_reducible refine (transfer23_R _ _ _ _ _ _ _ _ P _ (Phs.exts KH6.out (by repeat (first | exact Exts.refl _ | apply Exts.andR | apply Exts.alloc | apply Exts.wext | apply Exts.drew | apply Exts.drewN))) HT.out _ R3 e3 D3.out).mono ?_); rintro e W7 ⟨a24, k24, rfl, hx, h1⟩; (have EX : Exts W6 W7 := Exts.trans (by repeat (first | exact Exts.refl _ | apply Exts.andR | apply Exts.alloc | apply Exts.wext | apply Exts.drew | apply Exts.drewN)) hx); (have EW7 := Lib.hid (EW6.out.trans EX)); clear EW6; (obtain ⟨ct5_7, lt5_7⟩ := box_on EX lt5_6 ct5_6); (obtain ⟨ct18_7, lt18_7⟩ := box_on EX lt18_6 ct18_6); (obtain ⟨ct20_7, lt20_7⟩ := box_on EX lt20_6 ct20_6); (obtain ⟨ct22_7, lt22_7⟩ := box_new (W := W7) (B := W6.heap.size) #[.int .i64 R3.id, .int .i64 R3.ho, .int .i64 R3.lot, .slice a22 R3.P.length k22, .int .i64 R3.us, .int .i64 R3.un, .bool R3.ov] (Exts.trans (by repeat (first | with_reducible exact Exts.refl _ | with_reducible apply Exts.alloc | with_reducible apply Exts.wext | with_reducible apply Exts.drew)) hx) rfl); (have KH7 := Lib.hid (KH6.out.exts EX)); (have KA7 := Lib.hid (KA6.out.exts EX)); (have KB7 := Lib.hid (KB6.out.exts EX)); (have KC7 := Lib.hid (KC6.out.exts EX)); (have KD7 := Lib.hid h1); clear h1 KH6 KA6 KB6 KC6; clear ct5_6 lt5_6 ct18_6 lt18_6 ct20_6 lt20_6 hx EX)) | (go_at_call 14; ((with_reducible refine (same14 _ _ _ _ _ _ _ _ _ _ R2.P _ (Phs.exts KA7.out (by repeat (first | exact Exts.refl _ | apply Exts.andR | apply Exts.alloc | apply Exts.wext | apply Exts.drew | apply Exts.drewN))) (Phs.exts KB7.out (by repeat (first | exact Exts.refl _ | apply Exts.andR | apply Exts.alloc | apply Exts.wext | apply Exts.drew | apply Exts.drewN))) F2.out).mono ?_); rintro e w' ⟨rfl, y3, rfl⟩)) | (go_at_call 14; ((with_reducible refine (same14 _ _ _ _ _ _ _ _ _ _ R3.P _ (Phs.exts KC7.out (by repeat (first | exact Exts.refl _ | apply Exts.andR | apply Exts.alloc | apply Exts.wext | apply Exts.drew | apply Exts.drewN))) (Phs.exts KD7.out (by repeat (first | exact Exts.refl _ | apply Exts.andR | apply Exts.alloc | apply Exts.wext | apply Exts.drew | apply Exts.drewN))) F3.out).mono ?_); rintro e w' ⟨rfl, y4, rfl⟩)) | (go_at_call 17; ((with_reducible refine (split17_R _ _ _ _ _ _ _ _ P _ (Phs.exts KH7.out (by repeat (first | exact Exts.refl _ | apply Exts.andR | apply Exts.alloc | apply Exts.wext | apply Exts.drew | apply Exts.drewN))) HT.out _ _ R4 R5 e5 D5.out).mono ?_); rintro e W8 ⟨a26, k26, a27, k27, rfl, hx, h1, h2⟩; (have EX : Exts W7 W8 := Exts.trans (by repeat (first | exact Exts.refl _ | apply Exts.andR | apply Exts.alloc | apply Exts.wext | apply Exts.drew | apply Exts.drewN)) hx); (have EW8 := Lib.hid (EW7.out.trans EX)); clear EW7; (obtain ⟨ct5_8, lt5_8⟩ := box_on EX lt5_7 ct5_7); (have KH8 := Lib.hid (KH7.out.exts EX)); (have KA8 := Lib.hid h1); (have KB8 := Lib.hid h2); clear h1 h2 KH7 KA7 KB7 KC7 KD7; clear ct5_7 lt5_7 ct18_7 lt18_7 ct20_7 lt20_7 ct22_7 lt22_7 hx EX)) | (go_at_call 24; ((with_reducible refine (split24_R _ _ _ _ _ _ _ _ P _ (Phs.exts KH8.out (by repeat (first | exact Exts.refl _ | apply Exts.andR | apply Exts.alloc | apply Exts.wext | apply Exts.drew | apply Exts.drewN))) HT.out _ _ R4 R5 e5 D5.out).mono ?_); rintro e W9 ⟨a29, k29, a30, k30, rfl, hx, h1, h2⟩; (have EX : Exts W8 W9 := Exts.trans (by repeat (first | exact Exts.refl _ | apply Exts.andR | apply Exts.alloc | apply Exts.wext | apply Exts.drew | apply Exts.drewN)) hx); (have EW9 := Lib.hid (EW8.out.trans EX)); clear EW8; (obtain ⟨ct5_9, lt5_9⟩ := box_on EX lt5_8 ct5_8); (obtain ⟨ct26_9, lt26_9⟩ := box_new (W := W9) (B := W8.heap.size) #[.int .i64 R4.id, .int .i64 R4.ho, .int .i64 R4.lot, .slice a26 R4.P.length k26, .int .i64 R4.us, .int .i64 R4.un, .bool R4.ov] (Exts.trans (by repeat (first | with_reducible exact Exts.refl _ | with_reducible apply Exts.alloc | with_reducible apply Exts.wext | with_reducible apply Exts.drew)) hx) rfl); (obtain ⟨ct27_9, lt27_9⟩ := box_new (W := W9) (B := W8.heap.size + 1) #[.int .i64 R5.id, .int .i64 R5.ho, .int .i64 R5.lot, .slice a27 R5.P.length k27, .int .i64 R5.us, .int .i64 R5.un, .bool R5.ov] (Exts.trans (by repeat (first | with_reducible exact Exts.refl _ | with_reducible apply Exts.alloc | with_reducible apply Exts.wext | with_reducible apply Exts.drew)) hx) (by simp)); (have KH9 := Lib.hid (KH8.out.exts EX)); (have KA9 := Lib.hid (KA8.out.exts EX)); (have KB9 := Lib.hid (KB8.out.exts EX)); (have KC9 := Lib.hid h1); (have KD9 := Lib.hid h2); clear h1 h2 KH8 KA8 KB8; clear ct5_8 lt5_8 hx EX)) | (go_at_call 14; ((with_reducible refine (same14 _ _ _ _ _ _ _ _ _ _ R4.P _ (Phs.exts KA9.out (by repeat (first | exact Exts.refl _ | apply Exts.andR | apply Exts.alloc | apply Exts.wext | apply Exts.drew | apply Exts.drewN))) (Phs.exts KC9.out (by repeat (first | exact Exts.refl _ | apply Exts.andR | apply Exts.alloc | apply Exts.wext | apply Exts.drew | apply Exts.drewN))) F4.out).mono ?_); rintro e w' ⟨rfl, y5, rfl⟩)) | (go_at_call 14; ((with_reducible refine (same14 _ _ _ _ _ _ _ _ _ _ R5.P _ (Phs.exts KB9.out (by repeat (first | exact Exts.refl _ | apply Exts.andR | apply Exts.alloc | apply Exts.wext | apply Exts.drew | apply Exts.drewN))) (Phs.exts KD9.out (by repeat (first | exact Exts.refl _ | apply Exts.andR | apply Exts.alloc | apply Exts.wext | apply Exts.drew | apply Exts.drewN))) F5.out).mono ?_); rintro e w' ⟨rfl, y6, rfl⟩)) | (go_at_call 18; ((with_reducible refine (prefixes18 _ _ l _ (Ints.exts HI.out (EW9.out.trans (by repeat (first | exact Exts.refl _ | apply Exts.andR | apply Exts.alloc | apply Exts.wext | apply Exts.drew | apply Exts.drewN)))) (by omega)).mono ?_); rintro e W10 ⟨asx, csx, rfl, hx, h1⟩; (have EX : Exts W9 W10 := Exts.trans (by repeat (first | exact Exts.refl _ | apply Exts.andR | apply Exts.alloc | apply Exts.wext | apply Exts.drew | apply Exts.drewN)) hx); (have EW10 := Lib.hid (EW9.out.trans EX)); clear EW9; (obtain ⟨ct5_10, lt5_10⟩ := box_on EX lt5_9 ct5_9); (have KH10 := Lib.hid (KH9.out.exts EX)); (have KS10 := Lib.hid h1); clear h1 KH9 KA9 KB9 KC9 KD9; clear ct5_9 lt5_9 ct26_9 lt26_9 ct27_9 lt27_9 hx EX)) | (go_at_call 25; ((with_reducible refine (refPrefixes25 _ _ l _ (Ints.exts HI.out (EW10.out.trans (by repeat (first | exact Exts.refl _ | apply Exts.andR | apply Exts.alloc | apply Exts.wext | apply Exts.drew | apply Exts.drewN)))) (by omega)).mono ?_); rintro e W11 ⟨atx, ctx, rfl, hx, h1⟩; (have EX : Exts W10 W11 := Exts.trans (by repeat (first | exact Exts.refl _ | apply Exts.andR | apply Exts.alloc | apply Exts.wext | apply Exts.drew | apply Exts.drewN)) hx); (have EW11 := Lib.hid (EW10.out.trans EX)); clear EW10; (obtain ⟨ct5_11, lt5_11⟩ := box_on EX lt5_10 ct5_10); (have KH11 := Lib.hid (KH10.out.exts EX)); (have KS11 := Lib.hid (Ints.pre (Ints.exts KS10.out EX))); (have KT11 := Lib.hid (Ints.pre h1)); clear h1 KH10 KS10; clear ct5_10 lt5_10 hx EX)))
  go_loopw [34] (fun i wr => ∃ (k : Nat) (x : Ex), k ≤ l.length + 1 ∧ i = .int .i64 k ∧ wr = wext W11 x) (fun i _ => l.length + 1 - (intOf i).toNat)
  case atStart => exact ⟨0, _, by omega, rfl, (wext_self _).symm⟩
  case round =>
    obtain ⟨k, x, hk, rfl, rfl⟩ := hrel
    by_cases hlt : k < l.length + 1
    · obtain ⟨b1, o1, rfl, lb1, z1⟩ := KS11.out.get (prefs_at l l.length k (by omega))
      obtain ⟨b2, o2, rfl, lb2, z2⟩ := KT11.out.get (prefs_at l l.length k (by omega))
      go_wp2
      first | refine wp_region_ext_lit2 (by kernel_rfl) (by kernel_rfl) ?_ | refine wp_region_ext_lit (by kernel_rfl) (by kernel_rfl) ?_
      repeat (go_big_quiet_step (fail))
      refine wpQuiet_nil ?_
      intro _ hwq'
      obtain ⟨xq, hwq''⟩ := hwq'
      subst hwq''
      go_wp2
      go_roundw
      case rel => exact ⟨k + 1, xq, by omega, by go_num, rfl⟩
      case measure => simp [intOf]; omega
    · obtain rfl : k = l.length + 1 := by omega
      go_wp2
      refine wp_name ?_
      intro W12 hW12
      have e12 : Exts W11 W12 := by rw [hW12]; exact (by repeat (first | exact Exts.refl _ | apply Exts.andR | apply Exts.alloc | apply Exts.wext | apply Exts.drew | apply Exts.drewN))
      have r5 : ∀ w' i, Exts W12 w' → w'.cell? ⟨w.heap.size, i, none⟩ = _ := fun w' i h => (box_on (e12.trans h) lt5_11 ct5_11).1 i
      have KH := Lib.hid (KH11.out.exts e12)
      have KI := Lib.hid (Ints.exts HI.out (EW11.out.trans e12))
      have EX := Lib.hid (EW11.out.trans e12)
      clear hW12 e12
      go_region_held3 (fun w' => Exts W12 w') (first | assumption | exact (Exts.refl _).drew | exact (by repeat (first | exact Exts.refl _ | apply Exts.andR | apply Exts.alloc | apply Exts.wext | apply Exts.drew | apply Exts.drewN))) ((first | (go_at_call 10; (with_reducible refine (living10_eq _ _ _ _ _ _ _ _ _ lb _ (by omega) DB.out).mono ?_); rintro e w' ⟨rfl, q1, rfl⟩) | (go_at_call 26; (with_reducible refine (living26_eq _ _ _ _ _ _ _ _ _ lb _ (by omega) DB.out).mono ?_); rintro e w' ⟨rfl, q2, rfl⟩) | (go_at_call 11; (with_reducible refine (left11_LP _ _ _ _ _ _ _ _ P LP DL.out _ (Phs.exts KH.out (by assumption)) HT.out).mono ?_); rintro e w' ⟨a3, c3, rfl, ⟨q3, rfl⟩, h3⟩; (try simp only [wext_and, wext_of_drew] at h3); (have K3 := Lib.hid h3); clear h3) | (go_at_call 27; (with_reducible refine (left27_LP _ _ _ _ _ _ _ _ P LP DL.out _ (Phs.exts KH.out (by assumption)) HT.out).mono ?_); rintro e w' ⟨a4, c4, rfl, ⟨q4, rfl⟩, h4⟩; (try simp only [wext_and, wext_of_drew] at h4); (have K4 := Lib.hid h4); clear h4) | (go_at_call 15; (with_reducible refine (same15_n _ _ _ _ _ _ LP _ rfl rfl (Phs.exts K3.out (by repeat (first | exact Exts.refl _ | apply Exts.andR | apply Exts.alloc | apply Exts.wext | apply Exts.drew | apply Exts.drewN))) (Phs.exts K4.out (by repeat (first | exact Exts.refl _ | apply Exts.andR | apply Exts.alloc | apply Exts.wext | apply Exts.drew | apply Exts.drewN))) F6.out).mono ?_); rintro e w' ⟨rfl, q5, rfl⟩) | (go_at_call 19; (with_reducible refine (peak19 _ _ l _ (Ints.exts KI.out (by assumption)) (by omega)).mono ?_); rintro e w' ⟨rfl, q6, rfl⟩) | (go_at_call 28; (with_reducible refine (refPeak28 _ _ l _ (Ints.exts KI.out (by assumption)) (by omega)).mono ?_); rintro e w' ⟨rfl, q7, rfl⟩)))
      all_goals
        go_wp2
        go_ret
        exact ⟨rfl, EX.out.trans (by repeat (first | exact Exts.refl _ | apply Exts.andR | apply Exts.alloc | apply Exts.wext | apply Exts.drew | apply Exts.drewN))⟩

theorem tells6 (id ho lot us un : Int) (ov : Bool) (ao : Option Addr) (cap : Nat) (P : List PhC) (day n nid : Int) (al : Option Addr) (cl : Nat) (l : List Int) (w : World) {S S' : Nat → Prop} (h : Phs S w (.slice ao P.length cap) P) (hI : Ints S' w (.slice al l.length cl) l) (_ : I64 id) (_ : I64 us) (_ : I64 un) (_ : I64 day) (_ : I64 n) (_ : I64 nid) :
    Calls Try.prog 6 #[rightV id ho lot (.slice ao P.length cap) us un ov, .int .i64 day, .int .i64 n, .int .i64 nid, .slice al l.length cl] w fun e w' => e = .returned (.bool true) ∧ Exts w w' := by
  have hlen := RowF.nle hI
  unfold maxLen at hlen
  cases hf : fewB P with
  | false =>
    have H := Lib.hid h
    have HF := Lib.hid hf
    clear h hf hI
    go_enter Try.func6, Try.ntmps6
    go_wp2_with (first | (go_at_call 8; refine (small8 _).mono ?_; rintro e w' ⟨rfl, x1, rfl⟩) | (go_at_call 9; refine (few9_eq _ _ _ _ _ _ _ _ P _ _ HF.out (H.out.exts (by repeat (first | exact Exts.refl _ | apply Exts.andR | apply Exts.alloc | apply Exts.wext | apply Exts.drew | apply Exts.drewN)))).mono ?_; rintro e w' ⟨rfl, x2, rfl⟩))
    go_ret
    exact ⟨rfl, (by repeat (first | exact Exts.refl _ | apply Exts.andR | apply Exts.alloc | apply Exts.wext | apply Exts.drew | apply Exts.drewN))⟩
  | true =>
    by_cases hn : l.length ≤ 100
    · exact tells6_in id ho lot us un ov ao cap P day n nid al cl l w h hI hf hn
    · have H := Lib.hid h
      have HF := Lib.hid hf
      have b100 : decide ((100 : Int) < (l.length : Int)) = true := by simp; omega
      clear h hf hI
      go_enter Try.func6, Try.ntmps6
      go_wp2_with (first | (go_at_call 8; refine (small8 _).mono ?_; rintro e w' ⟨rfl, x1, rfl⟩) | (go_at_call 9; refine (few9_eq _ _ _ _ _ _ _ _ P _ _ HF.out (H.out.exts (by repeat (first | exact Exts.refl _ | apply Exts.andR | apply Exts.alloc | apply Exts.wext | apply Exts.drew | apply Exts.drewN)))).mono ?_; rintro e w' ⟨rfl, x2, rfl⟩))
      go_ret
      exact ⟨rfl, (by repeat (first | exact Exts.refl _ | apply Exts.andR | apply Exts.alloc | apply Exts.wext | apply Exts.drew | apply Exts.drewN))⟩
end Go.Proofs.Ytnpjagodbnpahaa
