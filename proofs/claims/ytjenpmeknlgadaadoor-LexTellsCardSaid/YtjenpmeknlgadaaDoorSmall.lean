/- small of the laws of chapter 14 returns true. Condition: the table of signs is as the program lays it. -/
import Derived.Test.YtjenpmeknlgadaaDoorSame
namespace Go.Proofs.YtjenpmeknlgadaaDoor
open Go.RowKit
set_option linter.unusedSimpArgs false
set_option linter.unusedVariables false

abbrev wantT : List TP := [⟨0, [120], 0, 0⟩, ⟨2, [60, 61], 0, 2⟩, ⟨1, [49, 50], 12, 5⟩, ⟨0, [97], 0, 7⟩, ⟨3, [], 0, 8⟩]
abbrev eqT : List TP := [⟨0, [97], 0, 0⟩, ⟨2, [61], 0, 1⟩, ⟨0, [98], 0, 2⟩, ⟨2, [59], 0, 4⟩, ⟨3, [], 0, 5⟩]
theorem lex_e1 : lexS [120, 32, 60, 61, 32, 49, 50, 97] = (wantT, 0, 0) := by kernel_rfl
theorem lex_e2 : lexS [97, 49, 60, 61, 48, 48, 55] = ([], 4, 3) := by kernel_rfl
theorem lex_e3 : lexS [97, 32, 33] = ([], 2, 13) := by kernel_rfl
theorem lex_e4 : lexS [97, 61, 98, 32, 59] = (eqT, 0, 0) := by kernel_rfl
theorem text_e4 : textP eqT = [97, 32, 61, 32, 98, 32, 59] := by kernel_rfl
section
variable (w : World) (h : Signs w)
include h
theorem lexA : Calls Tryd.prog 11 #[.string ⟨#[120, 32, 60, 61, 32, 49, 50, 97]⟩] w fun e w' => ∃ ao c, e = .returned (.tuple #[.slice ao 5 c, .int .i64 0, .int .i64 0]) ∧ Exts w w' ∧ RowF (fun b => w.heap.size ≤ b) 4 w' (.slice ao 5 c) 5 (tokFlat wantT) := by
  have := lex11 ⟨#[120, 32, 60, 61, 32, 49, 50, 97]⟩ w (by decide) h
  rw [show (⟨#[120, 32, 60, 61, 32, 49, 50, 97]⟩ : ByteArray).data.toList = [120, 32, 60, 61, 32, 49, 50, 97] from rfl, lex_e1] at this
  exact this
theorem lexB : Calls Tryd.prog 11 #[.string ⟨#[97, 49, 60, 61, 48, 48, 55]⟩] w fun e w' => ∃ ao c, e = .returned (.tuple #[.slice ao 0 c, .int .i64 4, .int .i64 3]) ∧ Exts w w' := by
  have := lex11 ⟨#[97, 49, 60, 61, 48, 48, 55]⟩ w (by decide) h
  rw [show (⟨#[97, 49, 60, 61, 48, 48, 55]⟩ : ByteArray).data.toList = [97, 49, 60, 61, 48, 48, 55] from rfl, lex_e2] at this
  exact this.mono fun e w' ⟨ao, c, he, hx, _⟩ => ⟨ao, c, he, hx⟩
theorem lexC : Calls Tryd.prog 11 #[.string ⟨#[97, 32, 33]⟩] w fun e w' => ∃ ao c, e = .returned (.tuple #[.slice ao 0 c, .int .i64 2, .int .i64 13]) ∧ Exts w w' := by
  have := lex11 ⟨#[97, 32, 33]⟩ w (by decide) h
  rw [show (⟨#[97, 32, 33]⟩ : ByteArray).data.toList = [97, 32, 33] from rfl, lex_e3] at this
  exact this.mono fun e w' ⟨ao, c, he, hx, _⟩ => ⟨ao, c, he, hx⟩
theorem lexD : Calls Tryd.prog 11 #[.string ⟨#[97, 61, 98, 32, 59]⟩] w fun e w' => ∃ ao c, e = .returned (.tuple #[.slice ao 5 c, .int .i64 0, .int .i64 0]) ∧ Exts w w' ∧ RowF (fun b => w.heap.size ≤ b) 4 w' (.slice ao 5 c) 5 (tokFlat eqT) := by
  have := lex11 ⟨#[97, 61, 98, 32, 59]⟩ w (by decide) h
  rw [show (⟨#[97, 61, 98, 32, 59]⟩ : ByteArray).data.toList = [97, 61, 98, 32, 59] from rfl, lex_e4] at this
  exact this
end
theorem num12 (w : World) : Calls Tryd.prog 13 #[.string ⟨#[49, 50]⟩] w fun e w' => e = .returned (.tuple #[.int .i64 12, .bool true]) ∧ w = w' := number13 ⟨#[49, 50]⟩ w (by decide)
theorem num012 (w : World) : Calls Tryd.prog 13 #[.string ⟨#[48, 49, 50]⟩] w fun e w' => e = .returned (.tuple #[.int .i64 0, .bool false]) ∧ w = w' := number13 ⟨#[48, 49, 50]⟩ w (by decide)
theorem wordYes (w : World) : Calls Tryd.prog 16 #[.string ⟨#[97, 49]⟩] w fun e w' => e = .returned (.bool true) ∧ w = w' := word16 ⟨#[97, 49]⟩ w (by decide)
theorem wordNo (w : World) : Calls Tryd.prog 16 #[.string ⟨#[49, 97]⟩] w fun e w' => e = .returned (.bool false) ∧ w = w' := word16 ⟨#[49, 97]⟩ w (by decide)
theorem textD {S : Nat → Prop} (ao : Option Addr) (c : Nat) (w : World) (h : RowF S 4 w (.slice ao 5 c) 5 (tokFlat eqT)) : Calls Tryd.prog 18 #[.slice ao 5 c] w fun e w' => e = .returned (.string ⟨#[97, 32, 61, 32, 98, 32, 59]⟩) ∧ Exts w w' := by
  have := text18 ao 5 c eqT w h rfl (by decide) (by rw [text_e4]; decide)
  rw [text_e4] at this
  exact this
theorem rowF_litH {e : TypeId} {base size : Nat} (w : World) (cur : Array Value) (n H : Nat) (hH : w.heap.size = H) (hb : base ≤ H) (hm : n ≤ maxLen) (hs : cur.size = n * size) :
    RowF (fun b => base ≤ b) size (w.alloc (.cells cur e)) (.slice (some ⟨H, 0, none⟩) n n) n cur.toList := by
  subst hH
  exact RowF.of_owns ⟨by simp [hs], .inr ⟨w.heap.size, n, cur, rfl, hb, heap_alloc_new w _, Nat.le_refl _, hm, hs, by rw [← hs]; exact List.take_length⟩⟩
abbrev wantV : Array Value := #[.int .i64 0, .string ⟨#[120]⟩, .int .i64 0, .int .i64 0, .int .i64 2, .string ⟨#[60, 61]⟩, .int .i64 0, .int .i64 2, .int .i64 1, .string ⟨#[49, 50]⟩, .int .i64 12, .int .i64 5, .int .i64 0, .string ⟨#[97]⟩, .int .i64 0, .int .i64 7, .int .i64 3, .string ⟨#[]⟩, .int .i64 0, .int .i64 8]

set_option maxRecDepth 100000
set_option maxHeartbeats 2000000 in
theorem small9 (w : World) (h : Signs w) : Calls Tryd.prog 9 #[] w fun e w' => e = .returned (.bool true) ∧ Exts w w' := by
  have HS := Lib.hid h
  clear h
  go_enter Tryd.func9, Tryd.ntmps9
  go_wp2_with (first | (go_at_call 11; ((with_reducible refine (lexA _ (HS.out.exts (by repeat (first | exact Exts.refl _ | apply Exts.andR | apply Exts.alloc | apply Exts.wext | apply Exts.drew | apply Exts.drewN)))).mono ?_); rintro e w' ⟨a1, c1, rfl, ⟨x1, rfl⟩, h1⟩; (have H1 := Lib.hid h1); clear h1)) | (go_at_call 11; ((with_reducible refine (lexB _ (HS.out.exts (by repeat (first | exact Exts.refl _ | apply Exts.andR | apply Exts.alloc | apply Exts.wext | apply Exts.drew | apply Exts.drewN)))).mono ?_); rintro e w' ⟨a2, c2, rfl, x2, rfl⟩)) | (go_at_call 11; ((with_reducible refine (lexC _ (HS.out.exts (by repeat (first | exact Exts.refl _ | apply Exts.andR | apply Exts.alloc | apply Exts.wext | apply Exts.drew | apply Exts.drewN)))).mono ?_); rintro e w' ⟨a3, c3, rfl, x3, rfl⟩)) | (go_at_call 11; ((with_reducible refine (lexD _ (HS.out.exts (by repeat (first | exact Exts.refl _ | apply Exts.andR | apply Exts.alloc | apply Exts.wext | apply Exts.drew | apply Exts.drewN)))).mono ?_); rintro e w' ⟨a4, c4, rfl, ⟨x4, rfl⟩, h4⟩; (try simp only [wext_and] at h4); (have H4 := Lib.hid h4); clear h4)) | (go_at_call 13; ((with_reducible refine (num12 _).mono ?_); rintro e w' ⟨rfl, rfl⟩)) | (go_at_call 13; ((with_reducible refine (num012 _).mono ?_); rintro e w' ⟨rfl, rfl⟩)) | (go_at_call 15; refine (same15 _ _ 5 _ _ wantT _ (RowF.exts H1.out (by repeat (first | exact Exts.refl _ | apply Exts.andR | apply Exts.alloc | apply Exts.wext | apply Exts.drew | apply Exts.drewN))) (rowF_litH (e := 25) (base := 0) (size := 4) _ wantV 5 _ (by simp) (Nat.zero_le _) (by decide) rfl) rfl (by decide)).mono ?_; rintro e w' ⟨rfl, x5, rfl⟩) | (go_at_call 18; refine (textD _ _ _ (RowF.exts H4.out (by repeat (first | exact Exts.refl _ | apply Exts.andR | apply Exts.alloc | apply Exts.wext | apply Exts.drew | apply Exts.drewN)))).mono ?_; rintro e w' ⟨rfl, x6, rfl⟩) | (go_at_call 16; ((with_reducible refine (wordYes _).mono ?_); rintro e w' ⟨rfl, rfl⟩)) | (go_at_call 16; ((with_reducible refine (wordNo _).mono ?_); rintro e w' ⟨rfl, rfl⟩)))
  go_ret
  exact ⟨rfl, (by repeat (first | exact Exts.refl _ | apply Exts.andR | apply Exts.alloc | apply Exts.wext | apply Exts.drew | apply Exts.drewN))⟩
end Go.Proofs.YtjenpmeknlgadaaDoor
