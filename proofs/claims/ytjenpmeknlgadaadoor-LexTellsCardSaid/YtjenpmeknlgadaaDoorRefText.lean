/- Text of the reference. Conditions: the tokens and their bytes are not too many. -/
import Derived.Test.YtjenpmeknlgadaaDoorRefLex
namespace Go.Proofs.YtjenpmeknlgadaaDoor
open Go.RowKit
set_option linter.unusedSimpArgs false
set_option linter.unusedVariables false

theorem join_snoc (L : List (List UInt8)) (x : List UInt8) (h : L ≠ []) : Lib.join (L ++ [x]) [32] = Lib.join L [32] ++ 32 :: x := by
  cases L with
  | nil => exact absurd rfl h
  | cons t L =>
    rw [List.cons_append, Lib.join_cons, Lib.join_cons, List.append_assoc]
    congr 1
    induction L with
    | nil => simp [Lib.joinTail]
    | cons u L ih => simp [Lib.joinTail] at ih ⊢
theorem join_one (x : List UInt8) : Lib.join [x] [32] = x := by rw [Lib.join_cons]; simp [Lib.joinTail]
theorem join_le (L : List (List UInt8)) (h : ∀ t ∈ L, t.length ≤ 100) : (Lib.join L [32]).length ≤ 101 * L.length := by
  cases L with
  | nil => simp [Lib.join_nil]
  | cons t L =>
    rw [Lib.join_length]
    have : ∀ (L : List (List UInt8)), (∀ t ∈ L, t.length ≤ 100) → Lib.lens L ≤ 100 * L.length := by
      intro L
      induction L with
      | nil => intro _; simp [Lib.lens]
      | cons t L ih =>
        intro h
        have h1 := h t (by simp)
        have h2 := ih fun u hu => h u (by simp [hu])
        simp only [Lib.lens, List.map_cons, List.sum_cons, List.length_cons] at h2 ⊢
        omega
    have := this (t :: L) h
    simp only [List.length_cons, List.length_nil] at this ⊢
    omega
theorem texts_small {ts : List TP} (h : ∀ t ∈ ts, t.text.length ≤ 100) (k : Nat) : ∀ x ∈ texts (ts.take k), x.length ≤ 100 := by
  intro x hx
  unfold texts at hx
  rw [List.mem_map] at hx
  obtain ⟨t, ht, rfl⟩ := hx
  exact h t (List.mem_of_mem_take (List.mem_filter.1 ht).1)
theorem ba_cat (a b : List UInt8) : (⟨a.toArray⟩ : ByteArray) ++ ⟨b.toArray⟩ = ⟨(a ++ b).toArray⟩ := by
  apply ByteArray.ext
  rw [ByteArray.data_append]
  simp
theorem ba_cat3 (a b : List UInt8) : (⟨a.toArray⟩ : ByteArray) ++ ⟨#[32]⟩ ++ ⟨b.toArray⟩ = ⟨(a ++ 32 :: b).toArray⟩ := by
  apply ByteArray.ext
  rw [ByteArray.data_append, ByteArray.data_append]
  simp
set_option maxRecDepth 100000
set_option maxHeartbeats 4000000
theorem refText19 {S : Nat → Prop} (ao : Option Addr) (n cap : Nat) (ts : List TP) (w : World) (h : RowF S 4 w (.slice ao n cap) n (tokFlat ts)) (hn : ts.length = n) (hm : n ≤ 100) (hl : ∀ t ∈ ts, t.text.length ≤ 100) :
    Calls Tryd.prog 19 #[.slice ao n cap] w fun e w' => e = .returned (.string ⟨(textP ts).toArray⟩) ∧ Exts w w' := by
  have H := Lib.hid h
  have HL := Lib.hid hl
  have HN := Lib.hid hn
  clear h hl hn
  go_enter Tryd.func19, Tryd.ntmps19
  go_wp2
  go_loopw [3, 4, 5] (fun s b i wr => ∃ (k : Nat) (tx : List UInt8), k ≤ n ∧ i = .int .i64 k ∧ Exts w wr ∧ Lib.join (texts (ts.take k)) [32] = tx ∧ s = .string ⟨tx.toArray⟩ ∧ b = .bool (texts (ts.take k)).isEmpty) (fun _ _ i _ => n - (intOf i).toNat)
  case atStart => exact ⟨0, [], by omega, rfl, Exts.refl _, rfl, rfl, rfl⟩
  case round =>
    obtain ⟨k, tx, hk, rfl, ⟨x, rfl⟩, htx, rfl, rfl⟩ := hrel
    by_cases hlt : k < n
    · obtain ⟨t, ht⟩ : ∃ t, ts[k]? = some t := ⟨ts[k]'(by rw [HN.out]; exact hlt), List.getElem?_eq_getElem (by rw [HN.out]; exact hlt)⟩
      obtain ⟨b, off, rfl, hb, e0, e1, e2, e3⟩ := Toks.get H.out ht
      have hst := texts_take ts k t ht
      have htl : t.text.length ≤ 100 := HL.out t (List.mem_of_getElem? ht)
      have htxl : tx.length ≤ 10100 := by
        have h1 := join_le _ (texts_small HL.out k)
        have h2 := texts_len ts k
        rw [htx] at h1
        omega
      have HTX := Lib.hid htx
      clear ht htx
      by_cases hk3 : t.kind = 3
      · have q1 : (t.kind == 3) = true := by simpa using hk3
        have HST := Lib.hid (show texts (ts.take (k + 1)) = texts (ts.take k) by rw [hst, if_neg (by simp [keepT, hk3])])
        clear hst hk3
        go_wp2
        refine ⟨⟨k + 1, tx, by omega, by go_num, (by repeat (first | exact Exts.refl _ | apply Exts.andR | apply Exts.alloc | apply Exts.wext | apply Exts.drew | apply Exts.drewN)), by rw [HST.out]; exact HTX.out, rfl, by rw [HST.out]⟩, ?_⟩
        simp [intOf]; omega
      · have q1 : (t.kind == 3) = false := by simpa using hk3
        have HST := Lib.hid (show texts (ts.take (k + 1)) = texts (ts.take k) ++ [t.text] by rw [hst, if_pos (by simpa [keepT] using hk3)])
        clear hst hk3
        cases he : (texts (ts.take k)).isEmpty with
        | true =>
          have HE := Lib.hid (List.isEmpty_iff.1 he)
          have HC := Lib.hid (ba_cat tx t.text)
          go_wp2
          refine ⟨⟨k + 1, tx ++ t.text, by omega, by go_num, (by repeat (first | exact Exts.refl _ | apply Exts.andR | apply Exts.alloc | apply Exts.wext | apply Exts.drew | apply Exts.drewN)), by rw [HST.out, ← HTX.out, HE.out]; simp [join_one, Lib.join_nil], by rw [HC.out], by rw [HST.out]; simp⟩, ?_⟩
          simp [intOf]; omega
        | false =>
          have HE := Lib.hid (show texts (ts.take k) ≠ [] by intro hc; rw [hc] at he; cases he)
          have HC := Lib.hid (ba_cat3 tx t.text)
          have h32 : (⟨#[32]⟩ : ByteArray).size = 1 := rfl
          go_wp2
          refine ⟨⟨k + 1, tx ++ 32 :: t.text, by omega, by go_num, (by repeat (first | exact Exts.refl _ | apply Exts.andR | apply Exts.alloc | apply Exts.wext | apply Exts.drew | apply Exts.drewN)), by rw [HST.out, join_snoc _ _ HE.out, HTX.out], by rw [HC.out], by rw [HST.out]; simp⟩, ?_⟩
          simp [intOf]; omega
    · obtain rfl : k = n := by omega
      have htk : ts.take k = ts := List.take_of_length_le (by rw [HN.out]; exact Nat.le_refl _)
      rw [htk] at htx
      have HTX := Lib.hid htx
      clear htx htk
      go_wp2
      go_ret
      exact ⟨by rw [← HTX.out]; rfl, (by repeat (first | exact Exts.refl _ | apply Exts.andR | apply Exts.alloc | apply Exts.wext | apply Exts.drew | apply Exts.drewN))⟩
end Go.Proofs.YtjenpmeknlgadaaDoor
