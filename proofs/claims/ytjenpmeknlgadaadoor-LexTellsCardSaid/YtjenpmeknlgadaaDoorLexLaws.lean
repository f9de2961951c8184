/- Laws of the tokens: each token is found again alone, and ahead of what does not go on with it. Plain. -/
import Derived.Test.YtjenpmeknlgadaaDoorWordsPlain
import Derived.Test.YtjenpmeknlgadaaDoorText
namespace Go.Proofs.YtjenpmeknlgadaaDoor
open Go.RowKit
set_option linter.unusedSimpArgs false
set_option linter.unusedVariables false

theorem span_app {p : Int → Bool} (l r : List UInt8) (h : p (headI r) = false) : spanN p (l ++ r) = spanN p l := by
  have hr := span_zero h
  unfold spanN at hr ⊢
  rw [List.takeWhile_append]
  split
  · rename_i h1
    rw [List.length_append, hr, Nat.add_zero, h1]
  · rfl
theorem take_span {p : Int → Bool} (l r : List UInt8) (h : p (headI r) = false) : (l ++ r).take (spanN p (l ++ r)) = l.take (spanN p l) := by
  rw [span_app l r h, List.take_append_of_le_length (spanN_le _ _)]
theorem head_app {l : List UInt8} (h : l ≠ []) (r : List UInt8) : headI (l ++ r) = headI l := by
  cases l with
  | nil => exact absurd rfl h
  | cons c l => rfl
theorem toNat_ne {c : UInt8} {n : Nat} {m : UInt8} (h : (c.toNat : Int) ≠ n) (hm : m.toNat = n) : (m == c) = false := by
  rw [Bool.eq_false_iff]
  intro hc
  have := eq_of_beq hc
  subst this
  omega
theorem sign_app {l : List UInt8} (h : l ≠ []) (r : List UInt8) (hr : headI r ≠ 61) : signP (l ++ r) = signP l := by
  match l, h with
  | c :: d :: l, _ => simp [signP, signsL, List.find?, List.isPrefixOf]
  | [c], _ =>
    cases r with
    | nil => rfl
    | cons d r =>
      have := toNat_ne (c := d) (n := 61) (m := 61) hr rfl
      simp [signP, signsL, List.find?, List.isPrefixOf, this]
theorem sign_two (t : List UInt8) (h : t ≠ []) (c : UInt8) (r r' : List UInt8) : signP (t ++ c :: r) = signP (t ++ c :: r') := by
  match t, h with
  | a :: b :: t, _ => simp [signP, signsL, List.find?, List.isPrefixOf]
  | [a], _ => simp [signP, signsL, List.find?, List.isPrefixOf]
theorem sign_self : ∀ x ∈ signsL, signP x = some x := by decide
theorem word_digit {n : Int} (h : wordI n = false) : digitI n = false := by
  simp only [wordI, Bool.or_eq_false_iff] at h
  exact h.2
theorem next_app {l : List UInt8} (h : l ≠ []) (r : List UInt8) (hr : wordI (headI r) = false) (hr' : headI r ≠ 61) : nextP (l ++ r) = nextP l := by
  unfold nextP
  rw [head_app h, take_span l r hr, take_span l r (word_digit hr), sign_app h r hr']

/-- What a token is. -/
def Good (t : TK) : Prop := (t.kind = 0 ∧ wordB t.text = true ∧ t.n = 0) ∨ (t.kind = 1 ∧ numOk t.text = true ∧ t.n = numVal t.text) ∨ (t.kind = 2 ∧ t.text ∈ signsL ∧ t.n = 0)
theorem good_next {l : List UInt8} {t : TK} (h : nextP l = (t, 0)) : Good t := by
  unfold nextP at h
  split at h
  · split at h
    · rename_i h2
      simp only [Prod.mk.injEq] at h
      rw [← h.1]
      exact Or.inl ⟨rfl, h2, rfl⟩
    · simp at h
  · split at h
    · split at h
      · rename_i h3
        simp only [Prod.mk.injEq] at h
        rw [← h.1]
        refine Or.inr (Or.inl ⟨rfl, ?_, ?_⟩)
        · cases hn : numOk (l.take (spanN digitI l)) with
          | true => rfl
          | false => rw [numD_no hn] at h3; cases h3
        · cases hn : numOk (l.take (spanN digitI l)) with
          | true => show (numD (l.take (spanN digitI l))).1 = _; rw [numD_yes hn]
          | false => rw [numD_no hn] at h3; cases h3
      · simp at h
    · split at h
      · rename_i x hs
        simp only [Prod.mk.injEq] at h
        rw [← h.1]
        exact Or.inr (Or.inr ⟨rfl, List.mem_of_find?_eq_some hs, rfl⟩)
      · simp at h
theorem sign_head : ∀ x ∈ signsL, letterI (headI x) = false ∧ digitI (headI x) = false ∧ blankI (headI x) = false ∧ x ≠ [] := by decide
theorem Good.ne {t : TK} (h : Good t) : t.text ≠ [] := by
  rcases h with ⟨_, h, _⟩ | ⟨_, h, _⟩ | ⟨_, h, _⟩
  · exact (wordB_parts h).1
  · exact (numOk_parts h).1
  · exact (sign_head _ h).2.2.2
theorem num_head {T : List UInt8} (h : numOk T = true) : digitI (headI T) = true := by
  obtain ⟨h1, h2, _, _⟩ := numOk_parts h
  obtain ⟨c, hc, hh⟩ := head_mem h1
  rw [hh]
  exact span_all.1 h2 c hc
theorem Good.blank {t : TK} (h : Good t) : blankI (headI t.text) = false := by
  rcases h with ⟨_, h, _⟩ | ⟨_, h, _⟩ | ⟨_, h, _⟩
  · exact letter_blank (wordB_parts h).2.1
  · exact digit_blank (num_head h)
  · exact (sign_head _ h).2.2.1
theorem Good.kind {t : TK} (h : Good t) : t.kind ≠ 3 := by
  rcases h with ⟨h, _⟩ | ⟨h, _⟩ | ⟨h, _⟩ <;> omega
theorem Good.n {t : TK} (h : Good t) (h1 : t.kind ≠ 1) : t.n = 0 := by
  rcases h with ⟨_, _, h⟩ | ⟨h, _⟩ | ⟨_, _, h⟩
  · exact h
  · exact absurd h h1
  · exact h
/-- A token stands at the beginning of what it begins, if nothing goes on with it. -/
theorem Good.next {t : TK} (h : Good t) (r : List UInt8) (h0 : t.kind = 0 → wordI (headI r) = false) (h1 : t.kind = 1 → digitI (headI r) = false) (h2 : t.kind = 2 → signP (t.text ++ r) = some t.text) : nextP (t.text ++ r) = (t, 0) := by
  have hne := h.ne
  obtain ⟨k, x, n⟩ := t
  rcases h with ⟨hk, h, hn⟩ | ⟨hk, h, hn⟩ | ⟨hk, h, hn⟩ <;> simp only at hk h hn hne h0 h1 h2 ⊢ <;> subst hk hn
  · obtain ⟨_, p2, p3, p4⟩ := wordB_parts h
    unfold nextP
    rw [head_app hne, if_pos p2, take_span x r (h0 rfl), p4, List.take_length, if_pos h]
  · obtain ⟨_, p2, p3, p4⟩ := numOk_parts h
    have hd := num_head h
    unfold nextP
    rw [head_app hne, if_neg (by rw [letter_digit hd]; simp), if_pos hd, take_span x r (h1 rfl), p2, List.take_length, numD_yes h]
    rfl
  · obtain ⟨p1, p2, _, _⟩ := sign_head _ h
    unfold nextP
    rw [head_app hne, if_neg (by rw [p1]; simp), if_neg (by rw [p2]; simp), h2 rfl]
theorem Good.next_free {t : TK} (h : Good t) (r : List UInt8) (hr : wordI (headI r) = false) (hr' : headI r ≠ 61) : nextP (t.text ++ r) = (t, 0) := by
  refine h.next r (fun _ => hr) (fun _ => word_digit hr) fun hk => ?_
  rw [sign_app h.ne r hr']
  rcases h with ⟨h, _⟩ | ⟨h, _⟩ | ⟨_, h, _⟩
  · omega
  · omega
  · exact sign_self _ h

/-- The tokens without their places. -/
def TP.bare (t : TP) : TK := ⟨t.kind, t.text, t.n⟩
def endK : TK := ⟨3, [], 0⟩
theorem lexGo_fin {l : List UInt8} {f k b : Nat} (hb : spanN blankI l = b) (h : l.drop b = []) : lexGo (f + 1) l k = ([endT (k + b)], 0, 0) := by
  unfold lexGo
  rw [hb, if_pos h]
theorem lexGo_bad {l : List UInt8} {f k b : Nat} (hb : spanN blankI l = b) (h : l.drop b ≠ []) (he : (nextP (l.drop b)).2 ≠ 0) : lexGo (f + 1) l k = ([], ((k + b : Nat) : Int), (nextP (l.drop b)).2) := by
  conv => lhs; unfold lexGo
  rw [hb, if_neg h, if_neg he]
def glue (t : TP) (r : List TP × Int × Int) : List TP × Int × Int := if r.2.2 = 0 then (t :: r.1, r.2) else ([], r.2)
theorem lexGo_tok {l : List UInt8} {f k b : Nat} {t : TK} (hb : spanN blankI l = b) (h : l.drop b ≠ []) (he : nextP (l.drop b) = (t, 0)) :
    lexGo (f + 1) l k = glue (t.at (k + b)) (lexGo f (l.drop (b + t.text.length)) (k + b + t.text.length)) := by
  conv => lhs; unfold lexGo
  rw [hb, if_neg h, he, if_pos rfl, ← List.drop_drop]
  rfl
/-- The three ways of a round. -/
theorem lexGo_ways (l : List UInt8) : ∃ b, spanN blankI l = b ∧ b ≤ l.length ∧ (l.drop b = [] ∨ (l.drop b ≠ [] ∧ (nextP (l.drop b)).2 ≠ 0) ∨ (l.drop b ≠ [] ∧ ∃ t r, nextP (l.drop b) = (t, 0) ∧ Good t ∧ l.drop b = t.text ++ r ∧ l.drop (b + t.text.length) = r)) := by
  refine ⟨_, rfl, spanN_le _ _, ?_⟩
  generalize hm : l.drop (spanN blankI l) = m
  by_cases h : m = []
  · exact Or.inl h
  · by_cases h2 : (nextP m).2 = 0
    · refine Or.inr (Or.inr ⟨h, (nextP m).1, m.drop (nextP m).1.text.length, Prod.ext rfl h2, good_next (l := m) (Prod.ext rfl h2), ?_, ?_⟩)
      · conv => lhs; rw [← List.take_append_drop (nextP m).1.text.length m]
        rw [← (nextP_ok h2).2]
      · rw [← List.drop_drop, hm]
    · exact Or.inr (Or.inl ⟨h, h2⟩)

theorem glue_ok {t : TP} {r : List TP × Int × Int} {ts : List TP} {a : Int} (h : glue t r = (ts, a, 0)) : ∃ us, r = (us, a, 0) ∧ ts = t :: us := by
  unfold glue at h
  split at h
  · rename_i hc
    obtain ⟨us, a', c⟩ := r
    simp only at hc
    subst hc
    simp only [Prod.mk.injEq] at h
    obtain ⟨rfl, rfl, _⟩ := h
    exact ⟨us, rfl, rfl⟩
  · rename_i hc
    simp only [Prod.mk.injEq] at h
    exact absurd (congrArg Prod.snd h.2) hc
def lenK (L : List TK) : Nat := Lib.lens (L.map (·.text))
theorem lexGo_ok : ∀ (f : Nat) (l : List UInt8) (k : Nat) (ts : List TP) (a : Int), lexGo f l k = (ts, a, 0) → a = 0 ∧ ∃ L : List TK, ts.map TP.bare = L ++ [endK] ∧ (∀ t ∈ L, Good t) ∧ lenK L ≤ l.length ∧ L.length ≤ l.length
  | 0, _, _, _, _, h => by simp [lexGo] at h
  | f + 1, l, k, ts, a, h => by
    obtain ⟨b, hb, hbl, h1 | ⟨h1, h2⟩ | ⟨h1, t, r, h2, h3, h4, h5⟩⟩ := lexGo_ways l
    · rw [lexGo_fin hb h1] at h
      simp only [Prod.mk.injEq] at h
      obtain ⟨rfl, rfl, _⟩ := h
      exact ⟨rfl, [], rfl, by simp, by simp [lenK, Lib.lens], by simp⟩
    · rw [lexGo_bad hb h1 h2] at h
      simp only [Prod.mk.injEq] at h
      exact absurd h.2.2 h2
    · rw [lexGo_tok hb h1 h2] at h
      obtain ⟨us, hu, rfl⟩ := glue_ok h
      obtain ⟨ha, L, hL, hg, hs, hn⟩ := lexGo_ok f _ _ us a hu
      have hlen := congrArg List.length h4
      rw [List.length_drop, List.length_append] at hlen
      have hp := len_pos h3.ne
      rw [h5] at hs hn
      refine ⟨ha, t :: L, by simp [TP.bare, TK.at, hL], ?_, ?_, ?_⟩
      · intro x hx
        rcases List.mem_cons.1 hx with rfl | hx
        · exact h3
        · exact hg x hx
      · simp only [lenK, Lib.lens, List.map_cons, List.sum_cons] at hs ⊢
        omega
      · simp only [List.length_cons]
        omega

/-- The text of good tokens has these tokens. -/
theorem lexGo_tail : ∀ (L : List TK) (f k : Nat), (∀ t ∈ L, Good t) → L.length < f → ∃ us, lexGo f (Lib.joinTail [32] (L.map (·.text))) k = (us, 0, 0) ∧ us.map TP.bare = L ++ [endK]
  | [], f, k, _, hf => by
    obtain ⟨f, rfl⟩ : ∃ f', f = f' + 1 := ⟨f - 1, by omega⟩
    exact ⟨_, lexGo_fin (b := 0) rfl rfl, rfl⟩
  | t :: L, f, k, hg, hf => by
    obtain ⟨f, rfl⟩ : ∃ f', f = f' + 1 := ⟨f - 1, by omega⟩
    have ht := hg t (by simp)
    have hJ : Lib.joinTail [32] ((t :: L).map (·.text)) = 32 :: (t.text ++ Lib.joinTail [32] (L.map (·.text))) := by simp [Lib.joinTail]
    have hb : spanN blankI (32 :: (t.text ++ Lib.joinTail [32] (L.map (·.text)))) = 1 := by
      have := span_zero (p := blankI) (l := t.text ++ Lib.joinTail [32] (L.map (·.text))) (by rw [head_app ht.ne]; exact ht.blank)
      unfold spanN at this ⊢
      rw [List.takeWhile_cons, if_pos (show blankI (((32 : UInt8).toNat : Nat) : Int) = true by decide), List.length_cons, this]
    have hd : wordI (headI (Lib.joinTail [32] (L.map (·.text)))) = false ∧ headI (Lib.joinTail [32] (L.map (·.text))) ≠ 61 := by
      cases L with
      | nil => exact ⟨rfl, by decide⟩
      | cons u L => exact ⟨rfl, by show (32 : Int) ≠ 61; decide⟩
    obtain ⟨us, hu, hus⟩ := lexGo_tail L f (k + 1 + t.text.length) (fun x hx => hg x (by simp [hx])) (by simp at hf; omega)
    rw [hJ, lexGo_tok hb (by simp [ht.ne]) (ht.next_free _ hd.1 hd.2)]
    refine ⟨t.at (k + 1) :: us, ?_, by simp [TP.bare, TK.at, hus]⟩
    rw [Nat.add_comm 1, List.drop_succ_cons, List.drop_left, hu]
    rfl
theorem lexGo_join (L : List TK) (f k : Nat) (hg : ∀ t ∈ L, Good t) (hf : L.length < f) : ∃ us, lexGo f (Lib.join (L.map (·.text)) [32]) k = (us, 0, 0) ∧ us.map TP.bare = L ++ [endK] := by
  cases L with
  | nil => exact lexGo_tail [] f k hg hf
  | cons t L =>
    obtain ⟨f, rfl⟩ : ∃ f', f = f' + 1 := ⟨f - 1, by omega⟩
    have ht := hg t (by simp)
    have hb : spanN blankI (t.text ++ Lib.joinTail [32] (L.map (·.text))) = 0 := span_zero (by rw [head_app ht.ne]; exact ht.blank)
    have hd : wordI (headI (Lib.joinTail [32] (L.map (·.text)))) = false ∧ headI (Lib.joinTail [32] (L.map (·.text))) ≠ 61 := by
      cases L with
      | nil => exact ⟨rfl, by decide⟩
      | cons u L => exact ⟨rfl, by show (32 : Int) ≠ 61; decide⟩
    obtain ⟨us, hu, hus⟩ := lexGo_tail L f (k + 0 + t.text.length) (fun x hx => hg x (by simp [hx])) (by simp at hf; omega)
    rw [List.map_cons, Lib.join_cons, lexGo_tok hb (by simp [ht.ne]) (ht.next_free _ hd.1 hd.2)]
    refine ⟨t.at (k + 0) :: us, ?_, by simp [TP.bare, TK.at, hus]⟩
    rw [Nat.zero_add, List.drop_left, hu]
    rfl
theorem texts_bare {ts : List TP} {L : List TK} (h : ts.map TP.bare = L ++ [endK]) (hg : ∀ t ∈ L, Good t) : texts ts = L.map (·.text) := by
  have h1 : texts ts = ((ts.map TP.bare).filter fun t => t.kind != 3).map (·.text) := by
    unfold texts
    rw [List.filter_map, List.map_map]
    rfl
  have h2 : L.filter (fun t => t.kind != 3) = L := List.filter_eq_self.2 fun t ht => by simpa using (hg t ht).kind
  rw [h1, h, List.filter_append, h2]
  simp [endK]
/-- THE LAW OF LexBack. -/
theorem back_law {T : List UInt8} (hT : T.length ≤ 3000) {ts : List TP} {a : Int} (h : lexS T = (ts, a, 0)) :
    ts.length ≤ 3001 ∧ (textP ts).length ≤ 6000 ∧ ∃ us, lexS (textP ts) = (us, 0, 0) ∧ us.map TP.bare = ts.map TP.bare ∧ us.length = ts.length ∧ textP us = textP ts := by
  have hS : lexS T = lexGo (T.length + 1) T 0 := by unfold lexS; rw [if_neg (by omega)]
  rw [hS] at h
  obtain ⟨_, L, hL, hg, hs, hn⟩ := lexGo_ok _ _ _ _ _ h
  have htx := texts_bare hL hg
  have hlen : ts.length = L.length + 1 := by
    have := congrArg List.length hL
    simpa using this
  have hjl : (textP ts).length ≤ lenK L + L.length := by
    unfold textP
    rw [htx]
    cases L with
    | nil => simp [Lib.join_nil]
    | cons t L =>
      rw [List.map_cons, Lib.join_length]
      simp [lenK]
      omega
  have hsz : L.length ≤ (textP ts).length := by
    unfold textP
    rw [htx]
    cases L with
    | nil => simp
    | cons t L =>
      rw [List.map_cons, Lib.join_length]
      have := len_pos (hg t (by simp)).ne
      simp [Lib.lens]
      omega
  obtain ⟨us, hu, hus⟩ := lexGo_join L ((textP ts).length + 1) 0 hg (by omega)
  have htu := texts_bare hus hg
  refine ⟨by omega, by omega, us, ?_, by rw [hus, hL], ?_, by unfold textP; rw [htu, htx]⟩
  · have e : Lib.join (L.map (·.text)) [32] = textP ts := by unfold textP; rw [htx]
    rw [e] at hu
    unfold lexS
    rw [if_neg (by omega)]
    exact hu
  · have := congrArg List.length hus
    simp at this
    omega
end Go.Proofs.YtjenpmeknlgadaaDoor
