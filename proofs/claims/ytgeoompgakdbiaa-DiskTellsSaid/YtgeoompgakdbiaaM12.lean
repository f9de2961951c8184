/- Lemmas that the laws of this seat share, 4 texts in one: RefD, RefG, RefRead, RefS. No condition of their own. -/
import Derived.Test.YtgeoompgakdbiaaM11
/- The reference's disk as it lies in memory; its smallest methods. -/
namespace Go.Proofs.Ytgeoompgakdbiaa
open Go.RowKit Go.Maps
set_option linter.unusedSimpArgs false
set_option linter.unusedVariables false
set_option maxRecDepth 100000
/-- A file of the list: its number, its bytes, its durable bytes. -/
abbrev FileT := Int × FileB
def filesC (L : List FileT) : List Value := L.flatMap fun x => [.int .i64 x.1, .string x.2.1, .string x.2.2]
def getL : List FileT → Int → FileB
  | [], _ => nof
  | x :: L, f => if x.1 = f then x.2 else getL L f
def boxR (fv qv kv : Value) (M : Mod) : Array Value := #[fv, qv, .int .i64 M.lost, .bool M.down, .int .i64 M.armed, kv]
/-- A list of files that says what the files are. -/
structure Lists (L : List FileT) (F : Int → FileB) : Prop where
  get : ∀ f, getL L f = F f
  once : (L.map Prod.fst).Nodup
  few : ∀ x ∈ L, 0 ≤ x.1 ∧ x.1 ≤ 15
theorem Lists.len {L : List FileT} {F : Int → FileB} (h : Lists L F) : L.length ≤ 16 := by
  have h1 := nodup_le (L.map Prod.fst) ((List.range 16).map fun i : Nat => (i : Int)) h.once (fun x hx => by
    obtain ⟨y, hy, rfl⟩ := List.mem_map.1 hx
    have := h.few y hy
    refine List.mem_map.2 ⟨y.1.toNat, List.mem_range.2 (by omega), by rw [Int.toNat_of_nonneg this.1]⟩)
  simpa using h1
structure RefAt (w : World) (b : Nat) (M : Mod) (O S : Nat → Prop) (c : Nat) : Prop where
  apart : ∀ k, S k → ¬ O k
  oLt : ∀ k, O k → k < w.heap.size
  sLt : ∀ k, S k → k < w.heap.size
  own : O b
  ex : ∃ fv qv kv L, w.heap[b]? = some (.cells (boxR fv qv kv M) 60 (0, 0)) ∧ (∀ g, fv.ownBlock = some g → O g) ∧ (∀ g, qv.ownBlock = some g → O g) ∧ w.ownsRow 0 65 3 fv L.length (filesC L) ∧ w.ownsRow 0 78 2 qv M.queue.length (secsC M.queue) ∧ IntsIn S w kv M.keep ∧ Lists L M.files
  good : Good M c
theorem RefAt.kept {w w' : World} {b c : Nat} {M : Mod} {O S X : Nat → Prop} (h : RefAt w b M O S c) (ht : Touch X w w') (h1 : ∀ k, O k → ¬ X k) (h2 : ∀ k, S k → ¬ X k) : RefAt w' b M O S c := by
  obtain ⟨fv, qv, kv, L, hb, o1, o2, hf, hq, hk, hl⟩ := h.ex
  exact ⟨h.apart, fun k hk => Nat.lt_of_lt_of_le (h.oLt k hk) ht.size, fun k hk => Nat.lt_of_lt_of_le (h.sLt k hk) ht.size, h.own, ⟨fv, qv, kv, L, (ht.block b (h.oLt b h.own) (h1 b h.own)).trans hb, o1, o2, ownsRow_touch hf ht (fun g hg => h1 g (o1 g hg)), ownsRow_touch hq ht (fun g hg => h1 g (o2 g hg)), hk.touch ht h2, hl⟩, h.good⟩
theorem RefAt.exts {w w' : World} {b c : Nat} {M : Mod} {O S : Nat → Prop} (h : RefAt w b M O S c) (hx : Exts w w') : RefAt w' b M O S c := h.kept (X := fun _ => False) (Touch.of_exts hx) (fun _ _ h => h) (fun _ _ h => h)
theorem RefAt.more {w : World} {b c c' : Nat} {M : Mod} {O S : Nat → Prop} (h : RefAt w b M O S c) (hc : c ≤ c') (hs : c' ≤ 1000000) : RefAt w b M O S c' := ⟨h.apart, h.oLt, h.sLt, h.own, h.ex, h.good.more hc hs⟩
/-- The rows' blocks are not the box, nor one another. -/
theorem rows_ne {w : World} {b : Nat} {cs : Array Value} {fr : Nat × Nat} {fv : Value} {t k n : Nat} {xs : List Value} (hb : w.heap[b]? = some (.cells cs t fr)) {e : Nat} (hf : w.ownsRow 0 e k fv n xs) (hne : e ≠ t) : ∀ g, fv.ownBlock = some g → g ≠ b := by
  rintro g hg rfl
  rcases hf.2 with ⟨rfl, _⟩ | ⟨g', cap, cur, rfl, _, hg', _⟩
  · cases hg
  · cases hg
    rw [hb] at hg'
    simp only [Option.some.injEq, Obj.cells.injEq] at hg'
    exact hne hg'.2.1.symm
/-- One of the disk's own numbers turns. -/
theorem RefAt.box {w w' : World} {b c : Nat} {M M' : Mod} {O S : Nat → Prop} (h : RefAt w b M O S c) (hf : M'.files = M.files) (hq : M'.queue = M.queue) (hk : M'.keep = M.keep) (hg : Good M' c)
    (hb : ∀ fv qv kv, w.heap[b]? = some (.cells (boxR fv qv kv M) 60 (0, 0)) → w'.heap[b]? = some (.cells (boxR fv qv kv M') 60 (0, 0))) (ht : Touch (fun k => k = b) w w') : RefAt w' b M' O S c := by
  obtain ⟨fv, qv, kv, L, hb0, o1, o2, h1, h2, h3, h4⟩ := h.ex
  refine ⟨h.apart, fun k hk => Nat.lt_of_lt_of_le (h.oLt k hk) ht.size, fun k hk => Nat.lt_of_lt_of_le (h.sLt k hk) ht.size, h.own, ⟨fv, qv, kv, L, hb _ _ _ hb0, o1, o2, ownsRow_touch h1 ht (rows_ne hb0 h1 (by decide)), ?_, ?_, by rw [hf]; exact h4⟩, hg⟩
  · rw [hq]
    exact ownsRow_touch h2 ht (rows_ne hb0 h2 (by decide))
  · rw [hk]
    refine h3.touch ht fun k hk he => ?_
    subst he
    exact h.apart _ hk h.own
/-- What the walk reads of it. -/
theorem RefAt.cells {w : World} {b c : Nat} {M : Mod} {O S : Nat → Prop} (h : RefAt w b M O S c) : ∃ fv qv kv L, w.heap[b]? = some (.cells (boxR fv qv kv M) 60 (0, 0)) ∧ b < w.heap.size ∧ (∀ i, w.cell? ⟨b, i, none⟩ = (boxR fv qv kv M)[i]?) ∧ (∀ i, w.frozen? ⟨b, i, none⟩ = false) ∧ (∀ g, fv.ownBlock = some g → O g ∧ g ≠ b) ∧ (∀ g, qv.ownBlock = some g → O g ∧ g ≠ b) ∧ (∀ g, qv.ownBlock = some g → ∀ g', fv.ownBlock = some g' → g ≠ g') ∧ w.ownsRow 0 65 3 fv L.length (filesC L) ∧ w.ownsRow 0 78 2 qv M.queue.length (secsC M.queue) ∧ IntsIn S w kv M.keep ∧ Lists L M.files := by
  obtain ⟨fv, qv, kv, L, hb, o1, o2, h1, h2, h3, h4⟩ := h.ex
  refine ⟨fv, qv, kv, L, hb, h.oLt b h.own, fun i => ?_, fun i => ?_, fun g hg => ⟨o1 g hg, rows_ne hb h1 (by decide) g hg⟩, fun g hg => ⟨o2 g hg, rows_ne hb h2 (by decide) g hg⟩, fun g hg g' hg' e => ?_, h1, h2, h3, h4⟩
  · simp only [World.cell?, hb]
    rfl
  · simp only [World.frozen?, hb]
    simp
  · subst e
    rcases h1.2 with ⟨rfl, _⟩ | ⟨g2, cap, cur, rfl, _, hg2, _⟩
    · cases hg'
    · cases hg'
      exact rows_ne hg2 h2 (by decide) _ hg rfl
/-- What every method leaves. -/
def AfterR (w : World) (b : Nat) (M' : Mod) (O S : Nat → Prop) (c' : Nat) (w' : World) : Prop := ∃ O' S', RefAt w' b M' O' S' c' ∧ (∀ k, O' k → O k ∨ w.heap.size ≤ k) ∧ (∀ k, S' k → S k ∨ w.heap.size ≤ k) ∧ Touch O w w'
theorem AfterR.same {w w' : World} {b c : Nat} {M : Mod} {O S : Nat → Prop} (h : RefAt w' b M O S c) (ht : Touch O w w') : AfterR w b M O S c w' := ⟨O, S, h, fun _ => Or.inl, fun _ => Or.inl, ht⟩
theorem AfterR.ahead {w w1 w2 : World} {b c : Nat} {M : Mod} {O S : Nat → Prop} (ht : Touch O w w1) (h : AfterR w1 b M O S c w2) : AfterR w b M O S c w2 := by
  obtain ⟨O', S', h1, h2, h3, h4⟩ := h
  exact ⟨O', S', h1, fun k hk => (h2 k hk).imp (fun h => h) (fun h => Nat.le_trans ht.size h), fun k hk => (h3 k hk).imp (fun h => h) (fun h => Nat.le_trans ht.size h), ht.then h4⟩
theorem AfterR.then {w w1 w2 : World} {b c1 c2 : Nat} {M1 M2 : Mod} {O S : Nat → Prop} (h1 : AfterR w b M1 O S c1 w1) (h2 : ∀ O' S', RefAt w1 b M1 O' S' c1 → AfterR w1 b M2 O' S' c2 w2) : AfterR w b M2 O S c2 w2 := by
  obtain ⟨O1, S1, hd, ho, hs, ht⟩ := h1
  obtain ⟨O2, S2, hd2, ho2, hs2, ht2⟩ := h2 O1 S1 hd
  refine ⟨O2, S2, hd2, fun k hk => ?_, fun k hk => ?_, ht.trans ht2 ho⟩
  · rcases ho2 k hk with h | h
    · exact ho k h
    · exact Or.inr (Nat.le_trans ht.size h)
  · rcases hs2 k hk with h | h
    · exact hs k h
    · exact Or.inr (Nat.le_trans ht.size h)
theorem AfterR.more {w w' : World} {b c c' : Nat} {M : Mod} {O S : Nat → Prop} (h : AfterR w b M O S c w') (hc : c ≤ c') (hs : c' ≤ 1000000) : AfterR w b M O S c' w' := by
  obtain ⟨O', S', h1, h2⟩ := h
  exact ⟨O', S', h1.more hc hs, h2⟩
/-- A disk made anew out of its parts. -/
theorem RefAt.remake {w w' : World} {b c c' : Nat} {M M' : Mod} {O S : Nat → Prop} (h : RefAt w b M O S c) (ht : Touch O w w') (fv qv kv : Value) (L : List FileT) (hb : w'.heap[b]? = some (.cells (boxR fv qv kv M') 60 (0, 0)))
    (o1 : ∀ g, fv.ownBlock = some g → O g ∨ w.heap.size ≤ g) (o2 : ∀ g, qv.ownBlock = some g → O g ∨ w.heap.size ≤ g)
    (hF : w'.ownsRow 0 65 3 fv L.length (filesC L)) (hQ : w'.ownsRow 0 78 2 qv M'.queue.length (secsC M'.queue)) (hK : IntsIn S w kv M'.keep) (hL : Lists L M'.files) (hg : Good M' c') : AfterR w b M' O S c' w' := by
  refine ⟨fun k => (O k ∨ w.heap.size ≤ k) ∧ k < w'.heap.size, S, ⟨fun k hk ho => ?_, fun k hk => hk.2, fun k hk => Nat.lt_of_lt_of_le (h.sLt k hk) ht.size, ⟨Or.inl h.own, Nat.lt_of_lt_of_le (h.oLt b h.own) ht.size⟩, ⟨fv, qv, kv, L, hb, fun g hg => ⟨o1 g hg, owns_lt hF hg⟩, fun g hg => ⟨o2 g hg, owns_lt hQ hg⟩, hF, hQ, hK.touch ht h.apart, hL⟩, hg⟩, fun k hk => hk.1, fun k hk => Or.inl hk, ht⟩
  rcases ho.1 with ho | ho
  · exact h.apart k hk ho
  · have := h.sLt k hk
    omega
theorem owns_le {w : World} {base base' e k n : Nat} {v : Value} {xs : List Value} (h : w.ownsRow base e k v n xs) (hb : base' ≤ base) : w.ownsRow base' e k v n xs := by
  refine ⟨h.1, ?_⟩
  rcases h.2 with h0 | ⟨g, cap, cur, h1, h2, h3⟩
  · exact .inl h0
  · exact .inr ⟨g, cap, cur, h1, Nat.le_trans hb h2, h3⟩
/-- The list of files is replaced by a new one. -/
theorem RefAt.files {w W : World} {b c : Nat} {M : Mod} {O S : Nat → Prop} {F' : Int → FileB} (h : RefAt w b M O S c) (hx : Exts w W) {fv : Value} {L' : List FileT} {n : Nat} {xs : List Value} (hrow : W.ownsRow w.heap.size 65 3 fv n xs) (hn : L'.length = n) (hxs : filesC L' = xs) (hl : Lists L' F') (hg : Good { M with files := F' } c) : AfterR w b { M with files := F' } O S c (W.setCell ⟨b, 0, none⟩ fv) := by
  subst hn hxs
  obtain ⟨fv0, qv, kv, L, hb, o1, o2, hF, hQ, hK, hL⟩ := h.ex
  have lb := h.oLt b h.own
  have ht : Touch O w (W.setCell ⟨b, 0, none⟩ fv) := (Touch.of_exts hx).then (Touch.setCell _ _ _ h.own)
  have hbW := (hx.below.block b lb).trans hb
  have hne : ∀ g, fv.ownBlock = some g → g ≠ b := fun g hg e => by
    have := owns_base hrow hg
    omega
  have hb' := heap_setCell_at W b 0 fv hbW
  refine h.remake ht fv qv kv L' ?_ (fun g hg => Or.inr (owns_base hrow hg)) (fun g hg => Or.inl (o2 g hg)) (ownsRow_touch (owns_any hrow) (Touch.setCell (O := fun k => k = b) _ _ _ rfl) hne) ?_ hK hl hg
  · rw [hb']
    rfl
  · exact ownsRow_touch (ownsRow_touch hQ (Touch.of_exts (O := fun _ => False) hx) (fun _ _ h => h)) (Touch.setCell (O := fun k => k = b) _ _ _ rfl) (rows_ne hb hQ (by decide))
theorem refDown15 {w : World} {b c : Nat} {M : Mod} {O S : Nat → Prop} (hd : RefAt w b M O S c) : Calls Try.prog 15 #[.pointer (some ⟨b, 0, none⟩)] w fun e w' => e = .returned (.bool M.down) ∧ w = w' := by
  obtain ⟨fv, qv, kv, L, hbox, lb, cc, ff, o1, o2, o12, hF, hQ, ⟨ko, kc, rfl, hK⟩, hL⟩ := hd.cells
  obtain ⟨fo, fc, rfl⟩ := owns_shape hF
  obtain ⟨qo, qc, rfl⟩ := owns_shape hQ
  have c0 := cc 0
  have c1 := cc 1
  have c2 := cc 2
  have c3 := cc 3
  have c4 := cc 4
  have c5 := cc 5
  simp only [boxR, List.getElem?_toArray, List.getElem?_cons_zero, List.getElem?_cons_succ] at c0 c1 c2 c3 c4 c5
  clear cc
  clear hF hQ hK hL hd hbox
  go_enter Try.func15, Try.ntmps15
  go_wp2
  go_ret
  exact ⟨rfl, rfl⟩
theorem refStart37 {w : World} {b c : Nat} {M : Mod} {O S : Nat → Prop} (hd : RefAt w b M O S c) : Calls Try.prog 37 #[.pointer (some ⟨b, 0, none⟩)] w fun e w' => e = .returned (.tuple #[]) ∧ AfterR w b { M with down := false } O S c w' := by
  obtain ⟨fv, qv, kv, L, hbox, lb, cc, ff, o1, o2, o12, hF, hQ, ⟨ko, kc, rfl, hK⟩, hL⟩ := hd.cells
  obtain ⟨fo, fc, rfl⟩ := owns_shape hF
  obtain ⟨qo, qc, rfl⟩ := owns_shape hQ
  have c0 := cc 0
  have c1 := cc 1
  have c2 := cc 2
  have c3 := cc 3
  have c4 := cc 4
  have c5 := cc 5
  simp only [boxR, List.getElem?_toArray, List.getElem?_cons_zero, List.getElem?_cons_succ] at c0 c1 c2 c3 c4 c5
  clear cc
  have HD := Lib.hid hd
  clear hF hQ hK hL hd hbox
  go_enter Try.func37, Try.ntmps37
  go_wp2
  go_end0
  refine ⟨rfl, AfterR.same (HD.out.box rfl rfl rfl ⟨HD.out.good.lost, HD.out.good.armed, HD.out.good.count, HD.out.good.secs, HD.out.good.sizes, HD.out.good.keep, HD.out.good.small⟩ (fun fv qv kv hb => ?_) (Touch.setCell _ _ _ rfl)) (Touch.setCell _ _ _ HD.out.own)⟩
  rw [heap_setCell_at _ _ _ _ hb]
  rfl
theorem refLose34 {w : World} {b c : Nat} {M : Mod} {O S : Nat → Prop} (hd : RefAt w b M O S c) (n : Int) (hn : I64 n) : Calls Try.prog 34 #[.pointer (some ⟨b, 0, none⟩), .int .i64 n] w fun e w' => e = .returned (.tuple #[]) ∧ AfterR w b { M with lost := max n 0 } O S c w' := by
  obtain ⟨fv, qv, kv, L, hbox, lb, cc, ff, o1, o2, o12, hF, hQ, ⟨ko, kc, rfl, hK⟩, hL⟩ := hd.cells
  obtain ⟨fo, fc, rfl⟩ := owns_shape hF
  obtain ⟨qo, qc, rfl⟩ := owns_shape hQ
  have c0 := cc 0
  have c1 := cc 1
  have c2 := cc 2
  have c3 := cc 3
  have c4 := cc 4
  have c5 := cc 5
  simp only [boxR, List.getElem?_toArray, List.getElem?_cons_zero, List.getElem?_cons_succ] at c0 c1 c2 c3 c4 c5
  clear cc
  have HD := Lib.hid hd
  obtain ⟨hn1, hn2⟩ := hn
  clear hF hQ hK hL hd hbox
  by_cases h0 : n < 0
  · have HM := Lib.hid (show max n 0 = 0 by omega)
    go_enter Try.func34, Try.ntmps34
    go_wp2
    go_end0
    refine ⟨rfl, AfterR.same (HD.out.box rfl rfl rfl ⟨by rw [HM.out]; exact ⟨by simp only []; omega, by simp only []; omega⟩, HD.out.good.armed, HD.out.good.count, HD.out.good.secs, HD.out.good.sizes, HD.out.good.keep, HD.out.good.small⟩ (fun fv qv kv hb => ?_) (Touch.setCell _ _ _ rfl)) (Touch.setCell _ _ _ HD.out.own)⟩
    rw [heap_setCell_at _ _ _ _ hb, HM.out]
    rfl
  · have HM := Lib.hid (show max n 0 = n by omega)
    go_enter Try.func34, Try.ntmps34
    go_wp2
    go_end0
    refine ⟨rfl, AfterR.same (HD.out.box rfl rfl rfl ⟨by rw [HM.out]; exact ⟨by simp only []; omega, by simp only []; omega⟩, HD.out.good.armed, HD.out.good.count, HD.out.good.secs, HD.out.good.sizes, HD.out.good.keep, HD.out.good.small⟩ (fun fv qv kv hb => ?_) (Touch.setCell _ _ _ rfl)) (Touch.setCell _ _ _ HD.out.own)⟩
    rw [heap_setCell_at _ _ _ _ hb, HM.out]
    rfl
theorem refMay46_D {w : World} {b c : Nat} {M : Mod} {O S : Nat → Prop} (hd : RefAt w b M O S c) (f m : Int) (hm : mayD M f = m) : Calls Try.prog 46 #[.pointer (some ⟨b, 0, none⟩), .int .i64 f] w fun e w' => e = .returned (.int .i64 m) ∧ w = w' := by
  subst hm
  obtain ⟨fv, qv, kv, L, hbox, lb, cc, ff, o1, o2, o12, hF, hQ, ⟨ko, kc, rfl, hK⟩, hL⟩ := hd.cells
  obtain ⟨fo, fc, rfl⟩ := owns_shape hF
  obtain ⟨qo, qc, rfl⟩ := owns_shape hQ
  have c0 := cc 0
  have c1 := cc 1
  have c2 := cc 2
  have c3 := cc 3
  have c4 := cc 4
  have c5 := cc 5
  simp only [boxR, List.getElem?_toArray, List.getElem?_cons_zero, List.getElem?_cons_succ] at c0 c1 c2 c3 c4 c5
  clear cc
  clear hF hQ hK hL hd hbox
  cases hdn : M.down with
  | true =>
    have HE := Lib.hid (show mayD M f = 8 by unfold mayD; rw [hdn]; rfl)
    rw [hdn] at c3
    go_enter Try.func46, Try.ntmps46
    go_wp2
    go_ret
    exact ⟨by rw [HE.out]; rfl, rfl⟩
  | false =>
    rw [hdn] at c3
    by_cases h0 : f < 0
    · have HE := Lib.hid (show mayD M f = 1 by unfold mayD; rw [hdn, if_neg (by decide), if_pos (Or.inl h0)])
      have q1 : decide (f < 0) = true := by simpa using h0
      clear h0
      go_enter Try.func46, Try.ntmps46
      go_wp2
      go_ret
      exact ⟨by rw [HE.out]; rfl, rfl⟩
    · have q1 : decide (f < 0) = false := by simpa using h0
      by_cases h1 : 15 < f
      · have HE := Lib.hid (show mayD M f = 1 by unfold mayD; rw [hdn, if_neg (by decide), if_pos (Or.inr h1)])
        have q2 : decide (15 < f) = true := by simpa using h1
        clear h0 h1
        go_enter Try.func46, Try.ntmps46
        go_wp2
        go_ret
        exact ⟨by rw [HE.out]; rfl, rfl⟩
      · have HE := Lib.hid (show mayD M f = 0 by unfold mayD; rw [hdn, if_neg (by decide), if_neg (by omega)])
        have q2 : decide (15 < f) = false := by simpa using h1
        clear h0 h1
        go_enter Try.func46, Try.ntmps46
        go_wp2
        go_ret
        exact ⟨by rw [HE.out]; rfl, rfl⟩
theorem refNew11 (w : World) : Calls Try.prog 11 #[] w fun e w' => ∃ b, e = .returned (.pointer (some ⟨b, 0, none⟩)) ∧ Exts w w' ∧ RefAt w' b M0 (fun k => w.heap.size ≤ k ∧ k < w'.heap.size) (fun _ => False) 0 := by
  go_enter Try.func11, Try.ntmps11
  go_wp2
  go_ret
  have hb := (MapKept.heap_alloc w (.cells #[.slice none 0 0, .slice none 0 0, .int .i64 0, .bool false, .int .i64 0, .slice none 0 0] 60)).1
  refine ⟨_, rfl, (by repeat (first | exact Exts.refl _ | apply Exts.andR | apply Exts.alloc | apply Exts.wext | apply Exts.drew | apply Exts.drewN)), ⟨fun k hk => hk.elim, fun k hk => hk.2, fun k hk => hk.elim, ⟨by omega, by simp⟩, ⟨.slice none 0 0, .slice none 0 0, .slice none 0 0, [], hb, fun g hg => (by cases hg), fun g hg => (by cases hg), ⟨rfl, .inl ⟨rfl, rfl⟩⟩, ⟨rfl, .inl ⟨rfl, rfl⟩⟩, ⟨none, 0, rfl, RowF.nil _ _ _⟩, ⟨fun f => rfl, List.Pairwise.nil, fun x hx => (by cases hx)⟩⟩, ?_⟩⟩
  exact ⟨⟨by decide, by decide⟩, ⟨by decide, by decide⟩, Nat.le_refl _, fun p hp => by simp [M0] at hp, fun f => ⟨Nat.zero_le _, Nat.zero_le _⟩, fun x hx => by simp [M0] at hx, by decide⟩
end Go.Proofs.Ytgeoompgakdbiaa

/- The reference: get, Size, Read. -/
namespace Go.Proofs.Ytgeoompgakdbiaa
open Go.RowKit Go.Maps
set_option linter.unusedSimpArgs false
set_option linter.unusedVariables false
set_option maxRecDepth 100000
theorem filesC_get : ∀ (L : List FileT) (j : Nat) (p : FileT), L[j]? = some p → (filesC L)[j * 3]? = some (.int .i64 p.1) ∧ (filesC L)[j * 3 + 1]? = some (.string p.2.1) ∧ (filesC L)[j * 3 + 2]? = some (.string p.2.2)
  | [], j, p, h => by simp at h
  | x :: L, 0, p, h => by
    simp at h
    subst h
    exact ⟨rfl, rfl, rfl⟩
  | x :: L, j + 1, p, h => by
    have := filesC_get L j p (by simpa using h)
    have hc : filesC (x :: L) = [.int .i64 x.1, .string x.2.1, .string x.2.2] ++ filesC L := rfl
    rw [hc, show (j + 1) * 3 = j * 3 + 3 by omega]
    refine ⟨?_, ?_, ?_⟩
    · rw [List.getElem?_append_right (by simp)]
      exact this.1
    · rw [List.getElem?_append_right (by simp <;> omega)]
      have e : j * 3 + 3 + 1 - ([Value.int .i64 x.1, .string x.2.1, .string x.2.2] : List Value).length = j * 3 + 1 := by simp <;> omega
      rw [e]
      exact this.2.1
    · rw [List.getElem?_append_right (by simp <;> omega)]
      have e : j * 3 + 3 + 2 - ([Value.int .i64 x.1, .string x.2.1, .string x.2.2] : List Value).length = j * 3 + 2 := by simp <;> omega
      rw [e]
      exact this.2.2
theorem filesC_len (L : List FileT) : (filesC L).length = L.length * 3 := by
  induction L with
  | nil => rfl
  | cons x L ih => rw [show filesC (x :: L) = [.int .i64 x.1, .string x.2.1, .string x.2.2] ++ filesC L from rfl, List.length_append, ih, List.length_cons]; simp; omega
theorem filesC_snoc (L : List FileT) (x : FileT) : filesC (L ++ [x]) = filesC L ++ [.int .i64 x.1, .string x.2.1, .string x.2.2] := by simp [filesC]
/-- An element of a row of our own, in memory. -/
theorem RowF.place {S : Nat → Prop} {k : Nat} {w : World} {ao : Option Addr} {n c : Nat} {xs : List Value} (h : RowF S k w (.slice ao n c) n xs) (hn : 0 < n) : ∃ g off, ao = some ⟨g, off, none⟩ ∧ S g ∧ g < w.heap.size ∧ ∀ t v, xs[t]? = some v → w.cell? ⟨g, off + t, none⟩ = some v := by
  obtain ⟨_, ao2, cap2, hv, _, _, _, h5⟩ := h
  cases hv
  exact h5 hn
theorem files_at {S : Nat → Prop} {w : World} {fo : Option Addr} {n fc : Nat} {L : List FileT} (h : RowF S 3 w (.slice fo n fc) n (filesC L)) (hn : L.length = n) {i : Nat} {p : FileT} (hp : L[i]? = some p) : ∃ g off, fo = some ⟨g, off, none⟩ ∧ S g ∧ g < w.heap.size ∧ w.cell? ⟨g, off + i * 3, none⟩ = some (.int .i64 p.1) ∧ w.cell? ⟨g, off + i * 3 + 1, none⟩ = some (.string p.2.1) ∧ w.cell? ⟨g, off + i * 3 + 2, none⟩ = some (.string p.2.2) := by
  have hi := (List.getElem?_eq_some_iff.1 hp).1
  obtain ⟨g, off, h1, h2, h3, h4⟩ := h.place (by omega)
  obtain ⟨q1, q2, q3⟩ := filesC_get L i p hp
  exact ⟨g, off, h1, h2, h3, h4 _ _ q1, by rw [Nat.add_assoc]; exact h4 _ _ q2, by rw [Nat.add_assoc]; exact h4 _ _ q3⟩
/-- The list without its first k files says the same of a file, if it is none of these. -/
theorem getL_drop (L : List FileT) (f : Int) : ∀ k, (∀ x ∈ L.take k, x.1 ≠ f) → getL L f = getL (L.drop k) f := by
  induction L with
  | nil => intro k _; simp
  | cons x L ih =>
    intro k hk
    cases k with
    | zero => rfl
    | succ k =>
      have hx : x.1 ≠ f := hk x (by simp)
      show (if x.1 = f then x.2 else getL L f) = getL (L.drop k) f
      rw [if_neg hx]
      exact ih k fun y hy => hk y (by simp [hy])
theorem getL_hit {L : List FileT} {f : Int} {k : Nat} {p : FileT} (hk : ∀ x ∈ L.take k, x.1 ≠ f) (hp : L[k]? = some p) (hf : p.1 = f) : getL L f = p.2 := by
  rw [getL_drop L f k hk, List.drop_eq_getElem?_toList_append, hp]
  show (if p.1 = f then p.2 else _) = p.2
  rw [if_pos hf]
theorem getL_miss {L : List FileT} {f : Int} (hk : ∀ x ∈ L, x.1 ≠ f) : getL L f = nof := by
  rw [getL_drop L f L.length (by rw [List.take_length]; exact hk)]
  simp [getL]
set_option maxHeartbeats 1000000
theorem get39 {w : World} {b c : Nat} {M : Mod} {O S : Nat → Prop} (hd : RefAt w b M O S c) (f : Int) : Calls Try.prog 39 #[.pointer (some ⟨b, 0, none⟩), .int .i64 f] w fun e w' => e = .returned (.agg #[.int .i64 f, .string (M.files f).1, .string (M.files f).2]) ∧ Exts w w' := by
  obtain ⟨fv, qv, kv, L, hbox, lb, cc, ff, o1, o2, o12, hF, hQ, ⟨ko, kc, rfl, hK⟩, hL⟩ := hd.cells
  obtain ⟨fo, fc, rfl⟩ := owns_shape hF
  obtain ⟨qo, qc, rfl⟩ := owns_shape hQ
  have c0 := cc 0
  have c1 := cc 1
  have c2 := cc 2
  have c3 := cc 3
  have c4 := cc 4
  have c5 := cc 5
  simp only [boxR, List.getElem?_toArray, List.getElem?_cons_zero, List.getElem?_cons_succ] at c0 c1 c2 c3 c4 c5
  clear cc
  obtain ⟨n, hn⟩ : ∃ n, L.length = n := ⟨_, rfl⟩
  have hlen := hL.len
  have HR := Lib.hid (RowF.of_owns hF)
  have HL := Lib.hid hL
  rw [hn] at HR c0 hlen
  have HN := Lib.hid hn
  clear hF hQ hK hL hd hbox hn
  go_enter Try.func39, Try.ntmps39
  go_wp2
  go_loopw [5] (fun si wr => ∃ k : Nat, si = .int .i64 k ∧ k ≤ n ∧ w.alloc (.cells #[.int .i64 0, .string ⟨#[]⟩, .string ⟨#[]⟩] 65) = wr ∧ ∀ x ∈ L.take k, x.1 ≠ f) (fun si _ => n - (intOf si).toNat)
  case atStart => exact ⟨0, rfl, Nat.zero_le _, rfl, fun x hx => by simp at hx⟩
  case round =>
    obtain ⟨k, rfl, hk, rfl, hall⟩ := hrel
    have HALL := Lib.hid hall
    clear hall
    by_cases hlt : k < n
    · obtain ⟨p, hp⟩ : ∃ p, L[k]? = some p := ⟨_, List.getElem?_eq_getElem (by rw [HN.out]; exact hlt)⟩
      obtain ⟨g, off, rfl, _, lg, e0, e1, e2⟩ := files_at HR.out HN.out hp
      have HP := Lib.hid hp
      by_cases hf : p.1 = f
      · have q1 : (p.1 == f) = true := by simpa using hf
        have hq : M.files f = p.2 := (HL.out.get f).symm.trans (getL_hit HALL.out hp hf)
        have HQ := Lib.hid hq
        have HF := Lib.hid hf
        clear hf hp hq
        go_wp2
        refine bodyPost_ret (v := .agg #[.int .i64 p.1, .string p.2.1, .string p.2.2]) (by simp [results, go_sem]) rfl ⟨by rw [HQ.out, HF.out], (by repeat (first | exact Exts.refl _ | apply Exts.andR | apply Exts.alloc | apply Exts.wext | apply Exts.drew | apply Exts.drewN))⟩
      · have q1 : (p.1 == f) = false := by simpa using hf
        have hnext : ∀ x ∈ L.take (k + 1), x.1 ≠ f := by
          intro x hx
          rw [List.take_add_one, hp] at hx
          rcases List.mem_append.1 hx with h | h
          · exact HALL.out x h
          · obtain rfl : x = p := by simpa using h
            exact hf
        have HX := Lib.hid hnext
        clear hf hp hnext
        go_wp2
        exact ⟨⟨k + 1, by go_num, by omega, trivial, HX.out⟩, by simp [intOf]; omega⟩
    · obtain rfl : k = n := by omega
      have hq : M.files f = nof := by
        rw [← HL.out.get f]
        refine getL_miss fun x hx => HALL.out x ?_
        rw [List.take_of_length_le (by rw [HN.out]; exact Nat.le_refl _)]
        exact hx
      have HQ := Lib.hid hq
      clear hq
      go_wp2
      refine bodyPost_ret (v := .agg #[.int .i64 f, .string ⟨#[]⟩, .string ⟨#[]⟩]) (by simp [results, go_sem]) rfl ⟨by rw [HQ.out]; rfl, (by repeat (first | exact Exts.refl _ | apply Exts.andR | apply Exts.alloc | apply Exts.wext | apply Exts.drew | apply Exts.drewN))⟩
theorem get39_ext {w W : World} {b c : Nat} {M : Mod} {O S : Nat → Prop} {f : Int} {x y : ByteArray} (hd : RefAt w b M O S c) (hx : Exts w W) (hf : M.files f = (x, y)) : Calls Try.prog 39 #[.pointer (some ⟨b, 0, none⟩), .int .i64 f] W fun e w' => e = .returned (.agg #[.int .i64 f, .string x, .string y]) ∧ Exts W w' := by
  have := get39 (hd.exts hx) f
  rw [hf] at this
  exact this
@[go_sem] theorem fld65_0 (a : Int) (b c : ByteArray) (w : World) : (Instr.field 65 (.agg #[.int .i64 a, .string b, .string c]) 0).run Try.prog w = .ok (.int .i64 a) w := by kernel_rfl
@[go_sem] theorem fld65_1 (a : Int) (b c : ByteArray) (w : World) : (Instr.field 65 (.agg #[.int .i64 a, .string b, .string c]) 1).run Try.prog w = .ok (.string b) w := by kernel_rfl
@[go_sem] theorem fld65_2 (a : Int) (b c : ByteArray) (w : World) : (Instr.field 65 (.agg #[.int .i64 a, .string b, .string c]) 2).run Try.prog w = .ok (.string c) w := by kernel_rfl
theorem refSize17 {w : World} {b c : Nat} {M : Mod} {O S : Nat → Prop} (hd : RefAt w b M O S c) (f : Int) : Calls Try.prog 17 #[.pointer (some ⟨b, 0, none⟩), .int .i64 f] w fun e w' => e = .returned (.int .i64 (M.files f).1.size) ∧ Exts w w' := by
  have h39 := get39 hd f
  obtain ⟨x, hx⟩ : ∃ x, M.files f = x := ⟨_, rfl⟩
  rw [hx] at h39 ⊢
  clear hx hd
  go_enter Try.func17, Try.ntmps17
  go_wp2_with (first | (go_at_call 39; ((with_reducible refine h39.mono ?_); rintro e w' ⟨rfl, hx⟩)))
  go_ret
  exact ⟨rfl, hx⟩
end Go.Proofs.Ytgeoompgakdbiaa

/- The reference: Read, fits, pending, Put. -/
namespace Go.Proofs.Ytgeoompgakdbiaa
open Go.RowKit Go.Maps
set_option linter.unusedSimpArgs false
set_option linter.unusedVariables false
set_option maxRecDepth 100000
theorem empty_of_size {s : ByteArray} (h : s.size = 0) : s = ⟨#[]⟩ := bn_ext h (fun i hi => by omega)
set_option maxHeartbeats 1000000
theorem refRead21 {w : World} {b c : Nat} {M : Mod} {O S : Nat → Prop} (hd : RefAt w b M O S c) (f at' size : Int) (ha : I64 at') (hs : I64 size) : Calls Try.prog 21 #[.pointer (some ⟨b, 0, none⟩), .int .i64 f, .int .i64 at', .int .i64 size] w fun e w' => e = .returned (.tuple #[.string (readD M f at' size).1, .int .i64 (readD M f at' size).2]) ∧ Exts w w' := by
  have HD := Lib.hid hd
  obtain ⟨m, hm⟩ : ∃ m, mayD M f = m := ⟨_, rfl⟩
  have HM := Lib.hid hm
  by_cases h0 : m = 0
  · subst h0
    by_cases h1 : at' < 0
    · have HR := Lib.hid (show readD M f at' size = (⟨#[]⟩, 1) by unfold readD; rw [if_pos hm, if_pos (Or.inl h1)])
      have q1 : decide (at' < 0) = true := by simpa using h1
      clear hd hm h1
      go_enter Try.func21, Try.ntmps21
      go_wp2_with (first | (go_at_call 46; ((with_reducible refine (refMay46_D HD.out _ _ HM.out).mono ?_); rintro e w' ⟨rfl, rfl⟩)))
      go_ret2
      exact ⟨by rw [HR.out]; rfl, Exts.refl _⟩
    · have q1 : decide (at' < 0) = false := by simpa using h1
      by_cases h2 : size < 0
      · have HR := Lib.hid (show readD M f at' size = (⟨#[]⟩, 1) by unfold readD; rw [if_pos hm, if_pos (Or.inr h2)])
        have q2 : decide (size < 0) = true := by simpa using h2
        clear hd hm h1 h2
        go_enter Try.func21, Try.ntmps21
        go_wp2_with (first | (go_at_call 46; ((with_reducible refine (refMay46_D HD.out _ _ HM.out).mono ?_); rintro e w' ⟨rfl, rfl⟩)))
        go_ret2
        exact ⟨by rw [HR.out]; rfl, Exts.refl _⟩
      · have q2 : decide (size < 0) = false := by simpa using h2
        obtain ⟨a, rfl⟩ := Int.eq_ofNat_of_zero_le (show 0 ≤ at' by omega)
        obtain ⟨n, rfl⟩ := Int.eq_ofNat_of_zero_le (show 0 ≤ size by omega)
        have hrd : readD M f a n = (cutB (M.files f).1 a n, 0) := by
          unfold readD
          rw [if_pos hm, if_neg (by omega), Int.toNat_natCast, Int.toNat_natCast]
        have h39 := get39 hd f
        have hfit := (hd.good.sizes f).1
        unfold maxFile at hfit
        obtain ⟨⟨s, s2⟩, hsx⟩ : ∃ x, M.files f = x := ⟨_, rfl⟩
        rw [hsx] at h39 hfit hrd
        simp only [] at h39 hfit hrd
        clear hd hm h1 h2 hsx
        by_cases h3 : s.size ≤ a
        · have HR := Lib.hid (show readD M f a n = (⟨#[]⟩, 0) by rw [hrd, empty_of_size (s := cutB s a n) (by rw [cut_size]; omega)])
          have q3 : decide (s.size ≤ a) = true := by simpa using h3
          clear hrd h3
          go_enter Try.func21, Try.ntmps21
          go_wp2_with (first | (go_at_call 46; ((with_reducible refine (refMay46_D HD.out _ _ HM.out).mono ?_); rintro e w' ⟨rfl, rfl⟩)) | (go_at_call 39; ((with_reducible refine h39.mono ?_); rintro e w2 ⟨rfl, hx⟩)))
          go_ret2
          exact ⟨by rw [HR.out]; rfl, hx⟩
        · have q3 : decide (s.size ≤ a) = false := by simpa using h3
          obtain ⟨d, hd⟩ : ∃ d, s.size = a + d := ⟨s.size - a, by omega⟩
          have b2 : ((s.size : Int) - a) = d := by omega
          have b3 : a ≤ s.size := by omega
          by_cases h4 : d < n
          · have HR := Lib.hid (show readD M f a n = (s.extract a (a + d), 0) by rw [hrd, cut_part]; congr 3 <;> omega)
            have q4 : decide (d < n) = true := by simpa using h4
            have b4 : a + d ≤ s.size := by omega
            clear hrd h3 hd
            go_enter Try.func21, Try.ntmps21
            go_wp2_with (first | (go_at_call 46; ((with_reducible refine (refMay46_D HD.out _ _ HM.out).mono ?_); rintro e w' ⟨rfl, rfl⟩)) | (go_at_call 39; ((with_reducible refine h39.mono ?_); rintro e w2 ⟨rfl, hx⟩)))
            go_ret2
            exact ⟨by rw [HR.out]; rfl, hx⟩
          · have HR := Lib.hid (show readD M f a n = (s.extract a (a + n), 0) by rw [hrd, cut_part]; congr 3 <;> omega)
            have q4 : decide (d < n) = false := by simpa using h4
            have b4 : a + n ≤ s.size := by omega
            clear hrd h3 hd
            go_enter Try.func21, Try.ntmps21
            go_wp2_with (first | (go_at_call 46; ((with_reducible refine (refMay46_D HD.out _ _ HM.out).mono ?_); rintro e w' ⟨rfl, rfl⟩)) | (go_at_call 39; ((with_reducible refine h39.mono ?_); rintro e w2 ⟨rfl, hx⟩)))
            go_ret2
            exact ⟨by rw [HR.out]; rfl, hx⟩
  · have hr : readD M f at' size = (⟨#[]⟩, m) := by
      unfold readD
      rw [if_neg (by rw [hm]; exact h0), hm]
    have HR := Lib.hid hr
    have q0 : (m == 0) = false := by simpa using h0
    have q0' : (m != 0) = true := by simpa using h0
    clear hd hm hr h0
    go_enter Try.func21, Try.ntmps21
    go_wp2_with (first | (go_at_call 46; ((with_reducible refine (refMay46_D HD.out _ _ HM.out).mono ?_); rintro e w' ⟨rfl, rfl⟩)))
    go_ret2
    exact ⟨by rw [HR.out]; rfl, Exts.refl _⟩
def fitsB (at' : Int) (n : Nat) : Bool := decide (0 ≤ at') && (decide (at' ≤ 16777216) && decide (at' + n ≤ 16777216))
theorem fits53 (w : World) (at' : Int) (s : ByteArray) (ha : I64 at') (hs : s.size ≤ 300) : Calls Try.prog 53 #[.int .i64 at', .string s] w fun e w' => e = .returned (.bool (fitsB at' s.size)) ∧ w = w' := by
  by_cases h0 : 0 ≤ at'
  · have q0 : decide (0 ≤ at') = true := by simpa using h0
    by_cases h1 : at' ≤ 16777216
    · have q1 : decide (at' ≤ 16777216) = true := by simpa using h1
      obtain ⟨r, hr⟩ : ∃ r, decide (at' + (s.size : Int) ≤ 16777216) = r := ⟨_, rfl⟩
      have HB := Lib.hid (show fitsB at' s.size = r by unfold fitsB; rw [q0, q1, hr]; rfl)
      go_enter Try.func53, Try.ntmps53
      go_wp2
      go_ret
      rw [HB.out]
      exact ⟨rfl, rfl⟩
    · have q1 : decide (at' ≤ 16777216) = false := by simpa using h1
      have HB := Lib.hid (show fitsB at' s.size = false by unfold fitsB; rw [q0, q1]; rfl)
      clear h0 h1
      go_enter Try.func53, Try.ntmps53
      go_wp2
      go_ret
      rw [HB.out]
      exact ⟨rfl, rfl⟩
  · have q0 : decide (0 ≤ at') = false := by simpa using h0
    have HB := Lib.hid (show fitsB at' s.size = false by unfold fitsB; rw [q0]; rfl)
    clear h0
    go_enter Try.func53, Try.ntmps53
    go_wp2
    go_ret
    rw [HB.out]
    exact ⟨rfl, rfl⟩
end Go.Proofs.Ytgeoompgakdbiaa

/- The reference: set, Put, pending. -/
namespace Go.Proofs.Ytgeoompgakdbiaa
open Go.RowKit Go.Maps
set_option linter.unusedSimpArgs false
set_option linter.unusedVariables false
set_option maxRecDepth 100000
def offL (f : Int) (L : List FileT) : List FileT := L.filter fun x => !(x.1 == f)
theorem offL_step {f : Int} {L : List FileT} {k : Nat} {p : FileT} (h : L[k]? = some p) : offL f (L.take (k + 1)) = if (p.1 == f) = true then offL f (L.take k) else offL f (L.take k) ++ [p] := by
  rw [List.take_add_one, h]
  unfold offL
  rw [List.filter_append]
  cases hp : (p.1 == f) <;> simp [hp]
theorem offL_le (f : Int) (L : List FileT) : (offL f L).length ≤ L.length := List.length_filter_le _ _
theorem getL_append (A : List FileT) (x : FileT) (f : Int) (h : ∀ y ∈ A, y.1 ≠ x.1) : getL (A ++ [x]) f = if f = x.1 then x.2 else getL A f := by
  induction A with
  | nil =>
    show (if x.1 = f then x.2 else nof) = _
    by_cases e : x.1 = f
    · rw [if_pos e, if_pos e.symm]
    · rw [if_neg e, if_neg (fun h => e h.symm)]
      rfl
  | cons a A ih =>
    show (if a.1 = f then a.2 else getL (A ++ [x]) f) = if f = x.1 then x.2 else (if a.1 = f then a.2 else getL A f)
    rw [ih fun y hy => h y (by simp [hy])]
    by_cases e : a.1 = f
    · have : f ≠ x.1 := fun e2 => h a (by simp) (e.trans e2)
      rw [if_pos e, if_neg this, if_pos e]
    · rw [if_neg e, if_neg e]
theorem getL_off (L : List FileT) (g f : Int) (h : f ≠ g) : getL (offL g L) f = getL L f := by
  induction L with
  | nil => rfl
  | cons a L ih =>
    unfold offL
    by_cases e : a.1 = g
    · rw [List.filter_cons_of_neg (by simp [e])]
      show getL (offL g L) f = if a.1 = f then a.2 else getL L f
      rw [if_neg (fun e2 => h (e2.symm.trans e)), ih]
    · rw [List.filter_cons_of_pos (by simp [e])]
      show (if a.1 = f then a.2 else getL (offL g L) f) = if a.1 = f then a.2 else getL L f
      rw [ih]
theorem Lists.set {L : List FileT} {F : Int → FileB} (h : Lists L F) {n : Int} (x : FileB) (h0 : 0 ≤ n) (h15 : n ≤ 15) : Lists (offL n L ++ [(n, x)]) (setF F n x) := by
  have hne : ∀ y ∈ offL n L, y.1 ≠ n := fun y hy => by
    have := (List.mem_filter.1 hy).2
    simpa using this
  refine ⟨fun f => ?_, ?_, fun y hy => ?_⟩
  · rw [getL_append _ _ _ hne]
    unfold setF
    by_cases e : f = n
    · rw [if_pos e, if_pos e]
    · rw [if_neg e, if_neg e, getL_off _ _ _ e, h.get]
  · rw [List.map_append]
    refine List.nodup_append.2 ⟨?_, by simp, fun a ha b hb e => ?_⟩
    · exact (h.once.sublist ((List.filter_sublist).map _))
    · obtain ⟨y, hy, rfl⟩ := List.mem_map.1 ha
      simp at hb
      exact hne y hy (e.trans hb)
  · rcases List.mem_append.1 hy with h1 | h1
    · exact h.few y (List.mem_filter.1 h1).1
    · obtain rfl : y = (n, x) := by simpa using h1
      exact ⟨h0, h15⟩
theorem info65 : (Try.prog.info? 65).map (fun i => (i.zero, i.size, i.bytes)) = some (some (.agg #[.int .i64 0, .string ⟨#[]⟩, .string ⟨#[]⟩]), 3, 40) := by kernel_rfl
def setM (M : Mod) (n : Int) (x : FileB) : Mod := { M with files := setF M.files n x }
set_option maxHeartbeats 1000000
theorem set60 {w : World} {b c : Nat} {M : Mod} {O S : Nat → Prop} (hd : RefAt w b M O S c) (n : Int) (s1 s2 : ByteArray) (h0 : 0 ≤ n) (h15 : n ≤ 15) (hs1 : s1.size ≤ maxFile) (hs2 : s2.size ≤ maxFile) : Calls Try.prog 60 #[.pointer (some ⟨b, 0, none⟩), .agg #[.int .i64 n, .string s1, .string s2]] w fun e w' => e = .returned (.tuple #[]) ∧ AfterR w b (setM M n (s1, s2)) O S c w' := by
  have HD := Lib.hid hd
  obtain ⟨i0, hi, hz0, hz1, hz2⟩ := info_parts info65
  obtain ⟨fv, qv, kv, L, hbox, lb, cc, ff, o1, o2, o12, hF, hQ, ⟨ko, kc, rfl, hK⟩, hL⟩ := hd.cells
  obtain ⟨fo, fc, rfl⟩ := owns_shape hF
  obtain ⟨qo, qc, rfl⟩ := owns_shape hQ
  have c0 := cc 0
  have c1 := cc 1
  have c2 := cc 2
  have c3 := cc 3
  have c4 := cc 4
  have c5 := cc 5
  simp only [boxR, List.getElem?_toArray, List.getElem?_cons_zero, List.getElem?_cons_succ] at c0 c1 c2 c3 c4 c5
  clear cc
  obtain ⟨m, hm⟩ : ∃ n, L.length = n := ⟨_, rfl⟩
  have hlen := hL.len
  have HR := Lib.hid (RowF.of_owns hF)
  have HL := Lib.hid hL
  rw [hm] at HR c0 hlen
  have HN := Lib.hid hm
  clear hF hQ hK hL hd hbox hm
  go_enter Try.func60, Try.ntmps60
  go_wp2
  go_loopw [4, 5] (fun so si wr => ∃ (k j : Nat) (oo : Option Addr) (oc : Nat), so = .slice oo j oc ∧ si = .int .i64 k ∧ k ≤ m ∧ j ≤ k ∧ Exts (w.alloc (.cells #[.int .i64 n, .string s1, .string s2] 65)) wr ∧ (offL n (L.take k)).length = j ∧ wr.ownsRow (w.heap.size + 1) 65 3 so j (filesC (offL n (L.take k)))) (fun _ si _ => m - (intOf si).toNat)
  case atStart => exact ⟨0, 0, none, 0, rfl, rfl, Nat.zero_le _, Nat.le_refl _, Exts.refl _, rfl, ⟨rfl, .inl ⟨rfl, rfl⟩⟩⟩
  case round =>
    obtain ⟨k, j, oo, oc, rfl, rfl, hk, hjk, hx, hj, ho⟩ := hrel
    have hx1 : Exts w wr := Exts.trans (by repeat (first | exact Exts.refl _ | apply Exts.andR | apply Exts.alloc | apply Exts.wext | apply Exts.drew | apply Exts.drewN)) hx
    have d0 := Exts.cell hx1 c0
    have x0 : wr.cell? ⟨w.heap.size, 0, none⟩ = some (.int .i64 n) := Exts.cell hx (by simp [go_sem])
    have x1 : wr.cell? ⟨w.heap.size, 1, none⟩ = some (.string s1) := Exts.cell hx (by simp [go_sem])
    have x2 : wr.cell? ⟨w.heap.size, 2, none⟩ = some (.string s2) := Exts.cell hx (by simp [go_sem])
    have lw : w.heap.size + 1 ≤ wr.heap.size := by have := hx.below.size; rw [World.size_alloc] at this; exact this
    have HX := Lib.hid hx
    have HX1 := Lib.hid hx1
    have HO := Lib.hid ho
    have HJ := Lib.hid hj
    clear hx hx1 ho hj
    by_cases hlt : k < m
    · obtain ⟨p, hp⟩ : ∃ p, L[k]? = some p := ⟨_, List.getElem?_eq_getElem (by rw [HN.out]; exact hlt)⟩
      obtain ⟨g, off, rfl, _, lg, e0, e1, e2⟩ := files_at HR.out HN.out hp
      have g0 := Exts.cell HX1.out e0
      have g1 := Exts.cell HX1.out e1
      have g2 := Exts.cell HX1.out e2
      have lg' : g < wr.heap.size := World.block_lt_of_cell? wr _ g0
      have hst := offL_step (f := n) hp
      obtain ⟨pn, pa, pb⟩ := p
      simp only at e0 e1 e2 g0 g1 g2 hst
      by_cases hf : pn = n
      · have q1 : (pn == n) = true := by simpa using hf
        have q2 : (pn != n) = false := by simpa using hf
        have HST := Lib.hid (hst.trans (if_pos q1))
        clear hf hp hst e0 e1 e2
        go_wp2
        go_region
        all_goals
          (try go_frame)
          go_wp2
          exact ⟨⟨k + 1, j, oo, oc, rfl, by go_num, by omega, by omega, HX.out.trans (by repeat (first | exact Exts.refl _ | apply Exts.andR | apply Exts.alloc | apply Exts.wext | apply Exts.drew | apply Exts.drewN)), by rw [HST.out]; exact HJ.out, by rw [HST.out]; exact ownsRow_exts HO.out (by repeat (first | exact Exts.refl _ | apply Exts.andR | apply Exts.alloc | apply Exts.wext | apply Exts.drew | apply Exts.drewN))⟩, by simp [intOf]; omega⟩
      · have q1 : (pn == n) = false := by simpa using hf
        have q2 : (pn != n) = true := by simpa using hf
        have HST := Lib.hid (hst.trans (if_neg (by rw [q1]; decide)))
        clear hf hp hst e0 e1 e2
        go_wp2
        go_region
        all_goals
          (try go_frame)
          go_wp2_with (at_builtin; refine wpList_append_lies _ rfl (.tmp 26) (.tmp 34) 57 rfl (w.heap.size + 1) 65 i0 _ 3 40 Try.underlying57 hi hz0 hz1 hz2 rfl (by decide) (.slice oo j oc) j (filesC (offL n (L.take k))) rfl (ownsRow_exts HO.out (by repeat (first | exact Exts.refl _ | apply Exts.andR | apply Exts.alloc | apply Exts.wext | apply Exts.drew | apply Exts.drewN))) ⟨wr.heap.size, 0, none⟩ 1 1 [.int .i64 pn, .string pa, .string pb] rfl rfl (by intro t u hj; match t, hj with | 0, hj => (simp at hj; subst hj; simp [go_sem]) | 1, hj => (simp at hj; subst hj; simp [go_sem]) | 2, hj => (simp at hj; subst hj; simp [go_sem]) | t + 3, hj => (simp at hj)) (by intro u hu; simp at hu; rcases hu with rfl | rfl | rfl <;> rfl) (by decide) (by unfold maxLen; omega) (by omega) (by simp; omega) _ rfl ?_; intro g' cg w1 hown' hgrow hat hlt')
          exact ⟨⟨k + 1, j + 1, _, cg, rfl, by go_num, by omega, by omega, exts_of_grown (HX.out.trans (by repeat (first | exact Exts.refl _ | apply Exts.andR | apply Exts.alloc | apply Exts.wext | apply Exts.drew | apply Exts.drewN))) hgrow (fun b hb => by rw [World.size_alloc]; exact (HO.out.lt b hb).1), by rw [HST.out, List.length_append, HJ.out]; rfl, by rw [HST.out, filesC_snoc]; exact hown'⟩, by simp [intOf]; omega⟩
    · obtain rfl : k = m := by omega
      have e1 : L.take k = L := List.take_of_length_le (by rw [HN.out]; exact Nat.le_refl _)
      have HE := Lib.hid e1
      clear e1
      go_wp2_with (at_builtin; refine wpList_append_lies _ rfl (.tmp 37) (.tmp 39) 57 rfl (w.heap.size + 1) 65 i0 _ 3 40 Try.underlying57 hi hz0 hz1 hz2 rfl (by decide) (.slice oo j oc) j (filesC (offL n (L.take k))) rfl (ownsRow_exts HO.out (by repeat (first | exact Exts.refl _ | apply Exts.andR | apply Exts.alloc | apply Exts.wext | apply Exts.drew | apply Exts.drewN))) ⟨wr.heap.size, 0, none⟩ 1 1 [.int .i64 n, .string s1, .string s2] rfl rfl (by intro t u hj; match t, hj with | 0, hj => (simp at hj; subst hj; simp [go_sem]) | 1, hj => (simp at hj; subst hj; simp [go_sem]) | 2, hj => (simp at hj; subst hj; simp [go_sem]) | t + 3, hj => (simp at hj)) (by intro u hu; simp at hu; rcases hu with rfl | rfl | rfl <;> rfl) (by decide) (by unfold maxLen; omega) (by omega) (by simp; omega) _ rfl ?_; intro g' cg w1 hown' hgrow hat hlt'; (have hE : Exts w w1 := exts_of_grown (HX1.out.trans (by repeat (first | exact Exts.refl _ | apply Exts.andR | apply Exts.alloc | apply Exts.wext | apply Exts.drew | apply Exts.drewN))) hgrow (fun b hb => by have := (HO.out.lt b hb).1; omega)); (have b0 := Exts.cell hE c0); (have lb1 : b < w1.heap.size := World.block_lt_of_cell? w1 _ b0); (have bf : w1.frozen? ⟨b, 0, none⟩ = false := (World.frozen?_of_block (hE.below.block b lb)).trans (ff 0)))
      go_end0
      have hl := HL.out.set (n := n) (s1, s2) h0 h15
      have hE : Exts w w1 := exts_of_grown (HX1.out.trans (by repeat (first | exact Exts.refl _ | apply Exts.andR | apply Exts.alloc | apply Exts.wext | apply Exts.drew | apply Exts.drewN))) hgrow (fun b hb => by have := (HO.out.lt b hb).1; omega)
      refine ⟨rfl, HD.out.files (L' := offL n L ++ [(n, (s1, s2))]) (n := j + 1) hE (owns_le hown' (Nat.le_succ _)) ?_ (by rw [filesC_snoc, HE.out]) hl ⟨HD.out.good.lost, HD.out.good.armed, HD.out.good.count, HD.out.good.secs, fun g => ?_, HD.out.good.keep, HD.out.good.small⟩⟩
      · have := HJ.out
        rw [HE.out] at this
        rw [List.length_append, this]
        rfl
      · by_cases e : g = n
        · subst e
          simp only [setF_same]
          exact ⟨hs1, hs2⟩
        · simp only [setF_other e]
          exact HD.out.good.sizes g
end Go.Proofs.Ytgeoompgakdbiaa
