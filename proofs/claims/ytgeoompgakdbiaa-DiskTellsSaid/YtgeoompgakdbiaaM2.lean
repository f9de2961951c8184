/- Lemmas that the laws of this seat share, 4 texts in one: Append, Touch, Frame, MapsD. No condition of their own. -/
import Derived.Test.YtgeoompgakdbiaaM1
import Derived.Laws.AppendOwnNone
import Derived.Maps.OwnOps
import Derived.Maps.OwnSet
import Derived.Maps.RangeWalk
import Derived.ProofKit
import Derived.OpenShut
import Derived.ShutString
import Derived.DeepKeys4
import Derived.DeepKeys5
/- append of a slice, nil or not, that reads as a row, to a slice of the call's own. -/
namespace Go.Proofs.Ytgeoompgakdbiaa
open Go.RowKit
set_option linter.unusedSimpArgs false
set_option linter.unusedVariables false

theorem owns_shape {w : World} {base n k : Nat} {e : TypeId} {v : Value} {xs : List Value} (h : w.ownsRow base e k v n xs) : ∃ ao c, v = .slice ao n c := by
  obtain ⟨_, ⟨rfl, rfl⟩ | ⟨g, cap, cur, rfl, _⟩⟩ := h
  · exact ⟨_, _, rfl⟩
  · exact ⟨_, _, rfl⟩

theorem wpList_append_row {P : Program} {w : World} {ops : Array Oper} {rest : List Oper} {o : Oper} {a : Act} {Q : Exit → Act → World → Prop} (hgd : o.guard = none) (s x : Operand) (t : TypeId)
    (ho : o.op = .call { callee := .builtin .append, args := #[s, x], argTypes := #[t, t] })
    (base : Nat) (e : TypeId) (i : TypeInfo) (z : Value) (size bytes : Nat) (ht : P.underlying t = some (.slice e)) (hi : P.info? e = some i) (hz : i.zero = some z)
    (hsize : i.size = size) (hby : i.bytes = bytes) (hzs : z.cells.size = size) (hsz : 0 < size)
    (v : Value) (n : Nat) (xs : List Value) (hs : a.eval s = v) (hown : w.ownsRow base e size v n xs)
    (ao : Option Addr) (m c : Nat) (news : List Value) (hx : a.eval x = .slice ao m c) {S : Nat → Prop} (hrow : RowF S size w (.slice ao m c) m news) (h1 : ∀ u ∈ news, u.oneCell' = true)
    (h63 : n + m ≤ maxLen) (hbytes : (n + m) * bytes ≤ 140737488355328) (hbase : base ≤ w.heap.size)
    (h : ∀ ao' c' w', w'.ownsRow base e size (.slice ao' (n + m) c') (n + m) (xs ++ news) → w.grownBy w' v.ownBlock → wpList P ops Q rest (a.put o.dst (.slice ao' (n + m) c')) w') : wpList P ops Q (o :: rest) a w := by
  obtain ⟨hl, ao2, cap2, hv, h2, h3, h4, h5⟩ := hrow
  simp only [Value.slice.injEq, true_and] at hv
  obtain ⟨rfl, rfl⟩ := hv
  cases ao with
  | none =>
    have hc := h4 rfl
    subst hc
    obtain rfl : m = 0 := by omega
    obtain rfl : news = [] := List.eq_nil_of_length_eq_zero (by simpa using hl)
    obtain ⟨ao', c', hv⟩ := owns_shape hown
    refine wpList_append_own_none hgd s x t ho base e i size ht hi v n xs hs hown hx ?_
    have := h ao' c' w (by rw [List.append_nil, Nat.add_zero, ← hv]; exact hown) (grownBy_exts (Exts.refl w) _)
    rw [Nat.add_zero, ← hv] at this
    exact this
  | some ad =>
    refine wpList_append_own w hgd s x t ho base e i z size bytes ht hi hz hsize hby hzs hsz v n xs hs hown ad m c news hx hl (fun j u hj => ?_) h1 h63 hbytes hbase (fun v' w' h2 h3 _ => ?_)
    · have hm : 0 < m := by
        have := (List.getElem?_eq_some_iff.1 hj).1
        rw [hl] at this
        exact Nat.pos_of_ne_zero (fun h0 => by subst h0; simp at this)
      obtain ⟨b, off, hab, _, _, hc⟩ := h5 hm
      cases hab
      rw [Addr.add_lit]
      exact hc j u hj
    · obtain ⟨ao', c', rfl⟩ := owns_shape h2
      exact h ao' c' w' h2 h3

end Go.Proofs.Ytgeoompgakdbiaa

/- A world that is another one but for some blocks and new ones. No program in sight, but for the names. -/
namespace Go.Proofs.Ytgeoompgakdbiaa
open Go.RowKit Go.Maps
set_option linter.unusedSimpArgs false
set_option linter.unusedVariables false

/-- w' is w but for the blocks of O and new ones. -/
structure Touch (O : Nat → Prop) (w w' : World) : Prop where
  os : w'.os = w.os
  tape : w'.tape = w.tape
  output : w'.output = w.output
  size : w.heap.size ≤ w'.heap.size
  block : ∀ k, k < w.heap.size → ¬ O k → w'.heap[k]? = w.heap[k]?
theorem Touch.refl (O : Nat → Prop) (w : World) : Touch O w w := ⟨rfl, rfl, rfl, Nat.le_refl _, fun _ _ _ => rfl⟩
theorem Touch.trans {O O' : Nat → Prop} {a b c : World} (h : Touch O a b) (h' : Touch O' b c) (hO : ∀ k, O' k → O k ∨ a.heap.size ≤ k) : Touch O a c :=
  ⟨h'.os.trans h.os, h'.tape.trans h.tape, h'.output.trans h.output, Nat.le_trans h.size h'.size, fun k hk hn =>
    (h'.block k (Nat.lt_of_lt_of_le hk h.size) (fun hk' => by
      rcases hO k hk' with h1 | h1
      · exact hn h1
      · omega)).trans (h.block k hk hn)⟩
theorem Touch.then {O : Nat → Prop} {a b c : World} (h : Touch O a b) (h' : Touch O b c) : Touch O a c := h.trans h' fun _ hk => Or.inl hk
theorem Touch.of_exts {O : Nat → Prop} {w w' : World} (h : Exts w w') : Touch O w w' :=
  ⟨h.below.os, h.below.tape, h.below.output, h.below.size, fun k hk _ => h.below.block k hk⟩
theorem Touch.of_grown {O : Nat → Prop} {w w' : World} {row : Option Nat} (h : w.grownBy w' row) (hO : ∀ k, row = some k → O k) : Touch O w w' :=
  ⟨h.os, h.tape, h.output, h.size, fun k hk hn => h.block k hk (fun e => hn (hO k e.symm))⟩
theorem heap_setCell (w : World) (a : Addr) (v : Value) (k : Nat) (h : k ≠ a.block) : (w.setCell a v).heap[k]? = w.heap[k]? := by
  unfold World.setCell
  simp only [Array.getElem?_modify]
  rw [if_neg (fun e => h e.symm)]
theorem heap_setCell_at (w : World) (b i : Nat) (v : Value) {c : Array Value} {t : TypeId} {f : Nat × Nat} (h : w.heap[b]? = some (.cells c t f)) : (w.setCell ⟨b, i, none⟩ v).heap[b]? = some (.cells (c.setIfInBounds i v) t f) := by
  unfold World.setCell
  simp only [Array.getElem?_modify, if_true, h]
  rfl
theorem heap_setCell_size (w : World) (a : Addr) (v : Value) : (w.setCell a v).heap.size = w.heap.size := by
  unfold World.setCell
  simp
theorem Touch.setCell {O : Nat → Prop} (w : World) (a : Addr) (v : Value) (h : O a.block) : Touch O w (w.setCell a v) :=
  ⟨rfl, rfl, rfl, Nat.le_of_eq (heap_setCell_size w a v).symm, fun k _ hn => heap_setCell w a v k (fun e => hn (e ▸ h))⟩
theorem Touch.cell {O : Nat → Prop} {w w' : World} {a : Addr} {v : Value} (h : Touch O w w') (hn : ¬ O a.block) (hc : w.cell? a = some v) : w'.cell? a = some v := by
  unfold World.cell? at hc ⊢
  have hlt : a.block < w.heap.size := by
    cases hq : w.heap[a.block]? with
    | none => rw [hq] at hc; cases hc
    | some o => exact (Array.getElem?_eq_some_iff.1 hq).1
  rw [h.block _ hlt hn]
  exact hc
theorem Touch.mono {O O' : Nat → Prop} {w w' : World} (h : Touch O w w') (hO : ∀ k, O k → O' k) : Touch O' w w' := ⟨h.os, h.tape, h.output, h.size, fun k hk hn => h.block k hk fun hk' => hn (hO k hk')⟩
theorem Touch.below {O : Nat → Prop} {w w' : World} {B : Nat} (h : Touch O w w') (hO : ∀ k, O k → B ≤ k) (hB : B ≤ w.heap.size) : Below B w w' :=
  ⟨h.os, h.tape, h.output, h.size, fun k hk => h.block k (by omega) (fun ho => by have := hO k ho; omega)⟩
theorem RowF.touch {S O : Nat → Prop} {k n : Nat} {w w' : World} {v : Value} {xs : List Value} (h : RowF S k w v n xs) (ht : Touch O w w') (hn : ∀ b, S b → ¬ O b) : RowF S k w' v n xs :=
  h.of_keep ht.size fun b _ hS hb => ht.block b hb (hn b hS)
theorem ownsRow_touch {O : Nat → Prop} {w w' : World} {base : Nat} {e : TypeId} {k n : Nat} {v : Value} {xs : List Value} (h : w.ownsRow base e k v n xs) (ht : Touch O w w') (hn : ∀ b, v.ownBlock = some b → ¬ O b) : w'.ownsRow base e k v n xs := by
  refine ⟨h.1, ?_⟩
  rcases h.2 with h0 | ⟨g, cap, cur, rfl, hb, hg, rest⟩
  · exact .inl h0
  · refine .inr ⟨g, cap, cur, rfl, hb, ?_, rest⟩
    rw [ht.block g (Array.getElem?_eq_some_iff.1 hg).1 (hn g rfl)]
    exact hg
theorem owns_touch {H : Type} {O : Nat → Prop} {P : Program} {k : TypeId} {R : Value → Option (DataW H × List MemPlace)} {w w' : World} {b n : Nat} {D : DataW H} (h : w.ownsMap P k R b n D) (ht : Touch O w w') (hn : ¬ O b) : w'.ownsMap P k R b n D := by
  have hlt := h.lt
  obtain ⟨es, clock, hb, rest⟩ := h
  exact ⟨es, clock, (ht.block b hlt hn).trans hb, rest⟩
end Go.Proofs.Ytgeoompgakdbiaa

/- The step from a walk to a law's row: a call that returns true and makes new blocks alone leaves each argument reading as it did. No conditions. -/
namespace Go.Proofs.Ytgeoompgakdbiaa
open Go.ChangeShapes Go.WideShapes Go.ChangeAt Go.RowKit

theorem own : ownKnob Try.prog.godebug = none := by kernel_rfl
/-- The bounds of an int. -/
def I64 (n : Int) : Prop := -9223372036854775808 ≤ n ∧ n ≤ 9223372036854775807
theorem I64.of_wf {x : Int} (h : (Lit.int .i64 x).wf = true) : I64 x := by
  simp [Lit.wf, IntKind.min, IntKind.max, IntKind.signed, IntKind.bits] at h
  exact ⟨by omega, by omega⟩
theorem laidOut : laidOutB Try.prog = true := by kernel_rfl

section
variable {H : Type} {enc : TypeId × Value → H} {P : Program}

theorem trodAll_below (hl : laidOutB P = true) {W W' : World} (hb : Below W.heap.size W W') : ∀ {ts : List TypeId} {vs : List Value} {ds : List (DataW H)} {ps : List MemPlace},
    (∀ t ∈ ts, P.readableRec t = true ∧ t < P.types.size) → DataW.TrodAll enc P W 0 (fun _ => true) true ts vs ds ps → (∀ x ∈ ps, x.block < W.heap.size) →
    DataW.TrodAll enc P W' 0 (fun b => decide (b < W.heap.size)) true ts vs ds ps
  | [], [], [], _, _, h, _ => h
  | t :: ts, v :: vs, d :: ds, ps, ht, h, hlt => by
    obtain ⟨p, q, h1, h2, rfl⟩ := h
    refine ⟨p, q, ?_, ?_, rfl⟩
    · exact Below.trod hl (ht t (by simp)).1 (ht t (by simp)).2 h1 hb (fun x hx => hlt x (by simp [hx]))
    · exact trodAll_below hl hb (fun t' ht' => ht t' (by simp [ht'])) h2 (fun x hx => hlt x (by simp [hx]))

/-- THE LAW's STEP: true comes back, and there are new blocks alone. -/
theorem law_post {f : Func} {s : ChangeSpec} {W W' : World} {args : Array Value} {ds gs : List (DataW H)} {before : List MemPlace} {T : TypeId}
    (hl : laidOutB P = true) (hT : P.underlying T = some .bool) (hf : f.resultTypes = #[T]) (hvars : s.vars = [])
    (hts : ∀ t ∈ f.params.toList, P.readableRec t = true ∧ t < P.types.size)
    (hW : DataW.Whole enc P f.params.toList s.vars false W args.toList ds gs before)
    (hfn : s.fn H (ds ++ gs) = { results := [.lit (.bool true)], args := ds, vars := [] }) (hx : Exts W W') :
    s.post enc P f false true false false W args (.bool true) W' := by
  have hb := hx.below
  have hlt : ∀ p ∈ before, p.block < W.heap.size := fun p hp => hW.lt p hp
  have hW' := hW
  obtain ⟨p, q, hA, hV, rfl, _, _⟩ := hW
  rw [hvars] at hV
  obtain ⟨rfl, rfl⟩ := trodVars_none hV
  simp only [List.append_nil] at hW' hlt
  refine ⟨ds, [], p, [], p, [], hW', ?_, ?_, ?_, ?_, fun h => by cases h⟩
  · rw [hfn, hf]
    exact trodAll_mk1 (shut_bool hT true)
  · rw [hfn]
    exact trodAll_below hl hb hts hA hlt
  · rw [hfn, hvars]
    rfl
  · exact hb.frame _
end
end Go.Proofs.Ytgeoompgakdbiaa

/- The disk's two maps, and stores at a key that is there while a map is ranged over. No program in sight but the types. -/
namespace Go.Proofs.Ytgeoompgakdbiaa
open Go.RowKit Go.Maps Go.ChangeMaps Go.MapKept Go.WideShapes
open Go.WideElems (Fit rd rg pl rd_key rd_val rg_of other_key)
set_option linter.unusedSimpArgs false
set_option linter.unusedVariables false

/-- A list of keys among 0 .. 15, none twice, is at most 16 long. -/
theorem nodup_le {α : Type} [DecidableEq α] : ∀ (l m : List α), l.Nodup → (∀ x ∈ l, x ∈ m) → l.length ≤ m.length
  | [], _, _, _ => Nat.zero_le _
  | a :: l, m, hn, hs => by
    obtain ⟨h1, h2⟩ := List.nodup_cons.1 hn
    have h3 := nodup_le l (m.erase a) h2 fun x hx => (List.mem_erase_of_ne (fun e => h1 (by rw [← e]; exact hx))).2 (hs x (by simp [hx]))
    have h4 := List.length_erase_of_mem (hs a (by simp))
    have h5 : 0 < m.length := List.length_pos_of_mem (hs a (by simp))
    simp only [List.length_cons]
    omega

section
variable {H : Type} {P : Program} {k : TypeId} {R : Value → Option (DataW H × List MemPlace)} {w : World} {b r n : Nat} {D : DataW H} {left : Lit → Bool} {cnt : Nat}
/-- The bound is what is there. -/
theorem owns_tight (h : w.ownsMap P k R b n D) {m : Nat} (hm : Maps.size D ≤ m) : w.ownsMap P k R b m D := by
  obtain ⟨es, clock, hb, F, hs, rfl⟩ := h
  refine ⟨es, clock, hb, F, ?_, rfl⟩
  simpa [Maps.size, length_sorted] using hm
theorem size_of_keys (h : w.ownsMap P k R b n D) (K : Keyed P k) (L : List Lit) (hL : ∀ kl, Maps.has D kl = true → kl ∈ L) : Maps.size D ≤ L.length := by
  haveI : DecidableEq Lit := fun a b => Classical.propDecidable _
  obtain ⟨es, rfl, hp, hk⟩ := h.entries K
  have : (es.map Prod.fst).length ≤ L.length := by
    refine nodup_le _ _ ?_ fun x hx => ?_
    · exact List.pairwise_map.2 hp
    · obtain ⟨p, hp, rfl⟩ := List.mem_map.1 hx
      refine hL _ ?_
      rw [has_eq, List.any_eq_true]
      exact ⟨p, hp, WideAt.sameKey_self (hk p hp)⟩
  simpa [Maps.size] using this
/-- 'm[k] = v' at a key that is there: the entries stand where they stood. -/
theorem fit_store_here {t e : TypeId} {es : Array MapEntry} {clock : Nat} (K : Keyed P k) (ht : P.underlying t = some (.map k e)) (hb : w.heap[b]? = some (.map es clock)) (F : Fit P k R es clock)
    {key val : Value} {kl : Lit} {yv : DataW H × List MemPlace} (hkey : keyOf P k key = some kl) (hroom : es.size < maxLen) (hv : R val = some yv) (hhas : ∃ x ∈ es.toList, (rg P k R x).1 = kl) :
    ∃ es', (Instr.mapUpdate t (.map (some b)) key val).run P w = .ok () (setBlock w b (.map es' clock)) ∧ Fit P k R es' clock ∧ es'.size = es.size ∧
      (es'.toList.map (rg P k R)).foldr DataW.insert [] = putKey kl yv.1 ((es.toList.map (rg P k R)).foldr DataW.insert []) ∧
      es'.toList.map MapEntry.born = es.toList.map MapEntry.born ∧ ∀ (i : Nat) (x x' : MapEntry), es.toList[i]? = some x → es'.toList[i]? = some x' → (rg P k R x').1 = (rg P k R x).1 := by
  obtain ⟨es1, clock1, hrun1, F1, hput1, _, _, _⟩ := fit_store (w := w) (t := t) (e := e) (R' := R) K ht hb F hroom (fun x _ _ z hz => hz) hkey hv
  rcases K.find w hkey es.toList F.keys with ⟨h1, h2⟩ | ⟨j, e0, h1, h2, h3⟩
  · obtain ⟨x, hx, hxk⟩ := hhas
    obtain ⟨y, hy⟩ := F.reads x hx
    rw [rg_of hy] at hxk
    exact absurd (K.inj (hxk ▸ rd_key hy) hkey) (h2 x hx)
  · have hj : es[j]? = some e0 := by simpa using h2
    have hjl : j < es.toList.length := (List.getElem?_eq_some_iff.1 h2).1
    have hlist : (es.modify j (fun e' => { e' with key := key, val := val })).toList = es.toList.set j { e0 with key := key, val := val } := by
      apply List.ext_getElem?
      intro i
      rw [Array.toList_modify, List.getElem?_modify, List.getElem?_set]
      by_cases hij : j = i
      · subst hij
        rw [if_pos rfl, if_pos hjl, h2]
        simp
      · rw [if_neg hij]
        cases es.toList[i]? <;> simp [hij]
    have hrun : (Instr.mapUpdate t (.map (some b)) key val).run P w = .ok () (setBlock w b (.map (es.modify j (fun e' => { e' with key := key, val := val })) clock)) := by
      simp [Instr.mapUpdate, run_underlying ht, MapKept.run_getObj_map hb, K.check w false hkey, h1, hj, h3, K.stays w hkey, MapKept.run_setObj_map _ hb, Result.andThen, setBlock]
    rw [hrun] at hrun1
    have hw := (Result.ok.inj hrun1).2
    have hbb := congrArg (fun W : World => W.heap[b]?) hw
    simp only [heap_setBlock_same hb] at hbb
    have hee := Option.some.inj hbb
    simp only [Obj.map.injEq] at hee
    obtain ⟨rfl, rfl⟩ := hee
    have hk0 : (rg P k R e0).1 = kl := by
      obtain ⟨y, hy⟩ := F.reads e0 (List.mem_of_getElem? h2)
      have := rd_key hy
      rw [h3, hkey] at this
      rw [rg_of hy]
      exact (Option.some.inj this).symm
    refine ⟨_, hrun, F1, by simp, hput1, ?_, fun i x x' hx hx' => ?_⟩
    · rw [hlist, List.map_set]
      apply List.ext_getElem?
      intro i
      rw [List.getElem?_set, List.getElem?_map]
      by_cases hij : j = i
      · subst hij
        rw [if_pos rfl, if_pos (by simpa using hjl), h2]
        rfl
      · rw [if_neg hij]
    · rw [hlist, List.getElem?_set] at hx'
      by_cases hij : j = i
      · subst hij
        rw [if_pos rfl, if_pos hjl] at hx'
        rw [h2] at hx
        cases hx
        cases hx'
        rw [rg_of (Go.WideElems.rd_mk hkey hv), hk0]
      · rw [if_neg hij, hx] at hx'
        cases hx'
        rfl
/-- 'm[k] = v' IN THE ROUND, at a key that is there. -/
theorem ranges_put {t e : TypeId} (h : w.ranges P k R b r n D left cnt) (K : Keyed P k) (ht : P.underlying t = some (.map k e)) (hn : n < maxLen) {key val : Value} {kl : Lit} {yv : DataW H × List MemPlace} (hkey : keyOf P k key = some kl) (hv : R val = some yv) (hhas : Maps.has D kl = true) :
    ∃ w', (Instr.mapUpdate t (.map (some b)) key val).run P w = .ok () w' ∧ w'.ranges P k R b r n (D.put kl yv.1) left cnt ∧ w.mapTurned w' b := by
  have hne := h.ne
  obtain ⟨es, clock, since, seen, c0, hb, F, hs, rfl, hr, hold, rfl, hl1, hl2, hsc, hsk⟩ := h
  have hhas' : ∃ x ∈ es.toList, (rg P k R x).1 = kl := by
    obtain ⟨p, hp, hpk⟩ := List.any_eq_true.1 hhas
    obtain ⟨x, hx, rfl⟩ := List.mem_map.1 (mem_sorted.1 hp)
    exact ⟨x, hx, WideAt.sameKey_eq hpk⟩
  obtain ⟨es', hrun, F', hsz, hput, hborn, hkeys⟩ := fit_store_here K ht hb F hkey (by omega) hv hhas'
  have hlen : es'.toList.length = es.toList.length := by simpa using hsz
  have pair : ∀ x' ∈ es'.toList, ∃ x ∈ es.toList, x'.born = x.born ∧ (rg P k R x').1 = (rg P k R x).1 := fun x' hx' => by
    obtain ⟨i, hi⟩ := List.getElem?_of_mem hx'
    have hlt : i < es.toList.length := by rw [← hlen]; exact (List.getElem?_eq_some_iff.1 hi).1
    have hx : es.toList[i]? = some es.toList[i] := List.getElem?_eq_getElem hlt
    refine ⟨_, List.getElem_mem hlt, ?_, hkeys i _ _ hx hi⟩
    have := congrArg (fun l : List Nat => l[i]?) hborn
    simp only [List.getElem?_map, hi, hx, Option.map_some] at this
    exact Option.some.inj this
  have back : ∀ x ∈ es.toList, ∃ x' ∈ es'.toList, (rg P k R x').1 = (rg P k R x).1 := fun x hx => by
    obtain ⟨i, hi⟩ := List.getElem?_of_mem hx
    have hlt : i < es'.toList.length := by rw [hlen]; exact (List.getElem?_eq_some_iff.1 hi).1
    exact ⟨_, List.getElem_mem hlt, hkeys i _ _ hi (List.getElem?_eq_getElem hlt)⟩
  refine ⟨_, hrun, ⟨es', clock, since, seen, c0, heap_setBlock_same hb _, F', by omega, ?_, (heap_setBlock_other hb _ hne).trans hr, fun x hx => ?_, ?_, fun x hx => ?_, fun q hq => ?_, hsc, hsk⟩, ⟨es, clock, es', clock, hb, rfl⟩⟩
  · rw [hput]
    exact DataW.put_eq _ _ _
  · obtain ⟨x0, h0, h1, _⟩ := pair x hx
    rw [h1]
    exact hold x0 h0
  · have e1 : ∀ a : Array MapEntry, (leftOf a seen).size = ((a.toList.map MapEntry.born).filter fun e => !seen.contains e).length := fun a => by
      unfold leftOf
      rw [← Array.length_toList, Array.toList_filter, List.filter_map, List.length_map]
      rfl
    rw [e1, e1, hborn]
  · obtain ⟨x0, h0, h1, h2⟩ := pair x hx
    rw [h1, h2]
    exact hl1 x0 h0
  · obtain ⟨x, hx, rfl⟩ := hl2 q hq
    exact back x hx
end
/-- A file, as a map's element: two strings. -/
def fileR {H : Type} : Value → Option (DataW H × List MemPlace)
  | .agg a => match a.toList with
    | [.string x, .string y] => some (.agg [.lit (.string x.data.toList), .lit (.string y.data.toList)], [])
    | _ => none
  | _ => none
abbrev FileB := ByteArray × ByteArray
def fileV (x : FileB) : Value := .agg #[.string x.1, .string x.2]
def fileD {H : Type} (x : FileB) : DataW H := .agg [.lit (.string x.1.data.toList), .lit (.string x.2.data.toList)]
theorem fileR_mk {H : Type} (x : FileB) : fileR (H := H) (fileV x) = some (fileD x, []) := rfl
theorem fileR_inv {H : Type} {v : Value} {z : DataW H × List MemPlace} (h : fileR v = some z) : ∃ x, v = fileV x ∧ z = (fileD x, []) := by
  unfold fileR at h
  split at h
  · rename_i a
    split at h
    · rename_i x y hq
      cases h
      refine ⟨(x, y), ?_, rfl⟩
      unfold fileV
      congr 1
      apply Array.toList_inj.1
      exact hq
    · cases h
  · cases h
theorem ba_inj {x y : ByteArray} (h : x.data.toList = y.data.toList) : x = y := by
  cases x
  cases y
  simp only [Array.toList_inj] at h
  rw [h]
theorem fileD_inj {H : Type} {x y : FileB} (h : fileD (H := H) x = fileD y) : x = y := by
  obtain ⟨a, b⟩ := x
  obtain ⟨c, d⟩ := y
  simp only [fileD, DataW.agg.injEq, List.cons.injEq, DataW.lit.injEq, Lit.string.injEq, and_true] at h
  rw [ba_inj h.1, ba_inj h.2]
def nof : FileB := (ByteArray.empty, ByteArray.empty)
theorem lawI : Keyed Try.prog 3 := int_keyed Try.underlying3
theorem zeroF (w : World) : (zeroValue 63).run Try.prog w = .ok (fileV nof) w := by kernel_rfl
theorem zeroB (w : World) : (zeroValue 4).run Try.prog w = .ok (.bool false) w := by kernel_rfl
abbrev Sec := Int × Int
def secV (p : Sec) : Value := .agg #[.int .i64 p.1, .int .i64 p.2]
def secL (p : Sec) : Lit := .string (keyBytes [.int .i64 p.1, .int .i64 p.2])
set_option maxRecDepth 100000
theorem keyT70 : Try.prog.keyType 70 = true := by kernel_rfl
theorem cells70 : Try.prog.cellsOf 70 = 2 := by kernel_rfl
theorem cells3 : Try.prog.cellsOf 3 = 1 := by kernel_rfl
theorem lawS : Keyed Try.prog 70 := Keyed.of_law (deep_law_gate laidOut (of_decide_eq_true (by kernel_rfl)) (of_decide_eq_true (by kernel_rfl)) keyT70 (by kernel_rfl))
theorem list2 {α : Type} {l : List α} (h : l.length = 2) : ∃ a b, l = [a, b] := by
  match l, h with
  | [a, b], _ => exact ⟨a, b, rfl⟩
theorem types_pos : ∃ m, Try.prog.types.size = m + 1 := ⟨Try.prog.types.size - 1, by have : 0 < Try.prog.types.size := of_decide_eq_true (by kernel_rfl); omega⟩
theorem u70' : (Try.prog.underlying 70).map (fun d => match d with | .struct fs => some (fs.all (·.name != "_"), fs.toList.map (fun f => (f.type, f.offset))) | _ => none) = some (some (true, [(3, 0), (3, 1)])) := by kernel_rfl
theorem u70 : ∃ f0 f1 : Field, Try.prog.underlying 70 = some (.struct #[f0, f1]) ∧ (#[f0, f1] : Array Field).all (·.name != "_") = true ∧ f0.type = 3 ∧ f0.offset = 0 ∧ f1.type = 3 ∧ f1.offset = 1 := by
  have h := u70'
  cases hq : Try.prog.underlying 70 with
  | none => rw [hq] at h; cases h
  | some d =>
    rw [hq] at h
    cases d with
    | struct fs =>
      simp only [Option.map_some, Option.some.injEq, Prod.mk.injEq] at h
      obtain ⟨h1, h2⟩ := h
      obtain ⟨f0, f1, hl⟩ := list2 (show fs.toList.length = 2 by have := congrArg List.length h2; simpa using this)
      have : fs = #[f0, f1] := Array.toList_inj.1 hl
      subst this
      simp only [List.map_cons, List.map_nil, List.cons.injEq, Prod.mk.injEq, and_true] at h2
      exact ⟨f0, f1, rfl, h1, h2.1.1, h2.1.2, h2.2.1, h2.2.2⟩
    | _ => simp at h
theorem keyOf_sec (p : Sec) (h1 : (Lit.int .i64 p.1).wf = true) (h2 : (Lit.int .i64 p.2).wf = true) : keyOf Try.prog 70 (secV p) = some (secL p) := by
  obtain ⟨f0, f1, hu, hn, a1, a2, a3, a4⟩ := u70
  obtain ⟨m, hm⟩ := types_pos
  have k3 : ∀ d a, (Lit.int .i64 a).wf = true → Try.prog.keyLits (d + 1) 3 [.int .i64 a] = some [.int .i64 a] := fun d a ha => by
    simp only [Program.keyLits, Try.underlying3]
    rw [if_pos ⟨trivial, ha⟩]
  have hform : (secV p).formed Try.prog 70 = true := by
    simp only [Value.formed, secV, hu, cells70]
    rfl
  simp only [keyOf, hu, keyT70, hform, Bool.and_self, if_true]
  have hc : (secV p).cells.toList = [.int .i64 p.1, .int .i64 p.2] := rfl
  rw [hc, hm]
  simp only [Program.keyLits, hu, cells70, hn]
  simp only [List.length_cons, List.length_nil, Nat.zero_add, Nat.reduceAdd, and_self, if_true, a1, a2, a3, a4, cells3, List.mapM_cons, List.mapM_nil]
  simp only [List.drop_zero, List.drop_succ_cons, List.take_succ_cons, List.take_zero]
  simp [h1, h2, secL]
theorem keyOf_sec_inv {v : Value} {kl : Lit} (h : keyOf Try.prog 70 v = some kl) : ∃ p : Sec, v = secV p ∧ (Lit.int .i64 p.1).wf = true ∧ (Lit.int .i64 p.2).wf = true ∧ kl = secL p := by
  obtain ⟨f0, f1, hu, hn, a1, a2, a3, a4⟩ := u70
  obtain ⟨m, hm⟩ := types_pos
  simp only [keyOf, hu, keyT70, Bool.true_and] at h
  split at h
  · rename_i hf
    cases v with
    | agg cs =>
      simp only [Value.formed, hu, cells70] at hf
      obtain ⟨x, y, hl⟩ := list2 (show cs.toList.length = 2 by simpa using hf)
      obtain rfl : cs = #[x, y] := Array.toList_inj.1 hl
      have hc : (Value.agg #[x, y]).cells.toList = [x, y] := rfl
      rw [hc, hm] at h
      simp only [Program.keyLits, hu, cells70, hn] at h
      simp only [List.length_cons, List.length_nil, Nat.zero_add, Nat.reduceAdd, and_self, if_true, a1, a2, a3, a4, cells3, List.mapM_cons, List.mapM_nil] at h
      simp only [List.drop_zero, List.drop_succ_cons, List.take_succ_cons, List.take_zero, Try.underlying3] at h
      simp only [Option.map_eq_some_iff, bind, Option.bind_eq_some_iff, pure, Option.some.injEq] at h
      obtain ⟨L, ⟨LL, ⟨l1, e1, l2, ⟨l3, e2, l4, e4, e3⟩, e5⟩, rfl⟩, rfl⟩ := h
      subst e4 e3 e5
      cases x <;> simp at e1
      obtain ⟨⟨rfl, w1⟩, rfl⟩ := e1
      cases y <;> simp at e2
      obtain ⟨⟨rfl, w2⟩, rfl⟩ := e2
      exact ⟨(_, _), rfl, w1, w2, rfl⟩
    | _ => simp only [Value.formed, hu] at hf; cases hf
  · cases h
end Go.Proofs.Ytgeoompgakdbiaa
