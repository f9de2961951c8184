/- Lemmas that the laws of this seat share, 4 texts in one: Disk, Disk2, Put, Arm. No condition of their own. -/
import Derived.Test.YtgeoompgakdbiaaM2
import Derived.WalkArith
import Derived.Laws.CopyRow
import Derived.Laws.IdiomStrings
import Derived.Deep.OwnRows
import Derived.Lib.Strings
import Derived.OwnWalk
import Derived.Lib.Join
/- A disk as it lies in memory. No program in sight but the types. -/
namespace Go.Proofs.Ytgeoompgakdbiaa
open Go.RowKit Go.Maps
set_option linter.unusedSimpArgs false
set_option linter.unusedVariables false
set_option maxRecDepth 100000

theorem I64.wf {n : Int} (h : I64 n) : (Lit.int .i64 n).wf = true := WalkArith.wf_i64 h
def setF (F : Int → FileB) (f : Int) (x : FileB) : Int → FileB := fun g => if g = f then x else F g
/-- The map of the files. -/
def FilesAt (w : World) (fm : Nat) (F : Int → FileB) : Prop := ∃ D : DataW Unit, w.ownsMap Try.prog 3 fileR fm 16 D ∧ (∀ kl, Maps.has D kl = true → ∃ f : Int, 0 ≤ f ∧ f ≤ 15 ∧ kl = .int .i64 f) ∧ ∀ f : Int, D.atKey (.int .i64 f) (fileD nof) = fileD (F f)
def keys16 : List Lit := (List.range 16).map fun i : Nat => .int .i64 (i : Int)
theorem keys16_mem {kl : Lit} (h : ∃ f : Int, 0 ≤ f ∧ f ≤ 15 ∧ kl = .int .i64 f) : kl ∈ keys16 := by
  obtain ⟨f, h1, h2, rfl⟩ := h
  refine List.mem_map.2 ⟨f.toNat, List.mem_range.2 (by omega), ?_⟩
  rw [Int.toNat_of_nonneg h1]
theorem FilesAt.made (w : World) : FilesAt (w.alloc (.map #[] 0)) w.heap.size fun _ => nof :=
  ⟨_, (World.ownsMap_made _ _ _ _).mono (Nat.zero_le _), fun kl h => by simp [Maps.has] at h, fun f => rfl⟩
theorem FilesAt.touch {O : Nat → Prop} {w w' : World} {fm : Nat} {F : Int → FileB} (h : FilesAt w fm F) (ht : Touch O w w') (hn : ¬ O fm) : FilesAt w' fm F := by
  obtain ⟨D, h1, h2⟩ := h
  exact ⟨D, owns_touch h1 ht hn, h2⟩
theorem FilesAt.lt {w : World} {fm : Nat} {F : Int → FileB} (h : FilesAt w fm F) : fm < w.heap.size := by
  obtain ⟨D, h1, h2⟩ := h
  exact h1.lt
theorem FilesAt.look {w : World} {fm : Nat} {F : Int → FileB} (h : FilesAt w fm F) {f : Int} (hf : I64 f) : (Instr.lookup 52 (.map (some fm)) (.int .i64 f) false).run Try.prog w = .ok (fileV (F f)) w := by
  obtain ⟨D, h1, h2, h3⟩ := h
  obtain ⟨v, ps, hrun, hv⟩ := h1.lookup lawI Try.underlying52 (zeroF w) (fileR_mk nof) (keyOf_int_mk Try.underlying3 hf.wf)
  obtain ⟨x, rfl, hx⟩ := fileR_inv hv
  simp only [Prod.mk.injEq] at hx
  rw [hrun]
  have h4 := (h3 f).symm.trans hx.1
  rw [fileD_inj h4]
theorem FilesAt.store {w : World} {fm : Nat} {F : Int → FileB} (h : FilesAt w fm F) {f : Int} (h0 : 0 ≤ f) (h15 : f ≤ 15) (x : FileB) : ∃ w', (Instr.mapUpdate 52 (.map (some fm)) (.int .i64 f) (fileV x)).run Try.prog w = .ok () w' ∧ FilesAt w' fm (setF F f x) ∧ w.mapTurned w' fm := by
  obtain ⟨D, h1, h2, h3⟩ := h
  have hi : I64 f := by constructor <;> omega
  obtain ⟨w', hrun, r1, r2⟩ := h1.store lawI Try.underlying52 (by unfold maxLen; omega) (keyOf_int_mk Try.underlying3 hi.wf) (fileR_mk x)
  have hm := h1.isMap
  have hh : ∀ kl, Maps.has (D.put (.int .i64 f) (fileD x)) kl = true → ∃ f : Int, 0 ≤ f ∧ f ≤ 15 ∧ kl = .int .i64 f := fun kl hk => by
    by_cases he : kl = .int .i64 f
    · exact ⟨f, h0, h15, he⟩
    · rw [has_put_other he] at hk
      exact h2 kl hk
  refine ⟨w', hrun, ⟨_, owns_tight r1 (size_of_keys r1 lawI keys16 fun kl hk => keys16_mem (hh kl hk)), hh, fun g => ?_⟩, r2⟩
  unfold setF
  by_cases hg : g = f
  · subst hg
    rw [if_pos rfl, atKey_put_same hm (by trivial)]
  · rw [if_neg hg, atKey_put_other (by intro e; cases e; exact hg rfl)]
    exact h3 g
/-- The set of the pending sectors. -/
def SetAt (w : World) (sm : Nat) (Q : List Sec) (n : Nat) : Prop := ∃ D : DataW Unit, w.ownsMap Try.prog 70 (plainElem Try.prog 4) sm n D ∧ ∀ p : Sec, I64 p.1 → I64 p.2 → D.atKey (secL p) (.lit (.bool false)) = .lit (.bool (Q.contains p)) ∧ Maps.has D (secL p) = Q.contains p
theorem SetAt.made (w : World) : SetAt (w.alloc (.map #[] 0)) w.heap.size [] 0 := ⟨_, World.ownsMap_made _ _ _ _, fun p _ _ => ⟨rfl, rfl⟩⟩
theorem SetAt.mono {w : World} {sm n m : Nat} {Q : List Sec} (h : SetAt w sm Q n) (hm : n ≤ m) : SetAt w sm Q m := by
  obtain ⟨D, h1, h2⟩ := h
  exact ⟨D, h1.mono hm, h2⟩
theorem SetAt.touch {O : Nat → Prop} {w w' : World} {sm n : Nat} {Q : List Sec} (h : SetAt w sm Q n) (ht : Touch O w w') (hn : ¬ O sm) : SetAt w' sm Q n := by
  obtain ⟨D, h1, h2⟩ := h
  exact ⟨D, owns_touch h1 ht hn, h2⟩
theorem SetAt.lt {w : World} {sm n : Nat} {Q : List Sec} (h : SetAt w sm Q n) : sm < w.heap.size := by
  obtain ⟨D, h1, h2⟩ := h
  exact h1.lt
theorem plainElem_bool_inv {H : Type} {e : TypeId} (he : Try.prog.underlying e = some .bool) {v : Value} {z : DataW H × List MemPlace} (h : plainElem Try.prog e v = some z) : ∃ x, v = .bool x ∧ z = (.lit (.bool x), []) := by
  unfold plainElem at h
  split at h
  · cases h
    exact ⟨_, rfl, rfl⟩
  · rename_i h1
    rw [he] at h1
    cases h1
  · rename_i h1
    rw [he] at h1
    cases h1
  · cases h
theorem SetAt.look {w : World} {sm n : Nat} {Q : List Sec} (h : SetAt w sm Q n) {p : Sec} (h1 : I64 p.1) (h2 : I64 p.2) : (Instr.lookup 53 (.map (some sm)) (secV p) false).run Try.prog w = .ok (.bool (Q.contains p)) w := by
  obtain ⟨D, g1, g2⟩ := h
  obtain ⟨v, ps, hrun, hv⟩ := g1.lookup lawS Try.underlying53 (zeroB w) (plainElem_bool Try.underlying4 false) (keyOf_sec p h1.wf h2.wf)
  obtain ⟨x, rfl, hx⟩ := plainElem_bool_inv Try.underlying4 hv
  simp only [Prod.mk.injEq] at hx
  rw [hrun]
  have h4 := (g2 p h1 h2).1.symm.trans hx.1
  simp only [DataW.lit.injEq, Lit.bool.injEq] at h4
  rw [h4]
theorem secL_inj {p q : Sec} (p1 : I64 p.1) (p2 : I64 p.2) (q1 : I64 q.1) (q2 : I64 q.2) (h : secL p = secL q) : p = q := by
  have hp := keyOf_sec p p1.wf p2.wf
  have hq := keyOf_sec q q1.wf q2.wf
  rw [h] at hp
  have hv := lawS.inj hp hq
  obtain ⟨a, b⟩ := p
  obtain ⟨c, d⟩ := q
  simp only [secV, Value.agg.injEq] at hv
  have := congrArg Array.toList hv
  simp at this
  obtain ⟨rfl, rfl⟩ := this
  rfl
theorem SetAt.store {w : World} {sm n : Nat} {Q : List Sec} (h : SetAt w sm Q n) {p : Sec} (h1 : I64 p.1) (h2 : I64 p.2) (hn : n < maxLen) : ∃ w', (Instr.mapUpdate 53 (.map (some sm)) (secV p) (.bool true)).run Try.prog w = .ok () w' ∧ SetAt w' sm (Q ++ [p]) (n + 1) ∧ w.mapTurned w' sm := by
  obtain ⟨D, g1, g2⟩ := h
  obtain ⟨w', hrun, r1, r2⟩ := g1.store lawS Try.underlying53 hn (keyOf_sec p h1.wf h2.wf) (plainElem_bool Try.underlying4 true)
  refine ⟨w', hrun, ⟨_, r1, fun q q1 q2 => ?_⟩, r2⟩
  by_cases hq : q = p
  · subst hq
    rw [atKey_put_same g1.isMap (lawS.key (keyOf_sec q q1.wf q2.wf)), has_put_same g1.isMap (lawS.key (keyOf_sec q q1.wf q2.wf))]
    simp
  · rw [atKey_put_other (fun e => hq (secL_inj q1 q2 h1 h2 e)), has_put_other (fun e => hq (secL_inj q1 q2 h1 h2 e)), (g2 q q1 q2).1, (g2 q q1 q2).2]
    have : (Q ++ [p]).contains q = Q.contains q := by simp [hq]
    rw [this]
    exact ⟨rfl, rfl⟩
theorem setBlock_twice (w : World) (b : Nat) (o1 o2 : Obj) {o : Obj} (h : w.heap[b]? = some o) : Go.ChangeMaps.setBlock (Go.ChangeMaps.setBlock w b o1) b o2 = Go.ChangeMaps.setBlock w b o2 := by
  unfold Go.ChangeMaps.setBlock
  simp
/-- 'm[p], .. = true, ..': the entry is laid, then its value, at a sector that is not there. -/
theorem SetAt.entry {w : World} {sm n : Nat} {Q : List Sec} (h : SetAt w sm Q n) {p : Sec} (h1 : I64 p.1) (h2 : I64 p.2) (hn : n < maxLen) (hp : Q.contains p = false) : ∃ w1 w2 st, (Instr.mapEntry 53 (.map (some sm)) (secV p)).run Try.prog w = .ok (.tuple #[.bool false, .int .i64 st]) w1 ∧ (Instr.entryStore 53 (.map (some sm)) (.int .i64 st) (.bool true)).run Try.prog w1 = .ok () w2 ∧ SetAt w2 sm (Q ++ [p]) (n + 1) ∧ w.mapTurned w1 sm ∧ w.mapTurned w2 sm := by
  obtain ⟨w2, hrun, g, ht⟩ := h.store h1 h2 hn
  obtain ⟨D, ⟨es, clock, hb, F, hs, rfl⟩, g2⟩ := h
  have hkey := keyOf_sec p h1.wf h2.wf
  have hno := (g2 p h1 h2).2
  rw [hp] at hno
  rcases lawS.find w hkey es.toList F.keys with ⟨k1, k2⟩ | ⟨j, e0, k1, k2, k3⟩
  · have hup : (Instr.mapUpdate 53 (.map (some sm)) (secV p) (.bool true)).run Try.prog w = .ok () (Go.ChangeMaps.setBlock w sm (.map (es.push ⟨secV p, .bool true, clock⟩) (clock + 1))) := by
      simp [Instr.mapUpdate, run_underlying Try.underlying53, MapKept.run_getObj_map hb, lawS.check w false hkey, k1, MapKept.run_setObj_map _ hb, Result.andThen, Go.ChangeMaps.setBlock]
    rw [hup] at hrun
    have hw := (Result.ok.inj hrun).2
    have hz : (zeroValue 4).run Try.prog w = .ok (.bool false) w := zeroB w
    refine ⟨Go.ChangeMaps.setBlock w sm (.map (es.push ⟨secV p, .bool false, clock⟩) (clock + 1)), w2, (clock : Int), ?_, ?_, g, ⟨es, clock, _, _, hb, rfl⟩, ht⟩
    · simp [Instr.mapEntry, run_underlying Try.underlying53, MapKept.run_getObj_map hb, lawS.check w false hkey, k1, hz, MapKept.run_setObj_map _ hb, Result.andThen, Go.ChangeMaps.setBlock, goInt]
    · have hb1 := Go.ChangeMaps.heap_setBlock_same hb (.map (es.push ⟨secV p, .bool false, clock⟩) (clock + 1))
      have hfi : (es.push ⟨secV p, .bool false, clock⟩).findIdx? (fun e => (e.born : Int) == (clock : Int)) = some es.size := by
        have hlt := ((Go.MapKept.stamped_iff es clock).1 F.stamped).1
        rw [Array.findIdx?_push]
        have : es.findIdx? (fun e => (e.born : Int) == (clock : Int)) = none := by
          rw [Array.findIdx?_eq_none_iff]
          intro x hx
          have := hlt x (by simpa using hx)
          simp
          omega
        rw [this]
        simp
      have hmo : (es.push ⟨secV p, .bool false, clock⟩).modify es.size (fun e => { e with val := .bool true }) = es.push ⟨secV p, .bool true, clock⟩ := by
        apply Array.ext_getElem?
        intro i
        rw [Array.getElem?_modify, Array.getElem?_push, Array.getElem?_push]
        by_cases hi : i = es.size
        · subst hi
          simp
        · have hi' : ¬ es.size = i := fun e => hi e.symm
          simp [hi, hi']
      have e2 := setBlock_twice w sm (.map (es.push ⟨secV p, .bool false, clock⟩) (clock + 1)) (.map (es.push ⟨secV p, .bool true, clock⟩) (clock + 1)) hb
      rw [← hw, ← e2]
      generalize Go.ChangeMaps.setBlock w sm (.map (es.push ⟨secV p, .bool false, clock⟩) (clock + 1)) = W1 at hb1 ⊢
      have hst := MapKept.run_setObj_map (P := Try.prog) (.map (es.push ⟨secV p, .bool true, clock⟩) (clock + 1)) hb1
      have hai : (asInt (.int .i64 (clock : Int))).run Try.prog W1 = .ok (clock : Int) W1 := rfl
      simp only [Instr.entryStore, Sem.run_bind, MapKept.run_getObj_map hb1, Result.andThen, hai, hfi, hmo, hst]
      rfl
  · have : Maps.has (DataW.map ((es.toList.map (Go.WideElems.rg (H := Unit) Try.prog 70 (plainElem Try.prog 4))).foldr DataW.insert [])) (secL p) = true := by
      refine List.any_eq_true.2 ⟨Go.WideElems.rg (H := Unit) Try.prog 70 (plainElem Try.prog 4) e0, mem_sorted.2 (List.mem_map.2 ⟨e0, List.mem_of_getElem? k2, rfl⟩), ?_⟩
      obtain ⟨y, hy⟩ := F.reads e0 (List.mem_of_getElem? k2)
      have := Go.WideElems.rd_key hy
      rw [k3, hkey] at this
      rw [Go.WideElems.rg_of hy, ← Option.some.inj this]
      exact WideAt.sameKey_self (lawS.key hkey)
    rw [this] at hno
    cases hno
end Go.Proofs.Ytgeoompgakdbiaa

/- A whole disk in memory: what is kept when its own numbers turn, and the disk's smallest methods. -/
namespace Go.Proofs.Ytgeoompgakdbiaa
open Go.RowKit Go.Maps
set_option linter.unusedSimpArgs false
set_option linter.unusedVariables false
set_option maxRecDepth 100000

structure Mod where
  files : Int → FileB
  queue : List Sec
  lost : Int
  down : Bool
  armed : Int
  keep : List Int
def secsC (Q : List Sec) : List Value := Q.flatMap fun p => [.int .i64 p.1, .int .i64 p.2]
def intsC (l : List Int) : List Value := l.map (.int .i64)
def boxD (fm sm : Nat) (qv kv : Value) (M : Mod) : Array Value := #[.map (some fm), qv, .map (some sm), .int .i64 M.lost, .bool M.down, .int .i64 M.armed, kv]
def IntsIn (S : Nat → Prop) (w : World) (v : Value) (l : List Int) : Prop := ∃ ao cap, v = .slice ao l.length cap ∧ RowF S 1 w v l.length (intsC l)
def maxFile : Nat := 16777216
structure Good (M : Mod) (c : Nat) : Prop where
  lost : 0 ≤ M.lost ∧ M.lost ≤ 9223372036854775807
  armed : 0 ≤ M.armed ∧ M.armed ≤ 9223372036854775807
  count : M.queue.length ≤ c
  secs : ∀ p ∈ M.queue, 0 ≤ p.1 ∧ p.1 ≤ 15 ∧ 0 ≤ p.2 ∧ p.2 ≤ 262144
  sizes : ∀ f, (M.files f).1.size ≤ maxFile ∧ (M.files f).2.size ≤ maxFile
  keep : ∀ x ∈ M.keep, I64 x
  small : c ≤ 1000000
structure DiskAt (w : World) (b : Nat) (M : Mod) (O S : Nat → Prop) (c : Nat) : Prop where
  apart : ∀ k, S k → ¬ O k
  oLt : ∀ k, O k → k < w.heap.size
  sLt : ∀ k, S k → k < w.heap.size
  own : O b
  ex : ∃ fm sm qv kv, w.heap[b]? = some (.cells (boxD fm sm qv kv M) 56 (0, 0)) ∧ O fm ∧ O sm ∧ (∀ g, qv.ownBlock = some g → O g) ∧ fm ≠ sm ∧ FilesAt w fm M.files ∧ SetAt w sm M.queue c ∧ w.ownsRow 0 70 2 qv M.queue.length (secsC M.queue) ∧ IntsIn S w kv M.keep
  good : Good M c
theorem IntsIn.touch {S O : Nat → Prop} {w w' : World} {v : Value} {l : List Int} (h : IntsIn S w v l) (ht : Touch O w w') (hn : ∀ b, S b → ¬ O b) : IntsIn S w' v l := by
  obtain ⟨ao, cap, h1, h2⟩ := h
  exact ⟨ao, cap, h1, h2.touch ht hn⟩
/-- A disk on which nothing is done. -/
theorem DiskAt.kept {w w' : World} {b c : Nat} {M : Mod} {O S X : Nat → Prop} (h : DiskAt w b M O S c) (ht : Touch X w w') (h1 : ∀ k, O k → ¬ X k) (h2 : ∀ k, S k → ¬ X k) : DiskAt w' b M O S c := by
  obtain ⟨fm, sm, qv, kv, hb, o1, o2, o3, hne, hf, hs, hq, hk⟩ := h.ex
  refine ⟨h.apart, fun k hk => Nat.lt_of_lt_of_le (h.oLt k hk) ht.size, fun k hk => Nat.lt_of_lt_of_le (h.sLt k hk) ht.size, h.own, ⟨fm, sm, qv, kv, (ht.block b (h.oLt b h.own) (h1 b h.own)).trans hb, o1, o2, o3, hne, hf.touch ht (h1 fm o1), hs.touch ht (h1 sm o2), ownsRow_touch hq ht (fun g hg => h1 g (o3 g hg)), hk.touch ht h2⟩, h.good⟩
/-- One of the disk's own numbers turns. -/
theorem DiskAt.box {w w' : World} {b c : Nat} {M M' : Mod} {O S : Nat → Prop} (h : DiskAt w b M O S c) (hf : M'.files = M.files) (hq : M'.queue = M.queue) (hk : M'.keep = M.keep) (hg : Good M' c)
    (hb : ∀ fm sm qv kv, w.heap[b]? = some (.cells (boxD fm sm qv kv M) 56 (0, 0)) → w'.heap[b]? = some (.cells (boxD fm sm qv kv M') 56 (0, 0))) (ht : Touch (fun k => k = b) w w') : DiskAt w' b M' O S c := by
  obtain ⟨fm, sm, qv, kv, hb0, o1, o2, o3, hne, h1, h2, h3, h4⟩ := h.ex
  have nf : fm ≠ b := fun e => by
    obtain ⟨D, ⟨es, clock, hm, _⟩, _⟩ := h1
    rw [e, hb0] at hm
    cases hm
  have ns : sm ≠ b := fun e => by
    obtain ⟨D, ⟨es, clock, hm, _⟩, _⟩ := h2
    rw [e, hb0] at hm
    cases hm
  refine ⟨h.apart, fun k hk => Nat.lt_of_lt_of_le (h.oLt k hk) ht.size, fun k hk => Nat.lt_of_lt_of_le (h.sLt k hk) ht.size, h.own, ⟨fm, sm, qv, kv, hb _ _ _ _ hb0, o1, o2, o3, hne, ?_, ?_, ?_, ?_⟩, hg⟩
  · rw [hf]; exact h1.touch ht nf
  · rw [hq]; exact h2.touch ht ns
  · rw [hq]
    refine ownsRow_touch h3 ht fun g hg he => ?_
    subst he
    rcases h3.2 with ⟨rfl, _⟩ | ⟨g', cap, cur, rfl, _, hg', _⟩
    · cases hg
    · cases hg
      rw [hb0] at hg'
      cases hg'
  · rw [hk]
    refine h4.touch ht fun k hk he => ?_
    subst he
    exact h.apart _ hk h.own
/-- What the walk reads of it. -/
theorem DiskAt.cells {w : World} {b c : Nat} {M : Mod} {O S : Nat → Prop} (h : DiskAt w b M O S c) : ∃ fm sm qv kv, b < w.heap.size ∧ (∀ i, w.cell? ⟨b, i, none⟩ = (boxD fm sm qv kv M)[i]?) ∧ (∀ i, w.frozen? ⟨b, i, none⟩ = false) ∧ O fm ∧ O sm ∧ (∀ g, qv.ownBlock = some g → O g) ∧ fm ≠ sm ∧ fm ≠ b ∧ sm ≠ b ∧ FilesAt w fm M.files ∧ SetAt w sm M.queue c ∧ w.ownsRow 0 70 2 qv M.queue.length (secsC M.queue) ∧ IntsIn S w kv M.keep := by
  obtain ⟨fm, sm, qv, kv, hb, o1, o2, o3, hne, hf, hs, hq, hk⟩ := h.ex
  refine ⟨fm, sm, qv, kv, h.oLt b h.own, fun i => ?_, fun i => ?_, o1, o2, o3, hne, ?_, ?_, hf, hs, hq, hk⟩
  · simp only [World.cell?, hb]
    rfl
  · simp only [World.frozen?, hb]
    simp
  · rintro rfl
    obtain ⟨D, ⟨es, clock, hm, _⟩, _⟩ := hf
    rw [hb] at hm
    cases hm
  · rintro rfl
    obtain ⟨D, ⟨es, clock, hm, _⟩, _⟩ := hs
    rw [hb] at hm
    cases hm
/-- What every method leaves. -/
def After (w : World) (b : Nat) (M' : Mod) (O S : Nat → Prop) (c' : Nat) (w' : World) : Prop := ∃ O' S', DiskAt w' b M' O' S' c' ∧ (∀ k, O' k → O k ∨ w.heap.size ≤ k) ∧ (∀ k, S' k → S k ∨ w.heap.size ≤ k) ∧ Touch O w w'
theorem After.same {w w' : World} {b c : Nat} {M : Mod} {O S : Nat → Prop} (h : DiskAt w' b M O S c) (ht : Touch O w w') : After w b M O S c w' := ⟨O, S, h, fun _ => Or.inl, fun _ => Or.inl, ht⟩
theorem down14 {w : World} {b c : Nat} {M : Mod} {O S : Nat → Prop} (hd : DiskAt w b M O S c) : Calls Try.prog 14 #[.pointer (some ⟨b, 0, none⟩)] w fun e w' => e = .returned (.bool M.down) ∧ w = w' := by
  obtain ⟨fm, sm, qv, kv, lb, cc, ff, o1, o2, o3, n1, n2, n3, hF, hS, hQ, ⟨ko, kc, rfl, hK⟩⟩ := hd.cells
  obtain ⟨qo, qc, rfl⟩ := owns_shape hQ
  have c0 := cc 0
  have c1 := cc 1
  have c2 := cc 2
  have c3 := cc 3
  have c4 := cc 4
  have c5 := cc 5
  have c6 := cc 6
  simp only [boxD, List.getElem?_toArray, List.getElem?_cons_zero, List.getElem?_cons_succ] at c0 c1 c2 c3 c4 c5 c6
  clear cc
  clear hF hS hQ hK hd
  go_enter Try.func14, Try.ntmps14
  go_wp2
  go_ret
  exact ⟨rfl, rfl⟩
theorem start26 {w : World} {b c : Nat} {M : Mod} {O S : Nat → Prop} (hd : DiskAt w b M O S c) : Calls Try.prog 26 #[.pointer (some ⟨b, 0, none⟩)] w fun e w' => e = .returned (.tuple #[]) ∧ DiskAt w' b { M with down := false } O S c ∧ Touch O w w' := by
  obtain ⟨fm, sm, qv, kv, lb, cc, ff, o1, o2, o3, n1, n2, n3, hF, hS, hQ, ⟨ko, kc, rfl, hK⟩⟩ := hd.cells
  obtain ⟨qo, qc, rfl⟩ := owns_shape hQ
  have c0 := cc 0
  have c1 := cc 1
  have c2 := cc 2
  have c3 := cc 3
  have c4 := cc 4
  have c5 := cc 5
  have c6 := cc 6
  simp only [boxD, List.getElem?_toArray, List.getElem?_cons_zero, List.getElem?_cons_succ] at c0 c1 c2 c3 c4 c5 c6
  clear cc
  have HD := Lib.hid hd
  clear hF hS hQ hK hd
  go_enter Try.func26, Try.ntmps26
  go_wp2
  go_end0
  refine ⟨rfl, HD.out.box rfl rfl rfl ⟨HD.out.good.lost, HD.out.good.armed, HD.out.good.count, HD.out.good.secs, HD.out.good.sizes, HD.out.good.keep, HD.out.good.small⟩ (fun fm sm qv kv hb => ?_) (Touch.setCell _ _ _ rfl), Touch.setCell _ _ _ HD.out.own⟩
  rw [heap_setCell_at _ _ _ _ hb]
  rfl
theorem lose31 {w : World} {b c : Nat} {M : Mod} {O S : Nat → Prop} (hd : DiskAt w b M O S c) (n : Int) (hn : I64 n) : Calls Try.prog 31 #[.pointer (some ⟨b, 0, none⟩), .int .i64 n] w fun e w' => e = .returned (.tuple #[]) ∧ DiskAt w' b { M with lost := max n 0 } O S c ∧ Touch O w w' := by
  obtain ⟨fm, sm, qv, kv, lb, cc, ff, o1, o2, o3, n1, n2, n3, hF, hS, hQ, ⟨ko, kc, rfl, hK⟩⟩ := hd.cells
  obtain ⟨qo, qc, rfl⟩ := owns_shape hQ
  have c0 := cc 0
  have c1 := cc 1
  have c2 := cc 2
  have c3 := cc 3
  have c4 := cc 4
  have c5 := cc 5
  have c6 := cc 6
  simp only [boxD, List.getElem?_toArray, List.getElem?_cons_zero, List.getElem?_cons_succ] at c0 c1 c2 c3 c4 c5 c6
  clear cc
  have HD := Lib.hid hd
  obtain ⟨hn1, hn2⟩ := hn
  clear hF hS hQ hK hd
  by_cases h0 : n < 0
  · have HM := Lib.hid (show max n 0 = 0 by omega)
    go_enter Try.func31, Try.ntmps31
    go_wp2
    go_end0
    refine ⟨rfl, HD.out.box rfl rfl rfl ⟨by rw [HM.out]; exact ⟨by simp only []; omega, by simp only []; omega⟩, HD.out.good.armed, HD.out.good.count, HD.out.good.secs, HD.out.good.sizes, HD.out.good.keep, HD.out.good.small⟩ (fun fm sm qv kv hb => ?_) (Touch.setCell _ _ _ rfl), Touch.setCell _ _ _ HD.out.own⟩
    rw [heap_setCell_at _ _ _ _ hb, HM.out]
    rfl
  · have HM := Lib.hid (show max n 0 = n by omega)
    go_enter Try.func31, Try.ntmps31
    go_wp2
    go_end0
    refine ⟨rfl, HD.out.box rfl rfl rfl ⟨by rw [HM.out]; exact ⟨by simp only []; omega, by simp only []; omega⟩, HD.out.good.armed, HD.out.good.count, HD.out.good.secs, HD.out.good.sizes, HD.out.good.keep, HD.out.good.small⟩ (fun fm sm qv kv hb => ?_) (Touch.setCell _ _ _ rfl), Touch.setCell _ _ _ HD.out.own⟩
    rw [heap_setCell_at _ _ _ _ hb, HM.out]
    rfl
/-- Whether the scheduled crash happens in this call, and what is then scheduled. -/
def endsB (M : Mod) : Bool := !M.down && M.armed == 1
def countM (M : Mod) : Mod := if (M.down || M.armed == 0) = true then M else { M with armed := M.armed - 1 }
theorem ends43 {w : World} {b c : Nat} {M : Mod} {O S : Nat → Prop} (hd : DiskAt w b M O S c) : Calls Try.prog 43 #[.pointer (some ⟨b, 0, none⟩)] w fun e w' => e = .returned (.bool (endsB M)) ∧ DiskAt w' b (countM M) O S c ∧ Touch O w w' := by
  obtain ⟨fm, sm, qv, kv, lb, cc, ff, o1, o2, o3, n1, n2, n3, hF, hS, hQ, ⟨ko, kc, rfl, hK⟩⟩ := hd.cells
  obtain ⟨qo, qc, rfl⟩ := owns_shape hQ
  have c0 := cc 0
  have c1 := cc 1
  have c2 := cc 2
  have c3 := cc 3
  have c4 := cc 4
  have c5 := cc 5
  have c6 := cc 6
  simp only [boxD, List.getElem?_toArray, List.getElem?_cons_zero, List.getElem?_cons_succ] at c0 c1 c2 c3 c4 c5 c6
  clear cc
  have HD := Lib.hid hd
  obtain ⟨ha1, ha2⟩ := hd.good.armed
  clear hF hS hQ hK hd
  cases hdn : M.down with
  | true =>
    have HC := Lib.hid (show countM M = M by unfold countM; rw [hdn]; rfl)
    have HE := Lib.hid (show endsB M = false by unfold endsB; rw [hdn]; rfl)
    rw [hdn] at c4
    go_enter Try.func43, Try.ntmps43
    go_wp2
    go_ret
    exact ⟨by rw [HE.out]; rfl, by rw [HC.out]; exact HD.out, Touch.refl _ _⟩
  | false =>
    rw [hdn] at c4
    obtain ⟨a, ha⟩ : ∃ a, M.armed = a := ⟨_, rfl⟩
    rw [ha] at c5 ha1 ha2
    by_cases h0 : a = 0
    · subst h0
      have HC := Lib.hid (show countM M = M by unfold countM; rw [ha]; simp)
      have HE := Lib.hid (show endsB M = false by unfold endsB; rw [hdn, ha]; rfl)
      go_enter Try.func43, Try.ntmps43
      go_wp2
      go_ret
      exact ⟨by rw [HE.out]; rfl, by rw [HC.out]; exact HD.out, Touch.refl _ _⟩
    · have q1 : (a == 0) = false := by simpa using h0
      have hw : IntKind.i64.wrap (a - 1) = a - 1 := by rw [IntKind.wrap_i64] <;> omega
      have HC := Lib.hid (show countM M = { M with armed := a - 1 } by unfold countM; rw [hdn, ha, q1]; rfl)
      have HE := Lib.hid (show endsB M = (a - 1 == 0) by unfold endsB; rw [hdn, ha, Bool.not_false, Bool.true_and, Bool.eq_iff_iff]; simp; omega)
      have HA := Lib.hid ha
      clear ha hdn
      go_enter Try.func43, Try.ntmps43
      go_wp2
      go_ret
      refine ⟨by rw [HE.out]; rfl, ?_, Touch.setCell _ _ _ HD.out.own⟩
      rw [HC.out]
      refine HD.out.box rfl rfl rfl ⟨HD.out.good.lost, ⟨by simp only []; omega, by simp only []; omega⟩, HD.out.good.count, HD.out.good.secs, HD.out.good.sizes, HD.out.good.keep, HD.out.good.small⟩ (fun fm sm qv kv hb => ?_) (Touch.setCell _ _ _ rfl)
      rw [heap_setCell_at _ _ _ _ hb]
      rfl
/-- The first two errors of a call on a file. -/
def mayD (M : Mod) (f : Int) : Int := if M.down = true then 8 else if f < 0 ∨ 15 < f then 1 else 0
theorem may44 {w : World} {b c : Nat} {M : Mod} {O S : Nat → Prop} (hd : DiskAt w b M O S c) (f : Int) : Calls Try.prog 44 #[.pointer (some ⟨b, 0, none⟩), .int .i64 f] w fun e w' => e = .returned (.int .i64 (mayD M f)) ∧ w = w' := by
  obtain ⟨fm, sm, qv, kv, lb, cc, ff, o1, o2, o3, n1, n2, n3, hF, hS, hQ, ⟨ko, kc, rfl, hK⟩⟩ := hd.cells
  obtain ⟨qo, qc, rfl⟩ := owns_shape hQ
  have c0 := cc 0
  have c1 := cc 1
  have c2 := cc 2
  have c3 := cc 3
  have c4 := cc 4
  have c5 := cc 5
  have c6 := cc 6
  simp only [boxD, List.getElem?_toArray, List.getElem?_cons_zero, List.getElem?_cons_succ] at c0 c1 c2 c3 c4 c5 c6
  clear cc
  clear hF hS hQ hK hd
  cases hdn : M.down with
  | true =>
    have HE := Lib.hid (show mayD M f = 8 by unfold mayD; rw [hdn]; rfl)
    rw [hdn] at c4
    go_enter Try.func44, Try.ntmps44
    go_wp2
    go_ret
    exact ⟨by rw [HE.out]; rfl, rfl⟩
  | false =>
    rw [hdn] at c4
    by_cases h0 : f < 0
    · have HE := Lib.hid (show mayD M f = 1 by unfold mayD; rw [hdn, if_neg (by decide), if_pos (Or.inl h0)])
      have q1 : decide (f < 0) = true := by simpa using h0
      clear h0
      go_enter Try.func44, Try.ntmps44
      go_wp2
      go_ret
      exact ⟨by rw [HE.out]; rfl, rfl⟩
    · have q1 : decide (f < 0) = false := by simpa using h0
      by_cases h1 : 15 < f
      · have HE := Lib.hid (show mayD M f = 1 by unfold mayD; rw [hdn, if_neg (by decide), if_pos (Or.inr h1)])
        have q2 : decide (16 ≤ f) = true := by simp; omega
        clear h0 h1
        go_enter Try.func44, Try.ntmps44
        go_wp2
        go_ret
        exact ⟨by rw [HE.out]; rfl, rfl⟩
      · have HE := Lib.hid (show mayD M f = 0 by unfold mayD; rw [hdn, if_neg (by decide), if_neg (by omega)])
        have q2 : decide (16 ≤ f) = false := by simp; omega
        clear h0 h1
        go_enter Try.func44, Try.ntmps44
        go_wp2
        go_ret
        exact ⟨by rw [HE.out]; rfl, rfl⟩
@[go_sem] theorem fld63_0 (a b : ByteArray) (w : World) : (Instr.field 63 (.agg #[.string a, .string b]) 0).run Try.prog w = .ok (.string a) w := by kernel_rfl
@[go_sem] theorem fld63_1 (a b : ByteArray) (w : World) : (Instr.field 63 (.agg #[.string a, .string b]) 1).run Try.prog w = .ok (.string b) w := by kernel_rfl
@[go_sem] theorem fld70_0 (a b : Int) (w : World) : (Instr.field 70 (.agg #[.int .i64 a, .int .i64 b]) 0).run Try.prog w = .ok (.int .i64 a) w := by kernel_rfl
@[go_sem] theorem fld70_1 (a b : Int) (w : World) : (Instr.field 70 (.agg #[.int .i64 a, .int .i64 b]) 1).run Try.prog w = .ok (.int .i64 b) w := by kernel_rfl
theorem size16 {w : World} {b c : Nat} {M : Mod} {O S : Nat → Prop} (hd : DiskAt w b M O S c) (f : Int) (hf : I64 f) : Calls Try.prog 16 #[.pointer (some ⟨b, 0, none⟩), .int .i64 f] w fun e w' => e = .returned (.int .i64 (M.files f).1.size) ∧ w = w' := by
  obtain ⟨fm, sm, qv, kv, lb, cc, ff, o1, o2, o3, n1, n2, n3, hF, hS, hQ, ⟨ko, kc, rfl, hK⟩⟩ := hd.cells
  obtain ⟨qo, qc, rfl⟩ := owns_shape hQ
  have c0 := cc 0
  have c1 := cc 1
  have c2 := cc 2
  have c3 := cc 3
  have c4 := cc 4
  have c5 := cc 5
  have c6 := cc 6
  simp only [boxD, List.getElem?_toArray, List.getElem?_cons_zero, List.getElem?_cons_succ] at c0 c1 c2 c3 c4 c5 c6
  clear cc
  have hl := hF.look hf
  obtain ⟨s, hs⟩ : ∃ s, M.files f = s := ⟨_, rfl⟩
  rw [hs] at hl ⊢
  unfold fileV at hl
  clear hF hS hQ hK hd
  go_enter Try.func16, Try.ntmps16
  go_wp2
  go_ret
  exact ⟨rfl, rfl⟩
end Go.Proofs.Ytgeoompgakdbiaa

/- disk.put: bytes put into a string. Conditions: the sizes are a file's. -/
namespace Go.Proofs.Ytgeoompgakdbiaa
open Go.RowKit Go.Maps
set_option linter.unusedSimpArgs false
set_option linter.unusedVariables false
set_option maxRecDepth 100000

def byteC (l : List UInt8) : Array Value := (l.map fun b => Value.int .u8 (b.toNat : Int)).toArray
/-- The world with a new row of bytes. -/
def bufW (w : World) (l : List UInt8) : World := w.alloc (.cells (byteC l) 5)
theorem bufW_heap (w : World) (l : List UInt8) : (bufW w l).heap[w.heap.size]? = some (.cells (byteC l) 5 (0, 0)) := by
  unfold bufW World.alloc
  simp only [Array.getElem?_push, if_true]
theorem bufW_exts (w : World) (l : List UInt8) : Exts w (bufW w l) := (Exts.refl w).alloc _
theorem bufW_setRow (w : World) (l l' : List UInt8) : (bufW w l).setRow w.heap.size (byteC l') = bufW w l' := by
  unfold bufW World.setRow World.alloc
  congr 1
  apply Array.ext_getElem?
  intro k
  simp only [Array.getElem?_modify, Array.getElem?_push]
  by_cases hk : k = w.heap.size
  · subst hk
    simp
  · have hk' : ¬ w.heap.size = k := fun e => hk e.symm
    simp [hk, hk']
theorem byteC_size (l : List UInt8) : (byteC l).size = l.length := by simp [byteC]
theorem made_bytes (w : World) (n : Nat) (hn : n ≤ 281474976710656) : (Instr.makeSlice 85 (.int .i64 (n : Int)) (.int .i64 (n : Int))).run Try.prog w = .ok (.slice (some ⟨w.heap.size, 0, none⟩) n n) (bufW w (List.replicate n 0)) := by
  have h := run_make_row' (P := Try.prog) 85 5 (.int .u8 0) 1 Try.underlying85 (by kernel_rfl) rfl .i64 .i64 n (by omega) (by omega) w
  have hm : madeCells #[Value.int .u8 0] n = byteC (List.replicate n 0) := by
    unfold madeCells byteC
    apply Array.ext_getElem?
    intro i
    by_cases hi : i < n
    · simp [hi, Nat.mod_one]
    · simp [hi]
  rw [h, hm]
  rfl
theorem copy_str (w : World) (l : List UInt8) (o d cap : Nat) (s : ByteArray) (m : Nat) (hm : Nat.min s.size d = m) (hfit : o + d ≤ l.length) (ty : TypeId) : (Builtin.copy_ #[85, 9] ty #[.slice (some ⟨w.heap.size, o, none⟩) d cap, .string s]).run Try.prog (bufW w l) = .ok (goInt m) (bufW w (l.take o ++ s.data.toList.take m ++ l.drop (o + m))) := by
  have hmd : m ≤ d := by rw [← hm]; exact Nat.min_le_right _ _
  have hms : m ≤ s.size := by rw [← hm]; exact Nat.min_le_left _ _
  have hcs : ((s.extract 0 m).data.map fun b => Value.int .u8 (b.toNat : Int)) = byteC (s.data.toList.take m) := by
    unfold byteC
    apply Array.toList_inj.1
    rw [Array.toList_map]
    have := Lib.extract_data s 0 m
    rw [this]
    simp
  have hst := run_storeCells_at Try.prog w.heap.size o 5 (byteC (s.data.toList.take m)).toList 0 (byteC l) (bufW w l) (bufW_heap w l) (by
    have h1 : (byteC (s.data.toList.take m)).toList.length = m := by
      rw [Array.length_toList, byteC_size, List.length_take, Array.length_toList]
      exact Nat.min_eq_left hms
    rw [h1, byteC_size]
    omega) (fun v hv => by
    unfold byteC at hv
    obtain ⟨b, _, rfl⟩ := List.mem_map.1 hv
    rfl)
  have hq : ((Try.prog.info? 5).map (·.size)) = some 1 := by kernel_rfl
  obtain ⟨i, hi, hi1⟩ := Option.map_eq_some_iff.1 hq
  simp only [Nat.add_zero] at hst
  have hrow : (List.take o (byteC l).toList ++ (byteC (List.take m s.data.toList)).toList ++ List.drop (o + (byteC (List.take m s.data.toList)).toList.length) (byteC l).toList).toArray = byteC (l.take o ++ s.data.toList.take m ++ l.drop (o + m)) := by
    have h1 : (byteC (s.data.toList.take m)).toList.length = m := by
      rw [Array.length_toList, byteC_size, List.length_take, Array.length_toList]
      exact Nat.min_eq_left hms
    rw [h1]
    unfold byteC
    simp
  rw [hrow, bufW_setRow] at hst
  simp [Builtin.copy_, run_underlying Try.underlying85, Builtin.lenOf, Builtin.firstCells, sizeOf, typeInfo, hi, hi1, hm, -List.append_assoc, -Array.toList_map]
  have hC : List.take m (Array.map (fun b => Value.int IntKind.u8 (b.toNat : Int)) s.data).toList = (byteC (s.data.toList.take m)).toList := by
    unfold byteC
    simp
  rw [hC, hst]
  rfl
theorem bytes_str (w : World) (l : List UInt8) (cap : Nat) : (convert 85 9 (.slice (some ⟨w.heap.size, 0, none⟩) l.length cap)).run Try.prog (bufW w l) = .ok (.string ⟨l.toArray⟩) (bufW w l) := by
  refine run_convert_bytes_back (bufW w l) 85 9 5 ⟨w.heap.size, 0, none⟩ cap l Try.underlying85 Try.underlying5 Try.underlying9 fun j hj => ?_
  have hadd : (⟨w.heap.size, 0, none⟩ : Addr).add j = ⟨w.heap.size, 0 + j, none⟩ := by unfold Addr.add; split <;> simp_all
  rw [hadd]
  simp only [World.cell?, bufW_heap]
  simp [byteC, hj]
/-- Bytes put into a string, as lists. -/
def padL (s : List UInt8) (n : Nat) : List UInt8 := s ++ List.replicate (n - s.length) 0
def putL (s : List UInt8) (at' : Nat) (t : List UInt8) : List UInt8 := if t = [] then s else (padL s (at' + t.length)).take at' ++ t ++ (padL s (at' + t.length)).drop (at' + t.length)
def putB (s : ByteArray) (at' : Nat) (t : ByteArray) : ByteArray := ⟨(putL s.data.toList at' t.data.toList).toArray⟩
theorem ba_len (s : ByteArray) : s.data.toList.length = s.size := by rw [Array.length_toList]; rfl
theorem padL_len (s : List UInt8) (n : Nat) : (padL s n).length = max s.length n := by
  unfold padL
  rw [List.length_append, List.length_replicate]
  omega
theorem putL_len (s : List UInt8) (at' : Nat) (t : List UInt8) : (putL s at' t).length = if t = [] then s.length else max s.length (at' + t.length) := by
  unfold putL
  split
  · rfl
  · rw [List.length_append, List.length_append, List.length_take, List.length_drop, padL_len]
    omega
theorem putB_size (s : ByteArray) (at' : Nat) (t : ByteArray) : (putB s at' t).size = if t.size = 0 then s.size else max s.size (at' + t.size) := by
  have h1 : (putB s at' t).size = (putL s.data.toList at' t.data.toList).length := rfl
  rw [h1, putL_len, ba_len, ba_len]
  have h2 : (t.data.toList = []) ↔ t.size = 0 := by rw [← ba_len t]; exact List.length_eq_zero_iff.symm
  simp only [h2]
set_option maxHeartbeats 1000000
theorem put47 (s t : ByteArray) (at' : Nat) (w : World) (hs : s.size ≤ maxFile) (hat : at' + t.size ≤ maxFile) :
    Calls Try.prog 47 #[.string s, .int .i64 at', .string t] w fun e w' => e = .returned (.string (putB s at' t)) ∧ Exts w w' := by
  unfold maxFile at hs hat
  by_cases h0 : t.size = 0
  · have hb : putB s at' t = s := by
      unfold putB putL
      have : t.data.toList = [] := List.length_eq_zero_iff.1 (by rw [ba_len]; exact h0)
      rw [if_pos this]
    have ht : t = ByteArray.empty := ba_inj (by
      have : t.data.toList = [] := List.length_eq_zero_iff.1 (by rw [ba_len]; exact h0)
      rw [this]; rfl)
    rw [hb]
    subst ht
    go_enter Try.func47, Try.ntmps47
    go_wp2
    go_ret
    exact ⟨rfl, (by repeat (first | exact Exts.refl _ | apply Exts.andR | apply Exts.alloc | apply Exts.wext | apply Exts.drew | apply Exts.drewN))⟩
  · have he : t.toList.isEmpty = false := by
      rw [Lib.toList_data]
      cases hq : t.data.toList with
      | nil => exact absurd (by rw [← ba_len t, hq]; rfl) h0
      | cons _ _ => rfl
    obtain ⟨m, hm⟩ : ∃ m, at' + t.size = m := ⟨_, rfl⟩
    have hw : IntKind.i64.wrap ((at' : Int) + (t.size : Int)) = (m : Int) := by rw [IntKind.wrap_i64] <;> omega
    by_cases hlt : s.size < m
    · have hq : (s.size : Int) < (m : Int) := by omega
      have hmk := made_bytes w m (by omega)
      have hl0 : (List.replicate m (0 : UInt8)).length = m := List.length_replicate
      obtain ⟨l1, hl1⟩ : ∃ l, padL s.data.toList (at' + t.size) = l := ⟨_, rfl⟩
      obtain ⟨l2, hl2⟩ : ∃ l, l1.take at' ++ t.data.toList ++ l1.drop (at' + t.size) = l := ⟨_, rfl⟩
      have h1n : l1.length = m := by rw [← hl1, padL_len, ba_len]; omega
      have h2n : l2.length = m := by rw [← hl2, List.length_append, List.length_append, List.length_take, List.length_drop, ba_len]; omega
      have hres : putB s at' t = ⟨l2.toArray⟩ := by
        unfold putB putL
        have : ¬ t.data.toList = [] := fun e => h0 (by rw [← ba_len t, e]; rfl)
        rw [if_neg this, ba_len, hl1, hl2]
      have hc1 : ∀ ty, (Builtin.copy_ #[85, 9] ty #[.slice (some ⟨w.heap.size, 0, none⟩) m m, .string s]).run Try.prog (bufW w (List.replicate m 0)) = .ok (goInt s.size) (bufW w l1) := fun ty => by
        rw [copy_str w (List.replicate m 0) 0 m m s s.size (Nat.min_eq_left (by omega)) (by rw [hl0]; omega) ty]
        congr 2
        rw [← hl1]
        unfold padL
        rw [List.take_zero, List.nil_append, List.take_of_length_le (Nat.le_of_eq (ba_len s)), Nat.zero_add, List.drop_replicate, ba_len]
        congr 2
        omega
      have hc2 : ∀ ty, (Builtin.copy_ #[85, 9] ty #[.slice (some ⟨w.heap.size, at', none⟩) (m - at') (m - at'), .string t]).run Try.prog (bufW w l1) = .ok (goInt t.size) (bufW w l2) := fun ty => by
        rw [copy_str w l1 at' (m - at') (m - at') t t.size (Nat.min_eq_left (by omega)) (by rw [h1n]; omega) ty]
        congr 2
        rw [← hl2, List.take_of_length_le (Nat.le_of_eq (ba_len t))]
      have hcv := bytes_str w l2 m
      rw [h2n] at hcv
      have HRES := Lib.hid hres
      have p1 : (0 : Int) ≤ (at' : Int) := by omega
      have p2 : (at' : Int) ≤ (m : Int) := by omega
      have p3 : ¬ (m : Int) = (at' : Int) := by omega
      clear hl0 hl1 hl2 h1n h2n hres
      go_enter Try.func47, Try.ntmps47
      go_wp2
      go_ret
      exact ⟨by rw [HRES.out]; rfl, bufW_exts _ _⟩
    · have hq : (m : Int) ≤ (s.size : Int) := by omega
      have hmk := made_bytes w s.size (by omega)
      have hl0 : (List.replicate s.size (0 : UInt8)).length = s.size := List.length_replicate
      obtain ⟨l1, hl1⟩ : ∃ l, padL s.data.toList (at' + t.size) = l := ⟨_, rfl⟩
      obtain ⟨l2, hl2⟩ : ∃ l, l1.take at' ++ t.data.toList ++ l1.drop (at' + t.size) = l := ⟨_, rfl⟩
      have h1n : l1.length = s.size := by rw [← hl1, padL_len, ba_len]; omega
      have h2n : l2.length = s.size := by rw [← hl2, List.length_append, List.length_append, List.length_take, List.length_drop, ba_len]; omega
      have hres : putB s at' t = ⟨l2.toArray⟩ := by
        unfold putB putL
        have : ¬ t.data.toList = [] := fun e => h0 (by rw [← ba_len t, e]; rfl)
        rw [if_neg this, ba_len, hl1, hl2]
      have hc1 : ∀ ty, (Builtin.copy_ #[85, 9] ty #[.slice (some ⟨w.heap.size, 0, none⟩) s.size s.size, .string s]).run Try.prog (bufW w (List.replicate s.size 0)) = .ok (goInt s.size) (bufW w l1) := fun ty => by
        rw [copy_str w (List.replicate s.size 0) 0 s.size s.size s s.size (Nat.min_eq_left (by omega)) (by rw [hl0]; omega) ty]
        congr 2
        rw [← hl1]
        unfold padL
        rw [List.take_zero, List.nil_append, List.take_of_length_le (Nat.le_of_eq (ba_len s)), Nat.zero_add, List.drop_replicate, ba_len]
        congr 2
        omega
      have hc2 : ∀ ty, (Builtin.copy_ #[85, 9] ty #[.slice (some ⟨w.heap.size, at', none⟩) (s.size - at') (s.size - at'), .string t]).run Try.prog (bufW w l1) = .ok (goInt t.size) (bufW w l2) := fun ty => by
        rw [copy_str w l1 at' (s.size - at') (s.size - at') t t.size (Nat.min_eq_left (by omega)) (by rw [h1n]; omega) ty]
        congr 2
        rw [← hl2, List.take_of_length_le (Nat.le_of_eq (ba_len t))]
      have hcv := bytes_str w l2 s.size
      rw [h2n] at hcv
      have HRES := Lib.hid hres
      have p1 : (0 : Int) ≤ (at' : Int) := by omega
      have p2 : (at' : Int) ≤ (s.size : Int) := by omega
      have p3 : ¬ (s.size : Int) = (at' : Int) := by omega
      clear hl0 hl1 hl2 h1n h2n hres
      go_enter Try.func47, Try.ntmps47
      go_wp2
      go_ret
      exact ⟨by rw [HRES.out]; rfl, bufW_exts _ _⟩
end Go.Proofs.Ytgeoompgakdbiaa

/- slices.Clone, and Arm. -/
namespace Go.Proofs.Ytgeoompgakdbiaa
open Go.RowKit Go.Maps
set_option linter.unusedSimpArgs false
set_option linter.unusedVariables false
set_option maxRecDepth 100000
theorem info3 : (Try.prog.info? 3).map (fun i => (i.zero, i.size, i.bytes)) = some (some (.int .i64 0), 1, 8) := by kernel_rfl
theorem info70 : (Try.prog.info? 70).map (fun i => (i.zero, i.size, i.bytes)) = some (some (.agg #[.int .i64 0, .int .i64 0]), 2, 16) := by kernel_rfl
set_option maxHeartbeats 400000 in
theorem clone48 (v : Value) (n : Nat) (xs : List Value) (w : World) {S : Nat → Prop} (h : RowF S 1 w v n xs) (h1 : ∀ u ∈ xs, u.oneCell' = true) (hb : n * 8 ≤ 140737488355328) :
    Calls Try.prog 48 #[v] w fun e w' => ∃ ao' c', e = .returned (.slice ao' n c') ∧ Exts w w' ∧ RowF (fun b => w.heap.size ≤ b) 1 w' (.slice ao' n c') n xs := by
  obtain ⟨i0, hi, hz0, hz1, hz2⟩ := info_parts info3
  have hnle := h.nle
  have hlen := h.len
  obtain ⟨_, ao, cap, rfl, h2, h3, h4, h5⟩ := id h
  cases ao with
  | none =>
    have hc := h4 rfl
    subst hc
    obtain rfl : n = 0 := by omega
    obtain rfl : xs = [] := List.eq_nil_of_length_eq_zero (by simpa using hlen)
    have e := fun w => Lib.run_eql_slice_nil (P := Try.prog) w 31 3 none 0 0 0 0 Try.underlying31
    go_enter Try.func48, Try.ntmps48
    go_wp2
    go_ret
    exact ⟨none, 0, rfl, Exts.refl _, RowF.nil _ 1 w⟩
  | some a =>
    have e := fun w => Lib.run_eql_slice_nil (P := Try.prog) w 31 3 (some a) n cap 0 0 Try.underlying31
    have hx : ∀ j u, xs[j]? = some u → (w.alloc (.cells #[] 3)).cell? (a.add j) = some u := by
      intro j u hj
      have hn : 0 < n := by
        have := (List.getElem?_eq_some_iff.1 hj).1
        rw [hlen] at this
        exact Nat.pos_of_ne_zero (fun h0 => by subst h0; simp at this)
      obtain ⟨b, off, hab, _, hbs, hc⟩ := h5 hn
      cases hab
      rw [Addr.add_lit, World.cell?_alloc_lt _ _ _ hbs]
      exact hc j u hj
    clear h2 h3 h4 h5 h
    unfold maxLen at hnle
    go_enter Try.func48, Try.ntmps48
    go_wp2_with (at_builtin; refine wpList_append_own _ rfl _ _ 31 rfl w.heap.size 3 i0 _ 1 8 Try.underlying31 hi hz0 hz1 hz2 rfl (by decide) _ 0 [] rfl (World.ownsRow_made w #[] 0 (Nat.le_refl _) (by decide) rfl) a n cap xs rfl hlen hx h1 (by unfold maxLen; omega) (by omega) (by simp) ?_; intro v' w1 hown hgrow hnil)
    go_ret
    simp only [Nat.zero_add, List.nil_append] at hown
    have hrow := RowF.of_owns hown
    obtain ⟨_, ao', c', rfl, _⟩ := id hrow
    exact ⟨ao', c', rfl, exts_of_grown ((Exts.refl w).alloc _) hgrow (fun b hb => by cases hb; exact Nat.le_refl _), hrow⟩
set_option maxHeartbeats 400000 in
theorem clone41 (v : Value) (n : Nat) (xs : List Value) (w : World) (h : w.ownsRow 0 70 2 v n xs) (h1 : ∀ u ∈ xs, u.oneCell' = true) (hb : n * 16 ≤ 140737488355328) :
    Calls Try.prog 41 #[v] w fun e w' => ∃ v', e = .returned v' ∧ Exts w w' ∧ w'.ownsRow w.heap.size 70 2 v' n xs := by
  obtain ⟨i0, hi, hz0, hz1, hz2⟩ := info_parts info70
  have hr := RowF.of_owns h
  have hnle := hr.nle
  have hlen := hr.len
  obtain ⟨_, ao, cap, rfl, h2, h3, h4, h5⟩ := id hr
  cases ao with
  | none =>
    have hc := h4 rfl
    subst hc
    obtain rfl : n = 0 := by omega
    obtain rfl : xs = [] := List.eq_nil_of_length_eq_zero (by simpa using hlen)
    have e := fun w => Lib.run_eql_slice_nil (P := Try.prog) w 54 70 none 0 0 0 0 Try.underlying54
    go_enter Try.func41, Try.ntmps41
    go_wp2
    go_ret
    exact ⟨.slice none 0 0, rfl, Exts.refl _, World.ownsRow_nil _ _ _ _⟩
  | some a =>
    have e := fun w => Lib.run_eql_slice_nil (P := Try.prog) w 54 70 (some a) n cap 0 0 Try.underlying54
    have hx : ∀ j u, xs[j]? = some u → (w.alloc (.cells #[] 70)).cell? (a.add j) = some u := by
      intro j u hj
      have hn : 0 < n := by
        have := (List.getElem?_eq_some_iff.1 hj).1
        rw [hlen] at this
        exact Nat.pos_of_ne_zero (fun h0 => by subst h0; simp at this)
      obtain ⟨b, off, hab, _, hbs, hc⟩ := h5 hn
      cases hab
      rw [Addr.add_lit, World.cell?_alloc_lt _ _ _ hbs]
      exact hc j u hj
    clear h2 h3 h4 h5 h hr
    unfold maxLen at hnle
    go_enter Try.func41, Try.ntmps41
    go_wp2_with (at_builtin; refine wpList_append_own _ rfl _ _ 54 rfl w.heap.size 70 i0 _ 2 16 Try.underlying54 hi hz0 hz1 hz2 rfl (by decide) _ 0 [] rfl (World.ownsRow_made w #[] 0 (Nat.le_refl _) (by decide) rfl) a n cap xs rfl hlen hx h1 (by unfold maxLen; omega) (by omega) (by simp) ?_; intro v' w1 hown hgrow hnil)
    go_ret
    simp only [Nat.zero_add, List.nil_append] at hown
    exact ⟨_, rfl, exts_of_grown ((Exts.refl w).alloc _) hgrow (fun b hb => by cases hb; exact Nat.le_refl _), hown⟩
theorem ones_ints (l : List Int) : ∀ u ∈ intsC l, u.oneCell' = true := by
  intro u hu
  obtain ⟨x, _, rfl⟩ := List.mem_map.1 hu
  rfl
theorem ones_secs (Q : List Sec) : ∀ u ∈ secsC Q, u.oneCell' = true := by
  intro u hu
  obtain ⟨x, _, hx⟩ := List.mem_flatMap.1 hu
  simp at hx
  rcases hx with rfl | rfl <;> rfl
theorem RowF.both {S : Nat → Prop} {k n : Nat} {w : World} {v : Value} {xs : List Value} (h : RowF S k w v n xs) : RowF (fun b => S b ∧ b < w.heap.size) k w v n xs := by
  obtain ⟨h1, ao, cap, rfl, h2, h3, h4, h5⟩ := h
  refine ⟨h1, ao, cap, rfl, h2, h3, h4, fun hn => ?_⟩
  obtain ⟨b, off, rfl, hS, hb, hx⟩ := h5 hn
  exact ⟨b, off, rfl, ⟨hS, hb⟩, hb, hx⟩
/-- The list of what survives is laid anew. -/
theorem DiskAt.keeps {w W w' : World} {b c : Nat} {M M' : Mod} {O S : Nat → Prop} (h : DiskAt w b M O S c) (he : Exts w W) {ao : Option Addr} {cap : Nat} {kl : List Int} (hr : RowF (fun b => w.heap.size ≤ b) 1 W (.slice ao kl.length cap) kl.length (intsC kl))
    (hf : M'.files = M.files) (hq : M'.queue = M.queue) (hk : M'.keep = kl) (hg : Good M' c)
    (hb : ∀ fm sm qv kv, W.heap[b]? = some (.cells (boxD fm sm qv kv M) 56 (0, 0)) → w'.heap[b]? = some (.cells (boxD fm sm qv (.slice ao kl.length cap) M') 56 (0, 0))) (ht : Touch (fun k => k = b) W w') : After w b M' O S c w' := by
  have h1 := h.kept (X := fun _ => False) (Touch.of_exts he) (fun _ _ h => h) (fun _ _ h => h)
  obtain ⟨fm, sm, qv, kv, hb0, o1, o2, o3, hne, q1, q2, q3, q4⟩ := h1.ex
  have hbl := h.oLt b h.own
  have nf : fm ≠ b := fun e => by
    obtain ⟨D, ⟨es, clock, hm, _⟩, _⟩ := q1
    rw [e, hb0] at hm
    cases hm
  have ns : sm ≠ b := fun e => by
    obtain ⟨D, ⟨es, clock, hm, _⟩, _⟩ := q2
    rw [e, hb0] at hm
    cases hm
  refine ⟨O, fun k => w.heap.size ≤ k ∧ k < w'.heap.size, ⟨fun k hk ho => ?_, fun k hk => Nat.lt_of_lt_of_le (h1.oLt k hk) ht.size, fun k hk => hk.2, h.own, ⟨fm, sm, qv, .slice ao kl.length cap, hb _ _ _ _ hb0, o1, o2, o3, hne, ?_, ?_, ?_, ?_⟩, hg⟩, fun _ => Or.inl, fun k hk => Or.inr hk.1, ?_⟩
  · have := h.oLt k ho
    omega
  · rw [hf]; exact q1.touch ht nf
  · rw [hq]; exact q2.touch ht ns
  · rw [hq]
    refine ownsRow_touch q3 ht fun g hg he => ?_
    subst he
    rcases q3.2 with ⟨rfl, _⟩ | ⟨g', cap, cur, rfl, _, hg', _⟩
    · cases hg
    · cases hg
      rw [hb0] at hg'
      cases hg'
  · rw [hk]
    exact ⟨ao, cap, rfl, (hr.touch ht (fun k hk e => by subst e; omega)).both⟩
  · exact (Touch.of_exts he).trans ht (fun k hk => Or.inl (hk ▸ h.own))
theorem arm27 {w : World} {b c : Nat} {M : Mod} {O S : Nat → Prop} (hd : DiskAt w b M O S c) (n : Int) (hn : I64 n) (kv : Value) (kl : List Int) {S1 : Nat → Prop} (hk : RowF S1 1 w kv kl.length (intsC kl)) (hkl : kl.length ≤ 1000) (hki : ∀ x ∈ kl, I64 x) : Calls Try.prog 27 #[.pointer (some ⟨b, 0, none⟩), .int .i64 n, kv] w fun e w' => e = .returned (.tuple #[]) ∧ After w b { M with armed := max n 0, keep := kl } O S c w' := by
  obtain ⟨fm, sm, qv, kv0, lb, cc, ff, o1, o2, o3, n1, n2, n3, hF, hS, hQ, hK⟩ := hd.cells
  have HD := Lib.hid hd
  have HK := Lib.hid hk
  have HI := Lib.hid hki
  obtain ⟨hn1, hn2⟩ := hn
  have c5 := cc 5
  have c6 := cc 6
  simp only [boxD, List.getElem?_toArray, List.getElem?_cons_zero, List.getElem?_cons_succ] at c5 c6
  clear cc hF hS hQ hK hd hk hki
  by_cases h0 : n < 0
  · have HM := Lib.hid (show max n 0 = 0 by omega)
    go_enter Try.func27, Try.ntmps27
    go_wp2_with (go_at_call 48; ((with_reducible refine (clone48 _ _ _ _ (RowF.exts HK.out (by repeat (first | exact Exts.refl _ | apply Exts.andR | apply Exts.alloc | apply Exts.wext | apply Exts.drew | apply Exts.drewN))) (ones_ints _) (by omega)).mono ?_); rintro e w' ⟨ao', c', rfl, ⟨x1, rfl⟩, hr⟩; (have HR := Lib.hid hr); clear hr))
    go_end0
    refine ⟨rfl, HD.out.keeps (W := wext w x1) ⟨x1, rfl⟩ HR.out rfl rfl rfl ⟨HD.out.good.lost, by rw [HM.out]; exact ⟨by simp only []; omega, by simp only []; omega⟩, HD.out.good.count, HD.out.good.secs, HD.out.good.sizes, HI.out, HD.out.good.small⟩ (fun fm sm qv kv hb => ?_) ?_⟩
    · rw [← wext_setCell _ _ _ _ _ (by rw [heap_setCell_size]; exact lb), ← wext_setCell _ _ _ _ _ lb, heap_setCell_at _ _ _ _ (heap_setCell_at _ _ _ _ hb), HM.out]
      rfl
    · rw [← wext_setCell _ _ _ _ _ (by rw [heap_setCell_size]; exact lb), ← wext_setCell _ _ _ _ _ lb]
      exact Touch.then (O := fun k => k = b) (Touch.setCell _ _ _ rfl) (Touch.setCell _ _ _ rfl)
  · have HM := Lib.hid (show max n 0 = n by omega)
    go_enter Try.func27, Try.ntmps27
    go_wp2_with (go_at_call 48; ((with_reducible refine (clone48 _ _ _ _ (RowF.exts HK.out (by repeat (first | exact Exts.refl _ | apply Exts.andR | apply Exts.alloc | apply Exts.wext | apply Exts.drew | apply Exts.drewN))) (ones_ints _) (by omega)).mono ?_); rintro e w' ⟨ao', c', rfl, ⟨x1, rfl⟩, hr⟩; (have HR := Lib.hid hr); clear hr))
    go_end0
    refine ⟨rfl, HD.out.keeps (W := wext w x1) ⟨x1, rfl⟩ HR.out rfl rfl rfl ⟨HD.out.good.lost, by rw [HM.out]; exact ⟨by simp only []; omega, by simp only []; omega⟩, HD.out.good.count, HD.out.good.secs, HD.out.good.sizes, HI.out, HD.out.good.small⟩ (fun fm sm qv kv hb => ?_) ?_⟩
    · rw [← wext_setCell _ _ _ _ _ (by rw [heap_setCell_size]; exact lb), ← wext_setCell _ _ _ _ _ lb, heap_setCell_at _ _ _ _ (heap_setCell_at _ _ _ _ hb), HM.out]
      rfl
    · rw [← wext_setCell _ _ _ _ _ (by rw [heap_setCell_size]; exact lb), ← wext_setCell _ _ _ _ _ lb]
      exact Touch.then (O := fun k => k = b) (Touch.setCell _ _ _ rfl) (Touch.setCell _ _ _ rfl)
end Go.Proofs.Ytgeoompgakdbiaa
