/- Lemmas that the laws of this seat share, 5 texts in one: HearLd, HearQ, HearR, HearS, HearMk. No condition of their own. -/
import Derived.Test.YtgmjcgjbbogefaaGreatM15
import Derived.Test.YtgmjcgjbbogefaaGreatM5
import Derived.Test.YtgmjcgjbbogefaaGreatM12
import Derived.Laws.EntriesVeiled
import Derived.Test.YtgmjcgjbbogefaaGreatM8
import Derived.Laws.MakeOwn
/- A hearing is loaded whole. -/
namespace Go.Proofs.YtgmjcgjbbogefaaGreat
open Go.RowKit Go.Maps
set_option linter.unusedSimpArgs false
set_option linter.unusedVariables false
set_option maxRecDepth 100000
@[go_sem high] theorem rowOf_drew2 (w : World) (n : Nat) : rowOf w.drew n = rowOf w n := by unfold rowOf; rfl
@[go_sem high] theorem isRow_drew2 (w : World) (n k : Nat) : isRow w.drew n k = isRow w n k := by unfold isRow; rfl
theorem info70 : (Tryz.prog.info? 70).map (fun i => i.size) = some 22 := by kernel_rfl
@[go_sem ↓] theorem loadVar70 (a : Addr) : loadVar 70 a = ldV 70 a := rfl
@[go_sem] theorem load70 (w : World) (b : Nat) (h : isRow w b 22) : (ldV 70 ⟨b, 0, none⟩).run Tryz.prog w = .ok (.agg (rowOf w b)) w := by
  obtain ⟨c, t, hb, hc⟩ := h
  have hi : (Tryz.prog.info? 70).map (·.size) = some c.size := by rw [hc]; exact info70
  rw [rowOf_of hb]
  exact run_loadVar_row w b t 70 c (0, 0) _ hb Tryz.underlying70 rfl hi
end Go.Proofs.YtgmjcgjbbogefaaGreat

/- hearing: Deadline, timely, party, attacks at the example. (printed by gen.py) -/
namespace Go.Proofs.YtgmjcgjbbogefaaGreat
open Go.RowKit Go.Maps Go.Instr
set_option linter.unusedSimpArgs false
set_option linter.unusedVariables false
set_option maxRecDepth 100000
set_option maxHeartbeats 8000000
theorem deadline45 (lb pb : Nat) (co : Option Addr) (n c : Nat) (w : World) : Calls Tryz.prog 45 #[.agg #[.slice none 0 0, .slice none 0 0, .slice none 0 0, .slice none 0 0, .slice none 0 0, .slice none 0 0, .slice none 0 0, .int .i64 0, .slice (some ⟨lb, 0, none⟩) 2 2, .slice none 0 0, .slice none 0 0, .slice none 0 0, .slice none 0 0, .int .i64 1, .slice (some ⟨pb, 0, none⟩) 1 1, .int .i64 0, .int .i64 1, .int .i64 0, .slice none 0 0, .slice none 0 0, .slice none 0 0, .slice co n c]] w fun e w' => e = .returned (.tuple #[.int .i64 0, .int .i64 0]) ∧ Exts w w' := by
  go_enter Tryz.func45, Tryz.ntmps45
  go_wp2_with (first | (go_at_call 54; fail))
  refine wp_name ?_
  intro W3 hW3
  have HXW3 := Lib.hid (show Exts w W3 by rw [hW3]; exact (by repeat (first | exact Exts.refl _ | apply Exts.andR | apply Exts.alloc | apply Exts.wext | apply Exts.drew | apply Exts.drewN)))
  have T0 : ∀ w', Exts W3 w' → w'.cell? ⟨w.heap.size, 0, none⟩ = some (.slice none 0 0) := all_at (Exts.refl W3) (by rw [hW3]; simp [go_sem])
  have T1 : ∀ w', Exts W3 w' → w'.cell? ⟨w.heap.size, 1, none⟩ = some (.slice none 0 0) := all_at (Exts.refl W3) (by rw [hW3]; simp [go_sem])
  have T2 : ∀ w', Exts W3 w' → w'.cell? ⟨w.heap.size, 2, none⟩ = some (.slice none 0 0) := all_at (Exts.refl W3) (by rw [hW3]; simp [go_sem])
  have T3 : ∀ w', Exts W3 w' → w'.cell? ⟨w.heap.size, 3, none⟩ = some (.slice none 0 0) := all_at (Exts.refl W3) (by rw [hW3]; simp [go_sem])
  have T4 : ∀ w', Exts W3 w' → w'.cell? ⟨w.heap.size, 4, none⟩ = some (.slice none 0 0) := all_at (Exts.refl W3) (by rw [hW3]; simp [go_sem])
  have T5 : ∀ w', Exts W3 w' → w'.cell? ⟨w.heap.size, 5, none⟩ = some (.slice none 0 0) := all_at (Exts.refl W3) (by rw [hW3]; simp [go_sem])
  have T6 : ∀ w', Exts W3 w' → w'.cell? ⟨w.heap.size, 6, none⟩ = some (.slice none 0 0) := all_at (Exts.refl W3) (by rw [hW3]; simp [go_sem])
  have T7 : ∀ w', Exts W3 w' → w'.cell? ⟨w.heap.size, 7, none⟩ = some (.int .i64 0) := all_at (Exts.refl W3) (by rw [hW3]; simp [go_sem])
  have T17 : ∀ w', Exts W3 w' → w'.cell? ⟨w.heap.size, 17, none⟩ = some (.int .i64 0) := all_at (Exts.refl W3) (by rw [hW3]; simp [go_sem])
  have T18 : ∀ w', Exts W3 w' → w'.cell? ⟨w.heap.size, 18, none⟩ = some (.slice none 0 0) := all_at (Exts.refl W3) (by rw [hW3]; simp [go_sem])
  have T19 : ∀ w', Exts W3 w' → w'.cell? ⟨w.heap.size, 19, none⟩ = some (.slice none 0 0) := all_at (Exts.refl W3) (by rw [hW3]; simp [go_sem])
  clear hW3
  go_region_held3 (fun w' => Exts W3 w') (first | assumption | exact (Exts.refl _).drew | exact (by repeat (first | exact Exts.refl _ | apply Exts.andR | apply Exts.alloc | apply Exts.wext | apply Exts.drew | apply Exts.drewN))) ((first | (go_at_call 54; ((with_reducible refine (days54 _).mono ?_); rintro e w' ⟨rfl, y1, rfl⟩)) | (go_at_call 53; ((with_reducible refine (deadline53 _).mono ?_); rintro e w' ⟨rfl, y2, rfl⟩))))
  all_goals (
    go_wp2
    go_ret2
    exact ⟨rfl, HXW3.out.trans (by repeat (first | exact Exts.refl _ | apply Exts.andR | apply Exts.alloc | apply Exts.wext | apply Exts.drew | apply Exts.drewN))⟩)
theorem timely36 (lb pb : Nat) (co : Option Addr) (n c : Nat) (w : World) : Calls Tryz.prog 36 #[.agg #[.slice none 0 0, .slice none 0 0, .slice none 0 0, .slice none 0 0, .slice none 0 0, .slice none 0 0, .slice none 0 0, .int .i64 0, .slice (some ⟨lb, 0, none⟩) 2 2, .slice none 0 0, .slice none 0 0, .slice none 0 0, .slice none 0 0, .int .i64 1, .slice (some ⟨pb, 0, none⟩) 1 1, .int .i64 0, .int .i64 1, .int .i64 0, .slice none 0 0, .slice none 0 0, .slice none 0 0, .slice co n c], .int .i64 0] w fun e w' => e = .returned (.bool true) ∧ Exts w w' := by
  go_enter Tryz.func36, Tryz.ntmps36
  go_wp2_with (first | (go_at_call 45; ((with_reducible refine (deadline45 _ _ _ _ _ _).mono ?_); rintro e w' ⟨rfl, y1, rfl⟩)))
  go_ret
  exact ⟨rfl, (by repeat (first | exact Exts.refl _ | apply Exts.andR | apply Exts.alloc | apply Exts.wext | apply Exts.drew | apply Exts.drewN))⟩
theorem party37_1 (lb pb : Nat) (co : Option Addr) (n c : Nat) (w : World) : Calls Tryz.prog 37 #[.agg #[.slice none 0 0, .slice none 0 0, .slice none 0 0, .slice none 0 0, .slice none 0 0, .slice none 0 0, .slice none 0 0, .int .i64 0, .slice (some ⟨lb, 0, none⟩) 2 2, .slice none 0 0, .slice none 0 0, .slice none 0 0, .slice none 0 0, .int .i64 1, .slice (some ⟨pb, 0, none⟩) 1 1, .int .i64 0, .int .i64 1, .int .i64 0, .slice none 0 0, .slice none 0 0, .slice none 0 0, .slice co n c], .int .i64 1] w fun e w' => e = .returned (.bool true) ∧ Exts w w' := by
  go_enter Tryz.func37, Tryz.ntmps37
  go_wp2
  go_ret
  exact ⟨rfl, (by repeat (first | exact Exts.refl _ | apply Exts.andR | apply Exts.alloc | apply Exts.wext | apply Exts.drew | apply Exts.drewN))⟩
theorem party37_2 (lb a1 a2 pb vb : Nat) (co : Option Addr) (n c : Nat) (w : World) (h : LandW w lb a1 a2) (hh : HouseW w pb vb) : Calls Tryz.prog 37 #[.agg #[.slice none 0 0, .slice none 0 0, .slice none 0 0, .slice none 0 0, .slice none 0 0, .slice none 0 0, .slice none 0 0, .int .i64 0, .slice (some ⟨lb, 0, none⟩) 2 2, .slice none 0 0, .slice none 0 0, .slice none 0 0, .slice none 0 0, .int .i64 1, .slice (some ⟨pb, 0, none⟩) 1 1, .int .i64 0, .int .i64 1, .int .i64 0, .slice none 0 0, .slice none 0 0, .slice none 0 0, .slice co n c], .int .i64 2] w fun e w' => e = .returned (.bool true) ∧ Exts w w' := by
  have H := Lib.hid h
  have HH := Lib.hid hh
  clear h hh
  go_enter Tryz.func37, Tryz.ntmps37
  go_wp2_with (first | (go_at_call 46; ((with_reducible refine (may46 lb a1 a2 pb vb _ (H.out.exts (by repeat (first | exact Exts.refl _ | apply Exts.andR | apply Exts.alloc | apply Exts.wext | apply Exts.drew | apply Exts.drewN))) (HH.out.exts (by repeat (first | exact Exts.refl _ | apply Exts.andR | apply Exts.alloc | apply Exts.wext | apply Exts.drew | apply Exts.drewN)))).mono ?_); rintro e w' ⟨rfl, y1, rfl⟩)))
  go_ret
  exact ⟨rfl, (by repeat (first | exact Exts.refl _ | apply Exts.andR | apply Exts.alloc | apply Exts.wext | apply Exts.drew | apply Exts.drewN))⟩
theorem attacks24_0 (k : Int) (w : World) : Calls Tryz.prog 24 #[.slice none 0 0, .int .i64 k] w fun e w' => e = .returned (.bool true) ∧ Exts w w' := by
  go_enter Tryz.func24, Tryz.ntmps24
  go_wp2_with (first | (refine wp_loop_rounds 6 ?_; rw [rounds_succ]) | (rw [rounds_succ]))
  go_ret
  exact ⟨rfl, (by repeat (first | exact Exts.refl _ | apply Exts.andR | apply Exts.alloc | apply Exts.wext | apply Exts.drew | apply Exts.drewN))⟩
theorem attacks24_1 (b : Nat) (k m : Int) (w : World) (c0 : w.cell? ⟨b, 0, none⟩ = some (.int .i64 k)) (h0 : 0 ≤ k) (hm : k < m) : Calls Tryz.prog 24 #[.slice (some ⟨b, 0, none⟩) 1 1, .int .i64 m] w fun e w' => e = .returned (.bool true) ∧ Exts w w' := by
  have l : b < w.heap.size := World.block_lt_of_cell? w _ c0
  have q1 : decide (k ≤ (-1 : Int)) = false := by simp; omega
  have q2 : decide (m ≤ k) = false := by simp; omega
  clear h0 hm
  go_enter Tryz.func24, Tryz.ntmps24
  go_wp2_with (first | (refine wp_loop_rounds 6 ?_; rw [rounds_succ]) | (rw [rounds_succ]))
  go_ret
  exact ⟨rfl, (by repeat (first | exact Exts.refl _ | apply Exts.andR | apply Exts.alloc | apply Exts.wext | apply Exts.drew | apply Exts.drewN))⟩
end Go.Proofs.YtgmjcgjbbogefaaGreat

/- hearing: the table of citations; formed and True for a claim that cites nothing. -/
namespace Go.Proofs.YtgmjcgjbbogefaaGreat
open Go.RowKit Go.Maps Go.Instr
set_option linter.unusedSimpArgs false
set_option linter.unusedVariables false
set_option maxRecDepth 100000
set_option maxHeartbeats 8000000
theorem map_put {w : World} {b t k : Nat} {e : TypeId} {es : Array MapEntry} {key : Int} {val : Value} (ht : Tryz.prog.underlying t = some (.map 3 e)) (hb : w.heap[b]? = some (.map es k)) (hi : I64 key) (hf : findNow (.int .i64) (.int .i64 key) es.toList 0 = some none) :
    (Instr.mapUpdate t (.map (some b)) (.int .i64 key) val).run Tryz.prog w = .ok () (Go.ChangeMaps.setBlock w b (.map (es.push ⟨.int .i64 key, val, k⟩) (k + 1))) := by
  simp [Instr.mapUpdate, run_underlying ht, MapKept.run_getObj_map hb, lawI.check w false (key_int hi), Instr.findKey, run_underlying Tryz.underlying3, hf, MapKept.run_setObj_map _ hb, Result.andThen, Go.ChangeMaps.setBlock]
theorem map_look {w : World} {b t k i : Nat} {e : TypeId} {es : Array MapEntry} {key : Int} {v : Value} (ht : Tryz.prog.underlying t = some (.map 3 e)) (hb : w.heap[b]? = some (.map es k)) (hi : I64 key) (hf : findNow (.int .i64) (.int .i64 key) es.toList 0 = some (some (i, v))) :
    (Instr.lookup t (.map (some b)) (.int .i64 key) true).run Tryz.prog w = .ok (.tuple #[v, .bool true]) w := by
  simp [Instr.lookup, run_underlying ht, MapKept.run_getObj_map hb, lawI.check w _ (key_int hi), Instr.findKey, run_underlying Tryz.underlying3, hf, Result.andThen]
theorem heap_top (W : World) (o : Obj) : (W.alloc o).heap[W.heap.size]? = some o := by
  show (W.heap.push o)[W.heap.size]? = some o
  simp
theorem heap_top1 (w : World) (c : Obj) (o : Obj) : ((w.alloc c).alloc o).heap[w.heap.size + 1]? = some o := by
  have h := heap_top (w.alloc c) o
  rwa [show (w.alloc c).heap.size = w.heap.size + 1 from by show (w.heap.push c).size = _; simp] at h
theorem set_top (w : World) (c o o' : Obj) : Go.ChangeMaps.setBlock ((w.alloc c).alloc o) (w.heap.size + 1) o' = (w.alloc c).alloc o' := by
  show ({ w with heap := ((w.heap.push c).push o).set! (w.heap.size + 1) o' } : World) = { w with heap := (w.heap.push c).push o' }
  congr 1
  apply Array.ext_getElem?
  intro k
  simp [Array.getElem?_push, Array.getElem?_setIfInBounds]
  grind
theorem put_top {w : World} {c : Array Value} {es : Array MapEntry} {k : Nat} {key : Int} (hi : I64 key) (hf : findNow (.int .i64) (.int .i64 key) es.toList 0 = some none) (v : Value) :
    (Instr.mapUpdate 129 (.map (some (w.heap.size + 1))) (.int .i64 key) v).run Tryz.prog ((w.alloc (.cells c 70)).alloc (.map es k)) = .ok () ((w.alloc (.cells c 70)).alloc (.map (es.push ⟨.int .i64 key, v, k⟩) (k + 1))) := by
  rw [map_put (t := 129) (e := 127) Tryz.underlying129 (heap_top1 w _ _) hi hf, set_top]

theorem citations47 (lb pb : Nat) (co : Option Addr) (n c : Nat) (w : World) : Calls Tryz.prog 47 #[.agg #[.slice none 0 0, .slice none 0 0, .slice none 0 0, .slice none 0 0, .slice none 0 0, .slice none 0 0, .slice none 0 0, .int .i64 0, .slice (some ⟨lb, 0, none⟩) 2 2, .slice none 0 0, .slice none 0 0, .slice none 0 0, .slice none 0 0, .int .i64 1, .slice (some ⟨pb, 0, none⟩) 1 1, .int .i64 0, .int .i64 1, .int .i64 0, .slice none 0 0, .slice none 0 0, .slice none 0 0, .slice co n c]] w fun e w' => ∃ b k es, e = .returned (.map (some b)) ∧ Exts w w' ∧ w'.heap[b]? = some (.map es k) ∧ findNow (.int .i64) (.int .i64 0) es.toList 0 = some (some (0, .agg #[.func (.func 58) #[] #[], .func (.func 58) #[] #[]])) := by
  have hmf : ∀ (fn : Fn) (first cap : Array Value) (w : World), (Instr.makeFunc fn first cap).run Tryz.prog w = .ok (.func fn first cap) w := fun _ _ _ _ => rfl
  have hmm := @run_makeMap Tryz.prog
  have p0 := fun c v => put_top (w := w) (c := c) (es := #[]) (k := 0) (key := 0) (by constructor <;> decide) rfl v
  have p1 := fun c v v0 => put_top (w := w) (c := c) (es := #[⟨.int .i64 0, v0, 0⟩]) (k := 1) (key := 1) (by constructor <;> decide) rfl v
  have p2 := fun c v v0 v1 => put_top (w := w) (c := c) (es := #[⟨.int .i64 0, v0, 0⟩, ⟨.int .i64 1, v1, 1⟩]) (k := 2) (key := 2) (by constructor <;> decide) rfl v
  have p3 := fun c v v0 v1 v2 => put_top (w := w) (c := c) (es := #[⟨.int .i64 0, v0, 0⟩, ⟨.int .i64 1, v1, 1⟩, ⟨.int .i64 2, v2, 2⟩]) (k := 3) (key := 3) (by constructor <;> decide) rfl v
  simp only [List.push_toArray, List.nil_append, List.cons_append, Nat.zero_add, Nat.reduceAdd] at p0 p1 p2 p3
  go_enter Tryz.func47, Tryz.ntmps47
  go_wp2
  go_ret
  refine ⟨_, _, _, rfl, (by repeat (first | exact Exts.refl _ | apply Exts.andR | apply Exts.alloc | apply Exts.wext | apply Exts.drew | apply Exts.drewN)), heap_top1 _ _ _, rfl⟩
end Go.Proofs.YtgmjcgjbbogefaaGreat

/- hearing: formed and True for a claim that cites nothing. -/
namespace Go.Proofs.YtgmjcgjbbogefaaGreat
open Go.RowKit Go.Maps Go.Instr
set_option linter.unusedSimpArgs false
set_option linter.unusedVariables false
set_option maxRecDepth 100000
set_option maxHeartbeats 8000000
theorem heap_past {w : World} {b : Nat} {o : Obj} {c : Array Value} (h : w.heap[b]? = some o) : (w.alloc (.cells c 127)).heap[b]? = some o := by
  show (w.heap.push _)[b]? = some o
  rw [Array.getElem?_push, h, if_neg]
  intro e
  rw [e] at h
  simp at h
theorem okF58 (x0 x1 x2 x3 x4 x5 : Value) (w : World) : Calls Tryz.prog 58 #[.agg #[x0, x1, x2, x3, x4, x5]] w fun e w' => e = .returned (.bool true) ∧ Exts w w' := by
  go_enter Tryz.func58, Tryz.ntmps58
  go_wp2
  go_ret
  exact ⟨rfl, (by repeat (first | exact Exts.refl _ | apply Exts.andR | apply Exts.alloc | apply Exts.wext | apply Exts.drew | apply Exts.drewN))⟩
theorem formed38_0 (lb pb : Nat) (co : Option Addr) (n c : Nat) (p d m : Int) (s : ByteArray) (w : World) : Calls Tryz.prog 38 #[.agg #[.slice none 0 0, .slice none 0 0, .slice none 0 0, .slice none 0 0, .slice none 0 0, .slice none 0 0, .slice none 0 0, .int .i64 0, .slice (some ⟨lb, 0, none⟩) 2 2, .slice none 0 0, .slice none 0 0, .slice none 0 0, .slice none 0 0, .int .i64 1, .slice (some ⟨pb, 0, none⟩) 1 1, .int .i64 0, .int .i64 1, .int .i64 0, .slice none 0 0, .slice none 0 0, .slice none 0 0, .slice co n c], .agg #[.int .i64 p, .int .i64 d, .slice none 0 0, .int .i64 0, .string s, .int .i64 m]] w fun e w' => e = .returned (.bool true) ∧ Exts w w' := by
  go_enter Tryz.func38, Tryz.ntmps38
  go_wp2
  go_region_with (first | (go_at_call 47; ((with_reducible refine (citations47 _ _ _ _ _ _).mono ?_); rintro e w' ⟨mb, mk, es, rfl, ⟨x1, rfl⟩, hb, hf⟩; (have hl := map_look (t := 129) (e := 127) Tryz.underlying129 hb (by constructor <;> decide) hf); (have hl2 := fun c => map_look (t := 129) (e := 127) Tryz.underlying129 (heap_past (c := c) hb) (by constructor <;> decide) hf); (try simp only [wext_of_drew] at hl hl2); clear hb hf)))
  all_goals (
    clear hl hl2
    go_wp2_with (first | (go_at_call 24; ((with_reducible refine (attacks24_0 _ _).mono ?_); rintro e w' ⟨rfl, x2, rfl⟩)) | (go_at_call 58; ((with_reducible refine (okF58 _ _ _ _ _ _ _).mono ?_); rintro e w' ⟨rfl, x3, rfl⟩)))
    go_ret
    exact ⟨rfl, (by repeat (first | exact Exts.refl _ | apply Exts.andR | apply Exts.alloc | apply Exts.wext | apply Exts.drew | apply Exts.drewN))⟩)
theorem formed38_1 (lb pb ab : Nat) (co : Option Addr) (n c : Nat) (p d m k : Int) (s : ByteArray) (w : World) (c0 : w.cell? ⟨ab, 0, none⟩ = some (.int .i64 k)) (h0 : 0 ≤ k) (hm : k < n) : Calls Tryz.prog 38 #[.agg #[.slice none 0 0, .slice none 0 0, .slice none 0 0, .slice none 0 0, .slice none 0 0, .slice none 0 0, .slice none 0 0, .int .i64 0, .slice (some ⟨lb, 0, none⟩) 2 2, .slice none 0 0, .slice none 0 0, .slice none 0 0, .slice none 0 0, .int .i64 1, .slice (some ⟨pb, 0, none⟩) 1 1, .int .i64 0, .int .i64 1, .int .i64 0, .slice none 0 0, .slice none 0 0, .slice none 0 0, .slice co n c], .agg #[.int .i64 p, .int .i64 d, .slice (some ⟨ab, 0, none⟩) 1 1, .int .i64 0, .string s, .int .i64 m]] w fun e w' => e = .returned (.bool true) ∧ Exts w w' := by
  have C0 := Lib.hid c0
  have H0 := Lib.hid h0
  have HM := Lib.hid hm
  clear c0 h0 hm
  go_enter Tryz.func38, Tryz.ntmps38
  go_wp2
  go_region_with (first | (go_at_call 47; ((with_reducible refine (citations47 _ _ _ _ _ _).mono ?_); rintro e w' ⟨mb, mk, es, rfl, ⟨x1, rfl⟩, hb, hf⟩; (have hl := map_look (t := 129) (e := 127) Tryz.underlying129 hb (by constructor <;> decide) hf); (have hl2 := fun c => map_look (t := 129) (e := 127) Tryz.underlying129 (heap_past (c := c) hb) (by constructor <;> decide) hf); (try simp only [wext_of_drew] at hl hl2); clear hb hf)))
  all_goals (
    clear hl hl2
    go_wp2_with (first | (go_at_call 24; ((with_reducible refine (attacks24_1 _ k _ _ (Exts.cell (by repeat (first | exact Exts.refl _ | apply Exts.andR | apply Exts.alloc | apply Exts.wext | apply Exts.drew | apply Exts.drewN)) C0.out) H0.out HM.out).mono ?_); rintro e w' ⟨rfl, x2, rfl⟩)) | (go_at_call 58; ((with_reducible refine (okF58 _ _ _ _ _ _ _).mono ?_); rintro e w' ⟨rfl, x3, rfl⟩)))
    go_ret
    exact ⟨rfl, (by repeat (first | exact Exts.refl _ | apply Exts.andR | apply Exts.alloc | apply Exts.wext | apply Exts.drew | apply Exts.drewN))⟩)
theorem true39 (lb pb : Nat) (co : Option Addr) (n c : Nat) (p d m : Int) (a : Value) (s : ByteArray) (w : World) : Calls Tryz.prog 39 #[.agg #[.slice none 0 0, .slice none 0 0, .slice none 0 0, .slice none 0 0, .slice none 0 0, .slice none 0 0, .slice none 0 0, .int .i64 0, .slice (some ⟨lb, 0, none⟩) 2 2, .slice none 0 0, .slice none 0 0, .slice none 0 0, .slice none 0 0, .int .i64 1, .slice (some ⟨pb, 0, none⟩) 1 1, .int .i64 0, .int .i64 1, .int .i64 0, .slice none 0 0, .slice none 0 0, .slice none 0 0, .slice co n c], .agg #[.int .i64 p, .int .i64 d, a, .int .i64 0, .string s, .int .i64 m]] w fun e w' => e = .returned (.bool true) ∧ Exts w w' := by
  go_enter Tryz.func39, Tryz.ntmps39
  go_wp2
  go_region_with (first | (go_at_call 47; ((with_reducible refine (citations47 _ _ _ _ _ _).mono ?_); rintro e w' ⟨mb, mk, es, rfl, ⟨x1, rfl⟩, hb, hf⟩; (have hl := map_look (t := 129) (e := 127) Tryz.underlying129 hb (by constructor <;> decide) hf); (have hl2 := fun c => map_look (t := 129) (e := 127) Tryz.underlying129 (heap_past (c := c) hb) (by constructor <;> decide) hf); (try simp only [wext_of_drew] at hl hl2); clear hb hf)))
  all_goals (
    clear hl hl2
    go_wp2_with (first | (go_at_call 58; ((with_reducible refine (okF58 _ _ _ _ _ _ _).mono ?_); rintro e w' ⟨rfl, x3, rfl⟩)))
    go_ret
    exact ⟨rfl, (by repeat (first | exact Exts.refl _ | apply Exts.andR | apply Exts.alloc | apply Exts.wext | apply Exts.drew | apply Exts.drewN))⟩)
end Go.Proofs.YtgmjcgjbbogefaaGreat

/- make of small slices: laws for the walk. (printed by gen_mk.py) -/
namespace Go.Proofs.YtgmjcgjbbogefaaGreat
open Go.RowKit Go.Maps Go.Instr
set_option linter.unusedSimpArgs false
set_option linter.unusedVariables false
set_option maxRecDepth 100000
theorem infoM4 : (Tryz.prog.info? 4).map (fun i => (i.zero, i.size, i.bytes)) = some (some (.bool false), 1, 1) := by kernel_rfl
@[go_sem] theorem mk4_2 (w : World) : (Instr.makeSlice 97 (.int .i64 2) (.int .i64 2)).run Tryz.prog w = .ok (.slice (some ⟨w.heap.size, 0, none⟩) 2 2) (w.alloc (.cells #[.bool false, .bool false] 4)) := by
  obtain ⟨i0, hi, hz0, hz1, hz2⟩ := info_parts infoM4
  have h := run_make (P := Tryz.prog) w 97 4 i0 _ Tryz.underlying97 hi hz0 .i64 .i64 2 2 (by decide) (by decide) (by rw [hz2]; decide) (by decide)
  rw [hz1, show madeCells (Value.cells (.bool false)) (Int.toNat 2 * 1) = #[.bool false, .bool false] by kernel_rfl] at h
  exact h
@[go_sem] theorem mk4_3 (w : World) : (Instr.makeSlice 97 (.int .i64 3) (.int .i64 3)).run Tryz.prog w = .ok (.slice (some ⟨w.heap.size, 0, none⟩) 3 3) (w.alloc (.cells #[.bool false, .bool false, .bool false] 4)) := by
  obtain ⟨i0, hi, hz0, hz1, hz2⟩ := info_parts infoM4
  have h := run_make (P := Tryz.prog) w 97 4 i0 _ Tryz.underlying97 hi hz0 .i64 .i64 3 3 (by decide) (by decide) (by rw [hz2]; decide) (by decide)
  rw [hz1, show madeCells (Value.cells (.bool false)) (Int.toNat 3 * 1) = #[.bool false, .bool false, .bool false] by kernel_rfl] at h
  exact h
theorem infoM3 : (Tryz.prog.info? 3).map (fun i => (i.zero, i.size, i.bytes)) = some (some (.int .i64 0), 1, 8) := by kernel_rfl
@[go_sem] theorem mk3_2 (w : World) : (Instr.makeSlice 24 (.int .i64 2) (.int .i64 2)).run Tryz.prog w = .ok (.slice (some ⟨w.heap.size, 0, none⟩) 2 2) (w.alloc (.cells #[.int .i64 0, .int .i64 0] 3)) := by
  obtain ⟨i0, hi, hz0, hz1, hz2⟩ := info_parts infoM3
  have h := run_make (P := Tryz.prog) w 24 3 i0 _ Tryz.underlying24 hi hz0 .i64 .i64 2 2 (by decide) (by decide) (by rw [hz2]; decide) (by decide)
  rw [hz1, show madeCells (Value.cells (.int .i64 0)) (Int.toNat 2 * 1) = #[.int .i64 0, .int .i64 0] by kernel_rfl] at h
  exact h
@[go_sem] theorem mk3_3 (w : World) : (Instr.makeSlice 24 (.int .i64 3) (.int .i64 3)).run Tryz.prog w = .ok (.slice (some ⟨w.heap.size, 0, none⟩) 3 3) (w.alloc (.cells #[.int .i64 0, .int .i64 0, .int .i64 0] 3)) := by
  obtain ⟨i0, hi, hz0, hz1, hz2⟩ := info_parts infoM3
  have h := run_make (P := Tryz.prog) w 24 3 i0 _ Tryz.underlying24 hi hz0 .i64 .i64 3 3 (by decide) (by decide) (by rw [hz2]; decide) (by decide)
  rw [hz1, show madeCells (Value.cells (.int .i64 0)) (Int.toNat 3 * 1) = #[.int .i64 0, .int .i64 0, .int .i64 0] by kernel_rfl] at h
  exact h
theorem infoM24 : (Tryz.prog.info? 24).map (fun i => (i.zero, i.size, i.bytes)) = some (some (.slice none 0 0), 1, 24) := by kernel_rfl
@[go_sem] theorem mk24_2 (w : World) : (Instr.makeSlice 116 (.int .i64 2) (.int .i64 2)).run Tryz.prog w = .ok (.slice (some ⟨w.heap.size, 0, none⟩) 2 2) (w.alloc (.cells #[.slice none 0 0, .slice none 0 0] 24)) := by
  obtain ⟨i0, hi, hz0, hz1, hz2⟩ := info_parts infoM24
  have h := run_make (P := Tryz.prog) w 116 24 i0 _ Tryz.underlying116 hi hz0 .i64 .i64 2 2 (by decide) (by decide) (by rw [hz2]; decide) (by decide)
  rw [hz1, show madeCells (Value.cells (.slice none 0 0)) (Int.toNat 2 * 1) = #[.slice none 0 0, .slice none 0 0] by kernel_rfl] at h
  exact h
@[go_sem] theorem mk24_3 (w : World) : (Instr.makeSlice 116 (.int .i64 3) (.int .i64 3)).run Tryz.prog w = .ok (.slice (some ⟨w.heap.size, 0, none⟩) 3 3) (w.alloc (.cells #[.slice none 0 0, .slice none 0 0, .slice none 0 0] 24)) := by
  obtain ⟨i0, hi, hz0, hz1, hz2⟩ := info_parts infoM24
  have h := run_make (P := Tryz.prog) w 116 24 i0 _ Tryz.underlying116 hi hz0 .i64 .i64 3 3 (by decide) (by decide) (by rw [hz2]; decide) (by decide)
  rw [hz1, show madeCells (Value.cells (.slice none 0 0)) (Int.toNat 3 * 1) = #[.slice none 0 0, .slice none 0 0, .slice none 0 0] by kernel_rfl] at h
  exact h
theorem infoM66 : (Tryz.prog.info? 66).map (fun i => (i.zero, i.size, i.bytes)) = some (some (.agg #[.int .i64 0, .int .i64 0, .slice none 0 0, .int .i64 0, .string ByteArray.empty, .int .i64 0]), 6, 72) := by kernel_rfl
@[go_sem] theorem mk66_2 (w : World) : (Instr.makeSlice 67 (.int .i64 2) (.int .i64 2)).run Tryz.prog w = .ok (.slice (some ⟨w.heap.size, 0, none⟩) 2 2) (w.alloc (.cells #[.int .i64 0, .int .i64 0, .slice none 0 0, .int .i64 0, .string ByteArray.empty, .int .i64 0, .int .i64 0, .int .i64 0, .slice none 0 0, .int .i64 0, .string ByteArray.empty, .int .i64 0] 66)) := by
  obtain ⟨i0, hi, hz0, hz1, hz2⟩ := info_parts infoM66
  have h := run_make (P := Tryz.prog) w 67 66 i0 _ Tryz.underlying67 hi hz0 .i64 .i64 2 2 (by decide) (by decide) (by rw [hz2]; decide) (by decide)
  rw [hz1, show madeCells (Value.cells (.agg #[.int .i64 0, .int .i64 0, .slice none 0 0, .int .i64 0, .string ByteArray.empty, .int .i64 0])) (Int.toNat 2 * 6) = #[.int .i64 0, .int .i64 0, .slice none 0 0, .int .i64 0, .string ByteArray.empty, .int .i64 0, .int .i64 0, .int .i64 0, .slice none 0 0, .int .i64 0, .string ByteArray.empty, .int .i64 0] by kernel_rfl] at h
  exact h
@[go_sem] theorem mk66_3 (w : World) : (Instr.makeSlice 67 (.int .i64 3) (.int .i64 3)).run Tryz.prog w = .ok (.slice (some ⟨w.heap.size, 0, none⟩) 3 3) (w.alloc (.cells #[.int .i64 0, .int .i64 0, .slice none 0 0, .int .i64 0, .string ByteArray.empty, .int .i64 0, .int .i64 0, .int .i64 0, .slice none 0 0, .int .i64 0, .string ByteArray.empty, .int .i64 0, .int .i64 0, .int .i64 0, .slice none 0 0, .int .i64 0, .string ByteArray.empty, .int .i64 0] 66)) := by
  obtain ⟨i0, hi, hz0, hz1, hz2⟩ := info_parts infoM66
  have h := run_make (P := Tryz.prog) w 67 66 i0 _ Tryz.underlying67 hi hz0 .i64 .i64 3 3 (by decide) (by decide) (by rw [hz2]; decide) (by decide)
  rw [hz1, show madeCells (Value.cells (.agg #[.int .i64 0, .int .i64 0, .slice none 0 0, .int .i64 0, .string ByteArray.empty, .int .i64 0])) (Int.toNat 3 * 6) = #[.int .i64 0, .int .i64 0, .slice none 0 0, .int .i64 0, .string ByteArray.empty, .int .i64 0, .int .i64 0, .int .i64 0, .slice none 0 0, .int .i64 0, .string ByteArray.empty, .int .i64 0, .int .i64 0, .int .i64 0, .slice none 0 0, .int .i64 0, .string ByteArray.empty, .int .i64 0] by kernel_rfl] at h
  exact h
end Go.Proofs.YtgmjcgjbbogefaaGreat
