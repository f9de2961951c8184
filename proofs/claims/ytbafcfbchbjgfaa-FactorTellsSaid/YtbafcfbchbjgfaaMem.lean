/- Slices that read as rows of cells: how such a reading is kept when new blocks come, or another row is written. No program in sight, but for the names. -/
import Derived.Test.YtbafcfbchbjgfaaExt
import Derived.Laws.AppendOwnNone
import Derived.Deep.Slices
import Derived.Deep.Fields
import Derived.ChangeSame
namespace Go.Proofs.Ytbafcfbchbjgfaa
open Go.RowKit

/-- v is a slice of n elements of k cells each, whose cells are xs; its block is one of S. -/
def RowF (S : Nat → Prop) (k : Nat) (w : World) (v : Value) (n : Nat) (xs : List Value) : Prop :=
  xs.length = n * k ∧ ∃ ao cap, v = .slice ao n cap ∧ n ≤ cap ∧ cap ≤ maxLen ∧ (ao = none → cap = 0) ∧
    (0 < n → ∃ b off, ao = some ⟨b, off, none⟩ ∧ S b ∧ b < w.heap.size ∧ ∀ t c, xs[t]? = some c → w.cell? ⟨b, off + t, none⟩ = some c)

section
variable {S : Nat → Prop} {k : Nat} {w w' : World} {v : Value} {n : Nat} {xs : List Value}

theorem RowF.of_keep (h : RowF S k w v n xs) (hs : w.heap.size ≤ w'.heap.size) (hc : ∀ b, v.ownBlock = some b → S b → b < w.heap.size → w'.heap[b]? = w.heap[b]?) : RowF S k w' v n xs := by
  obtain ⟨h1, ao, cap, rfl, h2, h3, h4, h5⟩ := h
  refine ⟨h1, ao, cap, rfl, h2, h3, h4, fun hn => ?_⟩
  obtain ⟨b, off, rfl, hS, hb, hx⟩ := h5 hn
  refine ⟨b, off, rfl, hS, by omega, fun t c ht => ?_⟩
  rw [World.cell?_of_block (hc b rfl hS hb)]
  exact hx t c ht

theorem RowF.mono {S' : Nat → Prop} (h : RowF S k w v n xs) (hS : ∀ b, S b → S' b) : RowF S' k w v n xs := by
  obtain ⟨h1, ao, cap, rfl, h2, h3, h4, h5⟩ := h
  refine ⟨h1, ao, cap, rfl, h2, h3, h4, fun hn => ?_⟩
  obtain ⟨b, off, rfl, hb, hx⟩ := h5 hn
  exact ⟨b, off, rfl, hS b hb, hx⟩

theorem RowF.exts (h : RowF S k w v n xs) (he : Exts w w') : RowF S k w' v n xs :=
  h.of_keep he.below.size (fun b _ _ hb => he.below.block b hb)

theorem RowF.grown {row : Option Nat} (h : RowF S k w v n xs) (hg : w.grownBy w' row) (hne : v.ownBlock = none ∨ v.ownBlock ≠ row) : RowF S k w' v n xs :=
  h.of_keep hg.size (fun b hb _ hlt => hg.block b hlt (by
    rcases hne with h0 | h0
    · rw [h0] at hb; cases hb
    · rw [← hb]; exact h0))

theorem RowF.len (h : RowF S k w v n xs) : xs.length = n * k := h.1
theorem RowF.nle (h : RowF S k w v n xs) : n ≤ maxLen := by
  obtain ⟨_, ao, cap, rfl, h2, h3, _⟩ := h
  omega

/-- What an append or a make leaves. -/
theorem RowF.of_owns {base : Nat} {e : TypeId} (h : w.ownsRow base e k v n xs) : RowF (fun b => base ≤ b) k w v n xs := by
  obtain ⟨h1, h2 | ⟨g, cap, cur, rfl, hb, hg, h3, h4, h5, h6⟩⟩ := h
  · obtain ⟨rfl, rfl⟩ := h2
    exact ⟨h1, none, 0, rfl, Nat.le_refl _, Nat.zero_le _, fun _ => rfl, fun h => by omega⟩
  · refine ⟨h1, some ⟨g, 0, none⟩, cap, rfl, h3, h4, (fun h => by cases h), fun hn => ⟨g, 0, rfl, hb, (Array.getElem?_eq_some_iff.1 hg).1, fun t c ht => ?_⟩⟩
    have hg' : w.heap[g]? = some (.cells cur e (0, 0)) := hg
    simp only [World.cell?, hg', Nat.zero_add]
    rw [← h6, List.getElem?_take] at ht
    split at ht
    · simpa using ht
    · cases ht

theorem RowF.nil (S : Nat → Prop) (k : Nat) (w : World) : RowF S k w (.slice none 0 0) 0 [] :=
  ⟨by simp, none, 0, rfl, Nat.le_refl _, Nat.zero_le _, fun _ => rfl, fun h => by omega⟩

theorem exts_of_grown {row : Option Nat} {W : World} (he : Exts W w) (hg : w.grownBy w' row) (hr : ∀ b, row = some b → W.heap.size ≤ b) : Exts W w' := by
  apply Exts.of_below
  exact he.below.grown hg he.below.size hr
end

theorem grownBy_exts {w w' : World} (h : Exts w w') (row : Option Nat) : w.grownBy w' row :=
  ⟨h.below.os, h.below.tape, h.below.output, h.below.size, fun b hb _ => h.below.block b hb⟩
theorem ownsRow_exts {w w' : World} {base : Nat} {e : TypeId} {k n : Nat} {v : Value} {xs : List Value} (h : w.ownsRow base e k v n xs) (he : Exts w w') : w'.ownsRow base e k v n xs :=
  h.kept (grownBy_exts he none) (by cases hv : v.ownBlock <;> simp)

/-- The blocks from B on are as they were: what is read from those alone reads as it did. -/
def Keeps (B : Nat) (w w' : World) : Prop := w.heap.size ≤ w'.heap.size ∧ ∀ b, B ≤ b → b < w.heap.size → w'.heap[b]? = w.heap[b]?
theorem Keeps.refl (B : Nat) (w : World) : Keeps B w w := ⟨Nat.le_refl _, fun _ _ _ => rfl⟩
theorem Keeps.trans {B : Nat} {a b c : World} (h : Keeps B a b) (h' : Keeps B b c) : Keeps B a c :=
  ⟨Nat.le_trans h.1 h'.1, fun k hk hlt => (h'.2 k hk (Nat.lt_of_lt_of_le hlt h.1)).trans (h.2 k hk hlt)⟩
theorem Keeps.exts {B : Nat} {a b c : World} (h : Keeps B a b) (h' : Exts b c) : Keeps B a c :=
  h.trans ⟨h'.below.size, fun k _ hlt => h'.below.block k hlt⟩
theorem Keeps.base {B : Nat} {a b : World} {x : Ex} (ha : a.heap.size = B) (hb : b.heap.size = B) : Keeps B (wext a x) (wext b x) := by
  refine ⟨by simp [ha, hb], fun k hk hlt => ?_⟩
  simp only [wext, Array.getElem?_append]
  rw [if_neg (by omega), if_neg (by omega), ha, hb]
theorem Keeps.alloc {B : Nat} {a b : World} (h : Keeps B a b) (o : Obj) : Keeps B a (b.alloc o) := h.exts ((Exts.refl _).alloc o)
theorem Keeps.wext {B : Nat} {a b : World} (h : Keeps B a b) (x : Ex) : Keeps B a (Go.Proofs.Ytbafcfbchbjgfaa.wext b x) := h.exts ((Exts.refl _).wext x)
theorem Keeps.andR {B : Nat} {a b : World} {x : Ex} (h : Keeps B a (Go.Proofs.Ytbafcfbchbjgfaa.wext b x)) (y : Ex) : Keeps B a (Go.Proofs.Ytbafcfbchbjgfaa.wext b (x.and y)) := h.exts ((Exts.refl _).andR y)
theorem RowF.keeps {B : Nat} {k : Nat} {w w' : World} {v : Value} {n : Nat} {xs : List Value} (h : RowF (fun b => B ≤ b) k w v n xs) (he : Keeps B w w') : RowF (fun b => B ≤ b) k w' v n xs :=
  h.of_keep he.1 (fun b _ hS hb => he.2 b hS hb)

/-- Two worlds of one size that are alike from block B on. -/
def Alike (B : Nat) (a b : World) : Prop := a.heap.size = b.heap.size ∧ ∀ k, B ≤ k → b.heap[k]? = a.heap[k]?
theorem Alike.base {B : Nat} {a b : World} (ha : a.heap.size = B) (hb : b.heap.size = B) : Alike B a b :=
  ⟨by omega, fun k hk => by rw [Array.getElem?_eq_none (by omega), Array.getElem?_eq_none (by omega)]⟩
theorem Alike.alloc {B : Nat} {a b : World} (h : Alike B a b) (o : Obj) : Alike B (a.alloc o) (b.alloc o) := by
  refine ⟨by simp [h.1], fun k hk => ?_⟩
  simp only [World.alloc, Array.getElem?_push, h.1, h.2 k hk]
theorem Alike.wext {B : Nat} {a b : World} {x y : Ex} (h : Alike B a b) (hx : x.bs = y.bs) : Alike B (Go.Proofs.Ytbafcfbchbjgfaa.wext a x) (Go.Proofs.Ytbafcfbchbjgfaa.wext b y) := by
  refine ⟨by simp [h.1, hx], fun k hk => ?_⟩
  simp only [Go.Proofs.Ytbafcfbchbjgfaa.wext, Array.getElem?_append, h.1, hx, h.2 k hk]
theorem Alike.keeps {B : Nat} {a b : World} (h : Alike B a b) : Keeps B a b := ⟨Nat.le_of_eq h.1, fun k hk _ => h.2 k hk⟩
theorem Keeps.drew {B : Nat} {a b : World} (h : Keeps B a b) : Keeps B a b.drew := h.exts ((Exts.refl _).drew)
theorem RowF.up {k n B B' : Nat} {w : World} {v : Value} {xs : List Value} (h : RowF (fun b => B ≤ b) k w v n xs) (he : B' ≤ B) : RowF (fun b => B' ≤ b) k w v n xs := h.mono fun _ hb => Nat.le_trans he hb
theorem RowF.from {k n : Nat} {w0 W w : World} {v : Value} {xs : List Value} (h : RowF (fun b => W.heap.size ≤ b) k w v n xs) (he : Exts w0 W) : RowF (fun b => w0.heap.size ≤ b) k w v n xs := h.mono fun _ hb => Nat.le_trans he.below.size hb

/-- Lists of lists of one length, laid one behind the other. -/
theorem flatten_len {k : Nat} : ∀ (L : List (List Value)), (∀ l ∈ L, l.length = k) → L.flatten.length = L.length * k
  | [], _ => by simp
  | l :: L, h => by
    rw [List.flatten_cons, List.length_append, flatten_len L (fun l' hl => h l' (by simp [hl])), h l (by simp), List.length_cons, Nat.add_mul]
    omega

theorem flatten_at {k : Nat} : ∀ (L : List (List Value)), (∀ l ∈ L, l.length = k) → ∀ (i j : Nat), j < k → L.flatten[i * k + j]? = (L[i]?).bind (·[j]?)
  | [], _, i, j, _ => by simp
  | l :: L, h, 0, j, hj => by
    have := h l (by simp)
    rw [List.flatten_cons, List.getElem?_append_left (by omega)]
    simp
  | l :: L, h, i + 1, j, hj => by
    have hl := h l (by simp)
    rw [List.flatten_cons, List.getElem?_append_right (by rw [hl, Nat.add_mul]; omega), hl]
    have : (i + 1) * k + j - k = i * k + j := by rw [Nat.add_mul]; omega
    rw [this, flatten_at L (fun l' hl' => h l' (by simp [hl'])) i j hj]
    simp

/-- The slice x[from:], or any part of it. -/
theorem RowF.part {S : Nat → Prop} {k : Nat} {w : World} {ao : Option Addr} {n cap : Nat} {xs : List Value} (h : RowF S k w (.slice ao n cap) n xs) (lo m cap' : Nat) (hlo : lo + m ≤ n) (hm : m ≤ cap') (hcap : cap' ≤ maxLen)
    (ao' : Option Addr) (hao0 : ao' = none → cap' = 0) (hao : ∀ b off, ao = some ⟨b, off, none⟩ → 0 < m → ao' = some ⟨b, off + lo * k, none⟩) : RowF S k w (.slice ao' m cap') m ((xs.drop (lo * k)).take (m * k)) := by
  obtain ⟨h1, ao2, cap2, hv, h2, h3, h4, h5⟩ := h
  simp only [Value.slice.injEq, true_and] at hv
  obtain ⟨rfl, rfl⟩ := hv
  refine ⟨?_, ao', cap', rfl, hm, hcap, hao0, fun hm0 => ?_⟩
  · rw [List.length_take, List.length_drop, h1, ← Nat.sub_mul]
    rw [Nat.min_eq_left (Nat.mul_le_mul_right _ (by omega))]
  · obtain ⟨b, off, rfl, hS, hb, hx⟩ := h5 (by omega)
    refine ⟨b, off + lo * k, hao b off rfl hm0, hS, hb, fun t c ht => ?_⟩
    rw [List.getElem?_take] at ht
    split at ht
    · rw [List.getElem?_drop] at ht
      rw [Nat.add_assoc]
      exact hx _ _ ht
    · cases ht
end Go.Proofs.Ytbafcfbchbjgfaa
