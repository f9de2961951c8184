/- The phases of a right: what a slice of them reads as; a copy of them reads alike. Conditions: their numbers are small. -/
import Derived.Test.YtnpjagodbnpahaaClone
import Derived.Deep.RegionHeld3
namespace Go.Proofs.Ytnpjagodbnpahaa
open Go.RowKit
set_option linter.unusedSimpArgs false
set_option linter.unusedVariables false

abbrev Vol := Int × Int × Int × Int × Int × Int × Int × Int × Bool
abbrev Ent := ByteArray × Int
abbrev PhC := List Vol × List Ent
def volCells : Vol → List Value | (a, b, c, d, e, f, g, h, x) => [.int .i64 a, .int .i64 b, .int .i64 c, .int .i64 d, .int .i64 e, .int .i64 f, .int .i64 g, .int .i64 h, .bool x]
def entCells : Ent → List Value | (s, n) => [.string s, .int .i64 n]
def volFlat (l : List Vol) : List Value := (l.map volCells).flatten
def entFlat (l : List Ent) : List Value := (l.map entCells).flatten
def Vols (S : Nat → Prop) (w : World) (v : Value) (l : List Vol) : Prop := RowF S 9 w v l.length (volFlat l)
def Ents (S : Nat → Prop) (w : World) (v : Value) (l : List Ent) : Prop := RowF S 2 w v l.length (entFlat l)
/-- What every cell of phase i holds, and what that reads as. -/
def PhsAt (S : Nat → Prop) (w : World) (xs : List Value) (P : List PhC) : Prop := ∀ i p, P[i]? = some p → ∃ a b, xs[i * 2]? = some a ∧ xs[i * 2 + 1]? = some b ∧ Vols S w a p.1 ∧ Ents S w b p.2
def Phs (S : Nat → Prop) (w : World) (v : Value) (P : List PhC) : Prop := ∃ xs, RowF S 2 w v P.length xs ∧ PhsAt S w xs P
def Fits (P : List PhC) : Prop := P.length ≤ 100000 ∧ ∀ p, p ∈ P → p.1.length ≤ 100000 ∧ p.2.length ≤ 100000

theorem volFlat_one (l : List Vol) : ∀ u ∈ volFlat l, u.oneCell' = true := by
  intro u hu
  unfold volFlat at hu
  rw [List.mem_flatten] at hu
  obtain ⟨c, hc, hu⟩ := hu
  rw [List.mem_map] at hc
  obtain ⟨⟨a, b, c, d, e, f, g, h, x⟩, _, rfl⟩ := hc
  simp [volCells] at hu
  rcases hu with rfl | rfl | rfl | rfl | rfl | rfl | rfl | rfl | rfl <;> rfl
theorem entFlat_one (l : List Ent) : ∀ u ∈ entFlat l, u.oneCell' = true := by
  intro u hu
  unfold entFlat at hu
  rw [List.mem_flatten] at hu
  obtain ⟨c, hc, hu⟩ := hu
  rw [List.mem_map] at hc
  obtain ⟨⟨s, n⟩, _, rfl⟩ := hc
  simp [entCells] at hu
  rcases hu with rfl | rfl <;> rfl

section
variable {S S' : Nat → Prop} {w w' : World} {v : Value} {P : List PhC}
theorem Vols.exts {l : List Vol} (h : Vols S w v l) (he : Exts w w') : Vols S w' v l := RowF.exts h he
theorem Ents.exts {l : List Ent} (h : Ents S w v l) (he : Exts w w') : Ents S w' v l := RowF.exts h he
theorem PhsAt.exts {xs : List Value} (h : PhsAt S w xs P) (he : Exts w w') : PhsAt S w' xs P := fun i p hp =>
  let ⟨a, b, h1, h2, h3, h4⟩ := h i p hp
  ⟨a, b, h1, h2, h3.exts he, h4.exts he⟩
theorem Phs.exts (h : Phs S w v P) (he : Exts w w') : Phs S w' v P :=
  let ⟨xs, h1, h2⟩ := h
  ⟨xs, h1.exts he, h2.exts he⟩
theorem Phs.mono (h : Phs S w v P) (hS : ∀ b, S b → S' b) : Phs S' w v P :=
  let ⟨xs, h1, h2⟩ := h
  ⟨xs, h1.mono hS, fun i p hp =>
    let ⟨a, b, h1, h2, h3, h4⟩ := h2 i p hp
    ⟨a, b, h1, h2, RowF.mono h3 hS, RowF.mono h4 hS⟩⟩
theorem Phs.keeps {B : Nat} (h : Phs (fun b => B ≤ b) w v P) (he : Keeps B w w') : Phs (fun b => B ≤ b) w' v P :=
  let ⟨xs, h1, h2⟩ := h
  ⟨xs, h1.keeps he, fun i p hp =>
    let ⟨a, b, h1, h2, h3, h4⟩ := h2 i p hp
    ⟨a, b, h1, h2, RowF.keeps h3 he, RowF.keeps h4 he⟩⟩
theorem Phs.nil (S : Nat → Prop) (w : World) : Phs S w (.slice none 0 0) [] := ⟨[], RowF.nil S 2 w, fun i p hp => by simp at hp⟩
theorem Phs.any (h : Phs S w v P) : Phs (fun _ => True) w v P := h.mono fun _ _ => trivial
end
end Go.Proofs.Ytnpjagodbnpahaa
