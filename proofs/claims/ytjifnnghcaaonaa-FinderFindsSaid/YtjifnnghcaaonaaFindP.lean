/- Steps of a text, in plain Lean: what they tell. -/
import Derived.Test.YtjifnnghcaaonaaBytes
namespace Go.Proofs.Ytjifnnghcaaonaa.Fnd
open Go.RowKit
set_option linter.unusedVariables false
set_option linter.unusedSimpArgs false

structure Sq where
  lits : Int
  mat : Int
  back : Int
instance : Inhabited Sq := ⟨⟨0, 0, 0⟩⟩

def maxC : Nat := 16777216
/-- n bytes more, each the one that stands k behind. -/
def copyBack (k : Nat) : Nat → List UInt8 → List UInt8
  | 0, out => out
  | n + 1, out => copyBack k n (out ++ [out.getD (out.length - k) 0])
theorem copyBack_length (k : Nat) : ∀ (n : Nat) (out : List UInt8), (copyBack k n out).length = out.length + n
  | 0, _ => rfl
  | n + 1, out => by rw [copyBack, copyBack_length k n]; simp; omega

def Bad1 (s : Sq) (rest : Nat) : Prop := s.lits < 0 ∨ s.mat < 0 ∨ s.back < 0 ∨ (rest : Int) < s.lits
def Bad2 (s : Sq) (out1 : Nat) : Prop := (0 < s.mat ∧ (s.back = 0 ∨ (out1 : Int) < s.back)) ∨ (maxC : Int) - out1 < s.mat
instance (s : Sq) (n : Nat) : Decidable (Bad1 s n) := by unfold Bad1; infer_instance
instance (s : Sq) (n : Nat) : Decidable (Bad2 s n) := by unfold Bad2; infer_instance
/-- What steps make of a text's first bytes and of the bytes that stand behind; none: they are malformed. -/
def backGo : List Sq → List UInt8 → List UInt8 → Option (List UInt8)
  | [], out, _ => if maxC < out.length then none else some out
  | s :: l, out, rest =>
    if Bad1 s rest.length then none
    else if Bad2 s (out ++ rest.take s.lits.toNat).length then none
    else backGo l (copyBack s.back.toNat s.mat.toNat (out ++ rest.take s.lits.toNat)) (rest.drop s.lits.toNat)

inductive Tale
  | arg
  | malformed
  | ok (out : List UInt8)
def back (b : List UInt8) (from_ : Int) (l : List Sq) : Tale :=
  if from_ < 0 ∨ (b.length : Int) < from_ then .arg
  else match backGo l (b.take from_.toNat) (b.drop from_.toNat) with
    | none => .malformed
    | some out => .ok out

/-- A slice of steps that came in. -/
def SqRow (w : World) (B : Nat) (A : Option Addr) (l : List Sq) : Prop :=
  0 < l.length → ∃ b off, A = some ⟨b, off, none⟩ ∧ b < B ∧ ∀ k, k < l.length →
    w.cell? ⟨b, off + k * 3, none⟩ = some (.int .i64 (l.getD k default).lits) ∧ w.cell? ⟨b, off + k * 3 + 1, none⟩ = some (.int .i64 (l.getD k default).mat) ∧ w.cell? ⟨b, off + k * 3 + 2, none⟩ = some (.int .i64 (l.getD k default).back)
theorem SqRow.keep {w w' : World} {B : Nat} {A : Option Addr} {l : List Sq} (h : SqRow w B A l) (hk : ∀ b, b < B → w'.heap[b]? = w.heap[b]?) : SqRow w' B A l := by
  intro hn
  obtain ⟨b, off, rfl, hlt, hc⟩ := h hn
  refine ⟨b, off, rfl, hlt, fun k hk' => ?_⟩
  obtain ⟨h1, h2, h3⟩ := hc k hk'
  exact ⟨(World.cell?_of_block (a := ⟨b, off + k * 3, none⟩) (hk b hlt)).trans h1, (World.cell?_of_block (a := ⟨b, off + k * 3 + 1, none⟩) (hk b hlt)).trans h2, (World.cell?_of_block (a := ⟨b, off + k * 3 + 2, none⟩) (hk b hlt)).trans h3⟩
theorem SqRow.below {w w' : World} {B : Nat} {A : Option Addr} {l : List Sq} (h : SqRow w B A l) (hb : Below B w w') : SqRow w' B A l := h.keep fun b hb' => hb.block b hb'
theorem SqRow.more {w : World} {B B' : Nat} {A : Option Addr} {l : List Sq} (h : SqRow w B A l) (hB : B ≤ B') : SqRow w B' A l := by
  intro hn
  obtain ⟨b, off, rfl, hlt, hc⟩ := h hn
  exact ⟨b, off, rfl, by omega, hc⟩
/-- Numbers of an int. -/
def Sq.fits (s : Sq) : Prop := (-9223372036854775808 ≤ s.lits ∧ s.lits ≤ 9223372036854775807) ∧ (-9223372036854775808 ≤ s.mat ∧ s.mat ≤ 9223372036854775807) ∧ (-9223372036854775808 ≤ s.back ∧ s.back ≤ 9223372036854775807)
theorem min2_int {P : Program} (ts : Array TypeId) (t : TypeId) (x y n : Int) (h : min x y = n) (w : World) : (Builtin.min_ ts t #[.int .i64 x, .int .i64 y]).run P w = .ok (.int .i64 n) w := by
  have e : (if y < x then y else x) = n := by split <;> omega
  rw [← e]
  simp [Builtin.min_, Builtin.min2]
theorem max2_int {P : Program} (ts : Array TypeId) (t : TypeId) (x y n : Int) (h : max x y = n) (w : World) : (Builtin.max_ ts t #[.int .i64 x, .int .i64 y]).run P w = .ok (.int .i64 n) w := by
  have e : (if x < y then y else x) = n := by split <;> omega
  rw [← e]
  simp [Builtin.max_, Builtin.max2]
theorem min3_int {P : Program} (ts : Array TypeId) (t : TypeId) (x y z n : Int) (h : min x (min y z) = n) (w : World) : (Builtin.min_ ts t #[.int .i64 x, .int .i64 y, .int .i64 z]).run P w = .ok (.int .i64 n) w := by
  have e : (if z < (if y < x then y else x) then z else (if y < x then y else x)) = n := by split <;> split <;> omega
  rw [← e]
  simp [Builtin.min_, Builtin.min2]
end Go.Proofs.Ytjifnnghcaaonaa.Fnd
