/- A slice of acts of a coder (a place, a number, a count) that came in. -/
import Derived.Test.YtcnjbdaopphleaaOpen
namespace Go.Proofs.Ytcnjbdaopphleaa
open Go.RowKit
set_option linter.unusedVariables false
set_option linter.unusedSimpArgs false
structure RAct where
  at' : Int
  n : Nat
  many : Int
instance : Inhabited RAct := ⟨⟨0, 0, 0⟩⟩
structure RAct.Fits (x : RAct) : Prop where
  a : -9223372036854775808 ≤ x.at' ∧ x.at' ≤ 9223372036854775807
  n : x.n < 4294967296
  m : -9223372036854775808 ≤ x.many ∧ x.many ≤ 9223372036854775807
/-- The slice (A, its length) reads as the acts l, and lies below block B. -/
def RActRow (w : World) (B : Nat) (A : Option Addr) (l : List RAct) : Prop :=
  0 < l.length → ∃ b off, A = some ⟨b, off, none⟩ ∧ b < B ∧ ∀ k, k < l.length →
    w.cell? ⟨b, off + k * 3, none⟩ = some (.int .i64 (l.getD k default).at') ∧ w.cell? ⟨b, off + k * 3 + 1, none⟩ = some (.int .u32 (l.getD k default).n) ∧ w.cell? ⟨b, off + k * 3 + 2, none⟩ = some (.int .i64 (l.getD k default).many)
namespace Opn
open Go.ChangeShapes Go.WideShapes Go.Deep
section
variable {H : Type} {enc : TypeId × Value → H} {P : Program} {w : World}
theorem open_racts {t e t0 t1 : TypeId} {f0 f1 f2 : Field} {A : Option Addr} {len cap : Nat} {d : DataW H} {p : List MemPlace} (ht : P.underlying t = some (.slice e)) (he : P.underlying e = some (.struct #[f0, f1, f2]))
    (hone : oneCellFields P #[f0, f1, f2] = true) (hC : P.cellsOf e = 3) (e0 : f0.type = t0) (e1 : f1.type = t1) (e2 : f2.type = t0) (h0 : P.underlying t0 = some (.int .i64)) (h1 : P.underlying t1 = some (.int .u32))
    (h : DataW.Trod enc P w 0 (fun _ => true) true t (.slice A len cap) d p) :
    ∃ l : List RAct, len = l.length ∧ l.length ≤ cap ∧ cap ≤ maxLen ∧ RActRow w w.heap.size A l ∧ ∀ s ∈ l, s.Fits := by
  obtain ⟨fuel, hf⟩ := h
  rcases open_slice_fields ht he hone hC hf with ⟨hcs, _⟩ | ⟨x, l, c, m, hcs, hl, hm, hmm, hcell⟩
  · simp [Value.cells] at hcs
    obtain ⟨rfl, rfl, rfl⟩ := hcs
    exact ⟨[], rfl, Nat.le_refl _, Nat.zero_le _, fun h => absurd h (by simp), fun s hs => absurd hs (by simp)⟩
  · simp [Value.cells] at hcs
    obtain ⟨rfl, rfl, rfl⟩ := hcs
    simp only [if_true] at hmm
    subst hmm
    have key : ∀ i, i < len → ∃ z : RAct, w.cell? (x.add (i * 3)) = some (.int .i64 z.at') ∧ w.cell? (x.add (i * 3 + 1)) = some (.int .u32 z.n) ∧ w.cell? (x.add (i * 3 + 2)) = some (.int .i64 z.many) ∧ z.Fits := by
      intro i hi
      obtain ⟨n, hn⟩ := hcell i (by omega)
      obtain ⟨v0, y0, hc0, ht0⟩ := hn 0 f0 rfl
      obtain ⟨v1, y1, hc1, ht1⟩ := hn 1 f1 rfl
      obtain ⟨v2, y2, hc2, ht2⟩ := hn 2 f2 rfl
      rw [e0] at ht0; rw [e1] at ht1; rw [e2] at ht2
      obtain ⟨z0, hz0, _, hw0⟩ := DataW.trod_int h0 ht0
      obtain ⟨z1, hz1, _, hw1⟩ := DataW.trod_int h1 ht1
      obtain ⟨z2, hz2, _, hw2⟩ := DataW.trod_int h0 ht2
      simp only [List.cons.injEq, and_true] at hz0 hz1 hz2
      subst hz0; subst hz1; subst hz2
      have hb1 := bounds_u32 hw1
      have hb1a := hb1.1
      obtain ⟨m, rfl⟩ : ∃ m : Nat, z1 = m := ⟨z1.toNat, by omega⟩
      exact ⟨⟨z0, m, z2⟩, hc0, hc1, hc2, bounds_i64 hw0, by have := hb1.2; simp only; omega, bounds_i64 hw2⟩
    obtain ⟨q, hq⟩ := pick key
    refine ⟨(List.range len).map q, by simp, by simpa using hl, hm, fun hn => ?_, fun s hs => ?_⟩
    · simp only [List.length_map, List.length_range] at hn
      have hx0 := (hq 0 hn).1
      have hx := add_plain hx0
      refine ⟨x.block, x.off, by rw [← hx], lt_of_cell (a := x) (by simpa [Addr.add] using hx0), fun j hj => ?_⟩
      simp only [List.length_map, List.length_range] at hj
      obtain ⟨k0, k1, k2, _⟩ := hq j hj
      rw [hx, add_at] at k0 k1 k2
      have e : ((List.range len).map q).getD j default = q j := by simp [List.getD, hj]
      rw [e]
      exact ⟨k0, by rw [Nat.add_assoc]; exact k1, by rw [Nat.add_assoc]; exact k2⟩
    · obtain ⟨i, hi, rfl⟩ := List.mem_map.1 hs
      exact (hq i (List.mem_range.1 hi)).2.2.2
end
end Opn
end Go.Proofs.Ytcnjbdaopphleaa
