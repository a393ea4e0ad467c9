/- A slice of steps that came in. -/
import Derived.Test.YtjifnnghcaaonaaOpen
import Derived.Test.YtjifnnghcaaonaaFindP
namespace Go.Proofs.Ytjifnnghcaaonaa.Opn
open Go.ChangeShapes Go.WideShapes Go.Deep Go.RowKit Fnd
set_option linter.unusedVariables false
set_option linter.unusedSimpArgs false
section
variable {H : Type} {enc : TypeId × Value → H} {P : Program} {w : World}
theorem open_sqs {t e t0 : TypeId} {f0 f1 f2 : Field} {A : Option Addr} {len cap : Nat} {d : DataW H} {p : List MemPlace} (ht : P.underlying t = some (.slice e)) (he : P.underlying e = some (.struct #[f0, f1, f2]))
    (hone : oneCellFields P #[f0, f1, f2] = true) (hC : P.cellsOf e = 3) (e0 : f0.type = t0) (e1 : f1.type = t0) (e2 : f2.type = t0) (h0 : P.underlying t0 = some (.int .i64))
    (h : DataW.Trod enc P w 0 (fun _ => true) true t (.slice A len cap) d p) :
    ∃ l : List Sq, len = l.length ∧ l.length ≤ cap ∧ cap ≤ maxLen ∧ SqRow w w.heap.size A l ∧ ∀ s ∈ l, s.fits := by
  obtain ⟨fuel, hf⟩ := h
  rcases open_slice_fields ht he hone hC hf with ⟨hcs, _⟩ | ⟨x, l, c, m, hcs, hl, hm, hmm, hcell⟩
  · simp [Value.cells] at hcs
    obtain ⟨rfl, rfl, rfl⟩ := hcs
    exact ⟨[], rfl, Nat.le_refl _, Nat.zero_le _, fun h => absurd h (by simp), fun s hs => absurd hs (by simp)⟩
  · simp [Value.cells] at hcs
    obtain ⟨rfl, rfl, rfl⟩ := hcs
    simp only [if_true] at hmm
    subst hmm
    have key : ∀ i, i < len → ∃ z : Sq, w.cell? (x.add (i * 3)) = some (.int .i64 z.lits) ∧ w.cell? (x.add (i * 3 + 1)) = some (.int .i64 z.mat) ∧ w.cell? (x.add (i * 3 + 2)) = some (.int .i64 z.back) ∧ z.fits := by
      intro i hi
      obtain ⟨n, hn⟩ := hcell i (by omega)
      obtain ⟨v0, y0, hc0, ht0⟩ := hn 0 f0 rfl
      obtain ⟨v1, y1, hc1, ht1⟩ := hn 1 f1 rfl
      obtain ⟨v2, y2, hc2, ht2⟩ := hn 2 f2 rfl
      rw [e0] at ht0; rw [e1] at ht1; rw [e2] at ht2
      obtain ⟨z0, hz0, _, hw0⟩ := DataW.trod_int h0 ht0
      obtain ⟨z1, hz1, _, hw1⟩ := DataW.trod_int h0 ht1
      obtain ⟨z2, hz2, _, hw2⟩ := DataW.trod_int h0 ht2
      simp only [List.cons.injEq, and_true] at hz0 hz1 hz2
      subst hz0; subst hz1; subst hz2
      exact ⟨⟨z0, z1, z2⟩, hc0, hc1, hc2, bounds_i64 hw0, bounds_i64 hw1, bounds_i64 hw2⟩
    obtain ⟨q, hq⟩ := pick key
    refine ⟨(List.range len).map q, by simp, by simpa using hl, hm, fun hn => ?_, fun s hs => ?_⟩
    · simp only [List.length_map, List.length_range] at hn
      have hx0 := (hq 0 hn).1
      have hx := add_plain hx0
      refine ⟨x.block, x.off, by rw [← hx], lt_of_cell (a := x) (by simpa [Addr.add] using hx0), fun j hj => ?_⟩
      simp only [List.length_map, List.length_range] at hj
      obtain ⟨k0, k1, k2, _⟩ := hq j hj
      rw [hx, add_at] at k0 k1 k2
      have e : ((List.range len).map q).getD j default = q j := by simp [List.getD, hj]
      rw [e]
      exact ⟨k0, by rw [Nat.add_assoc]; exact k1, by rw [Nat.add_assoc]; exact k2⟩
    · obtain ⟨i, hi, rfl⟩ := List.mem_map.1 hs
      exact (hq i (List.mem_range.1 hi)).2.2.2
end
end Go.Proofs.Ytjifnnghcaaonaa.Opn
