/- A slice of pairs of numbers that came in. -/
import Derived.Test.YtjhmebkkdgpneaaOpen
import Derived.Test.YtjhmebkkdgpneaaBoxX
import Derived.OpenShut
namespace Go.Proofs.Ytjhmebkkdgpneaa.Opn
open Go.ChangeShapes Go.WideShapes Go.Deep Go.RowKit
section
variable {H : Type} {enc : TypeId × Value → H} {P : Program} {w : World}
theorem open_pairs {t e q : TypeId} {A : Option Addr} {len cap : Nat} {d : DataW H} {p : List MemPlace} (ht : P.underlying t = some (.slice e)) (he : P.underlying e = some (.array 2 q)) (hC : P.cellsOf e = 2) (hq : P.underlying q = some (.int .u64)) (hc : P.cellsOf q = 1)
    (h : DataW.Trod enc P w 0 (fun _ => true) true t (.slice A len cap) d p) :
    ∃ l : List (Nat × Nat), len = l.length ∧ l.length ≤ cap ∧ cap ≤ maxLen ∧ PrRow w w.heap.size A l ∧ ∀ s ∈ l, s.1 < 18446744073709551616 ∧ s.2 < 18446744073709551616 := by
  obtain ⟨fuel, hf⟩ := h
  rcases open_slice ht hf with ⟨hcs, _⟩ | ⟨a, l', c, m, n, D, Pl, hcs, _, hl, hm, hmm, _, hi⟩
  · simp [Value.cells] at hcs
    obtain ⟨rfl, rfl, rfl⟩ := hcs
    exact ⟨[], rfl, Nat.le_refl _, Nat.zero_le _, fun h => absurd h (by simp), fun s hs => absurd hs (by simp)⟩
  · simp [Value.cells] at hcs
    obtain ⟨rfl, rfl, rfl⟩ := hcs
    simp only [if_true] at hmm
    subst hmm
    have key : ∀ i, i < len → ∃ z : Nat × Nat, (w.cell? (a.add (i * 2)) = some (.int .u64 (z.1 : Int)) ∧ w.cell? ((a.add (i * 2)).add 1) = some (.int .u64 (z.2 : Int))) ∧ z.1 < 18446744073709551616 ∧ z.2 < 18446744073709551616 := by
      intro i him
      obtain ⟨cs', hc', ht'⟩ := hi i (by omega)
      rw [hC] at hc'
      obtain ⟨_, hcl, hat⟩ := World.cells?_some hc'
      obtain ⟨xs, m', _, _, _, hxl, hx⟩ := DataW.trod_array he ht'
      obtain ⟨c0, c1, rfl⟩ : ∃ c0 c1, cs' = [c0, c1] := by
        match cs', hcl with
        | [c0, c1], _ => exact ⟨c0, c1, rfl⟩
      have x0 := hx 0 (by omega)
      have x1 := hx 1 (by omega)
      rw [hc] at x0 x1
      simp only [Nat.zero_mul, List.drop_zero, List.take_succ_cons, List.take_zero, Nat.one_mul, List.drop_succ_cons] at x0 x1
      rw [List.getElem?_eq_getElem (by omega)] at x0 x1
      obtain ⟨z0, e0, _, w0⟩ := DataW.trod_int hq x0
      obtain ⟨z1, e1, _, w1⟩ := DataW.trod_int hq x1
      simp only [List.cons.injEq, and_true] at e0 e1
      subst e0; subst e1
      have b0 := bounds_u64 w0
      have b1 := bounds_u64 w1
      refine ⟨(z0.toNat, z1.toNat), ⟨?_, ?_⟩, by show z0.toNat < _; omega, by show z1.toNat < _; omega⟩
      · have h := hat 0 (by omega)
        have e : (a.add (i * 2)).add 0 = a.add (i * 2) := by unfold Addr.add; simp
        rw [e] at h
        rw [h]
        show some (Value.int .u64 z0) = _
        congr 2
        show z0 = (z0.toNat : Int)
        omega
      · have h := hat 1 (by omega)
        rw [h]
        show some (Value.int .u64 z1) = _
        congr 2
        show z1 = (z1.toNat : Int)
        omega
    obtain ⟨q', hq'⟩ := pick key
    have hgd : ∀ k, k < len → ((List.range len).map q').getD k (0, 0) = q' k := fun k hk => by simp [List.getD, List.getElem?_map, List.getElem?_range hk]
    refine ⟨(List.range len).map q', by simp, by simpa using hl, hm, fun hn => ?_, fun s hs => ?_⟩
    · rw [List.length_map, List.length_range] at hn
      have h0 := (hq' 0 hn).1.1
      have e0 : a.add (0 * 2) = a.add 0 := by rw [Nat.zero_mul]
      rw [e0] at h0
      have hx := add_plain h0
      refine ⟨a.block, a.off, by rw [← hx], lt_of_cell (a := a.add 0) h0, fun j hj => ?_⟩
      rw [List.length_map, List.length_range] at hj
      obtain ⟨⟨k0, k1⟩, _⟩ := hq' j hj
      rw [hx, add_at] at k0 k1
      rw [add_at] at k1
      rw [hgd j hj]
      exact ⟨k0, k1⟩
    · obtain ⟨k, hk, rfl⟩ := List.mem_map.1 hs
      exact (hq' k (by simpa using hk)).2
end
end Go.Proofs.Ytjhmebkkdgpneaa.Opn
