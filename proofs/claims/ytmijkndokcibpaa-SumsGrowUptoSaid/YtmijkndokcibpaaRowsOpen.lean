/- A slice of rows of bytes that came in; and what the bound of the second form says of its rows' lengths. -/
import Derived.Test.YtmijkndokcibpaaBytes
import Derived.Test.YtmijkndokcibpaaRows
import Derived.Deep.Matrix
namespace Go.Proofs.Ytmijkndokcibpaa
open Go.ChangeShapes Go.WideShapes Go.Deep Go.RowKit

structure ByteRow where
  A : Option Addr
  bs : List UInt8
  cap : Nat
instance : Inhabited ByteRow := ⟨⟨none, [], 0⟩⟩
def ByteRow.v (r : ByteRow) : Value := .slice r.A r.bs.length r.cap

theorem bulk_one_le {H : Type} (d : DataW H) : 1 ≤ Rows.uptoBulk d := by
  cases d with
  | lit l => cases l <;> simp [Rows.uptoBulk]
  | nil => simp [Rows.uptoBulk]
  | ptr d => simp [Rows.uptoBulk]
  | slice elems spare => simp [Rows.uptoBulk]
  | agg parts => simp [Rows.uptoBulk]
  | iface t d => simp [Rows.uptoBulk]
  | map entries => simp [Rows.uptoBulk]
  | held h => simp [Rows.uptoBulk]
theorem bulk_part_le {H : Type} {d : DataW H} {l : List (DataW H)} (h : d ∈ l) : Rows.uptoBulk d ≤ Rows.uptoBulkAll l := by
  induction l with
  | nil => cases h
  | cons x r ih =>
    simp only [Rows.uptoBulkAll]
    cases List.mem_cons.1 h with
    | inl e => subst e; omega
    | inr e => have := ih e; omega
theorem bulk_length_le {H : Type} (l : List (DataW H)) : l.length ≤ Rows.uptoBulkAll l := by
  induction l with
  | nil => simp [Rows.uptoBulkAll]
  | cons x r ih => have := bulk_one_le x; simp only [Rows.uptoBulkAll, List.length_cons]; omega
theorem bulk_small {H : Type} {l : List (DataW H)} (hk : Rows.uptoSmall H l = true) : Rows.uptoBulkAll l ≤ 1048576 := of_decide_eq_true hk

section
variable {H : Type} {enc : TypeId × Value → H} {P : Program} {w : World}

theorem open_byte_rows {t e q : TypeId} {A : Option Addr} {len cap : Nat} {d : DataW H} {p : List MemPlace} (ht : P.underlying t = some (.slice e)) (he : P.underlying e = some (.slice q)) (hq : P.underlying q = some (.int .u8))
    (ce : P.cellsOf e = 1) (cq : P.cellsOf q = 1) (h : DataW.Trod enc P w 0 (fun _ => true) true t (.slice A len cap) d p) :
    len ≤ cap ∧ cap ≤ maxLen ∧ ∃ R : Nat → ByteRow, Opn.RowAt w w.heap.size A len (fun i => (R i).v) ∧
      (∀ i, i < len → (R i).bs.length ≤ (R i).cap ∧ (R i).cap ≤ maxLen ∧ BRow w w.heap.size (R i).A (R i).bs) ∧ len ≤ Rows.uptoBulk d ∧ ∀ i, i < len → (R i).bs.length ≤ Rows.uptoBulk d := by
  obtain ⟨fuel, hf⟩ := h
  rcases open_int_rows ht he hq ce cq hf with ⟨hcs, _⟩ | ⟨x, l, c, AA, L, C, Z, hcs, _, hl, hm, hx, hr⟩
  · simp [Value.cells] at hcs
    obtain ⟨rfl, rfl, rfl⟩ := hcs
    exact ⟨Nat.le_refl _, Nat.zero_le _, fun _ => default, fun h => absurd h (by omega), fun i h => absurd h (by omega), Nat.zero_le _, fun i h => absurd h (by omega)⟩
  · simp [Value.cells] at hcs
    obtain ⟨rfl, rfl, rfl⟩ := hcs
    simp only [Prod.mk.injEq] at hx
    obtain ⟨hd, _⟩ := hx
    have key : ∀ i, i < len → ∃ r : ByteRow, r.A = AA i ∧ r.bs.length = L i ∧ r.cap = C i ∧ BRow w w.heap.size r.A r.bs := by
      intro i hi
      obtain ⟨_, hLC, _, hZ, hwz, _, hcell⟩ := hr i (by omega)
      have hrow : Opn.RowAt w w.heap.size (AA i) (L i) (fun k => .int .u8 ((Z i).getD k 0)) := by
        intro h0
        cases hA : AA i with
        | none =>
          obtain ⟨_, _, _, _, _, hn, _⟩ := hr i (by omega)
          have := hn hA
          omega
        | some a' =>
          have hc := (hcell a' hA).2
          have h1 := hc 0 (by omega)
          have hx := Opn.add_plain h1
          refine ⟨a'.block, a'.off, by rw [← hx], Opn.lt_of_cell (a := a') (by simpa [Addr.add] using h1), fun k hk => ?_⟩
          have := hc k (by omega)
          rw [hx, Opn.add_at] at this
          exact this
      obtain ⟨bs, hbl, hb⟩ := BRow.of_row hrow (fun k hk => bounds_u8 (hwz _ (by
        have : k < (Z i).length := by omega
        simp [List.getD, List.getElem?_eq_getElem this])))
      exact ⟨⟨AA i, bs, C i⟩, rfl, hbl, rfl, hb⟩
    obtain ⟨R, hR⟩ := Opn.pick key
    refine ⟨hl, hm, R, fun h0 => ?_, fun i hi => ?_, ?_, fun i hi => ?_⟩
    · have h1 := (hr 0 (by omega)).1
      have hx := Opn.add_plain h1
      refine ⟨x.block, x.off, by rw [← hx], Opn.lt_of_cell (a := x) (by simpa [Addr.add] using h1), fun k hk => ?_⟩
      have := (hr k (by omega)).1
      rw [hx, Opn.add_at] at this
      obtain ⟨e1, e2, e3, _⟩ := hR k hk
      show w.cell? _ = some (.slice (R k).A (R k).bs.length (R k).cap)
      rw [e1, e2, e3]
      exact this
    · obtain ⟨e1, e2, e3, hb⟩ := hR i hi
      obtain ⟨_, hLC, hC, _⟩ := hr i (by omega)
      exact ⟨by omega, by omega, hb⟩
    · rw [hd]
      simp only [Rows.uptoBulk]
      have := bulk_length_le ((List.range len).map fun r => intRow (H := H) IntKind.u8 (AA r) (L r) (Z r))
      simp only [List.length_map, List.length_range] at this
      omega
    · rw [hd]
      simp only [Rows.uptoBulk]
      have h1 := bulk_part_le (List.mem_map.2 ⟨i, List.mem_range.2 hi, rfl⟩ : intRow (H := H) IntKind.u8 (AA i) (L i) (Z i) ∈ (List.range len).map fun r => intRow (H := H) IntKind.u8 (AA r) (L r) (Z r))
      obtain ⟨e1, e2, e3, hb⟩ := hR i hi
      obtain ⟨_, hLC, _, hZ, _, hn, _⟩ := hr i (by omega)
      have h2 : L i ≤ Rows.uptoBulk (intRow (H := H) IntKind.u8 (AA i) (L i) (Z i)) := by
        cases hA : AA i with
        | none => have := hn hA; omega
        | some a' =>
          simp only [intRow, Rows.uptoBulk]
          have := bulk_length_le (lits (H := H) IntKind.u8 ((Z i).take (L i)))
          have h3 : (lits (H := H) IntKind.u8 ((Z i).take (L i))).length = L i := by simp [lits]; omega
          omega
      omega
end
end Go.Proofs.Ytmijkndokcibpaa
