/- A slice of acts (a number, a row of bytes, two numbers) that came in; and how much they are. -/
import Derived.Test.YtjeaepkncboodaaOpen
import Derived.Test.YtjeaepkncboodaaWinW
import Derived.SizedLaws
namespace Go.Proofs.Ytjeaepkncboodaa
open Go.RowKit
set_option linter.unusedVariables false
set_option linter.unusedSimpArgs false
/-- An act. -/
structure WAct where
  d : Int
  A : Option Addr
  bs : List UInt8
  cap : Nat
  back : Int
  n : Int
instance : Inhabited WAct := ⟨⟨0, none, [], 0, 0, 0⟩⟩
/-- An act's numbers are int's, its row lies below the base. -/
structure WAct.Fits (w : World) (B : Nat) (x : WAct) : Prop where
  d : -9223372036854775808 ≤ x.d ∧ x.d ≤ 9223372036854775807
  c : x.bs.length ≤ x.cap ∧ x.cap ≤ maxLen
  r : BRow w B x.A x.bs
  b : -9223372036854775808 ≤ x.back ∧ x.back ≤ 9223372036854775807
  n : -9223372036854775808 ≤ x.n ∧ x.n ≤ 9223372036854775807
/-- The slice (A, its length) reads as the acts l, and lies below block B. -/
def ActRow (w : World) (B : Nat) (A : Option Addr) (l : List WAct) : Prop :=
  0 < l.length → ∃ b off, A = some ⟨b, off, none⟩ ∧ b < B ∧ ∀ k, k < l.length →
    w.cell? ⟨b, off + k * 4, none⟩ = some (.int .i64 (l.getD k default).d) ∧ w.cell? ⟨b, off + k * 4 + 1, none⟩ = some (.slice (l.getD k default).A (l.getD k default).bs.length (l.getD k default).cap) ∧
    w.cell? ⟨b, off + k * 4 + 2, none⟩ = some (.int .i64 (l.getD k default).back) ∧ w.cell? ⟨b, off + k * 4 + 3, none⟩ = some (.int .i64 (l.getD k default).n)
namespace Opn
open Go.ChangeShapes Go.WideShapes Go.Deep
section
variable {H : Type} {enc : TypeId × Value → H} {P : Program} {w : World}
theorem weights_all {e : TypeId} {l : List (DataW H)} {d : DataW H} (h : d ∈ l) {n : Nat} (hn : n ∈ d.weights P e) : n ∈ DataW.weightsAll P e l := by
  induction l with
  | nil => cases h
  | cons x r ih =>
    simp only [DataW.weightsAll, List.mem_append]
    cases List.mem_cons.1 h with
    | inl e => subst e; exact .inl hn
    | inr e => exact .inr (ih e)
theorem open_slice_fieldsD {t e : TypeId} {fs : Array Field} {fuel : Nat} {cs : List Value} {x : DataW H × List MemPlace} (ht : P.underlying t = some (.slice e)) (he : P.underlying e = some (.struct fs))
    (hone : oneCellFields P fs = true) (hC : P.cellsOf e = fs.size) (h : DataW.trod enc P w 0 (fun _ => true) true fuel t cs = some x) :
    (cs = [.slice none 0 0] ∧ x = (.nil, [])) ∨
    ∃ (a : Addr) (len cap m : Nat), cs = [.slice (some a) len cap] ∧ len ≤ cap ∧ cap ≤ maxLen ∧ m = cap ∧
      ∀ i, i < m → ∃ n, ∀ (j : Nat) (f : Field), fs[j]? = some f → ∃ (v : Value) (y : DataW H × List MemPlace), w.cell? (a.add (i * fs.size + j)) = some v ∧ DataW.trod enc P w 0 (fun _ => true) true n f.type [v] = some y ∧ (i < len → ∀ k ∈ y.1.weights P f.type, k ∈ x.1.weights P t) := by
  rcases open_slice ht h with h0 | ⟨a, len, cap, m, n, D, Pl, hcs, hb, hl, hm, hmm, hx, hi⟩
  · exact .inl h0
  · simp only [if_true] at hmm
    refine .inr ⟨a, len, cap, m, hcs, hl, hm, hmm, fun i him => ?_⟩
    obtain ⟨cs', hc, ht'⟩ := hi i him
    rw [hC] at hc
    obtain ⟨ys, n', hn', hy, hlen, hyl, hf⟩ := DataW.trod_struct he ht'
    obtain ⟨_, hcl, hat⟩ := World.cells?_some hc
    refine ⟨n', fun j f hj => ?_⟩
    obtain ⟨ho, hk⟩ := hone_of hone j f hj
    have hjl : j < fs.size := (Array.getElem?_eq_some_iff.1 hj).1
    have hcell := hat j hjl
    have hv : cs'[j]? = some (cs'[j]'(by omega)) := List.getElem?_eq_getElem (by omega)
    have h1 := hf j f hj
    rw [ho, hk] at h1
    have hone' : (cs'.drop j).take 1 = [cs'[j]'(by omega)] := by
      rw [List.drop_eq_getElem_cons (by omega)]
      rfl
    rw [hone'] at h1
    have hys : ys[j]? = some (ys[j]'(by omega)) := List.getElem?_eq_getElem (by omega)
    refine ⟨_, ys[j]'(by omega), ?_, h1.trans hys, fun hil k hk => ?_⟩
    · rw [← Go.Deep.add_add, hcell, hv]
    · have hD : D i = .agg (ys.map (·.1)) := congrArg Prod.fst hy
      have h2 : k ∈ (D i).weights P e := by
        rw [hD]
        simp only [DataW.weights, he]
        refine DataW.weights_mem_each (j := j) (t := f.type) (d := (ys[j]'(by omega)).1) ?_ ?_ k hk
        · rw [List.getElem?_map, Array.getElem?_toList, hj]; rfl
        · rw [List.getElem?_map, hys]; rfl
      rw [hx]
      simp only [DataW.weights, ht]
      exact List.mem_cons_of_mem _ (List.mem_append.2 (.inl (weights_all (List.mem_map.2 ⟨i, List.mem_range.2 hil, rfl⟩) h2)))
/-- A row of bytes that came in, as one cell. -/
theorem open_byte_row {t e : TypeId} {v : Value} {fuel : Nat} {x : DataW H × List MemPlace} (ht : P.underlying t = some (.slice e)) (he : P.underlying e = some (.int .u8)) (hc : P.cellsOf e = 1)
    (hf : DataW.trod enc P w 0 (fun _ => true) true fuel t [v] = some x) : ∃ (A : Option Addr) (bs : List UInt8) (cap : Nat), v = .slice A bs.length cap ∧ bs.length ≤ cap ∧ cap ≤ maxLen ∧ BRow w w.heap.size A bs ∧ (bs.length = 0 ∨ cap * P.bytesOf e ∈ x.1.weights P t) := by
  rcases open_ints ht he hc hf with ⟨hcs, _⟩ | ⟨x, l, c, zs, hcs, _, hl, hm, hz, hx, hcell, hwz⟩
  · simp at hcs
    exact ⟨none, [], 0, by simpa using hcs, Nat.le_refl _, Nat.zero_le _, BRow.nil _ _ _, .inl rfl⟩
  · simp at hcs
    subst hcs
    simp only [if_true] at hz
    have hrow : RowAt w w.heap.size (some x) l (fun i => .int .u8 (zs.getD i 0)) := by
      intro hn
      have h0 := hcell 0 (by omega)
      have hx := add_plain h0
      refine ⟨x.block, x.off, by rw [← hx], lt_of_cell (a := x) (by simpa [Addr.add] using h0), fun j hj => ?_⟩
      have := hcell j (by omega)
      rw [hx, add_at] at this
      exact this
    obtain ⟨bs, hbl, hb⟩ := BRow.of_row hrow (fun k hk => bounds_u8 (hwz _ (by
      have : k < zs.length := by omega
      simp [List.getD, List.getElem?_eq_getElem this])))
    refine ⟨some x, bs, c, by rw [hbl], by omega, hm, hb, ?_⟩
    right
    rw [hx]
    simp only [DataW.weights, ht]
    have h3 : (lits (H := H) IntKind.u8 (zs.take l)).length + (lits (H := H) IntKind.u8 (zs.drop l)).length = c := by simp [lits]; omega
    rw [h3]
    exact List.mem_cons_self
theorem sized_row {x : WAct} {b : Nat} {l : List Nat} (h : x.Fits w w.heap.size ∧ (x.bs.length = 0 ∨ x.cap * b ∈ l)) (hl : ∀ k ∈ l, k ≤ reachBytes) (hb : b = 1) : x.bs.length ≤ 140737488355328 := by
  subst hb
  rcases h.2 with h2 | h2
  · omega
  · have := hl _ h2
    have h3 := h.1.c
    have h4 : reachBytes < 140737488355328 := by decide
    omega
theorem open_acts {t e t0 t1 q : TypeId} {f0 f1 f2 f3 : Field} {A : Option Addr} {len cap : Nat} {d : DataW H} {p : List MemPlace} (ht : P.underlying t = some (.slice e)) (he : P.underlying e = some (.struct #[f0, f1, f2, f3]))
    (hone : oneCellFields P #[f0, f1, f2, f3] = true) (hC : P.cellsOf e = 4) (e0 : f0.type = t0) (e1 : f1.type = t1) (e2 : f2.type = t0) (e3 : f3.type = t0) (h0 : P.underlying t0 = some (.int .i64))
    (h1 : P.underlying t1 = some (.slice q)) (hq : P.underlying q = some (.int .u8)) (cq : P.cellsOf q = 1)
    (h : DataW.Trod enc P w 0 (fun _ => true) true t (.slice A len cap) d p) :
    ∃ l : List WAct, len = l.length ∧ l.length ≤ cap ∧ cap ≤ maxLen ∧ ActRow w w.heap.size A l ∧ ∀ s ∈ l, s.Fits w w.heap.size ∧ (s.bs.length = 0 ∨ s.cap * P.bytesOf q ∈ d.weights P t) := by
  obtain ⟨fuel, hf⟩ := h
  rcases open_slice_fieldsD ht he hone hC hf with ⟨hcs, _⟩ | ⟨x, l, c, m, hcs, hl, hm, hmm, hcell⟩
  · simp [Value.cells] at hcs
    obtain ⟨rfl, rfl, rfl⟩ := hcs
    exact ⟨[], rfl, Nat.le_refl _, Nat.zero_le _, fun h => absurd h (by simp), fun s hs => absurd hs (by simp)⟩
  · simp [Value.cells] at hcs
    obtain ⟨rfl, rfl, rfl⟩ := hcs
    subst hmm
    have key : ∀ i, i < len → ∃ z : WAct, w.cell? (x.add (i * 4)) = some (.int .i64 z.d) ∧ w.cell? (x.add (i * 4 + 1)) = some (.slice z.A z.bs.length z.cap) ∧ w.cell? (x.add (i * 4 + 2)) = some (.int .i64 z.back) ∧ w.cell? (x.add (i * 4 + 3)) = some (.int .i64 z.n) ∧ z.Fits w w.heap.size ∧ (z.bs.length = 0 ∨ z.cap * P.bytesOf q ∈ d.weights P t) := by
      intro i hi
      obtain ⟨n, hn⟩ := hcell i (by omega)
      obtain ⟨v0, y0, hc0, ht0, hu0⟩ := hn 0 f0 rfl
      obtain ⟨v1, y1, hc1, ht1, hu1⟩ := hn 1 f1 rfl
      obtain ⟨v2, y2, hc2, ht2, hu2⟩ := hn 2 f2 rfl
      obtain ⟨v3, y3, hc3, ht3, hu3⟩ := hn 3 f3 rfl
      rw [e0] at ht0; rw [e1] at ht1 hu1; rw [e2] at ht2; rw [e3] at ht3
      obtain ⟨z0, hz0, _, hw0⟩ := DataW.trod_int h0 ht0
      obtain ⟨A1, bs, c1, hv1, hl1, hm1, hb1, hk1⟩ := open_byte_row h1 hq cq ht1
      obtain ⟨z2, hz2, _, hw2⟩ := DataW.trod_int h0 ht2
      obtain ⟨z3, hz3, _, hw3⟩ := DataW.trod_int h0 ht3
      simp only [List.cons.injEq, and_true] at hz0 hz2 hz3
      subst hz0; subst hz2; subst hz3; subst hv1
      exact ⟨⟨z0, A1, bs, c1, z2, z3⟩, hc0, hc1, hc2, hc3, ⟨bounds_i64 hw0, ⟨hl1, hm1⟩, hb1, bounds_i64 hw2, bounds_i64 hw3⟩, hk1.imp id (hu1 hi _)⟩
    obtain ⟨q, hq⟩ := pick key
    refine ⟨(List.range len).map q, by simp, by simpa using hl, hm, fun hn => ?_, fun s hs => ?_⟩
    · simp only [List.length_map, List.length_range] at hn
      have hx0 := (hq 0 hn).1
      have hx := add_plain hx0
      refine ⟨x.block, x.off, by rw [← hx], lt_of_cell (a := x) (by simpa [Addr.add] using hx0), fun j hj => ?_⟩
      simp only [List.length_map, List.length_range] at hj
      obtain ⟨k0, k1, k2, k3, _⟩ := hq j hj
      rw [hx, add_at] at k0 k1 k2 k3
      have e : ((List.range len).map q).getD j default = q j := by simp [List.getD, hj]
      rw [e]
      exact ⟨k0, by rw [Nat.add_assoc]; exact k1, by rw [Nat.add_assoc]; exact k2, by rw [Nat.add_assoc]; exact k3⟩
    · obtain ⟨i, hi, rfl⟩ := List.mem_map.1 hs
      exact (hq i (List.mem_range.1 hi)).2.2.2.2
end
end Opn
/-- How much an act is. -/
def WAct.much (x : WAct) : Nat := x.bs.length + (if 0 < x.n ∧ x.n ≤ 16777216 then x.n.toNat else 0)
def muchs (l : List WAct) : Nat := (l.map WAct.much).foldr (· + ·) 0
theorem muchs_nil : muchs [] = 0 := rfl
theorem muchs_snoc (l : List WAct) (x : WAct) : muchs (l ++ [x]) = muchs l + x.much := by
  unfold muchs
  induction l with
  | nil => simp
  | cons y l ih => simp only [List.cons_append, List.map_cons, List.foldr_cons]; rw [ih]; omega
theorem muchs_take {l : List WAct} {i : Nat} (h : i < l.length) : muchs (l.take (i + 1)) = muchs (l.take i) + (l.getD i default).much := by
  rw [List.take_succ_eq_append_getElem h, muchs_snoc]; simp [List.getD, h]
theorem muchs_le (l : List WAct) (i : Nat) : muchs (l.take i) ≤ muchs l := by
  have h : ∀ a b : List WAct, muchs a ≤ muchs (a ++ b) := by
    intro a b
    induction a with
    | nil => rw [muchs_nil]; omega
    | cons y a ih => simp only [muchs, List.cons_append, List.map_cons, List.foldr_cons] at ih ⊢; omega
  have := h (l.take i) (l.drop i)
  rw [List.take_append_drop] at this
  exact this
end Go.Proofs.Ytjeaepkncboodaa
