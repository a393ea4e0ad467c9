/- From a reading of an argument to facts on its cells: slices of structs and of numbers, as functions of the place. Over any program. -/
import Derived.Deep.Slices
import Derived.Deep.Fields
import Derived.ChangeSame
import Derived.OpenShut
import Derived.Below
namespace Go.Proofs.YtffehfpbdcokbaaGreat.Opn
open Go.ChangeShapes Go.WideShapes Go.Deep Go.RowKit

theorem pick {α : Type} [Inhabited α] {n : Nat} {R : Nat → α → Prop} (h : ∀ i, i < n → ∃ x, R i x) : ∃ f : Nat → α, ∀ i, i < n → R i (f i) := by
  classical
  refine ⟨fun i => if hi : i < n then Classical.choose (h i hi) else default, fun i hi => ?_⟩
  simp only [dif_pos hi]
  exact Classical.choose_spec (h i hi)

/-- A row of n elements of one cell each, at A, below block B. -/
def RowAt (w : World) (B : Nat) (A : Option Addr) (n : Nat) (f : Nat → Value) : Prop :=
  0 < n → ∃ b off, A = some ⟨b, off, none⟩ ∧ b < B ∧ ∀ k, k < n → w.cell? ⟨b, off + k, none⟩ = some (f k)
/-- A row of n elements of m cells each. -/
def RowsAt (w : World) (B : Nat) (A : Option Addr) (n m : Nat) (f : Nat → Nat → Value) : Prop :=
  0 < n → ∃ b off, A = some ⟨b, off, none⟩ ∧ b < B ∧ ∀ k, k < n → ∀ j, j < m → w.cell? ⟨b, off + k * m + j, none⟩ = some (f k j)

theorem RowAt.below {w w' : World} {B n : Nat} {A : Option Addr} {f : Nat → Value} (h : RowAt w B A n f) (hb : Below B w w') : RowAt w' B A n f := by
  intro hn
  obtain ⟨b, off, rfl, hlt, hc⟩ := h hn
  exact ⟨b, off, rfl, hlt, fun k hk => by rw [hb.cell (p := ⟨b, _, none⟩) hlt]; exact hc k hk⟩
theorem RowsAt.below {w w' : World} {B n m : Nat} {A : Option Addr} {f : Nat → Nat → Value} (h : RowsAt w B A n m f) (hb : Below B w w') : RowsAt w' B A n m f := by
  intro hn
  obtain ⟨b, off, rfl, hlt, hc⟩ := h hn
  exact ⟨b, off, rfl, hlt, fun k hk j hj => by rw [hb.cell (p := ⟨b, _, none⟩) hlt]; exact hc k hk j hj⟩

theorem add_plain {w : World} {a : Addr} {v : Value} (h : w.cell? (a.add 0) = some v) : a = ⟨a.block, a.off, none⟩ := by
  obtain ⟨b, off, spot⟩ := a
  have hspot : spot = none := by simpa [Addr.add] using World.cell?_spot h
  subst hspot; rfl
theorem add_at (b off k : Nat) : (⟨b, off, none⟩ : Addr).add k = ⟨b, off + k, none⟩ := by unfold Addr.add; split <;> simp_all
theorem lt_of_cell {w : World} {a : Addr} {v : Value} (h : w.cell? a = some v) : a.block < w.heap.size := World.block_lt_of_cell? w a h

section
variable {H : Type} {enc : TypeId × Value → H} {P : Program} {w : World}

theorem open_slice_fields {base : Nat} {spare : Nat → Bool} {held : Bool} {t e : TypeId} {fs : Array Field} {fuel : Nat} {cs : List Value} {x : DataW H × List MemPlace} (ht : P.underlying t = some (.slice e)) (he : P.underlying e = some (.struct fs))
    (hone : oneCellFields P fs = true) (hC : P.cellsOf e = fs.size) (h : DataW.trod enc P w base spare held fuel t cs = some x) :
    (cs = [.slice none 0 0] ∧ x = (.nil, [])) ∨
    ∃ (a : Addr) (len cap m : Nat), cs = [.slice (some a) len cap] ∧ len ≤ cap ∧ cap ≤ maxLen ∧ m = (if spare a.block then cap else len) ∧
      ∀ i, i < m → ∃ n, ∀ (j : Nat) (f : Field), fs[j]? = some f → ∃ (v : Value) (y : DataW H × List MemPlace), w.cell? (a.add (i * fs.size + j)) = some v ∧ DataW.trod enc P w base spare held n f.type [v] = some y := by
  rcases open_slice ht h with h0 | ⟨a, len, cap, m, n, D, Pl, hcs, hb, hl, hm, hmm, hx, hi⟩
  · exact .inl h0
  · refine .inr ⟨a, len, cap, m, hcs, hl, hm, hmm, fun i him => ?_⟩
    obtain ⟨cs', hc, ht'⟩ := hi i him
    rw [hC] at hc
    obtain ⟨ys, n', hn', hy, hlen, hyl, hf⟩ := DataW.trod_struct he ht'
    obtain ⟨_, hcl, hat⟩ := World.cells?_some hc
    refine ⟨n', fun j f hj => ?_⟩
    obtain ⟨ho, hk⟩ := hone_of hone j f hj
    have hjl : j < fs.size := (Array.getElem?_eq_some_iff.1 hj).1
    have hcell := hat j hjl
    have hv : cs'[j]? = some (cs'[j]'(by omega)) := List.getElem?_eq_getElem (by omega)
    have h1 := hf j f hj
    rw [ho, hk] at h1
    have hone' : (cs'.drop j).take 1 = [cs'[j]'(by omega)] := by
      rw [List.drop_eq_getElem_cons (by omega)]
      rfl
    rw [hone'] at h1
    have hys : ys[j]? = some (ys[j]'(by omega)) := List.getElem?_eq_getElem (by omega)
    refine ⟨_, _, ?_, h1.trans hys⟩
    rw [← Go.Deep.add_add, hcell, hv]

/-- A slice of numbers that came in. -/
theorem open_nums {t e : TypeId} {k : IntKind} {A : Option Addr} {len cap : Nat} {d : DataW H} {p : List MemPlace} (ht : P.underlying t = some (.slice e)) (he : P.underlying e = some (.int k)) (hc : P.cellsOf e = 1)
    (h : DataW.Trod enc P w 0 (fun _ => true) true t (.slice A len cap) d p) :
    len ≤ cap ∧ cap ≤ maxLen ∧ ∃ f : Nat → Int, RowAt w w.heap.size A len (fun i => .int k (f i)) ∧ ∀ i, i < len → (Lit.int k (f i)).wf = true := by
  obtain ⟨fuel, hf⟩ := h
  rcases open_ints ht he hc hf with ⟨hcs, _⟩ | ⟨x, l, c, zs, hcs, _, hl, hm, hz, _, hcell, hwz⟩
  · simp [Value.cells] at hcs
    obtain ⟨rfl, rfl, rfl⟩ := hcs
    exact ⟨Nat.le_refl _, Nat.zero_le _, fun _ => 0, fun h => absurd h (by omega), fun i h => absurd h (by omega)⟩
  · simp [Value.cells] at hcs
    obtain ⟨rfl, rfl, rfl⟩ := hcs
    simp only [if_true] at hz
    refine ⟨hl, hm, fun i => zs.getD i 0, fun hn => ?_, fun i hi => ?_⟩
    · have h0 := hcell 0 (by omega)
      have hx := add_plain h0
      refine ⟨x.block, x.off, by rw [← hx], lt_of_cell (a := x) (by simpa [Addr.add] using h0), fun j hj => ?_⟩
      have := hcell j (by omega)
      rw [hx, add_at] at this
      exact this
    · refine hwz _ ?_
      have : i < zs.length := by omega
      simp [List.getD, List.getElem?_eq_getElem this]

/-- A slice of structs of an int and a bool that came in. -/
theorem open_int_bools {t e t0 t1 : TypeId} {f0 f1 : Field} {A : Option Addr} {len cap : Nat} {d : DataW H} {p : List MemPlace} (ht : P.underlying t = some (.slice e)) (he : P.underlying e = some (.struct #[f0, f1]))
    (hone : oneCellFields P #[f0, f1] = true) (hC : P.cellsOf e = 2) (e0 : f0.type = t0) (e1 : f1.type = t1) (h0 : P.underlying t0 = some (.int .i64)) (h1 : P.underlying t1 = some .bool)
    (h : DataW.Trod enc P w 0 (fun _ => true) true t (.slice A len cap) d p) :
    len ≤ cap ∧ cap ≤ maxLen ∧ ∃ (f : Nat → Int) (g : Nat → Bool), (0 < len → ∃ b off, A = some ⟨b, off, none⟩ ∧ b < w.heap.size ∧ ∀ k, k < len → w.cell? ⟨b, off + k * 2, none⟩ = some (.int .i64 (f k)) ∧ w.cell? ⟨b, off + k * 2 + 1, none⟩ = some (.bool (g k))) ∧
      ∀ i, i < len → -9223372036854775808 ≤ f i ∧ f i ≤ 9223372036854775807 := by
  subst e0; subst e1
  obtain ⟨fuel, hf⟩ := h
  rcases open_slice_fields ht he hone hC hf with ⟨hcs, _⟩ | ⟨x, l, c, m, hcs, hl, hm, hmm, hcell⟩
  · simp [Value.cells] at hcs
    obtain ⟨rfl, rfl, rfl⟩ := hcs
    exact ⟨Nat.le_refl _, Nat.zero_le _, fun _ => 0, fun _ => false, fun h => absurd h (by omega), fun i h => absurd h (by omega)⟩
  · simp [Value.cells] at hcs
    obtain ⟨rfl, rfl, rfl⟩ := hcs
    simp only [if_true] at hmm
    subst hmm
    have key : ∀ i, i < len → ∃ z : Int × Bool, w.cell? (x.add (i * 2)) = some (.int .i64 z.1) ∧ w.cell? (x.add (i * 2 + 1)) = some (.bool z.2) ∧ (Lit.int .i64 z.1).wf = true := by
      intro i hi
      obtain ⟨n, hn⟩ := hcell i (by omega)
      obtain ⟨v0, y0, hc0, ht0⟩ := hn 0 f0 rfl
      obtain ⟨v1, y1, hc1, ht1⟩ := hn 1 f1 rfl
      obtain ⟨z, hz, _, hw⟩ := DataW.trod_int h0 ht0
      obtain ⟨b, hb, _⟩ := DataW.trod_bool h1 ht1
      simp only [List.cons.injEq, and_true] at hz hb
      subst hz; subst hb
      exact ⟨(z, b), hc0, hc1, hw⟩
    obtain ⟨q, hq⟩ := pick key
    refine ⟨hl, hm, fun i => (q i).1, fun i => (q i).2, fun hn => ?_, fun i hi => bounds_i64 (hq i hi).2.2⟩
    have hx0 := (hq 0 hn).1
    have hx := add_plain hx0
    refine ⟨x.block, x.off, by rw [← hx], lt_of_cell (a := x) (by simpa [Addr.add] using hx0), fun j hj => ?_⟩
    obtain ⟨k0, k1, _⟩ := hq j hj
    rw [hx, add_at] at k0 k1
    exact ⟨k0, by rw [Nat.add_assoc]; exact k1⟩
end
end Go.Proofs.YtffehfpbdcokbaaGreat.Opn
