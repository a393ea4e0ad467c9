/- An index: what it tells, in plain Lean; rows of pairs of the call's own. -/
import Derived.Test.YtjhmebkkdgpneaaBoxK
import Derived.Deep.RegionLaw
namespace Go.Proofs.Ytjhmebkkdgpneaa
open Go.RowKit Box
set_option linter.unusedVariables false
set_option linter.unusedSimpArgs false
namespace Box
/-- What stands behind the records: u bytes were taken. -/
def ixTail (bs : List UInt8) (l : List (Nat × Nat)) (r : List UInt8) (u : Nat) : List (Nat × Nat) × Nat × Int :=
  let pad := (4 - u % 4) % 4
  if r.length < pad + 4 then ([], 0, 10)
  else if ¬ (∀ x ∈ r.take pad, x = 0) then ([], 0, 11)
  else if sealedB (bs.take (u + (pad + 4))) = true then (l, u + (pad + 4), 0) else ([], 0, 11)
/-- n records are still to come. -/
def ixRun (bs : List UInt8) : Nat → List (Nat × Nat) → List UInt8 → Nat → List (Nat × Nat) × Nat × Int
  | 0, l, r, u => ixTail bs l r u
  | n + 1, l, r, u =>
    if ¬ (number r).2.2 = 0 then ([], 0, (number r).2.2)
    else if (number r).1 < 5 then ([], 0, 11)
    else if ¬ (number (r.drop (number r).2.1)).2.2 = 0 then ([], 0, (number (r.drop (number r).2.1)).2.2)
    else ixRun bs n (l ++ [((number r).1, (number (r.drop (number r).2.1)).1)]) ((r.drop (number r).2.1).drop (number (r.drop (number r).2.1)).2.1) (u + (number r).2.1 + (number (r.drop (number r).2.1)).2.1)
/-- What an index tells: the records, how many bytes, the error. -/
def indexOf (bs : List UInt8) : List (Nat × Nat) × Nat × Int :=
  match bs with
  | [] => ([], 0, 10)
  | b :: r => if ¬ b = 0 then ([], 0, 11) else if ¬ (number r).2.2 = 0 then ([], 0, (number r).2.2) else ixRun bs (number r).1 [] (r.drop (number r).2.1) (1 + (number r).2.1)
theorem number_bad {bs : List UInt8} (h : ¬ (number bs).2.2 = 0) : number bs = (0, 0, (number bs).2.2) := by
  rcases number_err bs with h1 | h1 | h1
  · exact absurd h1 h
  · rw [h1]
  · rw [h1]
theorem number_good {bs : List UInt8} (h : (number bs).2.2 = 0) : number bs = ((number bs).1, (number bs).2.1, 0) := by rw [← h]
end Box
theorem i64_and3 (n : Int) : bits .and .i64 n 3 = n % 4 := by
  have h3 : (BitVec.ofInt 64 3).toNat = 2 ^ 2 - 1 := by decide
  have key : (BitVec.ofInt 64 n &&& BitVec.ofInt 64 3).toNat = (n % ((2 ^ 64 : Nat) : Int)).toNat % 2 ^ 2 := by
    rw [BitVec.toNat_and, BitVec.toNat_ofInt, h3, Nat.and_two_pow_sub_one_eq_mod]
  show IntKind.i64.wrap ((BitVec.ofInt 64 n &&& BitVec.ofInt 64 3).toNat : Nat) = n % 4
  rw [key, IntKind.wrap_i64]
  omega
/-- The cells of a row of pairs. -/
def prCells (l : List (Nat × Nat)) : List Value := l.flatMap fun p => [.int .u64 (p.1 : Int), .int .u64 (p.2 : Int)]
theorem prCells_len : ∀ l : List (Nat × Nat), (prCells l).length = l.length * 2
  | [] => rfl
  | s :: l => by
    have := prCells_len l
    unfold prCells at *
    rw [List.flatMap_cons, List.length_append, this]; simp; omega
theorem prCells_at : ∀ (l : List (Nat × Nat)) (k : Nat), k < l.length → (prCells l)[k * 2]? = some (.int .u64 ((l.getD k (0, 0)).1 : Int)) ∧ (prCells l)[k * 2 + 1]? = some (.int .u64 ((l.getD k (0, 0)).2 : Int))
  | [], k, h => absurd h (by simp)
  | s :: l, 0, _ => by simp [prCells]
  | s :: l, k + 1, h => by
    have ih := prCells_at l k (by simpa using h)
    have e : prCells (s :: l) = .int .u64 (s.1 : Int) :: .int .u64 (s.2 : Int) :: prCells l := rfl
    rw [e, show (k + 1) * 2 = k * 2 + 1 + 1 by omega]
    simpa using ih
theorem prCells_append (l m : List (Nat × Nat)) : prCells (l ++ m) = prCells l ++ prCells m := by simp [prCells]
/-- A slice of pairs. -/
def PrRow (w : World) (B : Nat) (A : Option Addr) (l : List (Nat × Nat)) : Prop :=
  0 < l.length → ∃ b off, A = some ⟨b, off, none⟩ ∧ b < B ∧ ∀ k, k < l.length → w.cell? ⟨b, off + k * 2, none⟩ = some (.int .u64 ((l.getD k (0, 0)).1 : Int)) ∧ w.cell? ⟨b, off + k * 2 + 1, none⟩ = some (.int .u64 ((l.getD k (0, 0)).2 : Int))
theorem PrRow.below {w w' : World} {B : Nat} {A : Option Addr} {l : List (Nat × Nat)} (h : PrRow w B A l) (hb : Below B w w') : PrRow w' B A l := by
  intro hn
  obtain ⟨b, off, rfl, hlt, hc⟩ := h hn
  exact ⟨b, off, rfl, hlt, fun k hk => by rw [hb.cell (p := ⟨b, _, none⟩) hlt, hb.cell (p := ⟨b, _, none⟩) hlt]; exact hc k hk⟩
theorem PrRow.more {w : World} {B B' : Nat} {A : Option Addr} {l : List (Nat × Nat)} (h : PrRow w B A l) (hB : B ≤ B') : PrRow w B' A l := by
  intro hn
  obtain ⟨b, off, rfl, hlt, hc⟩ := h hn
  exact ⟨b, off, rfl, by omega, hc⟩
/-- A row of pairs of the call's own. -/
def OwnPr (w : World) (T base : Nat) (v : Value) (l : List (Nat × Nat)) : Prop := w.ownsRow base T 2 v l.length (prCells l)
section
variable {w w' : World} {T base : Nat} {v : Value} {l : List (Nat × Nat)}
theorem OwnPr.nil (w : World) (T base : Nat) : OwnPr w T base (.slice none 0 0) [] := World.ownsRow_nil w base T 2
theorem OwnPr.slice (h : OwnPr w T base v l) : ∃ A cap, v = .slice A l.length cap ∧ l.length ≤ cap ∧ cap ≤ maxLen ∧ PrRow w w.heap.size A l := by
  obtain ⟨h1, h2⟩ := h
  rcases h2 with ⟨rfl, hn⟩ | ⟨g, cap, cur, rfl, hb, hh, hnc, hcm, hcs, ht⟩
  · obtain rfl : l = [] := List.eq_nil_of_length_eq_zero hn
    exact ⟨none, 0, rfl, Nat.le_refl _, Nat.zero_le _, fun h => absurd h (by simp)⟩
  · have hp : Pts w g cur T := hh
    refine ⟨_, cap, rfl, hnc, hcm, fun _ => ⟨g, 0, rfl, hp.lt, fun k hk => ?_⟩⟩
    obtain ⟨c0, c1⟩ := prCells_at l k hk
    have hx : ∀ j, j < l.length * 2 → cur[j]? = (prCells l)[j]? := by
      intro j hj
      rw [← ht, List.getElem?_take, if_pos hj, Array.getElem?_toList]
    rw [hp.cell, hp.cell, hx _ (by omega), hx _ (by omega)]
    simpa using ⟨c0, c1⟩
theorem OwnPr.lt (h : OwnPr w T base v l) {k : Nat} (hk : v.ownBlock = some k) : base ≤ k ∧ k < w.heap.size := World.ownsRow.lt h k hk
theorem OwnPr.frm {S : Nat → Prop} (h : OwnPr w T base v l) (hf : Frm S w w') (hn : ∀ k, v.ownBlock = some k → ¬ S k) : OwnPr w' T base v l := by
  refine ⟨h.1, ?_⟩
  rcases h.2 with h2 | ⟨g, cap, cur, rfl, hb, hh, r⟩
  · exact .inl h2
  · exact .inr ⟨g, cap, cur, rfl, hb, (hf.block g (Pts.lt hh) (hn g rfl)).trans hh, r⟩
theorem OwnPr.alloc (h : OwnPr w T base v l) (o : Obj) : OwnPr (w.alloc o) T base v l := World.ownsRow.alloc h o
theorem OwnPr.drewN (h : OwnPr w T base v l) (n : Nat) : OwnPr (w.drewN n) T base v l := h
end
section
variable {P : Program} (w : World)
theorem run_append_pr (t ty T base : Nat) (ht : P.underlying t = some (.slice T)) (hinfo : (P.info? T).map (fun i => (i.zero, i.size, i.bytes)) = some (some (.agg #[.int .u64 0, .int .u64 0]), 2, 16))
    (v : Value) (l : List (Nat × Nat)) (hown : OwnPr w T base v l) (g c : Nat) (s : Nat × Nat) (hnews : Pts w g #[.int .u64 (s.1 : Int), .int .u64 (s.2 : Int)] T)
    (hlen : l.length + 1 ≤ 1000000000) (hbase : base ≤ w.heap.size) :
    ∃ v' w', (Builtin.append_ #[t, t] ty #[v, .slice (some ⟨g, 0, none⟩) 1 c]).run P w = .ok v' w' ∧ OwnPr w' T base v' (l ++ [s]) ∧ Frm (fun k => v.ownBlock = some k) w w' ∧
      (v'.ownBlock = v.ownBlock ∨ v'.ownBlock = some w.heap.size) := by
  obtain ⟨i, hi, hzz⟩ := Option.map_eq_some_iff.1 hinfo
  simp only [Prod.mk.injEq] at hzz
  obtain ⟨hz, hs, hby⟩ := hzz
  have hcells : ∀ j u, (prCells [s])[j]? = some u → w.cell? ((⟨g, 0, none⟩ : Addr).add j) = some u := by
    intro j u hu
    rw [Opn.add_at, Nat.zero_add, hnews.cell, ← hu]
    show #[Value.int IntKind.u64 (s.1 : Int), .int .u64 (s.2 : Int)][j]? = [Value.int IntKind.u64 (s.1 : Int), .int .u64 (s.2 : Int)][j]?
    simp
  obtain ⟨v', w', hrun, h2, h3, _, h5⟩ := run_append_own_at (P := P) w base t ty T i (.agg #[.int .u64 0, .int .u64 0]) 2 16 ht hi hz hs hby rfl (by omega) v l.length (prCells l) hown ⟨g, 0, none⟩ 1 c (prCells [s]) (by simp [prCells]) hcells (by intro u hu; simp [prCells] at hu; rcases hu with rfl | rfl <;> rfl) (by unfold maxLen; omega) (by omega) hbase
  refine ⟨v', w', hrun, ?_, ⟨h3.os, h3.tape, h3.output, h3.size, fun k hk hn => h3.block k hk (fun e => hn e.symm)⟩, h5⟩
  unfold OwnPr
  rw [List.length_append, prCells_append]
  exact h2
theorem stepR_append_pr {ops : Array Oper} {o : Oper} {a : Act} {K : Act → World → Prop} {Q : Exit → Act → World → Prop} {E : Prop} (hgd : o.guard = none) (u x : Operand) (t : TypeId)
    (ho : o.op = .call { callee := .builtin .append, args := #[u, x], argTypes := #[t, t] })
    (T base : Nat) (ht : P.underlying t = some (.slice T)) (hinfo : (P.info? T).map (fun i => (i.zero, i.size, i.bytes)) = some (some (.agg #[.int .u64 0, .int .u64 0]), 2, 16))
    (v : Value) (l : List (Nat × Nat)) (hs : a.eval u = v) (hown : OwnPr w T base v l) (g c : Nat) (s : Nat × Nat) (hx : a.eval x = .slice (some ⟨g, 0, none⟩) 1 c) (hnews : Pts w g #[.int .u64 (s.1 : Int), .int .u64 (s.2 : Int)] T)
    (hlen : l.length + 1 ≤ 1000000000) (hbase : base ≤ w.heap.size)
    (h : ∀ v' w', OwnPr w' T base v' (l ++ [s]) → Frm (fun k => v.ownBlock = some k) w w' → (v'.ownBlock = v.ownBlock ∨ v'.ownBlock = some w.heap.size) → K (a.put o.dst v') w') :
    if Region.wanted o (yielded ops a.tmps) = true then Oper.wp P o a w K Q else E := by
  have hw : Region.wanted o (yielded ops a.tmps) = true := by simp [Region.wanted, hgd]
  rw [if_pos hw]
  obtain ⟨v', w', hrun, h2, h3, h4⟩ := run_append_pr (P := P) w t o.type T base ht hinfo v l hown g c s hnews hlen hbase
  unfold Oper.wp execOp
  simp only [ho, resolve, invoke, builtin, Sem.run_bind, Sem.run_pure, Result.andThen_ok, List.map_toArray, List.map_cons, List.map_nil, hs, hx, hrun]
  exact h _ _ h2 h3 h4
end
theorem Try.info_pair : (Try.prog.info? 38).map (fun i => (i.zero, i.size, i.bytes)) = some (some (.agg #[.int .u64 0, .int .u64 0]), 2, 16) := by kernel_rfl
end Go.Proofs.Ytjhmebkkdgpneaa
