/- Rows of steps of the call's own, and maps of places. -/
import Derived.Test.YtjifnnghcaaonaaChecked
import Derived.Test.YtjifnnghcaaonaaFindP
import Derived.Test.YtjifnnghcaaonaaBytes
import Derived.Test.YtjifnnghcaaonaaNum
import Derived.Maps.OwnSet
import Derived.Maps.Views
import Derived.Maps.AppendAt
import Derived.WalkKit
namespace Go.Proofs.Ytjifnnghcaaonaa
open Go.RowKit Fnd
set_option linter.unusedVariables false
set_option linter.unusedSimpArgs false

def sqCells (l : List Sq) : List Value := l.flatMap fun s => [.int .i64 s.lits, .int .i64 s.mat, .int .i64 s.back]
theorem sqCells_length : ∀ l : List Sq, (sqCells l).length = l.length * 3
  | [] => rfl
  | s :: l => by
    have := sqCells_length l
    unfold sqCells at this ⊢
    rw [List.flatMap_cons, List.length_append, this]; simp; omega
theorem sqCells_at : ∀ (l : List Sq) (k : Nat), k < l.length → (sqCells l)[k * 3]? = some (.int .i64 (l.getD k default).lits) ∧ (sqCells l)[k * 3 + 1]? = some (.int .i64 (l.getD k default).mat) ∧ (sqCells l)[k * 3 + 2]? = some (.int .i64 (l.getD k default).back)
  | [], k, h => absurd h (by simp)
  | s :: l, 0, _ => by simp [sqCells]
  | s :: l, k + 1, h => by
    have ih := sqCells_at l k (by simpa using h)
    have e : sqCells (s :: l) = .int .i64 s.lits :: .int .i64 s.mat :: .int .i64 s.back :: sqCells l := rfl
    rw [e, show (k + 1) * 3 = k * 3 + 1 + 1 + 1 by omega]
    simpa using ih
theorem sqCells_append (l m : List Sq) : sqCells (l ++ m) = sqCells l ++ sqCells m := by simp [sqCells]

/-- A row of steps of the call's own. -/
def OwnSq (w : World) (T base : Nat) (v : Value) (l : List Sq) : Prop := w.ownsRow base T 3 v l.length (sqCells l)
section
variable {w w' : World} {T base : Nat} {v : Value} {l : List Sq}
theorem OwnSq.nil (w : World) (T base : Nat) : OwnSq w T base (.slice none 0 0) [] := World.ownsRow_nil w base T 3
theorem OwnSq.slice (h : OwnSq w T base v l) : ∃ A cap, v = .slice A l.length cap ∧ l.length ≤ cap ∧ cap ≤ maxLen ∧ SqRow w w.heap.size A l := by
  obtain ⟨h1, h2⟩ := h
  rcases h2 with ⟨rfl, hn⟩ | ⟨g, cap, cur, rfl, hb, hh, hnc, hcm, hcs, ht⟩
  · obtain rfl : l = [] := List.eq_nil_of_length_eq_zero hn
    exact ⟨none, 0, rfl, Nat.le_refl _, Nat.zero_le _, fun h => absurd h (by simp)⟩
  · have hp : Pts w g cur T := hh
    refine ⟨_, cap, rfl, hnc, hcm, fun _ => ⟨g, 0, rfl, hp.lt, fun k hk => ?_⟩⟩
    obtain ⟨c0, c1, c2⟩ := sqCells_at l k hk
    have hx : ∀ j, j < l.length * 3 → cur[j]? = (sqCells l)[j]? := by
      intro j hj
      rw [← ht, List.getElem?_take, if_pos hj, Array.getElem?_toList]
    rw [hp.cell, hp.cell, hp.cell, hx _ (by omega), hx _ (by omega), hx _ (by omega)]
    simpa using ⟨c0, c1, c2⟩
theorem OwnSq.lt (h : OwnSq w T base v l) {k : Nat} (hk : v.ownBlock = some k) : base ≤ k ∧ k < w.heap.size := World.ownsRow.lt h k hk
theorem OwnSq.frm {S : Nat → Prop} (h : OwnSq w T base v l) (hf : Frm S w w') (hn : ∀ k, v.ownBlock = some k → ¬ S k) : OwnSq w' T base v l := by
  refine ⟨h.1, ?_⟩
  rcases h.2 with h2 | ⟨g, cap, cur, rfl, hb, hh, r⟩
  · exact .inl h2
  · exact .inr ⟨g, cap, cur, rfl, hb, (hf.block g (Pts.lt hh) (hn g rfl)).trans hh, r⟩
theorem OwnSq.alloc (h : OwnSq w T base v l) (o : Obj) : OwnSq (w.alloc o) T base v l := World.ownsRow.alloc h o
theorem OwnSq.one (w : World) (T base : Nat) (hb : base ≤ w.heap.size) (s : Sq) : OwnSq (w.alloc (.cells #[.int .i64 s.lits, .int .i64 s.mat, .int .i64 s.back] T)) T base (.slice (some ⟨w.heap.size, 0, none⟩) 1 1) [s] :=
  World.ownsRow_lit w #[.int .i64 s.lits, .int .i64 s.mat, .int .i64 s.back] 1 hb (by decide) rfl
end

section
variable {P : Program} (w : World)
theorem run_append_sq (t ty T base : Nat) (ht : P.underlying t = some (.slice T)) (hinfo : (P.info? T).map (fun i => (i.zero, i.size, i.bytes)) = some (some (.agg #[.int .i64 0, .int .i64 0, .int .i64 0]), 3, 24))
    (v : Value) (l : List Sq) (hown : OwnSq w T base v l) (g c : Nat) (s : Sq) (hnews : Pts w g #[.int .i64 s.lits, .int .i64 s.mat, .int .i64 s.back] T)
    (hlen : l.length + 1 ≤ 1000000000) (hbase : base ≤ w.heap.size) :
    ∃ v' w', (Builtin.append_ #[t, t] ty #[v, .slice (some ⟨g, 0, none⟩) 1 c]).run P w = .ok v' w' ∧ OwnSq w' T base v' (l ++ [s]) ∧ Frm (fun k => v.ownBlock = some k) w w' ∧
      (v'.ownBlock = v.ownBlock ∨ v'.ownBlock = some w.heap.size) := by
  obtain ⟨i, hi, hzz⟩ := Option.map_eq_some_iff.1 hinfo
  simp only [Prod.mk.injEq] at hzz
  obtain ⟨hz, hs, hby⟩ := hzz
  have hcells : ∀ j u, (sqCells [s])[j]? = some u → w.cell? ((⟨g, 0, none⟩ : Addr).add j) = some u := by
    intro j u hu
    rw [Opn.add_at, Nat.zero_add, hnews.cell, ← hu]
    show #[Value.int IntKind.i64 s.lits, .int .i64 s.mat, .int .i64 s.back][j]? = [Value.int IntKind.i64 s.lits, .int .i64 s.mat, .int .i64 s.back][j]?
    simp
  obtain ⟨v', w', hrun, h2, h3, _, h5⟩ := run_append_own_at (P := P) w base t ty T i (.agg #[.int .i64 0, .int .i64 0, .int .i64 0]) 3 24 ht hi hz hs hby rfl (by omega) v l.length (sqCells l) hown ⟨g, 0, none⟩ 1 c (sqCells [s]) (by simp [sqCells]) hcells (by intro u hu; simp [sqCells] at hu; rcases hu with rfl | rfl | rfl <;> rfl) (by unfold maxLen; omega) (by omega) hbase
  refine ⟨v', w', hrun, ?_, ⟨h3.os, h3.tape, h3.output, h3.size, fun k hk hn => h3.block k hk (fun e => hn e.symm)⟩, h5⟩
  unfold OwnSq
  rw [List.length_append, sqCells_append]
  exact h2

theorem wpList_append_sq {ops : Array Oper} {rest : List Oper} {o : Oper} {a : Act} {Q : Exit → Act → World → Prop} (hgd : o.guard = none) (u x : Operand) (t : TypeId)
    (ho : o.op = .call { callee := .builtin .append, args := #[u, x], argTypes := #[t, t] })
    (T base : Nat) (ht : P.underlying t = some (.slice T)) (hinfo : (P.info? T).map (fun i => (i.zero, i.size, i.bytes)) = some (some (.agg #[.int .i64 0, .int .i64 0, .int .i64 0]), 3, 24))
    (v : Value) (l : List Sq) (hs : a.eval u = v) (hown : OwnSq w T base v l) (g c : Nat) (s : Sq) (hx : a.eval x = .slice (some ⟨g, 0, none⟩) 1 c) (hnews : Pts w g #[.int .i64 s.lits, .int .i64 s.mat, .int .i64 s.back] T)
    (hlen : l.length + 1 ≤ 1000000000) (hbase : base ≤ w.heap.size)
    (h : ∀ v' w', OwnSq w' T base v' (l ++ [s]) → Frm (fun k => v.ownBlock = some k) w w' → (v'.ownBlock = v.ownBlock ∨ v'.ownBlock = some w.heap.size) → wpList P ops Q rest (a.put o.dst v') w') : wpList P ops Q (o :: rest) a w :=
  wpList_plain hgd fun K' hK' => by
    obtain ⟨v', w', hrun, h2, h3, h4⟩ := run_append_sq (P := P) w t o.type T base ht hinfo v l hown g c s hnews hlen hbase
    unfold Oper.wp execOp
    simp only [ho, resolve, invoke, builtin, Sem.run_bind, Sem.run_pure, Result.andThen_ok, List.map_toArray, List.map_cons, List.map_nil, hs, hx, hrun]
    exact hK' _ _ (h v' w' h2 h3 h4)
end

/-! ### the key of some bytes -/
def keyStep (y : Nat) (x : UInt8) : Nat := (y * 256 % Num.M32) ||| (x.toNat % Num.M32)
def keyFold (l : List UInt8) : Nat := l.foldl keyStep 0
theorem keyStep_lt (y : Nat) (x : UInt8) : keyStep y x < 4294967296 := by
  have e : Num.M32 = 2 ^ 32 := rfl
  unfold keyStep
  rw [e]
  exact Nat.or_lt_two_pow (Nat.mod_lt _ (by decide)) (Nat.mod_lt _ (by decide))
theorem keyStep_cast (y : Nat) (x : UInt8) : bits .or .u32 ((y : Int) * 256 % 4294967296) ((x.toNat : Int) % 4294967296) = (keyStep y x : Int) := by
  have h := Num.or32 (a := y * 256 % Num.M32) (b := x.toNat % Num.M32) (Nat.mod_lt _ (by decide)) (Nat.mod_lt _ (by decide))
  unfold keyStep
  rw [← h]
  unfold Num.M32
  congr 1 <;> omega
theorem keyFold_lt' : ∀ (l : List UInt8) (y : Nat), y < 4294967296 → l.foldl keyStep y < 4294967296
  | [], _, h => h
  | x :: l, y, _ => keyFold_lt' l _ (keyStep_lt y x)
theorem keyFold_lt (l : List UInt8) : keyFold l < 4294967296 := keyFold_lt' l 0 (by decide)
theorem keyFold_take {l : List UInt8} {t : Nat} (h : t < l.length) : keyFold (l.take (t + 1)) = keyStep (keyFold (l.take t)) (l.getD t 0) := by
  unfold keyFold
  rw [List.take_succ_eq_append_getElem h, List.foldl_append]
  simp [List.getD, h]
/-- A place's key. -/
def keyAt (bs : List UInt8) (key i : Nat) : Nat := keyFold ((bs.drop i).take key)

/-! ### a map of places -/
/-- The map reads as f. -/
def MapIs (D : DataW Unit) (f : Int → Option Int) : Prop :=
  Maps.IsMap D ∧ ∀ k, Maps.has D (.int .u32 k) = (f k).isSome ∧ ∀ p, f k = some p → D.atKey (.int .u32 k) (.lit (.int .i64 0)) = .lit (.int .i64 p)
theorem MapIs.empty : MapIs (.map []) (fun _ => none) := ⟨Maps.isMap_empty, fun k => ⟨rfl, fun p h => absurd h (by simp)⟩⟩
theorem MapIs.put {D : DataW Unit} {f : Int → Option Int} (h : MapIs D f) (k p : Int) : MapIs (D.put (.int .u32 k) (.lit (.int .i64 p))) (fun x => if x = k then some p else f x) := by
  obtain ⟨h1, h2⟩ := h
  refine ⟨h1.put _ _, fun x => ?_⟩
  by_cases hx : x = k
  · subst hx
    have hkl : WideAt.IsKeyLit (.int .u32 x) := trivial
    simp only [if_true]
    refine ⟨by rw [Maps.has_put_same h1 hkl]; rfl, fun q hq => ?_⟩
    injection hq with hq
    subst hq
    exact Maps.atKey_put_same h1 hkl _ _
  · have hne : (Lit.int .u32 x) ≠ .int .u32 k := fun e => hx (by injection e)
    simp only [if_neg hx]
    refine ⟨by rw [Maps.has_put_other hne]; exact (h2 x).1, fun q hq => ?_⟩
    rw [Maps.atKey_put_other hne]
    exact (h2 x).2 q hq
theorem World.ownsMap.frm {H : Type} {P : Program} {k : TypeId} {R : Value → Option (DataW H × List MemPlace)} {b n : Nat} {D : DataW H} {w w' : World} {S : Nat → Prop} (h : w.ownsMap P k R b n D) (hf : Frm S w w') (hn : ¬ S b) : w'.ownsMap P k R b n D := by
  have hlt := World.ownsMap.lt h
  obtain ⟨es, clock, hb, r⟩ := h
  exact ⟨es, clock, (hf.block b hlt hn).trans hb, r⟩
end Go.Proofs.Ytjifnnghcaaonaa
