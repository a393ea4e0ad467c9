/- A row of pointers of the call's own. -/
import Derived.Test.YtjeaepkncboodaaWinH
import Derived.Maps.AppendAt
namespace Go.Proofs.Ytjeaepkncboodaa
open Go.RowKit Win
set_option linter.unusedVariables false
set_option linter.unusedSimpArgs false

def ptrV (b : Nat) : Value := .pointer (some ⟨b, 0, none⟩)
/-- A row of pointers of the call's own. -/
def OwnP (w : World) (T base : Nat) (v : Value) (ps : List Nat) : Prop := w.ownsRow base T 1 v ps.length (ps.map ptrV)
section
variable {w w' : World} {T base : Nat} {v : Value} {ps : List Nat}
theorem OwnP.nil (w : World) (T base : Nat) : OwnP w T base (.slice none 0 0) [] := World.ownsRow_nil w base T 1
theorem OwnP.form (h : OwnP w T base v ps) : (v = .slice none 0 0 ∧ ps = []) ∨ ∃ g cap cur, v = .slice (some ⟨g, 0, none⟩) ps.length cap ∧ base ≤ g ∧ Pts w g cur T ∧ ps.length ≤ cap ∧ cap ≤ maxLen ∧ ∀ k, k < ps.length → w.cell? ⟨g, k, none⟩ = some (ptrV (ps.getD k 0)) := by
  obtain ⟨h1, h2⟩ := h
  rcases h2 with ⟨rfl, hn⟩ | ⟨g, cap, cur, rfl, hb, hh, hnc, hcm, hcs, ht⟩
  · exact .inl ⟨rfl, List.eq_nil_of_length_eq_zero hn⟩
  · refine .inr ⟨g, cap, cur, rfl, hb, hh, hnc, hcm, fun k hk => ?_⟩
    have hp : Pts w g cur T := hh
    have := congrArg (fun l : List Value => l[k]?) ht
    simp only [Nat.mul_one, List.getElem?_take, hk, if_true, List.getElem?_map] at this
    rw [Array.getElem?_toList] at this
    rw [hp.cell, this]
    simp [List.getD, hk]
theorem OwnP.slice (h : OwnP w T base v ps) : ∃ A cap, v = .slice A ps.length cap ∧ ps.length ≤ cap ∧ cap ≤ maxLen := by
  rcases h.form with ⟨rfl, rfl⟩ | ⟨g, cap, cur, rfl, _, _, h1, h2, _⟩
  · exact ⟨none, 0, rfl, Nat.le_refl _, Nat.zero_le _⟩
  · exact ⟨_, cap, rfl, h1, h2⟩
theorem OwnP.lt (h : OwnP w T base v ps) {k : Nat} (hk : v.ownBlock = some k) : base ≤ k ∧ k < w.heap.size := World.ownsRow.lt h k hk
theorem OwnP.frm {S : Nat → Prop} (h : OwnP w T base v ps) (hf : Frm S w w') (hn : ∀ k, v.ownBlock = some k → ¬ S k) : OwnP w' T base v ps := by
  refine ⟨h.1, ?_⟩
  rcases h.2 with h2 | ⟨g, cap, cur, rfl, hb, hh, r⟩
  · exact .inl h2
  · exact .inr ⟨g, cap, cur, rfl, hb, (hf.block g (Pts.lt hh) (hn g rfl)).trans hh, r⟩
theorem OwnP.alloc (h : OwnP w T base v ps) (o : Obj) : OwnP (w.alloc o) T base v ps := World.ownsRow.alloc h o
end

theorem wpList_append_ptr {P : Program} (w : World) {ops : Array Oper} {rest : List Oper} {o : Oper} {a : Act} {Q : Exit → Act → World → Prop} (hgd : o.guard = none) (u x : Operand) (t : TypeId)
    (ho : o.op = .call { callee := .builtin .append, args := #[u, x], argTypes := #[t, t] })
    (T base : Nat) (ht : P.underlying t = some (.slice T)) (hinfo : (P.info? T).map (fun i => (i.zero, i.size, i.bytes)) = some (some (.pointer none), 1, 8))
    (v : Value) (ps : List Nat) (hs : a.eval u = v) (hown : OwnP w T base v ps) (g c q : Nat) (hx : a.eval x = .slice (some ⟨g, 0, none⟩) 1 c) (hnews : Pts w g #[ptrV q] T)
    (hlen : ps.length + 1 ≤ 1000000000) (hbase : base ≤ w.heap.size)
    (h : ∀ v' w', OwnP w' T base v' (ps ++ [q]) → Frm (fun k => v.ownBlock = some k) w w' → (v'.ownBlock = v.ownBlock ∨ v'.ownBlock = some w.heap.size) → wpList P ops Q rest (a.put o.dst v') w') : wpList P ops Q (o :: rest) a w :=
  wpList_plain hgd fun K' hK' => by
    obtain ⟨i, hi, hzz⟩ := Option.map_eq_some_iff.1 hinfo
    simp only [Prod.mk.injEq] at hzz
    obtain ⟨hz, hsz, hby⟩ := hzz
    have hcells : ∀ j y, ([ptrV q] : List Value)[j]? = some y → w.cell? ((⟨g, 0, none⟩ : Addr).add j) = some y := by
      intro j y hy
      rw [Opn.add_at, Nat.zero_add, hnews.cell, ← hy]
      simp
    obtain ⟨v', w', hrun, h2, h3, _, h5⟩ := run_append_own_at (P := P) w base t o.type T i (.pointer none) 1 8 ht hi hz hsz hby rfl (by omega) v ps.length (ps.map ptrV) hown ⟨g, 0, none⟩ 1 c [ptrV q] (by simp) hcells (by intro y hy; simp at hy; subst hy; rfl) (by unfold maxLen; omega) (by omega) hbase
    unfold Oper.wp execOp
    simp only [ho, resolve, invoke, builtin, Sem.run_bind, Sem.run_pure, Result.andThen_ok, List.map_toArray, List.map_cons, List.map_nil, hs, hx, hrun]
    refine hK' _ _ (h v' w' ?_ ⟨h3.os, h3.tape, h3.output, h3.size, fun k hk hn => h3.block k hk (fun e => hn e.symm)⟩ h5)
    unfold OwnP
    rw [List.length_append, List.map_append]
    exact h2
theorem Try.info_ptr : (Try.prog.info? 25).map (fun i => (i.zero, i.size, i.bytes)) = some (some (.pointer none), 1, 8) := by kernel_rfl
end Go.Proofs.Ytjeaepkncboodaa
