/- Rows of chances (numbers of sixteen bits): slices that came in, slices of the call's own; append. Over any program. -/
import Derived.Test.YtcnjbdaopphleaaBytes
import Derived.Test.YtcnjbdaopphleaaRngP
namespace Go.Proofs.Ytcnjbdaopphleaa
open Go.RowKit Rng
set_option linter.unusedVariables false
set_option linter.unusedSimpArgs false

/-- A chance, as a value. -/
def halfV (n : Nat) : Value := .int .u16 (n : Int)
/-- The slice (A, its length) reads as the numbers l, and lies below block B. -/
def HRow (w : World) (B : Nat) (A : Option Addr) (l : List Nat) : Prop :=
  0 < l.length → ∃ b off, A = some ⟨b, off, none⟩ ∧ b < B ∧ ∀ k, k < l.length → w.cell? ⟨b, off + k, none⟩ = some (halfV (l.getD k 0))
theorem HRow.nil (w : World) (B : Nat) (A : Option Addr) : HRow w B A [] := fun h => absurd h (by simp)
theorem HRow.more {w : World} {B B' : Nat} {A : Option Addr} {l : List Nat} (h : HRow w B A l) (hB : B ≤ B') : HRow w B' A l := by
  intro hn
  obtain ⟨b, off, rfl, hlt, hc⟩ := h hn
  exact ⟨b, off, rfl, by omega, hc⟩
theorem HRow.below {w w' : World} {B : Nat} {A : Option Addr} {l : List Nat} (h : HRow w B A l) (hb : Below B w w') : HRow w' B A l := by
  intro hn
  obtain ⟨b, off, rfl, hlt, hc⟩ := h hn
  exact ⟨b, off, rfl, hlt, fun k hk' => by rw [hb.cell (p := ⟨b, off + k, none⟩) hlt]; exact hc k hk'⟩
theorem HRow.of_row {w : World} {B n : Nat} {A : Option Addr} {f : Nat → Int} (h : Opn.RowAt w B A n (fun i => .int .u16 (f i))) (hf : ∀ i, i < n → 0 ≤ f i ∧ f i ≤ 65535) :
    ∃ l : List Nat, l.length = n ∧ HRow w B A l ∧ ∀ x ∈ l, x < 65536 := by
  refine ⟨(List.range n).map fun i => (f i).toNat, by simp, fun hn => ?_, fun x hx => ?_⟩
  · simp only [List.length_map, List.length_range] at hn
    obtain ⟨b, off, rfl, hb, hc⟩ := h hn
    refine ⟨b, off, rfl, hb, fun k hk => ?_⟩
    simp only [List.length_map, List.length_range] at hk
    rw [hc k hk]
    have := hf k hk
    have e : ((f k).toNat : Int) = f k := by omega
    simp [halfV, List.getD, hk, e]
  · obtain ⟨i, hi, rfl⟩ := List.mem_map.1 hx
    have := hf i (List.mem_range.1 hi)
    omega
/-- A row of bytes of the call's own (base: the first block that it may lie in; T: the number of the type of bytes). -/
def OwnH (w : World) (T base : Nat) (v : Value) (bs : List Nat) : Prop := w.ownsRow base T 1 v bs.length (bs.map halfV)

section
variable {w w' : World} {T base : Nat} {v : Value} {bs : List Nat}
theorem OwnH.nil (w : World) (T base : Nat) : OwnH w T base (.slice none 0 0) [] := World.ownsRow_nil w base T 1
/-- What an owned row looks like. -/
theorem OwnH.form (h : OwnH w T base v bs) : (v = .slice none 0 0 ∧ bs = []) ∨ ∃ g cap cur, v = .slice (some ⟨g, 0, none⟩) bs.length cap ∧ base ≤ g ∧ Pts w g cur T ∧ bs.length ≤ cap ∧ cap ≤ maxLen ∧ cur.size = cap ∧ ∀ k, k < bs.length → cur[k]? = some (halfV (bs.getD k 0)) := by
  obtain ⟨h1, h2⟩ := h
  rcases h2 with ⟨rfl, hn⟩ | ⟨g, cap, cur, rfl, hb, hh, hnc, hcm, hcs, ht⟩
  · exact .inl ⟨rfl, List.eq_nil_of_length_eq_zero hn⟩
  · refine .inr ⟨g, cap, cur, rfl, hb, hh, hnc, hcm, by simpa using hcs, fun k hk => ?_⟩
    have := congrArg (fun l : List Value => l[k]?) ht
    simp only [Nat.mul_one, List.getElem?_take, hk, if_true, List.getElem?_map] at this
    rw [Array.getElem?_toList] at this
    rw [this]
    simp [List.getD, hk]
theorem OwnH.slice (h : OwnH w T base v bs) : ∃ A cap, v = .slice A bs.length cap ∧ bs.length ≤ cap ∧ cap ≤ maxLen ∧ HRow w w.heap.size A bs := by
  rcases h.form with ⟨rfl, rfl⟩ | ⟨g, cap, cur, rfl, _, hp, hnc, hcm, _, hc⟩
  · exact ⟨none, 0, rfl, Nat.le_refl _, Nat.zero_le _, HRow.nil _ _ _⟩
  · refine ⟨_, cap, rfl, hnc, hcm, fun _ => ⟨g, 0, rfl, hp.lt, fun k hk => ?_⟩⟩
    rw [Nat.zero_add, hp.cell]
    exact hc k hk
theorem OwnH.lt (h : OwnH w T base v bs) {k : Nat} (hk : v.ownBlock = some k) : base ≤ k ∧ k < w.heap.size := World.ownsRow.lt h k hk
theorem OwnH.frm {S : Nat → Prop} (h : OwnH w T base v bs) (hf : Frm S w w') (hn : ∀ k, v.ownBlock = some k → ¬ S k) : OwnH w' T base v bs := by
  refine ⟨h.1, ?_⟩
  rcases h.2 with h2 | ⟨g, cap, cur, rfl, hb, hh, r⟩
  · exact .inl h2
  · exact .inr ⟨g, cap, cur, rfl, hb, (hf.block g (Pts.lt hh) (hn g rfl)).trans hh, r⟩
theorem OwnH.alloc (h : OwnH w T base v bs) (o : Obj) : OwnH (w.alloc o) T base v bs := World.ownsRow.alloc h o
theorem OwnH.drewN (h : OwnH w T base v bs) (n : Nat) : OwnH (w.drewN n) T base v bs := h
theorem OwnH.other (h : OwnH w T base v bs) {p : Addr} (hp : v.ownBlock ≠ some p.block) (u : Value) : OwnH (w.setCell p u) T base v bs :=
  h.frm (S := fun k => k = p.block) ((Frm.refl _ _).setCell (p := p) (by rfl) u) fun k hk e => hp (by rw [hk, e])
end
theorem oneCell_half (bs : List Nat) : ∀ u ∈ bs.map halfV, u.oneCell' = true := by
  intro u hu
  obtain ⟨x, _, rfl⟩ := List.mem_map.1 hu
  rfl

section
variable {P : Program} (w : World)
/-- 'append(v, s...)', v a row of chances of the call's own, s any chances. -/
theorem run_append_half (t ty T base : Nat) (ht : P.underlying t = some (.slice T)) (hinfo : (P.info? T).map (fun i => (i.zero, i.size, i.bytes)) = some (some (.int .u16 0), 1, 2))
    (v : Value) (bs : List Nat) (hown : OwnH w T base v bs) (A : Option Addr) (c B : Nat) (news : List Nat) (hnews : HRow w B A news)
    (hlen : bs.length + news.length ≤ 1000000000) (hbase : base ≤ w.heap.size) :
    ∃ v' w', (Builtin.append_ #[t, t] ty #[v, .slice A news.length c]).run P w = .ok v' w' ∧ OwnH w' T base v' (bs ++ news) ∧ Frm (fun k => v.ownBlock = some k) w w' ∧
      (v'.ownBlock = v.ownBlock ∨ v'.ownBlock = some w.heap.size) := by
  obtain ⟨i, hi, hzz⟩ := Option.map_eq_some_iff.1 hinfo
  simp only [Prod.mk.injEq] at hzz
  obtain ⟨hz, hs, hby⟩ := hzz
  cases A with
  | none =>
    have hn : news = [] := by
      cases news with
      | nil => rfl
      | cons x l =>
        obtain ⟨b, off, e, _⟩ := hnews (by simp)
        cases e
    subst hn
    refine ⟨v, w, ?_, by simpa using hown, Frm.refl _ _, .inl rfl⟩
    rcases hown.form with ⟨rfl, _⟩ | ⟨g, cap, cur, rfl, _, _, hnc, _⟩
    · simp [Builtin.append_, run_underlying ht, sizeOf, typeInfo, hi, Builtin.lenOf, Builtin.firstCells]
    · simp [Builtin.append_, run_underlying ht, sizeOf, typeInfo, hi, Builtin.lenOf, Builtin.firstCells, hnc, storeCells]
  | some ad =>
    have hcells : ∀ j u, (news.map halfV)[j]? = some u → w.cell? (ad.add j) = some u := by
      intro j u hu
      rw [List.getElem?_map] at hu
      obtain ⟨x, hx, rfl⟩ := Option.map_eq_some_iff.1 hu
      have hj : j < news.length := (List.getElem?_eq_some_iff.1 hx).1
      obtain ⟨b, off, e, _, hc⟩ := hnews (by omega)
      injection e with e
      subst e
      rw [Opn.add_at, hc j hj]
      simp [List.getD, hx]
    obtain ⟨v', w', hrun, h2, h3, _, h5⟩ := run_append_own_at (P := P) w base t ty T i (.int .u16 0) 1 2 ht hi hz hs hby rfl (by omega) v bs.length (bs.map halfV) hown ad news.length c (news.map halfV) (by simp) hcells (oneCell_half news) (by unfold maxLen; omega) (by omega) hbase
    refine ⟨v', w', hrun, ?_, ⟨h3.os, h3.tape, h3.output, h3.size, fun k hk hn => h3.block k hk (fun e => hn e.symm)⟩, h5⟩
    unfold OwnH
    rw [List.length_append, List.map_append]
    exact h2

theorem wp_append_half {o : Oper} {a : Act} {K : Act → World → Prop} {Q : Exit → Act → World → Prop} (s x : Operand) (t : TypeId)
    (ho : o.op = .call { callee := .builtin .append, args := #[s, x], argTypes := #[t, t] })
    (T base : Nat) (ht : P.underlying t = some (.slice T)) (hinfo : (P.info? T).map (fun i => (i.zero, i.size, i.bytes)) = some (some (.int .u16 0), 1, 2))
    (v : Value) (bs : List Nat) (hs : a.eval s = v) (hown : OwnH w T base v bs) (A : Option Addr) (m c B : Nat) (news : List Nat) (hx : a.eval x = .slice A m c) (hm : m = news.length) (hnews : HRow w B A news)
    (hlen : bs.length + news.length ≤ 1000000000) (hbase : base ≤ w.heap.size)
    (h : ∀ v' w', OwnH w' T base v' (bs ++ news) → Frm (fun k => v.ownBlock = some k) w w' → (v'.ownBlock = v.ownBlock ∨ v'.ownBlock = some w.heap.size) → K (a.put o.dst v') w') : o.wp P a w K Q := by
  subst hm
  obtain ⟨v', w', hrun, h2, h3, h4⟩ := run_append_half (P := P) w t o.type T base ht hinfo v bs hown A c B news hnews hlen hbase
  unfold Oper.wp execOp
  simp only [ho, resolve, invoke, builtin, Sem.run_bind, Sem.run_pure, Result.andThen_ok, List.map_toArray, List.map_cons, List.map_nil, hs, hx, hrun]
  exact h v' w' h2 h3 h4

theorem wpList_append_half {ops : Array Oper} {rest : List Oper} {o : Oper} {a : Act} {Q : Exit → Act → World → Prop} (hgd : o.guard = none) (s x : Operand) (t : TypeId)
    (ho : o.op = .call { callee := .builtin .append, args := #[s, x], argTypes := #[t, t] })
    (T base : Nat) (ht : P.underlying t = some (.slice T)) (hinfo : (P.info? T).map (fun i => (i.zero, i.size, i.bytes)) = some (some (.int .u16 0), 1, 2))
    (v : Value) (bs : List Nat) (hs : a.eval s = v) (hown : OwnH w T base v bs) (A : Option Addr) (m c B : Nat) (news : List Nat) (hx : a.eval x = .slice A m c) (hm : m = news.length) (hnews : HRow w B A news)
    (hlen : bs.length + news.length ≤ 1000000000) (hbase : base ≤ w.heap.size)
    (h : ∀ v' w', OwnH w' T base v' (bs ++ news) → Frm (fun k => v.ownBlock = some k) w w' → (v'.ownBlock = v.ownBlock ∨ v'.ownBlock = some w.heap.size) → wpList P ops Q rest (a.put o.dst v') w') : wpList P ops Q (o :: rest) a w :=
  wpList_plain hgd fun _ hK => wp_append_half w s x t ho T base ht hinfo v bs hs hown A m c B news hx hm hnews hlen hbase fun v' w' h2 h3 h4 => hK _ _ (h v' w' h2 h3 h4)
end

/-- The row of a literal without elements. -/
theorem OwnH.made (w : World) (T base : Nat) (hb : base ≤ w.heap.size) : OwnH (w.alloc (.cells #[] T)) T base (.slice (some ⟨w.heap.size, 0, none⟩) 0 0) [] :=
  World.ownsRow_made w #[] 0 hb (Nat.zero_le _) rfl

/-- A byte of an owned row is written. -/
theorem OwnH.set {w : World} {T base g n cap : Nat} {bs : List Nat} (h : OwnH w T base (.slice (some ⟨g, 0, none⟩) n cap) bs) (k : Nat) (hk : k < bs.length) (y : Nat) :
    OwnH (w.setCell ⟨g, k, none⟩ (halfV y)) T base (.slice (some ⟨g, 0, none⟩) n cap) (bs.set k y) := by
  obtain ⟨h1, h2⟩ := h
  rcases h2 with ⟨hv, _⟩ | ⟨g', cap', cur, hv, hb, hh, hnc, hcm, hcs, ht⟩
  · cases hv
  · injection hv with e1 e2 e3
    injection e1 with e1
    injection e1 with e1
    subst e1; subst e2; subst e3
    refine ⟨by simp, .inr ⟨g, cap, cur.setIfInBounds k (halfV y), by rw [List.length_set], hb, Pts.set (w := w) (b := g) hh k (halfV y), by rw [List.length_set]; exact hnc, hcm, by rw [Array.size_setIfInBounds]; exact hcs, ?_⟩⟩
    rw [List.length_set, Array.toList_setIfInBounds, List.take_set, ht, List.map_set]
theorem OwnH.slice2 {w : World} {T base : Nat} {v : Value} {l : List Nat} (h : OwnH w T base v l) : ∃ A cap, v = .slice A l.length cap ∧ l.length ≤ cap ∧ cap ≤ maxLen := by
  obtain ⟨A, c, e, h1, h2, _⟩ := h.slice
  exact ⟨A, c, e, h1, h2⟩
/-- A number of an owned row that has one: where it lies. -/
theorem OwnH.block {w : World} {T base : Nat} {v : Value} {l : List Nat} (h : OwnH w T base v l) (h0 : 0 < l.length) : ∃ g cap cur, v = .slice (some ⟨g, 0, none⟩) l.length cap ∧ base ≤ g ∧ Pts w g cur T ∧ l.length ≤ cap ∧ cap ≤ maxLen ∧ ∀ k, k < l.length → w.cell? ⟨g, k, none⟩ = some (halfV (l.getD k 0)) := by
  rcases h.form with ⟨_, rfl⟩ | ⟨g, cap, cur, e, hb, hp, h1, h2, _, hc⟩
  · simp at h0
  · exact ⟨g, cap, cur, e, hb, hp, h1, h2, fun k hk => by rw [hp.cell]; exact hc k hk⟩
end Go.Proofs.Ytcnjbdaopphleaa
