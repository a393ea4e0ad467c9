/- Texts of this proof, put together: LzR. -/
import Derived.Test.YtffehfpbdcokbaaDoorBu14
set_option linter.unusedVariables false
set_option linter.unusedSimpArgs false
/- A reader in memory. -/
namespace Go.Proofs.YtffehfpbdcokbaaDoor
open Go.RowKit Rng Lz Win
set_option linter.unusedVariables false
set_option linter.unusedSimpArgs false
/-- The blocks of a reader: decoder, its bytes, window, its ledger, the reader; the window's size; from where on the window's and the told bytes' blocks lie. -/
structure RB where
  db : Nat
  rb : Nat
  wb : Nat
  kb : Nat
  xb : Nat
  S : Nat
  bw : Nat
  bt : Nat
theorem Pts.ne_of {w : World} {b b' : Nat} {c c' : Array Value} {T T' : TypeId} (h : Pts w b c T) (h' : Pts w b' c' T') (hT : T ≠ T') : b ≠ b' := by
  rintro rfl
  have e := h.symm.trans h'
  injection e with e
  injection e with e1 e2
  exact hT e2
/-- A reader at work, since world w0: Z holds the blocks that it may write of those that were. -/
structure RdAt (Z : Nat → Prop) (w0 w : World) (k : LK) (g : RB) (total : Int) (st : Nat) (rep : Nat → Nat) (s : CP Dec) (C told : List UInt8) (wv tv : Value) : Prop where
  lz : LzAt (DC g.db g.rb) (DO g.db g.rb) 56 w k st rep s
  win : WinC w g.bw g.wb g.kb g.S C wv
  p : Pts w g.xb #[.pointer (some ⟨k.sb, 0, none⟩), .pointer (some ⟨g.wb, 0, none⟩), .pointer (some ⟨g.db, 0, none⟩), .int .i64 total, tv] 70
  o : OwnB w 5 g.bt tv told
  ne : ∀ q, wv.ownBlock = some q → tv.ownBlock ≠ some q
  nr : g.rb ≠ g.wb ∧ g.rb ≠ g.xb ∧ wv.ownBlock ≠ some g.rb ∧ tv.ownBlock ≠ some g.rb ∧ g.rb < w.heap.size
  bs : g.bw ≤ w.heap.size ∧ g.bt ≤ w.heap.size
  z : ∀ q, (q = g.db ∨ q = g.rb ∨ q = k.sb ∨ q = k.lb ∨ q = g.wb ∨ q = g.xb ∨ wv.ownBlock = some q ∨ tv.ownBlock = some q) → q < w0.heap.size → Z q
  f : Frm Z w0 w
section
variable {Z : Nat → Prop} {w0 w w' : World} {k : LK} {g : RB} {total : Int} {st : Nat} {rep : Nat → Nat} {s : CP Dec} {C told : List UInt8} {wv tv : Value}
theorem RdAt.dpts (h : RdAt Z w0 w k g total st rep s C told wv tv) : ∃ c, Pts w g.db c 86 := by
  exact DC.pts h.lz.c
theorem RdAt.lzStep {st' : Nat} {rep' : Nat → Nat} {s' : CP Dec} (h : RdAt Z w0 w k g total st rep s C told wv tv) (hl : LzAt (DC g.db g.rb) (DO g.db g.rb) 56 w' k st' rep' s') (hf : Frm (Wr (DO g.db g.rb) k) w w') : RdAt Z w0 w' k g total st' rep' s' C told wv tv := by
  obtain ⟨cd, hd⟩ := h.dpts
  obtain ⟨cw, hw⟩ := h.win.pts
  obtain ⟨lw, hwo⟩ := h.win.own
  refine ⟨hl, h.win.frm hf ?_ ?_, h.p.frm hf ?_, h.o.frm hf ?_, h.ne, ⟨h.nr.1, h.nr.2.1, h.nr.2.2.1, h.nr.2.2.2.1, Nat.lt_of_lt_of_le h.nr.2.2.2.2 hf.size⟩, ⟨Nat.le_trans h.bs.1 hf.size, Nat.le_trans h.bs.2 hf.size⟩, h.z, h.f.transW hf ?_⟩
  · rintro ((e | e) | e | e)
    · exact hw.ne_of hd (by decide) e
    · exact h.nr.1 e.symm
    · exact hw.ne_of h.lz.m (by decide) e
    · exact hw.ne_of h.lz.l (by decide) e
  · intro q hq
    rintro ((e | e) | e | e)
    · subst e; exact own_ne hwo hd (by decide) hq
    · subst e; exact h.nr.2.2.1 hq
    · subst e; exact own_ne hwo h.lz.m (by decide) hq
    · subst e; exact own_ne hwo h.lz.l (by decide) hq
  · rintro ((e | e) | e | e)
    · exact h.p.ne_of hd (by decide) e
    · exact h.nr.2.1 e.symm
    · exact h.p.ne_of h.lz.m (by decide) e
    · exact h.p.ne_of h.lz.l (by decide) e
  · intro q hq
    rintro ((e | e) | e | e)
    · subst e; exact own_ne h.o hd (by decide) hq
    · subst e; exact h.nr.2.2.2.1 hq
    · subst e; exact own_ne h.o h.lz.m (by decide) hq
    · subst e; exact own_ne h.o h.lz.l (by decide) hq
  · rintro q ((e | e) | e | e) hq
    · exact h.z q (.inl e) hq
    · exact h.z q (.inr (.inl e)) hq
    · exact h.z q (.inr (.inr (.inl e))) hq
    · exact h.z q (.inr (.inr (.inr (.inl e)))) hq
theorem RdAt.winStep {C' : List UInt8} {wv' : Value} (h : RdAt Z w0 w k g total st rep s C told wv tv) (hw' : WinC w' g.bw g.wb g.kb g.S C' wv') (hf : Frm (fun x => x = g.wb ∨ wv.ownBlock = some x) w w') (hm : Mv w wv wv') : RdAt Z w0 w' k g total st rep s C' told wv' tv := by
  obtain ⟨cd, hd⟩ := h.dpts
  obtain ⟨cw, hw⟩ := h.win.pts
  obtain ⟨lw, hwo⟩ := h.win.own
  have hrb := h.nr.2.2.2.2
  refine ⟨h.lz.frm (DC.keep _ _) hf ?_, hw', h.p.frm hf ?_, h.o.frm hf ?_, ?_, ⟨h.nr.1, h.nr.2.1, ?_, h.nr.2.2.2.1, Nat.lt_of_lt_of_le hrb hf.size⟩, ⟨Nat.le_trans h.bs.1 hf.size, Nat.le_trans h.bs.2 hf.size⟩, ?_, h.f.transW hf ?_⟩
  · rintro q ((e | e) | e | e) (e2 | e2)
    · exact hd.ne_of hw (by decide) (e.symm.trans e2)
    · subst e; exact own_ne hwo hd (by decide) e2
    · exact h.nr.1 (e.symm.trans e2)
    · subst e; exact h.nr.2.2.1 e2
    · exact h.lz.m.ne_of hw (by decide) (e.symm.trans e2)
    · subst e; exact own_ne hwo h.lz.m (by decide) e2
    · exact h.lz.l.ne_of hw (by decide) (e.symm.trans e2)
    · subst e; exact own_ne hwo h.lz.l (by decide) e2
  · rintro (e | e)
    · exact h.p.ne_of hw (by decide) e
    · exact own_ne hwo h.p (by decide) e
  · intro q hq
    rintro (e | e)
    · subst e; exact own_ne h.o hw (by decide) hq
    · exact h.ne q e hq
  · intro q hq ht
    rcases hm q hq with e | e
    · exact h.ne q e ht
    · have := (h.o.lt ht).2; omega
  · intro e
    rcases hm _ e with e2 | e2
    · exact h.nr.2.2.1 e2
    · omega
  · intro q hq hlt
    rcases hq with e | e | e | e | e | e | e | e
    · exact h.z q (.inl e) hlt
    · exact h.z q (.inr (.inl e)) hlt
    · exact h.z q (.inr (.inr (.inl e))) hlt
    · exact h.z q (.inr (.inr (.inr (.inl e)))) hlt
    · exact h.z q (.inr (.inr (.inr (.inr (.inl e))))) hlt
    · exact h.z q (.inr (.inr (.inr (.inr (.inr (.inl e)))))) hlt
    · rcases hm q e with e2 | e2
      · exact h.z q (.inr (.inr (.inr (.inr (.inr (.inr (.inl e2))))))) hlt
      · have := h.f.size; omega
    · exact h.z q (.inr (.inr (.inr (.inr (.inr (.inr (.inr e))))))) hlt
  · rintro q (e | e) hlt
    · exact h.z q (.inr (.inr (.inr (.inr (.inl e))))) hlt
    · exact h.z q (.inr (.inr (.inr (.inr (.inr (.inr (.inl e))))))) hlt
theorem RdAt.frmOut {N : Nat → Prop} (h : RdAt Z w0 w k g total st rep s C told wv tv) (hf : Frm N w w') (hN : ∀ q, N q → w.heap.size ≤ q) : RdAt Z w0 w' k g total st rep s C told wv tv := by
  have hf' : Frm (fun _ => False) w w' := ⟨hf.os, hf.tape, hf.output, hf.size, fun q hq _ => hf.block q hq (fun hn => by have := hN q hn; omega)⟩
  exact ⟨h.lz.later (DC.keep _ _) hf', h.win.frm hf' id (fun _ _ h => h), h.p.frm hf' id, h.o.frm hf' (fun _ _ h => h), h.ne, ⟨h.nr.1, h.nr.2.1, h.nr.2.2.1, h.nr.2.2.2.1, Nat.lt_of_lt_of_le h.nr.2.2.2.2 hf.size⟩, ⟨Nat.le_trans h.bs.1 hf.size, Nat.le_trans h.bs.2 hf.size⟩, h.z, h.f.transW hf' (fun _ h => h.elim)⟩
theorem RdAt.drewN (h : RdAt Z w0 w k g total st rep s C told wv tv) (n : Nat) : RdAt Z w0 (w.drewN n) k g total st rep s C told wv tv := h.frmOut ((Frm.refl (fun _ => False) w).drewN n) (fun _ h => h.elim)
theorem RdAt.alloc (h : RdAt Z w0 w k g total st rep s C told wv tv) (X : Obj) : RdAt Z w0 (w.alloc X) k g total st rep s C told wv tv := h.frmOut ((Frm.refl (fun _ => False) w).alloc X) (fun _ h => h.elim)
theorem RdAt.toldStep {told' : List UInt8} {tv' : Value} {w1 : World} (h : RdAt Z w0 w k g total st rep s C told wv tv) (ho : OwnB w1 5 g.bt tv' told') (hf : Frm (fun x => tv.ownBlock = some x) w w1) (hm : tv'.ownBlock = tv.ownBlock ∨ tv'.ownBlock = some w.heap.size) : RdAt Z w0 (w1.setCell ⟨g.xb, 4, none⟩ tv') k g total st rep s C told' wv tv' := by
  obtain ⟨cd, hd⟩ := h.dpts
  obtain ⟨cw, hw⟩ := h.win.pts
  obtain ⟨lw, hwo⟩ := h.win.own
  have hrb := h.nr.2.2.2.2
  have hmv : ∀ q, tv'.ownBlock = some q → tv.ownBlock = some q ∨ w.heap.size ≤ q := by
    intro q hq
    rcases hm with e | e
    · exact .inl (e ▸ hq)
    · rw [e] at hq; injection hq with hq; exact .inr (by omega)
  have hxlt := h.p.lt
  have hf2 : Frm (fun x => x = g.xb ∨ tv.ownBlock = some x) w (w1.setCell ⟨g.xb, 4, none⟩ tv') := (hf.mono fun q _ e => .inr e).setCell (p := ⟨g.xb, 4, none⟩) (.inl rfl) tv'
  have hx : tv'.ownBlock ≠ some g.xb := by
    intro e
    rcases hmv _ e with e2 | e2
    · exact own_ne h.o h.p (by decide) e2
    · omega
  refine ⟨h.lz.frm (DC.keep _ _) hf2 ?_, h.win.frm hf2 ?_ ?_, (h.p.frm hf (own_ne h.o h.p (by decide))).set 4 tv', ho.other (p := ⟨g.xb, 4, none⟩) hx tv', ?_, ⟨h.nr.1, h.nr.2.1, h.nr.2.2.1, ?_, Nat.lt_of_lt_of_le hrb hf2.size⟩, ⟨Nat.le_trans h.bs.1 hf2.size, Nat.le_trans h.bs.2 hf2.size⟩, ?_, h.f.transW hf2 ?_⟩
  · rintro q ((e | e) | e | e) (e2 | e2)
    · exact hd.ne_of h.p (by decide) (e.symm.trans e2)
    · subst e; exact own_ne h.o hd (by decide) e2
    · exact h.nr.2.1 (e.symm.trans e2)
    · subst e; exact h.nr.2.2.2.1 e2
    · exact h.lz.m.ne_of h.p (by decide) (e.symm.trans e2)
    · subst e; exact own_ne h.o h.lz.m (by decide) e2
    · exact h.lz.l.ne_of h.p (by decide) (e.symm.trans e2)
    · subst e; exact own_ne h.o h.lz.l (by decide) e2
  · rintro (e | e)
    · exact hw.ne_of h.p (by decide) e
    · exact own_ne h.o hw (by decide) e
  · intro q hq
    rintro (e | e)
    · subst e; exact own_ne hwo h.p (by decide) hq
    · exact h.ne q hq e
  · intro q hq ht
    rcases hmv q ht with e | e
    · exact h.ne q hq e
    · have := (hwo.lt hq).2; omega
  · intro e
    rcases hmv _ e with e2 | e2
    · exact h.nr.2.2.2.1 e2
    · omega
  · intro q hq hlt
    rcases hq with e | e | e | e | e | e | e | e
    · exact h.z q (.inl e) hlt
    · exact h.z q (.inr (.inl e)) hlt
    · exact h.z q (.inr (.inr (.inl e))) hlt
    · exact h.z q (.inr (.inr (.inr (.inl e)))) hlt
    · exact h.z q (.inr (.inr (.inr (.inr (.inl e))))) hlt
    · exact h.z q (.inr (.inr (.inr (.inr (.inr (.inl e)))))) hlt
    · exact h.z q (.inr (.inr (.inr (.inr (.inr (.inr (.inl e))))))) hlt
    · rcases hmv q e with e2 | e2
      · exact h.z q (.inr (.inr (.inr (.inr (.inr (.inr (.inr e2))))))) hlt
      · have := h.f.size; omega
  · rintro q (e | e) hlt
    · exact h.z q (.inr (.inr (.inr (.inr (.inr (.inl e)))))) hlt
    · exact h.z q (.inr (.inr (.inr (.inr (.inr (.inr (.inr e))))))) hlt
end
end Go.Proofs.YtffehfpbdcokbaaDoor
