/- A chunk's walk: a state that rests, a reader's total, a step whatever it is. -/
import Derived.Test.YteghpnlamdgpnaaLzV
import Derived.Test.YteghpnlamdgpnaaLzY
namespace Go.Proofs.Yteghpnlamdgpnaa
open Go.RowKit Rng Lz Win
set_option linter.unusedVariables false
set_option linter.unusedSimpArgs false
/-- A state that rests. -/
structure StAt (w : World) (k : LK) (st : Nat) (rep : Nat → Nat) (pr : Pr) : Prop where
  m : Pts w k.sb (mcells k st rep pr) 57
  l : Pts w k.lb (lcells k pr) 38
  fit : ∀ i, pr i < 65536
  ne : k.sb ≠ k.lb
section
variable {Z : Nat → Prop} {w0 w w' : World} {k : LK} {g : RB} {total : Int} {st : Nat} {rep : Nat → Nat} {s : CP Dec} {C told : List UInt8} {wv tv : Value}
theorem StAt.frm {pr : Pr} {N : Nat → Prop} (h : StAt w k st rep pr) (hf : Frm N w w') (h1 : ¬ N k.sb) (h2 : ¬ N k.lb) : StAt w' k st rep pr := ⟨h.m.frm hf h1, h.l.frm hf h2, h.fit, h.ne⟩
theorem RdAt.rested (h : RdAt Z w0 w k g total st rep s C told wv tv) : StAt w k st rep s.pr := ⟨h.lz.m, h.lz.l, h.lz.fit, h.lz.ne.2.2⟩
theorem RdAt.setTotal (h : RdAt Z w0 w k g total st rep s C told wv tv) (t : Int) : RdAt Z w0 (w.setCell ⟨g.xb, 3, none⟩ (.int .i64 t)) k g t st rep s C told wv tv := by
  obtain ⟨cd, hd⟩ := h.dpts
  obtain ⟨cw, hw⟩ := h.win.pts
  obtain ⟨lw, hwo⟩ := h.win.own
  have hf : Frm (fun x => x = g.xb) w (w.setCell ⟨g.xb, 3, none⟩ (.int .i64 t)) := Frm.setCell (S := fun x => x = g.xb) (Frm.refl _ w) (p := ⟨g.xb, 3, none⟩) (by rfl) _
  refine ⟨h.lz.frm (DC.keep _ _) hf ?_, h.win.frm hf ?_ ?_, ?_, h.o.frm hf ?_, h.ne, ⟨h.nr.1, h.nr.2.1, h.nr.2.2.1, h.nr.2.2.2.1, Nat.lt_of_lt_of_le h.nr.2.2.2.2 hf.size⟩, ⟨Nat.le_trans h.bs.1 hf.size, Nat.le_trans h.bs.2 hf.size⟩, h.z, h.f.transW hf ?_⟩
  · rintro q ((e | e) | e | e) e2
    · exact hd.ne_of h.p (by decide) (e.symm.trans e2)
    · exact h.nr.2.1 (e.symm.trans e2)
    · exact h.lz.m.ne_of h.p (by decide) (e.symm.trans e2)
    · exact h.lz.l.ne_of h.p (by decide) (e.symm.trans e2)
  · exact hw.ne_of h.p (by decide)
  · intro q hq e
    subst e
    exact own_ne hwo h.p (by decide) hq
  · exact h.p.set 3 (.int .i64 t)
  · intro q hq e
    subst e
    exact own_ne h.o h.p (by decide) hq
  · rintro q e hq
    exact h.z q (.inr (.inr (.inr (.inr (.inr (.inl e)))))) hq
end
/-- How a step ends, whatever it is. -/
def StepRes (Z : Nat → Prop) (w0 : World) (k : LK) (g : RB) (total : Int) (told : List UInt8) (R : Option (List UInt8 × RS)) (e : Ending) (w' : World) : Prop :=
  (∃ b y wv' tv', R = some (b, y) ∧ e = .returned (.tuple #[]) ∧ RdAt Z w0 w' k g total y.st y.rep y.s y.C (told ++ b) wv' tv') ∨
  (R = none ∧ (∃ x, e = .panicked (wrongP x)) ∧ ∃ st rep s C told wv tv, RdAt Z w0 w' k g total st rep s C told wv tv)
set_option maxRecDepth 100000 in
theorem step_any (Z : Nat → Prop) (w0 w : World) (k : LK) (g : RB) (total room : Nat) (x : RS) (told : List UInt8) (wv tv : Value) (h : RdAt Z w0 w k g (total : Int) x.st x.rep x.s x.C told wv tv)
    (hk : k.Ok) (ht : total < 4611686018427387904) (hx : x.Ok) (hS : g.S ≤ 16777216) (hlen : told.length ≤ 100000000) (hroom : room ≤ 2097152) :
    Calls Try.prog 16 #[.pointer (some ⟨g.xb, 0, none⟩), .int .i64 room] w fun e w' => StepRes Z w0 k g (total : Int) told (stepOf k g.S total room x) e w' := by
  obtain ⟨⟨a, sa⟩, ha⟩ : ∃ y, bitAt outC (8 + x.st * 16 + total % 2 ^ k.pb) 0 x.s = y := ⟨_, rfl⟩
  have hs : stepOf k g.S total room x = (if a = 0 then some ([UInt8.ofNat (litOf outC k x.st total x.rep x.C sa).1], ⟨behS x.st 0, x.rep, (litOf outC k x.st total x.rep x.C sa).2, lastN g.S (x.C ++ [UInt8.ofNat (litOf outC k x.st total x.rep x.C sa).1])⟩)
      else if (opOf outC x.st (total % 2 ^ k.pb) x.rep sa).1 ≤ room ∧ (opOf outC x.st (total % 2 ^ k.pb) x.rep sa).2.2.1 0 + 1 ≤ x.C.length then
        some (cyc x.C ((opOf outC x.st (total % 2 ^ k.pb) x.rep sa).2.2.1 0 + 1) (opOf outC x.st (total % 2 ^ k.pb) x.rep sa).1, ⟨(opOf outC x.st (total % 2 ^ k.pb) x.rep sa).2.1, (opOf outC x.st (total % 2 ^ k.pb) x.rep sa).2.2.1, (opOf outC x.st (total % 2 ^ k.pb) x.rep sa).2.2.2, lastN g.S (x.C ++ cyc x.C ((opOf outC x.st (total % 2 ^ k.pb) x.rep sa).2.2.1 0 + 1) (opOf outC x.st (total % 2 ^ k.pb) x.rep sa).1)⟩)
      else none) := by
    unfold stepOf
    simp only [ha]
  rw [hs]
  have hl := bitAt_le outC (8 + x.st * 16 + total % 2 ^ k.pb) 0 x.s
  rw [ha] at hl
  by_cases h0 : a = 0
  · subst h0
    rw [if_pos rfl]
    refine (step_lit Z w0 w k g total x.st room x.rep x.s sa x.C told wv tv h hk ht hx.st (hx.rep 0) hS hlen _ rfl ha).mono ?_
    rintro e w' ⟨rfl, wv', tv', h'⟩
    exact Or.inl ⟨_, _, wv', tv', rfl, rfl, h'⟩
  · rw [if_neg h0]
    obtain rfl : a = 1 := by simp only at hl; omega
    obtain ⟨⟨sz, st', rep', s'⟩, ho⟩ : ∃ y, opOf outC x.st (total % 2 ^ k.pb) x.rep sa = y := ⟨_, rfl⟩
    rw [ho]
    simp only
    refine (step_op Z w0 w k g total x.st room x.rep x.s sa x.C told wv tv h hk ht hx.st hS hlen hroom _ rfl ha sz st' rep' s' ho).mono ?_
    rintro e w' (⟨hg, rfl, wv', tv', h'⟩ | ⟨hg, h1, h2⟩)
    · rw [if_pos hg]
      exact Or.inl ⟨_, _, wv', tv', rfl, rfl, h'⟩
    · rw [if_neg hg]
      exact Or.inr ⟨rfl, h1, h2⟩
end Go.Proofs.Yteghpnlamdgpnaa
