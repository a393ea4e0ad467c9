/- Texts of this proof, put together: LcA, LcB, LcC, LcD, LcQ, LcF, LdD. -/
import Derived.Deep.LoopGhost
import Derived.Deep.Onto
import Derived.Test.YteghpnlamdgpnaaBu1
import Derived.Test.YteghpnlamdgpnaaBu2
/- A chunk's walk: a state that rests, a reader's total, a step whatever it is. -/
namespace Go.Proofs.Yteghpnlamdgpnaa
open Go.RowKit Rng Lz Win
set_option linter.unusedVariables false
set_option linter.unusedSimpArgs false
/-- A state that rests. -/
structure StAt (w : World) (k : LK) (st : Nat) (rep : Nat → Nat) (pr : Pr) : Prop where
  m : Pts w k.sb (mcells k st rep pr) 57
  l : Pts w k.lb (lcells k pr) 38
  fit : ∀ i, pr i < 65536
  ne : k.sb ≠ k.lb
section
variable {Z : Nat → Prop} {w0 w w' : World} {k : LK} {g : RB} {total : Int} {st : Nat} {rep : Nat → Nat} {s : CP Dec} {C told : List UInt8} {wv tv : Value}
theorem StAt.frm {pr : Pr} {N : Nat → Prop} (h : StAt w k st rep pr) (hf : Frm N w w') (h1 : ¬ N k.sb) (h2 : ¬ N k.lb) : StAt w' k st rep pr := ⟨h.m.frm hf h1, h.l.frm hf h2, h.fit, h.ne⟩
theorem RdAt.rested (h : RdAt Z w0 w k g total st rep s C told wv tv) : StAt w k st rep s.pr := ⟨h.lz.m, h.lz.l, h.lz.fit, h.lz.ne.2.2⟩
theorem RdAt.setTotal (h : RdAt Z w0 w k g total st rep s C told wv tv) (t : Int) : RdAt Z w0 (w.setCell ⟨g.xb, 3, none⟩ (.int .i64 t)) k g t st rep s C told wv tv := by
  obtain ⟨cd, hd⟩ := h.dpts
  obtain ⟨cw, hw⟩ := h.win.pts
  obtain ⟨lw, hwo⟩ := h.win.own
  have hf : Frm (fun x => x = g.xb) w (w.setCell ⟨g.xb, 3, none⟩ (.int .i64 t)) := Frm.setCell (S := fun x => x = g.xb) (Frm.refl _ w) (p := ⟨g.xb, 3, none⟩) (by rfl) _
  refine ⟨h.lz.frm (DC.keep _ _) hf ?_, h.win.frm hf ?_ ?_, ?_, h.o.frm hf ?_, h.ne, ⟨h.nr.1, h.nr.2.1, h.nr.2.2.1, h.nr.2.2.2.1, Nat.lt_of_lt_of_le h.nr.2.2.2.2 hf.size⟩, ⟨Nat.le_trans h.bs.1 hf.size, Nat.le_trans h.bs.2 hf.size⟩, h.z, h.f.transW hf ?_⟩
  · rintro q ((e | e) | e | e) e2
    · exact hd.ne_of h.p (by decide) (e.symm.trans e2)
    · exact h.nr.2.1 (e.symm.trans e2)
    · exact h.lz.m.ne_of h.p (by decide) (e.symm.trans e2)
    · exact h.lz.l.ne_of h.p (by decide) (e.symm.trans e2)
  · exact hw.ne_of h.p (by decide)
  · intro q hq e
    subst e
    exact own_ne hwo h.p (by decide) hq
  · exact h.p.set 3 (.int .i64 t)
  · intro q hq e
    subst e
    exact own_ne h.o h.p (by decide) hq
  · rintro q e hq
    exact h.z q (.inr (.inr (.inr (.inr (.inr (.inl e)))))) hq
end
/-- How a step ends, whatever it is. -/
def StepRes (Z : Nat → Prop) (w0 : World) (k : LK) (g : RB) (total : Int) (told : List UInt8) (R : Option (List UInt8 × RS)) (e : Ending) (w' : World) : Prop :=
  (∃ b y wv' tv', R = some (b, y) ∧ e = .returned (.tuple #[]) ∧ RdAt Z w0 w' k g total y.st y.rep y.s y.C (told ++ b) wv' tv') ∨
  (R = none ∧ (∃ x, e = .panicked (wrongP x)) ∧ ∃ st rep s C told wv tv, RdAt Z w0 w' k g total st rep s C told wv tv)
set_option maxRecDepth 100000 in
theorem step_any (Z : Nat → Prop) (w0 w : World) (k : LK) (g : RB) (total room : Nat) (x : RS) (told : List UInt8) (wv tv : Value) (h : RdAt Z w0 w k g (total : Int) x.st x.rep x.s x.C told wv tv)
    (hk : k.Ok) (ht : total < 4611686018427387904) (hx : x.Ok) (hS : g.S ≤ 16777216) (hlen : told.length ≤ 100000000) (hroom : room ≤ 2097152) :
    Calls Try.prog 16 #[.pointer (some ⟨g.xb, 0, none⟩), .int .i64 room] w fun e w' => StepRes Z w0 k g (total : Int) told (stepOf k g.S total room x) e w' := by
  obtain ⟨⟨a, sa⟩, ha⟩ : ∃ y, bitAt outC (8 + x.st * 16 + total % 2 ^ k.pb) 0 x.s = y := ⟨_, rfl⟩
  have hs : stepOf k g.S total room x = (if a = 0 then some ([UInt8.ofNat (litOf outC k x.st total x.rep x.C sa).1], ⟨behS x.st 0, x.rep, (litOf outC k x.st total x.rep x.C sa).2, lastN g.S (x.C ++ [UInt8.ofNat (litOf outC k x.st total x.rep x.C sa).1])⟩)
      else if (opOf outC x.st (total % 2 ^ k.pb) x.rep sa).1 ≤ room ∧ (opOf outC x.st (total % 2 ^ k.pb) x.rep sa).2.2.1 0 + 1 ≤ x.C.length then
        some (cyc x.C ((opOf outC x.st (total % 2 ^ k.pb) x.rep sa).2.2.1 0 + 1) (opOf outC x.st (total % 2 ^ k.pb) x.rep sa).1, ⟨(opOf outC x.st (total % 2 ^ k.pb) x.rep sa).2.1, (opOf outC x.st (total % 2 ^ k.pb) x.rep sa).2.2.1, (opOf outC x.st (total % 2 ^ k.pb) x.rep sa).2.2.2, lastN g.S (x.C ++ cyc x.C ((opOf outC x.st (total % 2 ^ k.pb) x.rep sa).2.2.1 0 + 1) (opOf outC x.st (total % 2 ^ k.pb) x.rep sa).1)⟩)
      else none) := by
    unfold stepOf
    simp only [ha]
  rw [hs]
  have hl := bitAt_le outC (8 + x.st * 16 + total % 2 ^ k.pb) 0 x.s
  rw [ha] at hl
  by_cases h0 : a = 0
  · subst h0
    rw [if_pos rfl]
    refine (step_lit Z w0 w k g total x.st room x.rep x.s sa x.C told wv tv h hk ht hx.st (hx.rep 0) hS hlen _ rfl ha).mono ?_
    rintro e w' ⟨rfl, wv', tv', h'⟩
    exact Or.inl ⟨_, _, wv', tv', rfl, rfl, h'⟩
  · rw [if_neg h0]
    obtain rfl : a = 1 := by simp only at hl; omega
    obtain ⟨⟨sz, st', rep', s'⟩, ho⟩ : ∃ y, opOf outC x.st (total % 2 ^ k.pb) x.rep sa = y := ⟨_, rfl⟩
    rw [ho]
    simp only
    refine (step_op Z w0 w k g total x.st room x.rep x.s sa x.C told wv tv h hk ht hx.st hS hlen hroom _ rfl ha sz st' rep' s' ho).mono ?_
    rintro e w' (⟨hg, rfl, wv', tv', h'⟩ | ⟨hg, h1, h2⟩)
    · rw [if_pos hg]
      exact Or.inl ⟨_, _, wv', tv', rfl, rfl, h'⟩
    · rw [if_neg hg]
      exact Or.inr ⟨rfl, h1, h2⟩
end Go.Proofs.Yteghpnlamdgpnaa

/- A chunk: the walk. -/
namespace Go.Proofs.Yteghpnlamdgpnaa
open Go.RowKit Rng Lz Win
set_option linter.unusedVariables false
set_option linter.unusedSimpArgs false
theorem dend_c (db rb : Nat) (d : Dec) (w : World) (hd : DC db rb w d) :
    Calls Try.prog 17 #[.pointer (some ⟨db, 0, none⟩)] w fun e w' => e = .returned (.tuple #[.int .i64 d.fin.1, .int .i64 d.fin.2]) ∧ DC db rb w' d.order ∧ Frm (DO db rb) w w' := by
  obtain ⟨r, hd', hback⟩ := hd.dec
  refine (dend_p db r d w hd').mono ?_
  rintro e w' ⟨rfl, h1, h2⟩
  exact ⟨rfl, hback _ _ Dec.order_nil h1, h2.mono fun q _ hq => .inl hq⟩
/-- The blocks that a chunk writes of those that were. -/
def ChZ (k : LK) (wb db rb : Nat) (wv : Value) (q : Nat) : Prop := q = db ∨ q = rb ∨ q = k.sb ∨ q = k.lb ∨ q = wb ∨ wv.ownBlock = some q
theorem RdAt.start (w : World) (k : LK) (st : Nat) (rep : Nat → Nat) (pr : Pr) (base wb kb S bt N0 : Nat) (C : List UInt8) (wv : Value) (db rb : Nat) (d : Dec) (tot : Int)
    (hs : StAt w k st rep pr) (hw : WinC w base wb kb S C wv) (hd : DecAt w 90 db rb d)
    (hk : k.sb < N0 ∧ k.lb < N0) (hv : ∀ q, wv.ownBlock = some q → q < N0) (hwb : wb < N0) (hdb : N0 ≤ db) (hrb : N0 ≤ rb) (hbt : bt ≤ w.heap.size) (hb : base ≤ w.heap.size) :
    ∃ rb', RdAt (ChZ k wb db rb' wv) w (w.alloc (.cells #[.pointer (some ⟨k.sb, 0, none⟩), .pointer (some ⟨wb, 0, none⟩), .pointer (some ⟨db, 0, none⟩), .int .i64 tot, .slice none 0 0] 67)) k ⟨db, rb', wb, kb, w.heap.size, S, base, bt⟩ tot st rep ⟨d, pr⟩ C [] wv (.slice none 0 0) ∧ N0 ≤ rb' := by
  have hdc : ∃ rb', DC db rb' w d ∧ N0 ≤ rb' ∧ rb' < w.heap.size ∧ (∀ (T : TypeId) c b, Pts w b c T → b = rb' → T = 90 ∨ N0 ≤ b) := by
    by_cases h0 : d.rest = []
    · exact ⟨db, .inr ⟨rfl, h0, rb, hd⟩, hdb, DC.pts (.inl hd) |>.elim fun c h => h.lt, fun T c b hp e => .inr (by omega)⟩
    · refine ⟨rb, .inl hd, hrb, ?_, fun T c b hp e => .inr (by omega)⟩
      obtain ⟨⟨A, c, hp, hrow, ho, hc, hm⟩, hfit, hn⟩ := hd
      have h1 : 0 < d.rest.length := List.length_pos_iff.2 h0
      obtain ⟨ab, off, rfl, hab, -⟩ := hrow h1
      have := ho h1 _ rfl
      have e : ab = rb := Classical.byContradiction fun e => this e
      omega
  obtain ⟨rb', hdc, hr1, hr2, -⟩ := hdc
  obtain ⟨cd, hdp⟩ := hdc.pts
  have hdl := hdp.lt
  have F : Frm (fun _ => False) w (w.alloc (.cells #[.pointer (some ⟨k.sb, 0, none⟩), .pointer (some ⟨wb, 0, none⟩), .pointer (some ⟨db, 0, none⟩), .int .i64 tot, .slice none 0 0] 67)) := (Frm.refl _ w).alloc _
  refine ⟨rb', ⟨⟨DC.keep _ _ _ _ _ _ hdc F (fun _ _ h => h), hs.m.frm F id, hs.l.frm F id, hs.fit, ?_⟩, hw.frm F id (fun _ _ h => h), Pts.new w _ _, OwnB.nil _ _ _, fun q _ h => by simp [Value.ownBlock] at h, ⟨?_, ?_, ?_, by simp [Value.ownBlock], Nat.lt_of_lt_of_le hr2 F.size⟩, ⟨Nat.le_trans hb F.size, Nat.le_trans hbt F.size⟩, ?_, F.mono fun _ _ h => h.elim⟩, hr1⟩
  · refine ⟨?_, ?_, hs.ne⟩
    · rintro (e | e) <;> simp only at e <;> omega
    · rintro (e | e) <;> simp only at e <;> omega
  · simp only; omega
  · simp only; omega
  · intro e
    have := hv _ e
    simp only at this
    omega
  · intro q hq hlt
    simp only at hq
    rcases hq with e | e | e | e | e | e | e | e
    · exact .inl e
    · exact .inr (.inl e)
    · exact .inr (.inr (.inl e))
    · exact .inr (.inr (.inr (.inl e)))
    · exact .inr (.inr (.inr (.inr (.inl e))))
    · omega
    · exact .inr (.inr (.inr (.inr (.inr e))))
    · simp [Value.ownBlock] at e
/-- How a chunk ends. -/
def ChunkEnd (k : LK) (base wb kb S : Nat) (wv : Value) (w : World) (R : Option (List UInt8 × RS)) (e : Ending) (w' : World) : Prop :=
  Frm (fun q => q = k.sb ∨ q = k.lb ∨ q = wb ∨ wv.ownBlock = some q) w w' ∧
  ((R = none ∧ e = .returned (.tuple #[.slice none 0 0, .int .i64 11])) ∨
   ∃ told y tv wv', R = some (told, y) ∧ e = .returned (.tuple #[tv, .int .i64 0]) ∧ OwnB w' 5 w.heap.size tv told ∧ StAt w' k y.st y.rep y.s.pr ∧ WinC w' base wb kb S y.C wv' ∧ Mv w wv wv' ∧ ∀ q, tv.ownBlock = some q → wv'.ownBlock ≠ some q)
theorem chunk_frm {k : LK} {wb db rb : Nat} {wv : Value} {w wc w6 w7 : World} (hB : Below w.heap.size w wc) (h6 : Frm (ChZ k wb db rb wv) wc w6) (hdb : w.heap.size + 2 ≤ db) (hrb : w.heap.size + 2 ≤ rb) (h7 : Frm (fun q => q = w.heap.size ∨ q = w.heap.size + 1) w6 w7) :
    Frm (fun q => q = k.sb ∨ q = k.lb ∨ q = wb ∨ wv.ownBlock = some q) w w7 := by
  have h0 : Frm (fun _ => False) w wc := Frm.of_below hB
  refine ((h0.mono fun _ _ h => h.elim).transW h6 ?_).transW h7 ?_
  · rintro q (e | e | e | e | e | e) hlt
    · omega
    · omega
    · exact .inl e
    · exact .inr (.inl e)
    · exact .inr (.inr (.inl e))
    · exact .inr (.inr (.inr e))
  · rintro q (e | e) hlt
    · omega
    · omega
theorem chunk_none {k : LK} {base wb kb S db rb : Nat} {wv : Value} {w wc w6 w7 : World} (hB : Below w.heap.size w wc) (h6 : Frm (ChZ k wb db rb wv) wc w6) (hdb : w.heap.size + 2 ≤ db) (hrb : w.heap.size + 2 ≤ rb) (h7 : Frm (fun q => q = w.heap.size ∨ q = w.heap.size + 1) w6 w7) :
    ChunkEnd k base wb kb S wv w none (.returned (.tuple #[.slice none 0 0, .int .i64 11])) w7 := ⟨chunk_frm hB h6 hdb hrb h7, .inl ⟨rfl, rfl⟩⟩
theorem chunk_some {k : LK} {base wb kb S db rb xb : Nat} {wv tv1 wv1 : Value} {w wc w6 w7 : World} {tot : Int} {told : List UInt8} {x : RS} {d : Dec} {c0 c1 : Value} (hB : Below w.heap.size w wc) (h6 : RdAt (ChZ k wb db rb wv) wc w6 k ⟨db, rb, wb, kb, xb, S, base, w.heap.size + 2⟩ tot x.st x.rep ⟨d, x.s.pr⟩ x.C told wv1 tv1)
    (hdb : w.heap.size + 2 ≤ db) (hrb : w.heap.size + 2 ≤ rb) (h7 : Frm (fun q => q = w.heap.size ∨ q = w.heap.size + 1) w6 w7) (p0 : Pts w6 w.heap.size #[c0] 22) (p1 : Pts w6 (w.heap.size + 1) #[c1] 24) :
    ChunkEnd k base wb kb S wv w (some (told, x)) (.returned (.tuple #[tv1, .int .i64 0])) w7 := by
  obtain ⟨cw, hw⟩ := h6.win.pts
  obtain ⟨lw, hwo⟩ := h6.win.own
  refine ⟨chunk_frm hB h6.f hdb hrb h7, .inr ⟨told, x, tv1, wv1, rfl, rfl, ?_, h6.rested.frm h7 ?_ ?_, h6.win.frm h7 ?_ ?_, ?_, fun q hq e => h6.ne q e hq⟩⟩
  · exact World.ownsRow.mono (h6.o.frm h7 (fun q hq => by have h9 : w.heap.size + 2 ≤ q := (h6.o.lt hq).1; rintro (e | e) <;> omega)) (show w.heap.size ≤ w.heap.size + 2 by omega)
  · rintro (e | e)
    · exact h6.lz.m.ne_of p0 (by decide) e
    · exact h6.lz.m.ne_of p1 (by decide) e
  · rintro (e | e)
    · exact h6.lz.l.ne_of p0 (by decide) e
    · exact h6.lz.l.ne_of p1 (by decide) e
  · rintro (e | e)
    · exact hw.ne_of p0 (by decide) e
    · exact hw.ne_of p1 (by decide) e
  · rintro q hq (e | e)
    · subst e; exact own_ne hwo p0 (by decide) hq
    · subst e; exact own_ne hwo p1 (by decide) hq
  · intro q hq
    by_cases hlt : q < w.heap.size
    · have hz := h6.z q (.inr (.inr (.inr (.inr (.inr (.inr (.inl hq))))))) (Nat.lt_of_lt_of_le hlt hB.size)
      obtain ⟨cd, hd⟩ := h6.dpts
      rcases hz with e | e | e | e | e | e
      · omega
      · omega
      · subst e; exact absurd hq (own_ne hwo h6.lz.m (by decide))
      · subst e; exact absurd hq (own_ne hwo h6.lz.l (by decide))
      · subst e; exact absurd hq (own_ne hwo hw (by decide))
      · exact .inl e
    · exact .inr (by omega)
end Go.Proofs.Yteghpnlamdgpnaa

/- A chunk that begins as one: the walk. -/
namespace Go.Proofs.Yteghpnlamdgpnaa
open Go.RowKit Rng Lz Win
set_option linter.unusedVariables false
set_option linter.unusedSimpArgs false
theorem and15 (t : Nat) (h : t < 9223372036854775808) : bits .and .i64 (t : Int) 15 = ((t % 16 : Nat) : Int) := by
  have e : (15 : Int) = ((15 : Nat) : Int) := rfl
  show IntKind.i64.wrap ((BitVec.ofInt 64 (t : Int) &&& BitVec.ofInt 64 15).toNat : Int) = _
  rw [BitVec.toNat_and, ofInt_u64 t (by omega), e, ofInt_u64 15 (by omega), show (15 : Nat) = 2 ^ 4 - 1 by rfl, Nat.and_two_pow_sub_one_eq_mod]
  exact Go.IntWalk.i64_in _ (by omega)
theorem LzAt.coder {σ : Type} {CA : World → σ → Prop} {own : Nat → Prop} {T : TypeId} {w w' : World} {k : LK} {st : Nat} {rep : Nat → Nat} {s : CP σ} {d : σ} (h : LzAt CA own T w k st rep s) (hc : CA w' d) (hf : Frm own w w') : LzAt CA own T w' k st rep ⟨d, s.pr⟩ ∧ Frm (Wr own k) w w' :=
  ⟨⟨hc, h.m.frm hf h.ne.1, h.l.frm hf h.ne.2.1, h.fit, h.ne⟩, hf.mono fun q _ e => .inl e⟩
set_option maxRecDepth 100000 in
set_option maxHeartbeats 4000000 in
theorem chunk_main (k : LK) (st : Nat) (rep : Nat → Nat) (pr : Pr) (base wb kb S : Nat) (C bs : List UInt8) (wv : Value) (A : Option Addr) (n c l total : Nat) (w : World)
    (hs : StAt w k st rep pr) (hw : WinC w base wb kb S C wv) (hb : base ≤ w.heap.size) (hS : S ≤ 16777216) (hk : k.Ok) (hst : st < 12) (hrep : ∀ j, rep j < 4294967296)
    (hl : l = bs.length) (hr : BRow w w.heap.size A bs) (hc : bs.length ≤ c) (hcm : c ≤ maxLen) (hlen : bs.length ≤ 140737488355328)
    (h1 : 1 ≤ n) (h2 : n ≤ 2097152) (ht : total < 9223372036854775808) (hnew : newErr bs = 0) :
    Calls Try.prog 7 #[.pointer (some ⟨k.sb, 0, none⟩), .pointer (some ⟨wb, 0, none⟩), .int .i64 total, .slice A l c, .int .i64 n] w fun e w' => ChunkEnd k base wb kb S wv w (chunkOf k S total n st rep pr C bs) e w' := by
  subst hl
  obtain ⟨R, hR⟩ : ∃ R, chunkOf k S total n st rep pr C bs = R := ⟨_, rfl⟩
  rw [hR]
  unfold chunkOf at hR
  rw [if_neg (fun h => h hnew)] at hR
  obtain ⟨T, hT⟩ : ∃ T, totOf total = T := ⟨_, rfl⟩
  rw [hT] at hR
  have hTb : T < 1099511627792 := by rw [← hT]; exact totOf_lt total
  obtain ⟨GO, hGO⟩ : ∃ GO, chunkGo k S T n (n + 1) [] ⟨st, rep, ⟨newDec bs, pr⟩, C⟩ = GO := ⟨_, rfl⟩
  rw [hGO] at hR
  obtain ⟨p0, p1, hbl, hsz⟩ := two_new w (.slice none 0 0) (.int .i64 0) 22 24
  have HND := Lib.hid (dnew_p A bs bs.length c _ rfl ((hr.below hbl).more (Nat.le_of_lt (by rw [hsz]; omega))) hc hcm hlen hnew)
  have P0 := Lib.hid p0
  have P1 := Lib.hid p1
  have BL := Lib.hid hbl
  have SZ := Lib.hid hsz
  have HR := Lib.hid hR
  have HT := Lib.hid hT
  have HG := Lib.hid hGO
  have HS := Lib.hid hs
  have HW := Lib.hid hw
  have HK := Lib.hid hk
  have HREP := Lib.hid hrep
  have h1i : (1 : Int) ≤ (n : Int) := by omega
  have h2i : (n : Int) ≤ 2097152 := by omega
  clear hR hT hGO p0 p1 hbl hsz hs hw hk hr hrep hnew
  go_enter_defers Try.func7, Try.ntmps7
  go_wp2
  go_step3
  go_wp2_with fail
  refine Calls.mono HND.out ?_; rintro e w3 ⟨db, rb, rfl, hd3, hdb, hrb, hB3⟩
  rw [SZ.out] at hdb hrb hB3
  have q0 := P0.out.below hB3 (by omega)
  have q1 := P1.out.below hB3 (by omega)
  have b3 := BL.out.trans (hB3.mono (by omega))
  have Q0 := Lib.hid (q0.other (p := ⟨w.heap.size + 1, 0, none⟩) (by simp) (.int .i64 0))
  have Q1 := Lib.hid (q1.set 0 (.int .i64 0))
  have B4 := Lib.hid (b3.setCell (p := ⟨w.heap.size + 1, 0, none⟩) (by simp) (.int .i64 0))
  have f4 : Frm (· = w.heap.size + 1) w3 (w3.setCell ⟨w.heap.size + 1, 0, none⟩ (.int .i64 0)) := Frm.setCell (S := fun x => x = w.heap.size + 1) (Frm.refl _ w3) (p := ⟨w.heap.size + 1, 0, none⟩) (by rfl) _
  have D4 := Lib.hid (DecAt.frm hd3 f4 (by omega) (by omega))
  have c11 := q1.cell 0
  have z11 := q1.frozen 0
  clear hd3 hB3 q0 q1 b3 f4
  go_upto_if 43 with fail
  obtain ⟨w4, hw4⟩ : ∃ w4, w3.setCell ⟨w.heap.size + 1, 0, none⟩ (.int .i64 0) = w4 := ⟨_, rfl⟩
  rw [hw4] at Q0 Q1 B4 D4 ⊢
  have hkb := HS.out.m.lt
  have hlb := HS.out.l.lt
  obtain ⟨cw, hwp⟩ := HW.out.pts
  have hwl := hwp.lt
  obtain ⟨lw, hwo⟩ := HW.out.own
  have S4 := Lib.hid (HS.out.frm (Frm.of_below (S := fun _ => False) B4.out) id id)
  have W4 := Lib.hid (HW.out.frm (Frm.of_below (S := fun _ => False) B4.out) id (fun _ _ h => h))
  have HWL := Lib.hid (fun q (h : wv.ownBlock = some q) => (hwo.lt h).2)
  clear hw4 c11 z11 hwp hwo
  go_cut [2] from 13 (fun v wx => v = .int .i64 T ∧ wx = w4)
  case first =>
    by_cases hbig : 1099511627776 < total
    · have hi : (1099511627776 : Int) < (total : Int) := by omega
      have ha := and15 total ht
      obtain ⟨m, hm⟩ : ∃ m, total % 16 = m := ⟨_, rfl⟩
      have hTe := HT.out
      unfold totOf at hTe
      rw [if_pos hbig, hm] at hTe
      rw [hm] at ha
      have hmb : m < 16 := by omega
      have hTi : (1099511627776 : Int) + (m : Int) = (T : Int) := by omega
      have hTw : IntKind.i64.wrap (T : Int) = (T : Int) := Go.IntWalk.i64_in _ (by omega)
      clear hm hTe hbig hmb
      go_wp2
      go_meet
      case rel => exact ⟨rfl, rfl⟩
    · have hi : (total : Int) ≤ 1099511627776 := by omega
      have hTe := HT.out
      unfold totOf at hTe
      rw [if_neg hbig] at hTe
      subst hTe
      clear hbig
      go_wp2
      go_meet
      case rel => exact ⟨rfl, rfl⟩
  case rest =>
    obtain ⟨rfl, rfl⟩ := hcut
    have hwn : w.heap.size + 2 ≤ wc.heap.size := by have := Q1.out.lt; omega
    obtain ⟨rb', hrd, hrb'⟩ := RdAt.start wc k st rep pr base wb kb S (w.heap.size + 2) (w.heap.size + 2) C wv db rb (newDec bs) T S4.out W4.out D4.out ⟨by omega, by omega⟩ (fun q h => by have := HWL.out q h; omega) (by omega) hdb hrb hwn (by omega)
    have RD := Lib.hid hrd
    clear hrd
    go_wp2
    go_step3
    go_wp2
    go_loopg [54] (n + 1) (fun gn s54 wr => ∃ (told : List UInt8) (x : RS) (wv1 tv1 : Value) (tot : Int), RdAt (ChZ k wb db rb' wv) wc wr k ⟨db, rb', wb, kb, wc.heap.size, S, base, w.heap.size + 2⟩ tot x.st x.rep x.s x.C told wv1 tv1 ∧ x.Ok ∧ told.length ≤ n ∧ n + 1 ≤ gn + told.length ∧ chunkGo k S T n gn told x = GO)
    case atStart => exact ⟨[], ⟨st, rep, ⟨newDec bs, pr⟩, C⟩, wv, _, T, RD.out, ⟨hst, HREP.out⟩, by simp, by simp, HG.out⟩
    case round =>
      obtain ⟨told, x, wv1, tv1, tot, hrd, hx, htl, hgk, hgo⟩ := hrel
      have HX := Lib.hid hx
      have HGK := Lib.hid hgk
      have HRD := Lib.hid hrd
      obtain ⟨d0, d1, d2, d3, d4, -⟩ := hrd.cells
      obtain ⟨A5, c5, htv, hc5, hm5, -⟩ := hrd.o.slice
      subst htv
      clear RD HG hrd hx hgk
      have hnz : ∀ b, w.heap.size ≤ b → b < w.heap.size + 2 → ¬ ChZ k wb db rb' wv b := by
        rintro b h1 h2 (e | e | e | e | e | e)
        · omega
        · omega
        · omega
        · omega
        · omega
        · have := HWL.out b e; omega
      have HNZ := Lib.hid hnz
      clear hnz
      by_cases hn : n ≤ told.length
      · have hni : (n : Int) ≤ ((told.length : Nat) : Int) := by omega
        have hR := HR.out
        obtain ⟨g, rfl⟩ : ∃ g, gk = g + 1 := ⟨gk - 1, by have := HGK.out; omega⟩
        unfold chunkGo at hgo
        rw [if_pos hn] at hgo
        rw [← hgo] at hR
        simp only at hR
        have HEND := dend_c db rb' x.s.d wr HRD.out.lz.c
        obtain ⟨⟨f1, f2⟩, hf⟩ : ∃ p, x.s.d.fin = p := ⟨_, rfl⟩
        rw [hf] at hR HEND
        simp only at HEND
        have HE := Lib.hid HEND
        have h3 : (f2 ≠ 0) ∨ (f2 = 0 ∧ f1 ≠ 0) ∨ (f2 = 0 ∧ f1 = 0) := by omega
        clear HEND hf hgo hn
        rcases h3 with h3 | ⟨rfl, h3⟩ | ⟨rfl, rfl⟩
        · have hR2 : none = R := by rw [if_neg (fun e => h3 (by injection e))] at hR; exact hR
          subst hR2
          have hf2 : ((f2 : Int) == 0) = false := by rw [beq_eq_false_iff_ne]; omega
          have hf3 : ((f2 : Int) != 0) = true := by rw [bne_iff_ne]; omega
          clear hR h3
          go_wp2_with fail
          refine HE.out.mono ?_; rintro e w6 ⟨rfl, hd6, f6⟩
          have h6 := HRD.out.lz.coder hd6 f6
          have H6 := Lib.hid (HRD.out.lzStep h6.1 h6.2)
          have e0 := Q0.out.frm H6.out.f (HNZ.out _ (Nat.le_refl _) (by omega))
          have e1 := Q1.out.frm H6.out.f (HNZ.out _ (by omega) (by omega))
          have E0 := Lib.hid e0
          have E1 := Lib.hid e1
          have c0 := e0.cell 0
          have z0 := e0.frozen 0
          have e2 := e1.other (p := ⟨w.heap.size, 0, none⟩) (by simp) (.slice none 0 0)
          have c1 := e2.cell 0
          have z1 := e2.frozen 0
          have r0 := (e0.set 0 (.slice none 0 0)).other (p := ⟨w.heap.size + 1, 0, none⟩) (by simp) (.int .i64 11)
          have r1 := e2.set 0 (.int .i64 11)
          have FF : Hid (Frm (fun q => q = w.heap.size ∨ q = w.heap.size + 1) w6 ((w6.setCell ⟨w.heap.size, 0, none⟩ (.slice none 0 0)).setCell ⟨w.heap.size + 1, 0, none⟩ (.int .i64 11))) := Lib.hid (((Frm.refl _ w6).setCell (p := ⟨w.heap.size, 0, none⟩) (.inl rfl) _).setCell (p := ⟨w.heap.size + 1, 0, none⟩) (.inr rfl) _)
          have R0 := Lib.hid r0
          have R1 := Lib.hid r1
          clear e0 e1 e2 r0 r1 hd6 f6 h6 d0 d1 d2 d3 d4
          go_wp2
          simp only [Exit.noGoto_ret]
          go_wp2
          refine leaves_cons (f := 15) (args := #[.pointer (some ⟨w.heap.size, 0, none⟩), .pointer (some ⟨w.heap.size + 1, 0, none⟩)]) (by simp) (by simp [go_sem]) ?_
          refine (chunk_idle _ _ _).mono ?_
          rintro e u' w'' ⟨rfl, rfl, rfl⟩
          have k0 := R0.out.cell 0
          have k1 := R1.out.cell 0
          simp [Leaves, settle, results, Try.results7, go_sem, k0, k1]
          exact chunk_none B4.out H6.out.f hdb hrb' FF.out
        · have hR2 : none = R := by rw [if_neg (fun e => h3 (by injection e))] at hR; exact hR
          subst hR2
          have hf2 : ((f1 : Int) == 0) = false := by rw [beq_eq_false_iff_ne]; omega
          have hf3 : ((f1 : Int) != 0) = true := by rw [bne_iff_ne]; omega
          clear hR h3
          go_wp2_with fail
          refine HE.out.mono ?_; rintro e w6 ⟨rfl, hd6, f6⟩
          have h6 := HRD.out.lz.coder hd6 f6
          have H6 := Lib.hid (HRD.out.lzStep h6.1 h6.2)
          have e0 := Q0.out.frm H6.out.f (HNZ.out _ (Nat.le_refl _) (by omega))
          have e1 := Q1.out.frm H6.out.f (HNZ.out _ (by omega) (by omega))
          have E0 := Lib.hid e0
          have E1 := Lib.hid e1
          have c0 := e0.cell 0
          have z0 := e0.frozen 0
          have e2 := e1.other (p := ⟨w.heap.size, 0, none⟩) (by simp) (.slice none 0 0)
          have c1 := e2.cell 0
          have z1 := e2.frozen 0
          have r0 := (e0.set 0 (.slice none 0 0)).other (p := ⟨w.heap.size + 1, 0, none⟩) (by simp) (.int .i64 11)
          have r1 := e2.set 0 (.int .i64 11)
          have FF : Hid (Frm (fun q => q = w.heap.size ∨ q = w.heap.size + 1) w6 ((w6.setCell ⟨w.heap.size, 0, none⟩ (.slice none 0 0)).setCell ⟨w.heap.size + 1, 0, none⟩ (.int .i64 11))) := Lib.hid (((Frm.refl _ w6).setCell (p := ⟨w.heap.size, 0, none⟩) (.inl rfl) _).setCell (p := ⟨w.heap.size + 1, 0, none⟩) (.inr rfl) _)
          have R0 := Lib.hid r0
          have R1 := Lib.hid r1
          clear e0 e1 e2 r0 r1 hd6 f6 h6 d0 d1 d2 d3 d4
          go_wp2
          simp only [Exit.noGoto_ret]
          go_wp2
          refine leaves_cons (f := 15) (args := #[.pointer (some ⟨w.heap.size, 0, none⟩), .pointer (some ⟨w.heap.size + 1, 0, none⟩)]) (by simp) (by simp [go_sem]) ?_
          refine (chunk_idle _ _ _).mono ?_
          rintro e u' w'' ⟨rfl, rfl, rfl⟩
          have k0 := R0.out.cell 0
          have k1 := R1.out.cell 0
          simp [Leaves, settle, results, Try.results7, go_sem, k0, k1]
          exact chunk_none B4.out H6.out.f hdb hrb' FF.out
        · have hR2 : some (told, x) = R := by rw [if_pos rfl] at hR; exact hR
          subst hR2
          clear hR
          go_wp2_with fail
          refine HE.out.mono ?_; rintro e w6 ⟨rfl, hd6, f6⟩
          have h6 := HRD.out.lz.coder hd6 f6
          have H6 := Lib.hid (HRD.out.lzStep h6.1 h6.2)
          have e0 := Q0.out.frm H6.out.f (HNZ.out _ (Nat.le_refl _) (by omega))
          have e1 := Q1.out.frm H6.out.f (HNZ.out _ (by omega) (by omega))
          have E0 := Lib.hid e0
          have E1 := Lib.hid e1
          have c0 := e0.cell 0
          have z0 := e0.frozen 0
          have e2 := e1.other (p := ⟨w.heap.size, 0, none⟩) (by simp) (.slice A5 told.length c5)
          have c1 := e2.cell 0
          have z1 := e2.frozen 0
          have r0 := (e0.set 0 (.slice A5 told.length c5)).other (p := ⟨w.heap.size + 1, 0, none⟩) (by simp) (.int .i64 0)
          have r1 := e2.set 0 (.int .i64 0)
          have FF : Hid (Frm (fun q => q = w.heap.size ∨ q = w.heap.size + 1) w6 ((w6.setCell ⟨w.heap.size, 0, none⟩ (.slice A5 told.length c5)).setCell ⟨w.heap.size + 1, 0, none⟩ (.int .i64 0))) := Lib.hid (((Frm.refl _ w6).setCell (p := ⟨w.heap.size, 0, none⟩) (.inl rfl) _).setCell (p := ⟨w.heap.size + 1, 0, none⟩) (.inr rfl) _)
          have R0 := Lib.hid r0
          have R1 := Lib.hid r1
          obtain ⟨-, -, -, -, k4, -⟩ := H6.out.cells
          have k4z := k4
          clear e0 e1 e2 r0 r1 hd6 f6 h6 d0 d1 d2 d3 d4
          go_wp2
          simp only [Exit.noGoto_ret]
          go_wp2
          refine leaves_cons (f := 15) (args := #[.pointer (some ⟨w.heap.size, 0, none⟩), .pointer (some ⟨w.heap.size + 1, 0, none⟩)]) (by simp) (by simp [go_sem]) ?_
          refine (chunk_idle _ _ _).mono ?_
          rintro e u' w'' ⟨rfl, rfl, rfl⟩
          have k0 := R0.out.cell 0
          have k1 := R1.out.cell 0
          simp [Leaves, settle, results, Try.results7, go_sem, k0, k1]
          exact chunk_some B4.out H6.out hdb hrb' FF.out E0.out E1.out
      · have hni : ((told.length : Nat) : Int) < (n : Int) := by omega
        obtain ⟨g, rfl⟩ : ∃ g, gk = g + 1 := ⟨gk - 1, by have := HGK.out; omega⟩
        unfold chunkGo at hgo
        rw [if_neg hn] at hgo
        obtain ⟨L, hL⟩ : ∃ L, told.length = L := ⟨_, rfl⟩
        obtain ⟨tl, htl2⟩ : ∃ tl, T + L = tl := ⟨_, rfl⟩
        obtain ⟨rm, hrm⟩ : ∃ rm, n - L = rm := ⟨_, rfl⟩
        obtain ⟨SR, hSR⟩ : ∃ SR, stepOf k S tl rm x = SR := ⟨_, rfl⟩
        rw [hL] at hni hc5 d4 htl hgo hn
        rw [htl2, hrm, hSR] at hgo
        have htli : (T : Int) + (L : Int) = (tl : Int) := by omega
        have htlw : IntKind.i64.wrap (tl : Int) = (tl : Int) := Go.IntWalk.i64_in _ (by omega)
        have hrmi : (n : Int) - (L : Int) = (rm : Int) := by omega
        have hrmw : IntKind.i64.wrap (rm : Int) = (rm : Int) := Go.IntWalk.i64_in _ (by omega)
        have h7 := HRD.out.setTotal tl
        rw [hL] at h7
        have z3 := HRD.out.p.frozen 3
        obtain ⟨q0, q1, q2, q3, q4, -⟩ := h7.cells
        have HSTEP := Lib.hid (step_any (ChZ k wb db rb' wv) wc _ k ⟨db, rb', wb, kb, wc.heap.size, S, base, w.heap.size + 2⟩ tl rm x told wv1 _ h7 HK.out (by omega) HX.out hS (by omega) (by omega))
        have HSR := Lib.hid hSR
        have HGO := Lib.hid hgo
        have HL := Lib.hid hL
        have HB1 : Hid (T + L = tl ∧ n - L = rm) := Lib.hid ⟨htl2, hrm⟩
        clear h7 hSR hgo hL htl2 hrm
        go_wp2_with fail
        refine HSTEP.out.mono ?_; rintro e w6 (⟨b, y, wv2, tv2, hR2, rfl, h8⟩ | ⟨hR2, ⟨xp, rfl⟩, st9, rep9, s9, C9, told9, wv9, tv9, h9⟩)
        · have hR3 : stepOf k S tl rm x = some (b, y) := hR2
          have hgo := HGO.out
          have h1 := HSR.out
          rw [hR3] at h1
          rw [← h1] at hgo
          have hi := stepOf_inv HX.out (by have := HB1.out; omega) hR3
          have H8 := Lib.hid h8
          have HI := Lib.hid hi
          have HGO2 := Lib.hid hgo
          clear hR2 hR3 hgo h1 hi h8 HGO HSR HSTEP q0 q1 q2 q3 q4 z3 d0 d1 d2 d3 d4
          go_wp2
          go_roundg g
          case measure => omega
          case rel =>
            refine ⟨told ++ b, y, wv2, tv2, tl, H8.out, HI.out.1, ?_, ?_, HGO2.out⟩
            · have := HB1.out; have := HI.out.2; have := HL.out; rw [List.length_append]; omega
            · have := HB1.out; have := HI.out.2; have := HL.out; have := HGK.out; rw [List.length_append]; omega
        · have hR3 : stepOf k S tl rm x = none := hR2
          have hgo := HGO.out
          have h1 := HSR.out
          rw [hR3] at h1
          rw [← h1] at hgo
          have hR := HR.out
          rw [← hgo] at hR
          have hR4 : none = R := hR
          subst hR4
          have H9 := Lib.hid h9
          have E0 := Lib.hid (Q0.out.frm h9.f (HNZ.out _ (Nat.le_refl _) (by omega)))
          have E1 := Lib.hid (Q1.out.frm h9.f (HNZ.out _ (by omega) (by omega)))
          clear hR2 hR3 hgo h1 hR h9 HR HGO HSR HSTEP q0 q1 q2 q3 q4 z3 d0 d1 d2 d3 d4
          go_wp2
          refine leaves_cons (f := 15) (args := #[.pointer (some ⟨w.heap.size, 0, none⟩), .pointer (some ⟨w.heap.size + 1, 0, none⟩)]) (by simp) (by simp [go_sem]) ?_
          refine (chunk_caught _ _ xp _ _ _ _ E0.out E1.out).mono ?_
          rintro e u' w'' ⟨rfl, rfl, k0, k1, kf⟩
          have c0 := k0.cell 0
          have c1 := k1.cell 0
          simp [Leaves, settle, results, Try.results7, go_sem, c0, c1]
          exact chunk_none B4.out H9.out.f hdb hrb' kf
end Go.Proofs.Yteghpnlamdgpnaa

/- A chunk, whatever it is; a room; what the document says of six noughts; LzmaNil. -/
namespace Go.Proofs.Yteghpnlamdgpnaa
open Go.RowKit Rng Lz Win
set_option linter.unusedVariables false
set_option linter.unusedSimpArgs false
theorem chunk_p (k : LK) (st : Nat) (rep : Nat → Nat) (pr : Pr) (base wb kb S : Nat) (C bs : List UInt8) (wv : Value) (A : Option Addr) (n c l total : Nat) (w : World)
    (hs : StAt w k st rep pr) (hw : WinC w base wb kb S C wv) (hb : base ≤ w.heap.size) (hS : S ≤ 16777216) (hk : k.Ok) (hst : st < 12) (hrep : ∀ j, rep j < 4294967296)
    (hl : l = bs.length) (hr : BRow w w.heap.size A bs) (hc : bs.length ≤ c) (hcm : c ≤ maxLen) (hlen : bs.length ≤ 140737488355328)
    (h1 : 1 ≤ n) (h2 : n ≤ 2097152) (ht : total < 9223372036854775808) :
    Calls Try.prog 7 #[.pointer (some ⟨k.sb, 0, none⟩), .pointer (some ⟨wb, 0, none⟩), .int .i64 total, .slice A l c, .int .i64 n] w fun e w' => ChunkEnd k base wb kb S wv w (chunkOf k S total n st rep pr C bs) e w' := by
  by_cases hn : newErr bs = 0
  · exact chunk_main k st rep pr base wb kb S C bs wv A n c l total w hs hw hb hS hk hst hrep hl hr hc hcm hlen h1 h2 ht hn
  · have e : chunkOf k S total n st rep pr C bs = none := by unfold chunkOf; rw [if_pos hn]
    rw [e]
    refine (chunk_bad w ⟨k.sb, 0, none⟩ ⟨wb, 0, none⟩ total n A bs l c (by omega) (by omega) (by omega) hl hr hc hcm hn).mono ?_
    rintro e w' ⟨rfl, hB⟩
    exact ⟨(Frm.of_below (S := fun _ => False) hB).mono fun _ _ h => h.elim, .inl ⟨rfl, rfl⟩⟩
theorem newK_ok (b lb : Nat) : (newK b lb).Ok := ⟨by show 3 + 0 ≤ 4; omega, by show 2 ≤ 4; omega⟩
theorem lnew_st (w : World) : Calls Try.prog 9 #[] w fun e w' => ∃ b lb, e = .returned (.pointer (some ⟨b, 0, none⟩)) ∧ w.heap.size ≤ b ∧ w.heap.size ≤ lb ∧ StAt w' (newK b lb) 0 (fun _ => 0) (fun _ => 1024) ∧ Below w.heap.size w w' := by
  refine (lnew_p w).mono ?_
  rintro e w' ⟨b, lb, rfl, h1, h2, h3, h4, h5, h6⟩
  exact ⟨b, lb, rfl, h1, h2, ⟨h4, h5, fun _ => (by decide : 1024 < 65536), h3⟩, h6⟩
theorem room_p (S : Nat) (w : World) (h1 : 1 ≤ S) (h2 : S ≤ 16777216) : Calls Try.prog 8 #[.int .i64 S] w fun e w' => ∃ wb kb, e = .returned (.pointer (some ⟨wb, 0, none⟩)) ∧ w.heap.size ≤ wb ∧ WinC w' w.heap.size wb kb S [] (.slice none 0 0) ∧ Below w.heap.size w w' := by
  have h1i : (1 : Int) ≤ (S : Int) := by omega
  have hch : chE 16777216 0 S = 0 := (ch_ok 0 (by omega) (by omega)).1
  have HC := Lib.hid hch
  clear hch
  go_enter Try.func8, Try.ntmps8
  go_wp2_with fail
  refine (new_led 16777216 _).mono ?_; rintro e w1 ⟨rfl, hL1, b1⟩
  rw [show bud 16777216 = 16777216 by decide] at hL1
  have L1 := Lib.hid hL1
  have B1 := Lib.hid b1
  clear hL1 b1
  go_wp2_with fail
  refine (new_win w.heap.size S 16777216 0 0 w1 L1.out (by decide) (by decide) (by decide) h1 h2 HC.out).mono ?_; rintro e w2 ⟨b, rfl, hW2, hb, hL2, hF2⟩
  have B2 := Lib.hid (B1.out.trans (hF2.below B1.out.size (by intro k hk; omega)))
  have W2 := Lib.hid hW2
  have hb2 : w.heap.size ≤ b := Nat.le_trans B1.out.size hb
  clear hW2 hL2 hF2
  go_wp2
  go_ret
  refine ⟨b, w.heap.size, rfl, hb2, ⟨[], 0, ?_, rfl⟩, B2.out⟩
  have hW := W2.out
  exact ⟨hW.p, World.ownsRow.mono hW.o B1.out.size, hW.n, hW.lt, hW.z⟩
theorem made_bytes (n : Nat) (hn : n ≤ 16777216) (w : World) :
    (Instr.makeSlice 22 (.int .i64 (n : Int)) (.int .i64 (n : Int))).run Try.prog w = .ok (.slice (some ⟨w.heap.size, 0, none⟩) n n) (w.alloc (.cells (madeCells #[.int .u8 0] n) 5)) := by
  obtain ⟨i, hi, hz⟩ := Option.map_eq_some_iff.1 Try.info_u8
  simp only [Prod.mk.injEq] at hz
  have h := run_make (P := Try.prog) w 22 5 i (.int .u8 0) Try.underlying22 hi hz.1 .i64 .i64 n n (by omega) (by omega) (by rw [hz.2.2]; omega) (by omega)
  rw [hz.2.1] at h
  simp only [Int.toNat_natCast, Nat.mul_one] at h
  exact h
theorem noughts_row (n : Nat) (w : World) : BRow (w.alloc (.cells (madeCells #[.int .u8 0] n) 5)) (w.alloc (.cells (madeCells #[.int .u8 0] n) 5)).heap.size (some ⟨w.heap.size, 0, none⟩) (List.replicate n 0) := by
  intro _
  refine ⟨w.heap.size, 0, rfl, by simp, fun k hk => ?_⟩
  rw [Nat.zero_add, (Pts.new w (madeCells #[.int .u8 0] n) 5).cell]
  have hkn : k < n := by simpa using hk
  have h1 : (madeCells #[Value.int .u8 0] n)[k]? = some (.int .u8 0) := by simp [madeCells, hkn, Nat.mod_one]
  rw [h1]
  simp [List.getD, hkn, byteV]
theorem wk_six (b lb : Nat) : (chunkOf (newK b lb) 9 0 1 0 (fun _ => 0) (fun _ => 1024) [] (List.replicate 6 0)).map (·.1) = some [0] := by kernel_rfl
theorem wk_five (b lb : Nat) (C : List UInt8) : (chunkOf (newK b lb) 9 0 1 0 (fun _ => 0) (fun _ => 1024) C (List.replicate 5 0)).map (·.1) = none := by kernel_rfl
set_option maxRecDepth 100000 in
set_option maxHeartbeats 1000000 in
theorem props_bad (p k0 : Nat) (w : World) (hb : p ≤ 255) (h : 224 < p ∨ 4 < p % 9 + p / 9 % 5) : Calls Try.prog 10 #[.pointer (some ⟨k0, 0, none⟩), .int .u8 p] w fun e w' => e = .returned (.int .i64 11) ∧ w = w' := by
  obtain ⟨a, ha⟩ : ∃ a, p % 9 = a := ⟨_, rfl⟩
  obtain ⟨b1, hb1⟩ : ∃ a, p / 9 = a := ⟨_, rfl⟩
  obtain ⟨b, hbb⟩ : ∃ a, b1 % 5 = a := ⟨_, rfl⟩
  rw [ha, hb1, hbb] at h
  have e1 : (p : Int) % 9 = (a : Int) := by omega
  have e2 : (p : Int) / 9 = (b1 : Int) := by omega
  have e3 : (b1 : Int) % 5 = (b : Int) := by omega
  have ab : a ≤ 8 := by omega
  have bb : b ≤ 4 := by omega
  clear ha hb1 hbb
  have h3 : 224 < p ∨ (p ≤ 224 ∧ 4 < a + b) := by omega
  clear h
  rcases h3 with h | ⟨h, h4⟩
  · have hi : (224 : Int) < (p : Int) := by omega
    go_enter Try.func10, Try.ntmps10
    go_wp2
    go_ret
    exact ⟨rfl, rfl⟩
  · have hi : (p : Int) ≤ 224 := by omega
    have hj : (4 : Int) < (a : Int) + (b : Int) := by omega
    go_enter Try.func10, Try.ntmps10
    go_wp2
    go_ret
    exact ⟨rfl, rfl⟩
theorem StAt.later {w w' : World} {k : LK} {st : Nat} {rep : Nat → Nat} {pr : Pr} (h : StAt w k st rep pr) (hb : Below w.heap.size w w') : StAt w' k st rep pr := h.frm (Frm.of_below (S := fun _ => False) hb) id id
theorem WinC.later {w w' : World} {base wb kb S : Nat} {C : List UInt8} {v : Value} (h : WinC w base wb kb S C v) (hb : Below w.heap.size w w') : WinC w' base wb kb S C v := h.frm (Frm.of_below (S := fun _ => False) hb) id (fun _ _ h => h)
theorem below_alloc (w : World) (o : Obj) : Below w.heap.size w (w.alloc o) := (Below.refl _ w).alloc (Nat.le_refl _) o
theorem WinC.drew {w : World} {base wb kb S : Nat} {C : List UInt8} {v : Value} (h : WinC w base wb kb S C v) : WinC w.drew base wb kb S C v := h.frm ((Frm.refl (fun _ => False) w).drew) id (fun _ _ h => h)
theorem five_p (sb lb base wb kb : Nat) (C : List UInt8) (wv : Value) (A : Option Addr) (w : World) (hs : StAt w (newK sb lb) 0 (fun _ => 0) (fun _ => 1024)) (hw : WinC w base wb kb 9 C wv) (hb : base ≤ w.heap.size) (hr : BRow w w.heap.size A (List.replicate 5 0)) :
    Calls Try.prog 7 #[.pointer (some ⟨sb, 0, none⟩), .pointer (some ⟨wb, 0, none⟩), .int .i64 0, .slice A 5 5, .int .i64 1] w fun e w' => e = .returned (.tuple #[.slice none 0 0, .int .i64 11]) ∧ Frm (fun q => q = sb ∨ q = lb ∨ q = wb ∨ wv.ownBlock = some q) w w' := by
  refine (chunk_p (newK sb lb) 0 (fun _ => 0) (fun _ => 1024) base wb kb 9 C (List.replicate 5 0) wv A 1 5 5 0 w hs hw hb (by omega) (newK_ok _ _) (by omega) (fun _ => by omega) (by simp) hr (by simp) (by unfold maxLen; omega) (by simp) (by omega) (by omega) (by omega)).mono ?_
  rintro e w' ⟨f, (⟨hn, rfl⟩ | ⟨told, y, tv, wv', hR, rfl, _⟩)⟩
  · exact ⟨rfl, f⟩
  · have := wk_five sb lb C
    rw [hR] at this
    cases this
theorem Frm.drew4 {w w1 w2 : World} (h1 : Below w.heap.size w.drew w1) (h2 : Below w1.heap.size w1 w2) : Frm (fun _ => False) w w2 := ((Frm.refl (fun _ => False) w).drew.trans (Frm.of_below h1)).transW (Frm.of_below (S := fun _ => False) h2) (fun _ h => h.elim)
theorem five_frm {w w2 w3 : World} {b lb wb n : Nat} {wv : Value} (h1 : n ≤ b) (h2 : n ≤ lb) (hn : w.heap.size ≤ n) (h : Frm (fun _ => False) w w2) (f : Frm (fun q => q = b ∨ q = lb ∨ q = wb ∨ wv.ownBlock = some q) w2 w3) : Frm (fun q => q = wb ∨ wv.ownBlock = some q) w w3 := by
  refine (h.mono fun _ _ h => h.elim).transW f ?_
  rintro q (e | e | e | e) hlt
  · omega
  · omega
  · exact .inl e
  · exact .inr e
theorem arg_A (w6 w5 : World) (b2 wb : Nat) (B5 : Below w6.drew.heap.size w6.drew w5) :
    Calls Try.prog 7 #[.pointer (some ⟨b2, 0, none⟩), .pointer (some ⟨wb, 0, none⟩), .int .i64 0, .slice (some ⟨w5.heap.size, 0, none⟩) 6 6, .int .i64 0] (w5.alloc (.cells (madeCells #[.int .u8 0] 6) 5)) fun e w' => e = .returned (.tuple #[.slice none 0 0, .int .i64 2]) ∧ Frm (fun _ => False) w6 w' := by
  refine (chunk_arg _ _ _ 0 0 _ 6 6 (by omega)).mono ?_
  rintro e w' ⟨rfl, hb⟩
  exact ⟨rfl, (Frm.drew4 B5 (below_alloc _ _)).transW (Frm.of_below (S := fun _ => False) hb) (fun _ h => h.elim)⟩
theorem arg_B (w6 w5 : World) (b2 wb : Nat) (B5 : Below (w6.drew.alloc (.cells (madeCells #[.int .u8 0] 6) 5)).heap.size (w6.drew.alloc (.cells (madeCells #[.int .u8 0] 6) 5)) w5) :
    Calls Try.prog 7 #[.pointer (some ⟨b2, 0, none⟩), .pointer (some ⟨wb, 0, none⟩), .int .i64 0, .slice (some ⟨w6.heap.size, 0, none⟩) 6 6, .int .i64 0] w5 fun e w' => e = .returned (.tuple #[.slice none 0 0, .int .i64 2]) ∧ Frm (fun _ => False) w6 w' := by
  refine (chunk_arg _ _ _ 0 0 _ 6 6 (by omega)).mono ?_
  rintro e w' ⟨rfl, hb⟩
  exact ⟨rfl, (Frm.drew4 (show Below w6.heap.size w6.drew (w6.drew.alloc (.cells (madeCells #[.int .u8 0] 6) 5)) from below_alloc w6.drew _) B5).transW (Frm.of_below (S := fun _ => False) hb) (fun _ h => h.elim)⟩
set_option maxRecDepth 100000 in
set_option maxHeartbeats 2000000 in
theorem wakes12 (w : World) : Calls Try.prog 11 #[] w fun e w' => e = .returned (.bool true) ∧ Below w.heap.size w w' := by
  have hm6 : ∀ w, (Instr.makeSlice 22 (.int .i64 6) (.int .i64 6)).run Try.prog w = .ok (.slice (some ⟨w.heap.size, 0, none⟩) 6 6) (w.alloc (.cells (madeCells #[.int .u8 0] 6) 5)) := fun w => made_bytes 6 (by omega) w
  have hm5 : ∀ w, (Instr.makeSlice 22 (.int .i64 5) (.int .i64 5)).run Try.prog w = .ok (.slice (some ⟨w.heap.size, 0, none⟩) 5 5) (w.alloc (.cells (madeCells #[.int .u8 0] 5) 5)) := fun w => made_bytes 5 (by omega) w
  go_enter Try.func11, Try.ntmps11
  go_wp2_with fail
  refine (lnew_st _).mono ?_; rintro e w1 ⟨sb, lb, rfl, g1, g2, hs1, hb1⟩
  have S1 := Lib.hid hs1
  have B1 := Lib.hid hb1
  clear hs1 hb1
  go_wp2_with fail
  refine (room_p 9 w1 (by omega) (by omega)).mono ?_; rintro e w2 ⟨wb, kb, rfl, g3, hw2, hb2⟩
  have S2 := Lib.hid (S1.out.later hb2)
  have W2 := Lib.hid hw2
  have B2 := Lib.hid (B1.out.trans (hb2.mono B1.out.size))
  have hsz := hb2.size
  clear hw2 hb2
  go_wp2_with fail
  have ha := below_alloc w2 (.cells (madeCells #[.int .u8 0] 6) 5)
  have hz := noughts_row 6 w2
  have S3 := Lib.hid (S2.out.later ha)
  have W3 := Lib.hid (W2.out.later ha)
  have B3 := Lib.hid (B2.out.trans (ha.mono B2.out.size))
  have hsz3 := ha.size
  obtain ⟨p2, hp2⟩ : ∃ p2, w2.heap.size = p2 := ⟨_, rfl⟩
  rw [hp2] at hz hsz3 hsz ⊢
  generalize w2.alloc (.cells (madeCells #[.int .u8 0] 6) 5) = w3 at *
  have HZ := Lib.hid hz
  clear ha hz
  refine (chunk_p (newK sb lb) 0 (fun _ => 0) (fun _ => 1024) w1.heap.size wb kb 9 [] (List.replicate 6 0) (.slice none 0 0) (some ⟨p2, 0, none⟩) 1 6 6 0 w3 S3.out W3.out (by omega) (by omega) (newK_ok _ _) (by omega) (fun _ => by omega) (by simp) HZ.out (by simp) (by unfold maxLen; omega) (by simp) (by omega) (by omega) (by omega)).mono ?_
  rintro e w4 ⟨f4, (⟨hn, rfl⟩ | ⟨told, y, tv, wv, hR, rfl, ho4, hs4, hw4, hm4, hne4⟩)⟩
  · have := wk_six sb lb
    rw [hn] at this
    cases this
  have htold : told = [0] := by
    have := wk_six sb lb
    rw [hR] at this
    injection this
  subst htold
  obtain ⟨A4, c4, rfl, hc4, hm4, -⟩ := ho4.slice
  obtain ⟨YC, hYC⟩ : ∃ C, y.C = C := ⟨_, rfl⟩
  rw [hYC] at hw4
  have S4 := Lib.hid hs4
  have W4 := Lib.hid hw4
  have O4 := Lib.hid ho4
  have N4 := Lib.hid hne4
  have B4 := Lib.hid (B3.out.trans (f4.below B3.out.size (by
    rintro q (e | e | e | e)
    · rw [e]; exact g1
    · rw [e]; exact g2
    · rw [e]; exact Nat.le_trans B1.out.size g3
    · cases e)))
  have Z4 := Lib.hid f4.size
  have HM4 := Lib.hid hm4
  clear hs4 hw4 ho4 hne4 f4 hm4 hYC hR
  have KB : Hid (w1.heap.size ≤ w4.heap.size) := Lib.hid (Nat.le_trans hsz (Nat.le_trans hsz3 Z4.out))
  have TA : ∀ (w5 : World) (b2 lb2 : Nat) (k1 : w4.drew.heap.size ≤ b2) (k2 : w4.drew.heap.size ≤ lb2) (S5 : StAt w5 (newK b2 lb2) 0 (fun _ => 0) (fun _ => 1024)) (B5 : Below w4.drew.heap.size w4.drew w5),
      Calls Try.prog 7 #[.pointer (some ⟨b2, 0, none⟩), .pointer (some ⟨wb, 0, none⟩), .int .i64 0, .slice (some ⟨w5.heap.size, 0, none⟩) 5 5, .int .i64 1] (w5.alloc (.cells (madeCells #[.int .u8 0] 5) 5)) fun e w' => e = .returned (.tuple #[.slice none 0 0, .int .i64 11]) ∧ Frm (fun q => q = wb ∨ wv.ownBlock = some q) w4 w' := by
    intro w5 b2 lb2 k1 k2 S5 B5
    refine (five_p b2 lb2 w1.heap.size wb kb YC wv _ _ (S5.later (below_alloc _ _)) (((W4.out.drew).later B5).later (below_alloc _ _)) (Nat.le_trans KB.out (Nat.le_trans B5.size (below_alloc _ _).size)) (noughts_row 5 _)).mono ?_
    rintro e w6 ⟨rfl, f6⟩
    exact ⟨rfl, five_frm k1 k2 (Nat.le_refl _) (Frm.drew4 B5 (below_alloc _ _)) f6⟩
  have TB : ∀ (w5 : World) (b2 lb2 : Nat) (k1 : (w4.drew.alloc (.cells (madeCells #[.int .u8 0] 5) 5)).heap.size ≤ b2) (k2 : (w4.drew.alloc (.cells (madeCells #[.int .u8 0] 5) 5)).heap.size ≤ lb2) (S5 : StAt w5 (newK b2 lb2) 0 (fun _ => 0) (fun _ => 1024)) (B5 : Below (w4.drew.alloc (.cells (madeCells #[.int .u8 0] 5) 5)).heap.size (w4.drew.alloc (.cells (madeCells #[.int .u8 0] 5) 5)) w5),
      Calls Try.prog 7 #[.pointer (some ⟨b2, 0, none⟩), .pointer (some ⟨wb, 0, none⟩), .int .i64 0, .slice (some ⟨w4.heap.size, 0, none⟩) 5 5, .int .i64 1] w5 fun e w' => e = .returned (.tuple #[.slice none 0 0, .int .i64 11]) ∧ Frm (fun q => q = wb ∨ wv.ownBlock = some q) w4 w' := by
    intro w5 b2 lb2 k1 k2 S5 B5
    refine (five_p b2 lb2 w1.heap.size wb kb YC wv _ _ S5 (((W4.out.drew).later (below_alloc _ _)).later B5) (Nat.le_trans KB.out (Nat.le_trans (below_alloc w4.drew _).size B5.size)) (((noughts_row 5 w4.drew).below B5).more B5.size)).mono ?_
    rintro e w6 ⟨rfl, f6⟩
    exact ⟨rfl, five_frm k1 k2 (below_alloc w4.drew _).size (Frm.drew4 (show Below w4.heap.size w4.drew (w4.drew.alloc (.cells (madeCells #[.int .u8 0] 5) 5)) from below_alloc w4.drew _) B5) f6⟩
  have TA' := Lib.hid TA
  have TB' := Lib.hid TB
  clear TA TB
  go_upto_region 6 with fail
  go_cut [5, 6] from 7 (fun v ev wx => v = .slice none 0 0 ∧ ev = .int .i64 11 ∧ Frm (fun q => q = wb ∨ wv.ownBlock = some q) w4 wx)
  case first =>
    go_region_with (first
      | (go_at_call 9; refine (lnew_st _).mono ?_; rintro e w5 ⟨b2, lb2, rfl, k1, k2, hs5, hb5⟩; have S5 := Lib.hid hs5; have B5 := Lib.hid hb5; clear hs5 hb5)
      | (go_at_call 7; (first | refine (TA'.out _ _ _ k1 k2 S5.out B5.out).mono ?_ | refine (TB'.out _ _ _ k1 k2 S5.out B5.out).mono ?_); rintro e w6 ⟨rfl, f6⟩; have F6 := Lib.hid f6; clear f6))
    all_goals
      go_wp2
      go_meet
      case rel => exact ⟨rfl, rfl, F6.out⟩
  case rest =>
    obtain ⟨rfl, rfl, f6⟩ := hcut
    obtain ⟨w6, hw6⟩ : ∃ w6, w6 = wc := ⟨_, rfl⟩
    subst hw6
    have S6 := Lib.hid (S4.out.frm f6 (by
      obtain ⟨lw, hwo⟩ := W4.out.own
      obtain ⟨cw, hwp⟩ := W4.out.pts
      rintro (e | e)
      · exact S4.out.m.ne_of hwp (by decide) e
      · exact own_ne hwo S4.out.m (by decide) e) (by
      obtain ⟨lw, hwo⟩ := W4.out.own
      obtain ⟨cw, hwp⟩ := W4.out.pts
      rintro (e | e)
      · exact S4.out.l.ne_of hwp (by decide) e
      · exact own_ne hwo S4.out.l (by decide) e))
    have O6 := Lib.hid (O4.out.frm f6 (by
      obtain ⟨cw, hwp⟩ := W4.out.pts
      rintro q hq (e | e)
      · subst e; exact own_ne O4.out hwp (by decide) hq
      · exact N4.out q hq e))
    have B6 := Lib.hid (B4.out.trans (f6.below B4.out.size (by
      obtain ⟨lw, hwo⟩ := W4.out.own
      rintro q (e | e)
      · rw [e]; exact Nat.le_trans B1.out.size g3
      · exact Nat.le_trans B1.out.size (hwo.lt e).1)))
    clear f6 hm5
    go_upto_region 7 with fail
    go_cut [7, 8] from 9 (fun v ev wx => v = .slice none 0 0 ∧ ev = .int .i64 2 ∧ Frm (fun _ => False) w6 wx)
    case first =>
      go_region_with (first
        | (go_at_call 9; refine (lnew_st _).mono ?_; rintro e w7 ⟨b2, lb2, rfl, k1, k2, hs7, hb7⟩; have B7 := Lib.hid hb7; clear hs7 hb7)
        | (go_at_call 7; (first | refine (arg_A w6 w7 b2 wb B7.out).mono ?_ | refine (arg_B w6 w7 b2 wb B7.out).mono ?_); rintro e w8 ⟨rfl, f8⟩; have F8 := Lib.hid f8; clear f8))
      all_goals
        go_wp2
        go_meet
        case rel => exact ⟨rfl, rfl, F8.out⟩
    case rest =>
      obtain ⟨rfl, rfl, f8⟩ := hcut
      have S8 := Lib.hid (S6.out.frm f8 id id)
      have O8 := Lib.hid (O6.out.frm f8 (fun _ _ h => h))
      have B8 := Lib.hid (B6.out.trans (f8.below B6.out.size (fun q h => h.elim)))
      obtain ⟨A8, c8, hA8, hc8, hm8, hr8⟩ := O8.out.slice
      obtain ⟨ab, off, hAe, hab, hcell⟩ := hr8 (by decide)
      have hc0 := hcell 0 (by decide)
      injection hA8 with e1 e2 e3
      subst e1
      subst hAe
      have hc1 : wc.cell? ⟨ab, off, none⟩ = some (.int .u8 0) := hc0
      clear f8 hr8 hcell hc0 hm6
      go_wp2_with fail
      refine (props_p 93 sb 3 0 2 y.st y.rep y.s.pr _ 57 wc (qcells_m (newK sb lb) y.st y.rep y.s.pr ▸ S8.out.m) ⟨_, _, _, rfl⟩ (by omega)).mono ?_; rintro e w9 ⟨rfl, f9, -⟩
      have e93 : (if 224 < 93 ∨ 4 < 93 % 9 + 93 / 9 % 5 then (11 : Int) else 0) = 0 := by decide
      have B9 := Lib.hid (B8.out.trans (f9.below B8.out.size (by rintro q e; rw [e]; exact g1)))
      clear f9
      rw [e93]
      clear e93
      go_wp2_with fail
      refine (props_bad 225 sb w9 (by omega) (by omega)).mono ?_; rintro e w10 ⟨rfl, rfl⟩
      go_wp2_with fail
      refine (props_bad 13 sb w9 (by omega) (by omega)).mono ?_; rintro e w10 ⟨rfl, rfl⟩
      go_wp2
      go_ret
      exact ⟨rfl, B9.out⟩
end Go.Proofs.Yteghpnlamdgpnaa

/- Chunks side by side, in plain Lean; a chunk and the same one with a byte more are not both taken. -/
namespace Go.Proofs.Yteghpnlamdgpnaa
open Go.RowKit Rng Win Lz
set_option linter.unusedVariables false
set_option linter.unusedSimpArgs false
section
variable {β : Dec → Prop}
set_option maxRecDepth 100000 in
theorem stays_step (K : Stays outC β) (k : LK) (S total room : Nat) {x y : RS} {b : List UInt8} (h : β x.s.d) (hs : stepOf k S total room x = some (b, y)) : β y.s.d := by
  unfold stepOf at hs
  simp only at hs
  have h1 := stays_bitAt K (8 + x.st * 16 + total % 2 ^ k.pb) 0 h
  split at hs
  · injection hs with hs
    injection hs with _ hy
    subst hy
    exact stays_litOf K _ _ _ _ _ h1
  · split at hs
    · injection hs with hs
      injection hs with _ hy
      subst hy
      exact stays_opOf K _ _ _ h1
    · cases hs
theorem stays_chunk (K : Stays outC β) (k : LK) (S total n : Nat) : ∀ (f : Nat) {told t : List UInt8} {x y : RS}, β x.s.d → chunkGo k S total n f told x = some (t, y) → β y.s.d
  | 0, _, _, _, _, _, h => by cases h
  | f + 1, told, t, x, y, hb, h => by
    unfold chunkGo at h
    split at h
    · injection h with h
      injection h with _ hy
      subst hy
      exact hb
    · cases hs : stepOf k S (total + told.length) (n - told.length) x with
      | none => rw [hs] at h; cases h
      | some p =>
        obtain ⟨b, z⟩ := p
        rw [hs] at h
        exact stays_chunk K k S total n f (stays_step K k S _ _ hb hs) h
end
/-- Two that know the same, but for their decoders. -/
def RS.Two (ρ : Dec → Dec → Prop) (x y : RS) : Prop := x.st = y.st ∧ x.rep = y.rep ∧ x.C = y.C ∧ Pair ρ x.s y.s
section
variable {ρ : Dec → Dec → Prop} {β : Dec → Prop}
set_option maxRecDepth 100000 in
theorem sim_step (K : Sim outC outC ρ β) (k : LK) (S total room : Nat) {x y : RS} (h : x.Two ρ y) : (stepOf k S total room x = none ∧ stepOf k S total room y = none) ∨ (∃ b x' y', stepOf k S total room x = some (b, x') ∧ stepOf k S total room y = some (b, y') ∧ x'.Two ρ y') ∨
    ∀ b y', stepOf k S total room y = some (b, y') → β y'.s.d := by
  obtain ⟨h1, h2, h3, h4⟩ := h
  have hst : ∀ {z : RS}, β (bitAt outC (8 + z.st * 16 + total % 2 ^ k.pb) 0 z.s).2.d → ∀ b y', stepOf k S total room z = some (b, y') → β y'.s.d := by
    intro z hz b y' hs
    unfold stepOf at hs
    simp only at hs
    split at hs
    · injection hs with hs
      injection hs with _ hy
      subst hy
      exact stays_litOf K.toStays _ _ _ _ _ hz
    · split at hs
      · injection hs with hs
        injection hs with _ hy
        subst hy
        exact stays_opOf K.toStays _ _ _ hz
      · cases hs
  rcases sim_bitAt K (8 + x.st * 16 + total % 2 ^ k.pb) 0 h4 with ⟨b1, b2⟩ | b3
  · unfold stepOf
    simp only
    rw [← h1, ← h2, ← h3, ← b1]
    by_cases h0 : (bitAt outC (8 + x.st * 16 + total % 2 ^ k.pb) 0 x.s).1 = 0
    · rw [if_pos h0, if_pos h0]
      have hl := sim_litOf K k x.st total x.rep x.C b2
      generalize litOf outC k x.st total x.rep x.C (bitAt outC (8 + x.st * 16 + total % 2 ^ k.pb) 0 x.s).2 = L1 at hl ⊢
      generalize litOf outC k x.st total x.rep x.C (bitAt outC (8 + x.st * 16 + total % 2 ^ k.pb) 0 y.s).2 = L2 at hl ⊢
      rcases hl with ⟨l1, l2⟩ | l3
      · rw [l1]
        exact .inr (.inl ⟨_, _, _, rfl, rfl, rfl, rfl, rfl, l2⟩)
      · refine .inr (.inr ?_)
        intro b y' hs
        injection hs with hs
        injection hs with _ hy
        subst hy
        exact l3
    · rw [if_neg h0, if_neg h0]
      have hl := sim_opOf K x.st (total % 2 ^ k.pb) x.rep b2
      generalize opOf outC x.st (total % 2 ^ k.pb) x.rep (bitAt outC (8 + x.st * 16 + total % 2 ^ k.pb) 0 x.s).2 = L1 at hl ⊢
      generalize opOf outC x.st (total % 2 ^ k.pb) x.rep (bitAt outC (8 + x.st * 16 + total % 2 ^ k.pb) 0 y.s).2 = L2 at hl ⊢
      rcases hl with ⟨l1, l2, l3, l4⟩ | l5
      · rw [← l1, ← l3]
        by_cases hg : L1.1 ≤ room ∧ L1.2.2.1 0 + 1 ≤ x.C.length
        · rw [if_pos hg, if_pos hg]
          exact .inr (.inl ⟨_, _, _, rfl, rfl, l2, rfl, rfl, l4⟩)
        · rw [if_neg hg, if_neg hg]
          exact .inl ⟨rfl, rfl⟩
      · refine .inr (.inr ?_)
        intro b y' hs
        split at hs
        · injection hs with hs
          injection hs with _ hy
          subst hy
          exact l5
        · cases hs
  · rw [h1] at b3
    exact .inr (.inr (hst b3))
theorem sim_chunk (K : Sim outC outC ρ β) (k : LK) (S total n : Nat) : ∀ (f : Nat) {told t1 t2 : List UInt8} {x y x' y' : RS}, x.Two ρ y → chunkGo k S total n f told x = some (t1, x') → chunkGo k S total n f told y = some (t2, y') → (t1 = t2 ∧ x'.Two ρ y') ∨ β y'.s.d
  | 0, _, _, _, _, _, _, _, _, h, _ => by cases h
  | f + 1, told, t1, t2, x, y, x', y', h, hx, hy => by
    unfold chunkGo at hx hy
    by_cases hn : n ≤ told.length
    · rw [if_pos hn] at hx hy
      injection hx with hx
      injection hx with e1 e2
      injection hy with hy
      injection hy with e3 e4
      subst e1; subst e2; subst e3; subst e4
      exact .inl ⟨rfl, h⟩
    · rw [if_neg hn] at hx hy
      rcases sim_step K k S (total + told.length) (n - told.length) h with ⟨s1, s2⟩ | ⟨b, x1, y1, s1, s2, s3⟩ | s4
      · rw [s1] at hx; cases hx
      · rw [s1] at hx
        rw [s2] at hy
        exact sim_chunk K k S total n f s3 hx hy
      · cases hs : stepOf k S (total + told.length) (n - told.length) y with
        | none => rw [hs] at hy; cases hy
        | some p =>
          obtain ⟨b, z⟩ := p
          rw [hs] at hy
          exact .inr (stays_chunk K.toStays k S total n f (s4 _ _ hs) hy)
end
/-- The same decoder, with a byte more tq9 come. -/
def MoreBy (m : UInt8) (d e : Dec) : Prop := d.rest = e.rest ++ [m] ∧ d.size = e.size ∧ d.code = e.code ∧ d.want = e.want
def Wants (d : Dec) : Prop := d.want = true
theorem Wants.order {d : Dec} (h : Wants d) : Wants d.order := by
  unfold Dec.order
  split
  · exact h
  · cases d.rest with
    | nil => rfl
    | cons x r => exact h
theorem Wants.bit {d : Dec} (c : Nat) (h : Wants d) : Wants (d.bit c).2 := by
  have h1 := h.order
  unfold Dec.bit
  simp only
  split <;> exact h1
theorem Wants.one {d : Dec} (h : Wants d) : Wants d.one.2 := by
  have h1 := h.order
  unfold Dec.one
  simp only
  split <;> exact h1
theorem Wants.direct : ∀ (n x : Nat) {d : Dec}, Wants d → Wants (d.direct n x).2
  | 0, _, _, h => h
  | n + 1, x, d, h => Wants.direct n _ h.one
theorem wants_stay : Stays outC Wants := ⟨fun t c x h => Wants.bit (fair c) h, fun t x n h => Wants.direct n 0 h⟩
theorem MoreBy.order {m : UInt8} {d e : Dec} (h : MoreBy m d e) : MoreBy m d.order e.order ∨ Wants e.order := by
  obtain ⟨h1, h2, h3, h4⟩ := h
  unfold Dec.order
  by_cases hs : 16777216 ≤ e.size
  · rw [if_pos hs, if_pos (by omega)]
    exact .inl ⟨h1, h2, h3, h4⟩
  · rw [if_neg hs, if_neg (by omega), h1]
    cases hr : e.rest with
    | nil => exact .inr rfl
    | cons x r =>
      simp only [List.cons_append]
      exact .inl ⟨rfl, by simp only; rw [h2], by simp only; rw [h3], h4⟩
theorem MoreBy.bit {m : UInt8} {d e : Dec} (c : Nat) (h : MoreBy m d e) : ((d.bit c).1 = (e.bit c).1 ∧ MoreBy m (d.bit c).2 (e.bit c).2) ∨ Wants (e.bit c).2 := by
  rcases h.order with ⟨h1, h2, h3, h4⟩ | h5
  · unfold Dec.bit
    simp only
    rw [h2, h3]
    split
    · exact .inl ⟨rfl, h1, rfl, rfl, h4⟩
    · exact .inl ⟨rfl, h1, rfl, rfl, h4⟩
  · refine .inr ?_
    unfold Dec.bit
    simp only
    split <;> exact h5
theorem MoreBy.one {m : UInt8} {d e : Dec} (h : MoreBy m d e) : (d.one.1 = e.one.1 ∧ MoreBy m d.one.2 e.one.2) ∨ Wants e.one.2 := by
  rcases h.order with ⟨h1, h2, h3, h4⟩ | h5
  · unfold Dec.one
    simp only
    rw [h2, h3]
    split
    · exact .inl ⟨rfl, h1, rfl, rfl, h4⟩
    · exact .inl ⟨rfl, h1, rfl, rfl, h4⟩
  · refine .inr ?_
    unfold Dec.one
    simp only
    split <;> exact h5
theorem MoreBy.direct {m : UInt8} : ∀ (n x : Nat) {d e : Dec}, MoreBy m d e → ((d.direct n x).1 = (e.direct n x).1 ∧ MoreBy m (d.direct n x).2 (e.direct n x).2) ∨ Wants (e.direct n x).2
  | 0, _, _, _, h => .inl ⟨rfl, h⟩
  | n + 1, x, d, e, h => by
    unfold Dec.direct
    rcases h.one with ⟨h1, h2⟩ | h3
    · rw [h1]
      exact MoreBy.direct n _ h2
    · exact .inr (Wants.direct n _ h3)
theorem more_sim (m : UInt8) : Sim outC outC (MoreBy m) Wants := ⟨wants_stay, fun s t c x h => MoreBy.bit (fair c) h, fun s t x n h => MoreBy.direct n 0 h⟩
theorem Wants.fin {d : Dec} (h : Wants d) : d.fin ≠ (0, 0) := by
  unfold Dec.fin
  rw [if_pos (show d.order.want = true from h.order)]
  intro e
  injection e with _ e
  cases e
theorem MoreBy.fin {m : UInt8} {d e : Dec} (h : MoreBy m d e) : d.fin ≠ (0, 0) ∨ e.fin ≠ (0, 0) := by
  rcases h.order with ⟨h1, h2, h3, h4⟩ | h5
  · refine .inl ?_
    unfold Dec.fin
    split
    · intro e; injection e with _ e; cases e
    · split
      · intro e; injection e with _ e; cases e
      · intro e
        injection e with e _
        rw [h1, List.length_append] at e
        simp at e
  · refine .inr ?_
    unfold Dec.fin
    rw [if_pos (show e.order.want = true from h5)]
    intro e
    injection e with _ e
    cases e
theorem newDec_more {bs : List UInt8} (m : UInt8) (h : 5 ≤ bs.length) : MoreBy m (newDec (bs ++ [m])) (newDec bs) := by
  unfold newDec MoreBy
  refine ⟨?_, rfl, ?_, rfl⟩
  · simp only
    rw [List.drop_append_of_le_length h]
  · simp only
    unfold be4
    have e : ∀ i, i < 5 → (bs ++ [m]).getD i 0 = bs.getD i 0 := by
      intro i hi
      simp only [List.getD_eq_getElem?_getD]
      rw [List.getElem?_append_left (by omega)]
    rw [e 1 (by omega), e 2 (by omega), e 3 (by omega), e 4 (by omega)]
/-- A chunk with a byte more is no chunk. -/
theorem chunk_exact (k : LK) (S total n st : Nat) (rep : Nat → Nat) (pr : Pr) (C bs : List UInt8) (m : UInt8) (h : chunkOf k S total n st rep pr C bs ≠ none) : chunkOf k S total n st rep pr C (bs ++ [m]) = none := by
  unfold chunkOf at h ⊢
  by_cases hn : newErr bs ≠ 0
  · rw [if_pos hn] at h; exact absurd rfl h
  · rw [if_neg hn] at h
    have h5 : 5 ≤ bs.length := by
      unfold newErr at hn
      by_cases h5 : bs.length < 5
      · rw [if_pos h5] at hn; exact absurd (by decide) hn
      · omega
    by_cases hn2 : newErr (bs ++ [m]) ≠ 0
    · rw [if_pos hn2]
    · rw [if_neg hn2]
      cases h1 : chunkGo k S (totOf total) n (n + 1) [] ⟨st, rep, ⟨newDec bs, pr⟩, C⟩ with
      | none => rw [h1] at h; exact absurd rfl h
      | some p =>
        obtain ⟨t, y⟩ := p
        rw [h1] at h
        simp only at h
        have hf : y.s.d.fin = (0, 0) := by
          by_cases hf : y.s.d.fin = (0, 0)
          · exact hf
          · rw [if_neg hf] at h; exact absurd rfl h
        cases h2 : chunkGo k S (totOf total) n (n + 1) [] ⟨st, rep, ⟨newDec (bs ++ [m]), pr⟩, C⟩ with
        | none => rfl
        | some q =>
          obtain ⟨t', x⟩ := q
          simp only
          have hs := sim_chunk (more_sim m) k S (totOf total) n (n + 1) (x := ⟨st, rep, ⟨newDec (bs ++ [m]), pr⟩, C⟩) (y := ⟨st, rep, ⟨newDec bs, pr⟩, C⟩) ⟨rfl, rfl, rfl, newDec_more m h5, rfl⟩ h2 h1
          rw [if_neg]
          intro hx
          rcases hs with ⟨_, _, _, _, hp⟩ | hw
          · rcases hp.1.fin with e | e
            · exact e hx
            · exact e hf
          · exact hw.fin hf
end Go.Proofs.Yteghpnlamdgpnaa

/- A chunk out of a new state and a new window; LzmaExact. -/
namespace Go.Proofs.Yteghpnlamdgpnaa
open Go.RowKit Rng Lz Win
set_option linter.unusedVariables false
set_option linter.unusedSimpArgs false
theorem stepOf_k {k k' : LK} (h : k.lc = k'.lc ∧ k.lp = k'.lp ∧ k.pb = k'.pb) (S total room : Nat) (x : RS) : stepOf k S total room x = stepOf k' S total room x := by
  unfold stepOf litOf
  rw [h.1, h.2.1, h.2.2]
theorem chunkGo_k {k k' : LK} (h : k.lc = k'.lc ∧ k.lp = k'.lp ∧ k.pb = k'.pb) (S total n : Nat) : ∀ (f : Nat) (told : List UInt8) (x : RS), chunkGo k S total n f told x = chunkGo k' S total n f told x
  | 0, _, _ => rfl
  | f + 1, told, x => by
    unfold chunkGo
    rw [stepOf_k h]
    split
    · rfl
    · split
      · rfl
      · exact chunkGo_k h S total n f _ _
theorem chunkOf_k {k k' : LK} (h : k.lc = k'.lc ∧ k.lp = k'.lp ∧ k.pb = k'.pb) (S total n st : Nat) (rep : Nat → Nat) (pr : Pr) (C bs : List UInt8) : chunkOf k S total n st rep pr C bs = chunkOf k' S total n st rep pr C bs := by
  unfold chunkOf
  rw [chunkGo_k h]
/-- A chunk out of a new state and a new window. -/
def fresh (S n : Nat) (bs : List UInt8) : Option (List UInt8 × RS) := chunkOf (newK 0 0) S 0 n 0 (fun _ => 0) (fun _ => 1024) [] bs
theorem fresh_k (b lb S n : Nat) (bs : List UInt8) : chunkOf (newK b lb) S 0 n 0 (fun _ => 0) (fun _ => 1024) [] bs = fresh S n bs := chunkOf_k (k := newK b lb) (k' := newK 0 0) ⟨rfl, rfl, rfl⟩ S 0 n 0 (fun _ => 0) (fun _ => 1024) [] bs
/-- Its error. -/
def exE (S : Nat) (n : Int) (bs : List UInt8) : Int := if n < 1 then 2 else if (fresh S n.toNat bs).isSome then 0 else 11
theorem ex_more {S : Nat} {n : Int} {bs : List UInt8} (m : UInt8) (h : exE S n bs = 0) : exE S n (bs ++ [m]) = 11 := by
  unfold exE at h ⊢
  by_cases hn : n < 1
  · rw [if_pos hn] at h; cases h
  · rw [if_neg hn] at h ⊢
    have h1 : fresh S n.toNat bs ≠ none := by
      intro e
      rw [e] at h
      cases h
    have h2 : fresh S n.toNat (bs ++ [m]) = none := chunk_exact _ _ _ _ _ _ _ _ _ m h1
    rw [h2]
    rfl
theorem ex_less {S : Nat} {n : Int} {bs : List UInt8} (h0 : bs ≠ []) (h : exE S n bs = 0) : exE S n bs.dropLast = 11 := by
  have hne : exE S n bs.dropLast ≠ 0 := by
    intro e
    have h2 := ex_more (bs.getLast h0) e
    rw [List.dropLast_concat_getLast h0, h] at h2
    cases h2
  unfold exE at h hne ⊢
  by_cases hn : n < 1
  · rw [if_pos hn] at h; cases h
  · rw [if_neg hn] at hne ⊢
    split
    · rename_i hs
      rw [if_pos hs] at hne
      exact absurd rfl hne
    · rfl
theorem fresh_chunk (N b lb base wb kb S l c : Nat) (n : Int) (bs : List UInt8) (A : Option Addr) (w : World) (hs : StAt w (newK b lb) 0 (fun _ => 0) (fun _ => 1024)) (hw : WinC w base wb kb S [] (.slice none 0 0)) (hb : base ≤ w.heap.size) (hS : S ≤ 16777216)
    (hl : l = bs.length) (hr : BRow w w.heap.size A bs) (hc : bs.length ≤ c) (hcm : c ≤ maxLen) (hlen : bs.length ≤ 140737488355328) (hn : n ≤ 2097152) (h1 : N ≤ b) (h2 : N ≤ lb) (h3 : N ≤ wb) (hN : N ≤ w.heap.size) :
    Calls Try.prog 7 #[.pointer (some ⟨b, 0, none⟩), .pointer (some ⟨wb, 0, none⟩), .int .i64 0, .slice A l c, .int .i64 n] w fun e w' => (∃ tv, e = .returned (.tuple #[tv, .int .i64 (exE S n bs)])) ∧ Below N w w' := by
  by_cases hn1 : n < 1
  · have e : exE S n bs = 2 := if_pos hn1
    rw [e]
    refine (chunk_arg w ⟨b, 0, none⟩ ⟨wb, 0, none⟩ 0 n A l c (.inl hn1)).mono ?_
    rintro e w' ⟨rfl, hB⟩
    exact ⟨⟨_, rfl⟩, hB.mono hN⟩
  · obtain ⟨m, rfl⟩ : ∃ m : Nat, n = m := ⟨n.toNat, by omega⟩
    refine (chunk_p (newK b lb) 0 (fun _ => 0) (fun _ => 1024) base wb kb S [] bs (.slice none 0 0) A m c l 0 w hs hw hb hS (newK_ok _ _) (by omega) (fun _ => by omega) hl hr hc hcm hlen (by omega) (by omega) (by omega)).mono ?_
    rw [fresh_k]
    have hfr : ∀ {w'}, Frm (fun q => q = (newK b lb).sb ∨ q = (newK b lb).lb ∨ q = wb ∨ (Value.slice none 0 0).ownBlock = some q) w w' → Below N w w' := by
      intro w' f
      refine f.below hN ?_
      rintro q (e | e | e | e)
      · rw [e]; exact h1
      · rw [e]; exact h2
      · rw [e]; exact h3
      · cases e
    rintro e w' ⟨f, (⟨hR, rfl⟩ | ⟨told, y, tv, wv', hR, rfl, _⟩)⟩
    · refine ⟨⟨.slice none 0 0, ?_⟩, hfr f⟩
      have : exE S m bs = 11 := by unfold exE; rw [if_neg hn1, Int.toNat_natCast, hR]; rfl
      rw [this]
    · refine ⟨⟨tv, ?_⟩, hfr f⟩
      have : exE S m bs = 0 := by unfold exE; rw [if_neg hn1, Int.toNat_natCast, hR]; rfl
      rw [this]
theorem one_row (w : World) (x : UInt8) : BRow (w.alloc (.cells #[.int .u8 (x.toNat : Int)] 5)) (w.heap.size + 1) (some ⟨w.heap.size, 0, none⟩) [x] := by
  intro _
  refine ⟨w.heap.size, 0, rfl, by omega, fun k hk => ?_⟩
  obtain rfl : k = 0 := by simpa using hk
  exact (Pts.new w #[.int .u8 (x.toNat : Int)] 5).cell 0
theorem slice_toL (A : Option Addr) (n c m : Nat) (hf : m ≤ n) (hn : n ≤ c) (w : World) :
    (Instr.sliceAt 22 (.slice A n c) none (some (.int .i64 (m : Int))) none).run Try.prog w = .ok (.slice A m c) w := by
  by_cases hcf : c = 0
  · simp [go_sem, hcf]
    intro h; omega
  · simp [go_sem, hcf]
    intro h; omega
theorem take_sub1 (bs : List UInt8) : bs.take (bs.length - 1) = bs.dropLast := List.dropLast_eq_take.symm
set_option maxRecDepth 100000 in
set_option maxHeartbeats 4000000 in
theorem lawExact12 (A : Option Addr) (n c : Nat) (f : Nat → Int) (x m : Int) (w : World) (hl : n ≤ c) (hm : c ≤ maxLen) (hr0 : Opn.RowAt w w.heap.size A n (fun i => .int .u8 (f i))) (hf : ∀ i, i < n → 0 ≤ f i ∧ f i ≤ 255) (hx : -9223372036854775808 ≤ x ∧ x ≤ 9223372036854775807) (hb : 0 ≤ m ∧ m ≤ 255) :
    Calls Try.prog 5 #[.slice A n c, .int .i64 x, .int .u8 m] w fun e w' => e = .returned (.bool true) ∧ Below w.heap.size w w' := by
  obtain ⟨bs, hbs, hr⟩ := BRow.of_row hr0 hf
  subst hbs
  have HR := Lib.hid hr
  have HX := Lib.hid hx
  clear hr0 hf hr hx
  have h4 : 16384 < bs.length ∨ (bs.length ≤ 16384 ∧ 16384 < x) ∨ (bs.length ≤ 16384 ∧ x ≤ 16384 ∧ bs.length = 0) ∨ (bs.length ≤ 16384 ∧ x ≤ 16384 ∧ 1 ≤ bs.length) := by omega
  have h5 : (16384 < bs.length ∨ (bs.length ≤ 16384 ∧ 16384 < x) ∨ (bs.length ≤ 16384 ∧ x ≤ 16384 ∧ bs.length = 0)) ∨ (bs.length ≤ 16384 ∧ x ≤ 16384 ∧ 1 ≤ bs.length) := by omega
  clear h4
  rcases h5 with h | ⟨g1, g2, g3⟩
  · obtain ⟨L, hL⟩ : ∃ L, bs.length = L := ⟨_, rfl⟩
    rw [hL] at h ⊢
    clear HR hl hm hL
    rcases h with h | ⟨h, h2⟩ | ⟨h, h2, rfl⟩
    all_goals
      first | have hi : (16384 : Int) < (L : Int) := by omega | have hi : (L : Int) ≤ 16384 := by omega | skip
      go_enter Try.func5, Try.ntmps5
      go_wp2_with fail
      refine (wakes12 _).mono ?_; rintro e w7 ⟨rfl, hb7⟩
      have B7 := Lib.hid hb7
      clear hb7
      go_wp2
      go_ret
      exact ⟨rfl, B7.out⟩
  · obtain ⟨mm, hmm⟩ : ∃ mm : UInt8, (mm.toNat : Int) = m := ⟨UInt8.ofNat m.toNat, by rw [UInt8.toNat_ofNat']; omega⟩
    subst hmm
    obtain ⟨E, hE⟩ : ∃ E, exE 4096 x bs = E := ⟨_, rfl⟩
    have HE := Lib.hid hE
    have g1i : (bs.length : Int) ≤ 16384 := by omega
    have g3i : (1 : Int) ≤ (bs.length : Int) := by omega
    have G123 := Lib.hid (And.intro g1 (And.intro g2 g3))
    clear hE
    by_cases hE0 : E = 0
    · subst hE0
      have hne : bs ≠ [] := by intro e; rw [e] at g3; simp at g3
      have HE1 := Lib.hid (ex_more (n := x) mm HE.out)
      have HE2 := Lib.hid (ex_less (n := x) hne HE.out)
      obtain ⟨L, hL⟩ : ∃ L, bs.length = L := ⟨_, rfl⟩
      obtain ⟨L1, hL1⟩ : ∃ L1, bs.length - 1 = L1 := ⟨_, rfl⟩
      have hdl : bs.dropLast.length = L1 := by rw [List.length_dropLast, hL1]
      have hz : ((L : Int) == 0) = false := by rw [beq_eq_false_iff_ne]; omega
      have hL1i : (L : Int) - 1 = (L1 : Int) := by omega
      have hL1w : IntKind.i64.wrap (L1 : Int) = (L1 : Int) := Go.IntWalk.i64_in _ (by omega)
      have hsl : ∀ w, (Instr.sliceAt 22 (.slice A L c) none (some (.int .i64 (L1 : Int))) none).run Try.prog w = .ok (.slice A L1 c) w := fun w => slice_toL A L c L1 (by omega) (by omega) w
      have HRD : Hid (BRow w w.heap.size A bs.dropLast) := Lib.hid (by rw [← take_sub1]; exact HR.out.take _)
      have HDL := Lib.hid hdl
      have HL := Lib.hid hL
      have HLL : Hid (bs.length ≤ c ∧ L1 ≤ c ∧ L ≤ 16384 ∧ L1 ≤ 16384) := Lib.hid ⟨by omega, by omega, by omega, by omega⟩
      rw [hL] at g1i g3i ⊢
      clear hne hl hdl hL1 hL g1 g3
      go_enter Try.func5, Try.ntmps5
      go_wp2_with fail
      refine (lnew_st _).mono ?_; rintro e w1 ⟨b1, lb1, rfl, k1, k2, hs1, hB1⟩
      have S1 := Lib.hid hs1
      have B1 := Lib.hid hB1
      clear hs1 hB1
      go_wp2_with fail
      refine (room_p 4096 w1 (by omega) (by omega)).mono ?_; rintro e w2 ⟨wb, kb, rfl, k3, hw2, hB2⟩
      have S2 := Lib.hid (S1.out.later hB2)
      have W2 := Lib.hid hw2
      have B2 := Lib.hid (B1.out.trans (hB2.mono B1.out.size))
      have Z2 := Lib.hid hB2.size
      clear hw2 hB2
      go_wp2_with fail
      refine (fresh_chunk w.heap.size b1 lb1 w1.heap.size wb kb 4096 L c x bs A w2 S2.out W2.out Z2.out (by omega) HL.out.symm ((HR.out.below B2.out).more B2.out.size) HLL.out.1 hm (by have := HLL.out; have := HL.out; omega) (by omega) k1 k2 (Nat.le_trans B1.out.size k3) B2.out.size).mono ?_; rintro e w3 ⟨⟨tv, rfl⟩, hB3⟩
      rw [HE.out]
      have B3 := Lib.hid (B2.out.trans hB3)
      clear hB3
      go_wp2_with fail
      refine (lnew_st _).mono ?_; rintro e w4 ⟨b4, lb4, rfl, k4, k5, hs4, hB4⟩
      have S4 := Lib.hid hs4
      have B4 := Lib.hid (B3.out.trans (hB4.mono B3.out.size))
      have k4' := Nat.le_trans B3.out.size k4
      have k5' := Nat.le_trans B3.out.size k5
      clear hs4 hB4
      go_wp2_with fail
      refine (room_p 4096 w4 (by omega) (by omega)).mono ?_; rintro e w5 ⟨wb5, kb5, rfl, k6, hw5, hB5⟩
      have S5 := Lib.hid (S4.out.later hB5)
      have W5 := Lib.hid hw5
      have B5 := Lib.hid (B4.out.trans (hB5.mono B4.out.size))
      have Z5 := Lib.hid hB5.size
      have k6' := Nat.le_trans B4.out.size k6
      clear hw5 hB5
      go_wp2_with (at_builtin; refine wpList_append_bytes _ rfl (.tmp 40) (.tmp 41) 22 rfl 5 w5.heap.size Try.underlying22 Try.info_u8 (.slice (some ⟨w5.heap.size, 0, none⟩) 0 0) [] rfl ?own1 A L c w.heap.size bs rfl HL.out.symm ?row1 ?len1 ?base1 ?next1)
      case own1 => exact OwnB.made w5 _ _ (Nat.le_refl _)
      case row1 => exact (HR.out.below B5.out).below ((Below.refl _ w5).alloc B5.out.size _)
      case len1 => have := HLL.out; have := HL.out; simp; omega
      case base1 => simp
      case next1 =>
        intro v6 w6 hown6 hfrm6 hnew6
        have F6 := Lib.hid ((below_alloc w5 _).trans (hfrm6.below (by simp) (fun q hq => by obtain rfl := Option.some.inj hq; exact Nat.le_refl _)))
        obtain ⟨A6, c6, rfl, -, -, -⟩ := hown6.slice
        rw [HL.out] at hown6 ⊢
        have O6 := Lib.hid hown6
        clear hown6 hfrm6 hnew6
        go_wp2_with (at_builtin; refine wpList_append_bytes _ rfl (.tmp 42) (.tmp 44) 22 rfl 5 w5.heap.size Try.underlying22 Try.info_u8 (.slice A6 L c6) bs rfl ?own2 (some ⟨w6.heap.size, 0, none⟩) 1 1 (w6.heap.size + 1) [mm] rfl rfl ?row2 ?len2 ?base2 ?next2)
        case own2 => exact O6.out.alloc _
        case row2 => exact one_row w6 mm
        case len2 => have := HLL.out; have := HL.out; simp; omega
        case base2 => have := F6.out.size; simp; omega
        case next2 =>
          intro v7 w7 hown7 hfrm7 hnew7
          have F7 := Lib.hid ((F6.out.trans ((below_alloc w6 _).mono F6.out.size)).trans (hfrm7.below (by have := F6.out.size; simp; omega) (fun q hq => (O6.out.lt hq).1)))
          obtain ⟨A7, c7, rfl, hc7, hm7, hr7⟩ := hown7.slice
          obtain ⟨M, hM⟩ : ∃ M, (bs ++ [mm]).length = M := ⟨_, rfl⟩
          have hMb : M ≤ 16385 := by rw [← hM, List.length_append, HL.out]; have := HLL.out; simp; omega
          rw [hM] at hc7 ⊢
          have HM := Lib.hid hM
          have R7 := Lib.hid hr7
          clear hown7 hfrm7 hnew7 hr7 hM
          go_wp2_with fail
          refine (fresh_chunk w.heap.size b4 lb4 w4.heap.size wb5 kb5 4096 M c7 x (bs ++ [mm]) A7 w7 (S5.out.later F7.out) (W5.out.later F7.out) (Nat.le_trans Z5.out F7.out.size) (by omega) HM.out.symm R7.out (by rw [HM.out]; exact hc7) hm7 (by rw [HM.out]; omega) (by omega) k4' k5' k6' (Nat.le_trans B5.out.size F7.out.size)).mono ?_; rintro e w8 ⟨⟨tv2, rfl⟩, hB8⟩
          rw [HE1.out]
          have B8 := Lib.hid ((B5.out.trans (F7.out.mono B5.out.size)).trans hB8)
          clear hB8 hc7 hm7 hMb
          go_upto_region 7 with fail
          go_cut [12] from 13 (fun ev wx => ev = .int .i64 11 ∧ Below w.heap.size w wx)
          case first =>
            have BD := Lib.hid (B8.out.drew)
            go_region_with (first
              | (go_at_call 9; refine (lnew_st _).mono ?_; rintro e w9 ⟨b9, lb9, rfl, j1, j2, hs9, hB9⟩; have S9 := Lib.hid hs9; have B9 := Lib.hid (BD.out.trans (hB9.mono BD.out.size)); have J1 := Lib.hid (Nat.le_trans BD.out.size j1); have J2 := Lib.hid (Nat.le_trans BD.out.size j2); clear hs9 hB9)
              | (go_at_call 8; refine (room_p 4096 _ (by omega) (by omega)).mono ?_; rintro e w10 ⟨wb9, kb9, rfl, j3, hw9, hB10⟩; have S10 := Lib.hid (S9.out.later hB10); have W10 := Lib.hid hw9; have B10 := Lib.hid (B9.out.trans (hB10.mono B9.out.size)); have Z10 := Lib.hid hB10.size; have J3 := Lib.hid (Nat.le_trans B9.out.size j3); clear hw9 hB10)
              | (go_at_call 7; refine (fresh_chunk w.heap.size b9 lb9 w9.heap.size wb9 kb9 4096 L1 c x bs.dropLast A w10 S10.out W10.out Z10.out (by omega) HDL.out.symm ((HRD.out.below B10.out).more B10.out.size) (by rw [HDL.out]; exact HLL.out.2.1) hm (by rw [HDL.out]; have := HLL.out; omega) (by omega) J1.out J2.out J3.out B10.out.size).mono ?_; rintro e w11 ⟨⟨tv3, rfl⟩, hB11⟩; rw [HE2.out]; have B11 := Lib.hid (B10.out.trans hB11); clear hB11))
            all_goals
              go_wp2
              go_meet
              case rel => exact ⟨rfl, B11.out⟩
          case rest =>
            obtain ⟨rfl, hB12⟩ := hcut
            have B12 := Lib.hid hB12
            clear hB12
            go_wp2_with fail
            refine (wakes12 _).mono ?_; rintro e w13 ⟨rfl, hb13⟩
            have B13 := Lib.hid (B12.out.trans (hb13.mono B12.out.size))
            clear hb13
            go_wp2
            go_ret
            exact ⟨rfl, B13.out⟩
    · have hq1 : (E == 0) = false := by rw [beq_eq_false_iff_ne]; exact hE0
      have hq2 : (E != 0) = true := by rw [bne_iff_ne]; exact hE0
      have hz : ((bs.length : Int) == 0) = false := by rw [beq_eq_false_iff_ne]; omega
      clear hE0
      go_enter Try.func5, Try.ntmps5
      go_wp2_with fail
      refine (lnew_st _).mono ?_; rintro e w1 ⟨b1, lb1, rfl, k1, k2, hs1, hB1⟩
      have S1 := Lib.hid hs1
      have B1 := Lib.hid hB1
      clear hs1 hB1
      go_wp2_with fail
      refine (room_p 4096 w1 (by omega) (by omega)).mono ?_; rintro e w2 ⟨wb, kb, rfl, k3, hw2, hB2⟩
      have S2 := Lib.hid (S1.out.later hB2)
      have W2 := Lib.hid hw2
      have B2 := Lib.hid (B1.out.trans (hB2.mono B1.out.size))
      have Z2 := Lib.hid hB2.size
      clear hw2 hB2
      go_wp2_with fail
      refine (fresh_chunk w.heap.size b1 lb1 w1.heap.size wb kb 4096 bs.length c x bs A w2 S2.out W2.out Z2.out (by omega) rfl ((HR.out.below B2.out).more B2.out.size) hl hm (by omega) (by omega) k1 k2 (Nat.le_trans B1.out.size k3) B2.out.size).mono ?_; rintro e w3 ⟨⟨tv, rfl⟩, hB3⟩
      rw [HE.out]
      have B3 := Lib.hid (B2.out.trans hB3)
      clear hB3
      go_wp2_with fail
      refine (wakes12 _).mono ?_; rintro e w7 ⟨rfl, hb7⟩
      have B7 := Lib.hid (B3.out.trans (hb7.mono B3.out.size))
      clear hb7
      go_wp2
      go_ret
      exact ⟨rfl, B7.out⟩
end Go.Proofs.Yteghpnlamdgpnaa

/- LzmaPlain. -/
namespace Go.Proofs.Yteghpnlamdgpnaa
open Go.RowKit Rng Win Lz
set_option linter.unusedVariables false
set_option linter.unusedSimpArgs false
set_option maxRecDepth 100000 in
set_option maxHeartbeats 4000000 in
theorem lawPlain12 (A : Option Addr) (n c : Nat) (f : Nat → Int) (w : World) (hl : n ≤ c) (hm : c ≤ maxLen) (hr0 : Opn.RowAt w w.heap.size A n (fun i => .int .u8 (f i))) (hf : ∀ i, i < n → 0 ≤ f i ∧ f i ≤ 255) :
    Calls Try.prog 4 #[.slice A n c] w fun e w' => e = .returned (.bool true) ∧ Below w.heap.size w w' := by
  obtain ⟨bs, hbs, hr⟩ := BRow.of_row hr0 hf
  have HR := Lib.hid hr
  have HN := Lib.hid hbs.symm
  have HLC : Hid (bs.length ≤ c) := Lib.hid (by omega)
  clear hr0 hf hr hbs
  have h5 : (n = 0 ∨ 4096 < n) ∨ (1 ≤ n ∧ n ≤ 4096) := by omega
  rcases h5 with h | ⟨g1, g2⟩
  · have hz : ((n : Int) = 0) ∨ (1 ≤ (n : Int) ∧ (4096 : Int) < n) := by omega
    clear h
    rcases hz with hz | ⟨hz1, hz2⟩
    · obtain rfl : n = 0 := by omega
      go_enter Try.func4, Try.ntmps4
      go_wp2_with fail
      refine (wakes12 _).mono ?_; rintro e w7 ⟨rfl, hb7⟩
      have B7 := Lib.hid hb7
      clear hb7
      go_wp2
      go_ret
      exact ⟨rfl, B7.out⟩
    · have hq : ((n : Int) == 0) = false := by rw [beq_eq_false_iff_ne]; omega
      go_enter Try.func4, Try.ntmps4
      go_wp2_with fail
      refine (wakes12 _).mono ?_; rintro e w7 ⟨rfl, hb7⟩
      have B7 := Lib.hid hb7
      clear hb7
      go_wp2
      go_ret
      exact ⟨rfl, B7.out⟩
  · have hz1 : (1 : Int) ≤ (n : Int) := by omega
    have hz2 : (n : Int) ≤ 4096 := by omega
    have hq : ((n : Int) == 0) = false := by rw [beq_eq_false_iff_ne]; omega
    have HG := Lib.hid (And.intro g1 g2)
    clear g1 g2 hl
    go_enter Try.func4, Try.ntmps4
    go_wp2_with fail
    refine (lnew_st _).mono ?_; rintro e w1 ⟨b1, lb1, rfl, k1, k2, hs1, hB1⟩
    have S1 := Lib.hid hs1
    have B1 := Lib.hid hB1
    clear hs1 hB1
    go_wp2_with fail
    refine (room_p 1 w1 (by omega) (by omega)).mono ?_; rintro e w2 ⟨wb, kb, rfl, k3, hw2, hB2⟩
    have S2 := Lib.hid (S1.out.later hB2)
    have W2 := Lib.hid hw2
    have B2 := Lib.hid (B1.out.trans (hB2.mono B1.out.size))
    have Z2 := Lib.hid hB2.size
    have K3 := Lib.hid (Nat.le_trans B1.out.size k3)
    clear hw2 hB2 k3
    go_wp2_with fail
    refine (made_p A bs n c w2 HN.out ((HR.out.below B2.out).more B2.out.size) (by have := HG.out; have := HN.out; omega)).mono ?_; rintro e w3 ⟨v3, rfl, ho3, hB3⟩
    obtain ⟨A3, c3, rfl, hc3, hm3, hr3⟩ := ho3.slice
    obtain ⟨L3, hL3⟩ : ∃ L, (madeB bs).length = L := ⟨_, rfl⟩
    rw [hL3] at hc3 ⊢
    have HL3 := Lib.hid hL3
    have R3 := Lib.hid hr3
    have S3 := Lib.hid (S2.out.later hB3)
    have W3 := Lib.hid (W2.out.later hB3)
    have B3 := Lib.hid (B2.out.trans (hB3.mono B2.out.size))
    have Z3 := Lib.hid (Nat.le_trans Z2.out hB3.size)
    have HC3 := Lib.hid (And.intro hc3 hm3)
    clear ho3 hB3 hr3 hL3 hc3 hm3
    go_wp2_with fail
    refine (chunk_p (newK b1 lb1) 0 (fun _ => 0) (fun _ => 1024) w1.heap.size wb kb 1 [] (madeB bs) (.slice none 0 0) A3 n c3 L3 0 w3 S3.out W3.out Z3.out (by omega) (newK_ok _ _) (by omega) (fun _ => by omega) HL3.out.symm R3.out (by rw [HL3.out]; exact HC3.out.1) HC3.out.2 (by have := madeB_len bs; have := HG.out; have := HN.out; omega) HG.out.1 (by have := HG.out; omega) (by omega)).mono ?_
    rintro e w4 ⟨f4, hR⟩
    have hR2 : ∃ tv, e = .returned (.tuple #[tv, .int .i64 0]) ∧ OwnB w4 5 w3.heap.size tv bs := by
      obtain ⟨y0, hy0⟩ := plain_made bs
      rw [HN.out, fresh_k] at hR
      rcases hR with ⟨h1, _⟩ | ⟨told, y, tv, wv', h1, h2, h3, _⟩
      · have : fresh 1 bs.length (madeB bs) = some (bs, y0) := hy0
        rw [this] at h1
        cases h1
      · have : fresh 1 bs.length (madeB bs) = some (bs, y0) := hy0
        rw [this] at h1
        injection h1 with h1
        injection h1 with h1 _
        subst h1
        exact ⟨tv, h2, h3⟩
    obtain ⟨tv, rfl, ho4⟩ := hR2
    obtain ⟨A4, c4, rfl, -, -, hr4⟩ := ho4.slice
    have B4 := Lib.hid (B3.out.trans (f4.below B3.out.size (by
      rintro q (e | e | e | e)
      · rw [e]; exact k1
      · rw [e]; exact k2
      · rw [e]; exact K3.out
      · cases e)))
    have e1 := run_conv_bytes (P := Try.prog) w4 22 9 5 Try.underlying22 Try.underlying5 Try.underlying9 A4 bs.length c4 _ bs rfl hr4
    have e2 := run_conv_bytes (P := Try.prog) w4 22 9 5 Try.underlying22 Try.underlying5 Try.underlying9 A n c _ bs HN.out (HR.out.below B4.out)
    rw [← HN.out] at e1 ⊢
    clear hR f4 ho4 hr4
    go_wp2_with fail
    refine (wakes12 _).mono ?_; rintro e w7 ⟨rfl, hb7⟩
    have B7 := Lib.hid (B4.out.trans (hb7.mono B4.out.size))
    clear hb7
    go_wp2
    go_ret
    exact ⟨rfl, B7.out⟩
end Go.Proofs.Yteghpnlamdgpnaa
