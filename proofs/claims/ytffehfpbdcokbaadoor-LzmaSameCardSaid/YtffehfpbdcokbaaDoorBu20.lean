/- Texts of this proof, put together: LzY, LcA, LcB. -/
import Derived.Deep.LoopGhost
import Derived.Deep.Onto
import Derived.Test.YtffehfpbdcokbaaDoorBu17
import Derived.Test.YtffehfpbdcokbaaDoorBu18
import Derived.Test.YtffehfpbdcokbaaDoorBu19
set_option linter.unusedVariables false
set_option linter.unusedSimpArgs false
/- A chunk: what is refused ahead of all. -/
namespace Go.Proofs.YtffehfpbdcokbaaDoor
open Go.RowKit Rng Lz Win
set_option linter.unusedVariables false
set_option linter.unusedSimpArgs false
theorem two_new (w : World) (v x : Value) (T U : TypeId) : Pts ((w.alloc (.cells #[v] T)).alloc (.cells #[x] U)) w.heap.size #[v] T ∧ Pts ((w.alloc (.cells #[v] T)).alloc (.cells #[x] U)) (w.heap.size + 1) #[x] U ∧ Below w.heap.size w ((w.alloc (.cells #[v] T)).alloc (.cells #[x] U)) ∧ ((w.alloc (.cells #[v] T)).alloc (.cells #[x] U)).heap.size = w.heap.size + 2 := by
  have hsz : (w.alloc (.cells #[v] T)).heap.size = w.heap.size + 1 := by show (w.heap.push _).size = _; rw [Array.size_push]
  have P1 : Pts ((w.alloc (.cells #[v] T)).alloc (.cells #[x] U)) (w.alloc (.cells #[v] T)).heap.size #[x] U := Pts.new _ _ _
  rw [hsz] at P1
  have hs2 : ((w.alloc (.cells #[v] T)).alloc (.cells #[x] U)).heap.size = (w.alloc (.cells #[v] T)).heap.size + 1 := by show ((w.alloc (.cells #[v] T)).heap.push _).size = _; rw [Array.size_push]
  exact ⟨(Pts.new w #[v] T).alloc _, P1, ((Below.refl _ w).alloc (Nat.le_refl _) _).alloc (by rw [hsz]; omega) _, by rw [hs2, hsz]⟩
set_option maxRecDepth 100000 in
set_option maxHeartbeats 1000000 in
theorem chunk_nil_s (w : World) (wp : Option Addr) (total n : Int) (A : Option Addr) (l c : Nat) :
    Calls Tryd.prog 7 #[.pointer none, .pointer wp, .int .i64 total, .slice A l c, .int .i64 n] w fun e w' => e = .returned (.tuple #[.slice none 0 0, .int .i64 1]) ∧ Below w.heap.size w w' := by
  have P := Lib.hid (two_new w (.slice none 0 0) (.int .i64 1) 22 29)
  go_enter_defers Tryd.func7, Tryd.ntmps7
  go_wp2
  go_step3
  go_wp2
  simp only [Exit.noGoto_ret]
  go_wp2
  have c0 := P.out.1.cell 0
  have c1 := P.out.2.1.cell 0
  simp [bodyPostD, Leaves, settle, results, Tryd.results7, go_sem, c0, c1]
  exact P.out.2.2.1
set_option maxRecDepth 100000 in
set_option maxHeartbeats 1000000 in
theorem chunk_nil_w (w : World) (sp : Addr) (total n : Int) (A : Option Addr) (l c : Nat) :
    Calls Tryd.prog 7 #[.pointer (some sp), .pointer none, .int .i64 total, .slice A l c, .int .i64 n] w fun e w' => e = .returned (.tuple #[.slice none 0 0, .int .i64 1]) ∧ Below w.heap.size w w' := by
  have P := Lib.hid (two_new w (.slice none 0 0) (.int .i64 1) 22 29)
  go_enter_defers Tryd.func7, Tryd.ntmps7
  go_wp2
  go_step3
  go_wp2
  simp only [Exit.noGoto_ret]
  go_wp2
  have c0 := P.out.1.cell 0
  have c1 := P.out.2.1.cell 0
  simp [bodyPostD, Leaves, settle, results, Tryd.results7, go_sem, c0, c1]
  exact P.out.2.2.1
set_option maxRecDepth 100000 in
set_option maxHeartbeats 1000000 in
theorem chunk_arg (w : World) (sp wp : Addr) (total n : Int) (A : Option Addr) (l c : Nat) (h : n < 1 ∨ 2097152 < n ∨ total < 0) :
    Calls Tryd.prog 7 #[.pointer (some sp), .pointer (some wp), .int .i64 total, .slice A l c, .int .i64 n] w fun e w' => e = .returned (.tuple #[.slice none 0 0, .int .i64 2]) ∧ Below w.heap.size w w' := by
  have P := Lib.hid (two_new w (.slice none 0 0) (.int .i64 2) 22 29)
  have h3 : n < 1 ∨ (1 ≤ n ∧ 2097152 < n) ∨ (1 ≤ n ∧ n ≤ 2097152 ∧ total < 0) := by omega
  clear h
  rcases h3 with h | ⟨h, h1⟩ | ⟨h, h1, h2⟩
  all_goals
    go_enter_defers Tryd.func7, Tryd.ntmps7
    go_wp2
    go_step3
    go_wp2
    simp only [Exit.noGoto_ret]
    go_wp2
    have c0 := P.out.1.cell 0
    have c1 := P.out.2.1.cell 0
    simp [bodyPostD, Leaves, settle, results, Tryd.results7, go_sem, c0, c1]
    exact P.out.2.2.1
set_option maxRecDepth 100000 in
set_option maxHeartbeats 1000000 in
theorem chunk_bad (w : World) (sp wp : Addr) (total n : Int) (A : Option Addr) (bs : List UInt8) (l c : Nat) (h1 : 1 ≤ n) (h2 : n ≤ 2097152) (h3 : 0 ≤ total) (hn : l = bs.length) (hr : BRow w w.heap.size A bs) (hc : bs.length ≤ c) (hcm : c ≤ maxLen) (h : newErr bs ≠ 0) :
    Calls Tryd.prog 7 #[.pointer (some sp), .pointer (some wp), .int .i64 total, .slice A l c, .int .i64 n] w fun e w' => e = .returned (.tuple #[.slice none 0 0, .int .i64 11]) ∧ Below w.heap.size w w' := by
  subst hn
  have P := Lib.hid (two_new w (.slice none 0 0) (.int .i64 11) 22 29)
  obtain ⟨p0, p1, hb, hs⟩ := two_new w (.slice none 0 0) (.int .i64 0) 22 29
  have HR := Lib.hid ((hr.below hb).more (Nat.le_of_lt_succ (by omega) : w.heap.size ≤ ((w.alloc (.cells #[.slice none 0 0] 22)).alloc (.cells #[.int .i64 0] 29)).heap.size))
  have HB := Lib.hid (dnew_bad_p A bs bs.length c _ _ rfl HR.out hc hcm h)
  obtain ⟨x, hx⟩ : ∃ x, newErr bs = x := ⟨_, rfl⟩
  rw [hx] at HB h
  clear hr hb hs hx p0 p1
  go_enter_defers Tryd.func7, Tryd.ntmps7
  go_wp2
  go_step3
  go_wp2_with fail
  refine Calls.mono HB.out ?_; rintro e w1 ⟨rfl, rfl⟩
  go_wp2
  simp only [Exit.noGoto_ret]
  go_wp2
  have c0 := P.out.1.cell 0
  have c1 := P.out.2.1.cell 0
  simp [bodyPostD, Leaves, settle, results, Tryd.results7, go_sem, c0, c1]
  exact P.out.2.2.1
end Go.Proofs.YtffehfpbdcokbaaDoor

/- A chunk's walk: a state that rests, a reader's total, a step whatever it is. -/
namespace Go.Proofs.YtffehfpbdcokbaaDoor
open Go.RowKit Rng Lz Win
set_option linter.unusedVariables false
set_option linter.unusedSimpArgs false
/-- A state that rests. -/
structure StAt (w : World) (k : LK) (st : Nat) (rep : Nat → Nat) (pr : Pr) : Prop where
  m : Pts w k.sb (mcells k st rep pr) 56
  l : Pts w k.lb (lcells k pr) 37
  fit : ∀ i, pr i < 65536
  ne : k.sb ≠ k.lb
section
variable {Z : Nat → Prop} {w0 w w' : World} {k : LK} {g : RB} {total : Int} {st : Nat} {rep : Nat → Nat} {s : CP Dec} {C told : List UInt8} {wv tv : Value}
theorem StAt.frm {pr : Pr} {N : Nat → Prop} (h : StAt w k st rep pr) (hf : Frm N w w') (h1 : ¬ N k.sb) (h2 : ¬ N k.lb) : StAt w' k st rep pr := ⟨h.m.frm hf h1, h.l.frm hf h2, h.fit, h.ne⟩
theorem RdAt.rested (h : RdAt Z w0 w k g total st rep s C told wv tv) : StAt w k st rep s.pr := ⟨h.lz.m, h.lz.l, h.lz.fit, h.lz.ne.2.2⟩
theorem RdAt.setTotal (h : RdAt Z w0 w k g total st rep s C told wv tv) (t : Int) : RdAt Z w0 (w.setCell ⟨g.xb, 3, none⟩ (.int .i64 t)) k g t st rep s C told wv tv := by
  obtain ⟨cd, hd⟩ := h.dpts
  obtain ⟨cw, hw⟩ := h.win.pts
  obtain ⟨lw, hwo⟩ := h.win.own
  have hf : Frm (fun x => x = g.xb) w (w.setCell ⟨g.xb, 3, none⟩ (.int .i64 t)) := Frm.setCell (S := fun x => x = g.xb) (Frm.refl _ w) (p := ⟨g.xb, 3, none⟩) (by rfl) _
  refine ⟨h.lz.frm (DC.keep _ _) hf ?_, h.win.frm hf ?_ ?_, ?_, h.o.frm hf ?_, h.ne, ⟨h.nr.1, h.nr.2.1, h.nr.2.2.1, h.nr.2.2.2.1, Nat.lt_of_lt_of_le h.nr.2.2.2.2 hf.size⟩, ⟨Nat.le_trans h.bs.1 hf.size, Nat.le_trans h.bs.2 hf.size⟩, h.z, h.f.transW hf ?_⟩
  · rintro q ((e | e) | e | e) e2
    · exact hd.ne_of h.p (by decide) (e.symm.trans e2)
    · exact h.nr.2.1 (e.symm.trans e2)
    · exact h.lz.m.ne_of h.p (by decide) (e.symm.trans e2)
    · exact h.lz.l.ne_of h.p (by decide) (e.symm.trans e2)
  · exact hw.ne_of h.p (by decide)
  · intro q hq e
    subst e
    exact own_ne hwo h.p (by decide) hq
  · exact h.p.set 3 (.int .i64 t)
  · intro q hq e
    subst e
    exact own_ne h.o h.p (by decide) hq
  · rintro q e hq
    exact h.z q (.inr (.inr (.inr (.inr (.inr (.inl e)))))) hq
end
/-- How a step ends, whatever it is. -/
def StepRes (Z : Nat → Prop) (w0 : World) (k : LK) (g : RB) (total : Int) (told : List UInt8) (R : Option (List UInt8 × RS)) (e : Ending) (w' : World) : Prop :=
  (∃ b y wv' tv', R = some (b, y) ∧ e = .returned (.tuple #[]) ∧ RdAt Z w0 w' k g total y.st y.rep y.s y.C (told ++ b) wv' tv') ∨
  (R = none ∧ (∃ x, e = .panicked (wrongP x)) ∧ ∃ st rep s C told wv tv, RdAt Z w0 w' k g total st rep s C told wv tv)
set_option maxRecDepth 100000 in
theorem step_any (Z : Nat → Prop) (w0 w : World) (k : LK) (g : RB) (total room : Nat) (x : RS) (told : List UInt8) (wv tv : Value) (h : RdAt Z w0 w k g (total : Int) x.st x.rep x.s x.C told wv tv)
    (hk : k.Ok) (ht : total < 4611686018427387904) (hx : x.Ok) (hS : g.S ≤ 16777216) (hlen : told.length ≤ 100000000) (hroom : room ≤ 2097152) :
    Calls Tryd.prog 15 #[.pointer (some ⟨g.xb, 0, none⟩), .int .i64 room] w fun e w' => StepRes Z w0 k g (total : Int) told (stepOf k g.S total room x) e w' := by
  obtain ⟨⟨a, sa⟩, ha⟩ : ∃ y, bitAt outC (8 + x.st * 16 + total % 2 ^ k.pb) 0 x.s = y := ⟨_, rfl⟩
  have hs : stepOf k g.S total room x = (if a = 0 then some ([UInt8.ofNat (litOf outC k x.st total x.rep x.C sa).1], ⟨behS x.st 0, x.rep, (litOf outC k x.st total x.rep x.C sa).2, lastN g.S (x.C ++ [UInt8.ofNat (litOf outC k x.st total x.rep x.C sa).1])⟩)
      else if (opOf outC x.st (total % 2 ^ k.pb) x.rep sa).1 ≤ room ∧ (opOf outC x.st (total % 2 ^ k.pb) x.rep sa).2.2.1 0 + 1 ≤ x.C.length then
        some (cyc x.C ((opOf outC x.st (total % 2 ^ k.pb) x.rep sa).2.2.1 0 + 1) (opOf outC x.st (total % 2 ^ k.pb) x.rep sa).1, ⟨(opOf outC x.st (total % 2 ^ k.pb) x.rep sa).2.1, (opOf outC x.st (total % 2 ^ k.pb) x.rep sa).2.2.1, (opOf outC x.st (total % 2 ^ k.pb) x.rep sa).2.2.2, lastN g.S (x.C ++ cyc x.C ((opOf outC x.st (total % 2 ^ k.pb) x.rep sa).2.2.1 0 + 1) (opOf outC x.st (total % 2 ^ k.pb) x.rep sa).1)⟩)
      else none) := by
    unfold stepOf
    simp only [ha]
  rw [hs]
  have hl := bitAt_le outC (8 + x.st * 16 + total % 2 ^ k.pb) 0 x.s
  rw [ha] at hl
  by_cases h0 : a = 0
  · subst h0
    rw [if_pos rfl]
    refine (step_lit Z w0 w k g total x.st room x.rep x.s sa x.C told wv tv h hk ht hx.st (hx.rep 0) hS hlen _ rfl ha).mono ?_
    rintro e w' ⟨rfl, wv', tv', h'⟩
    exact Or.inl ⟨_, _, wv', tv', rfl, rfl, h'⟩
  · rw [if_neg h0]
    obtain rfl : a = 1 := by simp only at hl; omega
    obtain ⟨⟨sz, st', rep', s'⟩, ho⟩ : ∃ y, opOf outC x.st (total % 2 ^ k.pb) x.rep sa = y := ⟨_, rfl⟩
    rw [ho]
    simp only
    refine (step_op Z w0 w k g total x.st room x.rep x.s sa x.C told wv tv h hk ht hx.st hS hlen hroom _ rfl ha sz st' rep' s' ho).mono ?_
    rintro e w' (⟨hg, rfl, wv', tv', h'⟩ | ⟨hg, h1, h2⟩)
    · rw [if_pos hg]
      exact Or.inl ⟨_, _, wv', tv', rfl, rfl, h'⟩
    · rw [if_neg hg]
      exact Or.inr ⟨rfl, h1, h2⟩
end Go.Proofs.YtffehfpbdcokbaaDoor

/- A chunk: the walk. -/
namespace Go.Proofs.YtffehfpbdcokbaaDoor
open Go.RowKit Rng Lz Win
set_option linter.unusedVariables false
set_option linter.unusedSimpArgs false
theorem dend_c (db rb : Nat) (d : Dec) (w : World) (hd : DC db rb w d) :
    Calls Tryd.prog 16 #[.pointer (some ⟨db, 0, none⟩)] w fun e w' => e = .returned (.tuple #[.int .i64 d.fin.1, .int .i64 d.fin.2]) ∧ DC db rb w' d.order ∧ Frm (DO db rb) w w' := by
  obtain ⟨r, hd', hback⟩ := hd.dec
  refine (dend_p db r d w hd').mono ?_
  rintro e w' ⟨rfl, h1, h2⟩
  exact ⟨rfl, hback _ _ Dec.order_nil h1, h2.mono fun q _ hq => .inl hq⟩
/-- The blocks that a chunk writes of those that were. -/
def ChZ (k : LK) (wb db rb : Nat) (wv : Value) (q : Nat) : Prop := q = db ∨ q = rb ∨ q = k.sb ∨ q = k.lb ∨ q = wb ∨ wv.ownBlock = some q
theorem RdAt.start (w : World) (k : LK) (st : Nat) (rep : Nat → Nat) (pr : Pr) (base wb kb S bt N0 : Nat) (C : List UInt8) (wv : Value) (db rb : Nat) (d : Dec) (tot : Int)
    (hs : StAt w k st rep pr) (hw : WinC w base wb kb S C wv) (hd : DecAt w 86 db rb d)
    (hk : k.sb < N0 ∧ k.lb < N0) (hv : ∀ q, wv.ownBlock = some q → q < N0) (hwb : wb < N0) (hdb : N0 ≤ db) (hrb : N0 ≤ rb) (hbt : bt ≤ w.heap.size) (hb : base ≤ w.heap.size) :
    ∃ rb', RdAt (ChZ k wb db rb' wv) w (w.alloc (.cells #[.pointer (some ⟨k.sb, 0, none⟩), .pointer (some ⟨wb, 0, none⟩), .pointer (some ⟨db, 0, none⟩), .int .i64 tot, .slice none 0 0] 70)) k ⟨db, rb', wb, kb, w.heap.size, S, base, bt⟩ tot st rep ⟨d, pr⟩ C [] wv (.slice none 0 0) ∧ N0 ≤ rb' := by
  have hdc : ∃ rb', DC db rb' w d ∧ N0 ≤ rb' ∧ rb' < w.heap.size ∧ (∀ (T : TypeId) c b, Pts w b c T → b = rb' → T = 86 ∨ N0 ≤ b) := by
    by_cases h0 : d.rest = []
    · exact ⟨db, .inr ⟨rfl, h0, rb, hd⟩, hdb, DC.pts (.inl hd) |>.elim fun c h => h.lt, fun T c b hp e => .inr (by omega)⟩
    · refine ⟨rb, .inl hd, hrb, ?_, fun T c b hp e => .inr (by omega)⟩
      obtain ⟨⟨A, c, hp, hrow, ho, hc, hm⟩, hfit, hn⟩ := hd
      have h1 : 0 < d.rest.length := List.length_pos_iff.2 h0
      obtain ⟨ab, off, rfl, hab, -⟩ := hrow h1
      have := ho h1 _ rfl
      have e : ab = rb := Classical.byContradiction fun e => this e
      omega
  obtain ⟨rb', hdc, hr1, hr2, -⟩ := hdc
  obtain ⟨cd, hdp⟩ := hdc.pts
  have hdl := hdp.lt
  have F : Frm (fun _ => False) w (w.alloc (.cells #[.pointer (some ⟨k.sb, 0, none⟩), .pointer (some ⟨wb, 0, none⟩), .pointer (some ⟨db, 0, none⟩), .int .i64 tot, .slice none 0 0] 70)) := (Frm.refl _ w).alloc _
  refine ⟨rb', ⟨⟨DC.keep _ _ _ _ _ _ hdc F (fun _ _ h => h), hs.m.frm F id, hs.l.frm F id, hs.fit, ?_⟩, hw.frm F id (fun _ _ h => h), Pts.new w _ _, OwnB.nil _ _ _, fun q _ h => by simp [Value.ownBlock] at h, ⟨?_, ?_, ?_, by simp [Value.ownBlock], Nat.lt_of_lt_of_le hr2 F.size⟩, ⟨Nat.le_trans hb F.size, Nat.le_trans hbt F.size⟩, ?_, F.mono fun _ _ h => h.elim⟩, hr1⟩
  · refine ⟨?_, ?_, hs.ne⟩
    · rintro (e | e) <;> simp only at e <;> omega
    · rintro (e | e) <;> simp only at e <;> omega
  · simp only; omega
  · simp only; omega
  · intro e
    have := hv _ e
    simp only at this
    omega
  · intro q hq hlt
    simp only at hq
    rcases hq with e | e | e | e | e | e | e | e
    · exact .inl e
    · exact .inr (.inl e)
    · exact .inr (.inr (.inl e))
    · exact .inr (.inr (.inr (.inl e)))
    · exact .inr (.inr (.inr (.inr (.inl e))))
    · omega
    · exact .inr (.inr (.inr (.inr (.inr e))))
    · simp [Value.ownBlock] at e
/-- How a chunk ends. -/
def ChunkEnd (k : LK) (base wb kb S : Nat) (wv : Value) (w : World) (R : Option (List UInt8 × RS)) (e : Ending) (w' : World) : Prop :=
  Frm (fun q => q = k.sb ∨ q = k.lb ∨ q = wb ∨ wv.ownBlock = some q) w w' ∧
  ((R = none ∧ e = .returned (.tuple #[.slice none 0 0, .int .i64 11])) ∨
   ∃ told y tv wv', R = some (told, y) ∧ e = .returned (.tuple #[tv, .int .i64 0]) ∧ OwnB w' 5 w.heap.size tv told ∧ StAt w' k y.st y.rep y.s.pr ∧ WinC w' base wb kb S y.C wv' ∧ Mv w wv wv' ∧ ∀ q, tv.ownBlock = some q → wv'.ownBlock ≠ some q)
theorem chunk_frm {k : LK} {wb db rb : Nat} {wv : Value} {w wc w6 w7 : World} (hB : Below w.heap.size w wc) (h6 : Frm (ChZ k wb db rb wv) wc w6) (hdb : w.heap.size + 2 ≤ db) (hrb : w.heap.size + 2 ≤ rb) (h7 : Frm (fun q => q = w.heap.size ∨ q = w.heap.size + 1) w6 w7) :
    Frm (fun q => q = k.sb ∨ q = k.lb ∨ q = wb ∨ wv.ownBlock = some q) w w7 := by
  have h0 : Frm (fun _ => False) w wc := Frm.of_below hB
  refine ((h0.mono fun _ _ h => h.elim).transW h6 ?_).transW h7 ?_
  · rintro q (e | e | e | e | e | e) hlt
    · omega
    · omega
    · exact .inl e
    · exact .inr (.inl e)
    · exact .inr (.inr (.inl e))
    · exact .inr (.inr (.inr e))
  · rintro q (e | e) hlt
    · omega
    · omega
theorem chunk_none {k : LK} {base wb kb S db rb : Nat} {wv : Value} {w wc w6 w7 : World} (hB : Below w.heap.size w wc) (h6 : Frm (ChZ k wb db rb wv) wc w6) (hdb : w.heap.size + 2 ≤ db) (hrb : w.heap.size + 2 ≤ rb) (h7 : Frm (fun q => q = w.heap.size ∨ q = w.heap.size + 1) w6 w7) :
    ChunkEnd k base wb kb S wv w none (.returned (.tuple #[.slice none 0 0, .int .i64 11])) w7 := ⟨chunk_frm hB h6 hdb hrb h7, .inl ⟨rfl, rfl⟩⟩
theorem chunk_some {k : LK} {base wb kb S db rb xb : Nat} {wv tv1 wv1 : Value} {w wc w6 w7 : World} {tot : Int} {told : List UInt8} {x : RS} {d : Dec} {c0 c1 : Value} (hB : Below w.heap.size w wc) (h6 : RdAt (ChZ k wb db rb wv) wc w6 k ⟨db, rb, wb, kb, xb, S, base, w.heap.size + 2⟩ tot x.st x.rep ⟨d, x.s.pr⟩ x.C told wv1 tv1)
    (hdb : w.heap.size + 2 ≤ db) (hrb : w.heap.size + 2 ≤ rb) (h7 : Frm (fun q => q = w.heap.size ∨ q = w.heap.size + 1) w6 w7) (p0 : Pts w6 w.heap.size #[c0] 22) (p1 : Pts w6 (w.heap.size + 1) #[c1] 29) :
    ChunkEnd k base wb kb S wv w (some (told, x)) (.returned (.tuple #[tv1, .int .i64 0])) w7 := by
  obtain ⟨cw, hw⟩ := h6.win.pts
  obtain ⟨lw, hwo⟩ := h6.win.own
  refine ⟨chunk_frm hB h6.f hdb hrb h7, .inr ⟨told, x, tv1, wv1, rfl, rfl, ?_, h6.rested.frm h7 ?_ ?_, h6.win.frm h7 ?_ ?_, ?_, fun q hq e => h6.ne q e hq⟩⟩
  · exact World.ownsRow.mono (h6.o.frm h7 (fun q hq => by have h9 : w.heap.size + 2 ≤ q := (h6.o.lt hq).1; rintro (e | e) <;> omega)) (show w.heap.size ≤ w.heap.size + 2 by omega)
  · rintro (e | e)
    · exact h6.lz.m.ne_of p0 (by decide) e
    · exact h6.lz.m.ne_of p1 (by decide) e
  · rintro (e | e)
    · exact h6.lz.l.ne_of p0 (by decide) e
    · exact h6.lz.l.ne_of p1 (by decide) e
  · rintro (e | e)
    · exact hw.ne_of p0 (by decide) e
    · exact hw.ne_of p1 (by decide) e
  · rintro q hq (e | e)
    · subst e; exact own_ne hwo p0 (by decide) hq
    · subst e; exact own_ne hwo p1 (by decide) hq
  · intro q hq
    by_cases hlt : q < w.heap.size
    · have hz := h6.z q (.inr (.inr (.inr (.inr (.inr (.inr (.inl hq))))))) (Nat.lt_of_lt_of_le hlt hB.size)
      obtain ⟨cd, hd⟩ := h6.dpts
      rcases hz with e | e | e | e | e | e
      · omega
      · omega
      · subst e; exact absurd hq (own_ne hwo h6.lz.m (by decide))
      · subst e; exact absurd hq (own_ne hwo h6.lz.l (by decide))
      · subst e; exact absurd hq (own_ne hwo hw (by decide))
      · exact .inl e
    · exact .inr (by omega)
end Go.Proofs.YtffehfpbdcokbaaDoor
