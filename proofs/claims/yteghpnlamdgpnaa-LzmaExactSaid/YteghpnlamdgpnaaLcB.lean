/- A chunk: the walk. -/
import Derived.Test.YteghpnlamdgpnaaLcA
import Derived.Deep.LoopGhost
import Derived.Deep.Onto
namespace Go.Proofs.Yteghpnlamdgpnaa
open Go.RowKit Rng Lz Win
set_option linter.unusedVariables false
set_option linter.unusedSimpArgs false
theorem dend_c (db rb : Nat) (d : Dec) (w : World) (hd : DC db rb w d) :
    Calls Try.prog 17 #[.pointer (some ⟨db, 0, none⟩)] w fun e w' => e = .returned (.tuple #[.int .i64 d.fin.1, .int .i64 d.fin.2]) ∧ DC db rb w' d.order ∧ Frm (DO db rb) w w' := by
  obtain ⟨r, hd', hback⟩ := hd.dec
  refine (dend_p db r d w hd').mono ?_
  rintro e w' ⟨rfl, h1, h2⟩
  exact ⟨rfl, hback _ _ Dec.order_nil h1, h2.mono fun q _ hq => .inl hq⟩
/-- The blocks that a chunk writes of those that were. -/
def ChZ (k : LK) (wb db rb : Nat) (wv : Value) (q : Nat) : Prop := q = db ∨ q = rb ∨ q = k.sb ∨ q = k.lb ∨ q = wb ∨ wv.ownBlock = some q
theorem RdAt.start (w : World) (k : LK) (st : Nat) (rep : Nat → Nat) (pr : Pr) (base wb kb S bt N0 : Nat) (C : List UInt8) (wv : Value) (db rb : Nat) (d : Dec) (tot : Int)
    (hs : StAt w k st rep pr) (hw : WinC w base wb kb S C wv) (hd : DecAt w 90 db rb d)
    (hk : k.sb < N0 ∧ k.lb < N0) (hv : ∀ q, wv.ownBlock = some q → q < N0) (hwb : wb < N0) (hdb : N0 ≤ db) (hrb : N0 ≤ rb) (hbt : bt ≤ w.heap.size) (hb : base ≤ w.heap.size) :
    ∃ rb', RdAt (ChZ k wb db rb' wv) w (w.alloc (.cells #[.pointer (some ⟨k.sb, 0, none⟩), .pointer (some ⟨wb, 0, none⟩), .pointer (some ⟨db, 0, none⟩), .int .i64 tot, .slice none 0 0] 67)) k ⟨db, rb', wb, kb, w.heap.size, S, base, bt⟩ tot st rep ⟨d, pr⟩ C [] wv (.slice none 0 0) ∧ N0 ≤ rb' := by
  have hdc : ∃ rb', DC db rb' w d ∧ N0 ≤ rb' ∧ rb' < w.heap.size ∧ (∀ (T : TypeId) c b, Pts w b c T → b = rb' → T = 90 ∨ N0 ≤ b) := by
    by_cases h0 : d.rest = []
    · exact ⟨db, .inr ⟨rfl, h0, rb, hd⟩, hdb, DC.pts (.inl hd) |>.elim fun c h => h.lt, fun T c b hp e => .inr (by omega)⟩
    · refine ⟨rb, .inl hd, hrb, ?_, fun T c b hp e => .inr (by omega)⟩
      obtain ⟨⟨A, c, hp, hrow, ho, hc, hm⟩, hfit, hn⟩ := hd
      have h1 : 0 < d.rest.length := List.length_pos_iff.2 h0
      obtain ⟨ab, off, rfl, hab, -⟩ := hrow h1
      have := ho h1 _ rfl
      have e : ab = rb := Classical.byContradiction fun e => this e
      omega
  obtain ⟨rb', hdc, hr1, hr2, -⟩ := hdc
  obtain ⟨cd, hdp⟩ := hdc.pts
  have hdl := hdp.lt
  have F : Frm (fun _ => False) w (w.alloc (.cells #[.pointer (some ⟨k.sb, 0, none⟩), .pointer (some ⟨wb, 0, none⟩), .pointer (some ⟨db, 0, none⟩), .int .i64 tot, .slice none 0 0] 67)) := (Frm.refl _ w).alloc _
  refine ⟨rb', ⟨⟨DC.keep _ _ _ _ _ _ hdc F (fun _ _ h => h), hs.m.frm F id, hs.l.frm F id, hs.fit, ?_⟩, hw.frm F id (fun _ _ h => h), Pts.new w _ _, OwnB.nil _ _ _, fun q _ h => by simp [Value.ownBlock] at h, ⟨?_, ?_, ?_, by simp [Value.ownBlock], Nat.lt_of_lt_of_le hr2 F.size⟩, ⟨Nat.le_trans hb F.size, Nat.le_trans hbt F.size⟩, ?_, F.mono fun _ _ h => h.elim⟩, hr1⟩
  · refine ⟨?_, ?_, hs.ne⟩
    · rintro (e | e) <;> simp only at e <;> omega
    · rintro (e | e) <;> simp only at e <;> omega
  · simp only; omega
  · simp only; omega
  · intro e
    have := hv _ e
    simp only at this
    omega
  · intro q hq hlt
    simp only at hq
    rcases hq with e | e | e | e | e | e | e | e
    · exact .inl e
    · exact .inr (.inl e)
    · exact .inr (.inr (.inl e))
    · exact .inr (.inr (.inr (.inl e)))
    · exact .inr (.inr (.inr (.inr (.inl e))))
    · omega
    · exact .inr (.inr (.inr (.inr (.inr e))))
    · simp [Value.ownBlock] at e
/-- How a chunk ends. -/
def ChunkEnd (k : LK) (base wb kb S : Nat) (wv : Value) (w : World) (R : Option (List UInt8 × RS)) (e : Ending) (w' : World) : Prop :=
  Frm (fun q => q = k.sb ∨ q = k.lb ∨ q = wb ∨ wv.ownBlock = some q) w w' ∧
  ((R = none ∧ e = .returned (.tuple #[.slice none 0 0, .int .i64 11])) ∨
   ∃ told y tv wv', R = some (told, y) ∧ e = .returned (.tuple #[tv, .int .i64 0]) ∧ OwnB w' 5 w.heap.size tv told ∧ StAt w' k y.st y.rep y.s.pr ∧ WinC w' base wb kb S y.C wv' ∧ Mv w wv wv' ∧ ∀ q, tv.ownBlock = some q → wv'.ownBlock ≠ some q)
theorem chunk_frm {k : LK} {wb db rb : Nat} {wv : Value} {w wc w6 w7 : World} (hB : Below w.heap.size w wc) (h6 : Frm (ChZ k wb db rb wv) wc w6) (hdb : w.heap.size + 2 ≤ db) (hrb : w.heap.size + 2 ≤ rb) (h7 : Frm (fun q => q = w.heap.size ∨ q = w.heap.size + 1) w6 w7) :
    Frm (fun q => q = k.sb ∨ q = k.lb ∨ q = wb ∨ wv.ownBlock = some q) w w7 := by
  have h0 : Frm (fun _ => False) w wc := Frm.of_below hB
  refine ((h0.mono fun _ _ h => h.elim).transW h6 ?_).transW h7 ?_
  · rintro q (e | e | e | e | e | e) hlt
    · omega
    · omega
    · exact .inl e
    · exact .inr (.inl e)
    · exact .inr (.inr (.inl e))
    · exact .inr (.inr (.inr e))
  · rintro q (e | e) hlt
    · omega
    · omega
theorem chunk_none {k : LK} {base wb kb S db rb : Nat} {wv : Value} {w wc w6 w7 : World} (hB : Below w.heap.size w wc) (h6 : Frm (ChZ k wb db rb wv) wc w6) (hdb : w.heap.size + 2 ≤ db) (hrb : w.heap.size + 2 ≤ rb) (h7 : Frm (fun q => q = w.heap.size ∨ q = w.heap.size + 1) w6 w7) :
    ChunkEnd k base wb kb S wv w none (.returned (.tuple #[.slice none 0 0, .int .i64 11])) w7 := ⟨chunk_frm hB h6 hdb hrb h7, .inl ⟨rfl, rfl⟩⟩
theorem chunk_some {k : LK} {base wb kb S db rb xb : Nat} {wv tv1 wv1 : Value} {w wc w6 w7 : World} {tot : Int} {told : List UInt8} {x : RS} {d : Dec} {c0 c1 : Value} (hB : Below w.heap.size w wc) (h6 : RdAt (ChZ k wb db rb wv) wc w6 k ⟨db, rb, wb, kb, xb, S, base, w.heap.size + 2⟩ tot x.st x.rep ⟨d, x.s.pr⟩ x.C told wv1 tv1)
    (hdb : w.heap.size + 2 ≤ db) (hrb : w.heap.size + 2 ≤ rb) (h7 : Frm (fun q => q = w.heap.size ∨ q = w.heap.size + 1) w6 w7) (p0 : Pts w6 w.heap.size #[c0] 22) (p1 : Pts w6 (w.heap.size + 1) #[c1] 24) :
    ChunkEnd k base wb kb S wv w (some (told, x)) (.returned (.tuple #[tv1, .int .i64 0])) w7 := by
  obtain ⟨cw, hw⟩ := h6.win.pts
  obtain ⟨lw, hwo⟩ := h6.win.own
  refine ⟨chunk_frm hB h6.f hdb hrb h7, .inr ⟨told, x, tv1, wv1, rfl, rfl, ?_, h6.rested.frm h7 ?_ ?_, h6.win.frm h7 ?_ ?_, ?_, fun q hq e => h6.ne q e hq⟩⟩
  · exact World.ownsRow.mono (h6.o.frm h7 (fun q hq => by have h9 : w.heap.size + 2 ≤ q := (h6.o.lt hq).1; rintro (e | e) <;> omega)) (show w.heap.size ≤ w.heap.size + 2 by omega)
  · rintro (e | e)
    · exact h6.lz.m.ne_of p0 (by decide) e
    · exact h6.lz.m.ne_of p1 (by decide) e
  · rintro (e | e)
    · exact h6.lz.l.ne_of p0 (by decide) e
    · exact h6.lz.l.ne_of p1 (by decide) e
  · rintro (e | e)
    · exact hw.ne_of p0 (by decide) e
    · exact hw.ne_of p1 (by decide) e
  · rintro q hq (e | e)
    · subst e; exact own_ne hwo p0 (by decide) hq
    · subst e; exact own_ne hwo p1 (by decide) hq
  · intro q hq
    by_cases hlt : q < w.heap.size
    · have hz := h6.z q (.inr (.inr (.inr (.inr (.inr (.inr (.inl hq))))))) (Nat.lt_of_lt_of_le hlt hB.size)
      obtain ⟨cd, hd⟩ := h6.dpts
      rcases hz with e | e | e | e | e | e
      · omega
      · omega
      · subst e; exact absurd hq (own_ne hwo h6.lz.m (by decide))
      · subst e; exact absurd hq (own_ne hwo h6.lz.l (by decide))
      · subst e; exact absurd hq (own_ne hwo hw (by decide))
      · exact .inl e
    · exact .inr (by omega)
end Go.Proofs.Yteghpnlamdgpnaa
