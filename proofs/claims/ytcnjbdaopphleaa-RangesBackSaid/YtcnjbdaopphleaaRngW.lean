/- One encoder and its chances; one decoder and its chances. -/
import Derived.Test.YtcnjbdaopphleaaRngV
import Derived.Test.YtcnjbdaopphleaaRngS
namespace Go.Proofs.Ytcnjbdaopphleaa
open Go.RowKit Rng
set_option linter.unusedVariables false
set_option linter.unusedSimpArgs false
theorem OwnH.set_bd {pl : List Nat} {j L : Nat} (h : ∀ x ∈ pl, x < 65536) (hL : L < 65536) : ∀ x ∈ pl.set j L, x < 65536 := by
  intro x hx
  rcases List.mem_or_eq_of_mem_set hx with h9 | h9
  · exact h x h9
  · rw [h9]; exact hL
/-- An encoder at e, its chances at pl, an act (where there is one). -/
structure BEnc (w0 w : World) (db g cg : Nat) (xo : Option (Nat × Array Value)) (v : Value) (e : Enc) (pl : List Nat) : Prop where
  d : EncAt w 66 0 db w0.heap.size v e
  p : OwnH w 40 w0.heap.size (.slice (some ⟨g, 0, none⟩) pl.length cg) pl
  pb : ∀ x ∈ pl, x < 65536
  n : g ≠ db
  m : w0.heap.size ≤ db ∧ w0.heap.size ≤ g
  x : ∀ b c, xo = some (b, c) → Pts w b c 36 ∧ b ≠ db ∧ b ≠ g ∧ w0.heap.size ≤ b
  b : Below w0.heap.size w0 w
section
variable {w0 w w' : World} {db g cg : Nat} {xo : Option (Nat × Array Value)} {v v' : Value} {e e' : Enc} {pl : List Nat}
theorem BEnc.still (k : BEnc w0 w db g cg xo v e pl) (hf : Frm (fun _ => False) w w') : BEnc w0 w' db g cg xo v e pl :=
  ⟨k.d.frm hf (fun h => h) (fun _ _ h => h), k.p.frm hf (fun _ _ h => h), k.pb, k.n, k.m, (fun b c e => ⟨(k.x b c e).1.frm hf (fun h => h), (k.x b c e).2⟩), k.b.trans (hf.below k.b.size (fun _ h => h.elim))⟩
theorem BEnc.act (k : BEnc w0 w db g cg xo v e pl) (c : Array Value) : BEnc w0 (w.alloc (.cells c 36)) db g cg (some (w.heap.size, c)) v e pl := by
  have k2 := k.still ((Frm.refl (fun _ => False) w).alloc (.cells c 36))
  obtain ⟨cg, hg, _⟩ := k.p.gblk
  refine ⟨k2.d, k2.p, k.pb, k.n, k.m, ?_, k2.b⟩
  intro b c' e
  injection e with e
  injection e with e1 e2
  subst e1; subst e2
  have h1 := k.d.p.lt
  have h3 := hg.lt
  exact ⟨Pts.new w c _, by omega, by omega, k.b.size⟩
theorem BEnc.free (k : BEnc w0 w db g cg xo v e pl) : BEnc w0 w db g cg none v e pl := ⟨k.d, k.p, k.pb, k.n, k.m, (fun b c e => by cases e), k.b⟩
theorem BEnc.cell (k : BEnc w0 w db g cg xo v e pl) {j : Nat} (hj : j < pl.length) : w.cell? ⟨g, j, none⟩ = some (.int .u16 (pl.getD j 0)) := by
  obtain ⟨cur, hp, hc⟩ := k.p.gblk
  exact hc j hj
theorem BEnc.frm (k : BEnc w0 w db g cg xo v e pl) (hd : EncAt w' 66 0 db w0.heap.size v' e') (hf : Frm (fun x => x = db ∨ v.ownBlock = some x) w w') : BEnc w0 w' db g cg xo v' e' pl := by
  obtain ⟨curg, hg, _⟩ := k.p.gblk
  have n := k.n
  have m := k.m
  have a1 := ownb_ne k.d.o hg (by decide)
  refine ⟨hd, k.p.frm hf (fun q e h2 => ?_), k.pb, k.n, k.m, ?_, k.b.trans (hf.below k.b.size (fun q e => ?_))⟩
  · have e' : g = q := Option.some.inj e
    rcases h2 with h2 | h2
    · omega
    · rw [← e'] at h2; exact a1 h2
  · intro b c e
    obtain ⟨h1, h2, h3, h4⟩ := k.x b c e
    have a5 := ownb_ne k.d.o h1 (by decide)
    exact ⟨h1.frm hf (fun h => h.elim h2 a5), h2, h3, h4⟩
  · rcases e with e | e
    · omega
    · exact (k.d.o.lt e).1
theorem BEnc.set (k : BEnc w0 w db g cg xo v e pl) (j L : Nat) (hj : j < pl.length) (hL : L < 65536) : BEnc w0 (w.setCell ⟨g, j, none⟩ (.int .u16 L)) db g cg xo v e (pl.set j L) := by
  obtain ⟨cur, hg, _⟩ := k.p.gblk
  have n := k.n
  have m := k.m
  have a1 := ownb_ne k.d.o hg (by decide)
  have hF := (Frm.refl (· = g) w).setCell (p := ⟨g, j, none⟩) (by rfl) (.int .u16 L)
  have hset := k.p.set j hj L
  refine ⟨k.d.frm hF (by omega) (fun q hq e => a1 (e ▸ hq)), ?_, OwnH.set_bd k.pb hL, k.n, k.m, ?_, k.b.trans (hF.below k.b.size (fun q e => by omega))⟩
  · rw [List.length_set]; exact hset
  · intro b c e
    obtain ⟨h1, h2, h3, h4⟩ := k.x b c e
    exact ⟨h1.frm hF h3, h2, h3, h4⟩
theorem benc_dir (x : Nat) (n : Int) (w : World) (k : BEnc w0 w db g cg xo v e pl) (hlen : e.cnt + 32 < 1000000) (hs : e.Run) (hcl : e.closed = false) (hx : x < 4294967296) (E : Enc) (hE : Enc.direct x (count n) e = E) :
    Calls Try.prog 20 #[.pointer (some ⟨db, 0, none⟩), .int .u32 x, .int .i64 n] w fun r w' => r = .returned (.tuple #[]) ∧ ∃ v', BEnc w0 w' db g cg xo v' E pl := by
  subst hE
  exact (edirect_p _ _ x n _ _ w k.d k.b.size hlen hs hcl hx).mono (by rintro r w' ⟨v', rfl, hE, hF, hM⟩; exact ⟨rfl, v', k.frm hE hF⟩)
theorem benc_bit (j : Nat) (bit : Int) (one : Bool) (w : World) (k : BEnc w0 w db g cg xo v e pl) (hlen : e.cnt < 1000000) (hs : e.Run) (hcl : e.closed = false) (hj : j < pl.length) (hone : one = decide (bit ≠ 0))
    (E : Enc) (hE : e.bit (fair (pl.getD j 0)) one = E) (ql : List Nat) (hq : pl.set j (learn (fair (pl.getD j 0)) one) = ql) :
    Calls Try.prog 22 #[.pointer (some ⟨db, 0, none⟩), .pointer (some ⟨g, j, none⟩), .int .i64 bit] w fun r w' => r = .returned (.tuple #[]) ∧ ∃ v', BEnc w0 w' db g cg xo v' E ql := by
  subst hE; subst hq
  obtain ⟨cur, hg, _⟩ := k.p.gblk
  have n := k.n
  have a1 := ownb_ne k.d.o hg (by decide)
  have hmem : pl.getD j 0 ∈ pl := by rw [List.getD, List.getElem?_eq_getElem hj]; exact List.getElem_mem hj
  have hlt := k.pb _ hmem
  have hk2 := k.set j (learn (fair (pl.getD j 0)) one) hj (learn_lt (fair_bd _).2 one)
  refine (ebit_p _ _ g j _ bit one _ _ w k.d k.b.size hlen hs hcl (k.cell hj) (hg.frozen j) (by omega) a1 hlt hone).mono ?_
  rintro r w' ⟨v', rfl, hE, hF, hM⟩
  exact ⟨rfl, v', hk2.frm hE hF⟩
end
/-- A decoder at d, its chances at ql, the encoder's at pl, an act (where there is one). -/
structure BDec (w0 w : World) (db rb g cg h ch : Nat) (xo : Option (Nat × Array Value)) (d : Dec) (pl ql : List Nat) : Prop where
  d : DecAt w 56 db rb d
  p : OwnH w 40 w0.heap.size (.slice (some ⟨g, 0, none⟩) pl.length cg) pl
  q : OwnH w 40 w0.heap.size (.slice (some ⟨h, 0, none⟩) ql.length ch) ql
  qb : ∀ x ∈ ql, x < 65536
  n : g ≠ h ∧ g ≠ db ∧ h ≠ db
  m : w0.heap.size ≤ db ∧ w0.heap.size ≤ g ∧ w0.heap.size ≤ h
  x : ∀ b c, xo = some (b, c) → Pts w b c 36 ∧ b ≠ db ∧ b ≠ g ∧ b ≠ h ∧ w0.heap.size ≤ b
  b : Below w0.heap.size w0 w
section
variable {w0 w w' : World} {db rb g cg h ch : Nat} {xo : Option (Nat × Array Value)} {d d' : Dec} {pl ql : List Nat}
theorem BDec.still (k : BDec w0 w db rb g cg h ch xo d pl ql) (hf : Frm (fun _ => False) w w') : BDec w0 w' db rb g cg h ch xo d pl ql :=
  ⟨k.d.frm hf (fun h => h) (fun h => h), k.p.frm hf (fun _ _ h => h), k.q.frm hf (fun _ _ h => h), k.qb, k.n, k.m, (fun b c e => ⟨(k.x b c e).1.frm hf (fun h => h), (k.x b c e).2⟩), k.b.trans (hf.below k.b.size (fun _ h => h.elim))⟩
theorem BDec.drew (k : BDec w0 w db rb g cg h ch xo d pl ql) : BDec w0 w.drew db rb g cg h ch xo d pl ql := k.still (Frm.refl _ w).drew
theorem BDec.act (k : BDec w0 w db rb g cg h ch xo d pl ql) (c : Array Value) : BDec w0 (w.alloc (.cells c 36)) db rb g cg h ch (some (w.heap.size, c)) d pl ql := by
  have k2 := k.still ((Frm.refl (fun _ => False) w).alloc (.cells c 36))
  obtain ⟨cg, hg, _⟩ := k.p.gblk
  obtain ⟨ch, hh, _⟩ := k.q.gblk
  refine ⟨k2.d, k2.p, k2.q, k.qb, k.n, k.m, ?_, k2.b⟩
  intro b c' e
  injection e with e
  injection e with e1 e2
  subst e1; subst e2
  have h1 := k.d.lt
  have h3 := hg.lt
  have h4 := hh.lt
  exact ⟨Pts.new w c _, by omega, by omega, by omega, k.b.size⟩
theorem BDec.free (k : BDec w0 w db rb g cg h ch xo d pl ql) : BDec w0 w db rb g cg h ch none d pl ql := ⟨k.d, k.p, k.q, k.qb, k.n, k.m, (fun b c e => by cases e), k.b⟩
theorem BDec.cell_p (k : BDec w0 w db rb g cg h ch xo d pl ql) {j : Nat} (hj : j < pl.length) : w.cell? ⟨g, j, none⟩ = some (.int .u16 (pl.getD j 0)) := by
  obtain ⟨cur, hp, hc⟩ := k.p.gblk
  exact hc j hj
theorem BDec.cell_q (k : BDec w0 w db rb g cg h ch xo d pl ql) {j : Nat} (hj : j < ql.length) : w.cell? ⟨h, j, none⟩ = some (.int .u16 (ql.getD j 0)) := by
  obtain ⟨cur, hp, hc⟩ := k.q.gblk
  exact hc j hj
theorem BDec.frm (k : BDec w0 w db rb g cg h ch xo d pl ql) (hd : DecAt w' 56 db rb d') (hf : Frm (· = db) w w') : BDec w0 w' db rb g cg h ch xo d' pl ql := by
  have n := k.n
  have m := k.m
  refine ⟨hd, k.p.frm hf (fun q e h2 => ?_), k.q.frm hf (fun q e h2 => ?_), k.qb, k.n, k.m, ?_, k.b.trans (hf.below k.b.size (fun q e => by omega))⟩
  · have e' : g = q := Option.some.inj e
    omega
  · have e' : h = q := Option.some.inj e
    omega
  · intro b c e
    obtain ⟨h1, h2, h3, h4⟩ := k.x b c e
    exact ⟨h1.frm hf h2, h2, h3, h4⟩
theorem BDec.turn (k : BDec w0 w db rb g cg h ch xo d pl ql) (j L : Nat) (hj : j < ql.length) (hL : L < 65536) (hd : DecAt w' 56 db rb d') (hf : Frm (· = db) (w.setCell ⟨h, j, none⟩ (.int .u16 L)) w') :
    BDec w0 w' db rb g cg h ch xo d' pl (ql.set j L) := by
  have n := k.n
  have m := k.m
  have hF := (Frm.refl (· = h) w).setCell (p := ⟨h, j, none⟩) (by rfl) (.int .u16 L)
  have hset := k.q.set j hj L
  have hbB := k.b.trans (hF.below k.b.size (fun q e => by omega))
  refine ⟨hd, (k.p.frm hF (fun q e h2 => ?_)).frm hf (fun q e h2 => ?_), ?_, OwnH.set_bd k.qb hL, k.n, k.m, ?_, hbB.trans (hf.below hbB.size (fun q e => by omega))⟩
  · have e' : g = q := Option.some.inj e
    omega
  · have e' : g = q := Option.some.inj e
    omega
  · rw [List.length_set]; exact hset.frm hf (fun q e h2 => by have e' : h = q := Option.some.inj e; omega)
  · intro b c e
    obtain ⟨h1, h2, h3, h4, h5⟩ := k.x b c e
    exact ⟨(h1.frm hF h4).frm hf h2, h2, h3, h4, h5⟩
theorem bdec_dir (n : Int) (w : World) (k : BDec w0 w db rb g cg h ch xo d pl ql) (x : Int) (D : Dec) (hx : ((d.direct (count n) 0).1 : Int) = x) (hD : (d.direct (count n) 0).2 = D) :
    Calls Try.prog 12 #[.pointer (some ⟨db, 0, none⟩), .int .i64 n] w fun r w' => r = .returned (.int .u32 x) ∧ BDec w0 w' db rb g cg h ch xo D pl ql := by
  subst hx; subst hD
  exact (ddirect_p _ _ n _ w k.d).mono (by rintro r w' ⟨rfl, hd, hf⟩; exact ⟨rfl, k.frm hd hf⟩)
theorem bdec_end (w : World) (k : BDec w0 w db rb g cg h ch xo d pl ql) (hfin : d.fin = (0, 0)) :
    Calls Try.prog 16 #[.pointer (some ⟨db, 0, none⟩)] w fun r w' => r = .returned (.tuple #[.int .i64 0, .int .i64 0]) ∧ BDec w0 w' db rb g cg h ch xo d.order pl ql := by
  have h1 := dend_p _ _ _ w k.d
  rw [hfin] at h1
  exact h1.mono (by rintro r w' ⟨rfl, hd, hf⟩; exact ⟨rfl, k.frm hd hf⟩)
theorem bdec_bit (j : Nat) (w : World) (k : BDec w0 w db rb g cg h ch xo d pl ql) (hj : j < ql.length) (x : Int) (D : Dec) (rl : List Nat) (hx : bitV (d.bit (fair (ql.getD j 0))).1 = x) (hD : (d.bit (fair (ql.getD j 0))).2 = D)
    (hr : ql.set j (learn (fair (ql.getD j 0)) (d.bit (fair (ql.getD j 0))).1) = rl) :
    Calls Try.prog 14 #[.pointer (some ⟨db, 0, none⟩), .pointer (some ⟨h, j, none⟩)] w fun r w' => r = .returned (.int .i64 x) ∧ BDec w0 w' db rb g cg h ch xo D pl rl := by
  subst hx; subst hD; subst hr
  have n := k.n
  obtain ⟨cur, hp, hcell⟩ := k.q.gblk
  have hx := hcell j hj
  have hmem : ql.getD j 0 ∈ ql := by rw [List.getD, List.getElem?_eq_getElem hj]; exact List.getElem_mem hj
  have hlt := k.qb _ hmem
  exact (dbit_p _ _ h j _ _ w k.d hx (hp.frozen j) (by omega) hlt).mono (by rintro r w' ⟨rfl, hd, hf⟩; exact ⟨rfl, k.turn j _ hj (learn_lt (fair_bd _).2 _) hd hf⟩)
end
end Go.Proofs.Ytcnjbdaopphleaa
