/- Two encoders, two rows of chances: what a law plays with. -/
import Derived.Test.YtcnjbdaopphleaaRngN
namespace Go.Proofs.Ytcnjbdaopphleaa
open Go.RowKit Rng
set_option linter.unusedVariables false
set_option linter.unusedSimpArgs false
theorem ownb_ne {w : World} {T T' base g : Nat} {v : Value} {bs : List UInt8} {c : Array Value} (h : OwnB w T base v bs) (hp : Pts w g c T') (hT : T' ≠ T) : v.ownBlock ≠ some g := by
  intro hq
  rcases h.form with ⟨e, _⟩ | ⟨g', cap, cur, e, _, hp', _⟩
  · rw [e] at hq; cases hq
  · rw [e] at hq
    injection hq with hq
    subst hq
    have e2 := hp'.symm.trans hp
    simp at e2
    exact hT e2.2.symm
theorem edirect_shut (b base x : Nat) (n : Int) (v : Value) (e : Enc) (w : World) (h : EncAt w 66 0 b base v e) (hcl : e.closed = true) :
    Calls Try.prog 20 #[.pointer (some ⟨b, 0, none⟩), .int .u32 x, .int .i64 n] w fun r w' => r = .returned (.tuple #[]) ∧ w = w' := by
  have d5 : w.cell? ⟨b, 5, none⟩ = some (.bool true) := by rw [h.p.cell, ← hcl]; rfl
  clear h hcl
  go_enter Try.func20, Try.ntmps20
  go_wp2
  refine bodyPost_ret (results_none rfl _ _ _) rfl ?_
  exact ⟨rfl, rfl⟩
/-- Two encoders at e1 and e2, two rows of chances at pl and ql, an act (where there is one). -/
structure EPlay (w0 w : World) (db db2 g cg h ch : Nat) (xo : Option (Nat × Array Value)) (v1 v2 : Value) (e1 e2 : Enc) (pl ql : List Nat) : Prop where
  d1 : EncAt w 66 0 db w0.heap.size v1 e1
  d2 : EncAt w 68 1 db2 w0.heap.size v2 e2
  p : OwnH w 40 w0.heap.size (.slice (some ⟨g, 0, none⟩) pl.length cg) pl
  q : OwnH w 40 w0.heap.size (.slice (some ⟨h, 0, none⟩) ql.length ch) ql
  pb : ∀ x ∈ pl, x < 65536
  qb : ∀ x ∈ ql, x < 65536
  n1 : db ≠ db2
  n2 : g ≠ h
  n3 : g ≠ db ∧ g ≠ db2 ∧ h ≠ db ∧ h ≠ db2
  nv : ∀ q, v1.ownBlock = some q → v2.ownBlock ≠ some q
  b1 : w0.heap.size ≤ db ∧ w0.heap.size ≤ db2 ∧ w0.heap.size ≤ g ∧ w0.heap.size ≤ h
  x : ∀ b c, xo = some (b, c) → Pts w b c 36 ∧ b ≠ db ∧ b ≠ db2 ∧ b ≠ g ∧ b ≠ h ∧ w0.heap.size ≤ b
  b : Below w0.heap.size w0 w
section
variable {w0 w w' : World} {db db2 g cg h ch : Nat} {xo : Option (Nat × Array Value)} {v1 v2 v' : Value} {e1 e2 e' : Enc} {pl ql : List Nat}
theorem EncAt.frm {N : Nat → Prop} {w w' : World} {T z b base : Nat} {v : Value} {e : Enc} (h : EncAt w T z b base v e) (hf : Frm N w w') (hb : ¬ N b) (hv : ∀ q, v.ownBlock = some q → ¬ N q) : EncAt w' T z b base v e := ⟨h.p.frm hf hb, h.o.frm hf hv, h.k⟩
theorem EPlay.still (k : EPlay w0 w db db2 g cg h ch xo v1 v2 e1 e2 pl ql) (hf : Frm (fun _ => False) w w') : EPlay w0 w' db db2 g cg h ch xo v1 v2 e1 e2 pl ql :=
  ⟨k.d1.frm hf (fun h => h) (fun _ _ h => h), k.d2.frm hf (fun h => h) (fun _ _ h => h), k.p.frm hf (fun _ _ h => h), k.q.frm hf (fun _ _ h => h), k.pb, k.qb, k.n1, k.n2, k.n3, k.nv, k.b1,
    (fun b c e => ⟨(k.x b c e).1.frm hf (fun h => h), (k.x b c e).2⟩), k.b.trans (hf.below k.b.size (fun _ h => h.elim))⟩
theorem EPlay.act (k : EPlay w0 w db db2 g cg h ch xo v1 v2 e1 e2 pl ql) (c : Array Value) : EPlay w0 (w.alloc (.cells c 36)) db db2 g cg h ch (some (w.heap.size, c)) v1 v2 e1 e2 pl ql := by
  have hf := (Frm.refl (fun _ => False) w).alloc (.cells c 36)
  have k2 := k.still hf
  obtain ⟨cg, hg, _⟩ := k.p.gblk
  obtain ⟨ch, hh, _⟩ := k.q.gblk
  refine ⟨k2.d1, k2.d2, k2.p, k2.q, k.pb, k.qb, k.n1, k.n2, k.n3, k.nv, k.b1, ?_, k2.b⟩
  intro b c' e
  injection e with e
  injection e with e1 e2
  subst e1; subst e2
  have h1 := k.d1.p.lt
  have h2 := k.d2.p.lt
  have h3 := hg.lt
  have h4 := hh.lt
  exact ⟨Pts.new w c _, by omega, by omega, by omega, by omega, k.b.size⟩
theorem EPlay.free (k : EPlay w0 w db db2 g cg h ch xo v1 v2 e1 e2 pl ql) : EPlay w0 w db db2 g cg h ch none v1 v2 e1 e2 pl ql :=
  ⟨k.d1, k.d2, k.p, k.q, k.pb, k.qb, k.n1, k.n2, k.n3, k.nv, k.b1, (fun b c e => by cases e), k.b⟩
theorem EPlay.cell_p (k : EPlay w0 w db db2 g cg h ch xo v1 v2 e1 e2 pl ql) {j : Nat} (hj : j < pl.length) : w.cell? ⟨g, j, none⟩ = some (.int .u16 (pl.getD j 0)) := by
  obtain ⟨cur, hp, hc⟩ := k.p.gblk
  exact hc j hj
theorem EPlay.cell_q (k : EPlay w0 w db db2 g cg h ch xo v1 v2 e1 e2 pl ql) {j : Nat} (hj : j < ql.length) : w.cell? ⟨h, j, none⟩ = some (.int .u16 (ql.getD j 0)) := by
  obtain ⟨cur, hp, hc⟩ := k.q.gblk
  exact hc j hj
theorem EPlay.frm_p (k : EPlay w0 w db db2 g cg h ch xo v1 v2 e1 e2 pl ql) (hd : EncAt w' 66 0 db w0.heap.size v' e') (hf : Frm (fun x => x = db ∨ v1.ownBlock = some x) w w') (hm : Moved w v1 v') :
    EPlay w0 w' db db2 g cg h ch xo v' v2 e' e2 pl ql := by
  obtain ⟨curg, hg, _⟩ := k.p.gblk
  obtain ⟨curh, hh, _⟩ := k.q.gblk
  have n1 := k.n1
  have n3 := k.n3
  have b1 := k.b1
  have a1 := ownb_ne k.d1.o hg (by decide)
  have a2 := ownb_ne k.d1.o hh (by decide)
  have a3 := ownb_ne k.d1.o k.d2.p (by decide)
  have a4 := ownb_ne k.d2.o k.d1.p (by decide)
  have hother := k.d2.frm hf (fun h => h.elim (fun e => n1 e.symm) a3) (fun q hq h => h.elim (fun e => a4 (e ▸ hq)) (fun e => k.nv q e hq))
  refine ⟨hd, hother, k.p.frm hf (fun q e h2 => ?_), k.q.frm hf (fun q e h2 => ?_), k.pb, k.qb, k.n1, k.n2, k.n3, ?_, k.b1, ?_, k.b.trans (hf.below k.b.size (fun q e => ?_))⟩
  · have e' : g = q := Option.some.inj e
    rcases h2 with h2 | h2
    · omega
    · rw [← e'] at h2; exact a1 h2
  · have e' : h = q := Option.some.inj e
    rcases h2 with h2 | h2
    · omega
    · rw [← e'] at h2; exact a2 h2
  · intro q hq e
    rcases hm with h | ⟨g9, h, hge⟩
    · exact k.nv q (h ▸ hq) e
    · rw [h] at hq; have e' : g9 = q := Option.some.inj hq; have := (k.d2.o.lt e).2; omega
  · intro b c e
    obtain ⟨h1, h2, h3, h4⟩ := k.x b c e
    have a5 := ownb_ne k.d1.o h1 (by decide)
    exact ⟨h1.frm hf (fun h => h.elim h2 a5), h2, h3, h4⟩
  · rcases e with e | e
    · omega
    · exact (k.d1.o.lt e).1
theorem EPlay.set_p (k : EPlay w0 w db db2 g cg h ch xo v1 v2 e1 e2 pl ql) (j L : Nat) (hj : j < pl.length) (hL : L < 65536) : EPlay w0 (w.setCell ⟨g, j, none⟩ (.int .u16 L)) db db2 g cg h ch xo v1 v2 e1 e2 (pl.set j L) ql := by
  obtain ⟨cur, hg, _⟩ := k.p.gblk
  have n3 := k.n3
  have n2 := k.n2
  have b1 := k.b1
  have a1 := ownb_ne k.d1.o hg (by decide)
  have a2 := ownb_ne k.d2.o hg (by decide)
  have hF := (Frm.refl (· = g) w).setCell (p := ⟨g, j, none⟩) (by rfl) (.int .u16 L)
  have hset := k.p.set j hj L
  have hbd : ∀ x ∈ pl.set j L, x < 65536 := by
    intro x hx
    rcases List.mem_or_eq_of_mem_set hx with h9 | h9
    · exact k.pb x h9
    · rw [h9]; exact hL
  refine ⟨k.d1.frm hF (by omega) (fun q hq e => a1 (e ▸ hq)), k.d2.frm hF (by omega) (fun q hq e => a2 (e ▸ hq)), ?_, ?_, hbd, k.qb, k.n1, k.n2, k.n3, k.nv, k.b1, ?_, k.b.trans (hF.below k.b.size (fun q e => by omega))⟩
  · rw [List.length_set]; exact hset
  · exact k.q.frm hF (fun q e h2 => by have e' : h = q := Option.some.inj e; omega)
  · intro b c e
    obtain ⟨h1, h2, h3, h4, h5, h6⟩ := k.x b c e
    exact ⟨h1.frm hF h4, h2, h3, h4, h5, h6⟩
theorem eplay_dir_p (x : Nat) (n : Int) (w : World) (k : EPlay w0 w db db2 g cg h ch xo v1 v2 e1 e2 pl ql) (hlen : e1.cnt + 32 < 1000000) (hs : e1.Run) (hcl : e1.closed = false) (hx : x < 4294967296) :
    Calls Try.prog 20 #[.pointer (some ⟨db, 0, none⟩), .int .u32 x, .int .i64 n] w fun r w' => r = .returned (.tuple #[]) ∧ ∃ v', EPlay w0 w' db db2 g cg h ch xo v' v2 (Enc.direct x (count n) e1) e2 pl ql :=
  (edirect_p _ _ x n _ _ w k.d1 k.b.size hlen hs hcl hx).mono (by rintro r w' ⟨v', rfl, hE, hF, hM⟩; exact ⟨rfl, v', k.frm_p hE hF hM⟩)
theorem eplay_bit_p (j : Nat) (bit : Int) (one : Bool) (w : World) (k : EPlay w0 w db db2 g cg h ch xo v1 v2 e1 e2 pl ql) (hlen : e1.cnt < 1000000) (hs : e1.Run) (hcl : e1.closed = false) (hj : j < pl.length) (hone : one = decide (bit ≠ 0)) :
    Calls Try.prog 22 #[.pointer (some ⟨db, 0, none⟩), .pointer (some ⟨g, j, none⟩), .int .i64 bit] w fun r w' => r = .returned (.tuple #[]) ∧ ∃ v', EPlay w0 w' db db2 g cg h ch xo
      v' v2 (e1.bit (fair (pl.getD j 0)) one) e2 (pl.set j (learn (fair (pl.getD j 0)) one)) ql := by
  obtain ⟨cur, hg, _⟩ := k.p.gblk
  have n3 := k.n3
  have a1 := ownb_ne k.d1.o hg (by decide)
  have hmem : pl.getD j 0 ∈ pl := by rw [List.getD, List.getElem?_eq_getElem hj]; exact List.getElem_mem hj
  have hlt := k.pb _ hmem
  have hk2 := k.set_p j (learn (fair (pl.getD j 0)) one) hj (learn_lt (fair_bd _).2 one)
  refine (ebit_p _ _ g j _ bit one _ _ w k.d1 k.b.size hlen hs hcl (k.cell_p hj) (hg.frozen j) (by omega) a1 hlt hone).mono ?_
  rintro r w' ⟨v', rfl, hE, hF, hM⟩
  exact ⟨rfl, v', hk2.frm_p hE hF ((Moved.refl _ _).trans hM (by simp))⟩
theorem EPlay.frm_r (k : EPlay w0 w db db2 g cg h ch xo v1 v2 e1 e2 pl ql) (hd : EncAt w' 68 1 db2 w0.heap.size v' e') (hf : Frm (fun x => x = db2 ∨ v2.ownBlock = some x) w w') (hm : Moved w v2 v') :
    EPlay w0 w' db db2 g cg h ch xo v1 v' e1 e' pl ql := by
  obtain ⟨curg, hg, _⟩ := k.p.gblk
  obtain ⟨curh, hh, _⟩ := k.q.gblk
  have n1 := k.n1
  have n3 := k.n3
  have b1 := k.b1
  have a1 := ownb_ne k.d2.o hg (by decide)
  have a2 := ownb_ne k.d2.o hh (by decide)
  have a3 := ownb_ne k.d2.o k.d1.p (by decide)
  have a4 := ownb_ne k.d1.o k.d2.p (by decide)
  have hother := k.d1.frm hf (fun h => h.elim (fun e => n1 e) a3) (fun q hq h => h.elim (fun e => a4 (e ▸ hq)) (fun e => k.nv q hq e))
  refine ⟨hother, hd, k.p.frm hf (fun q e h2 => ?_), k.q.frm hf (fun q e h2 => ?_), k.pb, k.qb, k.n1, k.n2, k.n3, ?_, k.b1, ?_, k.b.trans (hf.below k.b.size (fun q e => ?_))⟩
  · have e' : g = q := Option.some.inj e
    rcases h2 with h2 | h2
    · omega
    · rw [← e'] at h2; exact a1 h2
  · have e' : h = q := Option.some.inj e
    rcases h2 with h2 | h2
    · omega
    · rw [← e'] at h2; exact a2 h2
  · intro q hq e
    rcases hm with h | ⟨g9, h, hge⟩
    · exact k.nv q hq (h ▸ e)
    · rw [h] at e; have e' : g9 = q := Option.some.inj e; have := (k.d1.o.lt hq).2; omega
  · intro b c e
    obtain ⟨h1, h2, h3, h4⟩ := k.x b c e
    have a5 := ownb_ne k.d2.o h1 (by decide)
    exact ⟨h1.frm hf (fun h => h.elim h3 a5), h2, h3, h4⟩
  · rcases e with e | e
    · omega
    · exact (k.d2.o.lt e).1
theorem EPlay.set_r (k : EPlay w0 w db db2 g cg h ch xo v1 v2 e1 e2 pl ql) (j L : Nat) (hj : j < ql.length) (hL : L < 65536) : EPlay w0 (w.setCell ⟨h, j, none⟩ (.int .u16 L)) db db2 g cg h ch xo v1 v2 e1 e2 pl (ql.set j L) := by
  obtain ⟨cur, hg, _⟩ := k.q.gblk
  have n3 := k.n3
  have n2 := k.n2
  have b1 := k.b1
  have a1 := ownb_ne k.d1.o hg (by decide)
  have a2 := ownb_ne k.d2.o hg (by decide)
  have hF := (Frm.refl (· = h) w).setCell (p := ⟨h, j, none⟩) (by rfl) (.int .u16 L)
  have hset := k.q.set j hj L
  have hbd : ∀ x ∈ ql.set j L, x < 65536 := by
    intro x hx
    rcases List.mem_or_eq_of_mem_set hx with h9 | h9
    · exact k.qb x h9
    · rw [h9]; exact hL
  refine ⟨k.d1.frm hF (by omega) (fun q hq e => a1 (e ▸ hq)), k.d2.frm hF (by omega) (fun q hq e => a2 (e ▸ hq)), ?_, ?_, k.pb, hbd, k.n1, k.n2, k.n3, k.nv, k.b1, ?_, k.b.trans (hF.below k.b.size (fun q e => by omega))⟩
  · exact k.p.frm hF (fun q e h2 => by have e' : g = q := Option.some.inj e; omega)
  · rw [List.length_set]; exact hset
  · intro b c e
    obtain ⟨h1, h2, h3, h4, h5, h6⟩ := k.x b c e
    exact ⟨h1.frm hF h5, h2, h3, h4, h5, h6⟩
theorem eplay_dir_r (x : Nat) (n : Int) (w : World) (k : EPlay w0 w db db2 g cg h ch xo v1 v2 e1 e2 pl ql) (hlen : e2.cnt + 32 < 1000000) (hs : e2.Run) (hcl : e2.closed = false) (hx : x < 4294967296) :
    Calls Try.prog 21 #[.pointer (some ⟨db2, 0, none⟩), .int .u32 x, .int .i64 n] w fun r w' => r = .returned (.tuple #[]) ∧ ∃ v', EPlay w0 w' db db2 g cg h ch xo v1 v' e1 (Enc.direct x (count n) e2) pl ql :=
  (edirect_r _ _ x n _ _ w k.d2 k.b.size hlen hs hcl hx).mono (by rintro r w' ⟨v', rfl, hE, hF, hM⟩; exact ⟨rfl, v', k.frm_r hE hF hM⟩)
theorem eplay_bit_r (j : Nat) (bit : Int) (one : Bool) (w : World) (k : EPlay w0 w db db2 g cg h ch xo v1 v2 e1 e2 pl ql) (hlen : e2.cnt < 1000000) (hs : e2.Run) (hcl : e2.closed = false) (hj : j < ql.length) (hone : one = decide (bit ≠ 0)) :
    Calls Try.prog 23 #[.pointer (some ⟨db2, 0, none⟩), .pointer (some ⟨h, j, none⟩), .int .i64 bit] w fun r w' => r = .returned (.tuple #[]) ∧ ∃ v', EPlay w0 w' db db2 g cg h ch xo
      v1 v' e1 (e2.bit (fair (ql.getD j 0)) one) pl (ql.set j (learn (fair (ql.getD j 0)) one)) := by
  obtain ⟨cur, hg, _⟩ := k.q.gblk
  have n3 := k.n3
  have a1 := ownb_ne k.d2.o hg (by decide)
  have hmem : ql.getD j 0 ∈ ql := by rw [List.getD, List.getElem?_eq_getElem hj]; exact List.getElem_mem hj
  have hlt := k.qb _ hmem
  have hk2 := k.set_r j (learn (fair (ql.getD j 0)) one) hj (learn_lt (fair_bd _).2 one)
  refine (ebit_r _ _ h j _ bit one _ _ w k.d2 k.b.size hlen hs hcl (k.cell_q hj) (hg.frozen j) (by omega) a1 hlt hone).mono ?_
  rintro r w' ⟨v', rfl, hE, hF, hM⟩
  exact ⟨rfl, v', hk2.frm_r hE hF ((Moved.refl _ _).trans hM (by simp))⟩
end
end Go.Proofs.Ytcnjbdaopphleaa
