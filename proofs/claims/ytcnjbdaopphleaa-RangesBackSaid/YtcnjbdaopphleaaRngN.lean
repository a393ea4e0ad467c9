/- Two decoders, two rows of chances: what a law plays with. -/
import Derived.Test.YtcnjbdaopphleaaRngL
import Derived.Deep.RegionWith
namespace Go.Proofs.Ytcnjbdaopphleaa
open Go.RowKit Rng
set_option linter.unusedVariables false
set_option linter.unusedSimpArgs false
theorem modR (y : Int) (N : Nat) (hN : 0 < N) (hN2 : N ≤ 1000) : ∃ (t s : Int) (J : Nat), y.tmod N = t ∧ (-(N : Int) < t ∧ t < N) ∧ t + (N : Int) = s ∧ (0 < s ∧ s < 2 * (N : Int)) ∧ s.tmod N = J ∧ s % N = J ∧ J < N := by
  have a1 := Int.tmod_lt_of_pos y (b := (N : Int)) (by omega)
  have a2 := Int.lt_tmod_of_pos y (b := (N : Int)) (by omega)
  generalize y.tmod N = t at *
  have b1 := Int.emod_lt_of_pos (t + N) (b := (N : Int)) (by omega)
  have b2 := Int.emod_nonneg (t + N) (b := (N : Int)) (by omega)
  refine ⟨t, t + N, ((t + N) % N).toNat, rfl, ⟨a2, a1⟩, rfl, by omega, ?_, by omega, by omega⟩
  rw [Int.tmod_eq_emod_of_nonneg (by omega)]
  omega
theorem DecAt.rlt {w : World} {T b rb : Nat} {d : Dec} (h : DecAt w T b rb d) (h0 : 0 < d.rest.length) : rb < w.heap.size := by
  obtain ⟨⟨A, c, hp, hrow, ho, hc, hm⟩, hfit, hn⟩ := h
  obtain ⟨ab, off, rfl, hab, hcell⟩ := hrow h0
  have h9 := ho h0 _ rfl
  have e : ab = rb := Decidable.byContradiction h9
  omega
theorem DecAt.rebase {w : World} {T b rb : Nat} {d : Dec} (h : DecAt w T b rb d) (h0 : ¬ 0 < d.rest.length) {rb' : Nat} (hn' : rb' ≠ b) : DecAt w T b rb' d := by
  obtain ⟨⟨A, c, hp, hrow, ho, hc, hm⟩, hfit, hn⟩ := h
  exact ⟨⟨A, c, hp, fun h => absurd h h0, fun h => absurd h h0, hc, hm⟩, hfit, hn'⟩
theorem DecAt.lt {w : World} {T b rb : Nat} {d : Dec} (h : DecAt w T b rb d) : b < w.heap.size := by
  obtain ⟨⟨A, c, hp, _⟩, _, _⟩ := h
  exact hp.lt
theorem OwnH.base {w : World} {T base base' : Nat} {v : Value} {l : List Nat} (h : OwnH w T base v l) (hb : base' ≤ base) : OwnH w T base' v l := by
  refine ⟨h.1, ?_⟩
  rcases h.2 with h2 | ⟨g, cap, cur, h1, h2, r⟩
  · exact .inl h2
  · exact .inr ⟨g, cap, cur, h1, Nat.le_trans hb h2, r⟩
theorem ownb_at {w : World} {T base g n c : Nat} {l : List UInt8} (h : OwnB w T base (.slice (some ⟨g, 0, none⟩) n c) l) {k : Nat} (hk : k < l.length) : w.cell? ⟨g, k, none⟩ = some (byteV (l.getD k 0)) ∧ w.frozen? ⟨g, k, none⟩ = false := by
  rcases h.form with ⟨e, _⟩ | ⟨g', cap, cur, e, hb, hp, h1, h2, _, hc⟩
  · cases e
  · injection e with e1 e2 e3
    injection e1 with e1
    injection e1 with e1
    subst e1
    exact ⟨by rw [hp.cell]; exact hc k hk, hp.frozen k⟩
theorem not_byte (x : UInt8) : ∃ y : UInt8, bits .xor .u8 (if IntKind.u8.signed = true then -1 else IntKind.u8.max) (x.toNat : Int) = (y.toNat : Int) := by
  have hx := x.toNat_lt
  have h := Num.xor8 (a := 255) (b := x.toNat) (by omega) hx
  have hl := Num.xor_lt8 (a := 255) (b := x.toNat) (by omega) hx
  refine ⟨UInt8.ofNat (255 ^^^ x.toNat), ?_⟩
  rw [UInt8.toNat_ofNat']
  have e : (255 ^^^ x.toNat) % 2 ^ 8 = 255 ^^^ x.toNat := Nat.mod_eq_of_lt hl
  rw [e, ← h]
  rfl
/-- The blocks of a game. -/
structure Blks where
  db : Nat
  rb : Nat
  db2 : Nat
  rb2 : Nat
  g : Nat
  cg : Nat
  h : Nat
  ch : Nat
structure Blks.Ok (k : Blks) (B : Nat) : Prop where
  n1 : k.db ≠ k.db2
  n2 : k.db ≠ k.rb2
  n3 : k.db2 ≠ k.rb
  n4 : k.g ≠ k.h
  n5 : k.g ≠ k.db ∧ k.g ≠ k.rb ∧ k.g ≠ k.db2 ∧ k.g ≠ k.rb2
  n6 : k.h ≠ k.db ∧ k.h ≠ k.rb ∧ k.h ≠ k.db2 ∧ k.h ≠ k.rb2
  b1 : B ≤ k.db ∧ B ≤ k.db2 ∧ B ≤ k.g ∧ B ≤ k.h
/-- Two decoders at d1 and d2, two rows of chances at pl and ql, an act (where there is one). -/
structure Play (w0 w : World) (k : Blks) (xo : Option (Nat × Array Value)) (d1 d2 : Dec) (pl ql : List Nat) : Prop where
  d1 : DecAt w 56 k.db k.rb d1
  d2 : DecAt w 59 k.db2 k.rb2 d2
  p : OwnH w 40 w0.heap.size (.slice (some ⟨k.g, 0, none⟩) pl.length k.cg) pl
  q : OwnH w 40 w0.heap.size (.slice (some ⟨k.h, 0, none⟩) ql.length k.ch) ql
  pb : ∀ x ∈ pl, x < 65536
  qb : ∀ x ∈ ql, x < 65536
  ok : k.Ok w0.heap.size
  x : ∀ b c, xo = some (b, c) → Pts w b c 36 ∧ b ≠ k.db ∧ b ≠ k.db2 ∧ b ≠ k.g ∧ b ≠ k.h ∧ w0.heap.size ≤ b
  b : Below w0.heap.size w0 w
theorem learn_lt {c : Nat} (h : c ≤ 2017) (one : Bool) : learn c one < 65536 := by have := learn_bd h one; omega
theorem OwnH.gblk {w : World} {T base g n c : Nat} {l : List Nat} (h : OwnH w T base (.slice (some ⟨g, 0, none⟩) n c) l) : ∃ cur, Pts w g cur T ∧ ∀ k, k < l.length → w.cell? ⟨g, k, none⟩ = some (halfV (l.getD k 0)) := by
  rcases h.form with ⟨e, _⟩ | ⟨g', cap, cur, e, hb, hp, h1, h2, _, hc⟩
  · cases e
  · injection e with e1 e2 e3
    injection e1 with e1
    injection e1 with e1
    subst e1
    exact ⟨cur, hp, fun k hk => by rw [hp.cell]; exact hc k hk⟩
theorem Play.drew {w0 w : World} {k : Blks} {xo : Option (Nat × Array Value)} {d1 d2 : Dec} {pl ql : List Nat} (h : Play w0 w k xo d1 d2 pl ql) : Play w0 w.drew k xo d1 d2 pl ql := by
  have hf := (Frm.refl (fun _ => False) w).drew
  exact ⟨h.d1.frm hf (fun h => h) (fun h => h), h.d2.frm hf (fun h => h) (fun h => h), h.p.drewN 1, h.q.drewN 1, h.pb, h.qb, h.ok, h.x, h.b.drew⟩
theorem Play.drewN {w0 w : World} {k : Blks} {xo : Option (Nat × Array Value)} {d1 d2 : Dec} {pl ql : List Nat} (h : Play w0 w k xo d1 d2 pl ql) (n : Nat) : Play w0 (w.drewN n) k xo d1 d2 pl ql := by
  have hf := (Frm.refl (fun _ => False) w).drewN n
  exact ⟨h.d1.frm hf (fun h => h) (fun h => h), h.d2.frm hf (fun h => h) (fun h => h), h.p.drewN n, h.q.drewN n, h.pb, h.qb, h.ok, h.x, below_drewN h.b n⟩
theorem Play.act {w0 w : World} {k : Blks} {xo : Option (Nat × Array Value)} {d1 d2 : Dec} {pl ql : List Nat} (h : Play w0 w k xo d1 d2 pl ql) (c : Array Value) : Play w0 (w.alloc (.cells c 36)) k (some (w.heap.size, c)) d1 d2 pl ql := by
  have hf := (Frm.refl (fun _ => False) w).alloc (.cells c 36)
  obtain ⟨cg, hg, _⟩ := h.p.gblk
  obtain ⟨ch, hh, _⟩ := h.q.gblk
  refine ⟨h.d1.frm hf (fun h => h) (fun h => h), h.d2.frm hf (fun h => h) (fun h => h), h.p.alloc _, h.q.alloc _, h.pb, h.qb, h.ok, ?_, h.b.alloc h.b.size _⟩
  intro b c' e
  injection e with e
  injection e with e1 e2
  subst e1; subst e2
  exact ⟨Pts.new w c _, fun e => by have := h.d1.lt; omega, fun e => by have := h.d2.lt; omega, fun e => by have := hg.lt; omega, fun e => by have := hh.lt; omega, h.b.size⟩
theorem Play.free {w0 w : World} {k : Blks} {xo : Option (Nat × Array Value)} {d1 d2 : Dec} {pl ql : List Nat} (h : Play w0 w k xo d1 d2 pl ql) : Play w0 w k none d1 d2 pl ql :=
  ⟨h.d1, h.d2, h.p, h.q, h.pb, h.qb, h.ok, (fun b c e => by cases e), h.b⟩
theorem Play.frm_p {w0 w w' : World} {k : Blks} {xo : Option (Nat × Array Value)} {d1 d2 d' : Dec} {pl ql : List Nat} (h : Play w0 w k xo d1 d2 pl ql) (hd : DecAt w' 56 k.db k.rb d') (hf : Frm (· = k.db) w w') : Play w0 w' k xo d' d2 pl ql := by
  have ok := h.ok
  refine ⟨hd, h.d2.frm hf (fun e => ok.n1 e.symm) (fun e => ok.n2 e.symm), h.p.frm hf (fun q e h2 => ?_), h.q.frm hf (fun q e h2 => ?_), h.pb, h.qb, ok, fun b c e => ?_, h.b.trans (hf.below h.b.size (fun q e => by have := ok.b1; omega))⟩
  · have e' : k.g = q := Option.some.inj e
    have := ok.n5
    omega
  · have e' : k.h = q := Option.some.inj e
    have := ok.n6
    omega
  · obtain ⟨h1, h2, h3, h4⟩ := h.x b c e
    exact ⟨h1.frm hf h2, h2, h3, h4⟩
theorem play_dir_p {w0 : World} {k : Blks} {xo : Option (Nat × Array Value)} {d1 d2 : Dec} {pl ql : List Nat} (n : Int) (w : World) (h : Play w0 w k xo d1 d2 pl ql) :
    Calls Try.prog 12 #[.pointer (some ⟨k.db, 0, none⟩), .int .i64 n] w fun e w' => e = .returned (.int .u32 (d1.direct (count n) 0).1) ∧ Play w0 w' k xo (d1.direct (count n) 0).2 d2 pl ql :=
  (ddirect_p _ _ n _ w h.d1).mono (by rintro e w' ⟨rfl, hd, hf⟩; exact ⟨rfl, h.frm_p hd hf⟩)
theorem play_dirq_p {w0 : World} {k : Blks} {xo : Option (Nat × Array Value)} {d1 d2 : Dec} {pl ql : List Nat} (n : Int) (w : World) (x : Int) (d' : Dec) (h : Play w0 w k xo d1 d2 pl ql) (hx : ((d1.direct (count n) 0).1 : Int) = x) (hd : (d1.direct (count n) 0).2 = d') :
    Calls Try.prog 12 #[.pointer (some ⟨k.db, 0, none⟩), .int .i64 n] w fun e w' => e = .returned (.int .u32 x) ∧ Play w0 w' k xo d' d2 pl ql := by
  subst hx; subst hd
  exact play_dir_p n w h
theorem play_end_p {w0 : World} {k : Blks} {xo : Option (Nat × Array Value)} {d1 d2 : Dec} {pl ql : List Nat} (w : World) (h : Play w0 w k xo d1 d2 pl ql) :
    Calls Try.prog 16 #[.pointer (some ⟨k.db, 0, none⟩)] w fun e w' => e = .returned (.tuple #[.int .i64 d1.fin.1, .int .i64 d1.fin.2]) ∧ Play w0 w' k xo d1.order d2 pl ql :=
  (dend_p _ _ _ w h.d1).mono (by rintro e w' ⟨rfl, hd, hf⟩; exact ⟨rfl, h.frm_p hd hf⟩)
theorem play_bit_p {w0 : World} {k : Blks} {xo : Option (Nat × Array Value)} {d1 d2 : Dec} {pl ql : List Nat} (j : Nat) (w : World) (h : Play w0 w k xo d1 d2 pl ql) (hj : j < pl.length) :
    Calls Try.prog 14 #[.pointer (some ⟨k.db, 0, none⟩), .pointer (some ⟨k.g, j, none⟩)] w fun e w' => e = .returned (.int .i64 (bitV (d1.bit (fair (pl.getD j 0))).1)) ∧
      Play w0 w' k xo (d1.bit (fair (pl.getD j 0))).2 d2 (pl.set j (learn (fair (pl.getD j 0)) (d1.bit (fair (pl.getD j 0))).1)) ql := by
  have ok := h.ok
  have n5 := ok.n5
  have n6 := ok.n6
  have n4 := ok.n4
  have b1 := ok.b1
  obtain ⟨cur, hp, hcell⟩ := h.p.gblk
  have hx := hcell j hj
  have hmem : pl.getD j 0 ∈ pl := by rw [List.getD, List.getElem?_eq_getElem hj]; exact List.getElem_mem hj
  have hlt := h.pb _ hmem
  obtain ⟨pv, hpv⟩ : ∃ pv, pl.getD j 0 = pv := ⟨_, rfl⟩
  rw [hpv] at hx hlt ⊢
  have hfb := fair_bd pv
  refine (dbit_p _ _ k.g j pv _ w h.d1 hx (hp.frozen j) (by omega) hlt).mono ?_
  rintro e w' ⟨rfl, hd, hf⟩
  refine ⟨rfl, ?_⟩
  have hset := h.p.set j hj (learn (fair pv) (d1.bit (fair pv)).1)
  have hF := (Frm.refl (· = k.g) w).setCell (p := ⟨k.g, j, none⟩) (by rfl) (halfV (learn (fair pv) (d1.bit (fair pv)).1))
  have hnl := learn_lt hfb.2 (d1.bit (fair pv)).1
  have hbd : ∀ x ∈ pl.set j (learn (fair pv) (d1.bit (fair pv)).1), x < 65536 := by
    intro x hx
    rcases List.mem_or_eq_of_mem_set hx with h9 | h9
    · exact h.pb x h9
    · rw [h9]; exact hnl
  have hf' : Frm (· = k.db) (w.setCell ⟨k.g, j, none⟩ (halfV (learn (fair pv) (d1.bit (fair pv)).1))) w' := hf
  refine ⟨hd, (h.d2.frm hF (fun e => by omega) (fun e => by omega)).frm hf' (fun e => ok.n1 e.symm) (fun e => ok.n2 e.symm), ?_, ?_, hbd, h.qb, ok, fun b c e => ?_, (h.b.trans (hF.below h.b.size (fun q e => by omega))).trans (hf'.below (Nat.le_trans h.b.size hF.size) (fun q e => by omega))⟩
  · rw [List.length_set]; exact hset.frm hf' (fun q e h2 => by have e' : k.g = q := Option.some.inj e; omega)
  · exact (h.q.frm hF (fun q e h2 => by have e' : k.h = q := Option.some.inj e; omega)).frm hf' (fun q e h2 => by have e' : k.h = q := Option.some.inj e; omega)
  · obtain ⟨h1, h2, h3, h4, h5, h6⟩ := h.x b c e
    exact ⟨(h1.frm hF h4).frm hf' h2, h2, h3, h4, h5, h6⟩
theorem Play.frm_r {w0 w w' : World} {k : Blks} {xo : Option (Nat × Array Value)} {d1 d2 d' : Dec} {pl ql : List Nat} (h : Play w0 w k xo d1 d2 pl ql) (hd : DecAt w' 59 k.db2 k.rb2 d') (hf : Frm (· = k.db2) w w') : Play w0 w' k xo d1 d' pl ql := by
  have ok := h.ok
  refine ⟨h.d1.frm hf ok.n1 (fun e => ok.n3 e.symm), hd, h.p.frm hf (fun q e h2 => ?_), h.q.frm hf (fun q e h2 => ?_), h.pb, h.qb, ok, fun b c e => ?_, h.b.trans (hf.below h.b.size (fun q e => by have := ok.b1; omega))⟩
  · have e' : k.g = q := Option.some.inj e
    have := ok.n5
    omega
  · have e' : k.h = q := Option.some.inj e
    have := ok.n6
    omega
  · obtain ⟨h1, h2, h3, h4⟩ := h.x b c e
    exact ⟨h1.frm hf h3, h2, h3, h4⟩
theorem play_dir_r {w0 : World} {k : Blks} {xo : Option (Nat × Array Value)} {d1 d2 : Dec} {pl ql : List Nat} (n : Int) (w : World) (h : Play w0 w k xo d1 d2 pl ql) :
    Calls Try.prog 13 #[.pointer (some ⟨k.db2, 0, none⟩), .int .i64 n] w fun e w' => e = .returned (.int .u32 (d2.direct (count n) 0).1) ∧ Play w0 w' k xo d1 (d2.direct (count n) 0).2 pl ql :=
  (ddirect_r _ _ n _ w h.d2).mono (by rintro e w' ⟨rfl, hd, hf⟩; exact ⟨rfl, h.frm_r hd hf⟩)
theorem play_dirq_r {w0 : World} {k : Blks} {xo : Option (Nat × Array Value)} {d1 d2 : Dec} {pl ql : List Nat} (n : Int) (w : World) (x : Int) (d' : Dec) (h : Play w0 w k xo d1 d2 pl ql) (hx : ((d2.direct (count n) 0).1 : Int) = x) (hd : (d2.direct (count n) 0).2 = d') :
    Calls Try.prog 13 #[.pointer (some ⟨k.db2, 0, none⟩), .int .i64 n] w fun e w' => e = .returned (.int .u32 x) ∧ Play w0 w' k xo d1 d' pl ql := by
  subst hx; subst hd
  exact play_dir_r n w h
theorem play_end_r {w0 : World} {k : Blks} {xo : Option (Nat × Array Value)} {d1 d2 : Dec} {pl ql : List Nat} (w : World) (h : Play w0 w k xo d1 d2 pl ql) :
    Calls Try.prog 17 #[.pointer (some ⟨k.db2, 0, none⟩)] w fun e w' => e = .returned (.tuple #[.int .i64 d2.fin.1, .int .i64 d2.fin.2]) ∧ Play w0 w' k xo d1 d2.order pl ql :=
  (dend_r _ _ _ w h.d2).mono (by rintro e w' ⟨rfl, hd, hf⟩; exact ⟨rfl, h.frm_r hd hf⟩)
theorem play_bit_r {w0 : World} {k : Blks} {xo : Option (Nat × Array Value)} {d1 d2 : Dec} {pl ql : List Nat} (j : Nat) (w : World) (h : Play w0 w k xo d1 d2 pl ql) (hj : j < ql.length) :
    Calls Try.prog 15 #[.pointer (some ⟨k.db2, 0, none⟩), .pointer (some ⟨k.h, j, none⟩)] w fun e w' => e = .returned (.int .i64 (bitV (d2.bit (fair (ql.getD j 0))).1)) ∧
      Play w0 w' k xo d1 (d2.bit (fair (ql.getD j 0))).2 pl (ql.set j (learn (fair (ql.getD j 0)) (d2.bit (fair (ql.getD j 0))).1)) := by
  have ok := h.ok
  have n5 := ok.n5
  have n6 := ok.n6
  have n4 := ok.n4
  have b1 := ok.b1
  obtain ⟨cur, hp, hcell⟩ := h.q.gblk
  have hx := hcell j hj
  have hmem : ql.getD j 0 ∈ ql := by rw [List.getD, List.getElem?_eq_getElem hj]; exact List.getElem_mem hj
  have hlt := h.qb _ hmem
  obtain ⟨pv, hpv⟩ : ∃ pv, ql.getD j 0 = pv := ⟨_, rfl⟩
  rw [hpv] at hx hlt ⊢
  have hfb := fair_bd pv
  refine (dbit_r _ _ k.h j pv _ w h.d2 hx (hp.frozen j) (by omega) hlt).mono ?_
  rintro e w' ⟨rfl, hd, hf⟩
  refine ⟨rfl, ?_⟩
  have hset := h.q.set j hj (learn (fair pv) (d2.bit (fair pv)).1)
  have hF := (Frm.refl (· = k.h) w).setCell (p := ⟨k.h, j, none⟩) (by rfl) (halfV (learn (fair pv) (d2.bit (fair pv)).1))
  have hnl := learn_lt hfb.2 (d2.bit (fair pv)).1
  have hbd : ∀ x ∈ ql.set j (learn (fair pv) (d2.bit (fair pv)).1), x < 65536 := by
    intro x hx
    rcases List.mem_or_eq_of_mem_set hx with h9 | h9
    · exact h.qb x h9
    · rw [h9]; exact hnl
  have hf' : Frm (· = k.db2) (w.setCell ⟨k.h, j, none⟩ (halfV (learn (fair pv) (d2.bit (fair pv)).1))) w' := hf
  refine ⟨(h.d1.frm hF (fun e => by omega) (fun e => by omega)).frm hf' ok.n1 (fun e => ok.n3 e.symm), hd, ?_, ?_, h.pb, hbd, ok, fun b c e => ?_, (h.b.trans (hF.below h.b.size (fun q e => by omega))).trans (hf'.below (Nat.le_trans h.b.size hF.size) (fun q e => by omega))⟩
  · exact (h.p.frm hF (fun q e h2 => by have e' : k.g = q := Option.some.inj e; omega)).frm hf' (fun q e h2 => by have e' : k.g = q := Option.some.inj e; omega)
  · rw [List.length_set]; exact hset.frm hf' (fun q e h2 => by have e' : k.h = q := Option.some.inj e; omega)
  · obtain ⟨h1, h2, h3, h4, h5, h6⟩ := h.x b c e
    exact ⟨(h1.frm hF h5).frm hf' h3, h2, h3, h4, h5, h6⟩
theorem play_bitq_p {w0 : World} {k : Blks} {xo : Option (Nat × Array Value)} {d1 d2 : Dec} {pl ql : List Nat} (j : Nat) (w : World) (x : Int) (d' : Dec) (L : Nat) (h : Play w0 w k xo d1 d2 pl ql) (hj : j < pl.length) (hx : bitV (d1.bit (fair (pl.getD j 0))).1 = x) (hd : (d1.bit (fair (pl.getD j 0))).2 = d') (hL : learn (fair (pl.getD j 0)) (d1.bit (fair (pl.getD j 0))).1 = L) :
    Calls Try.prog 14 #[.pointer (some ⟨k.db, 0, none⟩), .pointer (some ⟨k.g, j, none⟩)] w fun e w' => e = .returned (.int .i64 x) ∧ Play w0 w' k xo d' d2 (pl.set j L) ql := by
  subst hx; subst hd; subst hL
  exact play_bit_p j w h hj
theorem play_bitq_r {w0 : World} {k : Blks} {xo : Option (Nat × Array Value)} {d1 d2 : Dec} {pl ql : List Nat} (j : Nat) (w : World) (x : Int) (d' : Dec) (L : Nat) (h : Play w0 w k xo d1 d2 pl ql) (hj : j < ql.length) (hx : bitV (d2.bit (fair (ql.getD j 0))).1 = x) (hd : (d2.bit (fair (ql.getD j 0))).2 = d') (hL : learn (fair (ql.getD j 0)) (d2.bit (fair (ql.getD j 0))).1 = L) :
    Calls Try.prog 15 #[.pointer (some ⟨k.db2, 0, none⟩), .pointer (some ⟨k.h, j, none⟩)] w fun e w' => e = .returned (.int .i64 x) ∧ Play w0 w' k xo d1 d' pl (ql.set j L) := by
  subst hx; subst hd; subst hL
  exact play_bit_r j w h hj
theorem getD_set_self {l : List Nat} {j x : Nat} (h : j < l.length) : (l.set j x).getD j 0 = x := by simp [List.getD, h]
theorem Play.cell_p {w0 w : World} {k : Blks} {xo : Option (Nat × Array Value)} {d1 d2 : Dec} {pl ql : List Nat} (h : Play w0 w k xo d1 d2 pl ql) {j : Nat} (hj : j < pl.length) : w.cell? ⟨k.g, j, none⟩ = some (.int .u16 (pl.getD j 0)) := by
  obtain ⟨cur, hp, hc⟩ := h.p.gblk
  exact hc j hj
theorem Play.cell_q {w0 w : World} {k : Blks} {xo : Option (Nat × Array Value)} {d1 d2 : Dec} {pl ql : List Nat} (h : Play w0 w k xo d1 d2 pl ql) {j : Nat} (hj : j < ql.length) : w.cell? ⟨k.h, j, none⟩ = some (.int .u16 (ql.getD j 0)) := by
  obtain ⟨cur, hp, hc⟩ := h.q.gblk
  exact hc j hj
end Go.Proofs.Ytcnjbdaopphleaa
