/- Texts of this proof, put together: LpA, LpB, LpC, LpP, LpD, LpE, LzW, LzY, LpF, LpG, LpH, LpI, LpJ, LpQ, FindP, LpR, LpK, LzV, LcA, LcB, LcC, LpL, LcD, LpM, LpN, LpT. -/
import Derived.Defers
import Derived.Recover
import Derived.WalkSmall
import Derived.Laws.Pointers
import Derived.Deep.LoopGhost
import Derived.Deep.Onto
import Derived.Lib.SlBytesConst
import Derived.Test.YthcgglacbgjdhaaBu1
import Derived.Test.YthcgglacbgjdhaaBu2
set_option linter.unusedVariables false
set_option linter.unusedSimpArgs false
/- A state of chances tq9 put in by: New and Reset. -/
namespace Go.Proofs.Ythcgglacbgjdhaa
open Go.RowKit Rng Lz
set_option linter.unusedVariables false
set_option linter.unusedSimpArgs false
theorem min3_put {P : Program} (ts : Array TypeId) (t : TypeId) (x y z n : Int) (h : min x (min y z) = n) (w : World) : (Builtin.min_ ts t #[.int .i64 x, .int .i64 y, .int .i64 z]).run P w = .ok (.int .i64 n) w := by
  have e : (if z < (if y < x then y else x) then z else (if y < x then y else x)) = n := by split <;> split <;> omega
  rw [← e]
  simp [Builtin.min_, Builtin.min2]
theorem putreset_nil (w : World) : Calls Try.prog 10 #[.pointer none] w fun e w' => e = .returned (.tuple #[]) ∧ w = w' := by
  go_enter Try.func10, Try.ntmps10
  go_wp2
  go_end0
  exact ⟨rfl, rfl⟩
theorem putreset_st (k0 lc lp pb st : Nat) (rep : Nat → Nat) (pr : Pr) (lv : Value) (T : TypeId) (w : World) (hp : Pts w k0 (qcells lc lp pb st rep pr lv) T) (hcl : lc + lp ≤ 4) (hlv : ∃ A n c, lv = .slice A n c) (hpb : pb ≤ 4) :
    Calls Try.prog 10 #[.pointer (some ⟨k0, 0, none⟩)] w fun e w' => e = .returned (.tuple #[]) ∧ ∃ lb, w.heap.size ≤ lb ∧ Pts w' k0 (mcells ⟨k0, lb, lc, lp, pb⟩ 0 (fun _ => 0) (fun _ => 1024)) T ∧ Pts w' lb (lcells ⟨k0, lb, lc, lp, pb⟩ (fun _ => 1024)) 47 ∧ Frm (· = k0) w w' := by
  have HP := Lib.hid hp
  clear hp
  go_enter Try.func10, Try.ntmps10
  go_wp2_with fail
  refine (mreset_any k0 lc lp pb st rep pr lv T w HP.out hcl hlv hpb).mono ?_; rintro e w1 ⟨rfl, lb, h1, h2, h3, f1⟩
  have H2 := Lib.hid h2
  have H3 := Lib.hid h3
  have F1 := Lib.hid f1
  clear h2 h3 f1
  go_wp2
  go_end0
  exact ⟨rfl, lb, h1, H2.out, H3.out, F1.out⟩
theorem zero66_size : Try.zeroCells66.size = 1869 := by kernel_rfl
theorem made_hdr (lc lp pb : Nat) : ((Try.zeroCells64.setIfInBounds 0 (.int .i64 (lc : Int))).setIfInBounds 1 (.int .i64 (lp : Int))).setIfInBounds 2 (.int .i64 (pb : Int)) = qcells lc lp pb 0 (fun _ => 0) (fun _ => 0) (.slice none 0 0) := by
  rw [zero_q, qcells_hdr]
theorem made_put (lc lp pb : Nat) : Array.foldl (fun (cs : Array Value) x => cs.setIfInBounds x.2 x.1) Try.zeroCells66 (((Try.zeroCells64.setIfInBounds 0 (.int .i64 (lc : Int))).setIfInBounds 1 (.int .i64 (lp : Int))).setIfInBounds 2 (.int .i64 (pb : Int))).zipIdx 0 1869 = qcells lc lp pb 0 (fun _ => 0) (fun _ => 0) (.slice none 0 0) := by
  rw [made_hdr]
  exact fold_all _ _ 1869 (qcells_size _ _ _ _ _ _ _) zero66_size
set_option maxRecDepth 100000 in
set_option maxHeartbeats 1000000 in
theorem putnew_bad (lc lp pb : Int) (h : min lc (min lp pb) < 0 ∨ 4 < lc ∨ 4 < lp ∨ 4 < lc + lp ∨ 4 < pb) (h1 : -9223372036854775808 ≤ lc ∧ lc ≤ 9223372036854775807) (h2 : -9223372036854775808 ≤ lp ∧ lp ≤ 9223372036854775807) (w : World) :
    Calls Try.prog 8 #[.int .i64 lc, .int .i64 lp, .int .i64 pb] w fun e w' => e = .returned (.tuple #[.pointer none, .int .i64 2]) ∧ w = w' := by
  obtain ⟨m, hm⟩ : ∃ m, min lc (min lp pb) = m := ⟨_, rfl⟩
  have hmin := fun w => min3_put (P := Try.prog) #[3, 3, 3] 3 _ _ _ _ hm w
  have h3 : m < 0 ∨ (0 ≤ m ∧ 4 < lc) ∨ (0 ≤ m ∧ lc ≤ 4 ∧ 4 < lp) ∨ (0 ≤ m ∧ lc ≤ 4 ∧ lp ≤ 4 ∧ 4 < lc + lp) ∨ (0 ≤ m ∧ lc ≤ 4 ∧ lp ≤ 4 ∧ lc + lp ≤ 4 ∧ 4 < pb) := by omega
  clear h h1 h2
  rcases h3 with h | ⟨h, h1⟩ | ⟨h, h1, h2⟩ | ⟨h, h1, h2, h3⟩ | ⟨h, h1, h2, h3, h4⟩
  · clear hm
    go_enter Try.func8, Try.ntmps8
    go_wp2
    go_ret2
    exact ⟨rfl, rfl⟩
  · clear hm
    go_enter Try.func8, Try.ntmps8
    go_wp2
    go_ret2
    exact ⟨rfl, rfl⟩
  · clear hm
    go_enter Try.func8, Try.ntmps8
    go_wp2
    go_ret2
    exact ⟨rfl, rfl⟩
  · have hw : IntKind.i64.wrap (lc + lp) = lc + lp := Go.IntWalk.i64_in _ (by omega)
    clear hm
    go_enter Try.func8, Try.ntmps8
    go_wp2
    go_ret2
    exact ⟨rfl, rfl⟩
  · have hw : IntKind.i64.wrap (lc + lp) = lc + lp := Go.IntWalk.i64_in _ (by omega)
    clear hm
    go_enter Try.func8, Try.ntmps8
    go_wp2
    go_ret2
    exact ⟨rfl, rfl⟩
set_option maxRecDepth 100000 in
set_option maxHeartbeats 1000000 in
theorem putnew_p (lc lp pb : Nat) (h1 : lc + lp ≤ 4) (h2 : pb ≤ 4) (w : World) : Calls Try.prog 8 #[.int .i64 lc, .int .i64 lp, .int .i64 pb] w fun e w' => ∃ b lb, e = .returned (.tuple #[.pointer (some ⟨b, 0, none⟩), .int .i64 0]) ∧ w.heap.size ≤ b ∧ w.heap.size ≤ lb ∧ b ≠ lb ∧
    Pts w' b (mcells ⟨b, lb, lc, lp, pb⟩ 0 (fun _ => 0) (fun _ => 1024)) 66 ∧ Pts w' lb (lcells ⟨b, lb, lc, lp, pb⟩ (fun _ => 1024)) 47 ∧ Below w.heap.size w w' := by
  obtain ⟨m, hm⟩ : ∃ m : Nat, min lc (min lp pb) = m := ⟨_, rfl⟩
  have hmi : min (lc : Int) (min (lp : Int) (pb : Int)) = (m : Int) := by omega
  have hmin := fun w => min3_put (P := Try.prog) #[3, 3, 3] 3 _ _ _ _ hmi w
  have e1 : (lc : Int) ≤ 4 := by omega
  have e2 : (lp : Int) ≤ 4 := by omega
  have e3 : (lc : Int) + (lp : Int) ≤ 4 := by omega
  have e4 : (pb : Int) ≤ 4 := by omega
  have H12 := Lib.hid (And.intro h1 h2)
  clear hm hmi h1 h2
  go_enter Try.func8, Try.ntmps8
  go_upto_region 3 with fail
  have hma := made_put lc lp pb
  clear e1 e2 e3 e4 hmin
  go_wp2_with fail
  have hp := Pts.new w (qcells lc lp pb 0 (fun _ => 0) (fun _ => 0) (.slice none 0 0)) 66
  have hb := (Below.refl w.heap.size w).alloc (Nat.le_refl _) (.cells (qcells lc lp pb 0 (fun _ => 0) (fun _ => 0) (.slice none 0 0)) 66)
  have hsz : (w.alloc (.cells (qcells lc lp pb 0 (fun _ => 0) (fun _ => 0) (.slice none 0 0)) 66)).heap.size = w.heap.size + 1 := by show (w.heap.push _).size = _; rw [Array.size_push]
  generalize w.alloc (.cells (qcells lc lp pb 0 (fun _ => 0) (fun _ => 0) (.slice none 0 0)) 66) = wa at *
  refine (putreset_st w.heap.size lc lp pb 0 _ _ _ 66 wa hp H12.out.1 ⟨none, 0, 0, rfl⟩ H12.out.2).mono ?_; rintro e w1 ⟨rfl, lb, h1, h2, h3, f1⟩
  have H2 := Lib.hid h2
  have H3 := Lib.hid h3
  have B1 := Lib.hid (hb.trans (f1.below hb.size (fun q hq => by omega)))
  have hlb : w.heap.size < lb := by omega
  clear h2 h3 f1 hma
  go_wp2
  go_ret2
  exact ⟨w.heap.size, lb, rfl, Nat.le_refl _, by omega, by omega, H2.out, H3.out, B1.out⟩
end Go.Proofs.Ythcgglacbgjdhaa

/- A writer in memory; a byte that it writes: the walk. -/
namespace Go.Proofs.Ythcgglacbgjdhaa
open Go.RowKit Rng Lz Win
set_option linter.unusedVariables false
set_option linter.unusedSimpArgs false
/-- The blocks of a writer: its encoder, the writer. -/
structure WB where
  eb : Nat
  xb : Nat
/-- The blocks that a writer writes. -/
def WZ (k : LK) (O : Nat → Prop) (g : WB) (q : Nat) : Prop := Wr O k q ∨ q = g.xb
/-- A writer at work on a text. -/
structure WrAt (O : Nat → Prop) (w : World) (k : LK) (g : WB) (A : Option Addr) (c : Nat) (bs : List UInt8) (shift : Int) (pos : Nat) (st : Nat) (rep : Nat → Nat) (s : CP Enc) : Prop where
  lz : LzAt (IC g.eb O) O 66 w k st rep s
  p : Pts w g.xb #[.pointer (some ⟨k.sb, 0, none⟩), .pointer (some ⟨g.eb, 0, none⟩), .slice A bs.length c, .int .i64 pos, .int .i64 shift] 75
  r : BRow w w.heap.size A bs
  off : BOff (WZ k O g) A bs
  x : ¬ O g.xb
section
variable {O : Nat → Prop} {w w' : World} {k : LK} {g : WB} {A : Option Addr} {c : Nat} {bs : List UInt8} {shift : Int} {pos st : Nat} {rep : Nat → Nat} {s : CP Enc}
theorem BRow.apart {B : Nat} {N : Nat → Prop} (h : BRow w B A bs) (ho : BOff N A bs) (hf : Frm N w w') : BRow w' B A bs := by
  intro h0
  obtain ⟨b, off, rfl, hlt, hc⟩ := h h0
  refine ⟨b, off, rfl, hlt, fun j hj => ?_⟩
  have hN : ¬ N b := ho h0 _ rfl
  have hcell := hc j hj
  have hb := World.block_lt_of_cell? w ⟨b, off + j, none⟩ hcell
  rw [World.cell?_of_block (hf.block b hb hN)]
  exact hcell
theorem WrAt.lzStep {st' : Nat} {rep' : Nat → Nat} {s' : CP Enc} (h : WrAt O w k g A c bs shift pos st rep s) (hl : LzAt (IC g.eb O) O 66 w' k st' rep' s') (hf : Frm (Wr O k) w w') : WrAt O w' k g A c bs shift pos st' rep' s' := by
  refine ⟨hl, h.p.frm hf ?_, (h.r.apart h.off (hf.mono fun q _ e => .inl e)).more hf.size, h.off, h.x⟩
  rintro (e | e | e)
  · exact h.x e
  · exact h.p.ne_of h.lz.m (by decide) e
  · exact h.p.ne_of h.lz.l (by decide) e
theorem WrAt.drewN (h : WrAt O w k g A c bs shift pos st rep s) (n : Nat) : WrAt O (w.drewN n) k g A c bs shift pos st rep s := h.lzStep (h.lz.later (IC.keep _ _) ((Frm.refl _ w).drewN n)) ((Frm.refl _ w).drewN n)
theorem WrAt.drew (h : WrAt O w k g A c bs shift pos st rep s) : WrAt O w.drew k g A c bs shift pos st rep s := h.lzStep (h.lz.later (IC.keep _ _) ((Frm.refl _ w).drew)) ((Frm.refl _ w).drew)
theorem WrAt.move (h : WrAt O w k g A c bs shift pos st rep s) (pos' : Nat) : WrAt O (w.setCell ⟨g.xb, 3, none⟩ (.int .i64 pos')) k g A c bs shift pos' st rep s ∧ Frm (WZ k O g) w (w.setCell ⟨g.xb, 3, none⟩ (.int .i64 pos')) := by
  have hf : Frm (· = g.xb) w (w.setCell ⟨g.xb, 3, none⟩ (.int .i64 pos')) := Frm.setCell (S := fun x => x = g.xb) (Frm.refl _ w) (p := ⟨g.xb, 3, none⟩) (by rfl) _
  refine ⟨⟨h.lz.frm (IC.keep _ _) hf ?_, h.p.set 3 _, (h.r.apart h.off (hf.mono fun q _ e => .inr e)).more hf.size, h.off, h.x⟩, hf.mono fun q _ e => .inr e⟩
  rintro q (e | e | e) e2
  · exact h.x (e2 ▸ e)
  · exact h.p.ne_of h.lz.m (by decide) (e2.symm.trans e)
  · exact h.p.ne_of h.lz.l (by decide) (e2.symm.trans e)
theorem WrAt.cells (h : WrAt O w k g A c bs shift pos st rep s) : w.cell? ⟨g.xb, 0, none⟩ = some (.pointer (some ⟨k.sb, 0, none⟩)) ∧ w.cell? ⟨g.xb, 1, none⟩ = some (.pointer (some ⟨g.eb, 0, none⟩)) ∧ w.cell? ⟨g.xb, 2, none⟩ = some (.slice A bs.length c) ∧
    w.cell? ⟨g.xb, 3, none⟩ = some (.int .i64 pos) ∧ w.cell? ⟨g.xb, 4, none⟩ = some (.int .i64 shift) ∧ w.cell? ⟨k.sb, 3, none⟩ = some (.int .i64 st) ∧ w.cell? ⟨k.sb, 4, none⟩ = some (.int .u32 (rep 0)) := by
  refine ⟨by rw [h.p.cell]; rfl, by rw [h.p.cell]; rfl, by rw [h.p.cell]; rfl, by rw [h.p.cell]; rfl, by rw [h.p.cell]; rfl, (h.lz.hdr (i := 3) (by omega)).1, (h.lz.hdr (i := 4) (by omega)).1⟩
theorem WrAt.byte (h : WrAt O w k g A c bs shift pos st rep s) : 0 < bs.length → ∃ b off, A = some ⟨b, off, none⟩ ∧ ∀ j, j < bs.length → w.cell? ⟨b, off + j, none⟩ = some (.int .u8 ((bs.getD j 0).toNat : Int)) := by
  intro h0
  obtain ⟨b, off, e, _, hc⟩ := h.r h0
  exact ⟨b, off, e, hc⟩
/-- Fewer blocks are the writer's own: those of E are none. -/
theorem WrAt.less {E : Nat → Prop} (h : WrAt O w k g A c bs shift pos st rep s) (hE : ∀ q, E q → q < w.heap.size) (hEe : ¬ E g.eb) (hEv : ∀ v, EncAt w 98 0 g.eb 0 v s.d → ∀ q, v.ownBlock = some q → ¬ E q) :
    WrAt (fun q => O q ∧ ¬ E q) w k g A c bs shift pos st rep s := by
  obtain ⟨⟨v, hv, hvo⟩, hb, hz, hi⟩ := h.lz.c
  refine ⟨⟨⟨⟨v, hv, fun q hq => ⟨hvo q hq, hEv v hv q hq⟩⟩, ⟨hb, hEe⟩, fun q hq => ⟨hz q hq, fun e => by have := hE q e; omega⟩, hi⟩, h.lz.m, h.lz.l, h.lz.fit, ⟨fun e => h.lz.ne.1 e.1, fun e => h.lz.ne.2.1 e.1, h.lz.ne.2.2⟩⟩, h.p, h.r, ?_, fun e => h.x e.1⟩
  intro h0 ad e hz2
  refine h.off h0 ad e ?_
  rcases hz2 with (e1 | e1) | e1
  · exact .inl (.inl e1.1)
  · exact .inl (.inr e1)
  · exact .inr e1
/-- A block is made, which is not the writer's own. -/
theorem WrAt.alloc (h : WrAt O w k g A c bs shift pos st rep s) (X : Obj) : WrAt O (w.alloc X) k g A c bs shift pos st rep s := h.lzStep (h.lz.later (IC.keep _ _) ((Frm.refl _ w).alloc X)) ((Frm.refl _ w).alloc X)
end
/-- What a byte that is put in makes of the state. -/
def putLit (k : LK) (bs : List UInt8) (tot pos st : Nat) (rep : Nat → Nat) (s : CP Enc) : CP Enc :=
  (litAt inC k.lc k.lp st tot (if 0 < tot ∧ 0 < pos then (bs.getD (pos - 1) 0).toNat else 0) (if rep 0 + 1 ≤ pos then (bs.getD (pos - (rep 0 + 1)) 0).toNat else 0) (bs.getD pos 0).toNat (bitAt inC (8 + st * 16 + tot % 2 ^ k.pb) 0 s).2).2
end Go.Proofs.Ythcgglacbgjdhaa

/- A byte that is written: the walk. -/
namespace Go.Proofs.Ythcgglacbgjdhaa
open Go.RowKit Rng Lz Win
set_option linter.unusedVariables false
set_option linter.unusedSimpArgs false
set_option maxRecDepth 100000 in
set_option maxHeartbeats 2000000 in
theorem putlit_p (O : Nat → Prop) (w : World) (k : LK) (g : WB) (A : Option Addr) (c : Nat) (bs : List UInt8) (shift : Int) (pos tot st : Nat) (rep : Nat → Nat) (s : CP Enc) (h : WrAt O w k g A c bs shift pos st rep s) (hk : k.Ok) (htot : (pos : Int) + shift = (tot : Int)) (ht : tot < 4611686018427387904)
    (hpos : pos < bs.length) (hlen : bs.length ≤ 140737488355328) (hst : st < 12) (hrep : rep 0 < 4294967296) (hc : s.d.cnt + 9 < 1000000) :
    Calls Try.prog 17 #[.pointer (some ⟨g.xb, 0, none⟩)] w fun e w' => e = .returned (.tuple #[]) ∧ WrAt O w' k g A c bs shift (pos + 1) (behS st 0) rep (putLit k bs tot pos st rep s) ∧ Frm (WZ k O g) w w' := by
  obtain ⟨AH, hAH⟩ : ∃ a, (if 0 < tot ∧ 0 < pos then (bs.getD (pos - 1) 0).toNat else 0) = a := ⟨_, rfl⟩
  obtain ⟨FA, hFA⟩ : ∃ a, (if rep 0 + 1 ≤ pos then (bs.getD (pos - (rep 0 + 1)) 0).toNat else 0) = a := ⟨_, rfl⟩
  obtain ⟨X, hX⟩ : ∃ a, (bs.getD pos 0).toNat = a := ⟨_, rfl⟩
  obtain ⟨p, hp⟩ : ∃ p, tot % 2 ^ k.pb = p := ⟨_, rfl⟩
  obtain ⟨s1, hs1⟩ : ∃ s1, (bitAt inC (8 + st * 16 + p) 0 s).2 = s1 := ⟨_, rfl⟩
  obtain ⟨s2, hs2⟩ : ∃ s2, (litAt inC k.lc k.lp st tot AH FA X s1).2 = s2 := ⟨_, rfl⟩
  have hput : putLit k bs tot pos st rep s = s2 := by unfold putLit; rw [hAH, hFA, hX, hp, hs1, hs2]
  rw [hput]
  have hah : AH < 256 := by rw [← hAH]; split; exact (bs.getD (pos - 1) 0).toNat_lt; omega
  have hfa : FA < 256 := by rw [← hFA]; split; exact (bs.getD (pos - (rep 0 + 1)) 0).toNat_lt; omega
  have hXb : X < 256 := by rw [← hX]; exact (bs.getD pos 0).toNat_lt
  have hc1 : s1.d.cnt ≤ s.d.cnt + 1 := by rw [← hs1]; exact cnt_bitIn1 _ _ _
  have hlitv : (litAt inC k.lc k.lp st tot AH FA X s1).1 = X := by rw [← hX]; exact litIn_any _ _ _ _ _ _ _ _
  have hp16 : p < 16 := by
    have h1 : 2 ^ k.pb ≤ 2 ^ 4 := Nat.pow_le_pow_right (by omega) hk.b
    have h2 : tot % 2 ^ k.pb < 2 ^ k.pb := Nat.mod_lt _ (Nat.lt_of_lt_of_le (by omega) (Nat.one_le_two_pow))
    omega
  obtain ⟨ab, off, hA, hcell⟩ := h.byte (by omega)
  have HH := Lib.hid h
  have HK := Lib.hid hk
  have HPL := Lib.hid (fun (w1 : World) (h1 : LzAt (IC g.eb O) O 66 w1 k st rep s) => place_any 66 k st tot rep s w1 h1 hk ht)
  rw [hp] at HPL
  have P0 := Lib.hid (plm k (i := 8 + st * 16 + p) (by omega) (by omega))
  obtain ⟨d0, d1, d2, d3, d4, d5, d6⟩ := h.cells
  have hsti : (st : Int) < 12 := by omega
  have hpi : (p : Int) < 16 := by omega
  have htw : IntKind.i64.wrap (tot : Int) = (tot : Int) := Go.IntWalk.i64_in _ (by omega)
  have HAH := Lib.hid hAH
  have HFA := Lib.hid hFA
  have HX := Lib.hid hX
  have HS1 := Lib.hid hs1
  have HS2 := Lib.hid hs2
  have HC := Lib.hid (And.intro hc hc1)
  have HLV := Lib.hid hlitv
  have HREP := Lib.hid hrep
  have HCELL := Lib.hid hcell
  subst hA
  clear hcell h hk hp hAH hFA hX hs1 hs2 hput hc hc1 hlitv hrep
  go_enter Try.func17, Try.ntmps17
  go_wp2
  go_quiet (fail)
  have HD := Lib.hid ((HH.out.drewN nq).drew)
  have FD : Hid (Frm (WZ k O g) w (w.drewN nq).drew) := Lib.hid (((Frm.refl _ w).drewN nq).drew)
  go_upto_region 2 with fail
  go_cut [36] from 37 (fun v wx => WrAt O wx k g (some ⟨ab, off, none⟩) c bs shift pos st rep s1 ∧ Frm (WZ k O g) w wx)
  case first =>
    go_region_with (first
      | (go_at_call 31; refine (HPL.out _ HD.out.lz).mono ?_; rintro e w2 ⟨rfl, rfl⟩)
      | (go_at_call 30; refine (ibit_lz HD.out.lz (by have := HC.out; omega) (8 + st * 16 + p) k.sb (8 + st * 16 + p) 0 0 rfl (by omega) P0.out.1 P0.out.2).mono ?_; rintro e w2 ⟨rfl, h2, f2⟩; rw [HS1.out] at h2))
    all_goals
      have H2 := Lib.hid (HD.out.lzStep h2 f2)
      have F2 := Lib.hid (FD.out.trans (f2.mono fun q _ e => .inl e))
      clear h2 f2
      go_wp2
      go_meet
      case rel => exact ⟨H2.out, F2.out⟩
  case rest =>
    obtain ⟨h2, f2⟩ := hcut
    have H2 := Lib.hid h2
    have F2 := Lib.hid f2
    clear d0 d1 d2 d3 d4 d5 d6 HH HD FD
    obtain ⟨d0, d1, d2, d3, d4, d5, d6⟩ := h2.cells
    have hcell := (h2.byte (by omega))
    clear h2 f2
    obtain ⟨β, hβ⟩ : ∃ β, decide (0 < tot ∧ 0 < pos) = β := ⟨_, rfl⟩
    have Hβ := Lib.hid hβ
    have hcell0 := hcell
    clear hβ hcell
    obtain ⟨ab', off', e9, hcell⟩ := hcell0
    injection e9 with e9
    injection e9 with e8 e7
    subst e8; subst e7
    have HCL := Lib.hid hcell
    clear hcell
    go_upto_region 4 with fail
    go_cut [45] from 46 (fun v wx => v = .bool β ∧ wx = wc)
    case first =>
      have hb := Hβ.out
      by_cases h0 : 0 < tot
      · have h0i : (0 : Int) < (tot : Int) := by omega
        by_cases h1 : 0 < pos
        · have h1i : (0 : Int) < (pos : Int) := by omega
          rw [decide_eq_true ⟨h0, h1⟩] at hb
          subst hb
          clear h0 h1
          go_wp2
          go_meet
          case rel => exact ⟨by first | rfl | (rw [decide_eq_true (show 0 < pos by omega)]), rfl⟩
        · obtain rfl : pos = 0 := by omega
          rw [decide_eq_false (fun h => h1 h.2)] at hb
          subst hb
          clear h0 h1
          go_wp2
          go_meet
          case rel => exact ⟨rfl, rfl⟩
      · obtain rfl : tot = 0 := by omega
        rw [decide_eq_false (fun h => h0 h.1)] at hb
        subst hb
        clear h0
        go_wp2
        go_meet
        case rel => exact ⟨rfl, rfl⟩
    case rest =>
      obtain ⟨rfl, hwx⟩ := hcut
      subst hwx
      obtain ⟨w1, hw1⟩ : ∃ w1, w1 = wc := ⟨_, rfl⟩
      subst hw1
      go_upto_if 45 with fail
      go_cut [4] from 46 (fun v wx => v = .int .u8 AH ∧ WrAt O wx k g (some ⟨ab, off, none⟩) c bs shift pos st rep s1 ∧ Frm (WZ k O g) w1 wx)
      case first =>
        have hb := Hβ.out
        by_cases h01 : 0 < tot ∧ 0 < pos
        · rw [decide_eq_true h01] at hb
          subst hb
          have hA := HAH.out
          rw [if_pos h01] at hA
          obtain ⟨q, hq⟩ : ∃ q, pos - 1 = q := ⟨_, rfl⟩
          rw [hq] at hA
          have hqi : (pos : Int) - 1 = (q : Int) := by omega
          have hqw : IntKind.i64.wrap (q : Int) = (q : Int) := Go.IntWalk.i64_in _ (by omega)
          have hcq := HCL.out q (by omega)
          rw [hA] at hcq
          have hqb : q < bs.length := by omega
          clear hA h01 hq
          go_wp2
          go_quiet (fail)
          have H3 := Lib.hid (H2.out.drewN nq)
          have F3 : Hid (Frm (WZ k O g) w1 (w1.drewN nq)) := Lib.hid ((Frm.refl _ w1).drewN nq)
          go_wp2
          go_meet
          case rel => exact ⟨rfl, H3.out, F3.out⟩
        · rw [decide_eq_false h01] at hb
          subst hb
          have hA := HAH.out
          rw [if_neg h01] at hA
          subst hA
          clear h01
          go_wp2
          go_meet
          case rel => exact ⟨rfl, H2.out, Frm.refl _ _⟩
      case rest =>
        obtain ⟨rfl, h3, f3⟩ := hcut
        have H3 := Lib.hid h3
        have F3 := Lib.hid (F2.out.trans f3)
        clear d0 d1 d2 d3 d4 d5 d6 H2 F2 HCL f3
        obtain ⟨d0, d1, d2, d3, d4, d5, d6⟩ := h3.cells
        obtain ⟨ab', off', e9, hcell⟩ := h3.byte (by omega)
        injection e9 with e9
        injection e9 with e8 e7
        subst e8; subst e7
        have HCL := Lib.hid hcell
        obtain ⟨r0, hr0⟩ : ∃ r, rep 0 = r := ⟨_, rfl⟩
        obtain ⟨r1, hr1⟩ : ∃ r1, r0 + 1 = r1 := ⟨_, rfl⟩
        have hrb := HREP.out
        rw [hr0] at d6 hrb
        have hr1i : (r0 : Int) + 1 = (r1 : Int) := by omega
        have hr0w : IntKind.i64.wrap (r0 : Int) = (r0 : Int) := Go.IntWalk.i64_in _ (by omega)
        have hr1w : IntKind.i64.wrap (r1 : Int) = (r1 : Int) := Go.IntWalk.i64_in _ (by omega)
        have hFF := HFA.out
        rw [hr0, hr1] at hFF
        have HF1 := Lib.hid hFF
        have hr1p : 1 ≤ r1 := by omega
        clear h3 hcell hr0 hr1 hrb HFA hFF
        go_upto_region 7 with fail
        go_cut [69] from 70 (fun v wx => v = .bool (decide (r1 ≤ pos)) ∧ wx = wc)
        case first =>
          go_wp2
          go_meet
          case rel => exact ⟨by first | rfl | (congr 1; rw [decide_eq_decide]; omega), rfl⟩
        case rest =>
          obtain ⟨rfl, hwx⟩ := hcut
          obtain ⟨w2, hw2⟩ : ∃ w2, w2 = wc := ⟨_, rfl⟩
          subst hw2
          subst hwx
          go_upto_if 69 with fail
          go_cut [5] from 69 (fun v wx => v = .int .u8 FA ∧ WrAt O wx k g (some ⟨ab, off, none⟩) c bs shift pos st rep s1 ∧ Frm (WZ k O g) w2 wx)
          case first =>
            by_cases h01 : r1 ≤ pos
            · have hdt : decide (r1 ≤ pos) = true := decide_eq_true h01
              have hA := HF1.out
              rw [if_pos h01] at hA
              obtain ⟨q, hq⟩ : ∃ q, pos - r1 = q := ⟨_, rfl⟩
              rw [hq] at hA
              have hqi : (pos : Int) - (r1 : Int) = (q : Int) := by omega
              have hqw : IntKind.i64.wrap (q : Int) = (q : Int) := Go.IntWalk.i64_in _ (by omega)
              have hcq := HCL.out q (by omega)
              rw [hA] at hcq
              have hqb : q < bs.length := by omega
              simp only [hdt]
              clear hA h01 hq hdt
              go_wp2
              go_quiet (fail)
              have H4 := Lib.hid (H3.out.drewN nq)
              have F4 : Hid (Frm (WZ k O g) w2 (w2.drewN nq)) := Lib.hid ((Frm.refl _ w2).drewN nq)
              go_wp2
              go_meet
              case rel => exact ⟨rfl, H4.out, F4.out⟩
            · have hdt : decide (r1 ≤ pos) = false := decide_eq_false h01
              have hA := HF1.out
              rw [if_neg h01] at hA
              subst hA
              simp only [hdt]
              clear h01 hdt
              go_wp2
              go_meet
              case rel => exact ⟨rfl, H3.out, Frm.refl _ _⟩
          case rest =>
            obtain ⟨rfl, h4, f4⟩ := hcut
            have H4 := Lib.hid h4
            have F4 := Lib.hid (F3.out.trans f4)
            clear d0 d1 d2 d3 d4 d5 d6 H3 F3 HCL f4
            obtain ⟨d0, d1, d2, d3, d4, d5, d6⟩ := h4.cells
            obtain ⟨ab', off', e9, hcell⟩ := h4.byte (by omega)
            injection e9 with e9
            injection e9 with e8 e7
            subst e8; subst e7
            have hcx := hcell pos hpos
            rw [HX.out] at hcx
            have HD := Lib.hid h4.drew
            have hXw : IntKind.i64.wrap (X : Int) = (X : Int) := Go.IntWalk.i64_in _ (by omega)
            clear h4 hcell
            go_upto_region 9 with fail
            go_cut [102] from 103 (fun v wx => WrAt O wx k g (some ⟨ab, off, none⟩) c bs shift pos st rep s2 ∧ Frm (WZ k O g) w wx)
            case first =>
              go_region_with (first
                | (go_at_call 32; refine (lit_in g.eb O 66 k st tot AH FA rep s1 _ HD.out.lz HK.out ht hah hfa X hXb (by have := HC.out; omega)).mono ?_; rintro e w3 ⟨rfl, h3, f3⟩; rw [HS2.out] at h3))
              all_goals
                have H5 := Lib.hid (HD.out.lzStep h3 f3)
                have F5 := Lib.hid ((F4.out.drew).trans (f3.mono fun q _ e => .inl e))
                clear h3 f3
                go_wp2
                go_meet
                case rel => exact ⟨H5.out, F5.out⟩
            case rest =>
              obtain ⟨h5, f5⟩ := hcut
              have H5 := Lib.hid h5
              have F5 := Lib.hid f5
              clear d0 d1 d2 d3 d4 d5 d6 hcx H4 F4 HD h5 f5
              go_wp2_with fail
              refine (behind_any (IC.keep g.eb O) 66 k st 0 rep s2 _ H5.out.lz hst (by omega)).mono ?_; rintro e w7 ⟨rfl, h7, f7⟩
              have H7 := Lib.hid (H5.out.lzStep h7 f7)
              have F7 := Lib.hid (F5.out.trans (f7.mono fun q _ e => .inl e))
              clear h7 f7
              obtain ⟨q0, q1, q2, q3, -, -, -⟩ := H7.out.cells
              have z3 := H7.out.p.frozen 3
              obtain ⟨p1, hp1⟩ : ∃ p1, pos + 1 = p1 := ⟨_, rfl⟩
              have hp1i : (pos : Int) + 1 = (p1 : Int) := by omega
              have hp1w : IntKind.i64.wrap (p1 : Int) = (p1 : Int) := Go.IntWalk.i64_in _ (by omega)
              have HM := Lib.hid (H7.out.move p1)
              have HP1 := Lib.hid hp1
              clear hp1
              go_wp2
              go_end0
              refine ⟨rfl, ?_, F7.out.trans HM.out.2⟩
              rw [HP1.out]
              exact HM.out.1
end Go.Proofs.Ythcgglacbgjdhaa

/- What a match that is put in makes of the state, in plain Lean. -/
namespace Go.Proofs.Ythcgglacbgjdhaa
open Go.RowKit Rng Win Lz
set_option linter.unusedVariables false
set_option linter.unusedSimpArgs false
/-- Which of the four distances d is; 4: none. -/
def idxOf (rep : Nat → Nat) (d : Nat) : Nat := if rep 0 = d then 0 else if rep 1 = d then 1 else if rep 2 = d then 2 else if rep 3 = d then 3 else 4
theorem idxOf_le (rep : Nat → Nat) (d : Nat) : idxOf rep d ≤ 4 := by unfold idxOf; repeat' split
                                                                     all_goals omega
theorem idxOf_rep {rep : Nat → Nat} {d : Nat} (h : idxOf rep d < 4) : rep (idxOf rep d) = d := by
  unfold idxOf at h ⊢
  split
  · assumption
  · split
    · assumption
    · split
      · assumption
      · split
        · assumption
        · rename_i h0 h1 h2 h3
          rw [if_neg h0, if_neg h1, if_neg h2, if_neg h3] at h
          omega
/-- A repeat that is put in: its index j. -/
def putRep {σ : Type} (co : Cod σ) (st p size j : Nat) (s : CP σ) : CP σ :=
  let a := (bitAt co (212 + st) (if j = 0 then 0 else 1) s).2
  let b := if j = 0 then (bitAt co (248 + st * 16 + p) 1 a).2
    else
      let c := (bitAt co (224 + st) (if j = 1 then 0 else 1) a).2
      if j = 1 then c else (bitAt co (236 + st) (j - 2) c).2
  (lenAt co 1354 size p b).2
/-- A match that is put in, of so many bytes, d + 1 bytes back: the state, the distances, what is then. -/
def putMatch (k : LK) (tot size d st : Nat) (rep : Nat → Nat) (s : CP Enc) : Nat × (Nat → Nat) × CP Enc :=
  let p := tot % 2 ^ k.pb
  let s1 := (bitAt inC (8 + st * 16 + p) 1 s).2
  let j := idxOf rep d
  if j = 4 then
    let s2 := (bitAt inC (200 + st) 0 s1).2
    let s3 := (lenAt inC 840 size p s2).2
    (behS st 1, (fun i => if i = 0 then d else shiftN rep 3 i), (distAt inC d size s3).2)
  else
    let s2 := (bitAt inC (200 + st) 1 s1).2
    (behS st 2, (if j = 0 then rep else takeS rep j), putRep inC st p size j s2)
end Go.Proofs.Ythcgglacbgjdhaa

/- Which of the last four distances one is: the walk. -/
namespace Go.Proofs.Ythcgglacbgjdhaa
open Go.RowKit Rng Lz Win
set_option linter.unusedVariables false
set_option linter.unusedSimpArgs false
/-- What an index of the four tells. -/
def idxV (j : Nat) : Int := if j = 4 then -1 else j
set_option maxRecDepth 100000 in
set_option maxHeartbeats 1000000 in
theorem index_p (w : World) (b c0 : Nat) (rep : Nat → Nat) (d : Nat) (hcell : ∀ j, j < 4 → w.cell? ⟨b, 4 + j, none⟩ = some (.int .u32 (rep j : Int))) (hd : d < 4294967296) :
    Calls Try.prog 34 #[.slice (some ⟨b, 4, none⟩) 4 c0, .int .u32 d] w fun e w' => e = .returned (.int .i64 (idxV (idxOf rep d))) ∧ w = w' := by
  obtain ⟨J, hJ⟩ : ∃ J, idxOf rep d = J := ⟨_, rfl⟩
  rw [hJ]
  have HC := Lib.hid hcell
  have HJ := Lib.hid hJ
  clear hcell hJ
  go_enter Try.func34, Try.ntmps34
  go_wp2
  go_loopw [8] (fun iv wr => ∃ i : Nat, iv = .int .i64 i ∧ i ≤ 4 ∧ wr = w ∧ ∀ j, j < i → rep j ≠ d) (fun iv _ => 4 - (intOf iv).toNat)
  case atStart => exact ⟨0, rfl, by omega, by first | trivial | rfl, fun j hj => by omega⟩
  case round =>
    obtain ⟨i, rfl, hi, hwr, hne⟩ := hrel
    subst hwr
    have HNE := Lib.hid hne
    clear hne
    by_cases hlt : i < 4
    · have hc := HC.out i hlt
      obtain ⟨r, hr⟩ : ∃ r, rep i = r := ⟨_, rfl⟩
      rw [hr] at hc
      by_cases he : d = r
      · subst he
        have hv : J = i := by
          rw [← HJ.out]
          have h0 := HNE.out
          unfold idxOf
          have a : i = 0 ∨ i = 1 ∨ i = 2 ∨ i = 3 := by omega
          rcases a with rfl | rfl | rfl | rfl
          · rw [if_pos hr]
          · rw [if_neg (h0 0 (by omega)), if_pos hr]
          · rw [if_neg (h0 0 (by omega)), if_neg (h0 1 (by omega)), if_pos hr]
          · rw [if_neg (h0 0 (by omega)), if_neg (h0 1 (by omega)), if_neg (h0 2 (by omega)), if_pos hr]
        have hvi : idxV J = (i : Int) := by rw [hv]; unfold idxV; rw [if_neg (by omega)]
        have HVI := Lib.hid hvi
        clear hv hvi hr
        go_wp2
        go_ret
        exact ⟨ret_int' HVI.out.symm, rfl⟩
      · have hei : ((d : Int) == (r : Int)) = false := by rw [beq_eq_false_iff_ne]; omega
        have HNR : Hid (rep i ≠ d) := Lib.hid (by rw [hr]; exact fun e => he e.symm)
        clear he hr
        go_wp2
        refine ⟨⟨i + 1, by go_num, by omega, by first | trivial | rfl, fun j hj => ?_⟩, by simp [intOf]; omega⟩
        by_cases hji : j = i
        · rw [hji]; exact HNR.out
        · exact HNE.out j (by omega)
    · obtain rfl : i = 4 := by omega
      have hv : J = 4 := by
        rw [← HJ.out]
        have h0 := HNE.out
        unfold idxOf
        rw [if_neg (h0 0 (by omega)), if_neg (h0 1 (by omega)), if_neg (h0 2 (by omega)), if_neg (h0 3 (by omega))]
      have hvi : idxV J = -1 := by rw [hv]; rfl
      have HVI := Lib.hid hvi
      clear hv hvi
      go_wp2
      go_ret
      exact ⟨ret_int' HVI.out.symm, rfl⟩
end Go.Proofs.Ythcgglacbgjdhaa

/- A writer within a match: its boxes; which of the four distances it is: the walk. -/
namespace Go.Proofs.Ythcgglacbgjdhaa
open Go.RowKit Rng Lz Win
set_option linter.unusedVariables false
set_option linter.unusedSimpArgs false
theorem IC.narrow {b : Nat} {O : Nat → Prop} {w w' : World} {e : Enc} (h : IC b O w e) (hf : Frm (fun _ => False) w w') (E : Nat → Prop) (hE : ∀ q, E q → w.heap.size ≤ q ∧ q < w'.heap.size) : IC b (fun q => O q ∧ ¬ E q) w' e := by
  obtain ⟨⟨v, hv, hvo⟩, hb, hz, hi⟩ := h
  have hbl := hv.p.lt
  refine ⟨⟨v, ⟨hv.p.frm hf id, hv.o.frm hf (fun q hq => id), hv.k⟩, fun q hq => ⟨hvo q hq, fun e => ?_⟩⟩, ⟨hb, fun e => by have := (hE b e).1; omega⟩, fun q hq => ⟨hz q (Nat.le_trans hf.size hq), fun e => by have := (hE q e).2; omega⟩, hi⟩
  have h1 := (hE q e).1
  rcases hv.o.form with ⟨e2, _⟩ | ⟨g, cap, cur, e2, _, hp, _⟩
  · rw [e2] at hq; cases hq
  · rw [e2] at hq
    have hq' : g = q := by simpa [Value.ownBlock] using hq
    have : g < w.heap.size := Pts.lt hp
    omega
/-- Blocks that are made ahead of the work are not the writer's own. -/
theorem WrAt.narrow {O : Nat → Prop} {w w' : World} {k : LK} {g : WB} {A : Option Addr} {c : Nat} {bs : List UInt8} {shift : Int} {pos st : Nat} {rep : Nat → Nat} {s : CP Enc} (h : WrAt O w k g A c bs shift pos st rep s) (hf : Frm (fun _ => False) w w') (E : Nat → Prop) (hE : ∀ q, E q → w.heap.size ≤ q ∧ q < w'.heap.size) : WrAt (fun q => O q ∧ ¬ E q) w' k g A c bs shift pos st rep s := by
  have h' := h.lzStep (h.lz.later (IC.keep _ _) hf) (hf.mono fun _ _ e => e.elim)
  refine ⟨⟨h.lz.c.narrow hf E hE, h'.lz.m, h'.lz.l, h'.lz.fit, fun e => h'.lz.ne.1 e.1, fun e => h'.lz.ne.2.1 e.1, h'.lz.ne.2.2⟩, h'.p, h'.r, ?_, fun e => h'.x e.1⟩
  intro h0 ad e hz2
  refine h.off h0 ad e ?_
  rcases hz2 with (e1 | e1) | e1
  · exact .inl (.inl e1.1)
  · exact .inl (.inr e1)
  · exact .inr e1
/-- .. and behind the work they are among them again. -/
theorem WrAt.widen {O O' : Nat → Prop} {w w' : World} {k : LK} {g : WB} {A : Option Addr} {c : Nat} {bs : List UInt8} {shift shift' : Int} {pos st pos' st' : Nat} {rep rep' : Nat → Nat} {s s' : CP Enc} (h : WrAt O' w' k g A c bs shift' pos' st' rep' s') (h0 : WrAt O w k g A c bs shift pos st rep s) (hs : ∀ q, O' q → O q) (hz : w.heap.size ≤ w'.heap.size) : WrAt O w' k g A c bs shift' pos' st' rep' s' := by
  obtain ⟨⟨v, hv, hvo⟩, hb, _, hi⟩ := h.lz.c
  exact ⟨⟨⟨⟨v, hv, fun q hq => hs q (hvo q hq)⟩, hs _ hb, fun q hq => h0.lz.c.2.2.1 q (Nat.le_trans hz hq), hi⟩, h.lz.m, h.lz.l, h.lz.fit, h0.lz.ne⟩, h.p, h.r, h0.off, h0.x⟩
/-- A writer within a match: b3 holds the writer, b6 the model. -/
structure MAt (O : Nat → Prop) (w : World) (k : LK) (g : WB) (b3 b6 : Nat) (A : Option Addr) (c : Nat) (bs : List UInt8) (shift : Int) (pos : Nat) (st : Nat) (rep : Nat → Nat) (s : CP Enc) : Prop where
  m : WrAt O w k g A c bs shift pos st rep s
  p3 : Pts w b3 #[.pointer (some ⟨g.xb, 0, none⟩)] 70
  p6 : Pts w b6 #[.pointer (some ⟨k.sb, 0, none⟩)] 71
  o3 : ¬ O b3
  o6 : ¬ O b6
section
variable {O : Nat → Prop} {w w' : World} {k : LK} {g : WB} {b3 b6 : Nat} {A : Option Addr} {c : Nat} {bs : List UInt8} {shift : Int} {pos st : Nat} {rep : Nat → Nat} {s : CP Enc}
theorem MAt.lzStep {st' : Nat} {rep' : Nat → Nat} {s' : CP Enc} (h : MAt O w k g b3 b6 A c bs shift pos st rep s) (hl : LzAt (IC g.eb O) O 66 w' k st' rep' s') (hf : Frm (Wr O k) w w') : MAt O w' k g b3 b6 A c bs shift pos st' rep' s' := by
  refine ⟨h.m.lzStep hl hf, h.p3.frm hf ?_, h.p6.frm hf ?_, h.o3, h.o6⟩
  · rintro (e | e | e)
    · exact h.o3 e
    · exact h.p3.ne_of h.m.lz.m (by decide) e
    · exact h.p3.ne_of h.m.lz.l (by decide) e
  · rintro (e | e | e)
    · exact h.o6 e
    · exact h.p6.ne_of h.m.lz.m (by decide) e
    · exact h.p6.ne_of h.m.lz.l (by decide) e
theorem MAt.drewN (h : MAt O w k g b3 b6 A c bs shift pos st rep s) (n : Nat) : MAt O (w.drewN n) k g b3 b6 A c bs shift pos st rep s := h.lzStep (h.m.lz.later (IC.keep _ _) ((Frm.refl _ w).drewN n)) ((Frm.refl _ w).drewN n)
theorem MAt.drew (h : MAt O w k g b3 b6 A c bs shift pos st rep s) : MAt O w.drew k g b3 b6 A c bs shift pos st rep s := h.lzStep (h.m.lz.later (IC.keep _ _) ((Frm.refl _ w).drew)) ((Frm.refl _ w).drew)
theorem MAt.alloc (h : MAt O w k g b3 b6 A c bs shift pos st rep s) (X : Obj) : MAt O (w.alloc X) k g b3 b6 A c bs shift pos st rep s := h.lzStep (h.m.lz.later (IC.keep _ _) ((Frm.refl _ w).alloc X)) ((Frm.refl _ w).alloc X)
theorem MAt.cells (h : MAt O w k g b3 b6 A c bs shift pos st rep s) : w.cell? ⟨b3, 0, none⟩ = some (.pointer (some ⟨g.xb, 0, none⟩)) ∧ w.cell? ⟨b6, 0, none⟩ = some (.pointer (some ⟨k.sb, 0, none⟩)) ∧ w.cell? ⟨g.xb, 1, none⟩ = some (.pointer (some ⟨g.eb, 0, none⟩)) ∧
    w.cell? ⟨g.xb, 3, none⟩ = some (.int .i64 pos) ∧ w.cell? ⟨g.xb, 4, none⟩ = some (.int .i64 shift) ∧ w.cell? ⟨k.sb, 3, none⟩ = some (.int .i64 st) ∧ w.cell? ⟨g.xb, 0, none⟩ = some (.pointer (some ⟨k.sb, 0, none⟩)) := by
  obtain ⟨d0, d1, -, d3, d4, d5, -⟩ := h.m.cells
  exact ⟨by rw [h.p3.cell]; rfl, by rw [h.p6.cell]; rfl, d1, d3, d4, d5, d0⟩
end
theorem MAt.narrow {O : Nat → Prop} {w w' : World} {k : LK} {g : WB} {b3 b6 : Nat} {A : Option Addr} {c : Nat} {bs : List UInt8} {shift : Int} {pos st : Nat} {rep : Nat → Nat} {s : CP Enc} (h : MAt O w k g b3 b6 A c bs shift pos st rep s) (hf : Frm (fun _ => False) w w') (E : Nat → Prop) (hE : ∀ q, E q → w.heap.size ≤ q ∧ q < w'.heap.size) : MAt (fun q => O q ∧ ¬ E q) w' k g b3 b6 A c bs shift pos st rep s :=
  ⟨h.m.narrow hf E hE, h.p3.frm hf id, h.p6.frm hf id, fun e => h.o3 e.1, fun e => h.o6 e.1⟩
theorem MAt.widen {O O' : Nat → Prop} {w w' : World} {k : LK} {g : WB} {b3 b6 : Nat} {A : Option Addr} {c : Nat} {bs : List UInt8} {shift shift' : Int} {pos st pos' st' : Nat} {rep rep' : Nat → Nat} {s s' : CP Enc} (h : MAt O' w' k g b3 b6 A c bs shift' pos' st' rep' s') (h0 : MAt O w k g b3 b6 A c bs shift pos st rep s) (hs : ∀ q, O' q → O q) (hz : w.heap.size ≤ w'.heap.size) : MAt O w' k g b3 b6 A c bs shift' pos' st' rep' s' :=
  ⟨h.m.widen h0.m hs hz, h.p3, h.p6, h0.o3, h0.o6⟩
/-- Bits by which one of the four is told. -/
def bitsIn (st : Nat) : Nat → List Nat → CP Enc → CP Enc
  | _, [], s => s
  | i, x :: l, s => bitsIn st (i + 1) l (bitAt inC (212 + i * 12 + st) x s).2
set_option maxRecDepth 100000 in
set_option maxHeartbeats 1000000 in
theorem bits_p (O : Nat → Prop) (w : World) (k : LK) (g : WB) (b3 b6 : Nat) (A : Option Addr) (c : Nat) (bs : List UInt8) (shift : Int) (pos st : Nat) (rep : Nat → Nat) (s : CP Enc) (h : MAt O w k g b3 b6 A c bs shift pos st rep s) (hst : st < 12)
    (bl c0 : Nat) (l : List Nat) (hl : l.length ≤ 3) (hl1 : ∀ j, j < l.length → l.getD j 0 ≤ 1) (hcell : ∀ j, j < l.length → w.cell? ⟨bl, j, none⟩ = some (.int .i64 (l.getD j 0 : Int))) (hbl : ¬ Wr O k bl) (hc : s.d.cnt + 3 < 1000000) :
    Calls Try.prog 35 #[.slice (some ⟨bl, 0, none⟩) l.length c0, .pointer (some ⟨b3, 0, none⟩), .pointer (some ⟨b6, 0, none⟩)] w fun e w' => e = .returned (.tuple #[]) ∧ MAt O w' k g b3 b6 A c bs shift pos st rep (bitsIn st 0 l s) ∧ Frm (Wr O k) w w' := by
  obtain ⟨R, hR⟩ : ∃ R, bitsIn st 0 l s = R := ⟨_, rfl⟩
  rw [hR]
  have hbw : 0 < l.length → bl < w.heap.size := fun h0 => World.block_lt_of_cell? w ⟨bl, 0, none⟩ (hcell 0 h0)
  obtain ⟨n, hn⟩ : ∃ n, l.length = n := ⟨_, rfl⟩
  have HH := Lib.hid h
  have HR := Lib.hid hR
  have HCELL := Lib.hid hcell
  have HL1 := Lib.hid hl1
  have HN := Lib.hid hn
  have HBL := Lib.hid (And.intro hbl hbw)
  have hn3 : n ≤ 3 := by omega
  have hc' := hc
  have HCN := Lib.hid hc'
  have hsti : (st : Int) < 12 := by omega
  rw [hn]
  clear h hR hcell hl1 hl hbl hbw hc hc' hn
  go_enter Try.func35, Try.ntmps35
  go_wp2
  go_loopw [8] (fun iv wr => ∃ (i : Nat) (s' : CP Enc), iv = .int .i64 i ∧ i ≤ n ∧ bitsIn st i (l.drop i) s' = R ∧ MAt O wr k g b3 b6 A c bs shift pos st rep s' ∧ s'.d.cnt + (3 - i) < 1000000 ∧ Frm (Wr O k) w wr) (fun iv _ => n - (intOf iv).toNat)
  case atStart => exact ⟨0, s, rfl, by omega, HR.out, HH.out, HCN.out, Frm.refl _ _⟩
  case round =>
    obtain ⟨i, s', rfl, hi, hgo, hm, hcn, hf⟩ := hrel
    have HGO := Lib.hid hgo
    have HM := Lib.hid hm
    have HC := Lib.hid hcn
    have HF := Lib.hid hf
    obtain ⟨d0, d1, d2, -, -, d5, -⟩ := hm.cells
    clear hgo hm hcn hf HH
    by_cases hlt : i < n
    · have hil : i < l.length := by have := HN.out; omega
      have hcx : wr.cell? ⟨bl, i, none⟩ = some (.int .i64 (l.getD i 0 : Int)) := by
        rw [World.cell?_of_block (HF.out.block bl (HBL.out.2 (by omega)) HBL.out.1)]
        exact HCELL.out i hil
      obtain ⟨x, hx⟩ : ∃ x, l.getD i 0 = x := ⟨_, rfl⟩
      have hx1 : x ≤ 1 := by rw [← hx]; exact HL1.out i hil
      have hdrop : l.drop i = x :: l.drop (i + 1) := by
        rw [List.drop_eq_getElem_cons hil, ← hx, List.getD_eq_getElem?_getD, List.getElem?_eq_getElem hil]
        rfl
      rw [hx] at hcx
      obtain ⟨s2, hs2⟩ : ∃ s2, (bitAt inC (212 + i * 12 + st) x s').2 = s2 := ⟨_, rfl⟩
      have hgo2 : bitsIn st (i + 1) (l.drop (i + 1)) s2 = R := by
        have h := HGO.out
        rw [hdrop] at h
        unfold bitsIn at h
        rw [hs2] at h
        exact h
      have hc2 : s2.d.cnt ≤ s'.d.cnt + 1 := by rw [← hs2]; exact cnt_bitIn1 _ _ _
      have HG2 := Lib.hid hgo2
      have HS2 := Lib.hid hs2
      have HC2 := Lib.hid hc2
      have P0 := Lib.hid (plm k (i := 212 + i * 12 + st) (by omega) (by omega))
      have HD := Lib.hid (HM.out.drew)
      have hi3 : (i : Int) < 3 := by omega
      clear hx hdrop hs2 hgo2 hc2 hil HGO
      go_wp2
      go_still_tail 15, (by kernel_rfl)
      change wpList _ _ _ _ _ wr.drew
      go_wp2_with fail
      refine (ibit_lz HD.out.m.lz (by have := HC.out; omega) (212 + i * 12 + st) k.sb (212 + i * 12 + st) x x rfl hx1 P0.out.1 P0.out.2).mono ?_; rintro e w2 ⟨rfl, h2, f2⟩
      rw [HS2.out] at h2
      have H2 := Lib.hid (HD.out.lzStep h2 f2)
      have F2 := Lib.hid ((HF.out.drew).trans f2)
      clear h2 f2 d0 d1 d2 d5 hcx hx1 hsti hi3
      go_wp2
      exact ⟨⟨i + 1, s2, by go_num, by omega, HG2.out, H2.out, by have := HC.out; have := HC2.out; omega, F2.out⟩, by simp [intOf]; omega⟩
    · obtain rfl : i = n := by omega
      have HE : Hid (s' = R) := Lib.hid (by have := HGO.out; rw [← HN.out, List.drop_length] at this; exact this)
      clear d0 d1 d2 d5
      go_wp2
      go_end0
      exact ⟨rfl, HE.out ▸ HM.out, HF.out⟩
end Go.Proofs.Ythcgglacbgjdhaa

/- What a chunk leaves by: the deferred function, and plain chunks. -/
namespace Go.Proofs.Ythcgglacbgjdhaa
open Go.RowKit Rng Lz Win
set_option linter.unusedVariables false
set_option linter.unusedSimpArgs false
/-- A panic that says that a chunk is none. -/
def wrongP (x : Int) : List PanicEntry := [{ v := .iface 122 (.agg #[.int .i64 x]), recovered := false }]
set_option maxRecDepth 100000 in
theorem assert_lzwrong (V : Value) (w : World) : (Instr.typeAssert (.iface 122 V) 20 122 true).run Try.prog w = .ok (.tuple #[V, .bool true]) w := rfl
set_option maxRecDepth 100000 in
theorem chunk_caught (b c : Nat) (x x0 : Int) (tv : Value) (older : List PanicEntry) (w : World) (hb : Pts w b #[tv] 22) (hc : Pts w c #[.int .i64 x0] 25) :
    CallsD Try.prog 47 #[.pointer (some ⟨b, 0, none⟩), .pointer (some ⟨c, 0, none⟩)] (.panicking ({ v := .iface 122 (.agg #[.int .i64 x]), recovered := false } :: older)) w fun e u' w' =>
      e = .returned (.tuple #[]) ∧ u' = .panicking ({ v := .iface 122 (.agg #[.int .i64 x]), recovered := true } :: older) ∧ Pts w' b #[.slice none 0 0] 22 ∧ Pts w' c #[.int .i64 11] 25 ∧ Frm (fun q => q = b ∨ q = c) w w' := by
  refine callsD_of_wpS Try.func47 rfl fun c₀ cs hu => ?_
  apply wpS_seq
  apply wpS_region
  simp [wpOpsS, go_sem, recoverD, hu, Try.ntmps47, Exit.thenS]
  refine wpS_of_wp ?_
  show Code.wp _ _ _ { tmps := #[.pointer (some ⟨b, 0, none⟩), .pointer (some ⟨c, 0, none⟩), undef, undef, undef, .iface 122 (.agg #[.int .i64 x]), undef, undef, undef, undef, undef], defers := [] } w
  have hta := assert_lzwrong (.agg #[.int .i64 x])
  have hne : c ≠ b := hc.ne_of hb (by decide)
  have h1 := hb.alloc (.cells #[.int .i64 x] 122)
  have h2 := hc.alloc (.cells #[.int .i64 x] 122)
  have z1 := h1.frozen 0
  have c1 := h1.cell 0
  have h3 := h2.other (p := ⟨b, 0, none⟩) hne (.slice none 0 0)
  have z3 := h3.frozen 0
  have c3 := h3.cell 0
  have hr1 := (h1.set 0 (.slice none 0 0)).other (p := ⟨c, 0, none⟩) hne.symm (.int .i64 11)
  have hr2 := h3.set 0 (.int .i64 11)
  have hf : Frm (fun q => q = b ∨ q = c) w (((w.alloc (.cells #[.int .i64 x] 122)).setCell ⟨b, 0, none⟩ (.slice none 0 0)).setCell ⟨c, 0, none⟩ (.int .i64 11)) := (((Frm.refl _ w).alloc _).setCell (.inl rfl) _).setCell (.inr rfl) _
  have HR1 := Lib.hid hr1
  have HR2 := Lib.hid hr2
  have HF := Lib.hid hf
  clear h1 h2 h3 hr1 hr2 hf hb hc
  go_wp2
  refine ⟨rfl, _, rfl, _, results_none rfl _ _ _, rfl, rfl, HR1.out, HR2.out, HF.out⟩
set_option maxRecDepth 100000 in
theorem chunk_idle (b c : Nat) (w : World) : CallsD Try.prog 47 #[.pointer (some ⟨b, 0, none⟩), .pointer (some ⟨c, 0, none⟩)] .returning w fun e u' w' => e = .returned (.tuple #[]) ∧ u' = .returning ∧ w' = w := by
  refine callsD_of_wpS Try.func47 rfl fun c₀ cs hu => ?_
  apply wpS_seq
  apply wpS_region
  simp [wpOpsS, go_sem, recoverD, hu, Try.ntmps47, Exit.thenS]
  refine wpS_of_wp ?_
  show Code.wp _ _ _ { tmps := #[.pointer (some ⟨b, 0, none⟩), .pointer (some ⟨c, 0, none⟩), undef, undef, undef, .nilIface, undef, undef, undef, undef, undef], defers := [] } w
  go_wp2
  refine ⟨rfl, .returning, by cases c₀; simp at hu; subst hu; rfl, _, results_none rfl _ _ _, rfl, rfl, rfl⟩
end Go.Proofs.Ythcgglacbgjdhaa

/- A chunk: what is refused ahead of all. -/
namespace Go.Proofs.Ythcgglacbgjdhaa
open Go.RowKit Rng Lz Win
set_option linter.unusedVariables false
set_option linter.unusedSimpArgs false
theorem two_new (w : World) (v x : Value) (T U : TypeId) : Pts ((w.alloc (.cells #[v] T)).alloc (.cells #[x] U)) w.heap.size #[v] T ∧ Pts ((w.alloc (.cells #[v] T)).alloc (.cells #[x] U)) (w.heap.size + 1) #[x] U ∧ Below w.heap.size w ((w.alloc (.cells #[v] T)).alloc (.cells #[x] U)) ∧ ((w.alloc (.cells #[v] T)).alloc (.cells #[x] U)).heap.size = w.heap.size + 2 := by
  have hsz : (w.alloc (.cells #[v] T)).heap.size = w.heap.size + 1 := by show (w.heap.push _).size = _; rw [Array.size_push]
  have P1 : Pts ((w.alloc (.cells #[v] T)).alloc (.cells #[x] U)) (w.alloc (.cells #[v] T)).heap.size #[x] U := Pts.new _ _ _
  rw [hsz] at P1
  have hs2 : ((w.alloc (.cells #[v] T)).alloc (.cells #[x] U)).heap.size = (w.alloc (.cells #[v] T)).heap.size + 1 := by show ((w.alloc (.cells #[v] T)).heap.push _).size = _; rw [Array.size_push]
  exact ⟨(Pts.new w #[v] T).alloc _, P1, ((Below.refl _ w).alloc (Nat.le_refl _) _).alloc (by rw [hsz]; omega) _, by rw [hs2, hsz]⟩
set_option maxRecDepth 100000 in
set_option maxHeartbeats 1000000 in
theorem chunk_nil_s (w : World) (wp : Option Addr) (total n : Int) (A : Option Addr) (l c : Nat) :
    Calls Try.prog 26 #[.pointer none, .pointer wp, .int .i64 total, .slice A l c, .int .i64 n] w fun e w' => e = .returned (.tuple #[.slice none 0 0, .int .i64 1]) ∧ Below w.heap.size w w' := by
  have P := Lib.hid (two_new w (.slice none 0 0) (.int .i64 1) 22 25)
  go_enter_defers Try.func26, Try.ntmps26
  go_wp2
  go_step3
  go_wp2
  simp only [Exit.noGoto_ret]
  go_wp2
  have c0 := P.out.1.cell 0
  have c1 := P.out.2.1.cell 0
  simp [bodyPostD, Leaves, settle, results, Try.results26, go_sem, c0, c1]
  exact P.out.2.2.1
set_option maxRecDepth 100000 in
set_option maxHeartbeats 1000000 in
theorem chunk_nil_w (w : World) (sp : Addr) (total n : Int) (A : Option Addr) (l c : Nat) :
    Calls Try.prog 26 #[.pointer (some sp), .pointer none, .int .i64 total, .slice A l c, .int .i64 n] w fun e w' => e = .returned (.tuple #[.slice none 0 0, .int .i64 1]) ∧ Below w.heap.size w w' := by
  have P := Lib.hid (two_new w (.slice none 0 0) (.int .i64 1) 22 25)
  go_enter_defers Try.func26, Try.ntmps26
  go_wp2
  go_step3
  go_wp2
  simp only [Exit.noGoto_ret]
  go_wp2
  have c0 := P.out.1.cell 0
  have c1 := P.out.2.1.cell 0
  simp [bodyPostD, Leaves, settle, results, Try.results26, go_sem, c0, c1]
  exact P.out.2.2.1
set_option maxRecDepth 100000 in
set_option maxHeartbeats 1000000 in
theorem chunk_arg (w : World) (sp wp : Addr) (total n : Int) (A : Option Addr) (l c : Nat) (h : n < 1 ∨ 2097152 < n ∨ total < 0) :
    Calls Try.prog 26 #[.pointer (some sp), .pointer (some wp), .int .i64 total, .slice A l c, .int .i64 n] w fun e w' => e = .returned (.tuple #[.slice none 0 0, .int .i64 2]) ∧ Below w.heap.size w w' := by
  have P := Lib.hid (two_new w (.slice none 0 0) (.int .i64 2) 22 25)
  have h3 : n < 1 ∨ (1 ≤ n ∧ 2097152 < n) ∨ (1 ≤ n ∧ n ≤ 2097152 ∧ total < 0) := by omega
  clear h
  rcases h3 with h | ⟨h, h1⟩ | ⟨h, h1, h2⟩
  all_goals
    go_enter_defers Try.func26, Try.ntmps26
    go_wp2
    go_step3
    go_wp2
    simp only [Exit.noGoto_ret]
    go_wp2
    have c0 := P.out.1.cell 0
    have c1 := P.out.2.1.cell 0
    simp [bodyPostD, Leaves, settle, results, Try.results26, go_sem, c0, c1]
    exact P.out.2.2.1
set_option maxRecDepth 100000 in
set_option maxHeartbeats 1000000 in
theorem chunk_bad (w : World) (sp wp : Addr) (total n : Int) (A : Option Addr) (bs : List UInt8) (l c : Nat) (h1 : 1 ≤ n) (h2 : n ≤ 2097152) (h3 : 0 ≤ total) (hn : l = bs.length) (hr : BRow w w.heap.size A bs) (hc : bs.length ≤ c) (hcm : c ≤ maxLen) (h : newErr bs ≠ 0) :
    Calls Try.prog 26 #[.pointer (some sp), .pointer (some wp), .int .i64 total, .slice A l c, .int .i64 n] w fun e w' => e = .returned (.tuple #[.slice none 0 0, .int .i64 11]) ∧ Below w.heap.size w w' := by
  subst hn
  have P := Lib.hid (two_new w (.slice none 0 0) (.int .i64 11) 22 25)
  obtain ⟨p0, p1, hb, hs⟩ := two_new w (.slice none 0 0) (.int .i64 0) 22 25
  have HR := Lib.hid ((hr.below hb).more (Nat.le_of_lt_succ (by omega) : w.heap.size ≤ ((w.alloc (.cells #[.slice none 0 0] 22)).alloc (.cells #[.int .i64 0] 25)).heap.size))
  have HB := Lib.hid (dnew_bad_p A bs bs.length c _ _ rfl HR.out hc hcm h)
  obtain ⟨x, hx⟩ : ∃ x, newErr bs = x := ⟨_, rfl⟩
  rw [hx] at HB h
  clear hr hb hs hx p0 p1
  go_enter_defers Try.func26, Try.ntmps26
  go_wp2
  go_step3
  go_wp2_with fail
  refine Calls.mono HB.out ?_; rintro e w1 ⟨rfl, rfl⟩
  go_wp2
  simp only [Exit.noGoto_ret]
  go_wp2
  have c0 := P.out.1.cell 0
  have c1 := P.out.2.1.cell 0
  simp [bodyPostD, Leaves, settle, results, Try.results26, go_sem, c0, c1]
  exact P.out.2.2.1
end Go.Proofs.Ythcgglacbgjdhaa

/- A match that is written: its boxes, Take at 0, the bits of a literal list. -/
namespace Go.Proofs.Ythcgglacbgjdhaa
open Go.RowKit Rng Lz Win
set_option linter.unusedVariables false
set_option linter.unusedSimpArgs false
theorem two_boxes {O : Nat → Prop} {w : World} {k : LK} {g : WB} {A : Option Addr} {c : Nat} {bs : List UInt8} {shift : Int} {pos st : Nat} {rep : Nat → Nat} {s : CP Enc} (h : WrAt O w k g A c bs shift pos st rep s) :
    MAt (fun q => O q ∧ ¬ (q = w.heap.size ∨ q = w.heap.size + 1)) ((w.alloc (.cells #[.pointer (some ⟨g.xb, 0, none⟩)] 70)).alloc (.cells #[.pointer (some ⟨k.sb, 0, none⟩)] 71)) k g w.heap.size (w.heap.size + 1) A c bs shift pos st rep s ∧
      Frm (fun _ => False) w ((w.alloc (.cells #[.pointer (some ⟨g.xb, 0, none⟩)] 70)).alloc (.cells #[.pointer (some ⟨k.sb, 0, none⟩)] 71)) := by
  obtain ⟨p0, p1, _, hs⟩ := two_new w (.pointer (some ⟨g.xb, 0, none⟩)) (.pointer (some ⟨k.sb, 0, none⟩)) 70 71
  have hf : Frm (fun _ => False) w ((w.alloc (.cells #[.pointer (some ⟨g.xb, 0, none⟩)] 70)).alloc (.cells #[.pointer (some ⟨k.sb, 0, none⟩)] 71)) := ((Frm.refl _ w).alloc _).alloc _
  exact ⟨⟨h.narrow hf (fun q => q = w.heap.size ∨ q = w.heap.size + 1) (fun q hq => by rcases hq with e | e <;> omega), p0, p1, fun e => e.2 (.inl rfl), fun e => e.2 (.inr rfl)⟩, hf⟩
theorem LzAt.rep_cell {σ : Type} {CA : World → σ → Prop} {own : Nat → Prop} {T : TypeId} {w : World} {k : LK} {st : Nat} {rep : Nat → Nat} {s : CP σ} (h : LzAt CA own T w k st rep s) {j : Nat} (hj : j < 4) : w.cell? ⟨k.sb, 4 + j, none⟩ = some (.int .u32 (rep j : Int)) := by
  rw [(h.hdr (i := 4 + j) (by omega)).1]
  unfold mcell
  rw [if_neg (by omega), if_neg (by omega), if_neg (by omega), if_neg (by omega), if_pos (by omega), Nat.add_sub_cancel_left]
theorem index_num (w : World) (b c0 : Nat) (rep : Nat → Nat) (d : Nat) (z : Int) (hz : idxV (idxOf rep d) = z) (hcell : ∀ j, j < 4 → w.cell? ⟨b, 4 + j, none⟩ = some (.int .u32 (rep j : Int))) (hd : d < 4294967296) :
    Calls Try.prog 34 #[.slice (some ⟨b, 4, none⟩) 4 c0, .int .u32 d] w fun e w' => e = .returned (.int .i64 z) ∧ w = w' := by
  subst hz
  exact index_p w b c0 rep d hcell hd
theorem takeS_zero (rep : Nat → Nat) : takeS rep 0 = rep := by
  funext j
  unfold takeS shiftN
  by_cases h : j = 0
  · rw [if_pos h, h]
  · rw [if_neg h, if_neg (by omega)]
theorem shiftN_zero (rep : Nat → Nat) : shiftN rep 0 = rep := by
  funext j
  unfold shiftN
  rw [if_neg (by omega)]
set_option maxRecDepth 100000 in
set_option maxHeartbeats 1000000 in
theorem take_zero {σ : Type} {CA : World → σ → Prop} {own : Nat → Prop} (hk : KeepOK CA own) (T : TypeId) (k : LK) (st : Nat) (rep : Nat → Nat) (s : CP σ) (w : World) (h : LzAt CA own T w k st rep s) :
    Calls Try.prog 38 #[.pointer (some ⟨k.sb, 0, none⟩), .int .i64 0] w fun e w' => e = .returned (.tuple #[]) ∧ LzAt CA own T w' k st (takeS rep 0) s ∧ Frm (Wr own k) w w' := by
  have cn : w.cell? ⟨k.sb, 4, none⟩ = some (.int .u32 (rep 0)) := h.rep_cell (j := 0) (by omega)
  have AT := Lib.hid h
  obtain ⟨d, hd⟩ : ∃ d, rep 0 = d := ⟨_, rfl⟩
  rw [hd] at cn
  have HD := Lib.hid hd
  clear h hd
  go_enter Try.func38, Try.ntmps38
  go_wp2
  refine QTail.wp_region_qtail_lit 11 (by kernel_rfl) (by kernel_rfl) ?_
  simp only [List.take_succ_cons, List.take_zero, List.drop_succ_cons, List.drop_zero]
  repeat (go_big_quiet_step (fail))
  refine wpQuiet_nil ?_
  rintro w' ⟨nr, rfl⟩
  obtain ⟨w5, hrun, h5, f5⟩ := rep_copy hk (AT.out.later hk ((Frm.refl _ w).drewN nr)) 0 3 4 3 (by omega)
  have z := (h5.hdr (i := 4) (by omega))
  unfold mcell at z
  have z1 := z.1
  have z2 := z.2
  simp only [Nat.reduceEqDiff, if_false, Nat.reduceLT, if_true, Nat.reduceSub] at z1
  have h6 := h5.putRep 0 d (by omega) hk
  have e6 : (fun j => if j = 0 then d else shiftN rep 0 j) = takeS rep 0 := by
    funext j
    unfold takeS
    rw [HD.out]
  rw [e6] at h6
  have H6 := Lib.hid h6
  have F5 := Lib.hid (((Frm.refl _ w).drewN nr).trans f5)
  clear h5 f5 h6 z e6
  go_wp2
  go_end0
  exact ⟨rfl, H6.out.1, F5.out.trans H6.out.2⟩
theorem take_num {σ : Type} {CA : World → σ → Prop} {own : Nat → Prop} (hk : KeepOK CA own) (T : TypeId) (k : LK) (st n : Nat) (z : Int) (rep : Nat → Nat) (s : CP σ) (w : World) (hz : z = (n : Int)) (h : LzAt CA own T w k st rep s) (hn : n ≤ 3) :
    Calls Try.prog 38 #[.pointer (some ⟨k.sb, 0, none⟩), .int .i64 z] w fun e w' => e = .returned (.tuple #[]) ∧ LzAt CA own T w' k st (takeS rep n) s ∧ Frm (Wr own k) w w' := by
  subst hz
  by_cases h0 : n = 0
  · subst h0
    exact take_zero hk T k st rep s w h
  · exact take_any hk T k st n rep s w h (by omega)
theorem cnt_bits (st : Nat) : ∀ (i : Nat) (l : List Nat) (s : CP Enc), l.length ≤ 3 → (bitsIn st i l s).d.cnt ≤ s.d.cnt + 3
  | i, [], s, _ => by unfold bitsIn; omega
  | i, [a], s, _ => by unfold bitsIn bitsIn; have := cnt_bitIn1 (212 + i * 12 + st) a s; omega
  | i, [a, b], s, _ => by
    unfold bitsIn bitsIn bitsIn
    have h1 := cnt_bitIn1 (212 + i * 12 + st) a s
    have h2 := cnt_bitIn1 (212 + (i + 1) * 12 + st) b (bitAt inC (212 + i * 12 + st) a s).2
    omega
  | i, [a, b, c], s, _ => by
    unfold bitsIn bitsIn bitsIn bitsIn
    have h1 := cnt_bitIn1 (212 + i * 12 + st) a s
    have h2 := cnt_bitIn1 (212 + (i + 1) * 12 + st) b (bitAt inC (212 + i * 12 + st) a s).2
    have h3 := cnt_bitIn1 (212 + (i + 1 + 1) * 12 + st) c (bitAt inC (212 + (i + 1) * 12 + st) b (bitAt inC (212 + i * 12 + st) a s).2).2
    omega
  | i, _ :: _ :: _ :: _ :: _, s, h => absurd h (by simp)
def litCells (l : List Nat) : Array Value := (l.map fun x : Nat => Value.int .i64 (x : Int)).toArray
theorem litCells_get (l : List Nat) {j : Nat} (h : j < l.length) : (litCells l)[j]? = some (.int .i64 (l.getD j 0 : Int)) := by
  unfold litCells
  rw [List.getElem?_toArray, List.getElem?_map, List.getElem?_eq_getElem h, List.getD_eq_getElem?_getD, List.getElem?_eq_getElem h]
  rfl
/-- The bits of a list that stands in the text. -/
theorem bits_lit (O : Nat → Prop) (w : World) (k : LK) (g : WB) (b3 b6 : Nat) (A : Option Addr) (c : Nat) (bs : List UInt8) (shift : Int) (pos st : Nat) (rep : Nat → Nat) (s : CP Enc) (h : MAt O w k g b3 b6 A c bs shift pos st rep s) (hst : st < 12)
    (l : List Nat) (hl : l.length ≤ 3) (hl1 : ∀ x ∈ l, x ≤ 1) (hc : s.d.cnt + 3 < 1000000) :
    Calls Try.prog 35 #[.slice (some ⟨w.heap.size, 0, none⟩) l.length l.length, .pointer (some ⟨b3, 0, none⟩), .pointer (some ⟨b6, 0, none⟩)] (w.alloc (.cells (litCells l) 3)) fun e w' => e = .returned (.tuple #[]) ∧ MAt O w' k g b3 b6 A c bs shift pos st rep (bitsIn st 0 l s) ∧ Frm (Wr O k) w w' := by
  have hf : Frm (fun _ => False) w (w.alloc (.cells (litCells l) 3)) := (Frm.refl _ w).alloc _
  have hsz : (w.alloc (.cells (litCells l) 3)).heap.size = w.heap.size + 1 := by show (w.heap.push _).size = _; rw [Array.size_push]
  have h1 := h.narrow hf (fun q => q = w.heap.size) (fun q e => by omega)
  have hp := Pts.new w (litCells l) 3
  refine (bits_p (fun q => O q ∧ ¬ q = w.heap.size) (w.alloc (.cells (litCells l) 3)) k g b3 b6 A c bs shift pos st rep s h1 hst w.heap.size l.length l hl (fun j hj => by
    rw [List.getD_eq_getElem?_getD, List.getElem?_eq_getElem hj]
    exact hl1 _ (List.getElem_mem hj)) (fun j hj => by rw [hp.cell, litCells_get l hj]) (by
    rintro (e | e | e)
    · exact e.2 rfl
    · have := h.m.lz.m.lt; omega
    · have := h.m.lz.l.lt; omega) hc).mono ?_
  rintro e w' ⟨rfl, h2, f2⟩
  refine ⟨rfl, h2.widen h (fun q hq => hq.1) (by have := f2.size; omega), (hf.mono fun _ _ e => e.elim).trans (f2.mono fun q _ e => ?_)⟩
  rcases e with e | e
  · exact .inl e.1
  · exact .inr e
end Go.Proofs.Ythcgglacbgjdhaa

/- A match that is written: its distance is none of the last four: the walk (gen_lpm.py). -/
namespace Go.Proofs.Ythcgglacbgjdhaa
open Go.RowKit Rng Lz Win
set_option linter.unusedVariables false
set_option linter.unusedSimpArgs false
set_option maxRecDepth 100000 in
set_option maxHeartbeats 4000000 in
theorem putmatch_fresh (O : Nat → Prop) (w : World) (k : LK) (g : WB) (A : Option Addr) (c : Nat) (bs : List UInt8) (shift : Int) (pos tot st : Nat) (rep : Nat → Nat) (s : CP Enc) (h : WrAt O w k g A c bs shift pos st rep s) (hk : k.Ok) (htot : (pos : Int) + shift = (tot : Int)) (ht : tot < 4611686018427387904)
    (size back d : Nat) (h2 : 2 ≤ size) (hs : size ≤ 273) (hbd : back = d + 1) (hd : d < 4294967296) (hpos : pos + size ≤ 140737488355328) (hst : st < 12) (hrep : ∀ j, rep j < 4294967296) (hc : s.d.cnt + 100 < 1000000) (hj : idxOf rep d = 4) :
    Calls Try.prog 18 #[.pointer (some ⟨g.xb, 0, none⟩), .int .i64 size, .int .i64 back] w fun e w' => e = .returned (.tuple #[]) ∧ WrAt O w' k g A c bs shift (pos + size) (putMatch k tot size d st rep s).1 (putMatch k tot size d st rep s).2.1 (putMatch k tot size d st rep s).2.2 ∧ Frm (WZ k O g) w w' := by
  obtain ⟨p, hp⟩ : ∃ p, tot % 2 ^ k.pb = p := ⟨_, rfl⟩
  have hp16 : p < 16 := by
    have h1 : 2 ^ k.pb ≤ 2 ^ 4 := Nat.pow_le_pow_right (by omega) hk.b
    have h2 : tot % 2 ^ k.pb < 2 ^ k.pb := Nat.mod_lt _ (Nat.lt_of_lt_of_le (by omega) (Nat.one_le_two_pow))
    omega
  obtain ⟨s1, hs1⟩ : ∃ s1, (bitAt inC (8 + st * 16 + p) 1 s).2 = s1 := ⟨_, rfl⟩
  have hc1 : s1.d.cnt ≤ s.d.cnt + 1 := by rw [← hs1]; exact cnt_bitIn1 _ _ _
  obtain ⟨s2, hs2⟩ : ∃ s2, (bitAt inC (200 + st) 0 s1).2 = s2 := ⟨_, rfl⟩
  have hc2 : s2.d.cnt ≤ s1.d.cnt + 1 := by rw [← hs2]; exact cnt_bitIn1 _ _ _
  obtain ⟨s3, hs3⟩ : ∃ s3, (lenAt inC 840 size p s2).2 = s3 := ⟨_, rfl⟩
  have hc3 : s3.d.cnt ≤ s2.d.cnt + 10 := by rw [← hs3]; exact cnt_len _ _ _ _
  obtain ⟨s4, hs4⟩ : ∃ s4, (distAt inC d size s3).2 = s4 := ⟨_, rfl⟩
  obtain ⟨rep4, hrep4⟩ : ∃ r : Nat → Nat, (fun i => if i = 0 then d else shiftN rep 3 i) = r := ⟨_, rfl⟩
  have hput : putMatch k tot size d st rep s = (behS st 1, rep4, s4) := by unfold putMatch; simp only; rw [hp, hs1, hs2, hs3, hs4, hrep4, if_pos hj]
  have HS2 := Lib.hid hs2
  have HS3 := Lib.hid hs3
  have HS4 := Lib.hid hs4
  have HR4 := Lib.hid hrep4
  have HPUT := Lib.hid hput
  have HH := Lib.hid h
  have HB := Lib.hid (two_boxes h)
  have hXO := h.x
  have e0 : (w.alloc (.cells #[.pointer (some ⟨g.xb, 0, none⟩)] 70)).cell? ⟨g.xb, 0, none⟩ = some (.pointer (some ⟨k.sb, 0, none⟩)) := (h.alloc _).cells.1
  have HPL := Lib.hid (fun (w1 : World) (O1 : Nat → Prop) (h1 : LzAt (IC g.eb O1) O1 66 w1 k st rep s) => place_any 66 k st tot rep s w1 h1 hk ht)
  rw [hp] at HPL
  have P0 := Lib.hid (plm k (i := 8 + st * 16 + p) (by omega) (by omega))
  have P1 := Lib.hid (plm k (i := 200 + st) (by omega) (by omega))
  have HS1 := Lib.hid hs1
  have HREP := Lib.hid hrep
  have HK := Lib.hid hk
  have hsti : (st : Int) < 12 := by omega
  have hpi : (p : Int) < 16 := by omega
  have htw : IntKind.i64.wrap (tot : Int) = (tot : Int) := Go.IntWalk.i64_in _ (by omega)
  have hbk : (back : Int) - 1 = (d : Int) := by omega
  have hdw : IntKind.i64.wrap (d : Int) = (d : Int) := Go.IntWalk.i64_in _ (by omega)
  have hdu : IntKind.u32.wrap (d : Int) = (d : Int) := Go.IntWalk.u32_in _ (by omega)
  obtain ⟨pe, hpe⟩ : ∃ pe, pos + size = pe := ⟨_, rfl⟩
  have hpei : (pos : Int) + (size : Int) = (pe : Int) := by omega
  have hpew : IntKind.i64.wrap (pe : Int) = (pe : Int) := Go.IntWalk.i64_in _ (by omega)
  have hzi : idxV (idxOf rep d) = -1 := by rw [hj]; rfl
  have HZ := Lib.hid hzi
  have HDB := Lib.hid hd
  rw [hput, hpe]
  clear h hk ht hrep hp hbd hd hpos hpe hj hzi hput hs1 hs2 hs3 hs4 hrep4
  have HC := Lib.hid (And.intro hc (And.intro hc1 (And.intro hc2 hc3)))
  clear hc hc1 hc2 hc3
  go_enter Try.func18, Try.ntmps18
  go_upto_region 2 with fail
  obtain ⟨w2, hw2⟩ : ∃ w2, (w.alloc (.cells #[.pointer (some ⟨g.xb, 0, none⟩)] 70)).alloc (.cells #[.pointer (some ⟨k.sb, 0, none⟩)] 71) = w2 := ⟨_, rfl⟩
  obtain ⟨b6, hb6⟩ : ∃ b, w.heap.size + 1 = b := ⟨_, rfl⟩
  obtain ⟨b3, hb3⟩ : ∃ b, w.heap.size = b := ⟨_, rfl⟩
  obtain ⟨O2, hO2⟩ : ∃ O2 : Nat → Prop, (fun q => O q ∧ ¬ (q = b3 ∨ q = b6)) = O2 := ⟨_, rfl⟩
  have hB := HB.out
  have HO2 : Hid (∀ q, O2 q → O q) := Lib.hid (fun q hq => by rw [← hO2] at hq; exact hq.1)
  rw [hw2, hb6, hb3, hO2] at hB
  rw [hw2, hb6, hb3]
  have H2 := Lib.hid hB.1
  have F20 := Lib.hid hB.2
  have F2 : Hid (Frm (Wr O2 k) w2 w2) := Lib.hid (Frm.refl _ _)
  clear hB HB e0 hw2 hb6 hb3 hO2
  obtain ⟨c3, c6, x1, x3, x4, y3, x0⟩ := H2.out.cells
  have HD := Lib.hid H2.out.drew
  have FD : Hid (Frm (Wr O2 k) w2 w2.drew) := Lib.hid (F2.out.drew)
  go_still_tail 10, (by kernel_rfl)
  change wpList _ _ _ _ _ w2.drew
  go_wp2_with fail
  refine (HPL.out _ _ HD.out.m.lz).mono ?_; rintro e w3 ⟨rfl, rfl⟩
  have H3 := Lib.hid HD.out
  have F3 := Lib.hid FD.out
  obtain ⟨w3, hw3⟩ : ∃ w3, w2.drew = w3 := ⟨_, rfl⟩
  rw [hw3] at H3 F3 ⊢
  clear HD FD H2 F2 hw3 htot htw HPL
  clear c3 c6 x1 x3 x4 y3 x0
  obtain ⟨c3, c6, x1, x3, x4, y3, x0⟩ := H3.out.cells
  go_upto_region 3 with fail
  have HD := Lib.hid H3.out.drew
  have FD : Hid (Frm (Wr O2 k) w2 w3.drew) := Lib.hid (F3.out.drew)
  go_still_tail 14, (by kernel_rfl)
  change wpList _ _ _ _ _ w3.drew
  go_wp2_with fail
  refine (ibit_lz HD.out.m.lz (by have := HC.out; omega) (8 + st * 16 + p) k.sb (8 + st * 16 + p) 1 _ rfl (by omega) P0.out.1 P0.out.2).mono ?_; rintro e w4 ⟨rfl, h0, f0⟩
  rw [HS1.out] at h0
  have H4 := Lib.hid (HD.out.lzStep h0 f0)
  have F4 := Lib.hid (FD.out.trans f0)
  clear h0 f0 HD FD H3 F3
  clear c3 c6 x1 x3 x4 y3 x0
  obtain ⟨c3, c6, x1, x3, x4, y3, x0⟩ := H4.out.cells
  go_wp2_with fail
  refine (index_num w4 k.sb 4 rep d _ HZ.out (fun j hj => (H4.out.m.lz.rep_cell hj)) HDB.out).mono ?_; rintro e w5 ⟨rfl, hw5⟩
  subst hw5
  go_upto_region 10 with fail
  have HD := Lib.hid H4.out.drew
  have FD : Hid (Frm (Wr O2 k) w2 w4.drew) := Lib.hid (F4.out.drew)
  go_still_tail 12, (by kernel_rfl)
  change wpList _ _ _ _ _ w4.drew
  go_wp2_with fail
  refine (ibit_lz HD.out.m.lz (by have := HC.out; omega) (200 + st) k.sb (200 + st) 0 _ rfl (by omega) P1.out.1 P1.out.2).mono ?_; rintro e w5 ⟨rfl, h0, f0⟩
  rw [HS2.out] at h0
  have H5 := Lib.hid (HD.out.lzStep h0 f0)
  have F5 := Lib.hid (FD.out.trans f0)
  clear h0 f0 HD FD H4 F4
  clear c3 c6 x1 x3 x4 y3 x0
  obtain ⟨c3, c6, x1, x3, x4, y3, x0⟩ := H5.out.cells
  go_upto_region 11 with fail
  refine QTail.wp_region_qtail_lit 8 (by kernel_rfl) (by kernel_rfl) ?_
  simp only [List.take_succ_cons, List.take_zero, List.drop_succ_cons, List.drop_zero]
  repeat (go_big_quiet_step (fail))
  refine wpQuiet_nil ?_
  rintro w' ⟨nr, rfl⟩
  have HD := Lib.hid (H5.out.drewN nr)
  have FD : Hid (Frm (Wr O2 k) w2 (w5.drewN nr)) := Lib.hid (F5.out.drewN nr)
  obtain ⟨w6, hrun, h6, f6⟩ := rep_copy (IC.keep g.eb O2) HD.out.m.lz 3 3 4 3 (by omega)
  have H6 := Lib.hid (HD.out.lzStep h6 f6)
  have F6 := Lib.hid (FD.out.trans f6)
  clear h6 f6 HD FD H5 F5
  clear c3 c6 x1 x3 x4 y3 x0
  obtain ⟨c3, c6, x1, x3, x4, y3, x0⟩ := H6.out.cells
  have y4 := (H6.out.m.lz.hdr (i := 4) (by omega)).2
  have v4 : w6.cell? ⟨k.sb, 4, none⟩ = some (.int .u32 (shiftN rep 3 0 : Int)) := H6.out.m.lz.rep_cell (j := 0) (by omega)
  have h7 := H6.out.m.lz.putRep 0 d (by omega) (IC.keep g.eb O2)
  rw [HR4.out] at h7
  have H7 := Lib.hid (H6.out.lzStep h7.1 h7.2)
  have F7 := Lib.hid (F6.out.trans h7.2)
  clear h7
  go_upto_region 13 with fail
  clear hrun y4 v4
  generalize w6.setCell ⟨k.sb, 4, none⟩ (.int .u32 (d : Int)) = w7 at *
  clear H6 F6
  clear c3 c6 x1 x3 x4 y3 x0
  obtain ⟨c3, c6, x1, x3, x4, y3, x0⟩ := H7.out.cells
  have HD := Lib.hid H7.out.drew
  have FD : Hid (Frm (Wr O2 k) w2 w7.drew) := Lib.hid (F7.out.drew)
  go_still_tail 10, (by kernel_rfl)
  change wpList _ _ _ _ _ w7.drew
  go_wp2_with fail
  refine (lens_in g.eb O2 66 k _ _ _ 840 size p _ HD.out.m.lz (.inl rfl) hp16 h2 hs (by have := HC.out; omega)).mono ?_; rintro e w8 ⟨rfl, h0, f0⟩
  rw [HS3.out] at h0
  have H8 := Lib.hid (HD.out.lzStep h0 f0)
  have F8 := Lib.hid (FD.out.trans f0)
  clear h0 f0 HD FD H7 F7
  clear c3 c6 x1 x3 x4 y3 x0
  obtain ⟨c3, c6, x1, x3, x4, y3, x0⟩ := H8.out.cells
  go_wp2_with fail
  have HD := H8
  have FD := F8
  refine (behind_any (IC.keep g.eb O2) 66 k st 1 _ _ _ HD.out.m.lz hst (by omega)).mono ?_; rintro e w9 ⟨rfl, h0, f0⟩
  have H9 := Lib.hid (HD.out.lzStep h0 f0)
  have F9 := Lib.hid (FD.out.trans f0)
  clear h0 f0 HD FD H8 F8
  clear c3 c6 x1 x3 x4 y3 x0
  obtain ⟨c3, c6, x1, x3, x4, y3, x0⟩ := H9.out.cells
  go_upto_region 15 with fail
  have HD := Lib.hid H9.out.drew
  have FD : Hid (Frm (Wr O2 k) w2 w9.drew) := Lib.hid (F9.out.drew)
  go_still_tail 10, (by kernel_rfl)
  change wpList _ _ _ _ _ w9.drew
  go_wp2_with fail
  refine (dist_in g.eb O2 66 k (behS st 1) rep4 s3 d size _ HD.out.m.lz h2 (by omega) HDB.out (by have := HC.out; omega)).mono ?_; rintro e w10 ⟨rfl, h0, f0⟩
  rw [HS4.out] at h0
  have H10 := Lib.hid (HD.out.lzStep h0 f0)
  have F10 := Lib.hid (FD.out.trans f0)
  clear h0 f0 HD FD H9 F9
  clear c3 c6 x1 x3 x4 y3 x0
  obtain ⟨c3, c6, x1, x3, x4, y3, x0⟩ := H10.out.cells
  have z3 := H10.out.m.p.frozen 3
  have HMV := Lib.hid (H10.out.m.move pe)
  go_wp2
  refine bodyPost_ret (results_none rfl _ _ _) rfl ?_
  refine ⟨rfl, ?_, ?_⟩
  · exact HMV.out.1.widen HH.out HO2.out (Nat.le_trans F20.out.size (Nat.le_trans F10.out.size HMV.out.2.size))
  · refine (F20.out.mono fun q _ e => e.elim).trans ((F10.out.mono fun q _ e => ?_).trans (HMV.out.2.mono fun q _ e => ?_))
    · rcases e with e | e
      · exact .inl (.inl (HO2.out q e))
      · exact .inl (.inr e)
    · rcases e with (e | e) | e
      · exact .inl (.inl (HO2.out q e))
      · exact .inl (.inr e)
      · exact .inr e
end Go.Proofs.Ythcgglacbgjdhaa

/- A match that is written: its distance is the last one: the walk (gen_lpm.py). -/
namespace Go.Proofs.Ythcgglacbgjdhaa
open Go.RowKit Rng Lz Win
set_option linter.unusedVariables false
set_option linter.unusedSimpArgs false
set_option maxRecDepth 100000 in
set_option maxHeartbeats 4000000 in
theorem putmatch_zero (O : Nat → Prop) (w : World) (k : LK) (g : WB) (A : Option Addr) (c : Nat) (bs : List UInt8) (shift : Int) (pos tot st : Nat) (rep : Nat → Nat) (s : CP Enc) (h : WrAt O w k g A c bs shift pos st rep s) (hk : k.Ok) (htot : (pos : Int) + shift = (tot : Int)) (ht : tot < 4611686018427387904)
    (size back d : Nat) (h2 : 2 ≤ size) (hs : size ≤ 273) (hbd : back = d + 1) (hd : d < 4294967296) (hpos : pos + size ≤ 140737488355328) (hst : st < 12) (hrep : ∀ j, rep j < 4294967296) (hc : s.d.cnt + 100 < 1000000) (hj : idxOf rep d = 0) :
    Calls Try.prog 18 #[.pointer (some ⟨g.xb, 0, none⟩), .int .i64 size, .int .i64 back] w fun e w' => e = .returned (.tuple #[]) ∧ WrAt O w' k g A c bs shift (pos + size) (putMatch k tot size d st rep s).1 (putMatch k tot size d st rep s).2.1 (putMatch k tot size d st rep s).2.2 ∧ Frm (WZ k O g) w w' := by
  obtain ⟨p, hp⟩ : ∃ p, tot % 2 ^ k.pb = p := ⟨_, rfl⟩
  have hp16 : p < 16 := by
    have h1 : 2 ^ k.pb ≤ 2 ^ 4 := Nat.pow_le_pow_right (by omega) hk.b
    have h2 : tot % 2 ^ k.pb < 2 ^ k.pb := Nat.mod_lt _ (Nat.lt_of_lt_of_le (by omega) (Nat.one_le_two_pow))
    omega
  obtain ⟨s1, hs1⟩ : ∃ s1, (bitAt inC (8 + st * 16 + p) 1 s).2 = s1 := ⟨_, rfl⟩
  have hc1 : s1.d.cnt ≤ s.d.cnt + 1 := by rw [← hs1]; exact cnt_bitIn1 _ _ _
  obtain ⟨s2, hs2⟩ : ∃ s2, (bitAt inC (200 + st) 1 s1).2 = s2 := ⟨_, rfl⟩
  have hc2 : s2.d.cnt ≤ s1.d.cnt + 1 := by rw [← hs2]; exact cnt_bitIn1 _ _ _
  obtain ⟨s3, hs3⟩ : ∃ s3, bitsIn st 0 [0] s2 = s3 := ⟨_, rfl⟩
  have hc3 : s3.d.cnt ≤ s2.d.cnt + 3 := by rw [← hs3]; exact cnt_bits _ _ _ _ (by decide)
  obtain ⟨s4, hs4⟩ : ∃ s4, (bitAt inC (248 + st * 16 + p) 1 s3).2 = s4 := ⟨_, rfl⟩
  have hc4 : s4.d.cnt ≤ s3.d.cnt + 1 := by rw [← hs4]; exact cnt_bitIn1 _ _ _
  obtain ⟨s5, hs5⟩ : ∃ s5, (lenAt inC 1354 size p s4).2 = s5 := ⟨_, rfl⟩
  have hput : putMatch k tot size d st rep s = (behS st 2, takeS rep 0, s5) := by
    unfold putMatch putRep; simp only; rw [hp, hs1, hj, if_neg (by omega), hs2, if_pos rfl, if_pos rfl, if_pos rfl, takeS_zero]
    have e : (bitAt inC (212 + st) 0 s2).2 = s3 := by rw [← hs3]; unfold bitsIn bitsIn; rw [show 212 + 0 * 12 + st = 212 + st by omega]
    rw [e, hs4, hs5]
  have HS2 := Lib.hid hs2
  have HS3 := Lib.hid hs3
  have HS4 := Lib.hid hs4
  have HS5 := Lib.hid hs5
  have HPUT := Lib.hid hput
  have HH := Lib.hid h
  have HB := Lib.hid (two_boxes h)
  have hXO := h.x
  have e0 : (w.alloc (.cells #[.pointer (some ⟨g.xb, 0, none⟩)] 70)).cell? ⟨g.xb, 0, none⟩ = some (.pointer (some ⟨k.sb, 0, none⟩)) := (h.alloc _).cells.1
  have HPL := Lib.hid (fun (w1 : World) (O1 : Nat → Prop) (h1 : LzAt (IC g.eb O1) O1 66 w1 k st rep s) => place_any 66 k st tot rep s w1 h1 hk ht)
  rw [hp] at HPL
  have P0 := Lib.hid (plm k (i := 8 + st * 16 + p) (by omega) (by omega))
  have P1 := Lib.hid (plm k (i := 200 + st) (by omega) (by omega))
  have P2 := Lib.hid (plm k (i := 248 + st * 16 + p) (by omega) (by omega))
  have HS1 := Lib.hid hs1
  have HREP := Lib.hid hrep
  have HK := Lib.hid hk
  have hsti : (st : Int) < 12 := by omega
  have hpi : (p : Int) < 16 := by omega
  have htw : IntKind.i64.wrap (tot : Int) = (tot : Int) := Go.IntWalk.i64_in _ (by omega)
  have hbk : (back : Int) - 1 = (d : Int) := by omega
  have hdw : IntKind.i64.wrap (d : Int) = (d : Int) := Go.IntWalk.i64_in _ (by omega)
  have hdu : IntKind.u32.wrap (d : Int) = (d : Int) := Go.IntWalk.u32_in _ (by omega)
  obtain ⟨pe, hpe⟩ : ∃ pe, pos + size = pe := ⟨_, rfl⟩
  have hpei : (pos : Int) + (size : Int) = (pe : Int) := by omega
  have hpew : IntKind.i64.wrap (pe : Int) = (pe : Int) := Go.IntWalk.i64_in _ (by omega)
  have hzi : idxV (idxOf rep d) = 0 := by rw [hj]; rfl
  have HZ := Lib.hid hzi
  have HDB := Lib.hid hd
  rw [hput, hpe]
  clear h hk ht hrep hp hbd hd hpos hpe hj hzi hput hs1 hs2 hs3 hs4 hs5
  have HC := Lib.hid (And.intro hc (And.intro hc1 (And.intro hc2 (And.intro hc3 hc4))))
  clear hc hc1 hc2 hc3 hc4
  go_enter Try.func18, Try.ntmps18
  go_upto_region 2 with fail
  obtain ⟨w2, hw2⟩ : ∃ w2, (w.alloc (.cells #[.pointer (some ⟨g.xb, 0, none⟩)] 70)).alloc (.cells #[.pointer (some ⟨k.sb, 0, none⟩)] 71) = w2 := ⟨_, rfl⟩
  obtain ⟨b6, hb6⟩ : ∃ b, w.heap.size + 1 = b := ⟨_, rfl⟩
  obtain ⟨b3, hb3⟩ : ∃ b, w.heap.size = b := ⟨_, rfl⟩
  obtain ⟨O2, hO2⟩ : ∃ O2 : Nat → Prop, (fun q => O q ∧ ¬ (q = b3 ∨ q = b6)) = O2 := ⟨_, rfl⟩
  have hB := HB.out
  have HO2 : Hid (∀ q, O2 q → O q) := Lib.hid (fun q hq => by rw [← hO2] at hq; exact hq.1)
  rw [hw2, hb6, hb3, hO2] at hB
  rw [hw2, hb6, hb3]
  have H2 := Lib.hid hB.1
  have F20 := Lib.hid hB.2
  have F2 : Hid (Frm (Wr O2 k) w2 w2) := Lib.hid (Frm.refl _ _)
  clear hB HB e0 hw2 hb6 hb3 hO2
  obtain ⟨c3, c6, x1, x3, x4, s3, x0⟩ := H2.out.cells
  have HD := Lib.hid H2.out.drew
  have FD : Hid (Frm (Wr O2 k) w2 w2.drew) := Lib.hid (F2.out.drew)
  go_still_tail 10, (by kernel_rfl)
  change wpList _ _ _ _ _ w2.drew
  go_wp2_with fail
  refine (HPL.out _ _ HD.out.m.lz).mono ?_; rintro e w3 ⟨rfl, rfl⟩
  have H3 := Lib.hid HD.out
  have F3 := Lib.hid FD.out
  obtain ⟨w3, hw3⟩ : ∃ w3, w2.drew = w3 := ⟨_, rfl⟩
  rw [hw3] at H3 F3 ⊢
  clear HD FD H2 F2 hw3 htot htw HPL
  clear c3 c6 x1 x3 x4 s3 x0
  obtain ⟨c3, c6, x1, x3, x4, s3, x0⟩ := H3.out.cells
  go_upto_region 3 with fail
  have HD := Lib.hid H3.out.drew
  have FD : Hid (Frm (Wr O2 k) w2 w3.drew) := Lib.hid (F3.out.drew)
  go_still_tail 14, (by kernel_rfl)
  change wpList _ _ _ _ _ w3.drew
  go_wp2_with fail
  refine (ibit_lz HD.out.m.lz (by have := HC.out; omega) (8 + st * 16 + p) k.sb (8 + st * 16 + p) 1 _ rfl (by omega) P0.out.1 P0.out.2).mono ?_; rintro e w4 ⟨rfl, h0, f0⟩
  rw [HS1.out] at h0
  have H4 := Lib.hid (HD.out.lzStep h0 f0)
  have F4 := Lib.hid (FD.out.trans f0)
  clear h0 f0 HD FD H3 F3
  clear c3 c6 x1 x3 x4 s3 x0
  obtain ⟨c3, c6, x1, x3, x4, s3, x0⟩ := H4.out.cells
  go_wp2_with fail
  refine (index_num w4 k.sb 4 rep d _ HZ.out (fun j hj => (H4.out.m.lz.rep_cell hj)) HDB.out).mono ?_; rintro e w5 ⟨rfl, hw5⟩
  subst hw5
  go_upto_region 18 with fail
  have HD := Lib.hid H4.out.drew
  have FD : Hid (Frm (Wr O2 k) w2 w4.drew) := Lib.hid (F4.out.drew)
  go_still_tail 12, (by kernel_rfl)
  change wpList _ _ _ _ _ w4.drew
  go_wp2_with fail
  refine (ibit_lz HD.out.m.lz (by have := HC.out; omega) (200 + st) k.sb (200 + st) 1 _ rfl (by omega) P1.out.1 P1.out.2).mono ?_; rintro e w5 ⟨rfl, h0, f0⟩
  rw [HS2.out] at h0
  have H5 := Lib.hid (HD.out.lzStep h0 f0)
  have F5 := Lib.hid (FD.out.trans f0)
  clear h0 f0 HD FD H4 F4
  clear c3 c6 x1 x3 x4 s3 x0
  obtain ⟨c3, c6, x1, x3, x4, s3, x0⟩ := H5.out.cells
  go_wp2_with fail
  refine (bits_lit O2 w5 k g b3 b6 A c bs shift pos st rep s2 H5.out hst [0] (by simp) (by simp) (by have := HC.out; omega)).mono ?_; rintro e w6 ⟨rfl, h0, f0⟩
  rw [HS3.out] at h0
  have H6 := Lib.hid h0
  have F6 := Lib.hid (F5.out.trans f0)
  clear h0 f0 H5 F5
  clear c3 c6 x1 x3 x4 s3 x0
  obtain ⟨c3, c6, x1, x3, x4, s3, x0⟩ := H6.out.cells
  go_upto_region 20 with fail
  have HD := Lib.hid H6.out.drew
  have FD : Hid (Frm (Wr O2 k) w2 w6.drew) := Lib.hid (F6.out.drew)
  go_still_tail 14, (by kernel_rfl)
  change wpList _ _ _ _ _ w6.drew
  go_wp2_with fail
  refine (ibit_lz HD.out.m.lz (by have := HC.out; omega) (248 + st * 16 + p) k.sb (248 + st * 16 + p) 1 _ rfl (by omega) P2.out.1 P2.out.2).mono ?_; rintro e w7 ⟨rfl, h0, f0⟩
  rw [HS4.out] at h0
  have H7 := Lib.hid (HD.out.lzStep h0 f0)
  have F7 := Lib.hid (FD.out.trans f0)
  clear h0 f0 HD FD H6 F6
  clear c3 c6 x1 x3 x4 s3 x0
  obtain ⟨c3, c6, x1, x3, x4, s3, x0⟩ := H7.out.cells
  go_wp2_with fail
  have HD := H7
  have FD := F7
  refine (take_num (IC.keep g.eb O2) 66 k st 0 _ rep _ _ (by first | rfl | omega) HD.out.m.lz (by first | omega | (have := HJ.out; omega))).mono ?_; rintro e w8 ⟨rfl, h0, f0⟩
  have H8 := Lib.hid (HD.out.lzStep h0 f0)
  have F8 := Lib.hid (FD.out.trans f0)
  clear h0 f0 HD FD H7 F7
  clear c3 c6 x1 x3 x4 s3 x0
  obtain ⟨c3, c6, x1, x3, x4, s3, x0⟩ := H8.out.cells
  go_upto_region 25 with fail
  have HD := Lib.hid H8.out.drew
  have FD : Hid (Frm (Wr O2 k) w2 w8.drew) := Lib.hid (F8.out.drew)
  go_still_tail 10, (by kernel_rfl)
  change wpList _ _ _ _ _ w8.drew
  go_wp2_with fail
  refine (lens_in g.eb O2 66 k _ _ _ 1354 size p _ HD.out.m.lz (.inr rfl) hp16 h2 hs (by have := HC.out; omega)).mono ?_; rintro e w9 ⟨rfl, h0, f0⟩
  rw [HS5.out] at h0
  have H9 := Lib.hid (HD.out.lzStep h0 f0)
  have F9 := Lib.hid (FD.out.trans f0)
  clear h0 f0 HD FD H8 F8
  clear c3 c6 x1 x3 x4 s3 x0
  obtain ⟨c3, c6, x1, x3, x4, s3, x0⟩ := H9.out.cells
  go_wp2_with fail
  have HD := H9
  have FD := F9
  refine (behind_any (IC.keep g.eb O2) 66 k st 2 _ _ _ HD.out.m.lz hst (by omega)).mono ?_; rintro e w10 ⟨rfl, h0, f0⟩
  have H10 := Lib.hid (HD.out.lzStep h0 f0)
  have F10 := Lib.hid (FD.out.trans f0)
  clear h0 f0 HD FD H9 F9
  clear c3 c6 x1 x3 x4 s3 x0
  obtain ⟨c3, c6, x1, x3, x4, s3, x0⟩ := H10.out.cells
  have z3 := H10.out.m.p.frozen 3
  have HMV := Lib.hid (H10.out.m.move pe)
  go_wp2
  go_end0
  refine ⟨rfl, ?_, ?_⟩
  · exact HMV.out.1.widen HH.out HO2.out (Nat.le_trans F20.out.size (Nat.le_trans F10.out.size HMV.out.2.size))
  · refine (F20.out.mono fun q _ e => e.elim).trans ((F10.out.mono fun q _ e => ?_).trans (HMV.out.2.mono fun q _ e => ?_))
    · rcases e with e | e
      · exact .inl (.inl (HO2.out q e))
      · exact .inl (.inr e)
    · rcases e with (e | e) | e
      · exact .inl (.inl (HO2.out q e))
      · exact .inl (.inr e)
      · exact .inr e
end Go.Proofs.Ythcgglacbgjdhaa

/- A match that is written: its distance is the last but one: the walk (gen_lpm.py). -/
namespace Go.Proofs.Ythcgglacbgjdhaa
open Go.RowKit Rng Lz Win
set_option linter.unusedVariables false
set_option linter.unusedSimpArgs false
set_option maxRecDepth 100000 in
set_option maxHeartbeats 4000000 in
theorem putmatch_one (O : Nat → Prop) (w : World) (k : LK) (g : WB) (A : Option Addr) (c : Nat) (bs : List UInt8) (shift : Int) (pos tot st : Nat) (rep : Nat → Nat) (s : CP Enc) (h : WrAt O w k g A c bs shift pos st rep s) (hk : k.Ok) (htot : (pos : Int) + shift = (tot : Int)) (ht : tot < 4611686018427387904)
    (size back d : Nat) (h2 : 2 ≤ size) (hs : size ≤ 273) (hbd : back = d + 1) (hd : d < 4294967296) (hpos : pos + size ≤ 140737488355328) (hst : st < 12) (hrep : ∀ j, rep j < 4294967296) (hc : s.d.cnt + 100 < 1000000) (hj : idxOf rep d = 1) :
    Calls Try.prog 18 #[.pointer (some ⟨g.xb, 0, none⟩), .int .i64 size, .int .i64 back] w fun e w' => e = .returned (.tuple #[]) ∧ WrAt O w' k g A c bs shift (pos + size) (putMatch k tot size d st rep s).1 (putMatch k tot size d st rep s).2.1 (putMatch k tot size d st rep s).2.2 ∧ Frm (WZ k O g) w w' := by
  obtain ⟨p, hp⟩ : ∃ p, tot % 2 ^ k.pb = p := ⟨_, rfl⟩
  have hp16 : p < 16 := by
    have h1 : 2 ^ k.pb ≤ 2 ^ 4 := Nat.pow_le_pow_right (by omega) hk.b
    have h2 : tot % 2 ^ k.pb < 2 ^ k.pb := Nat.mod_lt _ (Nat.lt_of_lt_of_le (by omega) (Nat.one_le_two_pow))
    omega
  obtain ⟨s1, hs1⟩ : ∃ s1, (bitAt inC (8 + st * 16 + p) 1 s).2 = s1 := ⟨_, rfl⟩
  have hc1 : s1.d.cnt ≤ s.d.cnt + 1 := by rw [← hs1]; exact cnt_bitIn1 _ _ _
  obtain ⟨s2, hs2⟩ : ∃ s2, (bitAt inC (200 + st) 1 s1).2 = s2 := ⟨_, rfl⟩
  have hc2 : s2.d.cnt ≤ s1.d.cnt + 1 := by rw [← hs2]; exact cnt_bitIn1 _ _ _
  obtain ⟨s4, hs4⟩ : ∃ s4, bitsIn st 0 [1, 0] s2 = s4 := ⟨_, rfl⟩
  have hc4 : s4.d.cnt ≤ s2.d.cnt + 3 := by rw [← hs4]; exact cnt_bits _ _ _ _ (by simp)
  obtain ⟨s5, hs5⟩ : ∃ s5, (lenAt inC 1354 size p s4).2 = s5 := ⟨_, rfl⟩
  have hput : putMatch k tot size d st rep s = (behS st 2, takeS rep 1, s5) := by
    unfold putMatch putRep; simp only; rw [hp, hs1, hj, if_neg (by omega), hs2]; simp only [if_neg (show ¬ (1 : Nat) = 0 by omega), if_pos]
    have e : (bitAt inC (224 + st) 0 (bitAt inC (212 + st) 1 s2).2).2 = s4 := by rw [← hs4]; unfold bitsIn bitsIn bitsIn; rw [show 212 + 0 * 12 + st = 212 + st by omega, show 212 + (0 + 1) * 12 + st = 224 + st by omega]
    rw [e, hs5]
  have HS2 := Lib.hid hs2
  have HS4 := Lib.hid hs4
  have HS5 := Lib.hid hs5
  have HPUT := Lib.hid hput
  have HH := Lib.hid h
  have HB := Lib.hid (two_boxes h)
  have hXO := h.x
  have e0 : (w.alloc (.cells #[.pointer (some ⟨g.xb, 0, none⟩)] 70)).cell? ⟨g.xb, 0, none⟩ = some (.pointer (some ⟨k.sb, 0, none⟩)) := (h.alloc _).cells.1
  have HPL := Lib.hid (fun (w1 : World) (O1 : Nat → Prop) (h1 : LzAt (IC g.eb O1) O1 66 w1 k st rep s) => place_any 66 k st tot rep s w1 h1 hk ht)
  rw [hp] at HPL
  have P0 := Lib.hid (plm k (i := 8 + st * 16 + p) (by omega) (by omega))
  have P1 := Lib.hid (plm k (i := 200 + st) (by omega) (by omega))
  have HS1 := Lib.hid hs1
  have HREP := Lib.hid hrep
  have HK := Lib.hid hk
  have hsti : (st : Int) < 12 := by omega
  have hpi : (p : Int) < 16 := by omega
  have htw : IntKind.i64.wrap (tot : Int) = (tot : Int) := Go.IntWalk.i64_in _ (by omega)
  have hbk : (back : Int) - 1 = (d : Int) := by omega
  have hdw : IntKind.i64.wrap (d : Int) = (d : Int) := Go.IntWalk.i64_in _ (by omega)
  have hdu : IntKind.u32.wrap (d : Int) = (d : Int) := Go.IntWalk.u32_in _ (by omega)
  obtain ⟨pe, hpe⟩ : ∃ pe, pos + size = pe := ⟨_, rfl⟩
  have hpei : (pos : Int) + (size : Int) = (pe : Int) := by omega
  have hpew : IntKind.i64.wrap (pe : Int) = (pe : Int) := Go.IntWalk.i64_in _ (by omega)
  have hzi : idxV (idxOf rep d) = 1 := by rw [hj]; rfl
  have HZ := Lib.hid hzi
  have HDB := Lib.hid hd
  rw [hput, hpe]
  clear h hk ht hrep hp hbd hd hpos hpe hj hzi hput hs1 hs2 hs4 hs5
  have HC := Lib.hid (And.intro hc (And.intro hc1 (And.intro hc2 hc4)))
  clear hc hc1 hc2 hc4
  go_enter Try.func18, Try.ntmps18
  go_upto_region 2 with fail
  obtain ⟨w2, hw2⟩ : ∃ w2, (w.alloc (.cells #[.pointer (some ⟨g.xb, 0, none⟩)] 70)).alloc (.cells #[.pointer (some ⟨k.sb, 0, none⟩)] 71) = w2 := ⟨_, rfl⟩
  obtain ⟨b6, hb6⟩ : ∃ b, w.heap.size + 1 = b := ⟨_, rfl⟩
  obtain ⟨b3, hb3⟩ : ∃ b, w.heap.size = b := ⟨_, rfl⟩
  obtain ⟨O2, hO2⟩ : ∃ O2 : Nat → Prop, (fun q => O q ∧ ¬ (q = b3 ∨ q = b6)) = O2 := ⟨_, rfl⟩
  have hB := HB.out
  have HO2 : Hid (∀ q, O2 q → O q) := Lib.hid (fun q hq => by rw [← hO2] at hq; exact hq.1)
  rw [hw2, hb6, hb3, hO2] at hB
  rw [hw2, hb6, hb3]
  have H2 := Lib.hid hB.1
  have F20 := Lib.hid hB.2
  have F2 : Hid (Frm (Wr O2 k) w2 w2) := Lib.hid (Frm.refl _ _)
  clear hB HB e0 hw2 hb6 hb3 hO2
  obtain ⟨c3, c6, x1, x3, x4, y3, x0⟩ := H2.out.cells
  have HD := Lib.hid H2.out.drew
  have FD : Hid (Frm (Wr O2 k) w2 w2.drew) := Lib.hid (F2.out.drew)
  go_still_tail 10, (by kernel_rfl)
  change wpList _ _ _ _ _ w2.drew
  go_wp2_with fail
  refine (HPL.out _ _ HD.out.m.lz).mono ?_; rintro e w3 ⟨rfl, rfl⟩
  have H3 := Lib.hid HD.out
  have F3 := Lib.hid FD.out
  obtain ⟨w3, hw3⟩ : ∃ w3, w2.drew = w3 := ⟨_, rfl⟩
  rw [hw3] at H3 F3 ⊢
  clear HD FD H2 F2 hw3 htot htw HPL
  clear c3 c6 x1 x3 x4 y3 x0
  obtain ⟨c3, c6, x1, x3, x4, y3, x0⟩ := H3.out.cells
  go_upto_region 3 with fail
  have HD := Lib.hid H3.out.drew
  have FD : Hid (Frm (Wr O2 k) w2 w3.drew) := Lib.hid (F3.out.drew)
  go_still_tail 14, (by kernel_rfl)
  change wpList _ _ _ _ _ w3.drew
  go_wp2_with fail
  refine (ibit_lz HD.out.m.lz (by have := HC.out; omega) (8 + st * 16 + p) k.sb (8 + st * 16 + p) 1 _ rfl (by omega) P0.out.1 P0.out.2).mono ?_; rintro e w4 ⟨rfl, h0, f0⟩
  rw [HS1.out] at h0
  have H4 := Lib.hid (HD.out.lzStep h0 f0)
  have F4 := Lib.hid (FD.out.trans f0)
  clear h0 f0 HD FD H3 F3
  clear c3 c6 x1 x3 x4 y3 x0
  obtain ⟨c3, c6, x1, x3, x4, y3, x0⟩ := H4.out.cells
  go_wp2_with fail
  refine (index_num w4 k.sb 4 rep d _ HZ.out (fun j hj => (H4.out.m.lz.rep_cell hj)) HDB.out).mono ?_; rintro e w5 ⟨rfl, hw5⟩
  subst hw5
  go_upto_region 22 with fail
  have HD := Lib.hid H4.out.drew
  have FD : Hid (Frm (Wr O2 k) w2 w4.drew) := Lib.hid (F4.out.drew)
  go_still_tail 12, (by kernel_rfl)
  change wpList _ _ _ _ _ w4.drew
  go_wp2_with fail
  refine (ibit_lz HD.out.m.lz (by have := HC.out; omega) (200 + st) k.sb (200 + st) 1 _ rfl (by omega) P1.out.1 P1.out.2).mono ?_; rintro e w5 ⟨rfl, h0, f0⟩
  rw [HS2.out] at h0
  have H5 := Lib.hid (HD.out.lzStep h0 f0)
  have F5 := Lib.hid (FD.out.trans f0)
  clear h0 f0 HD FD H4 F4
  clear c3 c6 x1 x3 x4 y3 x0
  obtain ⟨c3, c6, x1, x3, x4, y3, x0⟩ := H5.out.cells
  go_wp2_with fail
  refine (bits_lit O2 w5 k g b3 b6 A c bs shift pos st rep s2 H5.out hst [1, 0] (by simp) (by simp) (by have := HC.out; omega)).mono ?_; rintro e w6 ⟨rfl, h0, f0⟩
  rw [HS4.out] at h0
  have H6 := Lib.hid h0
  have F6 := Lib.hid (F5.out.trans f0)
  clear h0 f0 H5 F5
  clear c3 c6 x1 x3 x4 y3 x0
  obtain ⟨c3, c6, x1, x3, x4, y3, x0⟩ := H6.out.cells
  go_wp2_with fail
  have HD := H6
  have FD := F6
  refine (take_num (IC.keep g.eb O2) 66 k st 1 _ rep _ _ (by first | rfl | omega) HD.out.m.lz (by first | omega | (have := HJ.out; omega))).mono ?_; rintro e w7 ⟨rfl, h0, f0⟩
  have H7 := Lib.hid (HD.out.lzStep h0 f0)
  have F7 := Lib.hid (FD.out.trans f0)
  clear h0 f0 HD FD H6 F6
  clear c3 c6 x1 x3 x4 y3 x0
  obtain ⟨c3, c6, x1, x3, x4, y3, x0⟩ := H7.out.cells
  go_upto_region 25 with fail
  have HD := Lib.hid H7.out.drew
  have FD : Hid (Frm (Wr O2 k) w2 w7.drew) := Lib.hid (F7.out.drew)
  go_still_tail 10, (by kernel_rfl)
  change wpList _ _ _ _ _ w7.drew
  go_wp2_with fail
  refine (lens_in g.eb O2 66 k _ _ _ 1354 size p _ HD.out.m.lz (.inr rfl) hp16 h2 hs (by have := HC.out; omega)).mono ?_; rintro e w8 ⟨rfl, h0, f0⟩
  rw [HS5.out] at h0
  have H8 := Lib.hid (HD.out.lzStep h0 f0)
  have F8 := Lib.hid (FD.out.trans f0)
  clear h0 f0 HD FD H7 F7
  clear c3 c6 x1 x3 x4 y3 x0
  obtain ⟨c3, c6, x1, x3, x4, y3, x0⟩ := H8.out.cells
  go_wp2_with fail
  have HD := H8
  have FD := F8
  refine (behind_any (IC.keep g.eb O2) 66 k st 2 _ _ _ HD.out.m.lz hst (by omega)).mono ?_; rintro e w9 ⟨rfl, h0, f0⟩
  have H9 := Lib.hid (HD.out.lzStep h0 f0)
  have F9 := Lib.hid (FD.out.trans f0)
  clear h0 f0 HD FD H8 F8
  clear c3 c6 x1 x3 x4 y3 x0
  obtain ⟨c3, c6, x1, x3, x4, y3, x0⟩ := H9.out.cells
  have z3 := H9.out.m.p.frozen 3
  have HMV := Lib.hid (H9.out.m.move pe)
  go_wp2
  go_end0
  refine ⟨rfl, ?_, ?_⟩
  · exact HMV.out.1.widen HH.out HO2.out (Nat.le_trans F20.out.size (Nat.le_trans F9.out.size HMV.out.2.size))
  · refine (F20.out.mono fun q _ e => e.elim).trans ((F9.out.mono fun q _ e => ?_).trans (HMV.out.2.mono fun q _ e => ?_))
    · rcases e with e | e
      · exact .inl (.inl (HO2.out q e))
      · exact .inl (.inr e)
    · rcases e with (e | e) | e
      · exact .inl (.inl (HO2.out q e))
      · exact .inl (.inr e)
      · exact .inr e
end Go.Proofs.Ythcgglacbgjdhaa

/- A match that is written: its distance is the third or fourth last: the walk (gen_lpm.py). -/
namespace Go.Proofs.Ythcgglacbgjdhaa
open Go.RowKit Rng Lz Win
set_option linter.unusedVariables false
set_option linter.unusedSimpArgs false
set_option maxRecDepth 100000 in
set_option maxHeartbeats 4000000 in
theorem putmatch_two (O : Nat → Prop) (w : World) (k : LK) (g : WB) (A : Option Addr) (c : Nat) (bs : List UInt8) (shift : Int) (pos tot st : Nat) (rep : Nat → Nat) (s : CP Enc) (h : WrAt O w k g A c bs shift pos st rep s) (hk : k.Ok) (htot : (pos : Int) + shift = (tot : Int)) (ht : tot < 4611686018427387904)
    (size back d : Nat) (h2 : 2 ≤ size) (hs : size ≤ 273) (hbd : back = d + 1) (hd : d < 4294967296) (hpos : pos + size ≤ 140737488355328) (hst : st < 12) (hrep : ∀ j, rep j < 4294967296) (hc : s.d.cnt + 100 < 1000000) (J : Nat) (hJ : J = 2 ∨ J = 3) (hj : idxOf rep d = J) :
    Calls Try.prog 18 #[.pointer (some ⟨g.xb, 0, none⟩), .int .i64 size, .int .i64 back] w fun e w' => e = .returned (.tuple #[]) ∧ WrAt O w' k g A c bs shift (pos + size) (putMatch k tot size d st rep s).1 (putMatch k tot size d st rep s).2.1 (putMatch k tot size d st rep s).2.2 ∧ Frm (WZ k O g) w w' := by
  obtain ⟨p, hp⟩ : ∃ p, tot % 2 ^ k.pb = p := ⟨_, rfl⟩
  have hp16 : p < 16 := by
    have h1 : 2 ^ k.pb ≤ 2 ^ 4 := Nat.pow_le_pow_right (by omega) hk.b
    have h2 : tot % 2 ^ k.pb < 2 ^ k.pb := Nat.mod_lt _ (Nat.lt_of_lt_of_le (by omega) (Nat.one_le_two_pow))
    omega
  obtain ⟨s1, hs1⟩ : ∃ s1, (bitAt inC (8 + st * 16 + p) 1 s).2 = s1 := ⟨_, rfl⟩
  have hc1 : s1.d.cnt ≤ s.d.cnt + 1 := by rw [← hs1]; exact cnt_bitIn1 _ _ _
  obtain ⟨s2, hs2⟩ : ∃ s2, (bitAt inC (200 + st) 1 s1).2 = s2 := ⟨_, rfl⟩
  have hc2 : s2.d.cnt ≤ s1.d.cnt + 1 := by rw [← hs2]; exact cnt_bitIn1 _ _ _
  obtain ⟨s4, hs4⟩ : ∃ s4, bitsIn st 0 [1, 1, J - 2] s2 = s4 := ⟨_, rfl⟩
  have hc4 : s4.d.cnt ≤ s2.d.cnt + 3 := by rw [← hs4]; exact cnt_bits _ _ _ _ (by simp)
  obtain ⟨s5, hs5⟩ : ∃ s5, (lenAt inC 1354 size p s4).2 = s5 := ⟨_, rfl⟩
  have hput : putMatch k tot size d st rep s = (behS st 2, takeS rep J, s5) := by
    unfold putMatch putRep; simp only; rw [hp, hs1, hj, if_neg (by omega), hs2]; simp only [if_neg (show ¬ J = 0 by omega), if_neg (show ¬ J = 1 by omega)]
    have e : (bitAt inC (236 + st) (J - 2) (bitAt inC (224 + st) 1 (bitAt inC (212 + st) 1 s2).2).2).2 = s4 := by rw [← hs4]; unfold bitsIn bitsIn bitsIn bitsIn; rw [show 212 + 0 * 12 + st = 212 + st by omega, show 212 + (0 + 1) * 12 + st = 224 + st by omega, show 212 + (0 + 1 + 1) * 12 + st = 236 + st by omega]
    rw [e, hs5]
  have HS2 := Lib.hid hs2
  have HS4 := Lib.hid hs4
  have HS5 := Lib.hid hs5
  have HPUT := Lib.hid hput
  have HH := Lib.hid h
  have HB := Lib.hid (two_boxes h)
  have hXO := h.x
  have e0 : (w.alloc (.cells #[.pointer (some ⟨g.xb, 0, none⟩)] 70)).cell? ⟨g.xb, 0, none⟩ = some (.pointer (some ⟨k.sb, 0, none⟩)) := (h.alloc _).cells.1
  have HPL := Lib.hid (fun (w1 : World) (O1 : Nat → Prop) (h1 : LzAt (IC g.eb O1) O1 66 w1 k st rep s) => place_any 66 k st tot rep s w1 h1 hk ht)
  rw [hp] at HPL
  have P0 := Lib.hid (plm k (i := 8 + st * 16 + p) (by omega) (by omega))
  have P1 := Lib.hid (plm k (i := 200 + st) (by omega) (by omega))
  have HS1 := Lib.hid hs1
  have HREP := Lib.hid hrep
  have HK := Lib.hid hk
  have hsti : (st : Int) < 12 := by omega
  have hpi : (p : Int) < 16 := by omega
  have htw : IntKind.i64.wrap (tot : Int) = (tot : Int) := Go.IntWalk.i64_in _ (by omega)
  have hbk : (back : Int) - 1 = (d : Int) := by omega
  have hdw : IntKind.i64.wrap (d : Int) = (d : Int) := Go.IntWalk.i64_in _ (by omega)
  have hdu : IntKind.u32.wrap (d : Int) = (d : Int) := Go.IntWalk.u32_in _ (by omega)
  obtain ⟨pe, hpe⟩ : ∃ pe, pos + size = pe := ⟨_, rfl⟩
  have hpei : (pos : Int) + (size : Int) = (pe : Int) := by omega
  have hpew : IntKind.i64.wrap (pe : Int) = (pe : Int) := Go.IntWalk.i64_in _ (by omega)
  have hzi : idxV (idxOf rep d) = (J : Int) := by rw [hj]; unfold idxV; rw [if_neg (by omega)]
  have HZ := Lib.hid hzi
  have HDB := Lib.hid hd
  rw [hput, hpe]
  clear h hk ht hrep hp hbd hd hpos hpe hj hzi hput hs1 hs2 hs4 hs5
  have HC := Lib.hid (And.intro hc (And.intro hc1 (And.intro hc2 hc4)))
  clear hc hc1 hc2 hc4
  go_enter Try.func18, Try.ntmps18
  go_upto_region 2 with fail
  obtain ⟨w2, hw2⟩ : ∃ w2, (w.alloc (.cells #[.pointer (some ⟨g.xb, 0, none⟩)] 70)).alloc (.cells #[.pointer (some ⟨k.sb, 0, none⟩)] 71) = w2 := ⟨_, rfl⟩
  obtain ⟨b6, hb6⟩ : ∃ b, w.heap.size + 1 = b := ⟨_, rfl⟩
  obtain ⟨b3, hb3⟩ : ∃ b, w.heap.size = b := ⟨_, rfl⟩
  obtain ⟨O2, hO2⟩ : ∃ O2 : Nat → Prop, (fun q => O q ∧ ¬ (q = b3 ∨ q = b6)) = O2 := ⟨_, rfl⟩
  have hB := HB.out
  have HO2 : Hid (∀ q, O2 q → O q) := Lib.hid (fun q hq => by rw [← hO2] at hq; exact hq.1)
  rw [hw2, hb6, hb3, hO2] at hB
  rw [hw2, hb6, hb3]
  have H2 := Lib.hid hB.1
  have F20 := Lib.hid hB.2
  have F2 : Hid (Frm (Wr O2 k) w2 w2) := Lib.hid (Frm.refl _ _)
  clear hB HB e0 hw2 hb6 hb3 hO2
  obtain ⟨c3, c6, x1, x3, x4, y3, x0⟩ := H2.out.cells
  have HD := Lib.hid H2.out.drew
  have FD : Hid (Frm (Wr O2 k) w2 w2.drew) := Lib.hid (F2.out.drew)
  go_still_tail 10, (by kernel_rfl)
  change wpList _ _ _ _ _ w2.drew
  go_wp2_with fail
  refine (HPL.out _ _ HD.out.m.lz).mono ?_; rintro e w3 ⟨rfl, rfl⟩
  have H3 := Lib.hid HD.out
  have F3 := Lib.hid FD.out
  obtain ⟨w3, hw3⟩ : ∃ w3, w2.drew = w3 := ⟨_, rfl⟩
  rw [hw3] at H3 F3 ⊢
  clear HD FD H2 F2 hw3 htot htw HPL
  clear c3 c6 x1 x3 x4 y3 x0
  obtain ⟨c3, c6, x1, x3, x4, y3, x0⟩ := H3.out.cells
  go_upto_region 3 with fail
  have HD := Lib.hid H3.out.drew
  have FD : Hid (Frm (Wr O2 k) w2 w3.drew) := Lib.hid (F3.out.drew)
  go_still_tail 14, (by kernel_rfl)
  change wpList _ _ _ _ _ w3.drew
  go_wp2_with fail
  refine (ibit_lz HD.out.m.lz (by have := HC.out; omega) (8 + st * 16 + p) k.sb (8 + st * 16 + p) 1 _ rfl (by omega) P0.out.1 P0.out.2).mono ?_; rintro e w4 ⟨rfl, h0, f0⟩
  rw [HS1.out] at h0
  have H4 := Lib.hid (HD.out.lzStep h0 f0)
  have F4 := Lib.hid (FD.out.trans f0)
  clear h0 f0 HD FD H3 F3
  clear c3 c6 x1 x3 x4 y3 x0
  obtain ⟨c3, c6, x1, x3, x4, y3, x0⟩ := H4.out.cells
  go_wp2_with fail
  refine (index_num w4 k.sb 4 rep d _ HZ.out (fun j hj => (H4.out.m.lz.rep_cell hj)) HDB.out).mono ?_; rintro e w5 ⟨rfl, hw5⟩
  subst hw5
  have hJ2 : 2 ≤ J := by omega
  have hJ3 : J ≤ 3 := by omega
  have j0 : ((J : Int) == -1) = false := beq_eq_false_iff_ne.2 (by omega)
  have j1 : ((J : Int) == 0) = false := beq_eq_false_iff_ne.2 (by omega)
  have j2 : ((J : Int) == 1) = false := beq_eq_false_iff_ne.2 (by omega)
  obtain ⟨J2, hJ2e⟩ : ∃ J2, J - 2 = J2 := ⟨_, rfl⟩
  have hJi : (J : Int) - 2 = (J2 : Int) := by omega
  have hJw : IntKind.i64.wrap (J2 : Int) = (J2 : Int) := Go.IntWalk.i64_in _ (by omega)
  rw [hJ2e] at HS4
  have HJ := Lib.hid (And.intro hJ2e (And.intro hJ2 hJ3))
  clear hJ hJ2 hJ3 hJ2e
  go_upto_region 7 with fail
  have HD := Lib.hid H4.out.drew
  have FD : Hid (Frm (Wr O2 k) w2 w4.drew) := Lib.hid (F4.out.drew)
  go_still_tail 12, (by kernel_rfl)
  change wpList _ _ _ _ _ w4.drew
  go_wp2_with fail
  refine (ibit_lz HD.out.m.lz (by have := HC.out; omega) (200 + st) k.sb (200 + st) 1 _ rfl (by omega) P1.out.1 P1.out.2).mono ?_; rintro e w5 ⟨rfl, h0, f0⟩
  rw [HS2.out] at h0
  have H5 := Lib.hid (HD.out.lzStep h0 f0)
  have F5 := Lib.hid (FD.out.trans f0)
  clear h0 f0 HD FD H4 F4
  clear c3 c6 x1 x3 x4 y3 x0
  obtain ⟨c3, c6, x1, x3, x4, y3, x0⟩ := H5.out.cells
  go_wp2_with fail
  refine (bits_lit O2 w5 k g b3 b6 A c bs shift pos st rep s2 H5.out hst [1, 1, J2] (by simp) (by simp; have := HJ.out; omega) (by have := HC.out; omega)).mono ?_; rintro e w6 ⟨rfl, h0, f0⟩
  rw [HS4.out] at h0
  have H6 := Lib.hid h0
  have F6 := Lib.hid (F5.out.trans f0)
  clear h0 f0 H5 F5
  clear c3 c6 x1 x3 x4 y3 x0
  obtain ⟨c3, c6, x1, x3, x4, y3, x0⟩ := H6.out.cells
  go_wp2_with fail
  have HD := H6
  have FD := F6
  refine (take_num (IC.keep g.eb O2) 66 k st J _ rep _ _ (by first | rfl | omega) HD.out.m.lz (by first | omega | (have := HJ.out; omega))).mono ?_; rintro e w7 ⟨rfl, h0, f0⟩
  have H7 := Lib.hid (HD.out.lzStep h0 f0)
  have F7 := Lib.hid (FD.out.trans f0)
  clear h0 f0 HD FD H6 F6
  clear c3 c6 x1 x3 x4 y3 x0
  obtain ⟨c3, c6, x1, x3, x4, y3, x0⟩ := H7.out.cells
  go_upto_region 25 with fail
  have HD := Lib.hid H7.out.drew
  have FD : Hid (Frm (Wr O2 k) w2 w7.drew) := Lib.hid (F7.out.drew)
  go_still_tail 10, (by kernel_rfl)
  change wpList _ _ _ _ _ w7.drew
  go_wp2_with fail
  refine (lens_in g.eb O2 66 k _ _ _ 1354 size p _ HD.out.m.lz (.inr rfl) hp16 h2 hs (by have := HC.out; omega)).mono ?_; rintro e w8 ⟨rfl, h0, f0⟩
  rw [HS5.out] at h0
  have H8 := Lib.hid (HD.out.lzStep h0 f0)
  have F8 := Lib.hid (FD.out.trans f0)
  clear h0 f0 HD FD H7 F7
  clear c3 c6 x1 x3 x4 y3 x0
  obtain ⟨c3, c6, x1, x3, x4, y3, x0⟩ := H8.out.cells
  go_wp2_with fail
  have HD := H8
  have FD := F8
  refine (behind_any (IC.keep g.eb O2) 66 k st 2 _ _ _ HD.out.m.lz hst (by omega)).mono ?_; rintro e w9 ⟨rfl, h0, f0⟩
  have H9 := Lib.hid (HD.out.lzStep h0 f0)
  have F9 := Lib.hid (FD.out.trans f0)
  clear h0 f0 HD FD H8 F8
  clear c3 c6 x1 x3 x4 y3 x0
  obtain ⟨c3, c6, x1, x3, x4, y3, x0⟩ := H9.out.cells
  have z3 := H9.out.m.p.frozen 3
  have HMV := Lib.hid (H9.out.m.move pe)
  go_wp2
  go_end0
  refine ⟨rfl, ?_, ?_⟩
  · exact HMV.out.1.widen HH.out HO2.out (Nat.le_trans F20.out.size (Nat.le_trans F9.out.size HMV.out.2.size))
  · refine (F20.out.mono fun q _ e => e.elim).trans ((F9.out.mono fun q _ e => ?_).trans (HMV.out.2.mono fun q _ e => ?_))
    · rcases e with e | e
      · exact .inl (.inl (HO2.out q e))
      · exact .inl (.inr e)
    · rcases e with (e | e) | e
      · exact .inl (.inl (HO2.out q e))
      · exact .inl (.inr e)
      · exact .inr e
end Go.Proofs.Ythcgglacbgjdhaa

/- Steps that are put in are read as the text that they make: plain. -/
namespace Go.Proofs.Ythcgglacbgjdhaa
open Go.RowKit Rng Win Lz
set_option linter.unusedVariables false
set_option linter.unusedSimpArgs false
/-- What a writer knows: where it is, the state, the distances, coder and chances. -/
structure PS where
  pos : Nat
  st : Nat
  rep : Nat → Nat
  s : CP Enc
/-- An operation is put in: none: a byte; some (size, d): a match, d + 1 bytes back. -/
def wOp (k : LK) (bs : List UInt8) (fr total : Nat) (x : PS) : Option (Nat × Nat) → PS
  | none => ⟨x.pos + 1, behS x.st 0, x.rep, putLit k bs (total + (x.pos - fr)) x.pos x.st x.rep x.s⟩
  | some m => ⟨x.pos + m.1, (putMatch k (total + (x.pos - fr)) m.1 m.2 x.st x.rep x.s).1, (putMatch k (total + (x.pos - fr)) m.1 m.2 x.st x.rep x.s).2.1, (putMatch k (total + (x.pos - fr)) m.1 m.2 x.st x.rep x.s).2.2⟩
def wOps (k : LK) (bs : List UInt8) (fr total : Nat) (l : List (Option (Nat × Nat))) (x : PS) : PS := l.foldl (wOp k bs fr total) x
/-- Operations make the rest of a text. -/
def OkOps (bs : List UInt8) : Nat → List (Option (Nat × Nat)) → Prop
  | pos, [] => pos = bs.length
  | pos, none :: l => pos < bs.length ∧ OkOps bs (pos + 1) l
  | pos, some m :: l => 2 ≤ m.1 ∧ m.1 ≤ 273 ∧ pos + m.1 ≤ bs.length ∧ m.2 + 1 ≤ pos ∧ (∀ i, i < m.1 → bs.getD (pos + i) 0 = bs.getD (pos + i - (m.2 + 1)) 0) ∧ OkOps bs (pos + m.1) l
section
variable {β : Enc → Prop}
theorem stays_putRep (K : Stays inC β) (st p size j : Nat) {s : CP Enc} (h : β s.d) : β (putRep inC st p size j s).d := by
  unfold putRep
  simp only
  refine stays_lenAt K _ _ _ ?_
  split
  · exact stays_bitAt K _ _ (stays_bitAt K _ _ h)
  · split
    · exact stays_bitAt K _ _ (stays_bitAt K _ _ h)
    · exact stays_bitAt K _ _ (stays_bitAt K _ _ (stays_bitAt K _ _ h))
theorem stays_putMatch (K : Stays inC β) (k : LK) (tot size d st : Nat) (rep : Nat → Nat) {s : CP Enc} (h : β s.d) : β (putMatch k tot size d st rep s).2.2.d := by
  unfold putMatch
  simp only
  split
  · exact stays_distAt K _ _ (stays_lenAt K _ _ _ (stays_bitAt K _ _ (stays_bitAt K _ _ h)))
  · exact stays_putRep K _ _ _ _ (stays_bitAt K _ _ (stays_bitAt K _ _ h))
theorem stays_putLit (K : Stays inC β) (k : LK) (bs : List UInt8) (tot pos st : Nat) (rep : Nat → Nat) {s : CP Enc} (h : β s.d) : β (putLit k bs tot pos st rep s).d := stays_litAt K _ _ _ _ _ _ _ (stays_bitAt K _ _ h)
set_option maxRecDepth 100000 in
theorem stays_wOp (K : Stays inC β) (k : LK) (bs : List UInt8) (fr total : Nat) (o : Option (Nat × Nat)) {x : PS} (h : β x.s.d) : β (wOp k bs fr total x o).s.d := by
  cases o with
  | none => exact stays_putLit K _ _ _ _ _ _ h
  | some m => exact stays_putMatch K _ _ _ _ _ _ h
theorem stays_wOps (K : Stays inC β) (k : LK) (bs : List UInt8) (fr total : Nat) : ∀ (l : List (Option (Nat × Nat))) {x : PS}, β x.s.d → β (wOps k bs fr total l x).s.d
  | [], _, h => h
  | o :: l, x, h => stays_wOps K k bs fr total l (stays_wOp K k bs fr total o h)
end
/-- Backwards: what may still come tq9 the end. -/
theorem sub_bitAt {B : List UInt8} {F : Enc} (ht : Rng.Told B F) (i x : Nat) {s : CP Enc} (h : EncI s.d) (hg : Sub (bitAt inC i x s).2.d F) : Sub s.d F := (stays_bitAt (since_stays (ranges_back ht) s.d) i x (Since.refl h)).2 hg
theorem sub_lenAt {B : List UInt8} {F : Enc} (ht : Rng.Told B F) (b n p : Nat) {s : CP Enc} (h : EncI s.d) (hg : Sub (lenAt inC b n p s).2.d F) : Sub s.d F := (stays_lenAt (since_stays (ranges_back ht) s.d) b n p (Since.refl h)).2 hg
theorem sub_distAt {B : List UInt8} {F : Enc} (ht : Rng.Told B F) (d n : Nat) {s : CP Enc} (h : EncI s.d) (hg : Sub (distAt inC d n s).2.d F) : Sub s.d F := (stays_distAt (since_stays (ranges_back ht) s.d) d n (Since.refl h)).2 hg
theorem sub_litAt {B : List UInt8} {F : Enc} (ht : Rng.Told B F) (lc lp st total ahead far x : Nat) {s : CP Enc} (h : EncI s.d) (hg : Sub (litAt inC lc lp st total ahead far x s).2.d F) : Sub s.d F := (stays_litAt (since_stays (ranges_back ht) s.d) lc lp st total ahead far x (Since.refl h)).2 hg
theorem sub_wOps {B : List UInt8} {F : Enc} (ht : Rng.Told B F) (k : LK) (bs : List UInt8) (fr total : Nat) (l : List (Option (Nat × Nat))) {x : PS} (h : EncI x.s.d) (hg : Sub (wOps k bs fr total l x).s.d F) : Sub x.s.d F := (stays_wOps (since_stays (ranges_back ht) x.s.d) k bs fr total l (Since.refl h)).2 hg
/-- A repeat. -/
theorem rep_back {B : List UInt8} {F : Enc} (ht : Rng.Told B F) (st p size j : Nat) (rep : Nat → Nat) {s : CP Enc} {t : CP Dec} (hI : EncI s.d) (hp : Pair (RD B) s t) (hj : j < 4) (h2 : 2 ≤ size) (hs : size ≤ 273) (hg : Sub (putRep inC st p size j s).d F) :
    ∃ t', repOf outC st p rep t = (size, behS st 2, (if j = 0 then rep else takeS rep j), t') ∧ Pair (RD B) (putRep inC st p size j s) t' := by
  have K := ranges_back ht
  unfold putRep at hg ⊢
  simp only at hg ⊢
  unfold repOf
  simp only
  by_cases h0 : j = 0
  · subst h0
    rw [if_pos rfl, if_pos rfl] at hg ⊢
    have i1 := stays_bitAt K.inv (212 + st) 0 hI
    have i2 := stays_bitAt K.inv (248 + st * 16 + p) 1 i1
    have g2 := sub_lenAt ht _ _ _ i2 hg
    have g1 := sub_bitAt ht _ _ i1 g2
    obtain ⟨a1, a2⟩ := back_bitAt K (212 + st) 0 0 hI hp g1
    obtain ⟨b1, b2⟩ := back_bitAt K (248 + st * 16 + p) 1 0 i1 a2 g2
    obtain ⟨c1, c2⟩ := back_lenAt K 1354 size 2 p i2 b2 hg
    rw [bitIn_val _ _ _ (by omega)] at a1 b1
    rw [lenAt_in _ _ _ _ h2 hs] at c1
    rw [← a1, if_pos rfl, ← b1, if_neg (by omega), ← c1, if_pos rfl]
    exact ⟨_, rfl, c2⟩
  · rw [if_neg h0, if_neg h0] at hg ⊢
    have i1 := stays_bitAt K.inv (212 + st) 1 hI
    by_cases h1 : j = 1
    · subst h1
      rw [if_pos rfl, if_pos rfl] at hg ⊢
      have i2 := stays_bitAt K.inv (224 + st) 0 i1
      have g2 := sub_lenAt ht _ _ _ i2 hg
      have g1 := sub_bitAt ht _ _ i1 g2
      obtain ⟨a1, a2⟩ := back_bitAt K (212 + st) 1 0 hI hp g1
      obtain ⟨b1, b2⟩ := back_bitAt K (224 + st) 0 0 i1 a2 g2
      obtain ⟨c1, c2⟩ := back_lenAt K 1354 size 2 p i2 b2 hg
      rw [bitIn_val _ _ _ (by omega)] at a1 b1
      rw [lenAt_in _ _ _ _ h2 hs] at c1
      rw [← a1, if_neg (by omega), ← b1, if_neg (by omega), ← c1, if_neg (by omega)]
      exact ⟨_, rfl, c2⟩
    · rw [if_neg h1, if_neg h1] at hg ⊢
      have i2 := stays_bitAt K.inv (224 + st) 1 i1
      have i3 := stays_bitAt K.inv (236 + st) (j - 2) i2
      have g3 := sub_lenAt ht _ _ _ i3 hg
      have g2 := sub_bitAt ht _ _ i2 g3
      have g1 := sub_bitAt ht _ _ i1 g2
      obtain ⟨a1, a2⟩ := back_bitAt K (212 + st) 1 0 hI hp g1
      obtain ⟨b1, b2⟩ := back_bitAt K (224 + st) 1 0 i1 a2 g2
      obtain ⟨d1, d2⟩ := back_bitAt K (236 + st) (j - 2) 0 i2 b2 g3
      obtain ⟨c1, c2⟩ := back_lenAt K 1354 size 2 p i3 d2 hg
      rw [bitIn_val _ _ _ (by omega)] at a1 b1 d1
      rw [lenAt_in _ _ _ _ h2 hs] at c1
      rw [← a1, if_neg (by omega), ← b1, if_pos rfl, ← c1, ← d1, if_neg h0]
      refine ⟨_, ?_, c2⟩
      rw [show 2 + (j - 2) = j by omega]
/-- A match, behind its first bit. -/
theorem match_back {B : List UInt8} {F : Enc} (ht : Rng.Told B F) (k : LK) (tot size d st : Nat) (rep : Nat → Nat) {s : CP Enc} {t : CP Dec} (hI : EncI s.d) (hp : Pair (RD B) s t) (h2 : 2 ≤ size) (hs : size ≤ 273) (hd : d < 4294967296) (hg : Sub (putMatch k tot size d st rep s).2.2.d F) :
    ∃ t', (bitAt outC (8 + st * 16 + tot % 2 ^ k.pb) 0 t).1 = 1 ∧ opOf outC st (tot % 2 ^ k.pb) rep (bitAt outC (8 + st * 16 + tot % 2 ^ k.pb) 0 t).2 = (size, (putMatch k tot size d st rep s).1, (putMatch k tot size d st rep s).2.1, t') ∧ (putMatch k tot size d st rep s).2.1 0 = d ∧ Pair (RD B) (putMatch k tot size d st rep s).2.2 t' := by
  have K := ranges_back ht
  obtain ⟨j, hj⟩ : ∃ j, idxOf rep d = j := ⟨_, rfl⟩
  have hm : putMatch k tot size d st rep s = putMatch k tot size d st rep s := rfl
  unfold putMatch at hg ⊢
  simp only at hg ⊢
  rw [hj] at hg ⊢
  have i1 := stays_bitAt K.inv (8 + st * 16 + tot % 2 ^ k.pb) 1 hI
  by_cases h4 : j = 4
  · subst h4
    rw [if_pos rfl] at hg ⊢
    have i2 := stays_bitAt K.inv (200 + st) 0 i1
    have i3 := stays_lenAt K.inv 840 size (tot % 2 ^ k.pb) i2
    have g3 := sub_distAt ht _ _ i3 hg
    have g2 := sub_lenAt ht _ _ _ i2 g3
    have g1 := sub_bitAt ht _ _ i1 g2
    obtain ⟨a1, a2⟩ := back_bitAt K (8 + st * 16 + tot % 2 ^ k.pb) 1 0 hI hp g1
    obtain ⟨b1, b2⟩ := back_bitAt K (200 + st) 0 0 i1 a2 g2
    obtain ⟨c1, c2⟩ := back_lenAt K 840 size 2 (tot % 2 ^ k.pb) i2 b2 g3
    obtain ⟨e1, e2⟩ := back_distAt K d 0 size i3 c2 (by rw [treeAt_in _ _ _ _ (slot_lt hd)]; exact slot_lt hd) hg
    rw [bitIn_val _ _ _ (by omega)] at a1 b1
    rw [lenAt_in _ _ _ _ h2 hs] at c1
    rw [distAt_in _ _ _ hd] at e1
    unfold opOf
    simp only
    rw [← a1, ← b1, if_neg (by omega), ← c1, ← e1]
    exact ⟨_, rfl, rfl, rfl, e2⟩
  · rw [if_neg h4] at hg ⊢
    have hj4 : j < 4 := by have := idxOf_le rep d; omega
    have i2 := stays_bitAt K.inv (200 + st) 1 i1
    have hr : rep j = d := by rw [← hj]; exact idxOf_rep (by omega)
    have g2 : Sub (bitAt inC (200 + st) 1 (bitAt inC (8 + st * 16 + tot % 2 ^ k.pb) 1 s).2).2.d F := (stays_putRep (since_stays K _) _ _ _ _ (Since.refl i2)).2 hg
    have g1 := sub_bitAt ht _ _ i1 g2
    obtain ⟨a1, a2⟩ := back_bitAt K (8 + st * 16 + tot % 2 ^ k.pb) 1 0 hI hp g1
    obtain ⟨b1, b2⟩ := back_bitAt K (200 + st) 1 0 i1 a2 g2
    obtain ⟨t', c1, c2⟩ := rep_back ht st (tot % 2 ^ k.pb) size j rep i2 b2 hj4 h2 hs hg
    rw [bitIn_val _ _ _ (by omega)] at a1 b1
    refine ⟨t', a1.symm, ?_, ?_, c2⟩
    · unfold opOf
      simp only
      rw [← b1, if_pos rfl, c1]
    · show (if j = 0 then rep else takeS rep j) 0 = d
      by_cases h0 : j = 0
      · rw [if_pos h0, ← hr, h0]
      · rw [if_neg h0]
        unfold takeS
        rw [if_pos rfl, hr]
theorem atB_take (bs : List UInt8) {pos back : Nat} (h1 : 1 ≤ back) (hp : pos ≤ bs.length) : atB (bs.take pos) back = if back ≤ pos then bs.getD (pos - back) 0 else 0 := by
  unfold atB
  have hl : (bs.take pos).length = pos := by rw [List.length_take]; omega
  rw [hl]
  by_cases hb : back ≤ pos
  · rw [if_pos ⟨h1, hb⟩, if_pos hb, List.getD_eq_getElem?_getD, List.getD_eq_getElem?_getD, List.getElem?_take, if_pos (by omega)]
  · rw [if_neg (fun h => hb h.2), if_neg hb]
theorem getD_take (bs : List UInt8) {pos i : Nat} (h : i < pos) : (bs.take pos).getD i 0 = bs.getD i 0 := by
  rw [List.getD_eq_getElem?_getD, List.getD_eq_getElem?_getD, List.getElem?_take, if_pos h]
/-- A match copies the text. -/
theorem cyc_text {bs : List UInt8} {pos d : Nat} (hp : d + 1 ≤ pos) : ∀ (n : Nat), pos + n ≤ bs.length → (∀ i, i < n → bs.getD (pos + i) 0 = bs.getD (pos + i - (d + 1)) 0) → ∀ i, i < n → bs.getD (pos - (d + 1) + i % (d + 1)) 0 = bs.getD (pos + i) 0 := by
  intro n hn h i hi
  induction i using Nat.strongRecOn with
  | ind i ih =>
    rw [h i hi]
    by_cases hlt : i < d + 1
    · rw [Nat.mod_eq_of_lt hlt, show pos - (d + 1) + i = pos + i - (d + 1) by omega]
    · have e := ih (i - (d + 1)) (by omega) (by omega)
      rw [show i % (d + 1) = (i - (d + 1)) % (d + 1) by rw [Nat.mod_eq_sub_mod (by omega)], e, show pos + (i - (d + 1)) = pos + i - (d + 1) by omega]
theorem cyc_row {bs : List UInt8} {pos d n : Nat} (hp : d + 1 ≤ pos) (hn : pos + n ≤ bs.length) (h : ∀ i, i < n → bs.getD (pos + i) 0 = bs.getD (pos + i - (d + 1)) 0) : cyc (bs.take pos) (d + 1) n = (bs.drop pos).take n := by
  have hl : (bs.take pos).length = pos := by rw [List.length_take]; omega
  apply List.ext_getElem?
  intro i
  by_cases hi : i < n
  · unfold cyc
    rw [List.getElem?_map, List.getElem?_range hi, List.getElem?_take, if_pos hi, List.getElem?_drop]
    have hlt : pos + i < bs.length := by omega
    rw [List.getElem?_eq_getElem hlt]
    simp only [Option.map_some]
    rw [hl, getD_take bs (by have := Nat.mod_lt i (show 0 < d + 1 by omega); omega), cyc_text hp n hn h i hi, List.getD_eq_getElem?_getD, List.getElem?_eq_getElem hlt]
    rfl
  · rw [List.getElem?_eq_none (by rw [cyc_length]; omega), List.getElem?_eq_none (by rw [List.length_take]; omega)]
theorem litOf_take {σ : Type} (co : Cod σ) (k : LK) (st tot : Nat) (rep : Nat → Nat) (bs : List UInt8) (pos : Nat) (s : CP σ) (hp : pos ≤ bs.length) (hb : bs.length ≤ 16777216) :
    litOf co k st tot rep (bs.take pos) s = litAt co k.lc k.lp st tot (if 0 < tot ∧ 0 < pos then (bs.getD (pos - 1) 0).toNat else 0) (if rep 0 + 1 ≤ pos then (bs.getD (pos - (rep 0 + 1)) 0).toNat else 0) 0 s := by
  unfold litOf
  have e1 : (if 0 < tot then (atB (bs.take pos) 1).toNat else 0) = (if 0 < tot ∧ 0 < pos then (bs.getD (pos - 1) 0).toNat else 0) := by
    rw [atB_take bs (by omega) hp]
    by_cases h0 : 0 < tot
    · by_cases h1 : 0 < pos
      · rw [if_pos h0, if_pos (show 1 ≤ pos from h1), if_pos ⟨h0, h1⟩]
      · rw [if_pos h0, if_neg (show ¬ 1 ≤ pos from h1), if_neg (fun h => h1 h.2)]
        rfl
    · rw [if_neg h0, if_neg (fun h => h0 h.1)]
  have e2 : (if rep 0 < 16777216 then (atB (bs.take pos) (rep 0 + 1)).toNat else 0) = (if rep 0 + 1 ≤ pos then (bs.getD (pos - (rep 0 + 1)) 0).toNat else 0) := by
    rw [atB_take bs (by omega) hp]
    by_cases h1 : rep 0 + 1 ≤ pos
    · rw [if_pos (show rep 0 < 16777216 by omega), if_pos h1, if_pos h1]
    · rw [if_neg h1, if_neg h1]
      split <;> rfl
  rw [e1, e2]
theorem take_snoc (bs : List UInt8) {pos : Nat} (h : pos < bs.length) : bs.take pos ++ [bs.getD pos 0] = bs.take (pos + 1) := by
  rw [List.take_add_one, List.getD_eq_getElem?_getD, List.getElem?_eq_getElem h]
  rfl
theorem told_more (bs : List UInt8) {fr pos n : Nat} (hf : fr ≤ pos) (h : pos + n ≤ bs.length) : (bs.take pos).drop fr ++ (bs.drop pos).take n = (bs.take (pos + n)).drop fr := by
  rw [List.take_add, List.drop_append, List.length_take, Nat.min_eq_left (by omega), show fr - pos = 0 by omega, List.drop_zero]
theorem take_more (bs : List UInt8) (pos n : Nat) : bs.take pos ++ (bs.drop pos).take n = bs.take (pos + n) := by
  rw [List.take_add]
/-- Writer and reader side by side. -/
structure Both (B bs : List UInt8) (fr : Nat) (x : PS) (y : RS) (told : List UInt8) : Prop where
  i : EncI x.s.d
  p : Pair (RD B) x.s y.s
  st : y.st = x.st
  rep : y.rep = x.rep
  c : y.C = bs.take x.pos
  t : told = (bs.take x.pos).drop fr
  f : fr ≤ x.pos
  n : x.pos ≤ bs.length
theorem Both.len {B bs : List UInt8} {fr : Nat} {x : PS} {y : RS} {told : List UInt8} (h : Both B bs fr x y told) : told.length = x.pos - fr := by
  rw [h.t, List.length_drop, List.length_take, Nat.min_eq_left h.n]
set_option maxRecDepth 100000 in
theorem op_lit {B bs : List UInt8} {F : Enc} (ht : Rng.Told B F) (k : LK) (S fr total room : Nat) {x : PS} {y : RS} {told : List UInt8} (h : Both B bs fr x y told) (hS : bs.length ≤ S) (hb : bs.length ≤ 16777216) (hlt : x.pos < bs.length)
    (hg : Sub (wOp k bs fr total x none).s.d F) : ∃ b y', stepOf k S (total + told.length) room y = some (b, y') ∧ b.length = 1 ∧ Both B bs fr (wOp k bs fr total x none) y' (told ++ b) := by
  have K := ranges_back ht
  have hlen := h.len
  obtain ⟨hI, hp, h1, h2, h3, h4, h5, h6⟩ := h
  obtain ⟨yst, yrep, ys, yC⟩ := y
  obtain ⟨pos, st, rep, s⟩ := x
  simp only at hI hp h1 h2 h3 h4 h5 h6 hlt hlen
  subst h1; subst h2; subst h3
  unfold wOp at hg ⊢
  simp only at hg ⊢
  rw [hlen]
  unfold putLit at hg ⊢
  generalize hT : total + (pos - fr) = T at *
  have i1 := stays_bitAt K.inv (8 + yst * 16 + T % 2 ^ k.pb) 0 hI
  have g1 := sub_litAt ht _ _ _ _ _ _ _ i1 hg
  obtain ⟨a1, a2⟩ := back_bitAt K (8 + yst * 16 + T % 2 ^ k.pb) 0 0 hI hp g1
  obtain ⟨b1, b2⟩ := back_litAt K k.lc k.lp yst T (if 0 < T ∧ 0 < pos then (bs.getD (pos - 1) 0).toNat else 0) (if yrep 0 + 1 ≤ pos then (bs.getD (pos - (yrep 0 + 1)) 0).toNat else 0) (bs.getD pos 0).toNat 0 i1 a2 hg
  rw [bitIn_val _ _ _ (by omega)] at a1
  rw [litIn_any] at b1
  unfold stepOf
  simp only
  rw [← a1, if_pos rfl, litOf_take _ _ _ _ _ _ _ _ (by omega) hb, ← b1, UInt8.ofNat_toNat]
  refine ⟨_, _, rfl, rfl, ?_⟩
  refine ⟨stays_litAt K.inv _ _ _ _ _ _ _ i1, b2, rfl, rfl, ?_, ?_, by simp only; omega, by simp only; omega⟩
  · simp only
    rw [take_snoc bs hlt, lastN_all (by rw [List.length_take]; omega)]
  · simp only
    rw [h4, ← take_snoc bs hlt, List.drop_append, List.length_take, Nat.min_eq_left (by omega), show fr - pos = 0 by omega]
    rfl
set_option maxRecDepth 100000 in
theorem op_match {B bs : List UInt8} {F : Enc} (ht : Rng.Told B F) (k : LK) (S fr total room : Nat) (m : Nat × Nat) {x : PS} {y : RS} {told : List UInt8} (h : Both B bs fr x y told) (hS : bs.length ≤ S) (hb : bs.length ≤ 16777216) (h2 : 2 ≤ m.1) (hs : m.1 ≤ 273) (hn : x.pos + m.1 ≤ bs.length) (hroom : m.1 ≤ room) (hd : m.2 + 1 ≤ x.pos)
    (he : ∀ i, i < m.1 → bs.getD (x.pos + i) 0 = bs.getD (x.pos + i - (m.2 + 1)) 0)
    (hg : Sub (wOp k bs fr total x (some m)).s.d F) : ∃ b y', stepOf k S (total + told.length) room y = some (b, y') ∧ b.length = m.1 ∧ Both B bs fr (wOp k bs fr total x (some m)) y' (told ++ b) := by
  have K := ranges_back ht
  have hlen := h.len
  obtain ⟨hI, hp, h1, h2', h3, h4, h5, h6⟩ := h
  obtain ⟨yst, yrep, ys, yC⟩ := y
  obtain ⟨pos, st, rep, s⟩ := x
  obtain ⟨size, d⟩ := m
  simp only at hI hp h1 h2' h3 h4 h5 h6 hlen h2 hs hn hroom hd he
  subst h1; subst h2'; subst h3
  unfold wOp at hg ⊢
  simp only at hg ⊢
  rw [hlen]
  generalize hT : total + (pos - fr) = T at *
  obtain ⟨t', a1, a2, a3, a4⟩ := match_back ht k T size d yst yrep hI hp h2 hs (by omega) hg
  unfold stepOf
  simp only
  rw [a1, if_neg (by omega), a2]
  simp only
  rw [a3]
  have hl : (bs.take pos).length = pos := by rw [List.length_take]; omega
  rw [hl, if_pos ⟨hroom, hd⟩, cyc_row hd hn he]
  refine ⟨_, _, rfl, by rw [List.length_take, List.length_drop]; omega, ?_⟩
  refine ⟨stays_putMatch K.inv _ _ _ _ _ _ hI, a4, rfl, rfl, ?_, ?_, by simp only; omega, by simp only; omega⟩
  · simp only
    rw [take_more, lastN_all (by rw [List.length_take]; omega)]
  · simp only
    rw [h4]
    exact told_more bs h5 hn
set_option maxRecDepth 100000 in
theorem ops_back {B bs : List UInt8} {F : Enc} (ht : Rng.Told B F) (k : LK) (S fr total n : Nat) (hS : bs.length ≤ S) (hb : bs.length ≤ 16777216) (hn : n = bs.length - fr) : ∀ (l : List (Option (Nat × Nat))) (f : Nat) {x : PS} {y : RS} {told : List UInt8}, Both B bs fr x y told → OkOps bs x.pos l → n < f + told.length → (wOps k bs fr total l x).s.d = F →
    ∃ y', chunkGo k S total n f told y = some (bs.drop fr, y') ∧ Both B bs fr (wOps k bs fr total l x) y' (bs.drop fr)
  | [], f, x, y, told, h, hok, hf, hF => by
    have hpos : x.pos = bs.length := hok
    have hlen := h.len
    have htd : told = bs.drop fr := by rw [h.t, hpos, List.take_length]
    have hnt : n ≤ told.length := by omega
    cases f with
    | zero => omega
    | succ f =>
      unfold chunkGo
      rw [if_pos hnt, htd]
      exact ⟨y, rfl, htd ▸ h⟩
  | o :: l, f, x, y, told, h, hok, hf, hF => by
    have hlen := h.len
    have hF' : (wOps k bs fr total l (wOp k bs fr total x o)).s.d = F := hF
    have hi2 := stays_wOp (ranges_back ht).inv k bs fr total o h.i
    have hg := sub_wOps ht k bs fr total l hi2 (by rw [hF']; exact Sub.refl _)
    have hh : x.pos < bs.length ∧ ∃ b y', stepOf k S (total + told.length) (n - told.length) y = some (b, y') ∧ 1 ≤ b.length ∧ Both B bs fr (wOp k bs fr total x o) y' (told ++ b) ∧ OkOps bs (wOp k bs fr total x o).pos l := by
      cases o with
      | none =>
        obtain ⟨a, c⟩ := hok
        obtain ⟨b, y', e1, e2, e3⟩ := op_lit ht k S fr total (n - told.length) h hS hb a hg
        exact ⟨a, b, y', e1, by omega, e3, c⟩
      | some m =>
        obtain ⟨a1, a2, a3, a4, a5, c⟩ := hok
        obtain ⟨b, y', e1, e2, e3⟩ := op_match ht k S fr total (n - told.length) m h hS hb a1 a2 a3 (by have := h.f; omega) a4 a5 hg
        exact ⟨by omega, b, y', e1, by omega, e3, c⟩
    obtain ⟨hlt, b, y', e1, e2, e3, e4⟩ := hh
    cases f with
    | zero => have := h.f; omega
    | succ f =>
      obtain ⟨z, z1, z2⟩ := ops_back ht k S fr total n hS hb hn l f e3 e4 (by rw [List.length_append]; omega) hF'
      unfold chunkGo
      rw [if_neg (by have := h.f; omega), e1]
      exact ⟨z, z1, z2⟩
/-- The chunk of operations. -/
def opsB (k : LK) (bs : List UInt8) (fr total st : Nat) (rep : Nat → Nat) (pr : Pr) (l : List (Option (Nat × Nat))) : List UInt8 := (wOps k bs fr (totOf total) l ⟨fr, st, rep, ⟨newEnc, pr⟩⟩).s.d.close.out
theorem ops_read (k : LK) (S : Nat) (bs : List UInt8) (fr total st : Nat) (rep : Nat → Nat) (pr : Pr) (l : List (Option (Nat × Nat))) (hok : OkOps bs fr l) (hf : fr ≤ bs.length) (hS : bs.length ≤ S) (hb : bs.length ≤ 16777216) :
    ∃ y, chunkOf k S total (bs.length - fr) st rep pr (bs.take fr) (opsB k bs fr total st rep pr l) = some (bs.drop fr, y) ∧ y.st = (wOps k bs fr (totOf total) l ⟨fr, st, rep, ⟨newEnc, pr⟩⟩).st ∧ y.rep = (wOps k bs fr (totOf total) l ⟨fr, st, rep, ⟨newEnc, pr⟩⟩).rep ∧ y.s.pr = (wOps k bs fr (totOf total) l ⟨fr, st, rep, ⟨newEnc, pr⟩⟩).s.pr := by
  have hI : EncI (wOps k bs fr (totOf total) l ⟨fr, st, rep, ⟨newEnc, pr⟩⟩).s.d := stays_wOps encI_stays k bs fr (totOf total) l (x := ⟨fr, st, rep, ⟨newEnc, pr⟩⟩) encI_new
  have ht := told_close hI
  have hsub : Sub newEnc (wOps k bs fr (totOf total) l ⟨fr, st, rep, ⟨newEnc, pr⟩⟩).s.d := sub_wOps ht k bs fr (totOf total) l (x := ⟨fr, st, rep, ⟨newEnc, pr⟩⟩) encI_new (Sub.refl _)
  obtain ⟨h1, h2⟩ := told_head ht hsub
  unfold chunkOf opsB
  have h1' : ¬ newErr (wOps k bs fr (totOf total) l ⟨fr, st, rep, ⟨newEnc, pr⟩⟩).s.d.close.out ≠ 0 := fun h => h h1
  rw [if_neg h1']
  obtain ⟨y, h3, h4⟩ := ops_back ht k S fr (totOf total) (bs.length - fr) hS hb rfl l (bs.length - fr + 1) (x := ⟨fr, st, rep, ⟨newEnc, pr⟩⟩) (y := ⟨st, rep, ⟨newDec _, pr⟩, bs.take fr⟩) (told := []) ⟨encI_new, ⟨h2, rfl⟩, rfl, rfl, rfl, by simp only; rw [List.drop_of_length_le (by rw [List.length_take]; omega)], Nat.le_refl _, hf⟩ hok (by simp) rfl
  rw [h3]
  simp only
  rw [if_pos (Lz.told_end ht h4.p.1)]
  exact ⟨y, rfl, h4.st, h4.rep, h4.p.2.symm⟩
end Go.Proofs.Ythcgglacbgjdhaa

/- Steps of a text, in plain Lean: what they tell. -/
namespace Go.Proofs.Ythcgglacbgjdhaa.Fnd
open Go.RowKit
set_option linter.unusedVariables false
set_option linter.unusedSimpArgs false

structure Sq where
  lits : Int
  mat : Int
  back : Int
instance : Inhabited Sq := ⟨⟨0, 0, 0⟩⟩

def maxC : Nat := 16777216
/-- n bytes more, each the one that stands k behind. -/
def copyBack (k : Nat) : Nat → List UInt8 → List UInt8
  | 0, out => out
  | n + 1, out => copyBack k n (out ++ [out.getD (out.length - k) 0])
theorem copyBack_length (k : Nat) : ∀ (n : Nat) (out : List UInt8), (copyBack k n out).length = out.length + n
  | 0, _ => rfl
  | n + 1, out => by rw [copyBack, copyBack_length k n]; simp; omega

def Bad1 (s : Sq) (rest : Nat) : Prop := s.lits < 0 ∨ s.mat < 0 ∨ s.back < 0 ∨ (rest : Int) < s.lits
def Bad2 (s : Sq) (out1 : Nat) : Prop := (0 < s.mat ∧ (s.back = 0 ∨ (out1 : Int) < s.back)) ∨ (maxC : Int) - out1 < s.mat
instance (s : Sq) (n : Nat) : Decidable (Bad1 s n) := by unfold Bad1; infer_instance
instance (s : Sq) (n : Nat) : Decidable (Bad2 s n) := by unfold Bad2; infer_instance
/-- What steps make of a text's first bytes and of the bytes that stand behind; none: they are malformed. -/
def backGo : List Sq → List UInt8 → List UInt8 → Option (List UInt8)
  | [], out, _ => if maxC < out.length then none else some out
  | s :: l, out, rest =>
    if Bad1 s rest.length then none
    else if Bad2 s (out ++ rest.take s.lits.toNat).length then none
    else backGo l (copyBack s.back.toNat s.mat.toNat (out ++ rest.take s.lits.toNat)) (rest.drop s.lits.toNat)

inductive Tale
  | arg
  | malformed
  | ok (out : List UInt8)
def back (b : List UInt8) (from_ : Int) (l : List Sq) : Tale :=
  if from_ < 0 ∨ (b.length : Int) < from_ then .arg
  else match backGo l (b.take from_.toNat) (b.drop from_.toNat) with
    | none => .malformed
    | some out => .ok out

/-- A slice of steps that came in. -/
def SqRow (w : World) (B : Nat) (A : Option Addr) (l : List Sq) : Prop :=
  0 < l.length → ∃ b off, A = some ⟨b, off, none⟩ ∧ b < B ∧ ∀ k, k < l.length →
    w.cell? ⟨b, off + k * 3, none⟩ = some (.int .i64 (l.getD k default).lits) ∧ w.cell? ⟨b, off + k * 3 + 1, none⟩ = some (.int .i64 (l.getD k default).mat) ∧ w.cell? ⟨b, off + k * 3 + 2, none⟩ = some (.int .i64 (l.getD k default).back)
theorem SqRow.keep {w w' : World} {B : Nat} {A : Option Addr} {l : List Sq} (h : SqRow w B A l) (hk : ∀ b, b < B → w'.heap[b]? = w.heap[b]?) : SqRow w' B A l := by
  intro hn
  obtain ⟨b, off, rfl, hlt, hc⟩ := h hn
  refine ⟨b, off, rfl, hlt, fun k hk' => ?_⟩
  obtain ⟨h1, h2, h3⟩ := hc k hk'
  exact ⟨(World.cell?_of_block (a := ⟨b, off + k * 3, none⟩) (hk b hlt)).trans h1, (World.cell?_of_block (a := ⟨b, off + k * 3 + 1, none⟩) (hk b hlt)).trans h2, (World.cell?_of_block (a := ⟨b, off + k * 3 + 2, none⟩) (hk b hlt)).trans h3⟩
theorem SqRow.below {w w' : World} {B : Nat} {A : Option Addr} {l : List Sq} (h : SqRow w B A l) (hb : Below B w w') : SqRow w' B A l := h.keep fun b hb' => hb.block b hb'
theorem SqRow.more {w : World} {B B' : Nat} {A : Option Addr} {l : List Sq} (h : SqRow w B A l) (hB : B ≤ B') : SqRow w B' A l := by
  intro hn
  obtain ⟨b, off, rfl, hlt, hc⟩ := h hn
  exact ⟨b, off, rfl, by omega, hc⟩
/-- Numbers of an int. -/
def Sq.fits (s : Sq) : Prop := (-9223372036854775808 ≤ s.lits ∧ s.lits ≤ 9223372036854775807) ∧ (-9223372036854775808 ≤ s.mat ∧ s.mat ≤ 9223372036854775807) ∧ (-9223372036854775808 ≤ s.back ∧ s.back ≤ 9223372036854775807)
theorem min2_int {P : Program} (ts : Array TypeId) (t : TypeId) (x y n : Int) (h : min x y = n) (w : World) : (Builtin.min_ ts t #[.int .i64 x, .int .i64 y]).run P w = .ok (.int .i64 n) w := by
  have e : (if y < x then y else x) = n := by split <;> omega
  rw [← e]
  simp [Builtin.min_, Builtin.min2]
theorem max2_int {P : Program} (ts : Array TypeId) (t : TypeId) (x y n : Int) (h : max x y = n) (w : World) : (Builtin.max_ ts t #[.int .i64 x, .int .i64 y]).run P w = .ok (.int .i64 n) w := by
  have e : (if x < y then y else x) = n := by split <;> omega
  rw [← e]
  simp [Builtin.max_, Builtin.max2]
theorem min3_int {P : Program} (ts : Array TypeId) (t : TypeId) (x y z n : Int) (h : min x (min y z) = n) (w : World) : (Builtin.min_ ts t #[.int .i64 x, .int .i64 y, .int .i64 z]).run P w = .ok (.int .i64 n) w := by
  have e : (if z < (if y < x then y else x) then z else (if y < x then y else x)) = n := by split <;> split <;> omega
  rw [← e]
  simp [Builtin.min_, Builtin.min2]
end Go.Proofs.Ythcgglacbgjdhaa.Fnd

/- Whether steps make a text: the walk of right. -/
namespace Go.Proofs.Ythcgglacbgjdhaa
open Go.RowKit Fnd
set_option linter.unusedVariables false
set_option linter.unusedSimpArgs false
def RB1 (s : Sq) (rest : Nat) : Prop := s.lits < 0 ∨ s.mat < 0 ∨ s.mat = 1 ∨ 273 < s.mat ∨ (rest : Int) < s.lits
def RB2 (s : Sq) (len a : Nat) : Prop := ((len - a : Nat) : Int) < s.mat ∨ s.back < 1 ∨ (a : Int) < s.back
instance (s : Sq) (n : Nat) : Decidable (RB1 s n) := by unfold RB1; infer_instance
instance (s : Sq) (n a : Nat) : Decidable (RB2 s n a) := by unfold RB2; infer_instance
def Same (bs : List UInt8) (a n k : Nat) : Prop := ∀ i, i < n → bs.getD (a + i) 0 = bs.getD (a + i - k) 0
instance (bs : List UInt8) (a n k : Nat) : Decidable (Same bs a n k) := by unfold Same; infer_instance
/-- Where steps end that stand in a text; none: they don't. -/
def rightGo (bs : List UInt8) : List Sq → Nat → Option Nat
  | [], a => some a
  | s :: l, a =>
    if RB1 s (bs.length - a) then none
    else if s.mat = 0 then rightGo bs l (a + s.lits.toNat)
    else if RB2 s bs.length (a + s.lits.toNat) then none
    else if Same bs (a + s.lits.toNat) s.mat.toNat s.back.toNat then rightGo bs l (a + s.lits.toNat + s.mat.toNat)
    else none
def rightEnd (n fr : Nat) : Option Nat → Bool
  | none => false
  | some a => decide (a = n ∧ fr < a)
/-- Whether steps make the text from a place on. -/
def rightP (bs : List UInt8) (fr : Nat) (l : List Sq) : Bool := rightEnd bs.length fr (rightGo bs l fr)
set_option maxRecDepth 100000 in
set_option maxHeartbeats 4000000 in
theorem right_p (A : Option Addr) (bs : List UInt8) (n c fr : Nat) (B : Option Addr) (l : List Sq) (m d : Nat) (w : World) (hn : n = bs.length) (hc : bs.length ≤ c) (hr : BRow w w.heap.size A bs) (hlen : bs.length ≤ 140737488355328)
    (hm : m = l.length) (hmd : l.length ≤ d) (hl : SqRow w w.heap.size B l) (hml : l.length ≤ 140737488355328) (hfit : ∀ s ∈ l, s.fits) (hfr : fr ≤ bs.length) :
    Calls Try.prog 15 #[.slice A n c, .int .i64 fr, .slice B m d] w fun e w' => e = .returned (.bool (rightP bs fr l)) ∧ Below w.heap.size w w' := by
  subst hn; subst hm
  obtain ⟨β, hβ⟩ : ∃ β, rightP bs fr l = β := ⟨_, rfl⟩
  rw [hβ]
  obtain ⟨res, hres⟩ : ∃ res, rightGo bs l fr = res := ⟨_, rfl⟩
  have hβ2 : rightEnd bs.length fr res = β := by rw [← hβ, ← hres]; rfl
  have HR := Lib.hid hr
  have HL := Lib.hid hl
  have HF := Lib.hid hfit
  have HRES := Lib.hid hres
  have HE := Lib.hid hβ2
  have HFR := Lib.hid hfr
  clear hr hl hfit hβ hβ2 hres
  go_enter Try.func15, Try.ntmps15
  go_wp2
  go_loopw [1, 14] (fun av iv wr => ∃ k a : Nat, k ≤ l.length ∧ iv = .int .i64 k ∧ av = .int .i64 a ∧ a ≤ bs.length ∧ rightGo bs (l.drop k) a = res ∧ Below w.heap.size w wr) (fun _ iv _ => l.length - (intOf iv).toNat)
  case atStart => exact ⟨0, fr, by omega, rfl, rfl, HFR.out, HRES.out, Below.refl _ _⟩
  case round =>
    obtain ⟨k, a, hk, rfl, rfl, ha, hgo, hbel⟩ := hrel
    have HGO := Lib.hid hgo
    have HB := Lib.hid hbel
    clear hgo hbel
    by_cases hkl : k < l.length
    · obtain ⟨b, off, hB, hb, hcell⟩ := HL.out (by omega)
      subst hB
      obtain ⟨c0, c1, c2⟩ := hcell k hkl
      have hs : ∃ s, l.getD k default = s := ⟨_, rfl⟩
      obtain ⟨s, hs⟩ := hs
      rw [hs] at c0 c1 c2
      have hdrop : l.drop k = s :: l.drop (k + 1) := by
        rw [List.drop_eq_getElem_cons hkl, ← hs]
        simp [List.getD, hkl]
      have x0 := (HB.out.cell (p := ⟨b, off + k * 3, none⟩) hb).trans c0
      have x1 := (HB.out.cell (p := ⟨b, off + k * 3 + 1, none⟩) hb).trans c1
      have x2 := (HB.out.cell (p := ⟨b, off + k * 3 + 2, none⟩) hb).trans c2
      obtain ⟨⟨s0, s1⟩, ⟨s2, s3⟩, s4, s5⟩ := HF.out s (by rw [← hs]; simp [List.getD, hkl])
      have HDR := Lib.hid hdrop
      clear hcell c0 c1 c2 hs hdrop
      obtain ⟨sl, sm, sb⟩ := s
      simp only at x0 x1 x2 s0 s1 s2 s3 s4 s5
      obtain ⟨mn, hmn⟩ : ∃ mn, min sl sm = mn := ⟨_, rfl⟩
      have hmin := fun w => min2_int (P := Try.prog) #[3, 3] 3 sl sm mn hmn w
      have hg := HGO.out
      rw [HDR.out, rightGo] at hg
      clear HGO HDR
      obtain ⟨r, hr⟩ : ∃ r, bs.length - a = r := ⟨_, rfl⟩
      rw [hr] at hg
      have hri : (bs.length : Int) - (a : Int) = (r : Int) := by omega
      have hrw : IntKind.i64.wrap (r : Int) = (r : Int) := Go.IntWalk.i64_in _ (by omega)
      have HBX := Lib.hid (HB.out.alloc HB.out.size (.cells #[.int .i64 sl, .int .i64 sm, .int .i64 sb] 31))
      by_cases hbad : RB1 ⟨sl, sm, sb⟩ r
      · rw [if_pos hbad] at hg
        have hβf : β = false := by rw [← HE.out, ← hg]; rfl
        subst hβf
        unfold RB1 at hbad
        simp only at hbad
        clear hg hr
        have hcase : mn < 0 ∨ (0 ≤ mn ∧ sm = 1) ∨ (0 ≤ mn ∧ (sm == 1) = false ∧ 273 < sm) ∨ (0 ≤ mn ∧ (sm == 1) = false ∧ sm ≤ 273 ∧ (r : Int) < sl) := by
          by_cases h1 : sm = 1
          · by_cases h0 : mn < 0
            · exact .inl h0
            · exact .inr (.inl ⟨by omega, h1⟩)
          · have e : (sm == 1) = false := beq_eq_false_iff_ne.2 h1
            by_cases h0 : mn < 0
            · exact .inl h0
            · by_cases h2 : 273 < sm
              · exact .inr (.inr (.inl ⟨by omega, e, h2⟩))
              · exact .inr (.inr (.inr ⟨by omega, e, by omega, by omega⟩))
        clear hmn hbad
        rcases hcase with h0 | ⟨h0, h1⟩ | ⟨h0, h1, h2⟩ | ⟨h0, h1, h2, h3⟩
        · go_wp2
          go_ret
          exact ⟨rfl, HBX.out⟩
        · subst h1
          go_wp2
          go_ret
          exact ⟨rfl, HBX.out⟩
        · go_wp2
          go_ret
          exact ⟨rfl, HBX.out⟩
        · go_wp2
          go_ret
          exact ⟨rfl, HBX.out⟩
      · rw [if_neg hbad] at hg
        unfold RB1 at hbad
        simp only at hbad hg
        obtain ⟨L, rfl⟩ : ∃ L : Nat, sl = L := ⟨sl.toNat, by omega⟩
        obtain ⟨M, rfl⟩ : ∃ M : Nat, sm = M := ⟨sm.toNat, by omega⟩
        have h0 : 0 ≤ mn := by omega
        have h1 : ((M : Int) == 1) = false := beq_eq_false_iff_ne.2 (by omega)
        have h2 : (M : Int) ≤ 273 := by omega
        have h3 : (L : Int) ≤ (r : Int) := by omega
        simp only [Int.toNat_natCast] at hg
        obtain ⟨a1, ha1⟩ : ∃ a1, a + L = a1 := ⟨_, rfl⟩
        rw [ha1] at hg
        have ha1i : (a : Int) + (L : Int) = (a1 : Int) := by omega
        have ha1w : IntKind.i64.wrap (a1 : Int) = (a1 : Int) := Go.IntWalk.i64_in _ (by omega)
        have hal : a1 ≤ bs.length := by omega
        have HM1 := Lib.hid (show M ≠ 1 by omega)
        clear hmn hbad ha1
        by_cases hM0 : M = 0
        · have hMe : ((M : Int) == 0) = true := by rw [hM0]; rfl
          rw [if_pos (by omega)] at hg
          have HG := Lib.hid hg
          clear hg hr hM0
          go_wp2
          exact ⟨⟨k + 1, a1, by omega, by go_num, by first | rfl | trivial, hal, HG.out, HBX.out⟩, by simp [intOf]; omega⟩
        · have hMe : ((M : Int) == 0) = false := beq_eq_false_iff_ne.2 (by omega)
          rw [if_neg (by omega)] at hg
          obtain ⟨r1, hr1⟩ : ∃ r1, bs.length - a1 = r1 := ⟨_, rfl⟩
          have hr1i : (bs.length : Int) - (a1 : Int) = (r1 : Int) := by omega
          have hr1w : IntKind.i64.wrap (r1 : Int) = (r1 : Int) := Go.IntWalk.i64_in _ (by omega)
          by_cases hbad2 : RB2 ⟨L, M, sb⟩ bs.length a1
          · rw [if_pos hbad2] at hg
            have hβf : β = false := by rw [← HE.out, ← hg]; rfl
            subst hβf
            unfold RB2 at hbad2
            simp only at hbad2
            rw [hr1] at hbad2
            clear hg hr hr1 hM0
            have hcase : (r1 : Int) < (M : Int) ∨ ((M : Int) ≤ (r1 : Int) ∧ sb < 1) ∨ ((M : Int) ≤ (r1 : Int) ∧ 1 ≤ sb ∧ (a1 : Int) < sb) := by omega
            clear hbad2
            rcases hcase with g0 | ⟨g0, g1⟩ | ⟨g0, g1, g2⟩
            · go_wp2
              go_ret
              exact ⟨rfl, HBX.out⟩
            · go_wp2
              go_ret
              exact ⟨rfl, HBX.out⟩
            · go_wp2
              go_ret
              exact ⟨rfl, HBX.out⟩
          · rw [if_neg hbad2] at hg
            unfold RB2 at hbad2
            simp only at hbad2 hg
            rw [hr1] at hbad2
            obtain ⟨K, rfl⟩ : ∃ K : Nat, sb = K := ⟨sb.toNat, by omega⟩
            simp only [Int.toNat_natCast] at hg
            have g0 : (M : Int) ≤ (r1 : Int) := by omega
            have g1 : (1 : Int) ≤ (K : Int) := by omega
            have g2 : (K : Int) ≤ (a1 : Int) := by omega
            have HG := Lib.hid hg
            have HM0 := Lib.hid hM0
            have HN := Lib.hid (show a1 + M ≤ bs.length by omega)
            have HP := Lib.hid (Pts.new wr #[.int .i64 (L : Int), .int .i64 (M : Int), .int .i64 (K : Int)] 31)
            clear hg hbad2 hr hr1 hM0
            go_wp2_with fail
            obtain ⟨wo, rfl⟩ : ∃ wo : World, wo = wr := ⟨_, rfl⟩
            go_loopw [70] (fun iv wq => ∃ t : Nat, t ≤ M ∧ iv = .int .i64 t ∧ (∀ j, j < t → bs.getD (a1 + j) 0 = bs.getD (a1 + j - K) 0) ∧ Pts wq wo.heap.size #[.int .i64 (L : Int), .int .i64 (M : Int), .int .i64 (K : Int)] 31 ∧ Below w.heap.size w wq) (fun iv _ => M - (intOf iv).toNat)
            case atStart => exact ⟨0, by omega, rfl, fun j hj => absurd hj (by omega), HP.out, HBX.out⟩
            case round =>
              obtain ⟨t, ht, rfl, hsame, hp2, hb2⟩ := hrel
              have z1 : wr.cell? ⟨wo.heap.size, 1, none⟩ = some (.int .i64 (M : Int)) := by rw [hp2.cell]; rfl
              have z2 : wr.cell? ⟨wo.heap.size, 2, none⟩ = some (.int .i64 (K : Int)) := by rw [hp2.cell]; rfl
              have HS := Lib.hid hsame
              have HP2 := Lib.hid hp2
              have HB2 := Lib.hid hb2
              clear hsame hp2 hb2
              by_cases htM : t < M
              · obtain ⟨bb, bo, hA, hbb, hbc⟩ := HR.out (by have := HN.out; omega)
                subst hA
                obtain ⟨q1, hq1⟩ : ∃ q1, a1 + t = q1 := ⟨_, rfl⟩
                obtain ⟨q2, hq2⟩ : ∃ q2, q1 - K = q2 := ⟨_, rfl⟩
                have hq1i : (a1 : Int) + (t : Int) = (q1 : Int) := by omega
                have hq2i : (q1 : Int) - (K : Int) = (q2 : Int) := by omega
                have hq1w : IntKind.i64.wrap (q1 : Int) = (q1 : Int) := Go.IntWalk.i64_in _ (by have := HN.out; omega)
                have hq2w : IntKind.i64.wrap (q2 : Int) = (q2 : Int) := Go.IntWalk.i64_in _ (by have := HN.out; omega)
                have hq1b : q1 < bs.length := by have := HN.out; omega
                have hq2b : q2 < bs.length := by omega
                have kk1 := (HB2.out.cell (p := ⟨bb, bo + q1, none⟩) hbb).trans (hbc q1 hq1b)
                have kk2 := (HB2.out.cell (p := ⟨bb, bo + q2, none⟩) hbb).trans (hbc q2 hq2b)
                obtain ⟨u1, hu1⟩ : ∃ u1, bs.getD q1 0 = u1 := ⟨_, rfl⟩
                obtain ⟨u2, hu2⟩ : ∃ u2, bs.getD q2 0 = u2 := ⟨_, rfl⟩
                have HU := Lib.hid (And.intro hq1 (And.intro hq2 (And.intro hu1 hu2)))
                obtain ⟨v1, hv1⟩ : ∃ v1, u1.toNat = v1 := ⟨_, rfl⟩
                obtain ⟨v2, hv2⟩ : ∃ v2, u2.toNat = v2 := ⟨_, rfl⟩
                have k1 : wr.cell? ⟨bb, bo + q1, none⟩ = some (.int .u8 (v1 : Int)) := by rw [kk1, hu1, ← hv1]; rfl
                have k2 : wr.cell? ⟨bb, bo + q2, none⟩ = some (.int .u8 (v2 : Int)) := by rw [kk2, hu2, ← hv2]; rfl
                clear kk1 kk2 hbc hq1 hq2 hu1 hu2 x0 x1 x2
                by_cases hev : u1 = u2
                · have hne : ((v1 : Int) != (v2 : Int)) = false := by rw [← hv1, ← hv2, hev]; simp
                  have HEV := Lib.hid hev
                  clear hev hv1 hv2
                  go_wp2
                  go_quiet (fail)
                  go_wp2
                  refine ⟨⟨t + 1, by omega, by go_num, fun j hj => ?_, HP2.out.drewN _, below_drewN HB2.out _⟩, by simp [intOf]; omega⟩
                  by_cases hjt : j = t
                  · subst hjt
                    rw [HU.out.1, HU.out.2.1, HU.out.2.2.1, HU.out.2.2.2]
                    exact HEV.out
                  · exact HS.out j (by omega)
                · have hne : ((v1 : Int) != (v2 : Int)) = true := by
                    rw [bne_iff_ne]
                    intro e
                    apply hev
                    apply UInt8.toNat_inj.1
                    omega
                  have hns : ¬ Same bs a1 M K := by
                    intro h
                    apply hev
                    have h1 := h t htM
                    rw [HU.out.1, HU.out.2.1, HU.out.2.2.1, HU.out.2.2.2] at h1
                    exact h1
                  have hg := HG.out
                  rw [if_neg hns] at hg
                  have hβf : β = false := by rw [← HE.out, ← hg]; rfl
                  subst hβf
                  clear hev hv1 hv2 hns hg
                  go_wp2
                  go_quiet (fail)
                  go_wp2
                  go_ret
                  exact ⟨rfl, below_drewN HB2.out _⟩
              · obtain rfl : t = M := by omega
                have hg := HG.out
                rw [if_pos (show Same bs a1 t K from HS.out)] at hg
                have HG2 := Lib.hid hg
                obtain ⟨a2, ha2⟩ : ∃ a2, a1 + t = a2 := ⟨_, rfl⟩
                have ha2i : (a1 : Int) + (t : Int) = (a2 : Int) := by omega
                have hN := HN.out
                have ha2w : IntKind.i64.wrap (a2 : Int) = (a2 : Int) := Go.IntWalk.i64_in _ (by omega)
                have HA2 := Lib.hid ha2
                clear hg ha2 hN x0 x1 x2
                go_wp2
                exact ⟨⟨k + 1, a2, by omega, by go_num, by first | rfl | trivial, by have := HN.out; have := HA2.out; omega, by rw [← HA2.out]; exact HG2.out, HB2.out⟩, by simp [intOf]; omega⟩
    · obtain rfl : k = l.length := by omega
      have hg := HGO.out
      rw [List.drop_length, rightGo] at hg
      have hβe : decide (a = bs.length ∧ fr < a) = β := by
        have h := HE.out
        rw [← hg] at h
        exact h
      clear hg HGO
      by_cases he : a = bs.length
      · subst he
        have he2 : ((bs.length : Int) == (bs.length : Int)) = true := by simp
        by_cases hf : fr < bs.length
        · rw [decide_eq_true ⟨rfl, hf⟩] at hβe
          subst hβe
          have hfi : (fr : Int) < (bs.length : Int) := by omega
          go_wp2
          go_ret
          exact ⟨by first | rfl | simp [hf], HB.out⟩
        · rw [decide_eq_false (show ¬ (bs.length = bs.length ∧ fr < bs.length) from fun h => hf h.2)] at hβe
          subst hβe
          go_wp2
          go_ret
          exact ⟨by first | rfl | simp [hf], HB.out⟩
      · rw [decide_eq_false (show ¬ (a = bs.length ∧ fr < a) from fun h => he h.1)] at hβe
        subst hβe
        have he2 : ((a : Int) == (bs.length : Int)) = false := beq_eq_false_iff_ne.2 (by omega)
        go_wp2
        go_ret
        exact ⟨rfl, HB.out⟩
end Go.Proofs.Ythcgglacbgjdhaa

/- A match that is written, whatever its distance; steps as operations; what they cost: plain. -/
namespace Go.Proofs.Ythcgglacbgjdhaa
open Go.RowKit Rng Lz Win Fnd
set_option linter.unusedVariables false
set_option linter.unusedSimpArgs false
theorem putmatch_p (O : Nat → Prop) (w : World) (k : LK) (g : WB) (A : Option Addr) (c : Nat) (bs : List UInt8) (shift : Int) (pos tot st : Nat) (rep : Nat → Nat) (s : CP Enc) (h : WrAt O w k g A c bs shift pos st rep s) (hk : k.Ok) (htot : (pos : Int) + shift = (tot : Int)) (ht : tot < 4611686018427387904)
    (size back d : Nat) (h2 : 2 ≤ size) (hs : size ≤ 273) (hbd : back = d + 1) (hd : d < 4294967296) (hpos : pos + size ≤ 140737488355328) (hst : st < 12) (hrep : ∀ j, rep j < 4294967296) (hc : s.d.cnt + 100 < 1000000) :
    Calls Try.prog 18 #[.pointer (some ⟨g.xb, 0, none⟩), .int .i64 size, .int .i64 back] w fun e w' => e = .returned (.tuple #[]) ∧ WrAt O w' k g A c bs shift (pos + size) (putMatch k tot size d st rep s).1 (putMatch k tot size d st rep s).2.1 (putMatch k tot size d st rep s).2.2 ∧ Frm (WZ k O g) w w' := by
  have h4 := idxOf_le rep d
  obtain ⟨J, hJ⟩ : ∃ J, idxOf rep d = J := ⟨_, rfl⟩
  rw [hJ] at h4
  have hcase : J = 4 ∨ J = 0 ∨ J = 1 ∨ (J = 2 ∨ J = 3) := by omega
  rcases hcase with rfl | rfl | rfl | e
  · exact putmatch_fresh O w k g A c bs shift pos tot st rep s h hk htot ht size back d h2 hs hbd hd hpos hst hrep hc hJ
  · exact putmatch_zero O w k g A c bs shift pos tot st rep s h hk htot ht size back d h2 hs hbd hd hpos hst hrep hc hJ
  · exact putmatch_one O w k g A c bs shift pos tot st rep s h hk htot ht size back d h2 hs hbd hd hpos hst hrep hc hJ
  · exact putmatch_two O w k g A c bs shift pos tot st rep s h hk htot ht size back d h2 hs hbd hd hpos hst hrep hc J e hJ
theorem cnt_farIn (base x far : Nat) : ∀ (n m : Nat) (s : CP Enc), (farGo inC base x far n m s).2.d.cnt ≤ s.d.cnt + n
  | 0, m, s => Nat.le_refl _
  | n + 1, m, s => by
    unfold farGo
    have h2 := cnt_bitIn1 (base + (1 + far / 2 ^ n % 2) * 256 + m) (x / 2 ^ n % 2) s
    simp only
    split
    · have h1 := cnt_farIn base x far n (2 * m + (bitAt inC (base + (1 + far / 2 ^ n % 2) * 256 + m) (x / 2 ^ n % 2) s).1) (bitAt inC (base + (1 + far / 2 ^ n % 2) * 256 + m) (x / 2 ^ n % 2) s).2
      omega
    · have h1 := cnt_treeIn base x n (2 * m + (bitAt inC (base + (1 + far / 2 ^ n % 2) * 256 + m) (x / 2 ^ n % 2) s).1) (bitAt inC (base + (1 + far / 2 ^ n % 2) * 256 + m) (x / 2 ^ n % 2) s).2
      omega
theorem cnt_litIn (lc lp st total ahead far x : Nat) (s : CP Enc) : (litAt inC lc lp st total ahead far x s).2.d.cnt ≤ s.d.cnt + 8 := by
  unfold litAt
  simp only
  split
  · exact cnt_farIn _ _ _ 8 1 s
  · exact cnt_treeIn _ _ 8 1 s
theorem cnt_distIn (d size : Nat) (s : CP Enc) (hd : d < 4294967296) : (distAt inC d size s).2.d.cnt ≤ s.d.cnt + 50 := by
  have ht := treeAt_in (440 + (min size 5 - 2) * 64) 6 (slotOf d) s (slot_lt hd)
  have hc := cnt_treeAt (440 + (min size 5 - 2) * 64) 6 (slotOf d) s
  have hs := slot_lt hd
  unfold distAt
  simp only
  generalize treeAt inC (440 + (min size 5 - 2) * 64) 6 (slotOf d) s = T at *
  rw [ht]
  split
  · simp only; omega
  · split
    · rename_i h1 h2
      have h3 := cnt_backIn (696 + (2 + slotOf d % 2) * 2 ^ (slotOf d / 2 - 1) - slotOf d) (d - (2 + slotOf d % 2) * 2 ^ (slotOf d / 2 - 1)) (slotOf d / 2 - 1) (slotOf d / 2 - 1) 1 0 T.2
      unfold backAt
      simp only
      omega
    · have h3 := cnt_backIn 824 (d % 16) 4 4 1 0 ⟨Enc.direct ((d - (2 + slotOf d % 2) * 2 ^ (slotOf d / 2 - 1)) / 16) (slotOf d / 2 - 1 - 4) T.2.d, T.2.pr⟩
      have h4 : (Enc.direct ((d - (2 + slotOf d % 2) * 2 ^ (slotOf d / 2 - 1)) / 16) (slotOf d / 2 - 1 - 4) T.2.d).cnt ≤ T.2.d.cnt + (slotOf d / 2 - 1 - 4) := Enc.direct_cnt
      unfold backAt
      exact Nat.le_trans h3 (by simp only; omega)
/-- What an operation costs at most. -/
def costOp : Option (Nat × Nat) → Nat
  | none => 9
  | some _ => 100
def costOps : List (Option (Nat × Nat)) → Nat
  | [] => 0
  | o :: l => costOp o + costOps l
theorem costOps_append (l m : List (Option (Nat × Nat))) : costOps (l ++ m) = costOps l + costOps m := by
  induction l with
  | nil => simp [costOps]
  | cons o l ih => simp only [List.cons_append, costOps, ih]; omega
theorem costOps_lits (n : Nat) : costOps (List.replicate n none) = 9 * n := by
  induction n with
  | zero => rfl
  | succ n ih => rw [List.replicate_succ, costOps, ih]; show 9 + 9 * n = 9 * (n + 1); omega
theorem cnt_putLit (k : LK) (bs : List UInt8) (tot pos st : Nat) (rep : Nat → Nat) (s : CP Enc) : (putLit k bs tot pos st rep s).d.cnt ≤ s.d.cnt + 9 := by
  unfold putLit
  refine Nat.le_trans (cnt_litIn _ _ _ _ _ _ _ _) ?_
  have := cnt_bitIn1 (8 + st * 16 + tot % 2 ^ k.pb) 0 s
  omega
theorem cnt_putRep (st p size j : Nat) (s : CP Enc) : (putRep inC st p size j s).d.cnt ≤ s.d.cnt + 13 := by
  unfold putRep
  simp only
  refine Nat.le_trans (cnt_len _ _ _ _) ?_
  have h1 := fun x => cnt_bitIn1 (212 + st) x s
  split
  · have h2 := cnt_bitIn1 (248 + st * 16 + p) 1 (bitAt inC (212 + st) 0 s).2
    have := h1 0
    omega
  · have h2 := fun x => cnt_bitIn1 (224 + st) x (bitAt inC (212 + st) 1 s).2
    have h4 := h1 1
    split
    · have := h2 0
      omega
    · have h3 := cnt_bitIn1 (236 + st) (j - 2) (bitAt inC (224 + st) 1 (bitAt inC (212 + st) 1 s).2).2
      have := h2 1
      omega
theorem cnt_putMatch (k : LK) (tot size d st : Nat) (rep : Nat → Nat) (s : CP Enc) (hd : d < 4294967296) : (putMatch k tot size d st rep s).2.2.d.cnt ≤ s.d.cnt + 100 := by
  unfold putMatch
  simp only
  have h1 := cnt_bitIn1 (8 + st * 16 + tot % 2 ^ k.pb) 1 s
  split
  · refine Nat.le_trans (cnt_distIn _ _ _ hd) ?_
    have h2 := cnt_bitIn1 (200 + st) 0 (bitAt inC (8 + st * 16 + tot % 2 ^ k.pb) 1 s).2
    have h3 := cnt_len 840 size (tot % 2 ^ k.pb) (bitAt inC (200 + st) 0 (bitAt inC (8 + st * 16 + tot % 2 ^ k.pb) 1 s).2).2
    omega
  · refine Nat.le_trans (cnt_putRep _ _ _ _ _) ?_
    have h2 := cnt_bitIn1 (200 + st) 1 (bitAt inC (8 + st * 16 + tot % 2 ^ k.pb) 1 s).2
    omega
/-- Distances that fit, and the state, stay so. -/
theorem putMatch_inv (k : LK) (tot size d st : Nat) (rep : Nat → Nat) (s : CP Enc) (hst : st < 12) (hrep : ∀ j, rep j < 4294967296) (hd : d < 4294967296) : (putMatch k tot size d st rep s).1 < 12 ∧ ∀ j, (putMatch k tot size d st rep s).2.1 j < 4294967296 := by
  unfold putMatch
  simp only
  split
  · refine ⟨show behS st 1 < 12 from behS_lt hst, fun j => ?_⟩
    show (if j = 0 then d else shiftN rep 3 j) < _
    split
    · exact hd
    · exact shiftN_lt hrep 3 j
  · refine ⟨show behS st 2 < 12 from behS_lt hst, fun j => ?_⟩
    show (if idxOf rep d = 0 then rep else takeS rep (idxOf rep d)) j < _
    split
    · exact hrep j
    · exact takeS_lt hrep _ j
/-- Steps as operations. -/
def opsSq (s : Sq) : List (Option (Nat × Nat)) := List.replicate s.lits.toNat none ++ (if 0 < s.mat then [some (s.mat.toNat, s.back.toNat - 1)] else [])
def opsOf : List Sq → List (Option (Nat × Nat))
  | [] => []
  | s :: l => opsSq s ++ opsOf l
theorem okOps_lits {bs : List UInt8} (l : List (Option (Nat × Nat))) : ∀ (n a : Nat), a + n ≤ bs.length → OkOps bs (a + n) l → OkOps bs a (List.replicate n none ++ l)
  | 0, a, _, h => h
  | n + 1, a, hn, h => by
    rw [List.replicate_succ]
    exact ⟨by omega, okOps_lits l n (a + 1) (by omega) (by rw [show a + 1 + n = a + (n + 1) by omega]; exact h)⟩
theorem right_ops {bs : List UInt8} : ∀ (l : List Sq) (a : Nat), a ≤ bs.length → rightGo bs l a = some bs.length → OkOps bs a (opsOf l)
  | [], a, _, h => by
    unfold rightGo at h
    exact Option.some.inj h
  | s :: l, a, ha, h => by
    unfold rightGo at h
    by_cases h1 : RB1 s (bs.length - a)
    · rw [if_pos h1] at h; cases h
    rw [if_neg h1] at h
    unfold RB1 at h1
    have hl : a + s.lits.toNat ≤ bs.length := by omega
    unfold opsOf opsSq
    rw [List.append_assoc]
    refine okOps_lits _ _ _ hl ?_
    by_cases h2 : s.mat = 0
    · rw [if_pos h2] at h
      rw [if_neg (by omega)]
      exact right_ops l _ hl h
    rw [if_neg h2] at h
    by_cases h3 : RB2 s bs.length (a + s.lits.toNat)
    · rw [if_pos h3] at h; cases h
    rw [if_neg h3] at h
    unfold RB2 at h3
    by_cases h4 : Same bs (a + s.lits.toNat) s.mat.toNat s.back.toNat
    · rw [if_pos h4] at h
      rw [if_pos (by omega)]
      refine ⟨by simp only; omega, by simp only; omega, by simp only; omega, by simp only; omega, ?_, ?_⟩
      · intro i hi
        simp only at hi ⊢
        rw [show s.back.toNat - 1 + 1 = s.back.toNat by omega]
        exact h4 i hi
      · exact right_ops l _ (by simp only; omega) h
    · rw [if_neg h4] at h; cases h
theorem wOps_append (k : LK) (bs : List UInt8) (fr total : Nat) (l m : List (Option (Nat × Nat))) (x : PS) : wOps k bs fr total (l ++ m) x = wOps k bs fr total m (wOps k bs fr total l x) := List.foldl_append
theorem wOps_cons (k : LK) (bs : List UInt8) (fr total : Nat) (o : Option (Nat × Nat)) (l : List (Option (Nat × Nat))) (x : PS) : wOps k bs fr total (o :: l) x = wOps k bs fr total l (wOp k bs fr total x o) := rfl
end Go.Proofs.Ythcgglacbgjdhaa

/- An operation that is read behind its first bit (1): the walk. -/
namespace Go.Proofs.Ythcgglacbgjdhaa
open Go.RowKit Rng Lz Win
set_option linter.unusedVariables false
set_option linter.unusedSimpArgs false
/-- How a step ends: it is an operation, or it is none. -/
def StepEnd (Z : Nat → Prop) (w0 : World) (k : LK) (g : RB) (total : Int) (good : Prop) (st' : Nat) (rep' : Nat → Nat) (s' : CP Dec) (C' told' : List UInt8) (e : Ending) (w' : World) : Prop :=
  (good ∧ e = .returned (.tuple #[]) ∧ ∃ wv' tv', RdAt Z w0 w' k g total st' rep' s' C' told' wv' tv') ∨
  (¬ good ∧ (∃ x, e = .panicked (wrongP x)) ∧ ∃ st rep s C told wv tv, RdAt Z w0 w' k g total st rep s C told wv tv)
set_option maxRecDepth 100000 in
set_option maxHeartbeats 2000000 in
theorem step_op (Z : Nat → Prop) (w0 w : World) (k : LK) (g : RB) (total st room : Nat) (rep : Nat → Nat) (s sa : CP Dec) (C told : List UInt8) (wv tv : Value) (h : RdAt Z w0 w k g (total : Int) st rep s C told wv tv)
    (hk : k.Ok) (ht : total < 4611686018427387904) (hst : st < 12) (hS : g.S ≤ 16777216) (hlen : told.length ≤ 100000000) (hroom : room ≤ 2097152) (p : Nat) (hp : total % 2 ^ k.pb = p) (ha : bitAt outC (8 + st * 16 + p) 0 s = (1, sa))
    (sz st' : Nat) (rep' : Nat → Nat) (s' : CP Dec) (ho : opOf outC st p rep sa = (sz, st', rep', s')) :
    Calls Try.prog 48 #[.pointer (some ⟨g.xb, 0, none⟩), .int .i64 room] w fun e w' => StepEnd Z w0 k g (total : Int) (sz ≤ room ∧ rep' 0 + 1 ≤ C.length) st' rep' s' (lastN g.S (C ++ cyc C (rep' 0 + 1) sz)) (told ++ cyc C (rep' 0 + 1) sz) e w' := by
  have hp16 : p < 16 := by
    have h1 : 2 ^ k.pb ≤ 2 ^ 4 := Nat.pow_le_pow_right (by omega) hk.b
    have h2 : total % 2 ^ k.pb < 2 ^ k.pb := Nat.mod_lt _ (Nat.lt_of_lt_of_le (by omega) (Nat.one_le_two_pow))
    omega
  have HA := Lib.hid ha
  have HH := Lib.hid h
  have HPL := Lib.hid (place_any 111 k st total rep s w h.lz hk ht)
  rw [hp] at HPL
  obtain ⟨d0, d1, d2, dt, -, -⟩ := h.cells
  have d3 := h.st3
  have HD := Lib.hid h.drew
  have P0 := Lib.hid (plm k (i := 8 + st * 16 + p) (by omega) (by omega))
  have P1 := Lib.hid (plm k (i := 200 + st) (by omega) (by omega))
  have hsti : (st : Int) < 12 := by omega
  have hpi : (p : Int) < 16 := by omega
  unfold opOf at ho
  obtain ⟨⟨b, sb⟩, hb⟩ : ∃ x, bitAt outC (200 + st) 0 sa = x := ⟨_, rfl⟩
  rw [hb] at ho
  dsimp only at ho
  have HB := Lib.hid hb
  have HO := Lib.hid ho
  obtain ⟨r1, hr1⟩ : ∃ r1, rep' 0 + 1 = r1 := ⟨_, rfl⟩
  rw [hr1]
  obtain ⟨Y, hY⟩ : ∃ Y, cyc C r1 sz = Y := ⟨_, rfl⟩
  have hYl : Y.length = sz := by rw [← hY]; exact cyc_length _ _ _
  rw [hY]
  have HE := Lib.hid hr1
  have HY := Lib.hid hY
  have HYL := Lib.hid hYl
  clear h ha hk hp hb ho hr1 hY hYl
  go_enter Try.func48, Try.ntmps48
  go_wp2_with fail
  refine HPL.out.mono ?_; rintro e w1 ⟨rfl, rfl⟩
  go_upto_region 2 with fail
  go_cut [36] from 9 (fun v wx => v = .bool false ∧ RdAt Z w0 wx k g (total : Int) st rep sa C told wv tv)
  case first =>
    go_region_with (first
      | (go_at_call 57; refine (lz_bit (obit_any g.db g.rb) HD.out.lz (8 + st * 16 + p) k.sb (8 + st * 16 + p) 0 _ trivial P0.out.1 P0.out.2).mono ?_; rintro e w2 ⟨rfl, h2, f2⟩; rw [HA.out] at h2 ⊢))
    all_goals
      have H2 := Lib.hid (HD.out.lzStep h2 f2)
      clear h2 f2
      go_wp2
      go_meet
      case rel => exact ⟨by simp, H2.out⟩
  case rest =>
    obtain ⟨rfl, h2⟩ := hcut
    have H2 := Lib.hid h2
    clear d0 d1 d2 d3 dt HD HH
    obtain ⟨d0, d1, d2, -, -, -⟩ := h2.cells
    have d3 := h2.st3
    have HD := Lib.hid h2.drew
    clear h2
    go_upto_region 5 with fail
    go_cut [52] from 9 (fun v wx => ∃ β : Bool, v = .bool β ∧ (β = true ↔ b = 1) ∧ RdAt Z w0 wx k g (total : Int) st rep sb C told wv tv)
    case first =>
      go_region_with (first
        | (go_at_call 57; refine (lz_bit (obit_any g.db g.rb) HD.out.lz (200 + st) k.sb (200 + st) 0 _ trivial P1.out.1 P1.out.2).mono ?_; rintro e w2 ⟨rfl, h2, f2⟩; rw [HB.out] at h2 ⊢))
      all_goals
        have H3 := Lib.hid (HD.out.lzStep h2 f2)
        clear h2 f2
        go_wp2
        go_meet
        case rel => exact ⟨_, rfl, by simp; omega, H3.out⟩
    case rest =>
      obtain ⟨β, rfl, hβ, h3⟩ := hcut
      have H3 := Lib.hid h3
      clear d0 d1 d2 d3 HD H2
      obtain ⟨d0, d1, d2, -, -, -⟩ := h3.cells
      have d3 := h3.st3
      have HD := Lib.hid h3.drew
      clear h3
      go_upto_if 52 with fail
      go_cut [6] from 9 (fun v wx => v = .int .i64 sz ∧ RdAt Z w0 wx k g (total : Int) st' rep' s' C told wv tv)
      case first =>
        by_cases hb1 : b = 1
        · obtain rfl : β = true := hβ.2 hb1
          have hO := HO.out
          rw [if_pos hb1] at hO
          have HO2 := Lib.hid hO
          clear hO hβ hb1 HO
          go_wp2_with fail
          refine (repeated_p Z w0 _ k g total st p rep sb C told wv tv H3.out hst hp16).mono ?_; rintro e w4 ⟨rfl, h4⟩
          rw [HO2.out] at h4 ⊢
          have H4 := Lib.hid h4
          clear h4
          go_wp2
          go_meet
          case rel => exact ⟨rfl, H4.out⟩
        · obtain rfl : β = false := by cases β; rfl; exact absurd (hβ.1 rfl) hb1
          have hO := HO.out
          rw [if_neg hb1] at hO
          obtain ⟨⟨l, sl⟩, hl⟩ : ∃ x, lenAt outC 840 2 p sb = x := ⟨_, rfl⟩
          have hll := lenAt_lt outC 840 2 p sb
          rw [hl] at hO hll
          dsimp only at hO hll
          obtain ⟨⟨dd, sd⟩, hd⟩ : ∃ x, distAt outC 0 l sl = x := ⟨_, rfl⟩
          rw [hd] at hO
          dsimp only at hO
          simp only [Prod.mk.injEq] at hO
          obtain ⟨rfl, rfl, rfl, rfl⟩ := hO
          have HLL := Lib.hid hl
          have HDD := Lib.hid hd
          clear hβ hb1 HO hl hd
          go_wp2_with fail
          refine QTail.wp_region_qtail_lit 8 (by kernel_rfl) (by kernel_rfl) ?_
          simp only [List.take_succ_cons, List.take_zero, List.drop_succ_cons, List.drop_zero]
          repeat (go_big_quiet_step (fail))
          refine wpQuiet_nil ?_
          rintro w' ⟨nr, rfl⟩
          have h4 := H3.out.drewN nr
          obtain ⟨w5, hrun, h5, f5⟩ := rep_copy (DC.keep g.db g.rb) h4.lz 3 3 4 3 (by omega)
          have H5 := Lib.hid (h4.lzStep h5 f5)
          clear h4 h5 f5 d0 d1 d2 d3 HD
          obtain ⟨d0, d1, d2, -, -, -⟩ := H5.out.cells
          have HD := Lib.hid H5.out.drew
          go_upto_region 8 with fail
          go_cut [6] from 9 (fun v wx => v = .int .i64 l ∧ RdAt Z w0 wx k g (total : Int) st (shiftN rep 3) sl C told wv tv)
          case first =>
            go_region_with (first
              | (go_at_call 36; refine (lens_p g.db g.rb 111 k st (shiftN rep 3) sb 840 p _ HD.out.lz (.inl rfl) hp16).mono ?_; rintro e w6 ⟨rfl, h6, f6⟩; rw [HLL.out] at h6 ⊢))
            all_goals
              have H6 := Lib.hid (HD.out.lzStep h6 f6)
              clear h6 f6
              go_wp2
              go_meet
              case rel => exact ⟨rfl, H6.out⟩
          case rest =>
            obtain ⟨rfl, h6⟩ := hcut
            have H6 := Lib.hid h6
            clear d0 d1 d2 HD H5 h6
            go_wp2_with fail
            refine (behind_any (DC.keep g.db g.rb) 111 k st 1 (shiftN rep 3) sl _ H6.out.lz hst (by omega)).mono ?_; rintro e w7 ⟨rfl, h7, f7⟩
            have H7 := Lib.hid (H6.out.lzStep h7 f7)
            clear h7 f7
            obtain ⟨d0, d1, d2, -, -, -⟩ := H7.out.cells
            have HD := Lib.hid H7.out.drew
            go_wp2_with fail
            go_region_with (first
              | (go_at_call 37; refine (dist_p g.db g.rb 111 k (behS st 1) (shiftN rep 3) sl l _ HD.out.lz hll.1 hll.2).mono ?_; rintro e w8 ⟨rfl, h8, f8⟩; rw [HDD.out] at h8 ⊢; have z8 := (h8.hdr (i := 4) (by omega)).1; have y8 := (h8.hdr (i := 4) (by omega)).2; simp only [mcell, Nat.reduceEqDiff, if_false, Nat.reduceLT, if_true, Nat.reduceSub] at z8))
            all_goals
              have h9 := h8.putRep 0 dd (by omega) (DC.keep g.db g.rb)
              have H9 := Lib.hid ((HD.out.lzStep h8 f8).lzStep h9.1 h9.2)
              clear h8 f8 h9
              go_wp2
              go_meet
              case rel => exact ⟨rfl, H9.out⟩
      case rest =>
        obtain ⟨rfl, h4⟩ := hcut
        have H4 := Lib.hid h4
        clear d0 d1 d2 d3 HD H3 hβ HO
        obtain ⟨d0, d1, d2, -, -, d5⟩ := h4.cells
        have HD := Lib.hid h4.drew
        have hcl := h4.win.len
        obtain ⟨r0, hr0⟩ : ∃ r, rep' 0 = r := ⟨_, rfl⟩
        have hr1e := HE.out
        rw [hr0] at d5 hr1e
        clear h4 hr0
        by_cases h1 : sz ≤ room
        case neg =>
          have hq1 : (room : Int) < (sz : Int) := by omega
          have hng : ¬ (sz ≤ room ∧ r1 ≤ C.length) := fun h => h1 h.1
          clear h1 hr1e hcl
          have HNG := Lib.hid hng
          clear hng
          go_wp2
          exact ⟨rfl, Or.inr ⟨HNG.out, ⟨_, rfl⟩, _, _, _, _, _, _, _, H4.out⟩⟩
        have h1i : (sz : Int) ≤ (room : Int) := by omega
        have HQ1 : Hid (decide (room < sz) = false) := Lib.hid (decide_eq_false (by omega))
        by_cases h2 : r0 < 16777216
        case neg =>
          have hq2 : decide ((16777216 : Int) ≤ (r0 : Int)) = true := decide_eq_true (by omega)
          have hng : ¬ (sz ≤ room ∧ r1 ≤ C.length) := fun h => h2 (by omega)
          have HNG := Lib.hid hng
          have HQ2 := Lib.hid hq2
          clear h1 hr1e hcl h2 hng hq2
          go_upto_if 99 with fail
          simp only [HQ2.out, HQ1.out, Bool.or_true, Bool.false_or]
          go_wp2
          exact ⟨rfl, Or.inr ⟨HNG.out, ⟨_, rfl⟩, _, _, _, _, _, _, _, H4.out⟩⟩
        have hr1 : (r0 : Int) + 1 = (r1 : Int) := by omega
        have hr1w : IntKind.i64.wrap (r1 : Int) = (r1 : Int) := Go.IntWalk.i64_in _ (by omega)
        have hr0w : IntKind.i64.wrap (r0 : Int) = (r0 : Int) := Go.IntWalk.i64_in _ (by omega)
        have hq2 : decide ((16777216 : Int) ≤ (r0 : Int)) = false := decide_eq_false (by omega)
        have HQ2 := Lib.hid hq2
        have hr1p : 1 ≤ r1 := by omega
        clear hr1e hcl hq2
        go_upto_if 99 with fail
        simp only [HQ2.out, HQ1.out, Bool.or_false]
        by_cases h3 : r1 ≤ C.length
        case neg =>
          have hng : ¬ (sz ≤ room ∧ r1 ≤ C.length) := fun h => h3 h.2
          have HNG := Lib.hid hng
          have H3N := Lib.hid h3
          clear hng h3 h2 h1
          go_upto_region 13 with fail
          go_cut [7, 8] from 9 (fun v ev wx => v = .slice none 0 0 ∧ ev = .int .i64 11 ∧ RdAt Z w0 wx k g (total : Int) st' rep' s' C told wv tv)
          case first =>
            go_region_with (first
              | (go_at_call 60; refine (copy_c g.bw g.wb g.kb g.S r1 sz r1 sz C wv _ HD.out.win HD.out.bs.1 hS (by omega) rfl rfl hr1p).mono ?_; rintro e w2 ⟨-, hno⟩; obtain ⟨rfl, rfl⟩ := hno H3N.out; clear hno))
            all_goals
              go_wp2
              go_meet
              case rel => exact ⟨rfl, rfl, HD.out⟩
          case rest =>
            obtain ⟨rfl, rfl, h5⟩ := hcut
            have H5 := Lib.hid h5
            clear h5
            go_wp2
            exact ⟨rfl, Or.inr ⟨HNG.out, ⟨_, rfl⟩, _, _, _, _, _, _, _, H5.out⟩⟩
        have HGO : Hid (sz ≤ room ∧ r1 ≤ C.length) := Lib.hid ⟨h1, h3⟩
        have HLE := Lib.hid h3
        clear h3 h2 h1
        go_upto_region 13 with fail
        go_cut [7, 8] from 9 (fun v ev wx => ∃ (Ao : Option Addr) (co : Nat) (wv' : Value), v = .slice Ao sz co ∧ ev = .int .i64 0 ∧ RdAt Z w0 wx k g (total : Int) st' rep' s' (lastN g.S (C ++ Y)) told wv' tv ∧ BRow wx wx.heap.size Ao Y)
        case first =>
          go_region_with (first
            | (go_at_call 60; refine (copy_c g.bw g.wb g.kb g.S r1 sz r1 sz C wv _ HD.out.win HD.out.bs.1 hS (by omega) rfl rfl hr1p).mono ?_; rintro e w2 ⟨hok, -⟩; obtain ⟨ov, wv2, rfl, hw2, ho2, f2, m2, -⟩ := hok HLE.out; rw [HY.out] at hw2 ho2; obtain ⟨Ao, co, hov, -, -, hro⟩ := ho2.slice; rw [HYL.out] at hov; subst hov; have H5 := Lib.hid (HD.out.winStep hw2 f2 m2); have RO := Lib.hid hro; clear hok hw2 ho2 f2 m2 hro))
          all_goals
            go_wp2
            go_meet
            case rel => exact ⟨Ao, co, wv2, rfl, rfl, H5.out, RO.out⟩
        case rest =>
          obtain ⟨Ao, co, wv2, rfl, rfl, h5, hro⟩ := hcut
          have H5 := Lib.hid h5
          have RO := Lib.hid hro
          clear d0 d1 d2 d5 HD H4 hro
          obtain ⟨d0, d1, d2, -, d4, -⟩ := h5.cells
          obtain ⟨A5, c5, htv, hc5, hm5, _⟩ := h5.o.slice
          subst htv
          clear h5
          have hxz := H5.out.p.frozen 4
          have hroomi := hroom
          have hyl := HYL.out.symm
          have hszr := HGO.out.1
          clear d0 d1 d2
          go_wp2_with (at_builtin; refine wpList_append_bytes _ rfl (.tmp 127) (.tmp 128) 22 rfl 5 g.bt Try.underlying22 Try.info_u8 (.slice A5 told.length c5) told rfl ?own5 Ao sz co wc.heap.size Y rfl hyl ?row5 ?len5 ?base5 ?next5)
          case own5 => exact H5.out.o
          case row5 => exact RO.out
          case len5 => omega
          case base5 => exact H5.out.bs.2
          case next5 =>
            intro v5 w5 hown5 hfrm5 hnew5
            obtain ⟨A6, c6, rfl, -, -, -⟩ := hown5.slice
            have h6 := H5.out.toldStep hown5 hfrm5 hnew5
            have hp5 := H5.out.p.frm hfrm5 (own_ne H5.out.o H5.out.p (by decide))
            have e4 : w5.cell? ⟨g.xb, 4, none⟩ = some (.slice A5 told.length c5) := by rw [hp5.cell]; rfl
            have z4 := hp5.frozen 4
            obtain ⟨L6, hL6⟩ : ∃ L, (told ++ Y).length = L := ⟨_, rfl⟩
            rw [hL6] at h6 ⊢
            have H6 := Lib.hid h6
            clear hown5 hfrm5 hnew5 hp5 h6 hL6 d4 hroomi hszr hyl
            go_wp2
            go_end0
            exact Or.inl ⟨HGO.out, rfl, wv2, _, H6.out⟩
end Go.Proofs.Ythcgglacbgjdhaa

/- A chunk's walk: a state that rests, a reader's total, a step whatever it is. -/
namespace Go.Proofs.Ythcgglacbgjdhaa
open Go.RowKit Rng Lz Win
set_option linter.unusedVariables false
set_option linter.unusedSimpArgs false
/-- A state that rests. -/
structure StAt (w : World) (k : LK) (st : Nat) (rep : Nat → Nat) (pr : Pr) : Prop where
  m : Pts w k.sb (mcells k st rep pr) 111
  l : Pts w k.lb (lcells k pr) 47
  fit : ∀ i, pr i < 65536
  ne : k.sb ≠ k.lb
section
variable {Z : Nat → Prop} {w0 w w' : World} {k : LK} {g : RB} {total : Int} {st : Nat} {rep : Nat → Nat} {s : CP Dec} {C told : List UInt8} {wv tv : Value}
theorem StAt.frm {pr : Pr} {N : Nat → Prop} (h : StAt w k st rep pr) (hf : Frm N w w') (h1 : ¬ N k.sb) (h2 : ¬ N k.lb) : StAt w' k st rep pr := ⟨h.m.frm hf h1, h.l.frm hf h2, h.fit, h.ne⟩
theorem RdAt.rested (h : RdAt Z w0 w k g total st rep s C told wv tv) : StAt w k st rep s.pr := ⟨h.lz.m, h.lz.l, h.lz.fit, h.lz.ne.2.2⟩
theorem RdAt.setTotal (h : RdAt Z w0 w k g total st rep s C told wv tv) (t : Int) : RdAt Z w0 (w.setCell ⟨g.xb, 3, none⟩ (.int .i64 t)) k g t st rep s C told wv tv := by
  obtain ⟨cd, hd⟩ := h.dpts
  obtain ⟨cw, hw⟩ := h.win.pts
  obtain ⟨lw, hwo⟩ := h.win.own
  have hf : Frm (fun x => x = g.xb) w (w.setCell ⟨g.xb, 3, none⟩ (.int .i64 t)) := Frm.setCell (S := fun x => x = g.xb) (Frm.refl _ w) (p := ⟨g.xb, 3, none⟩) (by rfl) _
  refine ⟨h.lz.frm (DC.keep _ _) hf ?_, h.win.frm hf ?_ ?_, ?_, h.o.frm hf ?_, h.ne, ⟨h.nr.1, h.nr.2.1, h.nr.2.2.1, h.nr.2.2.2.1, Nat.lt_of_lt_of_le h.nr.2.2.2.2 hf.size⟩, ⟨Nat.le_trans h.bs.1 hf.size, Nat.le_trans h.bs.2 hf.size⟩, h.z, h.f.transW hf ?_⟩
  · rintro q ((e | e) | e | e) e2
    · exact hd.ne_of h.p (by decide) (e.symm.trans e2)
    · exact h.nr.2.1 (e.symm.trans e2)
    · exact h.lz.m.ne_of h.p (by decide) (e.symm.trans e2)
    · exact h.lz.l.ne_of h.p (by decide) (e.symm.trans e2)
  · exact hw.ne_of h.p (by decide)
  · intro q hq e
    subst e
    exact own_ne hwo h.p (by decide) hq
  · exact h.p.set 3 (.int .i64 t)
  · intro q hq e
    subst e
    exact own_ne h.o h.p (by decide) hq
  · rintro q e hq
    exact h.z q (.inr (.inr (.inr (.inr (.inr (.inl e)))))) hq
end
/-- How a step ends, whatever it is. -/
def StepRes (Z : Nat → Prop) (w0 : World) (k : LK) (g : RB) (total : Int) (told : List UInt8) (R : Option (List UInt8 × RS)) (e : Ending) (w' : World) : Prop :=
  (∃ b y wv' tv', R = some (b, y) ∧ e = .returned (.tuple #[]) ∧ RdAt Z w0 w' k g total y.st y.rep y.s y.C (told ++ b) wv' tv') ∨
  (R = none ∧ (∃ x, e = .panicked (wrongP x)) ∧ ∃ st rep s C told wv tv, RdAt Z w0 w' k g total st rep s C told wv tv)
set_option maxRecDepth 100000 in
theorem step_any (Z : Nat → Prop) (w0 w : World) (k : LK) (g : RB) (total room : Nat) (x : RS) (told : List UInt8) (wv tv : Value) (h : RdAt Z w0 w k g (total : Int) x.st x.rep x.s x.C told wv tv)
    (hk : k.Ok) (ht : total < 4611686018427387904) (hx : x.Ok) (hS : g.S ≤ 16777216) (hlen : told.length ≤ 100000000) (hroom : room ≤ 2097152) :
    Calls Try.prog 48 #[.pointer (some ⟨g.xb, 0, none⟩), .int .i64 room] w fun e w' => StepRes Z w0 k g (total : Int) told (stepOf k g.S total room x) e w' := by
  obtain ⟨⟨a, sa⟩, ha⟩ : ∃ y, bitAt outC (8 + x.st * 16 + total % 2 ^ k.pb) 0 x.s = y := ⟨_, rfl⟩
  have hs : stepOf k g.S total room x = (if a = 0 then some ([UInt8.ofNat (litOf outC k x.st total x.rep x.C sa).1], ⟨behS x.st 0, x.rep, (litOf outC k x.st total x.rep x.C sa).2, lastN g.S (x.C ++ [UInt8.ofNat (litOf outC k x.st total x.rep x.C sa).1])⟩)
      else if (opOf outC x.st (total % 2 ^ k.pb) x.rep sa).1 ≤ room ∧ (opOf outC x.st (total % 2 ^ k.pb) x.rep sa).2.2.1 0 + 1 ≤ x.C.length then
        some (cyc x.C ((opOf outC x.st (total % 2 ^ k.pb) x.rep sa).2.2.1 0 + 1) (opOf outC x.st (total % 2 ^ k.pb) x.rep sa).1, ⟨(opOf outC x.st (total % 2 ^ k.pb) x.rep sa).2.1, (opOf outC x.st (total % 2 ^ k.pb) x.rep sa).2.2.1, (opOf outC x.st (total % 2 ^ k.pb) x.rep sa).2.2.2, lastN g.S (x.C ++ cyc x.C ((opOf outC x.st (total % 2 ^ k.pb) x.rep sa).2.2.1 0 + 1) (opOf outC x.st (total % 2 ^ k.pb) x.rep sa).1)⟩)
      else none) := by
    unfold stepOf
    simp only [ha]
  rw [hs]
  have hl := bitAt_le outC (8 + x.st * 16 + total % 2 ^ k.pb) 0 x.s
  rw [ha] at hl
  by_cases h0 : a = 0
  · subst h0
    rw [if_pos rfl]
    refine (step_lit Z w0 w k g total x.st room x.rep x.s sa x.C told wv tv h hk ht hx.st (hx.rep 0) hS hlen _ rfl ha).mono ?_
    rintro e w' ⟨rfl, wv', tv', h'⟩
    exact Or.inl ⟨_, _, wv', tv', rfl, rfl, h'⟩
  · rw [if_neg h0]
    obtain rfl : a = 1 := by simp only at hl; omega
    obtain ⟨⟨sz, st', rep', s'⟩, ho⟩ : ∃ y, opOf outC x.st (total % 2 ^ k.pb) x.rep sa = y := ⟨_, rfl⟩
    rw [ho]
    simp only
    refine (step_op Z w0 w k g total x.st room x.rep x.s sa x.C told wv tv h hk ht hx.st hS hlen hroom _ rfl ha sz st' rep' s' ho).mono ?_
    rintro e w' (⟨hg, rfl, wv', tv', h'⟩ | ⟨hg, h1, h2⟩)
    · rw [if_pos hg]
      exact Or.inl ⟨_, _, wv', tv', rfl, rfl, h'⟩
    · rw [if_neg hg]
      exact Or.inr ⟨rfl, h1, h2⟩
end Go.Proofs.Ythcgglacbgjdhaa

/- A chunk: the walk. -/
namespace Go.Proofs.Ythcgglacbgjdhaa
open Go.RowKit Rng Lz Win
set_option linter.unusedVariables false
set_option linter.unusedSimpArgs false
theorem dend_c (db rb : Nat) (d : Dec) (w : World) (hd : DC db rb w d) :
    Calls Try.prog 49 #[.pointer (some ⟨db, 0, none⟩)] w fun e w' => e = .returned (.tuple #[.int .i64 d.fin.1, .int .i64 d.fin.2]) ∧ DC db rb w' d.order ∧ Frm (DO db rb) w w' := by
  obtain ⟨r, hd', hback⟩ := hd.dec
  refine (dend_p db r d w hd').mono ?_
  rintro e w' ⟨rfl, h1, h2⟩
  exact ⟨rfl, hback _ _ Dec.order_nil h1, h2.mono fun q _ hq => .inl hq⟩
/-- The blocks that a chunk writes of those that were. -/
def ChZ (k : LK) (wb db rb : Nat) (wv : Value) (q : Nat) : Prop := q = db ∨ q = rb ∨ q = k.sb ∨ q = k.lb ∨ q = wb ∨ wv.ownBlock = some q
theorem RdAt.start (w : World) (k : LK) (st : Nat) (rep : Nat → Nat) (pr : Pr) (base wb kb S bt N0 : Nat) (C : List UInt8) (wv : Value) (db rb : Nat) (d : Dec) (tot : Int)
    (hs : StAt w k st rep pr) (hw : WinC w base wb kb S C wv) (hd : DecAt w 149 db rb d)
    (hk : k.sb < N0 ∧ k.lb < N0) (hv : ∀ q, wv.ownBlock = some q → q < N0) (hwb : wb < N0) (hdb : N0 ≤ db) (hrb : N0 ≤ rb) (hbt : bt ≤ w.heap.size) (hb : base ≤ w.heap.size) :
    ∃ rb', RdAt (ChZ k wb db rb' wv) w (w.alloc (.cells #[.pointer (some ⟨k.sb, 0, none⟩), .pointer (some ⟨wb, 0, none⟩), .pointer (some ⟨db, 0, none⟩), .int .i64 tot, .slice none 0 0] 127)) k ⟨db, rb', wb, kb, w.heap.size, S, base, bt⟩ tot st rep ⟨d, pr⟩ C [] wv (.slice none 0 0) ∧ N0 ≤ rb' := by
  have hdc : ∃ rb', DC db rb' w d ∧ N0 ≤ rb' ∧ rb' < w.heap.size ∧ (∀ (T : TypeId) c b, Pts w b c T → b = rb' → T = 149 ∨ N0 ≤ b) := by
    by_cases h0 : d.rest = []
    · exact ⟨db, .inr ⟨rfl, h0, rb, hd⟩, hdb, DC.pts (.inl hd) |>.elim fun c h => h.lt, fun T c b hp e => .inr (by omega)⟩
    · refine ⟨rb, .inl hd, hrb, ?_, fun T c b hp e => .inr (by omega)⟩
      obtain ⟨⟨A, c, hp, hrow, ho, hc, hm⟩, hfit, hn⟩ := hd
      have h1 : 0 < d.rest.length := List.length_pos_iff.2 h0
      obtain ⟨ab, off, rfl, hab, -⟩ := hrow h1
      have := ho h1 _ rfl
      have e : ab = rb := Classical.byContradiction fun e => this e
      omega
  obtain ⟨rb', hdc, hr1, hr2, -⟩ := hdc
  obtain ⟨cd, hdp⟩ := hdc.pts
  have hdl := hdp.lt
  have F : Frm (fun _ => False) w (w.alloc (.cells #[.pointer (some ⟨k.sb, 0, none⟩), .pointer (some ⟨wb, 0, none⟩), .pointer (some ⟨db, 0, none⟩), .int .i64 tot, .slice none 0 0] 127)) := (Frm.refl _ w).alloc _
  refine ⟨rb', ⟨⟨DC.keep _ _ _ _ _ _ hdc F (fun _ _ h => h), hs.m.frm F id, hs.l.frm F id, hs.fit, ?_⟩, hw.frm F id (fun _ _ h => h), Pts.new w _ _, OwnB.nil _ _ _, fun q _ h => by simp [Value.ownBlock] at h, ⟨?_, ?_, ?_, by simp [Value.ownBlock], Nat.lt_of_lt_of_le hr2 F.size⟩, ⟨Nat.le_trans hb F.size, Nat.le_trans hbt F.size⟩, ?_, F.mono fun _ _ h => h.elim⟩, hr1⟩
  · refine ⟨?_, ?_, hs.ne⟩
    · rintro (e | e) <;> simp only at e <;> omega
    · rintro (e | e) <;> simp only at e <;> omega
  · simp only; omega
  · simp only; omega
  · intro e
    have := hv _ e
    simp only at this
    omega
  · intro q hq hlt
    simp only at hq
    rcases hq with e | e | e | e | e | e | e | e
    · exact .inl e
    · exact .inr (.inl e)
    · exact .inr (.inr (.inl e))
    · exact .inr (.inr (.inr (.inl e)))
    · exact .inr (.inr (.inr (.inr (.inl e))))
    · omega
    · exact .inr (.inr (.inr (.inr (.inr e))))
    · simp [Value.ownBlock] at e
/-- How a chunk ends. -/
def ChunkEnd (k : LK) (base wb kb S : Nat) (wv : Value) (w : World) (R : Option (List UInt8 × RS)) (e : Ending) (w' : World) : Prop :=
  Frm (fun q => q = k.sb ∨ q = k.lb ∨ q = wb ∨ wv.ownBlock = some q) w w' ∧
  ((R = none ∧ e = .returned (.tuple #[.slice none 0 0, .int .i64 11])) ∨
   ∃ told y tv wv', R = some (told, y) ∧ e = .returned (.tuple #[tv, .int .i64 0]) ∧ OwnB w' 5 w.heap.size tv told ∧ StAt w' k y.st y.rep y.s.pr ∧ WinC w' base wb kb S y.C wv' ∧ Mv w wv wv' ∧ ∀ q, tv.ownBlock = some q → wv'.ownBlock ≠ some q)
theorem chunk_frm {k : LK} {wb db rb : Nat} {wv : Value} {w wc w6 w7 : World} (hB : Below w.heap.size w wc) (h6 : Frm (ChZ k wb db rb wv) wc w6) (hdb : w.heap.size + 2 ≤ db) (hrb : w.heap.size + 2 ≤ rb) (h7 : Frm (fun q => q = w.heap.size ∨ q = w.heap.size + 1) w6 w7) :
    Frm (fun q => q = k.sb ∨ q = k.lb ∨ q = wb ∨ wv.ownBlock = some q) w w7 := by
  have h0 : Frm (fun _ => False) w wc := Frm.of_below hB
  refine ((h0.mono fun _ _ h => h.elim).transW h6 ?_).transW h7 ?_
  · rintro q (e | e | e | e | e | e) hlt
    · omega
    · omega
    · exact .inl e
    · exact .inr (.inl e)
    · exact .inr (.inr (.inl e))
    · exact .inr (.inr (.inr e))
  · rintro q (e | e) hlt
    · omega
    · omega
theorem chunk_none {k : LK} {base wb kb S db rb : Nat} {wv : Value} {w wc w6 w7 : World} (hB : Below w.heap.size w wc) (h6 : Frm (ChZ k wb db rb wv) wc w6) (hdb : w.heap.size + 2 ≤ db) (hrb : w.heap.size + 2 ≤ rb) (h7 : Frm (fun q => q = w.heap.size ∨ q = w.heap.size + 1) w6 w7) :
    ChunkEnd k base wb kb S wv w none (.returned (.tuple #[.slice none 0 0, .int .i64 11])) w7 := ⟨chunk_frm hB h6 hdb hrb h7, .inl ⟨rfl, rfl⟩⟩
theorem chunk_some {k : LK} {base wb kb S db rb xb : Nat} {wv tv1 wv1 : Value} {w wc w6 w7 : World} {tot : Int} {told : List UInt8} {x : RS} {d : Dec} {c0 c1 : Value} (hB : Below w.heap.size w wc) (h6 : RdAt (ChZ k wb db rb wv) wc w6 k ⟨db, rb, wb, kb, xb, S, base, w.heap.size + 2⟩ tot x.st x.rep ⟨d, x.s.pr⟩ x.C told wv1 tv1)
    (hdb : w.heap.size + 2 ≤ db) (hrb : w.heap.size + 2 ≤ rb) (h7 : Frm (fun q => q = w.heap.size ∨ q = w.heap.size + 1) w6 w7) (p0 : Pts w6 w.heap.size #[c0] 22) (p1 : Pts w6 (w.heap.size + 1) #[c1] 25) :
    ChunkEnd k base wb kb S wv w (some (told, x)) (.returned (.tuple #[tv1, .int .i64 0])) w7 := by
  obtain ⟨cw, hw⟩ := h6.win.pts
  obtain ⟨lw, hwo⟩ := h6.win.own
  refine ⟨chunk_frm hB h6.f hdb hrb h7, .inr ⟨told, x, tv1, wv1, rfl, rfl, ?_, h6.rested.frm h7 ?_ ?_, h6.win.frm h7 ?_ ?_, ?_, fun q hq e => h6.ne q e hq⟩⟩
  · exact World.ownsRow.mono (h6.o.frm h7 (fun q hq => by have h9 : w.heap.size + 2 ≤ q := (h6.o.lt hq).1; rintro (e | e) <;> omega)) (show w.heap.size ≤ w.heap.size + 2 by omega)
  · rintro (e | e)
    · exact h6.lz.m.ne_of p0 (by decide) e
    · exact h6.lz.m.ne_of p1 (by decide) e
  · rintro (e | e)
    · exact h6.lz.l.ne_of p0 (by decide) e
    · exact h6.lz.l.ne_of p1 (by decide) e
  · rintro (e | e)
    · exact hw.ne_of p0 (by decide) e
    · exact hw.ne_of p1 (by decide) e
  · rintro q hq (e | e)
    · subst e; exact own_ne hwo p0 (by decide) hq
    · subst e; exact own_ne hwo p1 (by decide) hq
  · intro q hq
    by_cases hlt : q < w.heap.size
    · have hz := h6.z q (.inr (.inr (.inr (.inr (.inr (.inr (.inl hq))))))) (Nat.lt_of_lt_of_le hlt hB.size)
      obtain ⟨cd, hd⟩ := h6.dpts
      rcases hz with e | e | e | e | e | e
      · omega
      · omega
      · subst e; exact absurd hq (own_ne hwo h6.lz.m (by decide))
      · subst e; exact absurd hq (own_ne hwo h6.lz.l (by decide))
      · subst e; exact absurd hq (own_ne hwo hw (by decide))
      · exact .inl e
    · exact .inr (by omega)
end Go.Proofs.Ythcgglacbgjdhaa

/- A chunk that begins as one: the walk. -/
namespace Go.Proofs.Ythcgglacbgjdhaa
open Go.RowKit Rng Lz Win
set_option linter.unusedVariables false
set_option linter.unusedSimpArgs false
theorem and15 (t : Nat) (h : t < 9223372036854775808) : bits .and .i64 (t : Int) 15 = ((t % 16 : Nat) : Int) := by
  have e : (15 : Int) = ((15 : Nat) : Int) := rfl
  show IntKind.i64.wrap ((BitVec.ofInt 64 (t : Int) &&& BitVec.ofInt 64 15).toNat : Int) = _
  rw [BitVec.toNat_and, ofInt_u64 t (by omega), e, ofInt_u64 15 (by omega), show (15 : Nat) = 2 ^ 4 - 1 by rfl, Nat.and_two_pow_sub_one_eq_mod]
  exact Go.IntWalk.i64_in _ (by omega)
theorem LzAt.coder {σ : Type} {CA : World → σ → Prop} {own : Nat → Prop} {T : TypeId} {w w' : World} {k : LK} {st : Nat} {rep : Nat → Nat} {s : CP σ} {d : σ} (h : LzAt CA own T w k st rep s) (hc : CA w' d) (hf : Frm own w w') : LzAt CA own T w' k st rep ⟨d, s.pr⟩ ∧ Frm (Wr own k) w w' :=
  ⟨⟨hc, h.m.frm hf h.ne.1, h.l.frm hf h.ne.2.1, h.fit, h.ne⟩, hf.mono fun q _ e => .inl e⟩
set_option maxRecDepth 100000 in
set_option maxHeartbeats 4000000 in
theorem chunk_main (k : LK) (st : Nat) (rep : Nat → Nat) (pr : Pr) (base wb kb S : Nat) (C bs : List UInt8) (wv : Value) (A : Option Addr) (n c l total : Nat) (w : World)
    (hs : StAt w k st rep pr) (hw : WinC w base wb kb S C wv) (hb : base ≤ w.heap.size) (hS : S ≤ 16777216) (hk : k.Ok) (hst : st < 12) (hrep : ∀ j, rep j < 4294967296)
    (hl : l = bs.length) (hr : BRow w w.heap.size A bs) (hc : bs.length ≤ c) (hcm : c ≤ maxLen) (hlen : bs.length ≤ 140737488355328)
    (h1 : 1 ≤ n) (h2 : n ≤ 2097152) (ht : total < 9223372036854775808) (hnew : newErr bs = 0) :
    Calls Try.prog 26 #[.pointer (some ⟨k.sb, 0, none⟩), .pointer (some ⟨wb, 0, none⟩), .int .i64 total, .slice A l c, .int .i64 n] w fun e w' => ChunkEnd k base wb kb S wv w (chunkOf k S total n st rep pr C bs) e w' := by
  subst hl
  obtain ⟨R, hR⟩ : ∃ R, chunkOf k S total n st rep pr C bs = R := ⟨_, rfl⟩
  rw [hR]
  unfold chunkOf at hR
  rw [if_neg (fun h => h hnew)] at hR
  obtain ⟨T, hT⟩ : ∃ T, totOf total = T := ⟨_, rfl⟩
  rw [hT] at hR
  have hTb : T < 1099511627792 := by rw [← hT]; exact totOf_lt total
  obtain ⟨GO, hGO⟩ : ∃ GO, chunkGo k S T n (n + 1) [] ⟨st, rep, ⟨newDec bs, pr⟩, C⟩ = GO := ⟨_, rfl⟩
  rw [hGO] at hR
  obtain ⟨p0, p1, hbl, hsz⟩ := two_new w (.slice none 0 0) (.int .i64 0) 22 25
  have HND := Lib.hid (dnew_p A bs bs.length c _ rfl ((hr.below hbl).more (Nat.le_of_lt (by rw [hsz]; omega))) hc hcm hlen hnew)
  have P0 := Lib.hid p0
  have P1 := Lib.hid p1
  have BL := Lib.hid hbl
  have SZ := Lib.hid hsz
  have HR := Lib.hid hR
  have HT := Lib.hid hT
  have HG := Lib.hid hGO
  have HS := Lib.hid hs
  have HW := Lib.hid hw
  have HK := Lib.hid hk
  have HREP := Lib.hid hrep
  have h1i : (1 : Int) ≤ (n : Int) := by omega
  have h2i : (n : Int) ≤ 2097152 := by omega
  clear hR hT hGO p0 p1 hbl hsz hs hw hk hr hrep hnew
  go_enter_defers Try.func26, Try.ntmps26
  go_wp2
  go_step3
  go_wp2_with fail
  refine Calls.mono HND.out ?_; rintro e w3 ⟨db, rb, rfl, hd3, hdb, hrb, hB3⟩
  rw [SZ.out] at hdb hrb hB3
  have q0 := P0.out.below hB3 (by omega)
  have q1 := P1.out.below hB3 (by omega)
  have b3 := BL.out.trans (hB3.mono (by omega))
  have Q0 := Lib.hid (q0.other (p := ⟨w.heap.size + 1, 0, none⟩) (by simp) (.int .i64 0))
  have Q1 := Lib.hid (q1.set 0 (.int .i64 0))
  have B4 := Lib.hid (b3.setCell (p := ⟨w.heap.size + 1, 0, none⟩) (by simp) (.int .i64 0))
  have f4 : Frm (· = w.heap.size + 1) w3 (w3.setCell ⟨w.heap.size + 1, 0, none⟩ (.int .i64 0)) := Frm.setCell (S := fun x => x = w.heap.size + 1) (Frm.refl _ w3) (p := ⟨w.heap.size + 1, 0, none⟩) (by rfl) _
  have D4 := Lib.hid (DecAt.frm hd3 f4 (by omega) (by omega))
  have c11 := q1.cell 0
  have z11 := q1.frozen 0
  clear hd3 hB3 q0 q1 b3 f4
  go_upto_if 43 with fail
  obtain ⟨w4, hw4⟩ : ∃ w4, w3.setCell ⟨w.heap.size + 1, 0, none⟩ (.int .i64 0) = w4 := ⟨_, rfl⟩
  rw [hw4] at Q0 Q1 B4 D4 ⊢
  have hkb := HS.out.m.lt
  have hlb := HS.out.l.lt
  obtain ⟨cw, hwp⟩ := HW.out.pts
  have hwl := hwp.lt
  obtain ⟨lw, hwo⟩ := HW.out.own
  have S4 := Lib.hid (HS.out.frm (Frm.of_below (S := fun _ => False) B4.out) id id)
  have W4 := Lib.hid (HW.out.frm (Frm.of_below (S := fun _ => False) B4.out) id (fun _ _ h => h))
  have HWL := Lib.hid (fun q (h : wv.ownBlock = some q) => (hwo.lt h).2)
  clear hw4 c11 z11 hwp hwo
  go_cut [2] from 13 (fun v wx => v = .int .i64 T ∧ wx = w4)
  case first =>
    by_cases hbig : 1099511627776 < total
    · have hi : (1099511627776 : Int) < (total : Int) := by omega
      have ha := and15 total ht
      obtain ⟨m, hm⟩ : ∃ m, total % 16 = m := ⟨_, rfl⟩
      have hTe := HT.out
      unfold totOf at hTe
      rw [if_pos hbig, hm] at hTe
      rw [hm] at ha
      have hmb : m < 16 := by omega
      have hTi : (1099511627776 : Int) + (m : Int) = (T : Int) := by omega
      have hTw : IntKind.i64.wrap (T : Int) = (T : Int) := Go.IntWalk.i64_in _ (by omega)
      clear hm hTe hbig hmb
      go_wp2
      go_meet
      case rel => exact ⟨rfl, rfl⟩
    · have hi : (total : Int) ≤ 1099511627776 := by omega
      have hTe := HT.out
      unfold totOf at hTe
      rw [if_neg hbig] at hTe
      subst hTe
      clear hbig
      go_wp2
      go_meet
      case rel => exact ⟨rfl, rfl⟩
  case rest =>
    obtain ⟨rfl, rfl⟩ := hcut
    have hwn : w.heap.size + 2 ≤ wc.heap.size := by have := Q1.out.lt; omega
    obtain ⟨rb', hrd, hrb'⟩ := RdAt.start wc k st rep pr base wb kb S (w.heap.size + 2) (w.heap.size + 2) C wv db rb (newDec bs) T S4.out W4.out D4.out ⟨by omega, by omega⟩ (fun q h => by have := HWL.out q h; omega) (by omega) hdb hrb hwn (by omega)
    have RD := Lib.hid hrd
    clear hrd
    go_wp2
    go_step3
    go_wp2
    go_loopg [54] (n + 1) (fun gn s54 wr => ∃ (told : List UInt8) (x : RS) (wv1 tv1 : Value) (tot : Int), RdAt (ChZ k wb db rb' wv) wc wr k ⟨db, rb', wb, kb, wc.heap.size, S, base, w.heap.size + 2⟩ tot x.st x.rep x.s x.C told wv1 tv1 ∧ x.Ok ∧ told.length ≤ n ∧ n + 1 ≤ gn + told.length ∧ chunkGo k S T n gn told x = GO)
    case atStart => exact ⟨[], ⟨st, rep, ⟨newDec bs, pr⟩, C⟩, wv, _, T, RD.out, ⟨hst, HREP.out⟩, by simp, by simp, HG.out⟩
    case round =>
      obtain ⟨told, x, wv1, tv1, tot, hrd, hx, htl, hgk, hgo⟩ := hrel
      have HX := Lib.hid hx
      have HGK := Lib.hid hgk
      have HRD := Lib.hid hrd
      obtain ⟨d0, d1, d2, d3, d4, -⟩ := hrd.cells
      obtain ⟨A5, c5, htv, hc5, hm5, -⟩ := hrd.o.slice
      subst htv
      clear RD HG hrd hx hgk
      have hnz : ∀ b, w.heap.size ≤ b → b < w.heap.size + 2 → ¬ ChZ k wb db rb' wv b := by
        rintro b h1 h2 (e | e | e | e | e | e)
        · omega
        · omega
        · omega
        · omega
        · omega
        · have := HWL.out b e; omega
      have HNZ := Lib.hid hnz
      clear hnz
      by_cases hn : n ≤ told.length
      · have hni : (n : Int) ≤ ((told.length : Nat) : Int) := by omega
        have hR := HR.out
        obtain ⟨g, rfl⟩ : ∃ g, gk = g + 1 := ⟨gk - 1, by have := HGK.out; omega⟩
        unfold chunkGo at hgo
        rw [if_pos hn] at hgo
        rw [← hgo] at hR
        simp only at hR
        have HEND := dend_c db rb' x.s.d wr HRD.out.lz.c
        obtain ⟨⟨f1, f2⟩, hf⟩ : ∃ p, x.s.d.fin = p := ⟨_, rfl⟩
        rw [hf] at hR HEND
        simp only at HEND
        have HE := Lib.hid HEND
        have h3 : (f2 ≠ 0) ∨ (f2 = 0 ∧ f1 ≠ 0) ∨ (f2 = 0 ∧ f1 = 0) := by omega
        clear HEND hf hgo hn
        rcases h3 with h3 | ⟨rfl, h3⟩ | ⟨rfl, rfl⟩
        · have hR2 : none = R := by rw [if_neg (fun e => h3 (by injection e))] at hR; exact hR
          subst hR2
          have hf2 : ((f2 : Int) == 0) = false := by rw [beq_eq_false_iff_ne]; omega
          have hf3 : ((f2 : Int) != 0) = true := by rw [bne_iff_ne]; omega
          clear hR h3
          go_wp2_with fail
          refine HE.out.mono ?_; rintro e w6 ⟨rfl, hd6, f6⟩
          have h6 := HRD.out.lz.coder hd6 f6
          have H6 := Lib.hid (HRD.out.lzStep h6.1 h6.2)
          have e0 := Q0.out.frm H6.out.f (HNZ.out _ (Nat.le_refl _) (by omega))
          have e1 := Q1.out.frm H6.out.f (HNZ.out _ (by omega) (by omega))
          have E0 := Lib.hid e0
          have E1 := Lib.hid e1
          have c0 := e0.cell 0
          have z0 := e0.frozen 0
          have e2 := e1.other (p := ⟨w.heap.size, 0, none⟩) (by simp) (.slice none 0 0)
          have c1 := e2.cell 0
          have z1 := e2.frozen 0
          have r0 := (e0.set 0 (.slice none 0 0)).other (p := ⟨w.heap.size + 1, 0, none⟩) (by simp) (.int .i64 11)
          have r1 := e2.set 0 (.int .i64 11)
          have FF : Hid (Frm (fun q => q = w.heap.size ∨ q = w.heap.size + 1) w6 ((w6.setCell ⟨w.heap.size, 0, none⟩ (.slice none 0 0)).setCell ⟨w.heap.size + 1, 0, none⟩ (.int .i64 11))) := Lib.hid (((Frm.refl _ w6).setCell (p := ⟨w.heap.size, 0, none⟩) (.inl rfl) _).setCell (p := ⟨w.heap.size + 1, 0, none⟩) (.inr rfl) _)
          have R0 := Lib.hid r0
          have R1 := Lib.hid r1
          clear e0 e1 e2 r0 r1 hd6 f6 h6 d0 d1 d2 d3 d4
          go_wp2
          simp only [Exit.noGoto_ret]
          go_wp2
          refine leaves_cons (f := 47) (args := #[.pointer (some ⟨w.heap.size, 0, none⟩), .pointer (some ⟨w.heap.size + 1, 0, none⟩)]) (by simp) (by simp [go_sem]) ?_
          refine (chunk_idle _ _ _).mono ?_
          rintro e u' w'' ⟨rfl, rfl, rfl⟩
          have k0 := R0.out.cell 0
          have k1 := R1.out.cell 0
          simp [Leaves, settle, results, Try.results26, go_sem, k0, k1]
          exact chunk_none B4.out H6.out.f hdb hrb' FF.out
        · have hR2 : none = R := by rw [if_neg (fun e => h3 (by injection e))] at hR; exact hR
          subst hR2
          have hf2 : ((f1 : Int) == 0) = false := by rw [beq_eq_false_iff_ne]; omega
          have hf3 : ((f1 : Int) != 0) = true := by rw [bne_iff_ne]; omega
          clear hR h3
          go_wp2_with fail
          refine HE.out.mono ?_; rintro e w6 ⟨rfl, hd6, f6⟩
          have h6 := HRD.out.lz.coder hd6 f6
          have H6 := Lib.hid (HRD.out.lzStep h6.1 h6.2)
          have e0 := Q0.out.frm H6.out.f (HNZ.out _ (Nat.le_refl _) (by omega))
          have e1 := Q1.out.frm H6.out.f (HNZ.out _ (by omega) (by omega))
          have E0 := Lib.hid e0
          have E1 := Lib.hid e1
          have c0 := e0.cell 0
          have z0 := e0.frozen 0
          have e2 := e1.other (p := ⟨w.heap.size, 0, none⟩) (by simp) (.slice none 0 0)
          have c1 := e2.cell 0
          have z1 := e2.frozen 0
          have r0 := (e0.set 0 (.slice none 0 0)).other (p := ⟨w.heap.size + 1, 0, none⟩) (by simp) (.int .i64 11)
          have r1 := e2.set 0 (.int .i64 11)
          have FF : Hid (Frm (fun q => q = w.heap.size ∨ q = w.heap.size + 1) w6 ((w6.setCell ⟨w.heap.size, 0, none⟩ (.slice none 0 0)).setCell ⟨w.heap.size + 1, 0, none⟩ (.int .i64 11))) := Lib.hid (((Frm.refl _ w6).setCell (p := ⟨w.heap.size, 0, none⟩) (.inl rfl) _).setCell (p := ⟨w.heap.size + 1, 0, none⟩) (.inr rfl) _)
          have R0 := Lib.hid r0
          have R1 := Lib.hid r1
          clear e0 e1 e2 r0 r1 hd6 f6 h6 d0 d1 d2 d3 d4
          go_wp2
          simp only [Exit.noGoto_ret]
          go_wp2
          refine leaves_cons (f := 47) (args := #[.pointer (some ⟨w.heap.size, 0, none⟩), .pointer (some ⟨w.heap.size + 1, 0, none⟩)]) (by simp) (by simp [go_sem]) ?_
          refine (chunk_idle _ _ _).mono ?_
          rintro e u' w'' ⟨rfl, rfl, rfl⟩
          have k0 := R0.out.cell 0
          have k1 := R1.out.cell 0
          simp [Leaves, settle, results, Try.results26, go_sem, k0, k1]
          exact chunk_none B4.out H6.out.f hdb hrb' FF.out
        · have hR2 : some (told, x) = R := by rw [if_pos rfl] at hR; exact hR
          subst hR2
          clear hR
          go_wp2_with fail
          refine HE.out.mono ?_; rintro e w6 ⟨rfl, hd6, f6⟩
          have h6 := HRD.out.lz.coder hd6 f6
          have H6 := Lib.hid (HRD.out.lzStep h6.1 h6.2)
          have e0 := Q0.out.frm H6.out.f (HNZ.out _ (Nat.le_refl _) (by omega))
          have e1 := Q1.out.frm H6.out.f (HNZ.out _ (by omega) (by omega))
          have E0 := Lib.hid e0
          have E1 := Lib.hid e1
          have c0 := e0.cell 0
          have z0 := e0.frozen 0
          have e2 := e1.other (p := ⟨w.heap.size, 0, none⟩) (by simp) (.slice A5 told.length c5)
          have c1 := e2.cell 0
          have z1 := e2.frozen 0
          have r0 := (e0.set 0 (.slice A5 told.length c5)).other (p := ⟨w.heap.size + 1, 0, none⟩) (by simp) (.int .i64 0)
          have r1 := e2.set 0 (.int .i64 0)
          have FF : Hid (Frm (fun q => q = w.heap.size ∨ q = w.heap.size + 1) w6 ((w6.setCell ⟨w.heap.size, 0, none⟩ (.slice A5 told.length c5)).setCell ⟨w.heap.size + 1, 0, none⟩ (.int .i64 0))) := Lib.hid (((Frm.refl _ w6).setCell (p := ⟨w.heap.size, 0, none⟩) (.inl rfl) _).setCell (p := ⟨w.heap.size + 1, 0, none⟩) (.inr rfl) _)
          have R0 := Lib.hid r0
          have R1 := Lib.hid r1
          obtain ⟨-, -, -, -, k4, -⟩ := H6.out.cells
          have k4z := k4
          clear e0 e1 e2 r0 r1 hd6 f6 h6 d0 d1 d2 d3 d4
          go_wp2
          simp only [Exit.noGoto_ret]
          go_wp2
          refine leaves_cons (f := 47) (args := #[.pointer (some ⟨w.heap.size, 0, none⟩), .pointer (some ⟨w.heap.size + 1, 0, none⟩)]) (by simp) (by simp [go_sem]) ?_
          refine (chunk_idle _ _ _).mono ?_
          rintro e u' w'' ⟨rfl, rfl, rfl⟩
          have k0 := R0.out.cell 0
          have k1 := R1.out.cell 0
          simp [Leaves, settle, results, Try.results26, go_sem, k0, k1]
          exact chunk_some B4.out H6.out hdb hrb' FF.out E0.out E1.out
      · have hni : ((told.length : Nat) : Int) < (n : Int) := by omega
        obtain ⟨g, rfl⟩ : ∃ g, gk = g + 1 := ⟨gk - 1, by have := HGK.out; omega⟩
        unfold chunkGo at hgo
        rw [if_neg hn] at hgo
        obtain ⟨L, hL⟩ : ∃ L, told.length = L := ⟨_, rfl⟩
        obtain ⟨tl, htl2⟩ : ∃ tl, T + L = tl := ⟨_, rfl⟩
        obtain ⟨rm, hrm⟩ : ∃ rm, n - L = rm := ⟨_, rfl⟩
        obtain ⟨SR, hSR⟩ : ∃ SR, stepOf k S tl rm x = SR := ⟨_, rfl⟩
        rw [hL] at hni hc5 d4 htl hgo hn
        rw [htl2, hrm, hSR] at hgo
        have htli : (T : Int) + (L : Int) = (tl : Int) := by omega
        have htlw : IntKind.i64.wrap (tl : Int) = (tl : Int) := Go.IntWalk.i64_in _ (by omega)
        have hrmi : (n : Int) - (L : Int) = (rm : Int) := by omega
        have hrmw : IntKind.i64.wrap (rm : Int) = (rm : Int) := Go.IntWalk.i64_in _ (by omega)
        have h7 := HRD.out.setTotal tl
        rw [hL] at h7
        have z3 := HRD.out.p.frozen 3
        obtain ⟨q0, q1, q2, q3, q4, -⟩ := h7.cells
        have HSTEP := Lib.hid (step_any (ChZ k wb db rb' wv) wc _ k ⟨db, rb', wb, kb, wc.heap.size, S, base, w.heap.size + 2⟩ tl rm x told wv1 _ h7 HK.out (by omega) HX.out hS (by omega) (by omega))
        have HSR := Lib.hid hSR
        have HGO := Lib.hid hgo
        have HL := Lib.hid hL
        have HB1 : Hid (T + L = tl ∧ n - L = rm) := Lib.hid ⟨htl2, hrm⟩
        clear h7 hSR hgo hL htl2 hrm
        go_wp2_with fail
        refine HSTEP.out.mono ?_; rintro e w6 (⟨b, y, wv2, tv2, hR2, rfl, h8⟩ | ⟨hR2, ⟨xp, rfl⟩, st9, rep9, s9, C9, told9, wv9, tv9, h9⟩)
        · have hR3 : stepOf k S tl rm x = some (b, y) := hR2
          have hgo := HGO.out
          have h1 := HSR.out
          rw [hR3] at h1
          rw [← h1] at hgo
          have hi := stepOf_inv HX.out (by have := HB1.out; omega) hR3
          have H8 := Lib.hid h8
          have HI := Lib.hid hi
          have HGO2 := Lib.hid hgo
          clear hR2 hR3 hgo h1 hi h8 HGO HSR HSTEP q0 q1 q2 q3 q4 z3 d0 d1 d2 d3 d4
          go_wp2
          go_roundg g
          case measure => omega
          case rel =>
            refine ⟨told ++ b, y, wv2, tv2, tl, H8.out, HI.out.1, ?_, ?_, HGO2.out⟩
            · have := HB1.out; have := HI.out.2; have := HL.out; rw [List.length_append]; omega
            · have := HB1.out; have := HI.out.2; have := HL.out; have := HGK.out; rw [List.length_append]; omega
        · have hR3 : stepOf k S tl rm x = none := hR2
          have hgo := HGO.out
          have h1 := HSR.out
          rw [hR3] at h1
          rw [← h1] at hgo
          have hR := HR.out
          rw [← hgo] at hR
          have hR4 : none = R := hR
          subst hR4
          have H9 := Lib.hid h9
          have E0 := Lib.hid (Q0.out.frm h9.f (HNZ.out _ (Nat.le_refl _) (by omega)))
          have E1 := Lib.hid (Q1.out.frm h9.f (HNZ.out _ (by omega) (by omega)))
          clear hR2 hR3 hgo h1 hR h9 HR HGO HSR HSTEP q0 q1 q2 q3 q4 z3 d0 d1 d2 d3 d4
          go_wp2
          refine leaves_cons (f := 47) (args := #[.pointer (some ⟨w.heap.size, 0, none⟩), .pointer (some ⟨w.heap.size + 1, 0, none⟩)]) (by simp) (by simp [go_sem]) ?_
          refine (chunk_caught _ _ xp _ _ _ _ E0.out E1.out).mono ?_
          rintro e u' w'' ⟨rfl, rfl, k0, k1, kf⟩
          have c0 := k0.cell 0
          have c1 := k1.cell 0
          simp [Leaves, settle, results, Try.results26, go_sem, c0, c1]
          exact chunk_none B4.out H9.out.f hdb hrb' kf
end Go.Proofs.Ythcgglacbgjdhaa

/- A chunk that is made: the walk of Chunk, behind the refusals. -/
namespace Go.Proofs.Ythcgglacbgjdhaa
open Go.RowKit Rng Lz Win Fnd
set_option linter.unusedVariables false
set_option linter.unusedSimpArgs false
/-- A state tq9 put in by, that rests. -/
structure PAt (w : World) (k : LK) (st : Nat) (rep : Nat → Nat) (pr : Pr) : Prop where
  m : Pts w k.sb (mcells k st rep pr) 66
  l : Pts w k.lb (lcells k pr) 47
  fit : ∀ i, pr i < 65536
  ne : k.sb ≠ k.lb
theorem PAt.frm {w w' : World} {k : LK} {st : Nat} {rep : Nat → Nat} {pr : Pr} {N : Nat → Prop} (h : PAt w k st rep pr) (hf : Frm N w w') (h1 : ¬ N k.sb) (h2 : ¬ N k.lb) : PAt w' k st rep pr := ⟨h.m.frm hf h1, h.l.frm hf h2, h.fit, h.ne⟩
theorem PAt.later {w w' : World} {k : LK} {st : Nat} {rep : Nat → Nat} {pr : Pr} (h : PAt w k st rep pr) (hb : Below w.heap.size w w') : PAt w' k st rep pr := h.frm (Frm.of_below (S := fun _ => False) hb) id id
/-- The state's blocks. -/
def KZ (k : LK) (q : Nat) : Prop := q = k.sb ∨ q = k.lb
theorem OwnB.low {w : World} {T base base' : Nat} {v : Value} {bs : List UInt8} (h : OwnB w T base v bs) (hb : base' ≤ base) : OwnB w T base' v bs := by
  refine ⟨h.1, ?_⟩
  rcases h.2 with h2 | ⟨g, cap, cur, rfl, hb2, r⟩
  · exact .inl h2
  · exact .inr ⟨g, cap, cur, rfl, by omega, r⟩
theorem WrAt.start {w w2 : World} {k : LK} {st eb : Nat} {rep : Nat → Nat} {pr : Pr} {A : Option Addr} {c fr : Nat} {bs : List UInt8} {sh : Int} (hs : PAt w k st rep pr) (hr : BRow w w.heap.size A bs) (hoff : BOff (KZ k) A bs) (h1 : Below w.heap.size w w2) (he : EncAt w2 98 0 eb eb (.slice none 0 0) newEnc) (heb : w.heap.size ≤ eb) :
    WrAt (fun q => q = eb ∨ w2.heap.size + 1 ≤ q) (w2.alloc (.cells #[.pointer (some ⟨k.sb, 0, none⟩), .pointer (some ⟨eb, 0, none⟩), .slice A bs.length c, .int .i64 fr, .int .i64 sh] 75)) k ⟨eb, w2.heap.size⟩ A c bs sh fr st rep ⟨newEnc, pr⟩ := by
  have s2 := hs.later h1
  have e1 := hs.m.lt
  have e2 := hs.l.lt
  have e3 := he.p.lt
  have e4 := h1.size
  have hsz : (w2.alloc (.cells #[.pointer (some ⟨k.sb, 0, none⟩), .pointer (some ⟨eb, 0, none⟩), .slice A bs.length c, .int .i64 fr, .int .i64 sh] 75)).heap.size = w2.heap.size + 1 := by show (w2.heap.push _).size = _; rw [Array.size_push]
  refine ⟨⟨⟨⟨.slice none 0 0, ⟨he.p.alloc _, OwnB.nil _ _ _, he.k⟩, fun q hq => by cases hq⟩, .inl rfl, fun q hq => .inr (by omega), encI_new⟩, s2.m.alloc _, s2.l.alloc _, s2.fit, ?_, ?_, s2.ne⟩, Pts.new _ _ _, ?_, ?_, ?_⟩
  · rintro (e | e) <;> omega
  · rintro (e | e) <;> omega
  · intro h0
    obtain ⟨b, off, rfl, hlt, hc⟩ := hr h0
    have hb : Below w.heap.size w (w2.alloc (.cells #[.pointer (some ⟨k.sb, 0, none⟩), .pointer (some ⟨eb, 0, none⟩), .slice (some ⟨b, off, none⟩) bs.length c, .int .i64 fr, .int .i64 sh] 75)) := h1.alloc h1.size _
    exact ⟨b, off, rfl, by omega, fun j hj => (hb.cell (p := ⟨b, off + j, none⟩) hlt).trans (hc j hj)⟩
  · intro h0 ad e hz
    obtain ⟨b, off, e6, hlt, hc⟩ := hr h0
    have e7 := hoff h0 ad e
    rw [e] at e6
    injection e6 with e6
    subst e6
    rcases hz with (e8 | e8) | e8
    · rcases e8 with e8 | e8
      · simp only at e8; omega
      · simp only at e8; omega
    · exact e7 e8
    · simp only at e8; omega
  · rintro (e | e)
    · simp only at e; omega
    · simp only at e; omega
set_option maxRecDepth 100000 in
set_option maxHeartbeats 8000000 in
theorem putchunk_main (k : LK) (st : Nat) (rep : Nat → Nat) (pr : Pr) (A : Option Addr) (bs : List UInt8) (n c fr total : Nat) (B : Option Addr) (l : List Sq) (m d : Nat) (w : World)
    (hs : PAt w k st rep pr) (hk : k.Ok) (hst : st < 12) (hrep : ∀ j, rep j < 4294967296) (hn : n = bs.length) (hc : bs.length ≤ c) (hr : BRow w w.heap.size A bs) (hoff : BOff (KZ k) A bs) (hlen : bs.length ≤ 16777216)
    (hm : m = l.length) (hmd : l.length ≤ d) (hl : SqRow w w.heap.size B l) (hlo : ∀ ad, B = some ad → ¬ KZ k ad.block) (hml : l.length ≤ 140737488355328) (hfit : ∀ s ∈ l, s.fits) (hfr : fr ≤ bs.length) (h21 : bs.length - fr ≤ 2097152) (ht : total < 9223372036854775808)
    (hright : rightP bs fr l = true) (hcost : costOps (opsOf l) + 110 ≤ 1000000) :
    Calls Try.prog 9 #[.pointer (some ⟨k.sb, 0, none⟩), .slice A n c, .int .i64 fr, .int .i64 total, .slice B m d] w fun e w' => ∃ v, e = .returned (.tuple #[v, .int .i64 0]) ∧ OwnB w' 5 w.heap.size v (opsB k bs fr total st rep pr (opsOf l)) ∧
      PAt w' k (wOps k bs fr (totOf total) (opsOf l) ⟨fr, st, rep, ⟨newEnc, pr⟩⟩).st (wOps k bs fr (totOf total) (opsOf l) ⟨fr, st, rep, ⟨newEnc, pr⟩⟩).rep (wOps k bs fr (totOf total) (opsOf l) ⟨fr, st, rep, ⟨newEnc, pr⟩⟩).s.pr ∧ Frm (KZ k) w w' := by
  subst hn; subst hm
  unfold opsB
  obtain ⟨T, hT⟩ : ∃ T, totOf total = T := ⟨_, rfl⟩
  rw [hT]
  have hTb : T < 1099511627792 := by rw [← hT]; exact totOf_lt total
  obtain ⟨X, hX⟩ : ∃ X, wOps k bs fr T (opsOf l) ⟨fr, st, rep, ⟨newEnc, pr⟩⟩ = X := ⟨_, rfl⟩
  rw [hX]
  have hgo : rightGo bs l fr = some bs.length ∧ fr < bs.length := by
    unfold rightP rightEnd at hright
    cases hg : rightGo bs l fr with
    | none => rw [hg] at hright; cases hright
    | some a =>
      rw [hg] at hright
      obtain ⟨e1, e2⟩ := of_decide_eq_true hright
      subst e1
      exact ⟨rfl, e2⟩
  obtain ⟨sh, hsh⟩ : ∃ sh : Int, (T : Int) - (fr : Int) = sh := ⟨_, rfl⟩
  have hshw : IntKind.i64.wrap sh = sh := Go.IntWalk.i64_in _ (by omega)
  have HR1 := Lib.hid (right_p A bs bs.length c fr B l l.length d w rfl hc hr (by omega) rfl hmd hl hml hfit hfr)
  rw [hright] at HR1
  obtain ⟨r, hr2⟩ : ∃ r, bs.length - fr = r := ⟨_, rfl⟩
  have hri : (bs.length : Int) - (fr : Int) = (r : Int) := by omega
  have hrw : IntKind.i64.wrap (r : Int) = (r : Int) := Go.IntWalk.i64_in _ (by omega)
  have hr21 : (r : Int) ≤ 2097152 := by omega
  have hf1 : (0 : Int) ≤ (fr : Int) := by omega
  have hf2 : (fr : Int) ≤ (bs.length : Int) := by omega
  have ht1 : (0 : Int) ≤ (total : Int) := by omega
  have HS := Lib.hid hs
  have HK := Lib.hid hk
  have HREP := Lib.hid hrep
  have HR := Lib.hid hr
  have HOFF := Lib.hid hoff
  have HL := Lib.hid hl
  have HLO := Lib.hid hlo
  have HF := Lib.hid hfit
  have HT := Lib.hid hT
  have HX := Lib.hid hX
  have HGO := Lib.hid hgo
  have HCO := Lib.hid hcost
  have HSH := Lib.hid hsh
  have HN := Lib.hid (And.intro hlen (And.intro hfr hTb))
  clear hs hk hrep hr hoff hl hlo hfit hT hX hgo hcost hright hr2 h21 hfr
  go_enter Try.func9, Try.ntmps9
  go_wp2_with fail
  refine HR1.out.mono ?_; rintro e w1 ⟨rfl, b1⟩
  have B1 := Lib.hid b1
  clear b1 HR1
  go_upto_if 45 with fail
  go_cut [3] from 46 (fun v wx => v = .int .i64 T ∧ wx = w1)
  case first =>
    by_cases hbig : 1099511627776 < total
    · have hi : (1099511627776 : Int) < (total : Int) := by omega
      have ha := and15 total ht
      obtain ⟨m, hm⟩ : ∃ m, total % 16 = m := ⟨_, rfl⟩
      have hTe := HT.out
      unfold totOf at hTe
      rw [if_pos hbig, hm] at hTe
      rw [hm] at ha
      have hmb : m < 16 := by omega
      have hTi : (1099511627776 : Int) + (m : Int) = (T : Int) := by omega
      have hTw : IntKind.i64.wrap (T : Int) = (T : Int) := Go.IntWalk.i64_in _ (by omega)
      clear hm hTe hbig hmb
      go_wp2
      go_meet
      case rel => exact ⟨rfl, rfl⟩
    · have hi : (total : Int) ≤ 1099511627776 := by omega
      have hTe := HT.out
      unfold totOf at hTe
      rw [if_neg hbig] at hTe
      subst hTe
      clear hbig
      go_wp2
      go_meet
      case rel => exact ⟨rfl, rfl⟩
  case rest =>
    obtain ⟨rfl, hwx⟩ := hcut
    subst hwx
    go_wp2_with fail
    refine (enew_p wc).mono ?_; rintro e w2 ⟨rfl, h2, b2⟩
    have B2 := Lib.hid (B1.out.trans (b2.mono B1.out.size))
    have E2 := Lib.hid h2
    have HST := Lib.hid (WrAt.start (fr := fr) (sh := sh) (c := c) HS.out HR.out HOFF.out B2.out E2.out B1.out.size)
    have hsb := HSH.out
    obtain ⟨eb, heb⟩ : ∃ eb, wc.heap.size = eb := ⟨_, rfl⟩
    have hebw : w.heap.size ≤ eb := by have := B1.out.size; omega
    rw [heb] at HST ⊢
    have HEB := Lib.hid hebw
    clear h2 b2 heb hebw
    go_upto_region 13 with fail
    have HB3 := Lib.hid (B2.out.alloc B2.out.size (.cells #[.pointer (some ⟨k.sb, 0, none⟩), .pointer (some ⟨eb, 0, none⟩), .slice A bs.length c, .int .i64 fr, .int .i64 sh] 75))
    obtain ⟨w3, hw3⟩ : ∃ w3, w2.alloc (.cells #[.pointer (some ⟨k.sb, 0, none⟩), .pointer (some ⟨eb, 0, none⟩), .slice A bs.length c, .int .i64 fr, .int .i64 sh] 75) = w3 := ⟨_, rfl⟩
    obtain ⟨O, hO⟩ : ∃ O : Nat → Prop, (fun q => q = eb ∨ w2.heap.size + 1 ≤ q) = O := ⟨_, rfl⟩
    have hxb2 := B2.out.size
    have HO : Hid (∀ q, O q → w.heap.size ≤ q) := Lib.hid (fun q hq => by
      rw [← hO] at hq
      rcases hq with e | e
      · have := HEB.out; omega
      · omega)
    obtain ⟨xb, hxb⟩ : ∃ xb, w2.heap.size = xb := ⟨_, rfl⟩
    rw [hw3, hO, hxb] at HST
    rw [hw3] at HB3
    rw [hw3, hxb]
    rw [hxb] at hxb2
    have HXB := Lib.hid hxb2
    clear hw3 hO hxb hxb2 hsb B1 B2 E2
    have hlen2 : (l.length : Int) ≤ 140737488355328 := by omega
    go_wp2
    go_loopw [64] (fun iv wr => ∃ (j : Nat) (x : PS), iv = .int .i64 j ∧ j ≤ l.length ∧ WrAt O wr k ⟨eb, xb⟩ A c bs sh x.pos x.st x.rep x.s ∧ rightGo bs (l.drop j) x.pos = some bs.length ∧ wOps k bs fr T (opsOf (l.drop j)) x = X ∧ x.s.d.cnt + costOps (opsOf (l.drop j)) + 110 ≤ 1000000 ∧ x.st < 12 ∧ (∀ i, x.rep i < 4294967296) ∧ fr ≤ x.pos ∧ x.pos ≤ bs.length ∧ Frm (KZ k) w wr) (fun iv _ => l.length - (intOf iv).toNat)
    case atStart => exact ⟨0, ⟨fr, st, rep, ⟨newEnc, pr⟩⟩, rfl, by omega, HST.out, HGO.out.1, HX.out, by have := HCO.out; have h0 : newEnc.cnt = 0 := rfl; simp only [List.drop_zero]; omega, hst, HREP.out, Nat.le_refl _, HN.out.2.1, Frm.of_below HB3.out⟩
    case round =>
      obtain ⟨j, x, rfl, hj, hwr, hgo, hX, hcost, hxst, hxrep, hxf, hxl, hfr⟩ := hrel
      have HWR := Lib.hid hwr
      have HGO2 := Lib.hid hgo
      have HX2 := Lib.hid hX
      have HCO2 := Lib.hid hcost
      have HXR := Lib.hid hxrep
      have HXF := Lib.hid (And.intro hxf hxl)
      have HFR := Lib.hid hfr
      have hbnd := hwr.p.lt
      simp only at hbnd
      have HBND := Lib.hid hbnd
      clear hwr hgo hX hcost hxrep hxf hxl hfr hbnd HST HB3
      by_cases hjl : j < l.length
      · obtain ⟨b, off, hB, hb, hcell⟩ := HL.out (by omega)
        subst hB
        obtain ⟨c0, c1, c2⟩ := hcell j hjl
        obtain ⟨s, hs⟩ : ∃ s, l.getD j default = s := ⟨_, rfl⟩
        rw [hs] at c0 c1 c2
        have hdrop : l.drop j = s :: l.drop (j + 1) := by
          rw [List.drop_eq_getElem_cons hjl, ← hs]
          simp [List.getD, hjl]
        have hbk : ¬ KZ k b := HLO.out ⟨b, off, none⟩ rfl
        have hbl := HFR.out.block b hb hbk
        have x0 := (World.cell?_of_block (a := ⟨b, off + j * 3, none⟩) hbl).trans c0
        have x1 := (World.cell?_of_block (a := ⟨b, off + j * 3 + 1, none⟩) hbl).trans c1
        have x2 := (World.cell?_of_block (a := ⟨b, off + j * 3 + 2, none⟩) hbl).trans c2
        obtain ⟨⟨s0, s1⟩, ⟨s2, s3⟩, s4, s5⟩ := HF.out s (by rw [← hs]; simp [List.getD, hjl])
        have HDR := Lib.hid hdrop
        clear hcell c0 c1 c2 hs hdrop hbl hbk
        obtain ⟨sl, sm, sb⟩ := s
        simp only at x0 x1 x2 s0 s1 s2 s3 s4 s5
        have hg := HGO2.out
        have hX := HX2.out
        have hco := HCO2.out
        rw [HDR.out] at hg hX hco
        rw [rightGo] at hg
        unfold opsOf opsSq at hX hco
        by_cases hbad : RB1 ⟨sl, sm, sb⟩ (bs.length - x.pos)
        · rw [if_pos hbad] at hg; cases hg
        rw [if_neg hbad] at hg
        unfold RB1 at hbad
        simp only at hbad hg hX hco
        obtain ⟨L, rfl⟩ : ∃ L : Nat, sl = L := ⟨sl.toNat, by omega⟩
        obtain ⟨M, rfl⟩ : ∃ M : Nat, sm = M := ⟨sm.toNat, by omega⟩
        simp only [Int.toNat_natCast] at hg hX hco
        rw [List.append_assoc] at hX hco
        obtain ⟨R1, hR1⟩ : ∃ R1, (if 0 < (M : Int) then [some (M, sb.toNat - 1)] else []) ++ opsOf (l.drop (j + 1)) = R1 := ⟨_, rfl⟩
        rw [hR1] at hX hco
        rw [costOps_append, costOps_lits] at hco
        have hL1 : x.pos + L ≤ bs.length := by have := HXF.out; omega
        have HG := Lib.hid hg
        have HX3 := Lib.hid hX
        have HCO3 := Lib.hid hco
        have HR1 := Lib.hid hR1
        have HL1 := Lib.hid hL1
        have HM := Lib.hid (show M ≠ 1 ∧ M ≤ 273 by omega)
        have hLi : (L : Int) ≤ 16777216 := by have := HN.out.1; omega
        have H1 := Lib.hid (HWR.out.narrow ((Frm.refl (fun _ => False) wr).alloc (.cells #[.int .i64 (L : Int), .int .i64 (M : Int), .int .i64 sb] 31)) (fun q => q = wr.heap.size) (fun q e => by
          have : (wr.alloc (.cells #[.int .i64 (L : Int), .int .i64 (M : Int), .int .i64 sb] 31)).heap.size = wr.heap.size + 1 := by show (wr.heap.push _).size = _; rw [Array.size_push]
          omega))
        have HP := Lib.hid (Pts.new wr #[.int .i64 (L : Int), .int .i64 (M : Int), .int .i64 sb] 31)
        have HF1 := Lib.hid (HFR.out.alloc (.cells #[.int .i64 (L : Int), .int .i64 (M : Int), .int .i64 sb] 31))
        clear hg hX hco hR1 hL1 hbad
        go_wp2_with fail
        obtain ⟨wo, rfl⟩ : ∃ wo : World, wo = wr := ⟨_, rfl⟩
        obtain ⟨yb, hyb⟩ : ∃ yb, wo.heap.size = yb := ⟨_, rfl⟩
        rw [hyb] at H1 HP HBND ⊢
        obtain ⟨O1, hO1⟩ : ∃ O1 : Nat → Prop, (fun q => O q ∧ ¬ q = yb) = O1 := ⟨_, rfl⟩
        rw [hO1] at H1
        have HO1 : Hid ((∀ q, O1 q → O q) ∧ ¬ O1 yb) := Lib.hid ⟨fun q hq => by rw [← hO1] at hq; exact hq.1, fun hq => by rw [← hO1] at hq; exact hq.2 rfl⟩
        have HWB : Hid (w.heap.size ≤ yb) := Lib.hid (by have := HFR.out.size; omega)
        have HSL : Hid (k.sb < yb ∧ k.lb < yb) := Lib.hid ⟨by have := HWR.out.lz.m.lt; omega, by have := HWR.out.lz.l.lt; omega⟩
        clear hO1 x0 x1 x2
        go_loopw [70] (fun iv wq => ∃ (t : Nat) (y : PS), iv = .int .i64 t ∧ t ≤ L ∧ WrAt O1 wq k ⟨eb, xb⟩ A c bs sh y.pos y.st y.rep y.s ∧ y.pos = x.pos + t ∧ wOps k bs fr T (List.replicate (L - t) none ++ R1) y = X ∧ y.s.d.cnt + (9 * (L - t) + costOps R1) + 110 ≤ 1000000 ∧ y.st < 12 ∧ (∀ i, y.rep i < 4294967296) ∧ Pts wq yb #[.int .i64 (L : Int), .int .i64 (M : Int), .int .i64 sb] 31 ∧ Frm (KZ k) w wq) (fun iv _ => L - (intOf iv).toNat)
        case atStart => exact ⟨0, x, rfl, by omega, H1.out, rfl, HX3.out, HCO3.out, hxst, HXR.out, HP.out, HF1.out⟩
        case round =>
          obtain ⟨t, y, rfl, ht, hw1, hyp, hyX, hyc, hyst, hyrep, hpy, hfy⟩ := hrel
          have HW1 := Lib.hid hw1
          have HYP := Lib.hid hyp
          have HYX := Lib.hid hyX
          have HYC := Lib.hid hyc
          have HYR := Lib.hid hyrep
          have HPY := Lib.hid hpy
          have HFY := Lib.hid hfy
          have z1 : wr.cell? ⟨yb, 1, none⟩ = some (.int .i64 (M : Int)) := by rw [hpy.cell]; rfl
          have z2 : wr.cell? ⟨yb, 2, none⟩ = some (.int .i64 sb) := by rw [hpy.cell]; rfl
          clear hw1 hyp hyX hyc hyrep hpy hfy H1 HP
          have htot : (y.pos : Int) + sh = ((T + (y.pos - fr) : Nat) : Int) := by have := HSH.out; have := HYP.out; have := HXF.out; omega
          have HTOT := Lib.hid htot
          clear htot
          by_cases htL : t < L
          · go_wp2_with fail
            refine (putlit_p O1 wr k ⟨eb, xb⟩ A c bs sh y.pos (T + (y.pos - fr)) y.st y.rep y.s HW1.out HK.out HTOT.out (by have := HN.out; have := HYP.out; have := HL1.out; omega) (by have := HYP.out; have := HL1.out; omega) (by have := HN.out; omega) hyst (HYR.out 0) (by have := HYC.out; omega)).mono ?_; rintro e w4 ⟨rfl, h4, f4⟩
            have H4 := Lib.hid h4
            have P4 := Lib.hid (HPY.out.frm f4 (by
              rintro ((e | e | e) | e)
              · exact HO1.out.2 e
              · have := HSL.out; omega
              · have := HSL.out; omega
              · have := HBND.out; simp only at e; omega))
            have F4 := Lib.hid (HFY.out.transR f4 (fun q hq e => by
              rcases e with (e | e | e) | e
              · have := HO.out q (HO1.out.1 q e); omega
              · exact .inl e
              · exact .inr e
              · have := HXB.out; simp only at e; omega))
            have hX5 : wOps k bs fr T (List.replicate (L - (t + 1)) none ++ R1) (wOp k bs fr T y none) = X := by
              have h := HYX.out
              rw [show L - t = (L - (t + 1)) + 1 by omega, List.replicate_succ, List.cons_append, wOps_cons] at h
              exact h
            have hc5 : (wOp k bs fr T y none).s.d.cnt + (9 * (L - (t + 1)) + costOps R1) + 110 ≤ 1000000 := by
              have h1 := cnt_putLit k bs (T + (y.pos - fr)) y.pos y.st y.rep y.s
              have h2 := HYC.out
              show (putLit k bs (T + (y.pos - fr)) y.pos y.st y.rep y.s).d.cnt + _ + 110 ≤ 1000000
              omega
            have HX5 := Lib.hid hX5
            have HC5 := Lib.hid hc5
            clear h4 f4 hX5 hc5 z1 z2
            go_wp2
            exact ⟨⟨t + 1, wOp k bs fr T y none, by go_num, by omega, H4.out, by show y.pos + 1 = _; have := HYP.out; omega, HX5.out, HC5.out, show behS y.st 0 < 12 from behS_lt hyst, HYR.out, P4.out, F4.out⟩, by simp [intOf]; omega⟩
          · obtain rfl : t = L := by omega
            have hg := HG.out
            have hX6 := HYX.out
            rw [Nat.sub_self, List.replicate_zero, List.nil_append] at hX6
            have hpy := HYP.out
            rw [← hpy] at hg
            by_cases hM0 : M = 0
            · subst hM0
              rw [if_pos (show ((0 : Nat) : Int) = 0 from rfl)] at hg
              have hR1 := HR1.out
              rw [if_neg (show ¬ (0 : Int) < ((0 : Nat) : Int) by omega), List.nil_append] at hR1
              rw [← hR1] at hX6
              have hc6 : y.s.d.cnt + costOps (opsOf (l.drop (j + 1))) + 110 ≤ 1000000 := by have := HYC.out; rw [hR1]; omega
              have HC6 := Lib.hid hc6
              have HG6 := Lib.hid hg
              have HX6 := Lib.hid hX6
              have HW6 := Lib.hid (HW1.out.widen HWR.out HO1.out.1 (by have := HPY.out.lt; omega))
              have hM1 : ((0 : Nat) : Int) ≤ 0 := by omega
              clear hg hX6 hpy hR1 hc6
              go_wp2
              exact ⟨⟨j + 1, y, by go_num, by omega, HW6.out, HG6.out, HX6.out, HC6.out, hyst, HYR.out, by have := HXF.out; have := HYP.out; omega, by have := HL1.out; have := HYP.out; omega, HFY.out⟩, by simp [intOf]; omega⟩
            · rw [if_neg (show ¬ ((M : Nat) : Int) = 0 by omega)] at hg
              by_cases hbad2 : RB2 ⟨t, M, sb⟩ bs.length y.pos
              · rw [if_pos hbad2] at hg; cases hg
              rw [if_neg hbad2] at hg
              unfold RB2 at hbad2
              simp only at hbad2 hg
              obtain ⟨K, rfl⟩ : ∃ K : Nat, sb = K := ⟨sb.toNat, by omega⟩
              simp only [Int.toNat_natCast] at hg
              by_cases hsm : Same bs y.pos M K
              · rw [if_pos hsm] at hg
                have hR1 := HR1.out
                rw [if_pos (show (0 : Int) < (M : Int) by omega)] at hR1
                rw [← hR1] at hX6
                simp only [Int.toNat_natCast, List.cons_append, List.nil_append] at hX6
                rw [wOps_cons] at hX6
                have hyc2 : y.s.d.cnt + (100 + costOps (opsOf (l.drop (j + 1)))) + 110 ≤ 1000000 := by
                  have h1 := HYC.out
                  rw [← hR1] at h1
                  simp only [Nat.sub_self, Nat.mul_zero, Nat.zero_add, List.cons_append, List.nil_append, costOps, costOp] at h1
                  exact h1
                obtain ⟨D, hD⟩ : ∃ D, K - 1 = D := ⟨_, rfl⟩
                rw [hD] at hX6
                have hK1 : K = D + 1 := by omega
                have hDb : D < 4294967296 := by have := HN.out; omega
                have HG6 := Lib.hid hg
                have HX6 := Lib.hid hX6
                have HC6 := Lib.hid hyc2
                have HD := Lib.hid (And.intro hK1 hDb)
                have HB2 := Lib.hid (show y.pos + M ≤ bs.length by omega)
                have hM1 : (0 : Int) < (M : Int) := by omega
                have HM2 := Lib.hid (show 2 ≤ M by have := HM.out; omega)
                clear hg hX6 hyc2 hD hK1 hDb hR1 hpy hsm hbad2 hM0
                go_wp2_with fail
                refine (putmatch_p O1 wr k ⟨eb, xb⟩ A c bs sh y.pos (T + (y.pos - fr)) y.st y.rep y.s HW1.out HK.out HTOT.out (by have := HN.out; have := HB2.out; omega) M K D HM2.out HM.out.2 HD.out.1 HD.out.2 (by have := HN.out; have := HB2.out; omega) hyst HYR.out (by have := HC6.out; omega)).mono ?_; rintro e w4 ⟨rfl, h4, f4⟩
                have F4 := Lib.hid (HFY.out.transR f4 (fun q hq e => by
                  rcases e with (e | e | e) | e
                  · have := HO.out q (HO1.out.1 q e); omega
                  · exact .inl e
                  · exact .inr e
                  · have := HXB.out; simp only at e; omega))
                have H4 := Lib.hid (h4.widen HWR.out HO1.out.1 (by have := HPY.out.lt; have := f4.size; omega))
                have hinv := putMatch_inv k (T + (y.pos - fr)) M D y.st y.rep y.s hyst HYR.out HD.out.2
                have hcn := cnt_putMatch k (T + (y.pos - fr)) M D y.st y.rep y.s HD.out.2
                have HINV := Lib.hid hinv
                have HCN : Hid ((wOp k bs fr T y (some (M, D))).s.d.cnt + costOps (opsOf (l.drop (j + 1))) + 110 ≤ 1000000) := Lib.hid (by
                  have h1 := HC6.out
                  show (putMatch k (T + (y.pos - fr)) M D y.st y.rep y.s).2.2.d.cnt + _ + 110 ≤ 1000000
                  omega)
                clear h4 f4 z1 z2 hinv hcn
                go_wp2
                exact ⟨⟨j + 1, wOp k bs fr T y (some (M, D)), by go_num, by omega, H4.out, HG6.out, HX6.out, HCN.out, HINV.out.1, HINV.out.2, by show fr ≤ y.pos + M; have := HXF.out; have := HYP.out; omega, HB2.out, F4.out⟩, by simp [intOf]; omega⟩
              · rw [if_neg hsm] at hg; cases hg
      · obtain rfl : j = l.length := by omega
        have hX := HX2.out
        rw [List.drop_length] at hX
        have hX2 : x = X := hX
        subst hX2
        have hco := HCO2.out
        have HC7 : Hid (x.s.d.cnt + 5 < 1000000) := Lib.hid (by omega)
        clear hX hco
        obtain ⟨⟨v, hv, hvo⟩, hob, hoz, hI⟩ := HWR.out.lz.c
        have HV := Lib.hid hv
        have HVO := Lib.hid (And.intro hvo hob)
        clear hv hvo hob hoz hI
        go_wp2_with fail
        refine (eclose_p eb 0 v x.s.d wr HV.out (Nat.zero_le _) HC7.out).mono ?_; rintro e w5 ⟨v', rv, rfl, h5, f5, m5, o5, n5⟩
        have F5 := Lib.hid (HFR.out.transR f5 (fun q hq e => by
          rcases e with e | e
          · have := HEB.out; omega
          · have := HO.out q (HVO.out.1 q e); omega))
        have S5 : Hid (PAt w5 k x.st x.rep x.s.pr) := Lib.hid (by
          have hne : ∀ q, KZ k q → ¬ (q = eb ∨ v.ownBlock = some q) := by
            intro q hq e
            have hoq : O q := by
              rcases e with e | e
              · rw [e]; exact HVO.out.2
              · exact HVO.out.1 q e
            rcases hq with e2 | e2
            · exact HWR.out.lz.ne.1 (e2 ▸ hoq)
            · exact HWR.out.lz.ne.2.1 (e2 ▸ hoq)
          exact ⟨HWR.out.lz.m.frm f5 (hne _ (.inl rfl)), HWR.out.lz.l.frm f5 (hne _ (.inr rfl)), HWR.out.lz.fit, HWR.out.lz.ne.2.2⟩)
        have O5 := Lib.hid (o5.low (base' := w.heap.size) HFR.out.size)
        clear h5 f5 m5 o5 n5
        go_wp2
        go_ret2
        exact ⟨rv, rfl, O5.out, S5.out, F5.out⟩
end Go.Proofs.Ythcgglacbgjdhaa

/- A chunk, whatever it is; a room; what the document says of six noughts; LzmaNil. -/
namespace Go.Proofs.Ythcgglacbgjdhaa
open Go.RowKit Rng Lz Win
set_option linter.unusedVariables false
set_option linter.unusedSimpArgs false
theorem chunk_p (k : LK) (st : Nat) (rep : Nat → Nat) (pr : Pr) (base wb kb S : Nat) (C bs : List UInt8) (wv : Value) (A : Option Addr) (n c l total : Nat) (w : World)
    (hs : StAt w k st rep pr) (hw : WinC w base wb kb S C wv) (hb : base ≤ w.heap.size) (hS : S ≤ 16777216) (hk : k.Ok) (hst : st < 12) (hrep : ∀ j, rep j < 4294967296)
    (hl : l = bs.length) (hr : BRow w w.heap.size A bs) (hc : bs.length ≤ c) (hcm : c ≤ maxLen) (hlen : bs.length ≤ 140737488355328)
    (h1 : 1 ≤ n) (h2 : n ≤ 2097152) (ht : total < 9223372036854775808) :
    Calls Try.prog 26 #[.pointer (some ⟨k.sb, 0, none⟩), .pointer (some ⟨wb, 0, none⟩), .int .i64 total, .slice A l c, .int .i64 n] w fun e w' => ChunkEnd k base wb kb S wv w (chunkOf k S total n st rep pr C bs) e w' := by
  by_cases hn : newErr bs = 0
  · exact chunk_main k st rep pr base wb kb S C bs wv A n c l total w hs hw hb hS hk hst hrep hl hr hc hcm hlen h1 h2 ht hn
  · have e : chunkOf k S total n st rep pr C bs = none := by unfold chunkOf; rw [if_pos hn]
    rw [e]
    refine (chunk_bad w ⟨k.sb, 0, none⟩ ⟨wb, 0, none⟩ total n A bs l c (by omega) (by omega) (by omega) hl hr hc hcm hn).mono ?_
    rintro e w' ⟨rfl, hB⟩
    exact ⟨(Frm.of_below (S := fun _ => False) hB).mono fun _ _ h => h.elim, .inl ⟨rfl, rfl⟩⟩
theorem newK_ok (b lb : Nat) : (newK b lb).Ok := ⟨by show 3 + 0 ≤ 4; omega, by show 2 ≤ 4; omega⟩
theorem lnew_st (w : World) : Calls Try.prog 22 #[] w fun e w' => ∃ b lb, e = .returned (.pointer (some ⟨b, 0, none⟩)) ∧ w.heap.size ≤ b ∧ w.heap.size ≤ lb ∧ StAt w' (newK b lb) 0 (fun _ => 0) (fun _ => 1024) ∧ Below w.heap.size w w' := by
  refine (lnew_p w).mono ?_
  rintro e w' ⟨b, lb, rfl, h1, h2, h3, h4, h5, h6⟩
  exact ⟨b, lb, rfl, h1, h2, ⟨h4, h5, fun _ => (by decide : 1024 < 65536), h3⟩, h6⟩
theorem made_bytes (n : Nat) (hn : n ≤ 16777216) (w : World) :
    (Instr.makeSlice 22 (.int .i64 (n : Int)) (.int .i64 (n : Int))).run Try.prog w = .ok (.slice (some ⟨w.heap.size, 0, none⟩) n n) (w.alloc (.cells (madeCells #[.int .u8 0] n) 5)) := by
  obtain ⟨i, hi, hz⟩ := Option.map_eq_some_iff.1 Try.info_u8
  simp only [Prod.mk.injEq] at hz
  have h := run_make (P := Try.prog) w 22 5 i (.int .u8 0) Try.underlying22 hi hz.1 .i64 .i64 n n (by omega) (by omega) (by rw [hz.2.2]; omega) (by omega)
  rw [hz.2.1] at h
  simp only [Int.toNat_natCast, Nat.mul_one] at h
  exact h
theorem noughts_row (n : Nat) (w : World) : BRow (w.alloc (.cells (madeCells #[.int .u8 0] n) 5)) (w.alloc (.cells (madeCells #[.int .u8 0] n) 5)).heap.size (some ⟨w.heap.size, 0, none⟩) (List.replicate n 0) := by
  intro _
  refine ⟨w.heap.size, 0, rfl, by simp, fun k hk => ?_⟩
  rw [Nat.zero_add, (Pts.new w (madeCells #[.int .u8 0] n) 5).cell]
  have hkn : k < n := by simpa using hk
  have h1 : (madeCells #[Value.int .u8 0] n)[k]? = some (.int .u8 0) := by simp [madeCells, hkn, Nat.mod_one]
  rw [h1]
  simp [List.getD, hkn, byteV]
theorem wk_six (b lb : Nat) : (chunkOf (newK b lb) 9 0 1 0 (fun _ => 0) (fun _ => 1024) [] (List.replicate 6 0)).map (·.1) = some [0] := by kernel_rfl
theorem wk_five (b lb : Nat) (C : List UInt8) : (chunkOf (newK b lb) 9 0 1 0 (fun _ => 0) (fun _ => 1024) C (List.replicate 5 0)).map (·.1) = none := by kernel_rfl
set_option maxRecDepth 100000 in
set_option maxHeartbeats 1000000 in
theorem props_bad (p k0 : Nat) (w : World) (hb : p ≤ 255) (h : 224 < p ∨ 4 < p % 9 + p / 9 % 5) : Calls Try.prog 24 #[.pointer (some ⟨k0, 0, none⟩), .int .u8 p] w fun e w' => e = .returned (.int .i64 11) ∧ w = w' := by
  obtain ⟨a, ha⟩ : ∃ a, p % 9 = a := ⟨_, rfl⟩
  obtain ⟨b1, hb1⟩ : ∃ a, p / 9 = a := ⟨_, rfl⟩
  obtain ⟨b, hbb⟩ : ∃ a, b1 % 5 = a := ⟨_, rfl⟩
  rw [ha, hb1, hbb] at h
  have e1 : (p : Int) % 9 = (a : Int) := by omega
  have e2 : (p : Int) / 9 = (b1 : Int) := by omega
  have e3 : (b1 : Int) % 5 = (b : Int) := by omega
  have ab : a ≤ 8 := by omega
  have bb : b ≤ 4 := by omega
  clear ha hb1 hbb
  have h3 : 224 < p ∨ (p ≤ 224 ∧ 4 < a + b) := by omega
  clear h
  rcases h3 with h | ⟨h, h4⟩
  · have hi : (224 : Int) < (p : Int) := by omega
    go_enter Try.func24, Try.ntmps24
    go_wp2
    go_ret
    exact ⟨rfl, rfl⟩
  · have hi : (p : Int) ≤ 224 := by omega
    have hj : (4 : Int) < (a : Int) + (b : Int) := by omega
    go_enter Try.func24, Try.ntmps24
    go_wp2
    go_ret
    exact ⟨rfl, rfl⟩
theorem StAt.later {w w' : World} {k : LK} {st : Nat} {rep : Nat → Nat} {pr : Pr} (h : StAt w k st rep pr) (hb : Below w.heap.size w w') : StAt w' k st rep pr := h.frm (Frm.of_below (S := fun _ => False) hb) id id
theorem WinC.later {w w' : World} {base wb kb S : Nat} {C : List UInt8} {v : Value} (h : WinC w base wb kb S C v) (hb : Below w.heap.size w w') : WinC w' base wb kb S C v := h.frm (Frm.of_below (S := fun _ => False) hb) id (fun _ _ h => h)
theorem below_alloc (w : World) (o : Obj) : Below w.heap.size w (w.alloc o) := (Below.refl _ w).alloc (Nat.le_refl _) o
theorem WinC.drew {w : World} {base wb kb S : Nat} {C : List UInt8} {v : Value} (h : WinC w base wb kb S C v) : WinC w.drew base wb kb S C v := h.frm ((Frm.refl (fun _ => False) w).drew) id (fun _ _ h => h)
theorem five_p (sb lb base wb kb : Nat) (C : List UInt8) (wv : Value) (A : Option Addr) (w : World) (hs : StAt w (newK sb lb) 0 (fun _ => 0) (fun _ => 1024)) (hw : WinC w base wb kb 9 C wv) (hb : base ≤ w.heap.size) (hr : BRow w w.heap.size A (List.replicate 5 0)) :
    Calls Try.prog 26 #[.pointer (some ⟨sb, 0, none⟩), .pointer (some ⟨wb, 0, none⟩), .int .i64 0, .slice A 5 5, .int .i64 1] w fun e w' => e = .returned (.tuple #[.slice none 0 0, .int .i64 11]) ∧ Frm (fun q => q = sb ∨ q = lb ∨ q = wb ∨ wv.ownBlock = some q) w w' := by
  refine (chunk_p (newK sb lb) 0 (fun _ => 0) (fun _ => 1024) base wb kb 9 C (List.replicate 5 0) wv A 1 5 5 0 w hs hw hb (by omega) (newK_ok _ _) (by omega) (fun _ => by omega) (by simp) hr (by simp) (by unfold maxLen; omega) (by simp) (by omega) (by omega) (by omega)).mono ?_
  rintro e w' ⟨f, (⟨hn, rfl⟩ | ⟨told, y, tv, wv', hR, rfl, _⟩)⟩
  · exact ⟨rfl, f⟩
  · have := wk_five sb lb C
    rw [hR] at this
    cases this
theorem Frm.drew4 {w w1 w2 : World} (h1 : Below w.heap.size w.drew w1) (h2 : Below w1.heap.size w1 w2) : Frm (fun _ => False) w w2 := ((Frm.refl (fun _ => False) w).drew.trans (Frm.of_below h1)).transW (Frm.of_below (S := fun _ => False) h2) (fun _ h => h.elim)
theorem five_frm {w w2 w3 : World} {b lb wb n : Nat} {wv : Value} (h1 : n ≤ b) (h2 : n ≤ lb) (hn : w.heap.size ≤ n) (h : Frm (fun _ => False) w w2) (f : Frm (fun q => q = b ∨ q = lb ∨ q = wb ∨ wv.ownBlock = some q) w2 w3) : Frm (fun q => q = wb ∨ wv.ownBlock = some q) w w3 := by
  refine (h.mono fun _ _ h => h.elim).transW f ?_
  rintro q (e | e | e | e) hlt
  · omega
  · omega
  · exact .inl e
  · exact .inr e
theorem arg_A (w6 w5 : World) (b2 wb : Nat) (B5 : Below w6.drew.heap.size w6.drew w5) :
    Calls Try.prog 26 #[.pointer (some ⟨b2, 0, none⟩), .pointer (some ⟨wb, 0, none⟩), .int .i64 0, .slice (some ⟨w5.heap.size, 0, none⟩) 6 6, .int .i64 0] (w5.alloc (.cells (madeCells #[.int .u8 0] 6) 5)) fun e w' => e = .returned (.tuple #[.slice none 0 0, .int .i64 2]) ∧ Frm (fun _ => False) w6 w' := by
  refine (chunk_arg _ _ _ 0 0 _ 6 6 (by omega)).mono ?_
  rintro e w' ⟨rfl, hb⟩
  exact ⟨rfl, (Frm.drew4 B5 (below_alloc _ _)).transW (Frm.of_below (S := fun _ => False) hb) (fun _ h => h.elim)⟩
theorem arg_B (w6 w5 : World) (b2 wb : Nat) (B5 : Below (w6.drew.alloc (.cells (madeCells #[.int .u8 0] 6) 5)).heap.size (w6.drew.alloc (.cells (madeCells #[.int .u8 0] 6) 5)) w5) :
    Calls Try.prog 26 #[.pointer (some ⟨b2, 0, none⟩), .pointer (some ⟨wb, 0, none⟩), .int .i64 0, .slice (some ⟨w6.heap.size, 0, none⟩) 6 6, .int .i64 0] w5 fun e w' => e = .returned (.tuple #[.slice none 0 0, .int .i64 2]) ∧ Frm (fun _ => False) w6 w' := by
  refine (chunk_arg _ _ _ 0 0 _ 6 6 (by omega)).mono ?_
  rintro e w' ⟨rfl, hb⟩
  exact ⟨rfl, (Frm.drew4 (show Below w6.heap.size w6.drew (w6.drew.alloc (.cells (madeCells #[.int .u8 0] 6) 5)) from below_alloc w6.drew _) B5).transW (Frm.of_below (S := fun _ => False) hb) (fun _ h => h.elim)⟩
end Go.Proofs.Ythcgglacbgjdhaa

/- What is told of a chunk that was made (room, props, read); the refusals of Chunk. -/
namespace Go.Proofs.Ythcgglacbgjdhaa
open Go.RowKit Rng Win Lz Fnd
set_option linter.unusedVariables false
set_option linter.unusedSimpArgs false
theorem room14_p (S : Nat) (w : World) (h1 : 1 ≤ S) (h2 : S ≤ 16777216) : Calls Try.prog 23 #[.int .i64 S] w fun e w' => ∃ wb kb, e = .returned (.pointer (some ⟨wb, 0, none⟩)) ∧ w.heap.size ≤ wb ∧ WinC w' w.heap.size wb kb S [] (.slice none 0 0) ∧ Below w.heap.size w w' := by
  have h1i : (1 : Int) ≤ (S : Int) := by omega
  have hch : chE 16777216 0 S = 0 := (ch_ok 0 (by omega) (by omega)).1
  have HC := Lib.hid hch
  clear hch
  go_enter Try.func23, Try.ntmps23
  go_wp2_with fail
  refine (new_led 16777216 _).mono ?_; rintro e w1 ⟨rfl, hL1, b1⟩
  rw [show bud 16777216 = 16777216 by decide] at hL1
  have L1 := Lib.hid hL1
  have B1 := Lib.hid b1
  clear hL1 b1
  go_wp2_with fail
  refine (new_win w.heap.size S 16777216 0 0 w1 L1.out (by decide) (by decide) (by decide) h1 h2 HC.out).mono ?_; rintro e w2 ⟨b, rfl, hW2, hb, hL2, hF2⟩
  have B2 := Lib.hid (B1.out.trans (hF2.below B1.out.size (by intro k hk; omega)))
  have W2 := Lib.hid hW2
  have hb2 : w.heap.size ≤ b := Nat.le_trans B1.out.size hb
  clear hW2 hL2 hF2
  go_wp2
  go_ret
  refine ⟨b, w.heap.size, rfl, hb2, ⟨[], 0, ?_, rfl⟩, B2.out⟩
  have hW := W2.out
  exact ⟨hW.p, World.ownsRow.mono hW.o B1.out.size, hW.n, hW.lt, hW.z⟩
theorem props14_p (w : World) : Calls Try.prog 13 #[.int .i64 3, .int .i64 0, .int .i64 2] w fun e w' => e = .returned (.int .u8 93) ∧ w = w' := by
  go_enter Try.func13, Try.ntmps13
  go_wp2
  go_ret
  exact ⟨rfl, rfl⟩
theorem set93_p (k : LK) (st : Nat) (rep : Nat → Nat) (pr : Pr) (w : World) (h : StAt w k st rep pr) : Calls Try.prog 24 #[.pointer (some ⟨k.sb, 0, none⟩), .int .u8 93] w fun e w' => e = .returned (.int .i64 0) ∧ ∃ lb, w.heap.size ≤ lb ∧ StAt w' (newK k.sb lb) 0 (fun _ => 0) (fun _ => 1024) ∧ Frm (· = k.sb) w w' := by
  have hm := h.m
  rw [← qcells_m] at hm
  refine (props_p 93 k.sb k.lc k.lp k.pb st rep pr _ 111 w hm ⟨_, _, _, rfl⟩ (by omega)).mono ?_
  rintro e w' ⟨rfl, hf, h2⟩
  obtain ⟨lb, h3, h4, h5⟩ := h2 (by omega)
  exact ⟨rfl, lb, h3, ⟨h4, h5, fun _ => (by decide : 1024 < 65536), by have := h.m.lt; show k.sb ≠ lb; omega⟩, hf⟩
/-- A chunk out of a new state, in an empty window of 2^16 bytes. -/
def Reads (total n : Nat) (cs told : List UInt8) : Prop := ∀ b lb, ∃ y, chunkOf (newK b lb) 65536 total n 0 (fun _ => 0) (fun _ => 1024) [] cs = some (told, y)
theorem ba_nil (l : List UInt8) : (⟨#[]⟩ : ByteArray) ++ ⟨l.toArray⟩ = ⟨l.toArray⟩ := by
  apply ByteArray.ext
  simp
theorem chunk_told (k : LK) (st : Nat) (rep : Nat → Nat) (pr : Pr) (base wb kb S : Nat) (C bs told : List UInt8) (y : RS) (wv : Value) (A : Option Addr) (n c l total : Nat) (w : World)
    (hs : StAt w k st rep pr) (hw : WinC w base wb kb S C wv) (hb : base ≤ w.heap.size) (hS : S ≤ 16777216) (hk : k.Ok) (hst : st < 12) (hrep : ∀ j, rep j < 4294967296)
    (hl : l = bs.length) (hr : BRow w w.heap.size A bs) (hc : bs.length ≤ c) (hcm : c ≤ maxLen) (hlen : bs.length ≤ 140737488355328)
    (h1 : 1 ≤ n) (h2 : n ≤ 2097152) (ht : total < 9223372036854775808) (hy : chunkOf k S total n st rep pr C bs = some (told, y)) :
    Calls Try.prog 26 #[.pointer (some ⟨k.sb, 0, none⟩), .pointer (some ⟨wb, 0, none⟩), .int .i64 total, .slice A l c, .int .i64 n] w fun e w' => ∃ A5 c5, e = .returned (.tuple #[.slice A5 told.length c5, .int .i64 0]) ∧ OwnB w' 5 w.heap.size (.slice A5 told.length c5) told ∧ Frm (fun q => q = k.sb ∨ q = k.lb ∨ q = wb ∨ wv.ownBlock = some q) w w' := by
  refine (chunk_p k st rep pr base wb kb S C bs wv A n c l total w hs hw hb hS hk hst hrep hl hr hc hcm hlen h1 h2 ht).mono ?_
  rintro e w' ⟨hf, (⟨hn, rfl⟩ | ⟨told', y', tv, wv', hR, rfl, ho, _⟩)⟩
  · rw [hy] at hn; cases hn
  · rw [hy] at hR
    injection hR with hR
    injection hR with e1 e2
    subst e1
    obtain ⟨A5, c5, rfl, _, _, _⟩ := ho.slice
    exact ⟨A5, c5, rfl, ho, hf⟩
set_option maxRecDepth 100000 in
set_option maxHeartbeats 4000000 in
theorem read_p (cs told : List UInt8) (A : Option Addr) (nc c n total lb1 lb2 : Nat) (w : World) (hn : nc = cs.length) (hr : BRow w w.heap.size A cs) (hc : cs.length ≤ c) (hcm : c ≤ maxLen) (hlen : cs.length ≤ 140737488355328) (hL : w.cell? ⟨lb1, 0, none⟩ = some (.slice A nc c)) (hS : w.cell? ⟨lb2, 0, none⟩ = some (.int .i64 (n : Int)))
    (h1 : 1 ≤ n) (h2 : n ≤ 2097152) (ht : total ≤ 4611686018427387904) (hre : Reads total n cs told) (htold : told.length ≤ 16777216) :
    Calls Try.prog 12 #[.int .u8 93, .slice none 0 0, .slice (some ⟨lb1, 0, none⟩) 1 1, .slice (some ⟨lb2, 0, none⟩) 1 1, .int .i64 total] w fun e w' => e = .returned (.tuple #[.string ⟨told.toArray⟩, .bool true]) ∧ Below w.heap.size w w' := by
  have HL := Lib.hid (And.intro hL hS)
  have hlt1 := World.block_lt_of_cell? w ⟨lb1, 0, none⟩ hL
  have hlt2 := World.block_lt_of_cell? w ⟨lb2, 0, none⟩ hS
  simp only at hlt1 hlt2
  have HLT := Lib.hid (And.intro hlt1 hlt2)
  have HR := Lib.hid hr
  have HC := Lib.hid (And.intro hn (And.intro hc (And.intro hcm hlen)))
  have HN := Lib.hid (And.intro h1 (And.intro h2 ht))
  have HRE := Lib.hid hre
  have HTL := Lib.hid htold
  clear hL hS hlt1 hlt2 hr hn hc hcm hlen h1 h2 ht hre htold
  go_enter Try.func12, Try.ntmps12
  go_wp2_with fail
  refine (lnew_st _).mono ?_; rintro e w1 ⟨sb, lb, rfl, g1, g2, hs1, hb1⟩
  have S1 := Lib.hid hs1
  have B1 := Lib.hid hb1
  clear hs1 hb1
  go_wp2_with fail
  refine (room14_p 65536 w1 (by omega) (by omega)).mono ?_; rintro e w2 ⟨wb, kb, rfl, g3, hw2, hb2⟩
  have S2 := Lib.hid (S1.out.later hb2)
  have W2 := Lib.hid hw2
  have B2 := Lib.hid (B1.out.trans (hb2.mono B1.out.size))
  have Z2 := Lib.hid (And.intro hb2.size (And.intro g3 B1.out.size))
  clear hw2 hb2 g3
  go_wp2_with fail
  refine (set93_p (newK sb lb) 0 _ _ w2 S2.out).mono ?_; rintro e w3 ⟨rfl, lb3, g4, hs3, hf3⟩
  have S3 := Lib.hid hs3
  have W3 := Lib.hid (W2.out.frm hf3 (by
    intro e
    have h1 := S1.out.m.lt
    have h2 := Z2.out.2.1
    simp only [newK] at e h1
    omega) (fun q hq => by cases hq))
  have B3 := Lib.hid (B2.out.trans (hf3.below (B := w.heap.size) B2.out.size (fun q hq => by rw [hq]; exact g1)))
  have Z3 := Lib.hid (And.intro (Nat.le_trans Z2.out.1 hf3.size) (And.intro Z2.out.2.1 Z2.out.2.2))
  have G4 := Lib.hid (Nat.le_trans B2.out.size g4)
  clear hs3 hf3 g4 S1 S2 W2 B1 B2 Z2
  go_wp2_with fail
  refine (put_c w1.heap.size wb kb 65536 0 w3.heap.size 0 [] (.slice none 0 0) none [] w3 W3.out rfl (BRow.nil _ _ _) (fun h => absurd h (by simp)) (by simp) (by unfold maxLen; omega) (by simp) Z3.out.1 (by omega) (Nat.le_refl _)).mono ?_; rintro e w4 ⟨rfl, wv, hw4, hf4, hm4⟩
  rw [List.append_nil, show lastN 65536 ([] : List UInt8) = [] from rfl] at hw4
  have S4 := Lib.hid (S3.out.frm hf4 (by
    rintro (e | e)
    · have h1 := Z3.out.2.1
      have h2 := S3.out.m.lt
      have h3 := W3.out.pts
      obtain ⟨cc, h3⟩ := h3
      have h4 := h3.ne_of S3.out.m (by decide)
      exact h4 e.symm
    · cases e) (by
    rintro (e | e)
    · obtain ⟨cc, h3⟩ := W3.out.pts
      exact h3.ne_of S3.out.l (by decide) e.symm
    · cases e))
  have W4 := Lib.hid hw4
  have B4 := Lib.hid (B3.out.trans (hf4.below (B := w.heap.size) B3.out.size (by
    rintro q (e | e)
    · rw [e]; exact Nat.le_trans Z3.out.2.2 Z3.out.2.1
    · cases e)))
  have Z4 := Lib.hid (And.intro (Nat.le_trans Z3.out.1 hf4.size) Z3.out.2)
  have HWV : Hid (∀ q, wv.ownBlock = some q → w.heap.size ≤ q) := Lib.hid (fun q hq => by
    rcases hm4 q hq with e | e
    · cases e
    · exact Nat.le_trans B3.out.size e)
  clear hw4 hf4 hm4 S3 W3 B3 Z3
  go_wp2_with fail
  go_loopw [4, 14, 15] (fun tv ov iv wr => (tv = .int .i64 (total : Int) ∧ ov = .string ⟨#[]⟩ ∧ iv = .int .i64 0 ∧ wr = w4) ∨ (ov = .string ⟨told.toArray⟩ ∧ iv = .int .i64 1 ∧ (∃ z : Int, tv = .int .i64 z) ∧ Below w.heap.size w wr)) (fun _ _ iv _ => 2 - (intOf iv).toNat)
  case atStart => exact .inl ⟨rfl, rfl, rfl, rfl⟩
  case round =>
    rcases hrel with ⟨rfl, rfl, rfl, rfl⟩ | ⟨rfl, rfl, ⟨z, rfl⟩, hb⟩
    · have d1 := (B4.out.cell (p := ⟨lb1, 0, none⟩) HLT.out.1).trans HL.out.1
      have d2 := (B4.out.cell (p := ⟨lb2, 0, none⟩) HLT.out.2).trans HL.out.2
      have f1 : wr.drew.cell? ⟨lb1, 0, none⟩ = some (.slice A nc c) := d1
      have S5 := Lib.hid (show StAt wr.drew (newK (newK sb lb).sb lb3) 0 (fun _ => 0) (fun _ => 1024) from S4.out.frm ((Frm.refl (fun _ => False) wr).drew) id id)
      have W5 := Lib.hid W4.out.drew
      have B5 : Hid (Below w.heap.size w wr.drew) := Lib.hid B4.out.drew
      clear f1
      go_upto_region 10 with fail
      go_cut [16, 17] (fun v ev wx => (∃ A5 c5, v = .slice A5 told.length c5 ∧ BRow wx wx.heap.size A5 told) ∧ ev = .int .i64 0 ∧ Below w.heap.size w wx)
      case first =>
        obtain ⟨y0, hy0⟩ := HRE.out sb lb3
        have HY := Lib.hid hy0
        clear hy0
        go_region_with (first
          | (go_at_call 26; refine (chunk_told (newK sb lb3) 0 (fun _ => 0) (fun _ => 1024) w1.heap.size wb kb 65536 [] cs told y0 wv A n c nc total _ S5.out W5.out Z4.out.1 (by omega) (newK_ok _ _) (by omega) (fun _ => by omega) HC.out.1 ((HR.out.below B5.out).more B5.out.size) HC.out.2.1 HC.out.2.2.1 HC.out.2.2.2 HN.out.1 HN.out.2.1 (by have := HN.out; omega) HY.out).mono ?_; rintro e w6 ⟨A5, c5, rfl, ho6, f6⟩))
        all_goals
          have R6 := Lib.hid (show BRow w6 w6.heap.size A5 told by
            obtain ⟨A9, c9, e9, _, _, hr9⟩ := ho6.slice
            injection e9 with e1 e2 e3
            subst e1
            exact hr9)
          have B6 := Lib.hid (B5.out.trans (f6.below (B := w.heap.size) B5.out.size (by
            rintro q (e | e | e | e)
            · rw [e]; exact g1
            · rw [e]; exact G4.out
            · rw [e]; exact Nat.le_trans Z4.out.2.2 Z4.out.2.1
            · exact HWV.out q e)))
          clear ho6 f6 d1 d2
          go_wp2
          go_meet
          case rel => exact ⟨⟨A5, c5, rfl, R6.out⟩, rfl, B6.out⟩
      case rest =>
        obtain ⟨⟨A5, c5, rfl, r5⟩, rfl, b5⟩ := hcut
        have e1 := run_conv_bytes (P := Try.prog) wc 22 9 5 Try.underlying22 Try.underlying5 Try.underlying9 A5 told.length c5 _ told rfl r5
        have B7 := Lib.hid b5
        obtain ⟨tn, htn⟩ : ∃ tn, told.length = tn := ⟨_, rfl⟩
        have htb : tn ≤ 16777216 := by rw [← htn]; exact HTL.out
        have htt : (total : Int) ≤ 4611686018427387904 := by have := HN.out; omega
        rw [htn] at e1 ⊢
        have HTN := Lib.hid htn
        clear d1 d2 b5 r5 htn
        have hs9 : ¬ 9223372036854775807 < told.length := by have := HTL.out; omega
        go_wp2
        exact ⟨.inr ⟨congrArg Value.string (ba_nil told), rfl, ⟨_, rfl⟩, B7.out⟩, by simp [intOf]⟩
    · have HB := Lib.hid hb
      clear hb
      go_wp2
      go_ret2
      exact ⟨rfl, HB.out⟩
theorem putc_nil (A : Option Addr) (n c : Nat) (fr total : Int) (B : Option Addr) (m d : Nat) (w : World) : Calls Try.prog 9 #[.pointer none, .slice A n c, .int .i64 fr, .int .i64 total, .slice B m d] w fun e w' => e = .returned (.tuple #[.slice none 0 0, .int .i64 1]) ∧ w = w' := by
  go_enter Try.func9, Try.ntmps9
  go_wp2
  go_ret2
  exact ⟨rfl, rfl⟩
set_option maxHeartbeats 1000000 in
theorem put_arg (p : Addr) (A : Option Addr) (n c : Nat) (fr total : Int) (B : Option Addr) (m d : Nat) (w : World) (h : fr < 0 ∨ (n : Int) < fr ∨ total < 0) : Calls Try.prog 9 #[.pointer (some p), .slice A n c, .int .i64 fr, .int .i64 total, .slice B m d] w fun e w' => e = .returned (.tuple #[.slice none 0 0, .int .i64 2]) ∧ w = w' := by
  have h3 : fr < 0 ∨ (0 ≤ fr ∧ (n : Int) < fr) ∨ (0 ≤ fr ∧ fr ≤ (n : Int) ∧ total < 0) := by omega
  clear h
  rcases h3 with h | ⟨h, h1⟩ | ⟨h, h1, h2⟩
  · go_enter Try.func9, Try.ntmps9
    go_wp2
    go_ret2
    exact ⟨rfl, rfl⟩
  · go_enter Try.func9, Try.ntmps9
    go_wp2
    go_ret2
    exact ⟨rfl, rfl⟩
  · go_enter Try.func9, Try.ntmps9
    go_wp2
    go_ret2
    exact ⟨rfl, rfl⟩
set_option maxHeartbeats 1000000 in
theorem put_bad (p : Addr) (A : Option Addr) (bs : List UInt8) (n c fr total : Nat) (B : Option Addr) (l : List Sq) (m d : Nat) (w : World) (hn : n = bs.length) (hc : bs.length ≤ c) (hr : BRow w w.heap.size A bs) (hlen : bs.length ≤ 140737488355328)
    (hm : m = l.length) (hmd : l.length ≤ d) (hl : SqRow w w.heap.size B l) (hml : l.length ≤ 140737488355328) (hfit : ∀ s ∈ l, s.fits) (hfr : fr ≤ bs.length) (hright : rightP bs fr l = false) :
    Calls Try.prog 9 #[.pointer (some p), .slice A n c, .int .i64 fr, .int .i64 total, .slice B m d] w fun e w' => e = .returned (.tuple #[.slice none 0 0, .int .i64 11]) ∧ Below w.heap.size w w' := by
  subst hn; subst hm
  have HR1 := Lib.hid (right_p A bs bs.length c fr B l l.length d w rfl hc hr (by omega) rfl hmd hl hml hfit hfr)
  rw [hright] at HR1
  have hf1 : (0 : Int) ≤ (fr : Int) := by omega
  have hf2 : (fr : Int) ≤ (bs.length : Int) := by omega
  have ht1 : (0 : Int) ≤ (total : Int) := by omega
  clear hr hl hfit hright hfr
  go_enter Try.func9, Try.ntmps9
  go_wp2_with fail
  refine HR1.out.mono ?_; rintro e w1 ⟨rfl, b1⟩
  have B1 := Lib.hid b1
  clear b1 HR1
  go_wp2
  go_ret2
  exact ⟨rfl, B1.out⟩
end Go.Proofs.Ythcgglacbgjdhaa

/- What the document says of abcabc: the walk of wakes. -/
namespace Go.Proofs.Ythcgglacbgjdhaa
open Go.RowKit Rng Win Lz Fnd
set_option linter.unusedVariables false
set_option linter.unusedSimpArgs false
set_option maxRecDepth 100000 in
theorem wOp_k (b lb b' lb' : Nat) (bs : List UInt8) (fr total : Nat) : wOp (newK b lb) bs fr total = wOp (newK b' lb') bs fr total := by
  funext x o
  cases o <;> rfl
theorem opsB_k (b lb b' lb' : Nat) (bs : List UInt8) (fr total st : Nat) (rep : Nat → Nat) (pr : Pr) (l : List (Option (Nat × Nat))) : opsB (newK b lb) bs fr total st rep pr l = opsB (newK b' lb') bs fr total st rep pr l := by
  unfold opsB wOps
  rw [wOp_k b lb b' lb']
theorem reads_ops (b lb : Nat) (bs : List UInt8) (total : Nat) (l : List (Option (Nat × Nat))) (hok : OkOps bs 0 l) (hS : bs.length ≤ 65536) : Reads total bs.length (opsB (newK b lb) bs 0 total 0 (fun _ => 0) (fun _ => 1024) l) bs := by
  intro b' lb'
  rw [opsB_k b lb b' lb']
  obtain ⟨y, hy, _⟩ := ops_read (newK b' lb') 65536 bs 0 total 0 (fun _ => 0) (fun _ => 1024) l hok (Nat.zero_le _) hS (by omega)
  exact ⟨y, by simpa using hy⟩
set_option maxRecDepth 100000 in
theorem cnt_ops (k : LK) (bs : List UInt8) (fr T : Nat) (hb : bs.length ≤ 16777216) : ∀ (l : List (Option (Nat × Nat))) (x : PS), OkOps bs x.pos l → (wOps k bs fr T l x).s.d.cnt ≤ x.s.d.cnt + costOps l
  | [], x, _ => Nat.le_refl _
  | none :: l, x, h => by
    rw [wOps_cons]
    have h1 := cnt_ops k bs fr T hb l (wOp k bs fr T x none) h.2
    have h2 : (wOp k bs fr T x none).s.d.cnt ≤ x.s.d.cnt + 9 := cnt_putLit _ _ _ _ _ _ _
    show _ ≤ x.s.d.cnt + (_ + costOps l)
    unfold costOp
    simp only
    omega
  | some m :: l, x, h => by
    obtain ⟨a1, a2, a3, a4, a5, a6⟩ := h
    rw [wOps_cons]
    have h1 := cnt_ops k bs fr T hb l (wOp k bs fr T x (some m)) a6
    have h2 : (wOp k bs fr T x (some m)).s.d.cnt ≤ x.s.d.cnt + 100 := cnt_putMatch _ _ _ _ _ _ _ (by omega)
    show _ ≤ x.s.d.cnt + (_ + costOps l)
    unfold costOp
    simp only
    omega
theorem opsB_len (k : LK) (bs : List UInt8) (fr total st : Nat) (rep : Nat → Nat) (pr : Pr) (l : List (Option (Nat × Nat))) (hb : bs.length ≤ 16777216) (hok : OkOps bs fr l) : (opsB k bs fr total st rep pr l).length ≤ costOps l + 5 := by
  have hI : EncI (wOps k bs fr (totOf total) l ⟨fr, st, rep, ⟨newEnc, pr⟩⟩).s.d := stays_wOps encI_stays k bs fr (totOf total) l (x := ⟨fr, st, rep, ⟨newEnc, pr⟩⟩) encI_new
  have h := (told_close hI).l
  have h1 := cnt_ops k bs fr (totOf total) hb l ⟨fr, st, rep, ⟨newEnc, pr⟩⟩ hok
  have h3 : newEnc.cnt = 0 := rfl
  unfold opsB
  simp only at h1
  omega
theorem wk_right : rightP [97, 98, 99, 97, 98, 99] 0 [⟨3, 3, 3⟩] = true := by kernel_rfl
theorem wk_wrong : rightP [97, 98, 99] 0 [⟨2, 0, 0⟩] = false := by kernel_rfl
theorem sq_one (w : World) (s : Sq) (T : TypeId) : SqRow (w.alloc (.cells #[.int .i64 s.lits, .int .i64 s.mat, .int .i64 s.back] T)) (w.heap.size + 1) (some ⟨w.heap.size, 0, none⟩) [s] := by
  intro _
  have hp := Pts.new w #[.int .i64 s.lits, .int .i64 s.mat, .int .i64 s.back] T
  refine ⟨w.heap.size, 0, rfl, Nat.lt_succ_self _, fun k hk => ?_⟩
  obtain rfl : k = 0 := by simpa using hk
  exact ⟨by rw [hp.cell]; rfl, by rw [hp.cell]; rfl, by rw [hp.cell]; rfl⟩
theorem bytes_new (w : World) (T : TypeId) (bs : List UInt8) (cs : Array Value) (fz : Nat × Nat) (h : cs = (bs.map byteV).toArray) : BRow (w.alloc (.cells cs T fz)) (w.heap.size + 1) (some ⟨w.heap.size, 0, none⟩) bs := by
  subst h
  intro _
  have hp : (w.alloc (.cells (bs.map byteV).toArray T fz)).heap[w.heap.size]? = some (.cells (bs.map byteV).toArray T fz) := by show (w.heap.push _)[w.heap.size]? = _; simp
  refine ⟨w.heap.size, 0, rfl, Nat.lt_succ_self _, fun j hj => ?_⟩
  have h : (w.alloc (.cells (bs.map byteV).toArray T fz)).cell? ⟨w.heap.size, 0 + j, none⟩ = (bs.map byteV).toArray[0 + j]? := by unfold World.cell?; simp only; rw [hp]; rfl
  rw [h, Nat.zero_add, List.getElem?_toArray, List.getElem?_map, List.getElem?_eq_getElem hj, List.getD_eq_getElem?_getD, List.getElem?_eq_getElem hj]
  rfl
/-- A new state tq9 put in by. -/
theorem pnew_p (lc lp pb : Nat) (h1 : lc + lp ≤ 4) (h2 : pb ≤ 4) (w : World) : Calls Try.prog 8 #[.int .i64 lc, .int .i64 lp, .int .i64 pb] w fun e w' => ∃ b lb, e = .returned (.tuple #[.pointer (some ⟨b, 0, none⟩), .int .i64 0]) ∧ w.heap.size ≤ b ∧ w.heap.size ≤ lb ∧ PAt w' ⟨b, lb, lc, lp, pb⟩ 0 (fun _ => 0) (fun _ => 1024) ∧ Below w.heap.size w w' := by
  refine (putnew_p lc lp pb h1 h2 w).mono ?_
  rintro e w' ⟨b, lb, rfl, h3, h4, h5, h6, h7, h8⟩
  exact ⟨b, lb, rfl, h3, h4, ⟨h6, h7, fun _ => (by decide : 1024 < 65536), h5⟩, h8⟩
theorem pnew32 (w : World) : Calls Try.prog 8 #[.int .i64 3, .int .i64 0, .int .i64 2] w fun e w' => ∃ b lb, e = .returned (.tuple #[.pointer (some ⟨b, 0, none⟩), .int .i64 0]) ∧ w.heap.size ≤ b ∧ w.heap.size ≤ lb ∧ PAt w' (newK b lb) 0 (fun _ => 0) (fun _ => 1024) ∧ Below w.heap.size w w' := pnew_p 3 0 2 (by omega) (by omega) w
theorem alloc_size (w : World) (o : Obj) : (w.alloc o).heap.size = w.heap.size + 1 := by show (w.heap.push _).size = _; rw [Array.size_push]
def abc6 : List UInt8 := [97, 98, 99, 97, 98, 99]
def abc3 : List UInt8 := [97, 98, 99]
/-- A text and one step, both new. -/
theorem text_step (w : World) (bs : List UInt8) (s : Sq) (cs : Array Value) (fz : Nat × Nat) (h : cs = (bs.map byteV).toArray) :
    Below w.heap.size w ((w.alloc (.cells cs 5 fz)).alloc (.cells #[.int .i64 s.lits, .int .i64 s.mat, .int .i64 s.back] 31)) ∧ ((w.alloc (.cells cs 5 fz)).alloc (.cells #[.int .i64 s.lits, .int .i64 s.mat, .int .i64 s.back] 31)).heap.size = w.heap.size + 2 ∧
      BRow ((w.alloc (.cells cs 5 fz)).alloc (.cells #[.int .i64 s.lits, .int .i64 s.mat, .int .i64 s.back] 31)) (w.heap.size + 2) (some ⟨w.heap.size, 0, none⟩) bs ∧
      SqRow ((w.alloc (.cells cs 5 fz)).alloc (.cells #[.int .i64 s.lits, .int .i64 s.mat, .int .i64 s.back] 31)) (w.heap.size + 2) (some ⟨w.heap.size + 1, 0, none⟩) [s] := by
  have b1 := below_alloc w (.cells cs 5 fz)
  have b2 := below_alloc (w.alloc (.cells cs 5 fz)) (.cells #[.int .i64 s.lits, .int .i64 s.mat, .int .i64 s.back] 31)
  have s1 := alloc_size w (.cells cs 5 fz)
  have s2 := alloc_size (w.alloc (.cells cs 5 fz)) (.cells #[.int .i64 s.lits, .int .i64 s.mat, .int .i64 s.back] 31)
  have r := bytes_new w 5 bs cs fz h
  have q := sq_one (w.alloc (.cells cs 5 fz)) s 31
  rw [s1] at q b2
  exact ⟨b1.trans (b2.mono (by omega)), by omega, (r.below b2).more (by omega), q.more (by omega)⟩
set_option maxRecDepth 100000 in
set_option maxHeartbeats 4000000 in
theorem wakes14 (w : World) : Calls Try.prog 7 #[] w fun e w' => e = .returned (.bool true) ∧ Below w.heap.size w w' := by
  have hcv := fun (w : World) (C : Array Value) (n c : Nat) => Lib.run_convert_bytes_const (P := Try.prog) w 22 5 C n c Try.underlying22 Try.underlying5
  go_enter Try.func7, Try.ntmps7
  go_wp2_with fail
  refine (pnew32 w).mono ?_; rintro e w1 ⟨sb, lb, rfl, g1, g2, hs1, hb1⟩
  have S1 := Lib.hid hs1
  have B1 := Lib.hid hb1
  have L1 := Lib.hid (And.intro hs1.m.lt hs1.l.lt)
  clear hs1 hb1
  go_wp2_with fail
  refine (putnew_bad 4 1 0 (by omega) (by omega) (by omega) w1).mono ?_; rintro e w2 ⟨rfl, hw⟩
  subst hw
  go_wp2_with fail
  refine (putnew_bad 0 0 5 (by omega) (by omega) (by omega) w1).mono ?_; rintro e w2 ⟨rfl, hw⟩
  subst hw
  go_wp2_with fail
  obtain ⟨b2, z2, r2, q2⟩ := text_step w1 abc6 ⟨3, 3, 3⟩ #[.int .u8 97, .int .u8 98, .int .u8 99, .int .u8 97, .int .u8 98, .int .u8 99] (6, 7) rfl
  simp only at b2 z2 r2 q2
  obtain ⟨h1, hh1⟩ : ∃ h, w1.heap.size = h := ⟨_, rfl⟩
  rw [hh1] at b2 z2 r2 q2 ⊢
  generalize (w1.alloc (.cells #[.int .u8 97, .int .u8 98, .int .u8 99, .int .u8 97, .int .u8 98, .int .u8 99] 5 (6, 7))).alloc (.cells #[.int .i64 3, .int .i64 3, .int .i64 3] 31) = w2 at *
  rw [← z2] at r2 q2
  have HH1 := Lib.hid hh1
  have R2 := Lib.hid r2
  have Q2 := Lib.hid q2
  have Z2 := Lib.hid z2
  have S2 := Lib.hid (S1.out.later (by rw [hh1]; exact b2))
  have B2 := Lib.hid (B1.out.trans (b2.mono (by have := B1.out.size; omega)))
  clear b2 z2 r2 q2 hh1
  have hoff : BOff (KZ (newK sb lb)) (some ⟨h1, 0, none⟩) abc6 := by
    intro _ ad e hq
    injection e with e
    subst e
    have h2 := L1.out
    have h3 := HH1.out
    rcases hq with hq | hq
    · have : h1 = sb := hq
      simp only [newK] at h2; omega
    · have : h1 = lb := hq
      simp only [newK] at h2; omega
  have hlo : ∀ ad, (some ⟨h1 + 1, 0, none⟩ : Option Addr) = some ad → ¬ KZ (newK sb lb) ad.block := by
    intro ad e hq
    injection e with e
    subst e
    have h2 := L1.out
    have h3 := HH1.out
    rcases hq with hq | hq
    · have : h1 + 1 = sb := hq
      simp only [newK] at h2; omega
    · have : h1 + 1 = lb := hq
      simp only [newK] at h2; omega
  have HO := Lib.hid (And.intro hoff hlo)
  clear hoff hlo
  refine (putchunk_main (newK sb lb) 0 (fun _ => 0) (fun _ => 1024) (some ⟨h1, 0, none⟩) abc6 6 6 0 0 (some ⟨h1 + 1, 0, none⟩) [⟨3, 3, 3⟩] 1 1 w2 S2.out (newK_ok _ _) (by omega) (fun _ => by omega) rfl (by decide) R2.out HO.out.1 (by decide) rfl (by decide) Q2.out HO.out.2 (by decide) (by intro s hs; simp at hs; subst hs; unfold Sq.fits; simp) (by decide) (by decide) (by omega) wk_right (by decide)).mono ?_
  rintro e w3 ⟨v, rfl, o3, s3, f3⟩
  have hok : OkOps abc6 0 (opsOf [⟨3, 3, 3⟩]) := right_ops _ 0 (Nat.zero_le _) (by kernel_rfl)
  have hre := reads_ops sb lb abc6 0 _ hok (by decide)
  have hlen := opsB_len (newK sb lb) abc6 0 0 0 (fun _ => 0) (fun _ => 1024) _ (by decide) hok
  have hcost : costOps (opsOf [⟨3, 3, 3⟩]) = 127 := by kernel_rfl
  rw [hcost] at hlen
  obtain ⟨cs, hcs⟩ : ∃ cs, opsB (newK sb lb) abc6 0 0 0 (fun _ => 0) (fun _ => 1024) (opsOf [⟨3, 3, 3⟩]) = cs := ⟨_, rfl⟩
  rw [hcs] at hre hlen o3
  obtain ⟨A3, c3, rfl, hc3, hm3, hr3⟩ := o3.slice
  obtain ⟨L, hL⟩ : ∃ L, cs.length = L := ⟨_, rfl⟩
  rw [hL] at hc3 ⊢
  have B3 := Lib.hid (B2.out.trans (f3.below (B := w.heap.size) B2.out.size (by
    rintro q (e | e)
    · rw [e]; exact g1
    · rw [e]; exact g2)))
  have RE := Lib.hid hre
  have HC3 := Lib.hid (And.intro hL (And.intro hlen (And.intro hc3 hm3)))
  have R3 := Lib.hid hr3
  clear hre hlen hcost hcs o3 hr3 hL hc3 hm3 f3 s3 hok S2 R2 Q2 Z2 HO S1
  go_wp2_with fail
  refine (props14_p w3).mono ?_; rintro e w4 ⟨rfl, hw4⟩
  subst hw4
  go_wp2_with fail
  obtain ⟨p0, p1, b4, z4⟩ := two_new w3 (.slice A3 L c3) (.int .i64 6) 22 3
  have C4 := Lib.hid (And.intro ((p0.cell 0).trans rfl) ((p1.cell 0).trans rfl))
  have R4 := Lib.hid ((R3.out.below b4).more b4.size)
  have B4 := Lib.hid (B3.out.trans (b4.mono B3.out.size))
  obtain ⟨h3, hh3⟩ : ∃ h, w3.heap.size = h := ⟨_, rfl⟩
  rw [hh3] at C4 ⊢
  generalize (w3.alloc (.cells #[.slice A3 L c3] 22)).alloc (.cells #[.int .i64 6] 3) = w4 at *
  clear p0 p1 b4 z4 hh3 R3
  refine (read_p cs abc6 A3 L c3 6 0 h3 (h3 + 1) w4 HC3.out.1.symm R4.out (by have := HC3.out; omega) HC3.out.2.2.2 (by have := HC3.out; omega) C4.out.1 C4.out.2 (by omega) (by omega) (by omega) RE.out (by decide)).mono ?_; rintro e w5 ⟨rfl, b5⟩
  have B5 := Lib.hid (B4.out.trans (b5.mono B4.out.size))
  clear b5 R4 C4
  go_wp2_with fail
  obtain ⟨b6, z6, r6, q6⟩ := text_step w5 abc3 ⟨2, 0, 0⟩ #[.int .u8 97, .int .u8 98, .int .u8 99] (3, 4) rfl
  simp only at b6 z6 r6 q6
  have B6 := Lib.hid (B5.out.trans (b6.mono B5.out.size))
  obtain ⟨h5, hh5⟩ : ∃ h, w5.heap.size = h := ⟨_, rfl⟩
  rw [hh5] at z6 r6 q6 ⊢
  generalize (w5.alloc (.cells #[.int .u8 97, .int .u8 98, .int .u8 99] 5 (3, 4))).alloc (.cells #[.int .i64 2, .int .i64 0, .int .i64 0] 31) = w6 at *
  rw [← z6] at r6 q6
  have R6 := Lib.hid r6
  have Q6 := Lib.hid q6
  clear b6 z6 r6 q6 hh5
  refine (put_bad ⟨sb, 0, none⟩ (some ⟨h5, 0, none⟩) abc3 3 3 0 0 (some ⟨h5 + 1, 0, none⟩) [⟨2, 0, 0⟩] 1 1 w6 rfl (by decide) R6.out (by decide) rfl (by decide) Q6.out (by decide) (by intro s hs; simp at hs; subst hs; unfold Sq.fits; simp) (by decide) wk_wrong).mono ?_; rintro e w7 ⟨rfl, b7⟩
  have B7 := Lib.hid (B6.out.trans (b7.mono B6.out.size))
  clear b7
  unfold abc6
  go_wp2
  go_ret
  exact ⟨rfl, B7.out⟩
end Go.Proofs.Ythcgglacbgjdhaa

/- Steps that make a text stand in it: plain. -/
namespace Go.Proofs.Ythcgglacbgjdhaa
open Go.RowKit Rng Win Lz Fnd
set_option linter.unusedVariables false
set_option linter.unusedSimpArgs false
theorem copyBack_front (k : Nat) : ∀ (n : Nat) (out : List UInt8), ∃ suf, copyBack k n out = out ++ suf
  | 0, out => ⟨[], by rw [copyBack, List.append_nil]⟩
  | n + 1, out => by
    obtain ⟨suf, h⟩ := copyBack_front k n (out ++ [out.getD (out.length - k) 0])
    exact ⟨[out.getD (out.length - k) 0] ++ suf, by rw [copyBack, h, List.append_assoc]⟩
theorem getD_front (o suf : List UInt8) {i : Nat} (h : i < o.length) : (o ++ suf).getD i 0 = o.getD i 0 := by
  rw [List.getD_eq_getElem?_getD, List.getD_eq_getElem?_getD, List.getElem?_append_left h]
theorem copyBack_same (k : Nat) : ∀ (n : Nat) (out : List UInt8), 1 ≤ k → k ≤ out.length → ∀ i, i < n → (copyBack k n out).getD (out.length + i) 0 = (copyBack k n out).getD (out.length + i - k) 0
  | 0, _, _, _, i, hi => absurd hi (by omega)
  | n + 1, out, h1, h2, i, hi => by
    rw [copyBack]
    obtain ⟨suf, h⟩ := copyBack_front k n (out ++ [out.getD (out.length - k) 0])
    by_cases h0 : i = 0
    · subst h0
      have hl : (out ++ [out.getD (out.length - k) 0]).length = out.length + 1 := by simp
      have hx : (out ++ [out.getD (out.length - k) 0]).getD out.length 0 = out.getD (out.length - k) 0 := by
        rw [List.getD_eq_getElem?_getD, List.getElem?_append_right (Nat.le_refl _)]
        simp
      rw [h, getD_front _ suf (by rw [hl]; omega), getD_front _ suf (by rw [hl]; omega), Nat.add_zero, hx, getD_front _ _ (by omega)]
    · have e := copyBack_same k n (out ++ [out.getD (out.length - k) 0]) h1 (by simp; omega) (i - 1) (by omega)
      have hl : (out ++ [out.getD (out.length - k) 0]).length = out.length + 1 := by simp
      rw [hl, show out.length + 1 + (i - 1) = out.length + i by omega] at e
      exact e
def sumM : List Sq → Nat
  | [] => 0
  | s :: l => s.mat.toNat + sumM l
theorem sumM_take {l : List Sq} : ∀ {k : Nat}, k < l.length → sumM (l.take (k + 1)) = sumM (l.take k) + (l.getD k default).mat.toNat := by
  induction l with
  | nil => intro k h; simp at h
  | cons s l ih =>
    intro k h
    cases k with
    | zero => simp [sumM]
    | succ k =>
      have := ih (k := k) (by simpa using h)
      simp only [List.take_succ_cons, sumM, List.getD_cons_succ] at this ⊢
      omega
set_option maxRecDepth 100000 in
theorem back_all : ∀ (l : List Sq) (out rest b : List UInt8), backGo l out rest = some b → (∀ s ∈ l, s.mat ≠ 1 ∧ s.mat ≤ 273) →
    ∃ suf, b = out ++ suf ∧ rightGo b l out.length = some b.length ∧ b.length ≤ out.length + rest.length + sumM l ∧ costOps (opsOf l) ≤ 9 * rest.length + 100 * l.length ∧ b.length ≤ 16777216
  | [], out, rest, b, h, _ => by
    unfold Fnd.backGo at h
    by_cases hm : maxC < out.length
    · rw [if_pos hm] at h; cases h
    · rw [if_neg hm] at h
      injection h with h
      subst h
      unfold maxC at hm
      exact ⟨[], by simp, rfl, by omega, by simp [opsOf, costOps], by omega⟩
  | s :: l, out, rest, b, h, hs => by
    unfold Fnd.backGo at h
    by_cases h1 : Bad1 s rest.length
    · rw [if_pos h1] at h; cases h
    rw [if_neg h1] at h
    by_cases h2 : Bad2 s (out ++ rest.take s.lits.toNat).length
    · rw [if_pos h2] at h; cases h
    rw [if_neg h2] at h
    unfold Bad1 at h1
    have hol : (out ++ rest.take s.lits.toNat).length = out.length + s.lits.toNat := by rw [List.length_append, List.length_take]; omega
    rw [hol] at h2
    unfold Bad2 maxC at h2
    obtain ⟨suf, e1, e2, e3, e4, e5⟩ := back_all l _ _ b h (fun x hx => hs x (List.mem_cons_of_mem _ hx))
    have hms := hs s (List.mem_cons_self)
    have hcl := copyBack_length s.back.toNat s.mat.toNat (out ++ rest.take s.lits.toNat)
    rw [hol] at hcl
    rw [hcl] at e2 e3
    have hdl : (rest.drop s.lits.toNat).length = rest.length - s.lits.toNat := List.length_drop
    rw [hdl] at e3 e4
    obtain ⟨suf2, hf⟩ := copyBack_front s.back.toNat s.mat.toNat (out ++ rest.take s.lits.toNat)
    have hbl : b.length = out.length + s.lits.toNat + s.mat.toNat + suf.length := by rw [e1, List.length_append, hcl]
    refine ⟨rest.take s.lits.toNat ++ suf2 ++ suf, by rw [e1, hf]; simp, ?_, by unfold sumM; omega, ?_, e5⟩
    · unfold rightGo
      rw [if_neg (by unfold RB1; omega)]
      by_cases h0 : s.mat = 0
      · rw [if_pos h0]
        rw [h0] at e2
        exact e2
      · rw [if_neg h0, if_neg (by unfold RB2; omega), if_pos ?_]
        · exact e2
        · intro i hi
          have hk : 1 ≤ s.back.toNat := by omega
          have hc := copyBack_same s.back.toNat s.mat.toNat (out ++ rest.take s.lits.toNat) hk (by rw [hol]; omega) i hi
          rw [hol] at hc
          rw [e1, getD_front _ _ (by rw [hcl]; omega), getD_front _ _ (by rw [hcl]; omega)]
          exact hc
    · unfold opsOf opsSq
      rw [costOps_append, costOps_append, costOps_lits, List.length_cons]
      by_cases h0 : 0 < s.mat
      · rw [if_pos h0]
        simp only [costOps, costOp]
        omega
      · rw [if_neg h0]
        simp only [costOps]
        omega
theorem back_right {l : List Sq} {lits b : List UInt8} (h : back lits 0 l = .ok b) (hs : ∀ s ∈ l, s.mat ≠ 1 ∧ s.mat ≤ 273) (hb : b.length ≠ 0) :
    rightP b 0 l = true ∧ rightGo b l 0 = some b.length ∧ b.length ≤ lits.length + sumM l ∧ costOps (opsOf l) ≤ 9 * lits.length + 100 * l.length ∧ b.length ≤ 16777216 := by
  have hg : backGo l [] lits = some b := by
    unfold back at h
    rw [if_neg (by omega)] at h
    simp only [Int.toNat_zero, List.take_zero, List.drop_zero] at h
    revert h
    cases backGo l [] lits with
    | none => intro h; cases h
    | some o => intro h; injection h with h; rw [h]
  obtain ⟨suf, e1, e2, e3, e4, e5⟩ := back_all l [] lits b hg hs
  refine ⟨?_, e2, by simpa using e3, e4, e5⟩
  unfold rightP
  rw [show ([] : List UInt8).length = 0 from rfl] at e2
  rw [e2]
  exact decide_eq_true ⟨rfl, by omega⟩
end Go.Proofs.Ythcgglacbgjdhaa
