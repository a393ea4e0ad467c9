/- Texts of this proof, put together: LpE, LpF, LpG, LpH, LpI, LpJ, LpQ, FindP, LpR, LpK, LpL, LpM, LpN, MaQ, MaR, MaI, MaJ, LpT, FindB, LpU, FindQ, FindC, FindL. -/
import Derived.Lib.SlBytesConst
import Derived.Deep.RegionWith
import Derived.Shelf.Abstract
import Derived.Test.YtefbjamepbkklaaChecked
import Derived.WalkKit
import Derived.Lib.Hide
import Derived.BigQuiet
import Derived.Deep.QuietTactic
import Derived.RegionTactic
import Derived.StillTailTactics
import Derived.OwnWalk
import Derived.Lib.SliceRun
import Derived.Maps.OwnSet
import Derived.Maps.Views
import Derived.Maps.AppendAt
import Derived.WalkMore
import Derived.Deep.LoopGhost
import Derived.Test.YtefbjamepbkklaaBu1
import Derived.Test.YtefbjamepbkklaaBu2
import Derived.Test.YtefbjamepbkklaaBu3
set_option linter.unusedVariables false
set_option linter.unusedSimpArgs false
/- A writer within a match: its boxes; which of the four distances it is: the walk. -/
namespace Go.Proofs.Ytefbjamepbkklaa
open Go.RowKit Rng Lz Win
set_option linter.unusedVariables false
set_option linter.unusedSimpArgs false
theorem IC.narrow {b : Nat} {O : Nat → Prop} {w w' : World} {e : Enc} (h : IC b O w e) (hf : Frm (fun _ => False) w w') (E : Nat → Prop) (hE : ∀ q, E q → w.heap.size ≤ q ∧ q < w'.heap.size) : IC b (fun q => O q ∧ ¬ E q) w' e := by
  obtain ⟨⟨v, hv, hvo⟩, hb, hz, hi⟩ := h
  have hbl := hv.p.lt
  refine ⟨⟨v, ⟨hv.p.frm hf id, hv.o.frm hf (fun q hq => id), hv.k⟩, fun q hq => ⟨hvo q hq, fun e => ?_⟩⟩, ⟨hb, fun e => by have := (hE b e).1; omega⟩, fun q hq => ⟨hz q (Nat.le_trans hf.size hq), fun e => by have := (hE q e).2; omega⟩, hi⟩
  have h1 := (hE q e).1
  rcases hv.o.form with ⟨e2, _⟩ | ⟨g, cap, cur, e2, _, hp, _⟩
  · rw [e2] at hq; cases hq
  · rw [e2] at hq
    have hq' : g = q := by simpa [Value.ownBlock] using hq
    have : g < w.heap.size := Pts.lt hp
    omega
/-- Blocks that are made ahead of the work are not the writer's own. -/
theorem WrAt.narrow {O : Nat → Prop} {w w' : World} {k : LK} {g : WB} {A : Option Addr} {c : Nat} {bs : List UInt8} {shift : Int} {pos st : Nat} {rep : Nat → Nat} {s : CP Enc} (h : WrAt O w k g A c bs shift pos st rep s) (hf : Frm (fun _ => False) w w') (E : Nat → Prop) (hE : ∀ q, E q → w.heap.size ≤ q ∧ q < w'.heap.size) : WrAt (fun q => O q ∧ ¬ E q) w' k g A c bs shift pos st rep s := by
  have h' := h.lzStep (h.lz.later (IC.keep _ _) hf) (hf.mono fun _ _ e => e.elim)
  refine ⟨⟨h.lz.c.narrow hf E hE, h'.lz.m, h'.lz.l, h'.lz.fit, fun e => h'.lz.ne.1 e.1, fun e => h'.lz.ne.2.1 e.1, h'.lz.ne.2.2⟩, h'.p, h'.r, ?_, fun e => h'.x e.1⟩
  intro h0 ad e hz2
  refine h.off h0 ad e ?_
  rcases hz2 with (e1 | e1) | e1
  · exact .inl (.inl e1.1)
  · exact .inl (.inr e1)
  · exact .inr e1
/-- .. and behind the work they are among them again. -/
theorem WrAt.widen {O O' : Nat → Prop} {w w' : World} {k : LK} {g : WB} {A : Option Addr} {c : Nat} {bs : List UInt8} {shift shift' : Int} {pos st pos' st' : Nat} {rep rep' : Nat → Nat} {s s' : CP Enc} (h : WrAt O' w' k g A c bs shift' pos' st' rep' s') (h0 : WrAt O w k g A c bs shift pos st rep s) (hs : ∀ q, O' q → O q) (hz : w.heap.size ≤ w'.heap.size) : WrAt O w' k g A c bs shift' pos' st' rep' s' := by
  obtain ⟨⟨v, hv, hvo⟩, hb, _, hi⟩ := h.lz.c
  exact ⟨⟨⟨⟨v, hv, fun q hq => hs q (hvo q hq)⟩, hs _ hb, fun q hq => h0.lz.c.2.2.1 q (Nat.le_trans hz hq), hi⟩, h.lz.m, h.lz.l, h.lz.fit, h0.lz.ne⟩, h.p, h.r, h0.off, h0.x⟩
/-- A writer within a match: b3 holds the writer, b6 the model. -/
structure MAt (O : Nat → Prop) (w : World) (k : LK) (g : WB) (b3 b6 : Nat) (A : Option Addr) (c : Nat) (bs : List UInt8) (shift : Int) (pos : Nat) (st : Nat) (rep : Nat → Nat) (s : CP Enc) : Prop where
  m : WrAt O w k g A c bs shift pos st rep s
  p3 : Pts w b3 #[.pointer (some ⟨g.xb, 0, none⟩)] 83
  p6 : Pts w b6 #[.pointer (some ⟨k.sb, 0, none⟩)] 84
  o3 : ¬ O b3
  o6 : ¬ O b6
section
variable {O : Nat → Prop} {w w' : World} {k : LK} {g : WB} {b3 b6 : Nat} {A : Option Addr} {c : Nat} {bs : List UInt8} {shift : Int} {pos st : Nat} {rep : Nat → Nat} {s : CP Enc}
theorem MAt.lzStep {st' : Nat} {rep' : Nat → Nat} {s' : CP Enc} (h : MAt O w k g b3 b6 A c bs shift pos st rep s) (hl : LzAt (IC g.eb O) O 67 w' k st' rep' s') (hf : Frm (Wr O k) w w') : MAt O w' k g b3 b6 A c bs shift pos st' rep' s' := by
  refine ⟨h.m.lzStep hl hf, h.p3.frm hf ?_, h.p6.frm hf ?_, h.o3, h.o6⟩
  · rintro (e | e | e)
    · exact h.o3 e
    · exact h.p3.ne_of h.m.lz.m (by decide) e
    · exact h.p3.ne_of h.m.lz.l (by decide) e
  · rintro (e | e | e)
    · exact h.o6 e
    · exact h.p6.ne_of h.m.lz.m (by decide) e
    · exact h.p6.ne_of h.m.lz.l (by decide) e
theorem MAt.drewN (h : MAt O w k g b3 b6 A c bs shift pos st rep s) (n : Nat) : MAt O (w.drewN n) k g b3 b6 A c bs shift pos st rep s := h.lzStep (h.m.lz.later (IC.keep _ _) ((Frm.refl _ w).drewN n)) ((Frm.refl _ w).drewN n)
theorem MAt.drew (h : MAt O w k g b3 b6 A c bs shift pos st rep s) : MAt O w.drew k g b3 b6 A c bs shift pos st rep s := h.lzStep (h.m.lz.later (IC.keep _ _) ((Frm.refl _ w).drew)) ((Frm.refl _ w).drew)
theorem MAt.alloc (h : MAt O w k g b3 b6 A c bs shift pos st rep s) (X : Obj) : MAt O (w.alloc X) k g b3 b6 A c bs shift pos st rep s := h.lzStep (h.m.lz.later (IC.keep _ _) ((Frm.refl _ w).alloc X)) ((Frm.refl _ w).alloc X)
theorem MAt.cells (h : MAt O w k g b3 b6 A c bs shift pos st rep s) : w.cell? ⟨b3, 0, none⟩ = some (.pointer (some ⟨g.xb, 0, none⟩)) ∧ w.cell? ⟨b6, 0, none⟩ = some (.pointer (some ⟨k.sb, 0, none⟩)) ∧ w.cell? ⟨g.xb, 1, none⟩ = some (.pointer (some ⟨g.eb, 0, none⟩)) ∧
    w.cell? ⟨g.xb, 3, none⟩ = some (.int .i64 pos) ∧ w.cell? ⟨g.xb, 4, none⟩ = some (.int .i64 shift) ∧ w.cell? ⟨k.sb, 3, none⟩ = some (.int .i64 st) ∧ w.cell? ⟨g.xb, 0, none⟩ = some (.pointer (some ⟨k.sb, 0, none⟩)) := by
  obtain ⟨d0, d1, -, d3, d4, d5, -⟩ := h.m.cells
  exact ⟨by rw [h.p3.cell]; rfl, by rw [h.p6.cell]; rfl, d1, d3, d4, d5, d0⟩
end
theorem MAt.narrow {O : Nat → Prop} {w w' : World} {k : LK} {g : WB} {b3 b6 : Nat} {A : Option Addr} {c : Nat} {bs : List UInt8} {shift : Int} {pos st : Nat} {rep : Nat → Nat} {s : CP Enc} (h : MAt O w k g b3 b6 A c bs shift pos st rep s) (hf : Frm (fun _ => False) w w') (E : Nat → Prop) (hE : ∀ q, E q → w.heap.size ≤ q ∧ q < w'.heap.size) : MAt (fun q => O q ∧ ¬ E q) w' k g b3 b6 A c bs shift pos st rep s :=
  ⟨h.m.narrow hf E hE, h.p3.frm hf id, h.p6.frm hf id, fun e => h.o3 e.1, fun e => h.o6 e.1⟩
theorem MAt.widen {O O' : Nat → Prop} {w w' : World} {k : LK} {g : WB} {b3 b6 : Nat} {A : Option Addr} {c : Nat} {bs : List UInt8} {shift shift' : Int} {pos st pos' st' : Nat} {rep rep' : Nat → Nat} {s s' : CP Enc} (h : MAt O' w' k g b3 b6 A c bs shift' pos' st' rep' s') (h0 : MAt O w k g b3 b6 A c bs shift pos st rep s) (hs : ∀ q, O' q → O q) (hz : w.heap.size ≤ w'.heap.size) : MAt O w' k g b3 b6 A c bs shift' pos' st' rep' s' :=
  ⟨h.m.widen h0.m hs hz, h.p3, h.p6, h0.o3, h0.o6⟩
/-- Bits by which one of the four is told. -/
def bitsIn (st : Nat) : Nat → List Nat → CP Enc → CP Enc
  | _, [], s => s
  | i, x :: l, s => bitsIn st (i + 1) l (bitAt inC (212 + i * 12 + st) x s).2
set_option maxRecDepth 100000 in
set_option maxHeartbeats 1000000 in
theorem bits_p (O : Nat → Prop) (w : World) (k : LK) (g : WB) (b3 b6 : Nat) (A : Option Addr) (c : Nat) (bs : List UInt8) (shift : Int) (pos st : Nat) (rep : Nat → Nat) (s : CP Enc) (h : MAt O w k g b3 b6 A c bs shift pos st rep s) (hst : st < 12)
    (bl c0 : Nat) (l : List Nat) (hl : l.length ≤ 3) (hl1 : ∀ j, j < l.length → l.getD j 0 ≤ 1) (hcell : ∀ j, j < l.length → w.cell? ⟨bl, j, none⟩ = some (.int .i64 (l.getD j 0 : Int))) (hbl : ¬ Wr O k bl) (hc : s.d.cnt + 3 < 1000000) :
    Calls Try.prog 40 #[.slice (some ⟨bl, 0, none⟩) l.length c0, .pointer (some ⟨b3, 0, none⟩), .pointer (some ⟨b6, 0, none⟩)] w fun e w' => e = .returned (.tuple #[]) ∧ MAt O w' k g b3 b6 A c bs shift pos st rep (bitsIn st 0 l s) ∧ Frm (Wr O k) w w' := by
  obtain ⟨R, hR⟩ : ∃ R, bitsIn st 0 l s = R := ⟨_, rfl⟩
  rw [hR]
  have hbw : 0 < l.length → bl < w.heap.size := fun h0 => World.block_lt_of_cell? w ⟨bl, 0, none⟩ (hcell 0 h0)
  obtain ⟨n, hn⟩ : ∃ n, l.length = n := ⟨_, rfl⟩
  have HH := Lib.hid h
  have HR := Lib.hid hR
  have HCELL := Lib.hid hcell
  have HL1 := Lib.hid hl1
  have HN := Lib.hid hn
  have HBL := Lib.hid (And.intro hbl hbw)
  have hn3 : n ≤ 3 := by omega
  have hc' := hc
  have HCN := Lib.hid hc'
  have hsti : (st : Int) < 12 := by omega
  rw [hn]
  clear h hR hcell hl1 hl hbl hbw hc hc' hn
  go_enter Try.func40, Try.ntmps40
  go_wp2
  go_loopw [8] (fun iv wr => ∃ (i : Nat) (s' : CP Enc), iv = .int .i64 i ∧ i ≤ n ∧ bitsIn st i (l.drop i) s' = R ∧ MAt O wr k g b3 b6 A c bs shift pos st rep s' ∧ s'.d.cnt + (3 - i) < 1000000 ∧ Frm (Wr O k) w wr) (fun iv _ => n - (intOf iv).toNat)
  case atStart => exact ⟨0, s, rfl, by omega, HR.out, HH.out, HCN.out, Frm.refl _ _⟩
  case round =>
    obtain ⟨i, s', rfl, hi, hgo, hm, hcn, hf⟩ := hrel
    have HGO := Lib.hid hgo
    have HM := Lib.hid hm
    have HC := Lib.hid hcn
    have HF := Lib.hid hf
    obtain ⟨d0, d1, d2, -, -, d5, -⟩ := hm.cells
    clear hgo hm hcn hf HH
    by_cases hlt : i < n
    · have hil : i < l.length := by have := HN.out; omega
      have hcx : wr.cell? ⟨bl, i, none⟩ = some (.int .i64 (l.getD i 0 : Int)) := by
        rw [World.cell?_of_block (HF.out.block bl (HBL.out.2 (by omega)) HBL.out.1)]
        exact HCELL.out i hil
      obtain ⟨x, hx⟩ : ∃ x, l.getD i 0 = x := ⟨_, rfl⟩
      have hx1 : x ≤ 1 := by rw [← hx]; exact HL1.out i hil
      have hdrop : l.drop i = x :: l.drop (i + 1) := by
        rw [List.drop_eq_getElem_cons hil, ← hx, List.getD_eq_getElem?_getD, List.getElem?_eq_getElem hil]
        rfl
      rw [hx] at hcx
      obtain ⟨s2, hs2⟩ : ∃ s2, (bitAt inC (212 + i * 12 + st) x s').2 = s2 := ⟨_, rfl⟩
      have hgo2 : bitsIn st (i + 1) (l.drop (i + 1)) s2 = R := by
        have h := HGO.out
        rw [hdrop] at h
        unfold bitsIn at h
        rw [hs2] at h
        exact h
      have hc2 : s2.d.cnt ≤ s'.d.cnt + 1 := by rw [← hs2]; exact cnt_bitIn1 _ _ _
      have HG2 := Lib.hid hgo2
      have HS2 := Lib.hid hs2
      have HC2 := Lib.hid hc2
      have P0 := Lib.hid (plm k (i := 212 + i * 12 + st) (by omega) (by omega))
      have HD := Lib.hid (HM.out.drew)
      have hi3 : (i : Int) < 3 := by omega
      clear hx hdrop hs2 hgo2 hc2 hil HGO
      go_wp2
      go_still_tail 15, (by kernel_rfl)
      change wpList _ _ _ _ _ wr.drew
      go_wp2_with fail
      refine (ibit_lz HD.out.m.lz (by have := HC.out; omega) (212 + i * 12 + st) k.sb (212 + i * 12 + st) x x rfl hx1 P0.out.1 P0.out.2).mono ?_; rintro e w2 ⟨rfl, h2, f2⟩
      rw [HS2.out] at h2
      have H2 := Lib.hid (HD.out.lzStep h2 f2)
      have F2 := Lib.hid ((HF.out.drew).trans f2)
      clear h2 f2 d0 d1 d2 d5 hcx hx1 hsti hi3
      go_wp2
      exact ⟨⟨i + 1, s2, by go_num, by omega, HG2.out, H2.out, by have := HC.out; have := HC2.out; omega, F2.out⟩, by simp [intOf]; omega⟩
    · obtain rfl : i = n := by omega
      have HE : Hid (s' = R) := Lib.hid (by have := HGO.out; rw [← HN.out, List.drop_length] at this; exact this)
      clear d0 d1 d2 d5
      go_wp2
      go_end0
      exact ⟨rfl, HE.out ▸ HM.out, HF.out⟩
end Go.Proofs.Ytefbjamepbkklaa

/- A match that is written: its boxes, Take at 0, the bits of a literal list. -/
namespace Go.Proofs.Ytefbjamepbkklaa
open Go.RowKit Rng Lz Win
set_option linter.unusedVariables false
set_option linter.unusedSimpArgs false
theorem two_boxes {O : Nat → Prop} {w : World} {k : LK} {g : WB} {A : Option Addr} {c : Nat} {bs : List UInt8} {shift : Int} {pos st : Nat} {rep : Nat → Nat} {s : CP Enc} (h : WrAt O w k g A c bs shift pos st rep s) :
    MAt (fun q => O q ∧ ¬ (q = w.heap.size ∨ q = w.heap.size + 1)) ((w.alloc (.cells #[.pointer (some ⟨g.xb, 0, none⟩)] 83)).alloc (.cells #[.pointer (some ⟨k.sb, 0, none⟩)] 84)) k g w.heap.size (w.heap.size + 1) A c bs shift pos st rep s ∧
      Frm (fun _ => False) w ((w.alloc (.cells #[.pointer (some ⟨g.xb, 0, none⟩)] 83)).alloc (.cells #[.pointer (some ⟨k.sb, 0, none⟩)] 84)) := by
  obtain ⟨p0, p1, _, hs⟩ := two_new w (.pointer (some ⟨g.xb, 0, none⟩)) (.pointer (some ⟨k.sb, 0, none⟩)) 83 84
  have hf : Frm (fun _ => False) w ((w.alloc (.cells #[.pointer (some ⟨g.xb, 0, none⟩)] 83)).alloc (.cells #[.pointer (some ⟨k.sb, 0, none⟩)] 84)) := ((Frm.refl _ w).alloc _).alloc _
  exact ⟨⟨h.narrow hf (fun q => q = w.heap.size ∨ q = w.heap.size + 1) (fun q hq => by rcases hq with e | e <;> omega), p0, p1, fun e => e.2 (.inl rfl), fun e => e.2 (.inr rfl)⟩, hf⟩
theorem LzAt.rep_cell {σ : Type} {CA : World → σ → Prop} {own : Nat → Prop} {T : TypeId} {w : World} {k : LK} {st : Nat} {rep : Nat → Nat} {s : CP σ} (h : LzAt CA own T w k st rep s) {j : Nat} (hj : j < 4) : w.cell? ⟨k.sb, 4 + j, none⟩ = some (.int .u32 (rep j : Int)) := by
  rw [(h.hdr (i := 4 + j) (by omega)).1]
  unfold mcell
  rw [if_neg (by omega), if_neg (by omega), if_neg (by omega), if_neg (by omega), if_pos (by omega), Nat.add_sub_cancel_left]
theorem index_num (w : World) (b c0 : Nat) (rep : Nat → Nat) (d : Nat) (z : Int) (hz : idxV (idxOf rep d) = z) (hcell : ∀ j, j < 4 → w.cell? ⟨b, 4 + j, none⟩ = some (.int .u32 (rep j : Int))) (hd : d < 4294967296) :
    Calls Try.prog 39 #[.slice (some ⟨b, 4, none⟩) 4 c0, .int .u32 d] w fun e w' => e = .returned (.int .i64 z) ∧ w = w' := by
  subst hz
  exact index_p w b c0 rep d hcell hd
theorem takeS_zero (rep : Nat → Nat) : takeS rep 0 = rep := by
  funext j
  unfold takeS shiftN
  by_cases h : j = 0
  · rw [if_pos h, h]
  · rw [if_neg h, if_neg (by omega)]
theorem shiftN_zero (rep : Nat → Nat) : shiftN rep 0 = rep := by
  funext j
  unfold shiftN
  rw [if_neg (by omega)]
set_option maxRecDepth 100000 in
set_option maxHeartbeats 1000000 in
theorem take_zero {σ : Type} {CA : World → σ → Prop} {own : Nat → Prop} (hk : KeepOK CA own) (T : TypeId) (k : LK) (st : Nat) (rep : Nat → Nat) (s : CP σ) (w : World) (h : LzAt CA own T w k st rep s) :
    Calls Try.prog 43 #[.pointer (some ⟨k.sb, 0, none⟩), .int .i64 0] w fun e w' => e = .returned (.tuple #[]) ∧ LzAt CA own T w' k st (takeS rep 0) s ∧ Frm (Wr own k) w w' := by
  have cn : w.cell? ⟨k.sb, 4, none⟩ = some (.int .u32 (rep 0)) := h.rep_cell (j := 0) (by omega)
  have AT := Lib.hid h
  obtain ⟨d, hd⟩ : ∃ d, rep 0 = d := ⟨_, rfl⟩
  rw [hd] at cn
  have HD := Lib.hid hd
  clear h hd
  go_enter Try.func43, Try.ntmps43
  go_wp2
  refine QTail.wp_region_qtail_lit 11 (by kernel_rfl) (by kernel_rfl) ?_
  simp only [List.take_succ_cons, List.take_zero, List.drop_succ_cons, List.drop_zero]
  repeat (go_big_quiet_step (fail))
  refine wpQuiet_nil ?_
  rintro w' ⟨nr, rfl⟩
  obtain ⟨w5, hrun, h5, f5⟩ := rep_copy hk (AT.out.later hk ((Frm.refl _ w).drewN nr)) 0 3 4 3 (by omega)
  have z := (h5.hdr (i := 4) (by omega))
  unfold mcell at z
  have z1 := z.1
  have z2 := z.2
  simp only [Nat.reduceEqDiff, if_false, Nat.reduceLT, if_true, Nat.reduceSub] at z1
  have h6 := h5.putRep 0 d (by omega) hk
  have e6 : (fun j => if j = 0 then d else shiftN rep 0 j) = takeS rep 0 := by
    funext j
    unfold takeS
    rw [HD.out]
  rw [e6] at h6
  have H6 := Lib.hid h6
  have F5 := Lib.hid (((Frm.refl _ w).drewN nr).trans f5)
  clear h5 f5 h6 z e6
  go_wp2
  go_end0
  exact ⟨rfl, H6.out.1, F5.out.trans H6.out.2⟩
theorem take_num {σ : Type} {CA : World → σ → Prop} {own : Nat → Prop} (hk : KeepOK CA own) (T : TypeId) (k : LK) (st n : Nat) (z : Int) (rep : Nat → Nat) (s : CP σ) (w : World) (hz : z = (n : Int)) (h : LzAt CA own T w k st rep s) (hn : n ≤ 3) :
    Calls Try.prog 43 #[.pointer (some ⟨k.sb, 0, none⟩), .int .i64 z] w fun e w' => e = .returned (.tuple #[]) ∧ LzAt CA own T w' k st (takeS rep n) s ∧ Frm (Wr own k) w w' := by
  subst hz
  by_cases h0 : n = 0
  · subst h0
    exact take_zero hk T k st rep s w h
  · exact take_any hk T k st n rep s w h (by omega)
theorem cnt_bits (st : Nat) : ∀ (i : Nat) (l : List Nat) (s : CP Enc), l.length ≤ 3 → (bitsIn st i l s).d.cnt ≤ s.d.cnt + 3
  | i, [], s, _ => by unfold bitsIn; omega
  | i, [a], s, _ => by unfold bitsIn bitsIn; have := cnt_bitIn1 (212 + i * 12 + st) a s; omega
  | i, [a, b], s, _ => by
    unfold bitsIn bitsIn bitsIn
    have h1 := cnt_bitIn1 (212 + i * 12 + st) a s
    have h2 := cnt_bitIn1 (212 + (i + 1) * 12 + st) b (bitAt inC (212 + i * 12 + st) a s).2
    omega
  | i, [a, b, c], s, _ => by
    unfold bitsIn bitsIn bitsIn bitsIn
    have h1 := cnt_bitIn1 (212 + i * 12 + st) a s
    have h2 := cnt_bitIn1 (212 + (i + 1) * 12 + st) b (bitAt inC (212 + i * 12 + st) a s).2
    have h3 := cnt_bitIn1 (212 + (i + 1 + 1) * 12 + st) c (bitAt inC (212 + (i + 1) * 12 + st) b (bitAt inC (212 + i * 12 + st) a s).2).2
    omega
  | i, _ :: _ :: _ :: _ :: _, s, h => absurd h (by simp)
def litCells (l : List Nat) : Array Value := (l.map fun x : Nat => Value.int .i64 (x : Int)).toArray
theorem litCells_get (l : List Nat) {j : Nat} (h : j < l.length) : (litCells l)[j]? = some (.int .i64 (l.getD j 0 : Int)) := by
  unfold litCells
  rw [List.getElem?_toArray, List.getElem?_map, List.getElem?_eq_getElem h, List.getD_eq_getElem?_getD, List.getElem?_eq_getElem h]
  rfl
/-- The bits of a list that stands in the text. -/
theorem bits_lit (O : Nat → Prop) (w : World) (k : LK) (g : WB) (b3 b6 : Nat) (A : Option Addr) (c : Nat) (bs : List UInt8) (shift : Int) (pos st : Nat) (rep : Nat → Nat) (s : CP Enc) (h : MAt O w k g b3 b6 A c bs shift pos st rep s) (hst : st < 12)
    (l : List Nat) (hl : l.length ≤ 3) (hl1 : ∀ x ∈ l, x ≤ 1) (hc : s.d.cnt + 3 < 1000000) :
    Calls Try.prog 40 #[.slice (some ⟨w.heap.size, 0, none⟩) l.length l.length, .pointer (some ⟨b3, 0, none⟩), .pointer (some ⟨b6, 0, none⟩)] (w.alloc (.cells (litCells l) 3)) fun e w' => e = .returned (.tuple #[]) ∧ MAt O w' k g b3 b6 A c bs shift pos st rep (bitsIn st 0 l s) ∧ Frm (Wr O k) w w' := by
  have hf : Frm (fun _ => False) w (w.alloc (.cells (litCells l) 3)) := (Frm.refl _ w).alloc _
  have hsz : (w.alloc (.cells (litCells l) 3)).heap.size = w.heap.size + 1 := by show (w.heap.push _).size = _; rw [Array.size_push]
  have h1 := h.narrow hf (fun q => q = w.heap.size) (fun q e => by omega)
  have hp := Pts.new w (litCells l) 3
  refine (bits_p (fun q => O q ∧ ¬ q = w.heap.size) (w.alloc (.cells (litCells l) 3)) k g b3 b6 A c bs shift pos st rep s h1 hst w.heap.size l.length l hl (fun j hj => by
    rw [List.getD_eq_getElem?_getD, List.getElem?_eq_getElem hj]
    exact hl1 _ (List.getElem_mem hj)) (fun j hj => by rw [hp.cell, litCells_get l hj]) (by
    rintro (e | e | e)
    · exact e.2 rfl
    · have := h.m.lz.m.lt; omega
    · have := h.m.lz.l.lt; omega) hc).mono ?_
  rintro e w' ⟨rfl, h2, f2⟩
  refine ⟨rfl, h2.widen h (fun q hq => hq.1) (by have := f2.size; omega), (hf.mono fun _ _ e => e.elim).trans (f2.mono fun q _ e => ?_)⟩
  rcases e with e | e
  · exact .inl e.1
  · exact .inr e
end Go.Proofs.Ytefbjamepbkklaa

/- A match that is written: its distance is none of the last four: the walk (gen_lpm.py). -/
namespace Go.Proofs.Ytefbjamepbkklaa
open Go.RowKit Rng Lz Win
set_option linter.unusedVariables false
set_option linter.unusedSimpArgs false
set_option maxRecDepth 100000 in
set_option maxHeartbeats 4000000 in
theorem putmatch_fresh (O : Nat → Prop) (w : World) (k : LK) (g : WB) (A : Option Addr) (c : Nat) (bs : List UInt8) (shift : Int) (pos tot st : Nat) (rep : Nat → Nat) (s : CP Enc) (h : WrAt O w k g A c bs shift pos st rep s) (hk : k.Ok) (htot : (pos : Int) + shift = (tot : Int)) (ht : tot < 4611686018427387904)
    (size back d : Nat) (h2 : 2 ≤ size) (hs : size ≤ 273) (hbd : back = d + 1) (hd : d < 4294967296) (hpos : pos + size ≤ 140737488355328) (hst : st < 12) (hrep : ∀ j, rep j < 4294967296) (hc : s.d.cnt + 100 < 1000000) (hj : idxOf rep d = 4) :
    Calls Try.prog 26 #[.pointer (some ⟨g.xb, 0, none⟩), .int .i64 size, .int .i64 back] w fun e w' => e = .returned (.tuple #[]) ∧ WrAt O w' k g A c bs shift (pos + size) (putMatch k tot size d st rep s).1 (putMatch k tot size d st rep s).2.1 (putMatch k tot size d st rep s).2.2 ∧ Frm (WZ k O g) w w' := by
  obtain ⟨p, hp⟩ : ∃ p, tot % 2 ^ k.pb = p := ⟨_, rfl⟩
  have hp16 : p < 16 := by
    have h1 : 2 ^ k.pb ≤ 2 ^ 4 := Nat.pow_le_pow_right (by omega) hk.b
    have h2 : tot % 2 ^ k.pb < 2 ^ k.pb := Nat.mod_lt _ (Nat.lt_of_lt_of_le (by omega) (Nat.one_le_two_pow))
    omega
  obtain ⟨s1, hs1⟩ : ∃ s1, (bitAt inC (8 + st * 16 + p) 1 s).2 = s1 := ⟨_, rfl⟩
  have hc1 : s1.d.cnt ≤ s.d.cnt + 1 := by rw [← hs1]; exact cnt_bitIn1 _ _ _
  obtain ⟨s2, hs2⟩ : ∃ s2, (bitAt inC (200 + st) 0 s1).2 = s2 := ⟨_, rfl⟩
  have hc2 : s2.d.cnt ≤ s1.d.cnt + 1 := by rw [← hs2]; exact cnt_bitIn1 _ _ _
  obtain ⟨s3, hs3⟩ : ∃ s3, (lenAt inC 840 size p s2).2 = s3 := ⟨_, rfl⟩
  have hc3 : s3.d.cnt ≤ s2.d.cnt + 10 := by rw [← hs3]; exact cnt_len _ _ _ _
  obtain ⟨s4, hs4⟩ : ∃ s4, (distAt inC d size s3).2 = s4 := ⟨_, rfl⟩
  obtain ⟨rep4, hrep4⟩ : ∃ r : Nat → Nat, (fun i => if i = 0 then d else shiftN rep 3 i) = r := ⟨_, rfl⟩
  have hput : putMatch k tot size d st rep s = (behS st 1, rep4, s4) := by unfold putMatch; simp only; rw [hp, hs1, hs2, hs3, hs4, hrep4, if_pos hj]
  have HS2 := Lib.hid hs2
  have HS3 := Lib.hid hs3
  have HS4 := Lib.hid hs4
  have HR4 := Lib.hid hrep4
  have HPUT := Lib.hid hput
  have HH := Lib.hid h
  have HB := Lib.hid (two_boxes h)
  have hXO := h.x
  have e0 : (w.alloc (.cells #[.pointer (some ⟨g.xb, 0, none⟩)] 83)).cell? ⟨g.xb, 0, none⟩ = some (.pointer (some ⟨k.sb, 0, none⟩)) := (h.alloc _).cells.1
  have HPL := Lib.hid (fun (w1 : World) (O1 : Nat → Prop) (h1 : LzAt (IC g.eb O1) O1 67 w1 k st rep s) => place_any 67 k st tot rep s w1 h1 hk ht)
  rw [hp] at HPL
  have P0 := Lib.hid (plm k (i := 8 + st * 16 + p) (by omega) (by omega))
  have P1 := Lib.hid (plm k (i := 200 + st) (by omega) (by omega))
  have HS1 := Lib.hid hs1
  have HREP := Lib.hid hrep
  have HK := Lib.hid hk
  have hsti : (st : Int) < 12 := by omega
  have hpi : (p : Int) < 16 := by omega
  have htw : IntKind.i64.wrap (tot : Int) = (tot : Int) := Go.IntWalk.i64_in _ (by omega)
  have hbk : (back : Int) - 1 = (d : Int) := by omega
  have hdw : IntKind.i64.wrap (d : Int) = (d : Int) := Go.IntWalk.i64_in _ (by omega)
  have hdu : IntKind.u32.wrap (d : Int) = (d : Int) := Go.IntWalk.u32_in _ (by omega)
  obtain ⟨pe, hpe⟩ : ∃ pe, pos + size = pe := ⟨_, rfl⟩
  have hpei : (pos : Int) + (size : Int) = (pe : Int) := by omega
  have hpew : IntKind.i64.wrap (pe : Int) = (pe : Int) := Go.IntWalk.i64_in _ (by omega)
  have hzi : idxV (idxOf rep d) = -1 := by rw [hj]; rfl
  have HZ := Lib.hid hzi
  have HDB := Lib.hid hd
  rw [hput, hpe]
  clear h hk ht hrep hp hbd hd hpos hpe hj hzi hput hs1 hs2 hs3 hs4 hrep4
  have HC := Lib.hid (And.intro hc (And.intro hc1 (And.intro hc2 hc3)))
  clear hc hc1 hc2 hc3
  go_enter Try.func26, Try.ntmps26
  go_upto_region 2 with fail
  obtain ⟨w2, hw2⟩ : ∃ w2, (w.alloc (.cells #[.pointer (some ⟨g.xb, 0, none⟩)] 83)).alloc (.cells #[.pointer (some ⟨k.sb, 0, none⟩)] 84) = w2 := ⟨_, rfl⟩
  obtain ⟨b6, hb6⟩ : ∃ b, w.heap.size + 1 = b := ⟨_, rfl⟩
  obtain ⟨b3, hb3⟩ : ∃ b, w.heap.size = b := ⟨_, rfl⟩
  obtain ⟨O2, hO2⟩ : ∃ O2 : Nat → Prop, (fun q => O q ∧ ¬ (q = b3 ∨ q = b6)) = O2 := ⟨_, rfl⟩
  have hB := HB.out
  have HO2 : Hid (∀ q, O2 q → O q) := Lib.hid (fun q hq => by rw [← hO2] at hq; exact hq.1)
  rw [hw2, hb6, hb3, hO2] at hB
  rw [hw2, hb6, hb3]
  have H2 := Lib.hid hB.1
  have F20 := Lib.hid hB.2
  have F2 : Hid (Frm (Wr O2 k) w2 w2) := Lib.hid (Frm.refl _ _)
  clear hB HB e0 hw2 hb6 hb3 hO2
  obtain ⟨c3, c6, x1, x3, x4, y3, x0⟩ := H2.out.cells
  have HD := Lib.hid H2.out.drew
  have FD : Hid (Frm (Wr O2 k) w2 w2.drew) := Lib.hid (F2.out.drew)
  go_still_tail 10, (by kernel_rfl)
  change wpList _ _ _ _ _ w2.drew
  go_wp2_with fail
  refine (HPL.out _ _ HD.out.m.lz).mono ?_; rintro e w3 ⟨rfl, rfl⟩
  have H3 := Lib.hid HD.out
  have F3 := Lib.hid FD.out
  obtain ⟨w3, hw3⟩ : ∃ w3, w2.drew = w3 := ⟨_, rfl⟩
  rw [hw3] at H3 F3 ⊢
  clear HD FD H2 F2 hw3 htot htw HPL
  clear c3 c6 x1 x3 x4 y3 x0
  obtain ⟨c3, c6, x1, x3, x4, y3, x0⟩ := H3.out.cells
  go_upto_region 3 with fail
  have HD := Lib.hid H3.out.drew
  have FD : Hid (Frm (Wr O2 k) w2 w3.drew) := Lib.hid (F3.out.drew)
  go_still_tail 14, (by kernel_rfl)
  change wpList _ _ _ _ _ w3.drew
  go_wp2_with fail
  refine (ibit_lz HD.out.m.lz (by have := HC.out; omega) (8 + st * 16 + p) k.sb (8 + st * 16 + p) 1 _ rfl (by omega) P0.out.1 P0.out.2).mono ?_; rintro e w4 ⟨rfl, h0, f0⟩
  rw [HS1.out] at h0
  have H4 := Lib.hid (HD.out.lzStep h0 f0)
  have F4 := Lib.hid (FD.out.trans f0)
  clear h0 f0 HD FD H3 F3
  clear c3 c6 x1 x3 x4 y3 x0
  obtain ⟨c3, c6, x1, x3, x4, y3, x0⟩ := H4.out.cells
  go_wp2_with fail
  refine (index_num w4 k.sb 4 rep d _ HZ.out (fun j hj => (H4.out.m.lz.rep_cell hj)) HDB.out).mono ?_; rintro e w5 ⟨rfl, hw5⟩
  subst hw5
  go_upto_region 10 with fail
  have HD := Lib.hid H4.out.drew
  have FD : Hid (Frm (Wr O2 k) w2 w4.drew) := Lib.hid (F4.out.drew)
  go_still_tail 12, (by kernel_rfl)
  change wpList _ _ _ _ _ w4.drew
  go_wp2_with fail
  refine (ibit_lz HD.out.m.lz (by have := HC.out; omega) (200 + st) k.sb (200 + st) 0 _ rfl (by omega) P1.out.1 P1.out.2).mono ?_; rintro e w5 ⟨rfl, h0, f0⟩
  rw [HS2.out] at h0
  have H5 := Lib.hid (HD.out.lzStep h0 f0)
  have F5 := Lib.hid (FD.out.trans f0)
  clear h0 f0 HD FD H4 F4
  clear c3 c6 x1 x3 x4 y3 x0
  obtain ⟨c3, c6, x1, x3, x4, y3, x0⟩ := H5.out.cells
  go_upto_region 11 with fail
  refine QTail.wp_region_qtail_lit 8 (by kernel_rfl) (by kernel_rfl) ?_
  simp only [List.take_succ_cons, List.take_zero, List.drop_succ_cons, List.drop_zero]
  repeat (go_big_quiet_step (fail))
  refine wpQuiet_nil ?_
  rintro w' ⟨nr, rfl⟩
  have HD := Lib.hid (H5.out.drewN nr)
  have FD : Hid (Frm (Wr O2 k) w2 (w5.drewN nr)) := Lib.hid (F5.out.drewN nr)
  obtain ⟨w6, hrun, h6, f6⟩ := rep_copy (IC.keep g.eb O2) HD.out.m.lz 3 3 4 3 (by omega)
  have H6 := Lib.hid (HD.out.lzStep h6 f6)
  have F6 := Lib.hid (FD.out.trans f6)
  clear h6 f6 HD FD H5 F5
  clear c3 c6 x1 x3 x4 y3 x0
  obtain ⟨c3, c6, x1, x3, x4, y3, x0⟩ := H6.out.cells
  have y4 := (H6.out.m.lz.hdr (i := 4) (by omega)).2
  have v4 : w6.cell? ⟨k.sb, 4, none⟩ = some (.int .u32 (shiftN rep 3 0 : Int)) := H6.out.m.lz.rep_cell (j := 0) (by omega)
  have h7 := H6.out.m.lz.putRep 0 d (by omega) (IC.keep g.eb O2)
  rw [HR4.out] at h7
  have H7 := Lib.hid (H6.out.lzStep h7.1 h7.2)
  have F7 := Lib.hid (F6.out.trans h7.2)
  clear h7
  go_upto_region 13 with fail
  clear hrun y4 v4
  generalize w6.setCell ⟨k.sb, 4, none⟩ (.int .u32 (d : Int)) = w7 at *
  clear H6 F6
  clear c3 c6 x1 x3 x4 y3 x0
  obtain ⟨c3, c6, x1, x3, x4, y3, x0⟩ := H7.out.cells
  have HD := Lib.hid H7.out.drew
  have FD : Hid (Frm (Wr O2 k) w2 w7.drew) := Lib.hid (F7.out.drew)
  go_still_tail 10, (by kernel_rfl)
  change wpList _ _ _ _ _ w7.drew
  go_wp2_with fail
  refine (lens_in g.eb O2 67 k _ _ _ 840 size p _ HD.out.m.lz (.inl rfl) hp16 h2 hs (by have := HC.out; omega)).mono ?_; rintro e w8 ⟨rfl, h0, f0⟩
  rw [HS3.out] at h0
  have H8 := Lib.hid (HD.out.lzStep h0 f0)
  have F8 := Lib.hid (FD.out.trans f0)
  clear h0 f0 HD FD H7 F7
  clear c3 c6 x1 x3 x4 y3 x0
  obtain ⟨c3, c6, x1, x3, x4, y3, x0⟩ := H8.out.cells
  go_wp2_with fail
  have HD := H8
  have FD := F8
  refine (behind_any (IC.keep g.eb O2) 67 k st 1 _ _ _ HD.out.m.lz hst (by omega)).mono ?_; rintro e w9 ⟨rfl, h0, f0⟩
  have H9 := Lib.hid (HD.out.lzStep h0 f0)
  have F9 := Lib.hid (FD.out.trans f0)
  clear h0 f0 HD FD H8 F8
  clear c3 c6 x1 x3 x4 y3 x0
  obtain ⟨c3, c6, x1, x3, x4, y3, x0⟩ := H9.out.cells
  go_upto_region 15 with fail
  have HD := Lib.hid H9.out.drew
  have FD : Hid (Frm (Wr O2 k) w2 w9.drew) := Lib.hid (F9.out.drew)
  go_still_tail 10, (by kernel_rfl)
  change wpList _ _ _ _ _ w9.drew
  go_wp2_with fail
  refine (dist_in g.eb O2 67 k (behS st 1) rep4 s3 d size _ HD.out.m.lz h2 (by omega) HDB.out (by have := HC.out; omega)).mono ?_; rintro e w10 ⟨rfl, h0, f0⟩
  rw [HS4.out] at h0
  have H10 := Lib.hid (HD.out.lzStep h0 f0)
  have F10 := Lib.hid (FD.out.trans f0)
  clear h0 f0 HD FD H9 F9
  clear c3 c6 x1 x3 x4 y3 x0
  obtain ⟨c3, c6, x1, x3, x4, y3, x0⟩ := H10.out.cells
  have z3 := H10.out.m.p.frozen 3
  have HMV := Lib.hid (H10.out.m.move pe)
  go_wp2
  refine bodyPost_ret (results_none rfl _ _ _) rfl ?_
  refine ⟨rfl, ?_, ?_⟩
  · exact HMV.out.1.widen HH.out HO2.out (Nat.le_trans F20.out.size (Nat.le_trans F10.out.size HMV.out.2.size))
  · refine (F20.out.mono fun q _ e => e.elim).trans ((F10.out.mono fun q _ e => ?_).trans (HMV.out.2.mono fun q _ e => ?_))
    · rcases e with e | e
      · exact .inl (.inl (HO2.out q e))
      · exact .inl (.inr e)
    · rcases e with (e | e) | e
      · exact .inl (.inl (HO2.out q e))
      · exact .inl (.inr e)
      · exact .inr e
end Go.Proofs.Ytefbjamepbkklaa

/- A match that is written: its distance is the last one: the walk (gen_lpm.py). -/
namespace Go.Proofs.Ytefbjamepbkklaa
open Go.RowKit Rng Lz Win
set_option linter.unusedVariables false
set_option linter.unusedSimpArgs false
set_option maxRecDepth 100000 in
set_option maxHeartbeats 4000000 in
theorem putmatch_zero (O : Nat → Prop) (w : World) (k : LK) (g : WB) (A : Option Addr) (c : Nat) (bs : List UInt8) (shift : Int) (pos tot st : Nat) (rep : Nat → Nat) (s : CP Enc) (h : WrAt O w k g A c bs shift pos st rep s) (hk : k.Ok) (htot : (pos : Int) + shift = (tot : Int)) (ht : tot < 4611686018427387904)
    (size back d : Nat) (h2 : 2 ≤ size) (hs : size ≤ 273) (hbd : back = d + 1) (hd : d < 4294967296) (hpos : pos + size ≤ 140737488355328) (hst : st < 12) (hrep : ∀ j, rep j < 4294967296) (hc : s.d.cnt + 100 < 1000000) (hj : idxOf rep d = 0) :
    Calls Try.prog 26 #[.pointer (some ⟨g.xb, 0, none⟩), .int .i64 size, .int .i64 back] w fun e w' => e = .returned (.tuple #[]) ∧ WrAt O w' k g A c bs shift (pos + size) (putMatch k tot size d st rep s).1 (putMatch k tot size d st rep s).2.1 (putMatch k tot size d st rep s).2.2 ∧ Frm (WZ k O g) w w' := by
  obtain ⟨p, hp⟩ : ∃ p, tot % 2 ^ k.pb = p := ⟨_, rfl⟩
  have hp16 : p < 16 := by
    have h1 : 2 ^ k.pb ≤ 2 ^ 4 := Nat.pow_le_pow_right (by omega) hk.b
    have h2 : tot % 2 ^ k.pb < 2 ^ k.pb := Nat.mod_lt _ (Nat.lt_of_lt_of_le (by omega) (Nat.one_le_two_pow))
    omega
  obtain ⟨s1, hs1⟩ : ∃ s1, (bitAt inC (8 + st * 16 + p) 1 s).2 = s1 := ⟨_, rfl⟩
  have hc1 : s1.d.cnt ≤ s.d.cnt + 1 := by rw [← hs1]; exact cnt_bitIn1 _ _ _
  obtain ⟨s2, hs2⟩ : ∃ s2, (bitAt inC (200 + st) 1 s1).2 = s2 := ⟨_, rfl⟩
  have hc2 : s2.d.cnt ≤ s1.d.cnt + 1 := by rw [← hs2]; exact cnt_bitIn1 _ _ _
  obtain ⟨s3, hs3⟩ : ∃ s3, bitsIn st 0 [0] s2 = s3 := ⟨_, rfl⟩
  have hc3 : s3.d.cnt ≤ s2.d.cnt + 3 := by rw [← hs3]; exact cnt_bits _ _ _ _ (by simp)
  obtain ⟨s4, hs4⟩ : ∃ s4, (bitAt inC (248 + st * 16 + p) 1 s3).2 = s4 := ⟨_, rfl⟩
  have hc4 : s4.d.cnt ≤ s3.d.cnt + 1 := by rw [← hs4]; exact cnt_bitIn1 _ _ _
  obtain ⟨s5, hs5⟩ : ∃ s5, (lenAt inC 1354 size p s4).2 = s5 := ⟨_, rfl⟩
  have hput : putMatch k tot size d st rep s = (behS st 2, takeS rep 0, s5) := by
    unfold putMatch putRep; simp only; rw [hp, hs1, hj, if_neg (by omega), hs2, if_pos rfl, if_pos rfl, if_pos rfl, takeS_zero]
    have e : (bitAt inC (212 + st) 0 s2).2 = s3 := by rw [← hs3]; unfold bitsIn bitsIn; rw [show 212 + 0 * 12 + st = 212 + st by omega]
    rw [e, hs4, hs5]
  have HS2 := Lib.hid hs2
  have HS3 := Lib.hid hs3
  have HS4 := Lib.hid hs4
  have HS5 := Lib.hid hs5
  have HPUT := Lib.hid hput
  have HH := Lib.hid h
  have HB := Lib.hid (two_boxes h)
  have hXO := h.x
  have e0 : (w.alloc (.cells #[.pointer (some ⟨g.xb, 0, none⟩)] 83)).cell? ⟨g.xb, 0, none⟩ = some (.pointer (some ⟨k.sb, 0, none⟩)) := (h.alloc _).cells.1
  have HPL := Lib.hid (fun (w1 : World) (O1 : Nat → Prop) (h1 : LzAt (IC g.eb O1) O1 67 w1 k st rep s) => place_any 67 k st tot rep s w1 h1 hk ht)
  rw [hp] at HPL
  have P0 := Lib.hid (plm k (i := 8 + st * 16 + p) (by omega) (by omega))
  have P1 := Lib.hid (plm k (i := 200 + st) (by omega) (by omega))
  have P2 := Lib.hid (plm k (i := 248 + st * 16 + p) (by omega) (by omega))
  have HS1 := Lib.hid hs1
  have HREP := Lib.hid hrep
  have HK := Lib.hid hk
  have hsti : (st : Int) < 12 := by omega
  have hpi : (p : Int) < 16 := by omega
  have htw : IntKind.i64.wrap (tot : Int) = (tot : Int) := Go.IntWalk.i64_in _ (by omega)
  have hbk : (back : Int) - 1 = (d : Int) := by omega
  have hdw : IntKind.i64.wrap (d : Int) = (d : Int) := Go.IntWalk.i64_in _ (by omega)
  have hdu : IntKind.u32.wrap (d : Int) = (d : Int) := Go.IntWalk.u32_in _ (by omega)
  obtain ⟨pe, hpe⟩ : ∃ pe, pos + size = pe := ⟨_, rfl⟩
  have hpei : (pos : Int) + (size : Int) = (pe : Int) := by omega
  have hpew : IntKind.i64.wrap (pe : Int) = (pe : Int) := Go.IntWalk.i64_in _ (by omega)
  have hzi : idxV (idxOf rep d) = 0 := by rw [hj]; rfl
  have HZ := Lib.hid hzi
  have HDB := Lib.hid hd
  rw [hput, hpe]
  clear h hk ht hrep hp hbd hd hpos hpe hj hzi hput hs1 hs2 hs3 hs4 hs5
  have HC := Lib.hid (And.intro hc (And.intro hc1 (And.intro hc2 (And.intro hc3 hc4))))
  clear hc hc1 hc2 hc3 hc4
  go_enter Try.func26, Try.ntmps26
  go_upto_region 2 with fail
  obtain ⟨w2, hw2⟩ : ∃ w2, (w.alloc (.cells #[.pointer (some ⟨g.xb, 0, none⟩)] 83)).alloc (.cells #[.pointer (some ⟨k.sb, 0, none⟩)] 84) = w2 := ⟨_, rfl⟩
  obtain ⟨b6, hb6⟩ : ∃ b, w.heap.size + 1 = b := ⟨_, rfl⟩
  obtain ⟨b3, hb3⟩ : ∃ b, w.heap.size = b := ⟨_, rfl⟩
  obtain ⟨O2, hO2⟩ : ∃ O2 : Nat → Prop, (fun q => O q ∧ ¬ (q = b3 ∨ q = b6)) = O2 := ⟨_, rfl⟩
  have hB := HB.out
  have HO2 : Hid (∀ q, O2 q → O q) := Lib.hid (fun q hq => by rw [← hO2] at hq; exact hq.1)
  rw [hw2, hb6, hb3, hO2] at hB
  rw [hw2, hb6, hb3]
  have H2 := Lib.hid hB.1
  have F20 := Lib.hid hB.2
  have F2 : Hid (Frm (Wr O2 k) w2 w2) := Lib.hid (Frm.refl _ _)
  clear hB HB e0 hw2 hb6 hb3 hO2
  obtain ⟨c3, c6, x1, x3, x4, y3, x0⟩ := H2.out.cells
  have HD := Lib.hid H2.out.drew
  have FD : Hid (Frm (Wr O2 k) w2 w2.drew) := Lib.hid (F2.out.drew)
  go_still_tail 10, (by kernel_rfl)
  change wpList _ _ _ _ _ w2.drew
  go_wp2_with fail
  refine (HPL.out _ _ HD.out.m.lz).mono ?_; rintro e w3 ⟨rfl, rfl⟩
  have H3 := Lib.hid HD.out
  have F3 := Lib.hid FD.out
  obtain ⟨w3, hw3⟩ : ∃ w3, w2.drew = w3 := ⟨_, rfl⟩
  rw [hw3] at H3 F3 ⊢
  clear HD FD H2 F2 hw3 htot htw HPL
  clear c3 c6 x1 x3 x4 y3 x0
  obtain ⟨c3, c6, x1, x3, x4, y3, x0⟩ := H3.out.cells
  go_upto_region 3 with fail
  have HD := Lib.hid H3.out.drew
  have FD : Hid (Frm (Wr O2 k) w2 w3.drew) := Lib.hid (F3.out.drew)
  go_still_tail 14, (by kernel_rfl)
  change wpList _ _ _ _ _ w3.drew
  go_wp2_with fail
  refine (ibit_lz HD.out.m.lz (by have := HC.out; omega) (8 + st * 16 + p) k.sb (8 + st * 16 + p) 1 _ rfl (by omega) P0.out.1 P0.out.2).mono ?_; rintro e w4 ⟨rfl, h0, f0⟩
  rw [HS1.out] at h0
  have H4 := Lib.hid (HD.out.lzStep h0 f0)
  have F4 := Lib.hid (FD.out.trans f0)
  clear h0 f0 HD FD H3 F3
  clear c3 c6 x1 x3 x4 y3 x0
  obtain ⟨c3, c6, x1, x3, x4, y3, x0⟩ := H4.out.cells
  go_wp2_with fail
  refine (index_num w4 k.sb 4 rep d _ HZ.out (fun j hj => (H4.out.m.lz.rep_cell hj)) HDB.out).mono ?_; rintro e w5 ⟨rfl, hw5⟩
  subst hw5
  go_upto_region 18 with fail
  have HD := Lib.hid H4.out.drew
  have FD : Hid (Frm (Wr O2 k) w2 w4.drew) := Lib.hid (F4.out.drew)
  go_still_tail 12, (by kernel_rfl)
  change wpList _ _ _ _ _ w4.drew
  go_wp2_with fail
  refine (ibit_lz HD.out.m.lz (by have := HC.out; omega) (200 + st) k.sb (200 + st) 1 _ rfl (by omega) P1.out.1 P1.out.2).mono ?_; rintro e w5 ⟨rfl, h0, f0⟩
  rw [HS2.out] at h0
  have H5 := Lib.hid (HD.out.lzStep h0 f0)
  have F5 := Lib.hid (FD.out.trans f0)
  clear h0 f0 HD FD H4 F4
  clear c3 c6 x1 x3 x4 y3 x0
  obtain ⟨c3, c6, x1, x3, x4, y3, x0⟩ := H5.out.cells
  go_wp2_with fail
  refine (bits_lit O2 w5 k g b3 b6 A c bs shift pos st rep s2 H5.out hst [0] (by simp) (by simp) (by have := HC.out; omega)).mono ?_; rintro e w6 ⟨rfl, h0, f0⟩
  rw [HS3.out] at h0
  have H6 := Lib.hid h0
  have F6 := Lib.hid (F5.out.trans f0)
  clear h0 f0 H5 F5
  clear c3 c6 x1 x3 x4 y3 x0
  obtain ⟨c3, c6, x1, x3, x4, y3, x0⟩ := H6.out.cells
  go_upto_region 20 with fail
  have HD := Lib.hid H6.out.drew
  have FD : Hid (Frm (Wr O2 k) w2 w6.drew) := Lib.hid (F6.out.drew)
  go_still_tail 14, (by kernel_rfl)
  change wpList _ _ _ _ _ w6.drew
  go_wp2_with fail
  refine (ibit_lz HD.out.m.lz (by have := HC.out; omega) (248 + st * 16 + p) k.sb (248 + st * 16 + p) 1 _ rfl (by omega) P2.out.1 P2.out.2).mono ?_; rintro e w7 ⟨rfl, h0, f0⟩
  rw [HS4.out] at h0
  have H7 := Lib.hid (HD.out.lzStep h0 f0)
  have F7 := Lib.hid (FD.out.trans f0)
  clear h0 f0 HD FD H6 F6
  clear c3 c6 x1 x3 x4 y3 x0
  obtain ⟨c3, c6, x1, x3, x4, y3, x0⟩ := H7.out.cells
  go_wp2_with fail
  have HD := H7
  have FD := F7
  refine (take_num (IC.keep g.eb O2) 67 k st 0 _ rep _ _ (by first | rfl | omega) HD.out.m.lz (by first | omega | (have := HJ.out; omega))).mono ?_; rintro e w8 ⟨rfl, h0, f0⟩
  have H8 := Lib.hid (HD.out.lzStep h0 f0)
  have F8 := Lib.hid (FD.out.trans f0)
  clear h0 f0 HD FD H7 F7
  clear c3 c6 x1 x3 x4 y3 x0
  obtain ⟨c3, c6, x1, x3, x4, y3, x0⟩ := H8.out.cells
  go_upto_region 25 with fail
  have HD := Lib.hid H8.out.drew
  have FD : Hid (Frm (Wr O2 k) w2 w8.drew) := Lib.hid (F8.out.drew)
  go_still_tail 10, (by kernel_rfl)
  change wpList _ _ _ _ _ w8.drew
  go_wp2_with fail
  refine (lens_in g.eb O2 67 k _ _ _ 1354 size p _ HD.out.m.lz (.inr rfl) hp16 h2 hs (by have := HC.out; omega)).mono ?_; rintro e w9 ⟨rfl, h0, f0⟩
  rw [HS5.out] at h0
  have H9 := Lib.hid (HD.out.lzStep h0 f0)
  have F9 := Lib.hid (FD.out.trans f0)
  clear h0 f0 HD FD H8 F8
  clear c3 c6 x1 x3 x4 y3 x0
  obtain ⟨c3, c6, x1, x3, x4, y3, x0⟩ := H9.out.cells
  go_wp2_with fail
  have HD := H9
  have FD := F9
  refine (behind_any (IC.keep g.eb O2) 67 k st 2 _ _ _ HD.out.m.lz hst (by omega)).mono ?_; rintro e w10 ⟨rfl, h0, f0⟩
  have H10 := Lib.hid (HD.out.lzStep h0 f0)
  have F10 := Lib.hid (FD.out.trans f0)
  clear h0 f0 HD FD H9 F9
  clear c3 c6 x1 x3 x4 y3 x0
  obtain ⟨c3, c6, x1, x3, x4, y3, x0⟩ := H10.out.cells
  have z3 := H10.out.m.p.frozen 3
  have HMV := Lib.hid (H10.out.m.move pe)
  go_wp2
  go_end0
  refine ⟨rfl, ?_, ?_⟩
  · exact HMV.out.1.widen HH.out HO2.out (Nat.le_trans F20.out.size (Nat.le_trans F10.out.size HMV.out.2.size))
  · refine (F20.out.mono fun q _ e => e.elim).trans ((F10.out.mono fun q _ e => ?_).trans (HMV.out.2.mono fun q _ e => ?_))
    · rcases e with e | e
      · exact .inl (.inl (HO2.out q e))
      · exact .inl (.inr e)
    · rcases e with (e | e) | e
      · exact .inl (.inl (HO2.out q e))
      · exact .inl (.inr e)
      · exact .inr e
end Go.Proofs.Ytefbjamepbkklaa

/- A match that is written: its distance is the last but one: the walk (gen_lpm.py). -/
namespace Go.Proofs.Ytefbjamepbkklaa
open Go.RowKit Rng Lz Win
set_option linter.unusedVariables false
set_option linter.unusedSimpArgs false
set_option maxRecDepth 100000 in
set_option maxHeartbeats 4000000 in
theorem putmatch_one (O : Nat → Prop) (w : World) (k : LK) (g : WB) (A : Option Addr) (c : Nat) (bs : List UInt8) (shift : Int) (pos tot st : Nat) (rep : Nat → Nat) (s : CP Enc) (h : WrAt O w k g A c bs shift pos st rep s) (hk : k.Ok) (htot : (pos : Int) + shift = (tot : Int)) (ht : tot < 4611686018427387904)
    (size back d : Nat) (h2 : 2 ≤ size) (hs : size ≤ 273) (hbd : back = d + 1) (hd : d < 4294967296) (hpos : pos + size ≤ 140737488355328) (hst : st < 12) (hrep : ∀ j, rep j < 4294967296) (hc : s.d.cnt + 100 < 1000000) (hj : idxOf rep d = 1) :
    Calls Try.prog 26 #[.pointer (some ⟨g.xb, 0, none⟩), .int .i64 size, .int .i64 back] w fun e w' => e = .returned (.tuple #[]) ∧ WrAt O w' k g A c bs shift (pos + size) (putMatch k tot size d st rep s).1 (putMatch k tot size d st rep s).2.1 (putMatch k tot size d st rep s).2.2 ∧ Frm (WZ k O g) w w' := by
  obtain ⟨p, hp⟩ : ∃ p, tot % 2 ^ k.pb = p := ⟨_, rfl⟩
  have hp16 : p < 16 := by
    have h1 : 2 ^ k.pb ≤ 2 ^ 4 := Nat.pow_le_pow_right (by omega) hk.b
    have h2 : tot % 2 ^ k.pb < 2 ^ k.pb := Nat.mod_lt _ (Nat.lt_of_lt_of_le (by omega) (Nat.one_le_two_pow))
    omega
  obtain ⟨s1, hs1⟩ : ∃ s1, (bitAt inC (8 + st * 16 + p) 1 s).2 = s1 := ⟨_, rfl⟩
  have hc1 : s1.d.cnt ≤ s.d.cnt + 1 := by rw [← hs1]; exact cnt_bitIn1 _ _ _
  obtain ⟨s2, hs2⟩ : ∃ s2, (bitAt inC (200 + st) 1 s1).2 = s2 := ⟨_, rfl⟩
  have hc2 : s2.d.cnt ≤ s1.d.cnt + 1 := by rw [← hs2]; exact cnt_bitIn1 _ _ _
  obtain ⟨s4, hs4⟩ : ∃ s4, bitsIn st 0 [1, 0] s2 = s4 := ⟨_, rfl⟩
  have hc4 : s4.d.cnt ≤ s2.d.cnt + 3 := by rw [← hs4]; exact cnt_bits _ _ _ _ (by simp)
  obtain ⟨s5, hs5⟩ : ∃ s5, (lenAt inC 1354 size p s4).2 = s5 := ⟨_, rfl⟩
  have hput : putMatch k tot size d st rep s = (behS st 2, takeS rep 1, s5) := by
    unfold putMatch putRep; simp only; rw [hp, hs1, hj, if_neg (by omega), hs2]; simp only [if_neg (show ¬ (1 : Nat) = 0 by omega), if_pos]
    have e : (bitAt inC (224 + st) 0 (bitAt inC (212 + st) 1 s2).2).2 = s4 := by rw [← hs4]; unfold bitsIn bitsIn bitsIn; rw [show 212 + 0 * 12 + st = 212 + st by omega, show 212 + (0 + 1) * 12 + st = 224 + st by omega]
    rw [e, hs5]
  have HS2 := Lib.hid hs2
  have HS4 := Lib.hid hs4
  have HS5 := Lib.hid hs5
  have HPUT := Lib.hid hput
  have HH := Lib.hid h
  have HB := Lib.hid (two_boxes h)
  have hXO := h.x
  have e0 : (w.alloc (.cells #[.pointer (some ⟨g.xb, 0, none⟩)] 83)).cell? ⟨g.xb, 0, none⟩ = some (.pointer (some ⟨k.sb, 0, none⟩)) := (h.alloc _).cells.1
  have HPL := Lib.hid (fun (w1 : World) (O1 : Nat → Prop) (h1 : LzAt (IC g.eb O1) O1 67 w1 k st rep s) => place_any 67 k st tot rep s w1 h1 hk ht)
  rw [hp] at HPL
  have P0 := Lib.hid (plm k (i := 8 + st * 16 + p) (by omega) (by omega))
  have P1 := Lib.hid (plm k (i := 200 + st) (by omega) (by omega))
  have HS1 := Lib.hid hs1
  have HREP := Lib.hid hrep
  have HK := Lib.hid hk
  have hsti : (st : Int) < 12 := by omega
  have hpi : (p : Int) < 16 := by omega
  have htw : IntKind.i64.wrap (tot : Int) = (tot : Int) := Go.IntWalk.i64_in _ (by omega)
  have hbk : (back : Int) - 1 = (d : Int) := by omega
  have hdw : IntKind.i64.wrap (d : Int) = (d : Int) := Go.IntWalk.i64_in _ (by omega)
  have hdu : IntKind.u32.wrap (d : Int) = (d : Int) := Go.IntWalk.u32_in _ (by omega)
  obtain ⟨pe, hpe⟩ : ∃ pe, pos + size = pe := ⟨_, rfl⟩
  have hpei : (pos : Int) + (size : Int) = (pe : Int) := by omega
  have hpew : IntKind.i64.wrap (pe : Int) = (pe : Int) := Go.IntWalk.i64_in _ (by omega)
  have hzi : idxV (idxOf rep d) = 1 := by rw [hj]; rfl
  have HZ := Lib.hid hzi
  have HDB := Lib.hid hd
  rw [hput, hpe]
  clear h hk ht hrep hp hbd hd hpos hpe hj hzi hput hs1 hs2 hs4 hs5
  have HC := Lib.hid (And.intro hc (And.intro hc1 (And.intro hc2 hc4)))
  clear hc hc1 hc2 hc4
  go_enter Try.func26, Try.ntmps26
  go_upto_region 2 with fail
  obtain ⟨w2, hw2⟩ : ∃ w2, (w.alloc (.cells #[.pointer (some ⟨g.xb, 0, none⟩)] 83)).alloc (.cells #[.pointer (some ⟨k.sb, 0, none⟩)] 84) = w2 := ⟨_, rfl⟩
  obtain ⟨b6, hb6⟩ : ∃ b, w.heap.size + 1 = b := ⟨_, rfl⟩
  obtain ⟨b3, hb3⟩ : ∃ b, w.heap.size = b := ⟨_, rfl⟩
  obtain ⟨O2, hO2⟩ : ∃ O2 : Nat → Prop, (fun q => O q ∧ ¬ (q = b3 ∨ q = b6)) = O2 := ⟨_, rfl⟩
  have hB := HB.out
  have HO2 : Hid (∀ q, O2 q → O q) := Lib.hid (fun q hq => by rw [← hO2] at hq; exact hq.1)
  rw [hw2, hb6, hb3, hO2] at hB
  rw [hw2, hb6, hb3]
  have H2 := Lib.hid hB.1
  have F20 := Lib.hid hB.2
  have F2 : Hid (Frm (Wr O2 k) w2 w2) := Lib.hid (Frm.refl _ _)
  clear hB HB e0 hw2 hb6 hb3 hO2
  obtain ⟨c3, c6, x1, x3, x4, y3, x0⟩ := H2.out.cells
  have HD := Lib.hid H2.out.drew
  have FD : Hid (Frm (Wr O2 k) w2 w2.drew) := Lib.hid (F2.out.drew)
  go_still_tail 10, (by kernel_rfl)
  change wpList _ _ _ _ _ w2.drew
  go_wp2_with fail
  refine (HPL.out _ _ HD.out.m.lz).mono ?_; rintro e w3 ⟨rfl, rfl⟩
  have H3 := Lib.hid HD.out
  have F3 := Lib.hid FD.out
  obtain ⟨w3, hw3⟩ : ∃ w3, w2.drew = w3 := ⟨_, rfl⟩
  rw [hw3] at H3 F3 ⊢
  clear HD FD H2 F2 hw3 htot htw HPL
  clear c3 c6 x1 x3 x4 y3 x0
  obtain ⟨c3, c6, x1, x3, x4, y3, x0⟩ := H3.out.cells
  go_upto_region 3 with fail
  have HD := Lib.hid H3.out.drew
  have FD : Hid (Frm (Wr O2 k) w2 w3.drew) := Lib.hid (F3.out.drew)
  go_still_tail 14, (by kernel_rfl)
  change wpList _ _ _ _ _ w3.drew
  go_wp2_with fail
  refine (ibit_lz HD.out.m.lz (by have := HC.out; omega) (8 + st * 16 + p) k.sb (8 + st * 16 + p) 1 _ rfl (by omega) P0.out.1 P0.out.2).mono ?_; rintro e w4 ⟨rfl, h0, f0⟩
  rw [HS1.out] at h0
  have H4 := Lib.hid (HD.out.lzStep h0 f0)
  have F4 := Lib.hid (FD.out.trans f0)
  clear h0 f0 HD FD H3 F3
  clear c3 c6 x1 x3 x4 y3 x0
  obtain ⟨c3, c6, x1, x3, x4, y3, x0⟩ := H4.out.cells
  go_wp2_with fail
  refine (index_num w4 k.sb 4 rep d _ HZ.out (fun j hj => (H4.out.m.lz.rep_cell hj)) HDB.out).mono ?_; rintro e w5 ⟨rfl, hw5⟩
  subst hw5
  go_upto_region 22 with fail
  have HD := Lib.hid H4.out.drew
  have FD : Hid (Frm (Wr O2 k) w2 w4.drew) := Lib.hid (F4.out.drew)
  go_still_tail 12, (by kernel_rfl)
  change wpList _ _ _ _ _ w4.drew
  go_wp2_with fail
  refine (ibit_lz HD.out.m.lz (by have := HC.out; omega) (200 + st) k.sb (200 + st) 1 _ rfl (by omega) P1.out.1 P1.out.2).mono ?_; rintro e w5 ⟨rfl, h0, f0⟩
  rw [HS2.out] at h0
  have H5 := Lib.hid (HD.out.lzStep h0 f0)
  have F5 := Lib.hid (FD.out.trans f0)
  clear h0 f0 HD FD H4 F4
  clear c3 c6 x1 x3 x4 y3 x0
  obtain ⟨c3, c6, x1, x3, x4, y3, x0⟩ := H5.out.cells
  go_wp2_with fail
  refine (bits_lit O2 w5 k g b3 b6 A c bs shift pos st rep s2 H5.out hst [1, 0] (by simp) (by simp) (by have := HC.out; omega)).mono ?_; rintro e w6 ⟨rfl, h0, f0⟩
  rw [HS4.out] at h0
  have H6 := Lib.hid h0
  have F6 := Lib.hid (F5.out.trans f0)
  clear h0 f0 H5 F5
  clear c3 c6 x1 x3 x4 y3 x0
  obtain ⟨c3, c6, x1, x3, x4, y3, x0⟩ := H6.out.cells
  go_wp2_with fail
  have HD := H6
  have FD := F6
  refine (take_num (IC.keep g.eb O2) 67 k st 1 _ rep _ _ (by first | rfl | omega) HD.out.m.lz (by first | omega | (have := HJ.out; omega))).mono ?_; rintro e w7 ⟨rfl, h0, f0⟩
  have H7 := Lib.hid (HD.out.lzStep h0 f0)
  have F7 := Lib.hid (FD.out.trans f0)
  clear h0 f0 HD FD H6 F6
  clear c3 c6 x1 x3 x4 y3 x0
  obtain ⟨c3, c6, x1, x3, x4, y3, x0⟩ := H7.out.cells
  go_upto_region 25 with fail
  have HD := Lib.hid H7.out.drew
  have FD : Hid (Frm (Wr O2 k) w2 w7.drew) := Lib.hid (F7.out.drew)
  go_still_tail 10, (by kernel_rfl)
  change wpList _ _ _ _ _ w7.drew
  go_wp2_with fail
  refine (lens_in g.eb O2 67 k _ _ _ 1354 size p _ HD.out.m.lz (.inr rfl) hp16 h2 hs (by have := HC.out; omega)).mono ?_; rintro e w8 ⟨rfl, h0, f0⟩
  rw [HS5.out] at h0
  have H8 := Lib.hid (HD.out.lzStep h0 f0)
  have F8 := Lib.hid (FD.out.trans f0)
  clear h0 f0 HD FD H7 F7
  clear c3 c6 x1 x3 x4 y3 x0
  obtain ⟨c3, c6, x1, x3, x4, y3, x0⟩ := H8.out.cells
  go_wp2_with fail
  have HD := H8
  have FD := F8
  refine (behind_any (IC.keep g.eb O2) 67 k st 2 _ _ _ HD.out.m.lz hst (by omega)).mono ?_; rintro e w9 ⟨rfl, h0, f0⟩
  have H9 := Lib.hid (HD.out.lzStep h0 f0)
  have F9 := Lib.hid (FD.out.trans f0)
  clear h0 f0 HD FD H8 F8
  clear c3 c6 x1 x3 x4 y3 x0
  obtain ⟨c3, c6, x1, x3, x4, y3, x0⟩ := H9.out.cells
  have z3 := H9.out.m.p.frozen 3
  have HMV := Lib.hid (H9.out.m.move pe)
  go_wp2
  go_end0
  refine ⟨rfl, ?_, ?_⟩
  · exact HMV.out.1.widen HH.out HO2.out (Nat.le_trans F20.out.size (Nat.le_trans F9.out.size HMV.out.2.size))
  · refine (F20.out.mono fun q _ e => e.elim).trans ((F9.out.mono fun q _ e => ?_).trans (HMV.out.2.mono fun q _ e => ?_))
    · rcases e with e | e
      · exact .inl (.inl (HO2.out q e))
      · exact .inl (.inr e)
    · rcases e with (e | e) | e
      · exact .inl (.inl (HO2.out q e))
      · exact .inl (.inr e)
      · exact .inr e
end Go.Proofs.Ytefbjamepbkklaa

/- A match that is written: its distance is the third or fourth last: the walk (gen_lpm.py). -/
namespace Go.Proofs.Ytefbjamepbkklaa
open Go.RowKit Rng Lz Win
set_option linter.unusedVariables false
set_option linter.unusedSimpArgs false
set_option maxRecDepth 100000 in
set_option maxHeartbeats 4000000 in
theorem putmatch_two (O : Nat → Prop) (w : World) (k : LK) (g : WB) (A : Option Addr) (c : Nat) (bs : List UInt8) (shift : Int) (pos tot st : Nat) (rep : Nat → Nat) (s : CP Enc) (h : WrAt O w k g A c bs shift pos st rep s) (hk : k.Ok) (htot : (pos : Int) + shift = (tot : Int)) (ht : tot < 4611686018427387904)
    (size back d : Nat) (h2 : 2 ≤ size) (hs : size ≤ 273) (hbd : back = d + 1) (hd : d < 4294967296) (hpos : pos + size ≤ 140737488355328) (hst : st < 12) (hrep : ∀ j, rep j < 4294967296) (hc : s.d.cnt + 100 < 1000000) (J : Nat) (hJ : J = 2 ∨ J = 3) (hj : idxOf rep d = J) :
    Calls Try.prog 26 #[.pointer (some ⟨g.xb, 0, none⟩), .int .i64 size, .int .i64 back] w fun e w' => e = .returned (.tuple #[]) ∧ WrAt O w' k g A c bs shift (pos + size) (putMatch k tot size d st rep s).1 (putMatch k tot size d st rep s).2.1 (putMatch k tot size d st rep s).2.2 ∧ Frm (WZ k O g) w w' := by
  obtain ⟨p, hp⟩ : ∃ p, tot % 2 ^ k.pb = p := ⟨_, rfl⟩
  have hp16 : p < 16 := by
    have h1 : 2 ^ k.pb ≤ 2 ^ 4 := Nat.pow_le_pow_right (by omega) hk.b
    have h2 : tot % 2 ^ k.pb < 2 ^ k.pb := Nat.mod_lt _ (Nat.lt_of_lt_of_le (by omega) (Nat.one_le_two_pow))
    omega
  obtain ⟨s1, hs1⟩ : ∃ s1, (bitAt inC (8 + st * 16 + p) 1 s).2 = s1 := ⟨_, rfl⟩
  have hc1 : s1.d.cnt ≤ s.d.cnt + 1 := by rw [← hs1]; exact cnt_bitIn1 _ _ _
  obtain ⟨s2, hs2⟩ : ∃ s2, (bitAt inC (200 + st) 1 s1).2 = s2 := ⟨_, rfl⟩
  have hc2 : s2.d.cnt ≤ s1.d.cnt + 1 := by rw [← hs2]; exact cnt_bitIn1 _ _ _
  obtain ⟨s4, hs4⟩ : ∃ s4, bitsIn st 0 [1, 1, J - 2] s2 = s4 := ⟨_, rfl⟩
  have hc4 : s4.d.cnt ≤ s2.d.cnt + 3 := by rw [← hs4]; exact cnt_bits _ _ _ _ (by simp)
  obtain ⟨s5, hs5⟩ : ∃ s5, (lenAt inC 1354 size p s4).2 = s5 := ⟨_, rfl⟩
  have hput : putMatch k tot size d st rep s = (behS st 2, takeS rep J, s5) := by
    unfold putMatch putRep; simp only; rw [hp, hs1, hj, if_neg (by omega), hs2]; simp only [if_neg (show ¬ J = 0 by omega), if_neg (show ¬ J = 1 by omega)]
    have e : (bitAt inC (236 + st) (J - 2) (bitAt inC (224 + st) 1 (bitAt inC (212 + st) 1 s2).2).2).2 = s4 := by rw [← hs4]; unfold bitsIn bitsIn bitsIn bitsIn; rw [show 212 + 0 * 12 + st = 212 + st by omega, show 212 + (0 + 1) * 12 + st = 224 + st by omega, show 212 + (0 + 1 + 1) * 12 + st = 236 + st by omega]
    rw [e, hs5]
  have HS2 := Lib.hid hs2
  have HS4 := Lib.hid hs4
  have HS5 := Lib.hid hs5
  have HPUT := Lib.hid hput
  have HH := Lib.hid h
  have HB := Lib.hid (two_boxes h)
  have hXO := h.x
  have e0 : (w.alloc (.cells #[.pointer (some ⟨g.xb, 0, none⟩)] 83)).cell? ⟨g.xb, 0, none⟩ = some (.pointer (some ⟨k.sb, 0, none⟩)) := (h.alloc _).cells.1
  have HPL := Lib.hid (fun (w1 : World) (O1 : Nat → Prop) (h1 : LzAt (IC g.eb O1) O1 67 w1 k st rep s) => place_any 67 k st tot rep s w1 h1 hk ht)
  rw [hp] at HPL
  have P0 := Lib.hid (plm k (i := 8 + st * 16 + p) (by omega) (by omega))
  have P1 := Lib.hid (plm k (i := 200 + st) (by omega) (by omega))
  have HS1 := Lib.hid hs1
  have HREP := Lib.hid hrep
  have HK := Lib.hid hk
  have hsti : (st : Int) < 12 := by omega
  have hpi : (p : Int) < 16 := by omega
  have htw : IntKind.i64.wrap (tot : Int) = (tot : Int) := Go.IntWalk.i64_in _ (by omega)
  have hbk : (back : Int) - 1 = (d : Int) := by omega
  have hdw : IntKind.i64.wrap (d : Int) = (d : Int) := Go.IntWalk.i64_in _ (by omega)
  have hdu : IntKind.u32.wrap (d : Int) = (d : Int) := Go.IntWalk.u32_in _ (by omega)
  obtain ⟨pe, hpe⟩ : ∃ pe, pos + size = pe := ⟨_, rfl⟩
  have hpei : (pos : Int) + (size : Int) = (pe : Int) := by omega
  have hpew : IntKind.i64.wrap (pe : Int) = (pe : Int) := Go.IntWalk.i64_in _ (by omega)
  have hzi : idxV (idxOf rep d) = (J : Int) := by rw [hj]; unfold idxV; rw [if_neg (by omega)]
  have HZ := Lib.hid hzi
  have HDB := Lib.hid hd
  rw [hput, hpe]
  clear h hk ht hrep hp hbd hd hpos hpe hj hzi hput hs1 hs2 hs4 hs5
  have HC := Lib.hid (And.intro hc (And.intro hc1 (And.intro hc2 hc4)))
  clear hc hc1 hc2 hc4
  go_enter Try.func26, Try.ntmps26
  go_upto_region 2 with fail
  obtain ⟨w2, hw2⟩ : ∃ w2, (w.alloc (.cells #[.pointer (some ⟨g.xb, 0, none⟩)] 83)).alloc (.cells #[.pointer (some ⟨k.sb, 0, none⟩)] 84) = w2 := ⟨_, rfl⟩
  obtain ⟨b6, hb6⟩ : ∃ b, w.heap.size + 1 = b := ⟨_, rfl⟩
  obtain ⟨b3, hb3⟩ : ∃ b, w.heap.size = b := ⟨_, rfl⟩
  obtain ⟨O2, hO2⟩ : ∃ O2 : Nat → Prop, (fun q => O q ∧ ¬ (q = b3 ∨ q = b6)) = O2 := ⟨_, rfl⟩
  have hB := HB.out
  have HO2 : Hid (∀ q, O2 q → O q) := Lib.hid (fun q hq => by rw [← hO2] at hq; exact hq.1)
  rw [hw2, hb6, hb3, hO2] at hB
  rw [hw2, hb6, hb3]
  have H2 := Lib.hid hB.1
  have F20 := Lib.hid hB.2
  have F2 : Hid (Frm (Wr O2 k) w2 w2) := Lib.hid (Frm.refl _ _)
  clear hB HB e0 hw2 hb6 hb3 hO2
  obtain ⟨c3, c6, x1, x3, x4, y3, x0⟩ := H2.out.cells
  have HD := Lib.hid H2.out.drew
  have FD : Hid (Frm (Wr O2 k) w2 w2.drew) := Lib.hid (F2.out.drew)
  go_still_tail 10, (by kernel_rfl)
  change wpList _ _ _ _ _ w2.drew
  go_wp2_with fail
  refine (HPL.out _ _ HD.out.m.lz).mono ?_; rintro e w3 ⟨rfl, rfl⟩
  have H3 := Lib.hid HD.out
  have F3 := Lib.hid FD.out
  obtain ⟨w3, hw3⟩ : ∃ w3, w2.drew = w3 := ⟨_, rfl⟩
  rw [hw3] at H3 F3 ⊢
  clear HD FD H2 F2 hw3 htot htw HPL
  clear c3 c6 x1 x3 x4 y3 x0
  obtain ⟨c3, c6, x1, x3, x4, y3, x0⟩ := H3.out.cells
  go_upto_region 3 with fail
  have HD := Lib.hid H3.out.drew
  have FD : Hid (Frm (Wr O2 k) w2 w3.drew) := Lib.hid (F3.out.drew)
  go_still_tail 14, (by kernel_rfl)
  change wpList _ _ _ _ _ w3.drew
  go_wp2_with fail
  refine (ibit_lz HD.out.m.lz (by have := HC.out; omega) (8 + st * 16 + p) k.sb (8 + st * 16 + p) 1 _ rfl (by omega) P0.out.1 P0.out.2).mono ?_; rintro e w4 ⟨rfl, h0, f0⟩
  rw [HS1.out] at h0
  have H4 := Lib.hid (HD.out.lzStep h0 f0)
  have F4 := Lib.hid (FD.out.trans f0)
  clear h0 f0 HD FD H3 F3
  clear c3 c6 x1 x3 x4 y3 x0
  obtain ⟨c3, c6, x1, x3, x4, y3, x0⟩ := H4.out.cells
  go_wp2_with fail
  refine (index_num w4 k.sb 4 rep d _ HZ.out (fun j hj => (H4.out.m.lz.rep_cell hj)) HDB.out).mono ?_; rintro e w5 ⟨rfl, hw5⟩
  subst hw5
  have hJ2 : 2 ≤ J := by omega
  have hJ3 : J ≤ 3 := by omega
  have j0 : ((J : Int) == -1) = false := beq_eq_false_iff_ne.2 (by omega)
  have j1 : ((J : Int) == 0) = false := beq_eq_false_iff_ne.2 (by omega)
  have j2 : ((J : Int) == 1) = false := beq_eq_false_iff_ne.2 (by omega)
  obtain ⟨J2, hJ2e⟩ : ∃ J2, J - 2 = J2 := ⟨_, rfl⟩
  have hJi : (J : Int) - 2 = (J2 : Int) := by omega
  have hJw : IntKind.i64.wrap (J2 : Int) = (J2 : Int) := Go.IntWalk.i64_in _ (by omega)
  rw [hJ2e] at HS4
  have HJ := Lib.hid (And.intro hJ2e (And.intro hJ2 hJ3))
  clear hJ hJ2 hJ3 hJ2e
  go_upto_region 7 with fail
  have HD := Lib.hid H4.out.drew
  have FD : Hid (Frm (Wr O2 k) w2 w4.drew) := Lib.hid (F4.out.drew)
  go_still_tail 12, (by kernel_rfl)
  change wpList _ _ _ _ _ w4.drew
  go_wp2_with fail
  refine (ibit_lz HD.out.m.lz (by have := HC.out; omega) (200 + st) k.sb (200 + st) 1 _ rfl (by omega) P1.out.1 P1.out.2).mono ?_; rintro e w5 ⟨rfl, h0, f0⟩
  rw [HS2.out] at h0
  have H5 := Lib.hid (HD.out.lzStep h0 f0)
  have F5 := Lib.hid (FD.out.trans f0)
  clear h0 f0 HD FD H4 F4
  clear c3 c6 x1 x3 x4 y3 x0
  obtain ⟨c3, c6, x1, x3, x4, y3, x0⟩ := H5.out.cells
  go_wp2_with fail
  refine (bits_lit O2 w5 k g b3 b6 A c bs shift pos st rep s2 H5.out hst [1, 1, J2] (by simp) (by simp; have := HJ.out; omega) (by have := HC.out; omega)).mono ?_; rintro e w6 ⟨rfl, h0, f0⟩
  rw [HS4.out] at h0
  have H6 := Lib.hid h0
  have F6 := Lib.hid (F5.out.trans f0)
  clear h0 f0 H5 F5
  clear c3 c6 x1 x3 x4 y3 x0
  obtain ⟨c3, c6, x1, x3, x4, y3, x0⟩ := H6.out.cells
  go_wp2_with fail
  have HD := H6
  have FD := F6
  refine (take_num (IC.keep g.eb O2) 67 k st J _ rep _ _ (by first | rfl | omega) HD.out.m.lz (by first | omega | (have := HJ.out; omega))).mono ?_; rintro e w7 ⟨rfl, h0, f0⟩
  have H7 := Lib.hid (HD.out.lzStep h0 f0)
  have F7 := Lib.hid (FD.out.trans f0)
  clear h0 f0 HD FD H6 F6
  clear c3 c6 x1 x3 x4 y3 x0
  obtain ⟨c3, c6, x1, x3, x4, y3, x0⟩ := H7.out.cells
  go_upto_region 25 with fail
  have HD := Lib.hid H7.out.drew
  have FD : Hid (Frm (Wr O2 k) w2 w7.drew) := Lib.hid (F7.out.drew)
  go_still_tail 10, (by kernel_rfl)
  change wpList _ _ _ _ _ w7.drew
  go_wp2_with fail
  refine (lens_in g.eb O2 67 k _ _ _ 1354 size p _ HD.out.m.lz (.inr rfl) hp16 h2 hs (by have := HC.out; omega)).mono ?_; rintro e w8 ⟨rfl, h0, f0⟩
  rw [HS5.out] at h0
  have H8 := Lib.hid (HD.out.lzStep h0 f0)
  have F8 := Lib.hid (FD.out.trans f0)
  clear h0 f0 HD FD H7 F7
  clear c3 c6 x1 x3 x4 y3 x0
  obtain ⟨c3, c6, x1, x3, x4, y3, x0⟩ := H8.out.cells
  go_wp2_with fail
  have HD := H8
  have FD := F8
  refine (behind_any (IC.keep g.eb O2) 67 k st 2 _ _ _ HD.out.m.lz hst (by omega)).mono ?_; rintro e w9 ⟨rfl, h0, f0⟩
  have H9 := Lib.hid (HD.out.lzStep h0 f0)
  have F9 := Lib.hid (FD.out.trans f0)
  clear h0 f0 HD FD H8 F8
  clear c3 c6 x1 x3 x4 y3 x0
  obtain ⟨c3, c6, x1, x3, x4, y3, x0⟩ := H9.out.cells
  have z3 := H9.out.m.p.frozen 3
  have HMV := Lib.hid (H9.out.m.move pe)
  go_wp2
  go_end0
  refine ⟨rfl, ?_, ?_⟩
  · exact HMV.out.1.widen HH.out HO2.out (Nat.le_trans F20.out.size (Nat.le_trans F9.out.size HMV.out.2.size))
  · refine (F20.out.mono fun q _ e => e.elim).trans ((F9.out.mono fun q _ e => ?_).trans (HMV.out.2.mono fun q _ e => ?_))
    · rcases e with e | e
      · exact .inl (.inl (HO2.out q e))
      · exact .inl (.inr e)
    · rcases e with (e | e) | e
      · exact .inl (.inl (HO2.out q e))
      · exact .inl (.inr e)
      · exact .inr e
end Go.Proofs.Ytefbjamepbkklaa

/- Steps that are put in are read as the text that they make: plain. -/
namespace Go.Proofs.Ytefbjamepbkklaa
open Go.RowKit Rng Win Lz
set_option linter.unusedVariables false
set_option linter.unusedSimpArgs false
/-- What a writer knows: where it is, the state, the distances, coder and chances. -/
structure PS where
  pos : Nat
  st : Nat
  rep : Nat → Nat
  s : CP Enc
/-- An operation is put in: none: a byte; some (size, d): a match, d + 1 bytes back. -/
def wOp (k : LK) (bs : List UInt8) (fr total : Nat) (x : PS) : Option (Nat × Nat) → PS
  | none => ⟨x.pos + 1, behS x.st 0, x.rep, putLit k bs (total + (x.pos - fr)) x.pos x.st x.rep x.s⟩
  | some m => ⟨x.pos + m.1, (putMatch k (total + (x.pos - fr)) m.1 m.2 x.st x.rep x.s).1, (putMatch k (total + (x.pos - fr)) m.1 m.2 x.st x.rep x.s).2.1, (putMatch k (total + (x.pos - fr)) m.1 m.2 x.st x.rep x.s).2.2⟩
def wOps (k : LK) (bs : List UInt8) (fr total : Nat) (l : List (Option (Nat × Nat))) (x : PS) : PS := l.foldl (wOp k bs fr total) x
/-- Operations make the rest of a text. -/
def OkOps (bs : List UInt8) : Nat → List (Option (Nat × Nat)) → Prop
  | pos, [] => pos = bs.length
  | pos, none :: l => pos < bs.length ∧ OkOps bs (pos + 1) l
  | pos, some m :: l => 2 ≤ m.1 ∧ m.1 ≤ 273 ∧ pos + m.1 ≤ bs.length ∧ m.2 + 1 ≤ pos ∧ (∀ i, i < m.1 → bs.getD (pos + i) 0 = bs.getD (pos + i - (m.2 + 1)) 0) ∧ OkOps bs (pos + m.1) l
section
variable {β : Enc → Prop}
theorem stays_putRep (K : Stays inC β) (st p size j : Nat) {s : CP Enc} (h : β s.d) : β (putRep inC st p size j s).d := by
  unfold putRep
  simp only
  refine stays_lenAt K _ _ _ ?_
  split
  · exact stays_bitAt K _ _ (stays_bitAt K _ _ h)
  · split
    · exact stays_bitAt K _ _ (stays_bitAt K _ _ h)
    · exact stays_bitAt K _ _ (stays_bitAt K _ _ (stays_bitAt K _ _ h))
theorem stays_putMatch (K : Stays inC β) (k : LK) (tot size d st : Nat) (rep : Nat → Nat) {s : CP Enc} (h : β s.d) : β (putMatch k tot size d st rep s).2.2.d := by
  unfold putMatch
  simp only
  split
  · exact stays_distAt K _ _ (stays_lenAt K _ _ _ (stays_bitAt K _ _ (stays_bitAt K _ _ h)))
  · exact stays_putRep K _ _ _ _ (stays_bitAt K _ _ (stays_bitAt K _ _ h))
theorem stays_putLit (K : Stays inC β) (k : LK) (bs : List UInt8) (tot pos st : Nat) (rep : Nat → Nat) {s : CP Enc} (h : β s.d) : β (putLit k bs tot pos st rep s).d := stays_litAt K _ _ _ _ _ _ _ (stays_bitAt K _ _ h)
set_option maxRecDepth 100000 in
theorem stays_wOp (K : Stays inC β) (k : LK) (bs : List UInt8) (fr total : Nat) (o : Option (Nat × Nat)) {x : PS} (h : β x.s.d) : β (wOp k bs fr total x o).s.d := by
  cases o with
  | none => exact stays_putLit K _ _ _ _ _ _ h
  | some m => exact stays_putMatch K _ _ _ _ _ _ h
theorem stays_wOps (K : Stays inC β) (k : LK) (bs : List UInt8) (fr total : Nat) : ∀ (l : List (Option (Nat × Nat))) {x : PS}, β x.s.d → β (wOps k bs fr total l x).s.d
  | [], _, h => h
  | o :: l, x, h => stays_wOps K k bs fr total l (stays_wOp K k bs fr total o h)
end
/-- Backwards: what may still come tq9 the end. -/
theorem sub_bitAt {B : List UInt8} {F : Enc} (ht : Rng.Told B F) (i x : Nat) {s : CP Enc} (h : EncI s.d) (hg : Sub (bitAt inC i x s).2.d F) : Sub s.d F := (stays_bitAt (since_stays (ranges_back ht) s.d) i x (Since.refl h)).2 hg
theorem sub_lenAt {B : List UInt8} {F : Enc} (ht : Rng.Told B F) (b n p : Nat) {s : CP Enc} (h : EncI s.d) (hg : Sub (lenAt inC b n p s).2.d F) : Sub s.d F := (stays_lenAt (since_stays (ranges_back ht) s.d) b n p (Since.refl h)).2 hg
theorem sub_distAt {B : List UInt8} {F : Enc} (ht : Rng.Told B F) (d n : Nat) {s : CP Enc} (h : EncI s.d) (hg : Sub (distAt inC d n s).2.d F) : Sub s.d F := (stays_distAt (since_stays (ranges_back ht) s.d) d n (Since.refl h)).2 hg
theorem sub_litAt {B : List UInt8} {F : Enc} (ht : Rng.Told B F) (lc lp st total ahead far x : Nat) {s : CP Enc} (h : EncI s.d) (hg : Sub (litAt inC lc lp st total ahead far x s).2.d F) : Sub s.d F := (stays_litAt (since_stays (ranges_back ht) s.d) lc lp st total ahead far x (Since.refl h)).2 hg
theorem sub_wOps {B : List UInt8} {F : Enc} (ht : Rng.Told B F) (k : LK) (bs : List UInt8) (fr total : Nat) (l : List (Option (Nat × Nat))) {x : PS} (h : EncI x.s.d) (hg : Sub (wOps k bs fr total l x).s.d F) : Sub x.s.d F := (stays_wOps (since_stays (ranges_back ht) x.s.d) k bs fr total l (Since.refl h)).2 hg
/-- A repeat. -/
theorem rep_back {B : List UInt8} {F : Enc} (ht : Rng.Told B F) (st p size j : Nat) (rep : Nat → Nat) {s : CP Enc} {t : CP Dec} (hI : EncI s.d) (hp : Pair (RD B) s t) (hj : j < 4) (h2 : 2 ≤ size) (hs : size ≤ 273) (hg : Sub (putRep inC st p size j s).d F) :
    ∃ t', repOf outC st p rep t = (size, behS st 2, (if j = 0 then rep else takeS rep j), t') ∧ Pair (RD B) (putRep inC st p size j s) t' := by
  have K := ranges_back ht
  unfold putRep at hg ⊢
  simp only at hg ⊢
  unfold repOf
  simp only
  by_cases h0 : j = 0
  · subst h0
    rw [if_pos rfl, if_pos rfl] at hg ⊢
    have i1 := stays_bitAt K.inv (212 + st) 0 hI
    have i2 := stays_bitAt K.inv (248 + st * 16 + p) 1 i1
    have g2 := sub_lenAt ht _ _ _ i2 hg
    have g1 := sub_bitAt ht _ _ i1 g2
    obtain ⟨a1, a2⟩ := back_bitAt K (212 + st) 0 0 hI hp g1
    obtain ⟨b1, b2⟩ := back_bitAt K (248 + st * 16 + p) 1 0 i1 a2 g2
    obtain ⟨c1, c2⟩ := back_lenAt K 1354 size 2 p i2 b2 hg
    rw [bitIn_val _ _ _ (by omega)] at a1 b1
    rw [lenAt_in _ _ _ _ h2 hs] at c1
    rw [← a1, if_pos rfl, ← b1, if_neg (by omega), ← c1, if_pos rfl]
    exact ⟨_, rfl, c2⟩
  · rw [if_neg h0, if_neg h0] at hg ⊢
    have i1 := stays_bitAt K.inv (212 + st) 1 hI
    by_cases h1 : j = 1
    · subst h1
      rw [if_pos rfl, if_pos rfl] at hg ⊢
      have i2 := stays_bitAt K.inv (224 + st) 0 i1
      have g2 := sub_lenAt ht _ _ _ i2 hg
      have g1 := sub_bitAt ht _ _ i1 g2
      obtain ⟨a1, a2⟩ := back_bitAt K (212 + st) 1 0 hI hp g1
      obtain ⟨b1, b2⟩ := back_bitAt K (224 + st) 0 0 i1 a2 g2
      obtain ⟨c1, c2⟩ := back_lenAt K 1354 size 2 p i2 b2 hg
      rw [bitIn_val _ _ _ (by omega)] at a1 b1
      rw [lenAt_in _ _ _ _ h2 hs] at c1
      rw [← a1, if_neg (by omega), ← b1, if_neg (by omega), ← c1, if_neg (by omega)]
      exact ⟨_, rfl, c2⟩
    · rw [if_neg h1, if_neg h1] at hg ⊢
      have i2 := stays_bitAt K.inv (224 + st) 1 i1
      have i3 := stays_bitAt K.inv (236 + st) (j - 2) i2
      have g3 := sub_lenAt ht _ _ _ i3 hg
      have g2 := sub_bitAt ht _ _ i2 g3
      have g1 := sub_bitAt ht _ _ i1 g2
      obtain ⟨a1, a2⟩ := back_bitAt K (212 + st) 1 0 hI hp g1
      obtain ⟨b1, b2⟩ := back_bitAt K (224 + st) 1 0 i1 a2 g2
      obtain ⟨d1, d2⟩ := back_bitAt K (236 + st) (j - 2) 0 i2 b2 g3
      obtain ⟨c1, c2⟩ := back_lenAt K 1354 size 2 p i3 d2 hg
      rw [bitIn_val _ _ _ (by omega)] at a1 b1 d1
      rw [lenAt_in _ _ _ _ h2 hs] at c1
      rw [← a1, if_neg (by omega), ← b1, if_pos rfl, ← c1, ← d1, if_neg h0]
      refine ⟨_, ?_, c2⟩
      rw [show 2 + (j - 2) = j by omega]
/-- A match, behind its first bit. -/
theorem match_back {B : List UInt8} {F : Enc} (ht : Rng.Told B F) (k : LK) (tot size d st : Nat) (rep : Nat → Nat) {s : CP Enc} {t : CP Dec} (hI : EncI s.d) (hp : Pair (RD B) s t) (h2 : 2 ≤ size) (hs : size ≤ 273) (hd : d < 4294967296) (hg : Sub (putMatch k tot size d st rep s).2.2.d F) :
    ∃ t', (bitAt outC (8 + st * 16 + tot % 2 ^ k.pb) 0 t).1 = 1 ∧ opOf outC st (tot % 2 ^ k.pb) rep (bitAt outC (8 + st * 16 + tot % 2 ^ k.pb) 0 t).2 = (size, (putMatch k tot size d st rep s).1, (putMatch k tot size d st rep s).2.1, t') ∧ (putMatch k tot size d st rep s).2.1 0 = d ∧ Pair (RD B) (putMatch k tot size d st rep s).2.2 t' := by
  have K := ranges_back ht
  obtain ⟨j, hj⟩ : ∃ j, idxOf rep d = j := ⟨_, rfl⟩
  have hm : putMatch k tot size d st rep s = putMatch k tot size d st rep s := rfl
  unfold putMatch at hg ⊢
  simp only at hg ⊢
  rw [hj] at hg ⊢
  have i1 := stays_bitAt K.inv (8 + st * 16 + tot % 2 ^ k.pb) 1 hI
  by_cases h4 : j = 4
  · subst h4
    rw [if_pos rfl] at hg ⊢
    have i2 := stays_bitAt K.inv (200 + st) 0 i1
    have i3 := stays_lenAt K.inv 840 size (tot % 2 ^ k.pb) i2
    have g3 := sub_distAt ht _ _ i3 hg
    have g2 := sub_lenAt ht _ _ _ i2 g3
    have g1 := sub_bitAt ht _ _ i1 g2
    obtain ⟨a1, a2⟩ := back_bitAt K (8 + st * 16 + tot % 2 ^ k.pb) 1 0 hI hp g1
    obtain ⟨b1, b2⟩ := back_bitAt K (200 + st) 0 0 i1 a2 g2
    obtain ⟨c1, c2⟩ := back_lenAt K 840 size 2 (tot % 2 ^ k.pb) i2 b2 g3
    obtain ⟨e1, e2⟩ := back_distAt K d 0 size i3 c2 (by rw [treeAt_in _ _ _ _ (slot_lt hd)]; exact slot_lt hd) hg
    rw [bitIn_val _ _ _ (by omega)] at a1 b1
    rw [lenAt_in _ _ _ _ h2 hs] at c1
    rw [distAt_in _ _ _ hd] at e1
    unfold opOf
    simp only
    rw [← a1, ← b1, if_neg (by omega), ← c1, ← e1]
    exact ⟨_, rfl, rfl, rfl, e2⟩
  · rw [if_neg h4] at hg ⊢
    have hj4 : j < 4 := by have := idxOf_le rep d; omega
    have i2 := stays_bitAt K.inv (200 + st) 1 i1
    have hr : rep j = d := by rw [← hj]; exact idxOf_rep (by omega)
    have g2 : Sub (bitAt inC (200 + st) 1 (bitAt inC (8 + st * 16 + tot % 2 ^ k.pb) 1 s).2).2.d F := (stays_putRep (since_stays K _) _ _ _ _ (Since.refl i2)).2 hg
    have g1 := sub_bitAt ht _ _ i1 g2
    obtain ⟨a1, a2⟩ := back_bitAt K (8 + st * 16 + tot % 2 ^ k.pb) 1 0 hI hp g1
    obtain ⟨b1, b2⟩ := back_bitAt K (200 + st) 1 0 i1 a2 g2
    obtain ⟨t', c1, c2⟩ := rep_back ht st (tot % 2 ^ k.pb) size j rep i2 b2 hj4 h2 hs hg
    rw [bitIn_val _ _ _ (by omega)] at a1 b1
    refine ⟨t', a1.symm, ?_, ?_, c2⟩
    · unfold opOf
      simp only
      rw [← b1, if_pos rfl, c1]
    · show (if j = 0 then rep else takeS rep j) 0 = d
      by_cases h0 : j = 0
      · rw [if_pos h0, ← hr, h0]
      · rw [if_neg h0]
        unfold takeS
        rw [if_pos rfl, hr]
theorem atB_take (bs : List UInt8) {pos back : Nat} (h1 : 1 ≤ back) (hp : pos ≤ bs.length) : atB (bs.take pos) back = if back ≤ pos then bs.getD (pos - back) 0 else 0 := by
  unfold atB
  have hl : (bs.take pos).length = pos := by rw [List.length_take]; omega
  rw [hl]
  by_cases hb : back ≤ pos
  · rw [if_pos ⟨h1, hb⟩, if_pos hb, List.getD_eq_getElem?_getD, List.getD_eq_getElem?_getD, List.getElem?_take, if_pos (by omega)]
  · rw [if_neg (fun h => hb h.2), if_neg hb]
theorem getD_take (bs : List UInt8) {pos i : Nat} (h : i < pos) : (bs.take pos).getD i 0 = bs.getD i 0 := by
  rw [List.getD_eq_getElem?_getD, List.getD_eq_getElem?_getD, List.getElem?_take, if_pos h]
/-- A match copies the text. -/
theorem cyc_text {bs : List UInt8} {pos d : Nat} (hp : d + 1 ≤ pos) : ∀ (n : Nat), pos + n ≤ bs.length → (∀ i, i < n → bs.getD (pos + i) 0 = bs.getD (pos + i - (d + 1)) 0) → ∀ i, i < n → bs.getD (pos - (d + 1) + i % (d + 1)) 0 = bs.getD (pos + i) 0 := by
  intro n hn h i hi
  induction i using Nat.strongRecOn with
  | ind i ih =>
    rw [h i hi]
    by_cases hlt : i < d + 1
    · rw [Nat.mod_eq_of_lt hlt, show pos - (d + 1) + i = pos + i - (d + 1) by omega]
    · have e := ih (i - (d + 1)) (by omega) (by omega)
      rw [show i % (d + 1) = (i - (d + 1)) % (d + 1) by rw [Nat.mod_eq_sub_mod (by omega)], e, show pos + (i - (d + 1)) = pos + i - (d + 1) by omega]
theorem cyc_row {bs : List UInt8} {pos d n : Nat} (hp : d + 1 ≤ pos) (hn : pos + n ≤ bs.length) (h : ∀ i, i < n → bs.getD (pos + i) 0 = bs.getD (pos + i - (d + 1)) 0) : cyc (bs.take pos) (d + 1) n = (bs.drop pos).take n := by
  have hl : (bs.take pos).length = pos := by rw [List.length_take]; omega
  apply List.ext_getElem?
  intro i
  by_cases hi : i < n
  · unfold cyc
    rw [List.getElem?_map, List.getElem?_range hi, List.getElem?_take, if_pos hi, List.getElem?_drop]
    have hlt : pos + i < bs.length := by omega
    rw [List.getElem?_eq_getElem hlt]
    simp only [Option.map_some]
    rw [hl, getD_take bs (by have := Nat.mod_lt i (show 0 < d + 1 by omega); omega), cyc_text hp n hn h i hi, List.getD_eq_getElem?_getD, List.getElem?_eq_getElem hlt]
    rfl
  · rw [List.getElem?_eq_none (by rw [cyc_length]; omega), List.getElem?_eq_none (by rw [List.length_take]; omega)]
theorem litOf_take {σ : Type} (co : Cod σ) (k : LK) (st tot : Nat) (rep : Nat → Nat) (bs : List UInt8) (pos : Nat) (s : CP σ) (hp : pos ≤ bs.length) (hb : bs.length ≤ 16777216) :
    litOf co k st tot rep (bs.take pos) s = litAt co k.lc k.lp st tot (if 0 < tot ∧ 0 < pos then (bs.getD (pos - 1) 0).toNat else 0) (if rep 0 + 1 ≤ pos then (bs.getD (pos - (rep 0 + 1)) 0).toNat else 0) 0 s := by
  unfold litOf
  have e1 : (if 0 < tot then (atB (bs.take pos) 1).toNat else 0) = (if 0 < tot ∧ 0 < pos then (bs.getD (pos - 1) 0).toNat else 0) := by
    rw [atB_take bs (by omega) hp]
    by_cases h0 : 0 < tot
    · by_cases h1 : 0 < pos
      · rw [if_pos h0, if_pos (show 1 ≤ pos from h1), if_pos ⟨h0, h1⟩]
      · rw [if_pos h0, if_neg (show ¬ 1 ≤ pos from h1), if_neg (fun h => h1 h.2)]
        rfl
    · rw [if_neg h0, if_neg (fun h => h0 h.1)]
  have e2 : (if rep 0 < 16777216 then (atB (bs.take pos) (rep 0 + 1)).toNat else 0) = (if rep 0 + 1 ≤ pos then (bs.getD (pos - (rep 0 + 1)) 0).toNat else 0) := by
    rw [atB_take bs (by omega) hp]
    by_cases h1 : rep 0 + 1 ≤ pos
    · rw [if_pos (show rep 0 < 16777216 by omega), if_pos h1, if_pos h1]
    · rw [if_neg h1, if_neg h1]
      split <;> rfl
  rw [e1, e2]
theorem take_snoc (bs : List UInt8) {pos : Nat} (h : pos < bs.length) : bs.take pos ++ [bs.getD pos 0] = bs.take (pos + 1) := by
  rw [List.take_add_one, List.getD_eq_getElem?_getD, List.getElem?_eq_getElem h]
  rfl
theorem told_more (bs : List UInt8) {fr pos n : Nat} (hf : fr ≤ pos) (h : pos + n ≤ bs.length) : (bs.take pos).drop fr ++ (bs.drop pos).take n = (bs.take (pos + n)).drop fr := by
  rw [List.take_add, List.drop_append, List.length_take, Nat.min_eq_left (by omega), show fr - pos = 0 by omega, List.drop_zero]
theorem take_more (bs : List UInt8) (pos n : Nat) : bs.take pos ++ (bs.drop pos).take n = bs.take (pos + n) := by
  rw [List.take_add]
/-- Writer and reader side by side. -/
structure Both (B bs : List UInt8) (fr : Nat) (x : PS) (y : RS) (told : List UInt8) : Prop where
  i : EncI x.s.d
  p : Pair (RD B) x.s y.s
  st : y.st = x.st
  rep : y.rep = x.rep
  c : y.C = bs.take x.pos
  t : told = (bs.take x.pos).drop fr
  f : fr ≤ x.pos
  n : x.pos ≤ bs.length
theorem Both.len {B bs : List UInt8} {fr : Nat} {x : PS} {y : RS} {told : List UInt8} (h : Both B bs fr x y told) : told.length = x.pos - fr := by
  rw [h.t, List.length_drop, List.length_take, Nat.min_eq_left h.n]
set_option maxRecDepth 100000 in
theorem op_lit {B bs : List UInt8} {F : Enc} (ht : Rng.Told B F) (k : LK) (S fr total room : Nat) {x : PS} {y : RS} {told : List UInt8} (h : Both B bs fr x y told) (hS : bs.length ≤ S) (hb : bs.length ≤ 16777216) (hlt : x.pos < bs.length)
    (hg : Sub (wOp k bs fr total x none).s.d F) : ∃ b y', stepOf k S (total + told.length) room y = some (b, y') ∧ b.length = 1 ∧ Both B bs fr (wOp k bs fr total x none) y' (told ++ b) := by
  have K := ranges_back ht
  have hlen := h.len
  obtain ⟨hI, hp, h1, h2, h3, h4, h5, h6⟩ := h
  obtain ⟨yst, yrep, ys, yC⟩ := y
  obtain ⟨pos, st, rep, s⟩ := x
  simp only at hI hp h1 h2 h3 h4 h5 h6 hlt hlen
  subst h1; subst h2; subst h3
  unfold wOp at hg ⊢
  simp only at hg ⊢
  rw [hlen]
  unfold putLit at hg ⊢
  generalize hT : total + (pos - fr) = T at *
  have i1 := stays_bitAt K.inv (8 + yst * 16 + T % 2 ^ k.pb) 0 hI
  have g1 := sub_litAt ht _ _ _ _ _ _ _ i1 hg
  obtain ⟨a1, a2⟩ := back_bitAt K (8 + yst * 16 + T % 2 ^ k.pb) 0 0 hI hp g1
  obtain ⟨b1, b2⟩ := back_litAt K k.lc k.lp yst T (if 0 < T ∧ 0 < pos then (bs.getD (pos - 1) 0).toNat else 0) (if yrep 0 + 1 ≤ pos then (bs.getD (pos - (yrep 0 + 1)) 0).toNat else 0) (bs.getD pos 0).toNat 0 i1 a2 hg
  rw [bitIn_val _ _ _ (by omega)] at a1
  rw [litIn_any] at b1
  unfold stepOf
  simp only
  rw [← a1, if_pos rfl, litOf_take _ _ _ _ _ _ _ _ (by omega) hb, ← b1, UInt8.ofNat_toNat]
  refine ⟨_, _, rfl, rfl, ?_⟩
  refine ⟨stays_litAt K.inv _ _ _ _ _ _ _ i1, b2, rfl, rfl, ?_, ?_, by simp only; omega, by simp only; omega⟩
  · simp only
    rw [take_snoc bs hlt, lastN_all (by rw [List.length_take]; omega)]
  · simp only
    rw [h4, ← take_snoc bs hlt, List.drop_append, List.length_take, Nat.min_eq_left (by omega), show fr - pos = 0 by omega]
    rfl
set_option maxRecDepth 100000 in
theorem op_match {B bs : List UInt8} {F : Enc} (ht : Rng.Told B F) (k : LK) (S fr total room : Nat) (m : Nat × Nat) {x : PS} {y : RS} {told : List UInt8} (h : Both B bs fr x y told) (hS : bs.length ≤ S) (hb : bs.length ≤ 16777216) (h2 : 2 ≤ m.1) (hs : m.1 ≤ 273) (hn : x.pos + m.1 ≤ bs.length) (hroom : m.1 ≤ room) (hd : m.2 + 1 ≤ x.pos)
    (he : ∀ i, i < m.1 → bs.getD (x.pos + i) 0 = bs.getD (x.pos + i - (m.2 + 1)) 0)
    (hg : Sub (wOp k bs fr total x (some m)).s.d F) : ∃ b y', stepOf k S (total + told.length) room y = some (b, y') ∧ b.length = m.1 ∧ Both B bs fr (wOp k bs fr total x (some m)) y' (told ++ b) := by
  have K := ranges_back ht
  have hlen := h.len
  obtain ⟨hI, hp, h1, h2', h3, h4, h5, h6⟩ := h
  obtain ⟨yst, yrep, ys, yC⟩ := y
  obtain ⟨pos, st, rep, s⟩ := x
  obtain ⟨size, d⟩ := m
  simp only at hI hp h1 h2' h3 h4 h5 h6 hlen h2 hs hn hroom hd he
  subst h1; subst h2'; subst h3
  unfold wOp at hg ⊢
  simp only at hg ⊢
  rw [hlen]
  generalize hT : total + (pos - fr) = T at *
  obtain ⟨t', a1, a2, a3, a4⟩ := match_back ht k T size d yst yrep hI hp h2 hs (by omega) hg
  unfold stepOf
  simp only
  rw [a1, if_neg (by omega), a2]
  simp only
  rw [a3]
  have hl : (bs.take pos).length = pos := by rw [List.length_take]; omega
  rw [hl, if_pos ⟨hroom, hd⟩, cyc_row hd hn he]
  refine ⟨_, _, rfl, by rw [List.length_take, List.length_drop]; omega, ?_⟩
  refine ⟨stays_putMatch K.inv _ _ _ _ _ _ hI, a4, rfl, rfl, ?_, ?_, by simp only; omega, by simp only; omega⟩
  · simp only
    rw [take_more, lastN_all (by rw [List.length_take]; omega)]
  · simp only
    rw [h4]
    exact told_more bs h5 hn
set_option maxRecDepth 100000 in
theorem ops_back {B bs : List UInt8} {F : Enc} (ht : Rng.Told B F) (k : LK) (S fr total n : Nat) (hS : bs.length ≤ S) (hb : bs.length ≤ 16777216) (hn : n = bs.length - fr) : ∀ (l : List (Option (Nat × Nat))) (f : Nat) {x : PS} {y : RS} {told : List UInt8}, Both B bs fr x y told → OkOps bs x.pos l → n < f + told.length → (wOps k bs fr total l x).s.d = F →
    ∃ y', chunkGo k S total n f told y = some (bs.drop fr, y') ∧ Both B bs fr (wOps k bs fr total l x) y' (bs.drop fr)
  | [], f, x, y, told, h, hok, hf, hF => by
    have hpos : x.pos = bs.length := hok
    have hlen := h.len
    have htd : told = bs.drop fr := by rw [h.t, hpos, List.take_length]
    have hnt : n ≤ told.length := by omega
    cases f with
    | zero => omega
    | succ f =>
      unfold chunkGo
      rw [if_pos hnt, htd]
      exact ⟨y, rfl, htd ▸ h⟩
  | o :: l, f, x, y, told, h, hok, hf, hF => by
    have hlen := h.len
    have hF' : (wOps k bs fr total l (wOp k bs fr total x o)).s.d = F := hF
    have hi2 := stays_wOp (ranges_back ht).inv k bs fr total o h.i
    have hg := sub_wOps ht k bs fr total l hi2 (by rw [hF']; exact Sub.refl _)
    have hh : x.pos < bs.length ∧ ∃ b y', stepOf k S (total + told.length) (n - told.length) y = some (b, y') ∧ 1 ≤ b.length ∧ Both B bs fr (wOp k bs fr total x o) y' (told ++ b) ∧ OkOps bs (wOp k bs fr total x o).pos l := by
      cases o with
      | none =>
        obtain ⟨a, c⟩ := hok
        obtain ⟨b, y', e1, e2, e3⟩ := op_lit ht k S fr total (n - told.length) h hS hb a hg
        exact ⟨a, b, y', e1, by omega, e3, c⟩
      | some m =>
        obtain ⟨a1, a2, a3, a4, a5, c⟩ := hok
        obtain ⟨b, y', e1, e2, e3⟩ := op_match ht k S fr total (n - told.length) m h hS hb a1 a2 a3 (by have := h.f; omega) a4 a5 hg
        exact ⟨by omega, b, y', e1, by omega, e3, c⟩
    obtain ⟨hlt, b, y', e1, e2, e3, e4⟩ := hh
    cases f with
    | zero => have := h.f; omega
    | succ f =>
      obtain ⟨z, z1, z2⟩ := ops_back ht k S fr total n hS hb hn l f e3 e4 (by rw [List.length_append]; omega) hF'
      unfold chunkGo
      rw [if_neg (by have := h.f; omega), e1]
      exact ⟨z, z1, z2⟩
/-- The chunk of operations. -/
def opsB (k : LK) (bs : List UInt8) (fr total st : Nat) (rep : Nat → Nat) (pr : Pr) (l : List (Option (Nat × Nat))) : List UInt8 := (wOps k bs fr (totOf total) l ⟨fr, st, rep, ⟨newEnc, pr⟩⟩).s.d.close.out
theorem ops_read (k : LK) (S : Nat) (bs : List UInt8) (fr total st : Nat) (rep : Nat → Nat) (pr : Pr) (l : List (Option (Nat × Nat))) (hok : OkOps bs fr l) (hf : fr ≤ bs.length) (hS : bs.length ≤ S) (hb : bs.length ≤ 16777216) :
    ∃ y, chunkOf k S total (bs.length - fr) st rep pr (bs.take fr) (opsB k bs fr total st rep pr l) = some (bs.drop fr, y) ∧ y.st = (wOps k bs fr (totOf total) l ⟨fr, st, rep, ⟨newEnc, pr⟩⟩).st ∧ y.rep = (wOps k bs fr (totOf total) l ⟨fr, st, rep, ⟨newEnc, pr⟩⟩).rep ∧ y.s.pr = (wOps k bs fr (totOf total) l ⟨fr, st, rep, ⟨newEnc, pr⟩⟩).s.pr := by
  have hI : EncI (wOps k bs fr (totOf total) l ⟨fr, st, rep, ⟨newEnc, pr⟩⟩).s.d := stays_wOps encI_stays k bs fr (totOf total) l (x := ⟨fr, st, rep, ⟨newEnc, pr⟩⟩) encI_new
  have ht := told_close hI
  have hsub : Sub newEnc (wOps k bs fr (totOf total) l ⟨fr, st, rep, ⟨newEnc, pr⟩⟩).s.d := sub_wOps ht k bs fr (totOf total) l (x := ⟨fr, st, rep, ⟨newEnc, pr⟩⟩) encI_new (Sub.refl _)
  obtain ⟨h1, h2⟩ := told_head ht hsub
  unfold chunkOf opsB
  have h1' : ¬ newErr (wOps k bs fr (totOf total) l ⟨fr, st, rep, ⟨newEnc, pr⟩⟩).s.d.close.out ≠ 0 := fun h => h h1
  rw [if_neg h1']
  obtain ⟨y, h3, h4⟩ := ops_back ht k S fr (totOf total) (bs.length - fr) hS hb rfl l (bs.length - fr + 1) (x := ⟨fr, st, rep, ⟨newEnc, pr⟩⟩) (y := ⟨st, rep, ⟨newDec _, pr⟩, bs.take fr⟩) (told := []) ⟨encI_new, ⟨h2, rfl⟩, rfl, rfl, rfl, by simp only; rw [List.drop_of_length_le (by rw [List.length_take]; omega)], Nat.le_refl _, hf⟩ hok (by simp) rfl
  rw [h3]
  simp only
  rw [if_pos (Lz.told_end ht h4.p.1)]
  exact ⟨y, rfl, h4.st, h4.rep, h4.p.2.symm⟩
end Go.Proofs.Ytefbjamepbkklaa

/- Steps of a text, in plain Lean: what they tell. -/
namespace Go.Proofs.Ytefbjamepbkklaa.Fnd
open Go.RowKit
set_option linter.unusedVariables false
set_option linter.unusedSimpArgs false

structure Sq where
  lits : Int
  mat : Int
  back : Int
instance : Inhabited Sq := ⟨⟨0, 0, 0⟩⟩

def maxC : Nat := 16777216
/-- n bytes more, each the one that stands k behind. -/
def copyBack (k : Nat) : Nat → List UInt8 → List UInt8
  | 0, out => out
  | n + 1, out => copyBack k n (out ++ [out.getD (out.length - k) 0])
theorem copyBack_length (k : Nat) : ∀ (n : Nat) (out : List UInt8), (copyBack k n out).length = out.length + n
  | 0, _ => rfl
  | n + 1, out => by rw [copyBack, copyBack_length k n]; simp; omega

def Bad1 (s : Sq) (rest : Nat) : Prop := s.lits < 0 ∨ s.mat < 0 ∨ s.back < 0 ∨ (rest : Int) < s.lits
def Bad2 (s : Sq) (out1 : Nat) : Prop := (0 < s.mat ∧ (s.back = 0 ∨ (out1 : Int) < s.back)) ∨ (maxC : Int) - out1 < s.mat
instance (s : Sq) (n : Nat) : Decidable (Bad1 s n) := by unfold Bad1; infer_instance
instance (s : Sq) (n : Nat) : Decidable (Bad2 s n) := by unfold Bad2; infer_instance
/-- What steps make of a text's first bytes and of the bytes that stand behind; none: they are malformed. -/
def backGo : List Sq → List UInt8 → List UInt8 → Option (List UInt8)
  | [], out, _ => if maxC < out.length then none else some out
  | s :: l, out, rest =>
    if Bad1 s rest.length then none
    else if Bad2 s (out ++ rest.take s.lits.toNat).length then none
    else backGo l (copyBack s.back.toNat s.mat.toNat (out ++ rest.take s.lits.toNat)) (rest.drop s.lits.toNat)

inductive Tale
  | arg
  | malformed
  | ok (out : List UInt8)
def back (b : List UInt8) (from_ : Int) (l : List Sq) : Tale :=
  if from_ < 0 ∨ (b.length : Int) < from_ then .arg
  else match backGo l (b.take from_.toNat) (b.drop from_.toNat) with
    | none => .malformed
    | some out => .ok out

/-- A slice of steps that came in. -/
def SqRow (w : World) (B : Nat) (A : Option Addr) (l : List Sq) : Prop :=
  0 < l.length → ∃ b off, A = some ⟨b, off, none⟩ ∧ b < B ∧ ∀ k, k < l.length →
    w.cell? ⟨b, off + k * 3, none⟩ = some (.int .i64 (l.getD k default).lits) ∧ w.cell? ⟨b, off + k * 3 + 1, none⟩ = some (.int .i64 (l.getD k default).mat) ∧ w.cell? ⟨b, off + k * 3 + 2, none⟩ = some (.int .i64 (l.getD k default).back)
theorem SqRow.keep {w w' : World} {B : Nat} {A : Option Addr} {l : List Sq} (h : SqRow w B A l) (hk : ∀ b, b < B → w'.heap[b]? = w.heap[b]?) : SqRow w' B A l := by
  intro hn
  obtain ⟨b, off, rfl, hlt, hc⟩ := h hn
  refine ⟨b, off, rfl, hlt, fun k hk' => ?_⟩
  obtain ⟨h1, h2, h3⟩ := hc k hk'
  exact ⟨(World.cell?_of_block (a := ⟨b, off + k * 3, none⟩) (hk b hlt)).trans h1, (World.cell?_of_block (a := ⟨b, off + k * 3 + 1, none⟩) (hk b hlt)).trans h2, (World.cell?_of_block (a := ⟨b, off + k * 3 + 2, none⟩) (hk b hlt)).trans h3⟩
theorem SqRow.below {w w' : World} {B : Nat} {A : Option Addr} {l : List Sq} (h : SqRow w B A l) (hb : Below B w w') : SqRow w' B A l := h.keep fun b hb' => hb.block b hb'
theorem SqRow.more {w : World} {B B' : Nat} {A : Option Addr} {l : List Sq} (h : SqRow w B A l) (hB : B ≤ B') : SqRow w B' A l := by
  intro hn
  obtain ⟨b, off, rfl, hlt, hc⟩ := h hn
  exact ⟨b, off, rfl, by omega, hc⟩
/-- Numbers of an int. -/
def Sq.fits (s : Sq) : Prop := (-9223372036854775808 ≤ s.lits ∧ s.lits ≤ 9223372036854775807) ∧ (-9223372036854775808 ≤ s.mat ∧ s.mat ≤ 9223372036854775807) ∧ (-9223372036854775808 ≤ s.back ∧ s.back ≤ 9223372036854775807)
theorem min2_int {P : Program} (ts : Array TypeId) (t : TypeId) (x y n : Int) (h : min x y = n) (w : World) : (Builtin.min_ ts t #[.int .i64 x, .int .i64 y]).run P w = .ok (.int .i64 n) w := by
  have e : (if y < x then y else x) = n := by split <;> omega
  rw [← e]
  simp [Builtin.min_, Builtin.min2]
theorem max2_int {P : Program} (ts : Array TypeId) (t : TypeId) (x y n : Int) (h : max x y = n) (w : World) : (Builtin.max_ ts t #[.int .i64 x, .int .i64 y]).run P w = .ok (.int .i64 n) w := by
  have e : (if x < y then y else x) = n := by split <;> omega
  rw [← e]
  simp [Builtin.max_, Builtin.max2]
theorem min3_int {P : Program} (ts : Array TypeId) (t : TypeId) (x y z n : Int) (h : min x (min y z) = n) (w : World) : (Builtin.min_ ts t #[.int .i64 x, .int .i64 y, .int .i64 z]).run P w = .ok (.int .i64 n) w := by
  have e : (if z < (if y < x then y else x) then z else (if y < x then y else x)) = n := by split <;> split <;> omega
  rw [← e]
  simp [Builtin.min_, Builtin.min2]
end Go.Proofs.Ytefbjamepbkklaa.Fnd

/- Whether steps make a text: the walk of right. -/
namespace Go.Proofs.Ytefbjamepbkklaa
open Go.RowKit Fnd
set_option linter.unusedVariables false
set_option linter.unusedSimpArgs false
def RB1 (s : Sq) (rest : Nat) : Prop := s.lits < 0 ∨ s.mat < 0 ∨ s.mat = 1 ∨ 273 < s.mat ∨ (rest : Int) < s.lits
def RB2 (s : Sq) (len a : Nat) : Prop := ((len - a : Nat) : Int) < s.mat ∨ s.back < 1 ∨ (a : Int) < s.back
instance (s : Sq) (n : Nat) : Decidable (RB1 s n) := by unfold RB1; infer_instance
instance (s : Sq) (n a : Nat) : Decidable (RB2 s n a) := by unfold RB2; infer_instance
def Same (bs : List UInt8) (a n k : Nat) : Prop := ∀ i, i < n → bs.getD (a + i) 0 = bs.getD (a + i - k) 0
instance (bs : List UInt8) (a n k : Nat) : Decidable (Same bs a n k) := by unfold Same; infer_instance
/-- Where steps end that stand in a text; none: they don't. -/
def rightGo (bs : List UInt8) : List Sq → Nat → Option Nat
  | [], a => some a
  | s :: l, a =>
    if RB1 s (bs.length - a) then none
    else if s.mat = 0 then rightGo bs l (a + s.lits.toNat)
    else if RB2 s bs.length (a + s.lits.toNat) then none
    else if Same bs (a + s.lits.toNat) s.mat.toNat s.back.toNat then rightGo bs l (a + s.lits.toNat + s.mat.toNat)
    else none
def rightEnd (n fr : Nat) : Option Nat → Bool
  | none => false
  | some a => decide (a = n ∧ fr < a)
/-- Whether steps make the text from a place on. -/
def rightP (bs : List UInt8) (fr : Nat) (l : List Sq) : Bool := rightEnd bs.length fr (rightGo bs l fr)
set_option maxRecDepth 100000 in
set_option maxHeartbeats 4000000 in
theorem right_p (A : Option Addr) (bs : List UInt8) (n c fr : Nat) (B : Option Addr) (l : List Sq) (m d : Nat) (w : World) (hn : n = bs.length) (hc : bs.length ≤ c) (hr : BRow w w.heap.size A bs) (hlen : bs.length ≤ 140737488355328)
    (hm : m = l.length) (hmd : l.length ≤ d) (hl : SqRow w w.heap.size B l) (hml : l.length ≤ 140737488355328) (hfit : ∀ s ∈ l, s.fits) (hfr : fr ≤ bs.length) :
    Calls Try.prog 23 #[.slice A n c, .int .i64 fr, .slice B m d] w fun e w' => e = .returned (.bool (rightP bs fr l)) ∧ Below w.heap.size w w' := by
  subst hn; subst hm
  obtain ⟨β, hβ⟩ : ∃ β, rightP bs fr l = β := ⟨_, rfl⟩
  rw [hβ]
  obtain ⟨res, hres⟩ : ∃ res, rightGo bs l fr = res := ⟨_, rfl⟩
  have hβ2 : rightEnd bs.length fr res = β := by rw [← hβ, ← hres]; rfl
  have HR := Lib.hid hr
  have HL := Lib.hid hl
  have HF := Lib.hid hfit
  have HRES := Lib.hid hres
  have HE := Lib.hid hβ2
  have HFR := Lib.hid hfr
  clear hr hl hfit hβ hβ2 hres
  go_enter Try.func23, Try.ntmps23
  go_wp2
  go_loopw [1, 14] (fun av iv wr => ∃ k a : Nat, k ≤ l.length ∧ iv = .int .i64 k ∧ av = .int .i64 a ∧ a ≤ bs.length ∧ rightGo bs (l.drop k) a = res ∧ Below w.heap.size w wr) (fun _ iv _ => l.length - (intOf iv).toNat)
  case atStart => exact ⟨0, fr, by omega, rfl, rfl, HFR.out, HRES.out, Below.refl _ _⟩
  case round =>
    obtain ⟨k, a, hk, rfl, rfl, ha, hgo, hbel⟩ := hrel
    have HGO := Lib.hid hgo
    have HB := Lib.hid hbel
    clear hgo hbel
    by_cases hkl : k < l.length
    · obtain ⟨b, off, hB, hb, hcell⟩ := HL.out (by omega)
      subst hB
      obtain ⟨c0, c1, c2⟩ := hcell k hkl
      have hs : ∃ s, l.getD k default = s := ⟨_, rfl⟩
      obtain ⟨s, hs⟩ := hs
      rw [hs] at c0 c1 c2
      have hdrop : l.drop k = s :: l.drop (k + 1) := by
        rw [List.drop_eq_getElem_cons hkl, ← hs]
        simp [List.getD, hkl]
      have x0 := (HB.out.cell (p := ⟨b, off + k * 3, none⟩) hb).trans c0
      have x1 := (HB.out.cell (p := ⟨b, off + k * 3 + 1, none⟩) hb).trans c1
      have x2 := (HB.out.cell (p := ⟨b, off + k * 3 + 2, none⟩) hb).trans c2
      obtain ⟨⟨s0, s1⟩, ⟨s2, s3⟩, s4, s5⟩ := HF.out s (by rw [← hs]; simp [List.getD, hkl])
      have HDR := Lib.hid hdrop
      clear hcell c0 c1 c2 hs hdrop
      obtain ⟨sl, sm, sb⟩ := s
      simp only at x0 x1 x2 s0 s1 s2 s3 s4 s5
      obtain ⟨mn, hmn⟩ : ∃ mn, min sl sm = mn := ⟨_, rfl⟩
      have hmin := fun w => min2_int (P := Try.prog) #[3, 3] 3 sl sm mn hmn w
      have hg := HGO.out
      rw [HDR.out, rightGo] at hg
      clear HGO HDR
      obtain ⟨r, hr⟩ : ∃ r, bs.length - a = r := ⟨_, rfl⟩
      rw [hr] at hg
      have hri : (bs.length : Int) - (a : Int) = (r : Int) := by omega
      have hrw : IntKind.i64.wrap (r : Int) = (r : Int) := Go.IntWalk.i64_in _ (by omega)
      have HBX := Lib.hid (HB.out.alloc HB.out.size (.cells #[.int .i64 sl, .int .i64 sm, .int .i64 sb] 69))
      by_cases hbad : RB1 ⟨sl, sm, sb⟩ r
      · rw [if_pos hbad] at hg
        have hβf : β = false := by rw [← HE.out, ← hg]; rfl
        subst hβf
        unfold RB1 at hbad
        simp only at hbad
        clear hg hr
        have hcase : mn < 0 ∨ (0 ≤ mn ∧ sm = 1) ∨ (0 ≤ mn ∧ (sm == 1) = false ∧ 273 < sm) ∨ (0 ≤ mn ∧ (sm == 1) = false ∧ sm ≤ 273 ∧ (r : Int) < sl) := by
          by_cases h1 : sm = 1
          · by_cases h0 : mn < 0
            · exact .inl h0
            · exact .inr (.inl ⟨by omega, h1⟩)
          · have e : (sm == 1) = false := beq_eq_false_iff_ne.2 h1
            by_cases h0 : mn < 0
            · exact .inl h0
            · by_cases h2 : 273 < sm
              · exact .inr (.inr (.inl ⟨by omega, e, h2⟩))
              · exact .inr (.inr (.inr ⟨by omega, e, by omega, by omega⟩))
        clear hmn hbad
        rcases hcase with h0 | ⟨h0, h1⟩ | ⟨h0, h1, h2⟩ | ⟨h0, h1, h2, h3⟩
        · go_wp2
          go_ret
          exact ⟨rfl, HBX.out⟩
        · subst h1
          go_wp2
          go_ret
          exact ⟨rfl, HBX.out⟩
        · go_wp2
          go_ret
          exact ⟨rfl, HBX.out⟩
        · go_wp2
          go_ret
          exact ⟨rfl, HBX.out⟩
      · rw [if_neg hbad] at hg
        unfold RB1 at hbad
        simp only at hbad hg
        obtain ⟨L, rfl⟩ : ∃ L : Nat, sl = L := ⟨sl.toNat, by omega⟩
        obtain ⟨M, rfl⟩ : ∃ M : Nat, sm = M := ⟨sm.toNat, by omega⟩
        have h0 : 0 ≤ mn := by omega
        have h1 : ((M : Int) == 1) = false := beq_eq_false_iff_ne.2 (by omega)
        have h2 : (M : Int) ≤ 273 := by omega
        have h3 : (L : Int) ≤ (r : Int) := by omega
        simp only [Int.toNat_natCast] at hg
        obtain ⟨a1, ha1⟩ : ∃ a1, a + L = a1 := ⟨_, rfl⟩
        rw [ha1] at hg
        have ha1i : (a : Int) + (L : Int) = (a1 : Int) := by omega
        have ha1w : IntKind.i64.wrap (a1 : Int) = (a1 : Int) := Go.IntWalk.i64_in _ (by omega)
        have hal : a1 ≤ bs.length := by omega
        have HM1 := Lib.hid (show M ≠ 1 by omega)
        clear hmn hbad ha1
        by_cases hM0 : M = 0
        · have hMe : ((M : Int) == 0) = true := by rw [hM0]; rfl
          rw [if_pos (by omega)] at hg
          have HG := Lib.hid hg
          clear hg hr hM0
          go_wp2
          exact ⟨⟨k + 1, a1, by omega, by go_num, by first | rfl | trivial, hal, HG.out, HBX.out⟩, by simp [intOf]; omega⟩
        · have hMe : ((M : Int) == 0) = false := beq_eq_false_iff_ne.2 (by omega)
          rw [if_neg (by omega)] at hg
          obtain ⟨r1, hr1⟩ : ∃ r1, bs.length - a1 = r1 := ⟨_, rfl⟩
          have hr1i : (bs.length : Int) - (a1 : Int) = (r1 : Int) := by omega
          have hr1w : IntKind.i64.wrap (r1 : Int) = (r1 : Int) := Go.IntWalk.i64_in _ (by omega)
          by_cases hbad2 : RB2 ⟨L, M, sb⟩ bs.length a1
          · rw [if_pos hbad2] at hg
            have hβf : β = false := by rw [← HE.out, ← hg]; rfl
            subst hβf
            unfold RB2 at hbad2
            simp only at hbad2
            rw [hr1] at hbad2
            clear hg hr hr1 hM0
            have hcase : (r1 : Int) < (M : Int) ∨ ((M : Int) ≤ (r1 : Int) ∧ sb < 1) ∨ ((M : Int) ≤ (r1 : Int) ∧ 1 ≤ sb ∧ (a1 : Int) < sb) := by omega
            clear hbad2
            rcases hcase with g0 | ⟨g0, g1⟩ | ⟨g0, g1, g2⟩
            · go_wp2
              go_ret
              exact ⟨rfl, HBX.out⟩
            · go_wp2
              go_ret
              exact ⟨rfl, HBX.out⟩
            · go_wp2
              go_ret
              exact ⟨rfl, HBX.out⟩
          · rw [if_neg hbad2] at hg
            unfold RB2 at hbad2
            simp only at hbad2 hg
            rw [hr1] at hbad2
            obtain ⟨K, rfl⟩ : ∃ K : Nat, sb = K := ⟨sb.toNat, by omega⟩
            simp only [Int.toNat_natCast] at hg
            have g0 : (M : Int) ≤ (r1 : Int) := by omega
            have g1 : (1 : Int) ≤ (K : Int) := by omega
            have g2 : (K : Int) ≤ (a1 : Int) := by omega
            have HG := Lib.hid hg
            have HM0 := Lib.hid hM0
            have HN := Lib.hid (show a1 + M ≤ bs.length by omega)
            have HP := Lib.hid (Pts.new wr #[.int .i64 (L : Int), .int .i64 (M : Int), .int .i64 (K : Int)] 69)
            clear hg hbad2 hr hr1 hM0
            go_wp2_with fail
            obtain ⟨wo, rfl⟩ : ∃ wo : World, wo = wr := ⟨_, rfl⟩
            go_loopw [70] (fun iv wq => ∃ t : Nat, t ≤ M ∧ iv = .int .i64 t ∧ (∀ j, j < t → bs.getD (a1 + j) 0 = bs.getD (a1 + j - K) 0) ∧ Pts wq wo.heap.size #[.int .i64 (L : Int), .int .i64 (M : Int), .int .i64 (K : Int)] 69 ∧ Below w.heap.size w wq) (fun iv _ => M - (intOf iv).toNat)
            case atStart => exact ⟨0, by omega, rfl, fun j hj => absurd hj (by omega), HP.out, HBX.out⟩
            case round =>
              obtain ⟨t, ht, rfl, hsame, hp2, hb2⟩ := hrel
              have z1 : wr.cell? ⟨wo.heap.size, 1, none⟩ = some (.int .i64 (M : Int)) := by rw [hp2.cell]; rfl
              have z2 : wr.cell? ⟨wo.heap.size, 2, none⟩ = some (.int .i64 (K : Int)) := by rw [hp2.cell]; rfl
              have HS := Lib.hid hsame
              have HP2 := Lib.hid hp2
              have HB2 := Lib.hid hb2
              clear hsame hp2 hb2
              by_cases htM : t < M
              · obtain ⟨bb, bo, hA, hbb, hbc⟩ := HR.out (by have := HN.out; omega)
                subst hA
                obtain ⟨q1, hq1⟩ : ∃ q1, a1 + t = q1 := ⟨_, rfl⟩
                obtain ⟨q2, hq2⟩ : ∃ q2, q1 - K = q2 := ⟨_, rfl⟩
                have hq1i : (a1 : Int) + (t : Int) = (q1 : Int) := by omega
                have hq2i : (q1 : Int) - (K : Int) = (q2 : Int) := by omega
                have hq1w : IntKind.i64.wrap (q1 : Int) = (q1 : Int) := Go.IntWalk.i64_in _ (by have := HN.out; omega)
                have hq2w : IntKind.i64.wrap (q2 : Int) = (q2 : Int) := Go.IntWalk.i64_in _ (by have := HN.out; omega)
                have hq1b : q1 < bs.length := by have := HN.out; omega
                have hq2b : q2 < bs.length := by omega
                have kk1 := (HB2.out.cell (p := ⟨bb, bo + q1, none⟩) hbb).trans (hbc q1 hq1b)
                have kk2 := (HB2.out.cell (p := ⟨bb, bo + q2, none⟩) hbb).trans (hbc q2 hq2b)
                obtain ⟨u1, hu1⟩ : ∃ u1, bs.getD q1 0 = u1 := ⟨_, rfl⟩
                obtain ⟨u2, hu2⟩ : ∃ u2, bs.getD q2 0 = u2 := ⟨_, rfl⟩
                have HU := Lib.hid (And.intro hq1 (And.intro hq2 (And.intro hu1 hu2)))
                obtain ⟨v1, hv1⟩ : ∃ v1, u1.toNat = v1 := ⟨_, rfl⟩
                obtain ⟨v2, hv2⟩ : ∃ v2, u2.toNat = v2 := ⟨_, rfl⟩
                have k1 : wr.cell? ⟨bb, bo + q1, none⟩ = some (.int .u8 (v1 : Int)) := by rw [kk1, hu1, ← hv1]; rfl
                have k2 : wr.cell? ⟨bb, bo + q2, none⟩ = some (.int .u8 (v2 : Int)) := by rw [kk2, hu2, ← hv2]; rfl
                clear kk1 kk2 hbc hq1 hq2 hu1 hu2 x0 x1 x2
                by_cases hev : u1 = u2
                · have hne : ((v1 : Int) != (v2 : Int)) = false := by rw [← hv1, ← hv2, hev]; simp
                  have HEV := Lib.hid hev
                  clear hev hv1 hv2
                  go_wp2
                  go_quiet (fail)
                  go_wp2
                  refine ⟨⟨t + 1, by omega, by go_num, fun j hj => ?_, HP2.out.drewN _, below_drewN HB2.out _⟩, by simp [intOf]; omega⟩
                  by_cases hjt : j = t
                  · subst hjt
                    rw [HU.out.1, HU.out.2.1, HU.out.2.2.1, HU.out.2.2.2]
                    exact HEV.out
                  · exact HS.out j (by omega)
                · have hne : ((v1 : Int) != (v2 : Int)) = true := by
                    rw [bne_iff_ne]
                    intro e
                    apply hev
                    apply UInt8.toNat_inj.1
                    omega
                  have hns : ¬ Same bs a1 M K := by
                    intro h
                    apply hev
                    have h1 := h t htM
                    rw [HU.out.1, HU.out.2.1, HU.out.2.2.1, HU.out.2.2.2] at h1
                    exact h1
                  have hg := HG.out
                  rw [if_neg hns] at hg
                  have hβf : β = false := by rw [← HE.out, ← hg]; rfl
                  subst hβf
                  clear hev hv1 hv2 hns hg
                  go_wp2
                  go_quiet (fail)
                  go_wp2
                  go_ret
                  exact ⟨rfl, below_drewN HB2.out _⟩
              · obtain rfl : t = M := by omega
                have hg := HG.out
                rw [if_pos (show Same bs a1 t K from HS.out)] at hg
                have HG2 := Lib.hid hg
                obtain ⟨a2, ha2⟩ : ∃ a2, a1 + t = a2 := ⟨_, rfl⟩
                have ha2i : (a1 : Int) + (t : Int) = (a2 : Int) := by omega
                have hN := HN.out
                have ha2w : IntKind.i64.wrap (a2 : Int) = (a2 : Int) := Go.IntWalk.i64_in _ (by omega)
                have HA2 := Lib.hid ha2
                clear hg ha2 hN x0 x1 x2
                go_wp2
                exact ⟨⟨k + 1, a2, by omega, by go_num, by first | rfl | trivial, by have := HN.out; have := HA2.out; omega, by rw [← HA2.out]; exact HG2.out, HB2.out⟩, by simp [intOf]; omega⟩
    · obtain rfl : k = l.length := by omega
      have hg := HGO.out
      rw [List.drop_length, rightGo] at hg
      have hβe : decide (a = bs.length ∧ fr < a) = β := by
        have h := HE.out
        rw [← hg] at h
        exact h
      clear hg HGO
      by_cases he : a = bs.length
      · subst he
        have he2 : ((bs.length : Int) == (bs.length : Int)) = true := by simp
        by_cases hf : fr < bs.length
        · rw [decide_eq_true ⟨rfl, hf⟩] at hβe
          subst hβe
          have hfi : (fr : Int) < (bs.length : Int) := by omega
          go_wp2
          go_ret
          exact ⟨by first | rfl | simp [hf], HB.out⟩
        · rw [decide_eq_false (show ¬ (bs.length = bs.length ∧ fr < bs.length) from fun h => hf h.2)] at hβe
          subst hβe
          go_wp2
          go_ret
          exact ⟨by first | rfl | simp [hf], HB.out⟩
      · rw [decide_eq_false (show ¬ (a = bs.length ∧ fr < a) from fun h => he h.1)] at hβe
        subst hβe
        have he2 : ((a : Int) == (bs.length : Int)) = false := beq_eq_false_iff_ne.2 (by omega)
        go_wp2
        go_ret
        exact ⟨rfl, HB.out⟩
end Go.Proofs.Ytefbjamepbkklaa

/- A match that is written, whatever its distance; steps as operations; what they cost: plain. -/
namespace Go.Proofs.Ytefbjamepbkklaa
open Go.RowKit Rng Lz Win Fnd
set_option linter.unusedVariables false
set_option linter.unusedSimpArgs false
theorem putmatch_p (O : Nat → Prop) (w : World) (k : LK) (g : WB) (A : Option Addr) (c : Nat) (bs : List UInt8) (shift : Int) (pos tot st : Nat) (rep : Nat → Nat) (s : CP Enc) (h : WrAt O w k g A c bs shift pos st rep s) (hk : k.Ok) (htot : (pos : Int) + shift = (tot : Int)) (ht : tot < 4611686018427387904)
    (size back d : Nat) (h2 : 2 ≤ size) (hs : size ≤ 273) (hbd : back = d + 1) (hd : d < 4294967296) (hpos : pos + size ≤ 140737488355328) (hst : st < 12) (hrep : ∀ j, rep j < 4294967296) (hc : s.d.cnt + 100 < 1000000) :
    Calls Try.prog 26 #[.pointer (some ⟨g.xb, 0, none⟩), .int .i64 size, .int .i64 back] w fun e w' => e = .returned (.tuple #[]) ∧ WrAt O w' k g A c bs shift (pos + size) (putMatch k tot size d st rep s).1 (putMatch k tot size d st rep s).2.1 (putMatch k tot size d st rep s).2.2 ∧ Frm (WZ k O g) w w' := by
  have h4 := idxOf_le rep d
  obtain ⟨J, hJ⟩ : ∃ J, idxOf rep d = J := ⟨_, rfl⟩
  rw [hJ] at h4
  have hcase : J = 4 ∨ J = 0 ∨ J = 1 ∨ (J = 2 ∨ J = 3) := by omega
  rcases hcase with rfl | rfl | rfl | e
  · exact putmatch_fresh O w k g A c bs shift pos tot st rep s h hk htot ht size back d h2 hs hbd hd hpos hst hrep hc hJ
  · exact putmatch_zero O w k g A c bs shift pos tot st rep s h hk htot ht size back d h2 hs hbd hd hpos hst hrep hc hJ
  · exact putmatch_one O w k g A c bs shift pos tot st rep s h hk htot ht size back d h2 hs hbd hd hpos hst hrep hc hJ
  · exact putmatch_two O w k g A c bs shift pos tot st rep s h hk htot ht size back d h2 hs hbd hd hpos hst hrep hc J e hJ
theorem cnt_farIn (base x far : Nat) : ∀ (n m : Nat) (s : CP Enc), (farGo inC base x far n m s).2.d.cnt ≤ s.d.cnt + n
  | 0, m, s => Nat.le_refl _
  | n + 1, m, s => by
    unfold farGo
    have h2 := cnt_bitIn1 (base + (1 + far / 2 ^ n % 2) * 256 + m) (x / 2 ^ n % 2) s
    simp only
    split
    · have h1 := cnt_farIn base x far n (2 * m + (bitAt inC (base + (1 + far / 2 ^ n % 2) * 256 + m) (x / 2 ^ n % 2) s).1) (bitAt inC (base + (1 + far / 2 ^ n % 2) * 256 + m) (x / 2 ^ n % 2) s).2
      omega
    · have h1 := cnt_treeIn base x n (2 * m + (bitAt inC (base + (1 + far / 2 ^ n % 2) * 256 + m) (x / 2 ^ n % 2) s).1) (bitAt inC (base + (1 + far / 2 ^ n % 2) * 256 + m) (x / 2 ^ n % 2) s).2
      omega
theorem cnt_litIn (lc lp st total ahead far x : Nat) (s : CP Enc) : (litAt inC lc lp st total ahead far x s).2.d.cnt ≤ s.d.cnt + 8 := by
  unfold litAt
  simp only
  split
  · exact cnt_farIn _ _ _ 8 1 s
  · exact cnt_treeIn _ _ 8 1 s
theorem cnt_distIn (d size : Nat) (s : CP Enc) (hd : d < 4294967296) : (distAt inC d size s).2.d.cnt ≤ s.d.cnt + 50 := by
  have ht := treeAt_in (440 + (min size 5 - 2) * 64) 6 (slotOf d) s (slot_lt hd)
  have hc := cnt_treeAt (440 + (min size 5 - 2) * 64) 6 (slotOf d) s
  have hs := slot_lt hd
  unfold distAt
  simp only
  generalize treeAt inC (440 + (min size 5 - 2) * 64) 6 (slotOf d) s = T at *
  rw [ht]
  split
  · simp only; omega
  · split
    · rename_i h1 h2
      have h3 := cnt_backIn (696 + (2 + slotOf d % 2) * 2 ^ (slotOf d / 2 - 1) - slotOf d) (d - (2 + slotOf d % 2) * 2 ^ (slotOf d / 2 - 1)) (slotOf d / 2 - 1) (slotOf d / 2 - 1) 1 0 T.2
      unfold backAt
      simp only
      omega
    · have h3 := cnt_backIn 824 (d % 16) 4 4 1 0 ⟨Enc.direct ((d - (2 + slotOf d % 2) * 2 ^ (slotOf d / 2 - 1)) / 16) (slotOf d / 2 - 1 - 4) T.2.d, T.2.pr⟩
      have h4 : (Enc.direct ((d - (2 + slotOf d % 2) * 2 ^ (slotOf d / 2 - 1)) / 16) (slotOf d / 2 - 1 - 4) T.2.d).cnt ≤ T.2.d.cnt + (slotOf d / 2 - 1 - 4) := Enc.direct_cnt
      unfold backAt
      exact Nat.le_trans h3 (by simp only; omega)
/-- What an operation costs at most. -/
def costOp : Option (Nat × Nat) → Nat
  | none => 9
  | some _ => 100
def costOps : List (Option (Nat × Nat)) → Nat
  | [] => 0
  | o :: l => costOp o + costOps l
theorem costOps_append (l m : List (Option (Nat × Nat))) : costOps (l ++ m) = costOps l + costOps m := by
  induction l with
  | nil => simp [costOps]
  | cons o l ih => simp only [List.cons_append, costOps, ih]; omega
theorem costOps_lits (n : Nat) : costOps (List.replicate n none) = 9 * n := by
  induction n with
  | zero => rfl
  | succ n ih => rw [List.replicate_succ, costOps, ih]; show 9 + 9 * n = 9 * (n + 1); omega
theorem cnt_putLit (k : LK) (bs : List UInt8) (tot pos st : Nat) (rep : Nat → Nat) (s : CP Enc) : (putLit k bs tot pos st rep s).d.cnt ≤ s.d.cnt + 9 := by
  unfold putLit
  refine Nat.le_trans (cnt_litIn _ _ _ _ _ _ _ _) ?_
  have := cnt_bitIn1 (8 + st * 16 + tot % 2 ^ k.pb) 0 s
  omega
theorem cnt_putRep (st p size j : Nat) (s : CP Enc) : (putRep inC st p size j s).d.cnt ≤ s.d.cnt + 13 := by
  unfold putRep
  simp only
  refine Nat.le_trans (cnt_len _ _ _ _) ?_
  have h1 := fun x => cnt_bitIn1 (212 + st) x s
  split
  · have h2 := cnt_bitIn1 (248 + st * 16 + p) 1 (bitAt inC (212 + st) 0 s).2
    have := h1 0
    omega
  · have h2 := fun x => cnt_bitIn1 (224 + st) x (bitAt inC (212 + st) 1 s).2
    have h4 := h1 1
    split
    · have := h2 0
      omega
    · have h3 := cnt_bitIn1 (236 + st) (j - 2) (bitAt inC (224 + st) 1 (bitAt inC (212 + st) 1 s).2).2
      have := h2 1
      omega
theorem cnt_putMatch (k : LK) (tot size d st : Nat) (rep : Nat → Nat) (s : CP Enc) (hd : d < 4294967296) : (putMatch k tot size d st rep s).2.2.d.cnt ≤ s.d.cnt + 100 := by
  unfold putMatch
  simp only
  have h1 := cnt_bitIn1 (8 + st * 16 + tot % 2 ^ k.pb) 1 s
  split
  · refine Nat.le_trans (cnt_distIn _ _ _ hd) ?_
    have h2 := cnt_bitIn1 (200 + st) 0 (bitAt inC (8 + st * 16 + tot % 2 ^ k.pb) 1 s).2
    have h3 := cnt_len 840 size (tot % 2 ^ k.pb) (bitAt inC (200 + st) 0 (bitAt inC (8 + st * 16 + tot % 2 ^ k.pb) 1 s).2).2
    omega
  · refine Nat.le_trans (cnt_putRep _ _ _ _ _) ?_
    have h2 := cnt_bitIn1 (200 + st) 1 (bitAt inC (8 + st * 16 + tot % 2 ^ k.pb) 1 s).2
    omega
/-- Distances that fit, and the state, stay so. -/
theorem putMatch_inv (k : LK) (tot size d st : Nat) (rep : Nat → Nat) (s : CP Enc) (hst : st < 12) (hrep : ∀ j, rep j < 4294967296) (hd : d < 4294967296) : (putMatch k tot size d st rep s).1 < 12 ∧ ∀ j, (putMatch k tot size d st rep s).2.1 j < 4294967296 := by
  unfold putMatch
  simp only
  split
  · refine ⟨show behS st 1 < 12 from behS_lt hst, fun j => ?_⟩
    show (if j = 0 then d else shiftN rep 3 j) < _
    split
    · exact hd
    · exact shiftN_lt hrep 3 j
  · refine ⟨show behS st 2 < 12 from behS_lt hst, fun j => ?_⟩
    show (if idxOf rep d = 0 then rep else takeS rep (idxOf rep d)) j < _
    split
    · exact hrep j
    · exact takeS_lt hrep _ j
/-- Steps as operations. -/
def opsSq (s : Sq) : List (Option (Nat × Nat)) := List.replicate s.lits.toNat none ++ (if 0 < s.mat then [some (s.mat.toNat, s.back.toNat - 1)] else [])
def opsOf : List Sq → List (Option (Nat × Nat))
  | [] => []
  | s :: l => opsSq s ++ opsOf l
theorem okOps_lits {bs : List UInt8} (l : List (Option (Nat × Nat))) : ∀ (n a : Nat), a + n ≤ bs.length → OkOps bs (a + n) l → OkOps bs a (List.replicate n none ++ l)
  | 0, a, _, h => h
  | n + 1, a, hn, h => by
    rw [List.replicate_succ]
    exact ⟨by omega, okOps_lits l n (a + 1) (by omega) (by rw [show a + 1 + n = a + (n + 1) by omega]; exact h)⟩
theorem right_ops {bs : List UInt8} : ∀ (l : List Sq) (a : Nat), a ≤ bs.length → rightGo bs l a = some bs.length → OkOps bs a (opsOf l)
  | [], a, _, h => by
    unfold rightGo at h
    exact Option.some.inj h
  | s :: l, a, ha, h => by
    unfold rightGo at h
    by_cases h1 : RB1 s (bs.length - a)
    · rw [if_pos h1] at h; cases h
    rw [if_neg h1] at h
    unfold RB1 at h1
    have hl : a + s.lits.toNat ≤ bs.length := by omega
    unfold opsOf opsSq
    rw [List.append_assoc]
    refine okOps_lits _ _ _ hl ?_
    by_cases h2 : s.mat = 0
    · rw [if_pos h2] at h
      rw [if_neg (by omega)]
      exact right_ops l _ hl h
    rw [if_neg h2] at h
    by_cases h3 : RB2 s bs.length (a + s.lits.toNat)
    · rw [if_pos h3] at h; cases h
    rw [if_neg h3] at h
    unfold RB2 at h3
    by_cases h4 : Same bs (a + s.lits.toNat) s.mat.toNat s.back.toNat
    · rw [if_pos h4] at h
      rw [if_pos (by omega)]
      refine ⟨by simp only; omega, by simp only; omega, by simp only; omega, by simp only; omega, ?_, ?_⟩
      · intro i hi
        simp only at hi ⊢
        rw [show s.back.toNat - 1 + 1 = s.back.toNat by omega]
        exact h4 i hi
      · exact right_ops l _ (by simp only; omega) h
    · rw [if_neg h4] at h; cases h
theorem wOps_append (k : LK) (bs : List UInt8) (fr total : Nat) (l m : List (Option (Nat × Nat))) (x : PS) : wOps k bs fr total (l ++ m) x = wOps k bs fr total m (wOps k bs fr total l x) := List.foldl_append
theorem wOps_cons (k : LK) (bs : List UInt8) (fr total : Nat) (o : Option (Nat × Nat)) (l : List (Option (Nat × Nat))) (x : PS) : wOps k bs fr total (o :: l) x = wOps k bs fr total l (wOp k bs fr total x o) := rfl
end Go.Proofs.Ytefbjamepbkklaa

/- A chunk that is made: the walk of Chunk, behind the refusals. -/
namespace Go.Proofs.Ytefbjamepbkklaa
open Go.RowKit Rng Lz Win Fnd
set_option linter.unusedVariables false
set_option linter.unusedSimpArgs false
/-- A state tq9 put in by, that rests. -/
structure PAt (w : World) (k : LK) (st : Nat) (rep : Nat → Nat) (pr : Pr) : Prop where
  m : Pts w k.sb (mcells k st rep pr) 67
  l : Pts w k.lb (lcells k pr) 48
  fit : ∀ i, pr i < 65536
  ne : k.sb ≠ k.lb
theorem PAt.frm {w w' : World} {k : LK} {st : Nat} {rep : Nat → Nat} {pr : Pr} {N : Nat → Prop} (h : PAt w k st rep pr) (hf : Frm N w w') (h1 : ¬ N k.sb) (h2 : ¬ N k.lb) : PAt w' k st rep pr := ⟨h.m.frm hf h1, h.l.frm hf h2, h.fit, h.ne⟩
theorem PAt.later {w w' : World} {k : LK} {st : Nat} {rep : Nat → Nat} {pr : Pr} (h : PAt w k st rep pr) (hb : Below w.heap.size w w') : PAt w' k st rep pr := h.frm (Frm.of_below (S := fun _ => False) hb) id id
/-- The state's blocks. -/
def KZ (k : LK) (q : Nat) : Prop := q = k.sb ∨ q = k.lb
theorem OwnB.low {w : World} {T base base' : Nat} {v : Value} {bs : List UInt8} (h : OwnB w T base v bs) (hb : base' ≤ base) : OwnB w T base' v bs := by
  refine ⟨h.1, ?_⟩
  rcases h.2 with h2 | ⟨g, cap, cur, rfl, hb2, r⟩
  · exact .inl h2
  · exact .inr ⟨g, cap, cur, rfl, by omega, r⟩
theorem WrAt.start {w w2 : World} {k : LK} {st eb : Nat} {rep : Nat → Nat} {pr : Pr} {A : Option Addr} {c fr : Nat} {bs : List UInt8} {sh : Int} (hs : PAt w k st rep pr) (hr : BRow w w.heap.size A bs) (hoff : BOff (KZ k) A bs) (h1 : Below w.heap.size w w2) (he : EncAt w2 111 0 eb eb (.slice none 0 0) newEnc) (heb : w.heap.size ≤ eb) :
    WrAt (fun q => q = eb ∨ w2.heap.size + 1 ≤ q) (w2.alloc (.cells #[.pointer (some ⟨k.sb, 0, none⟩), .pointer (some ⟨eb, 0, none⟩), .slice A bs.length c, .int .i64 fr, .int .i64 sh] 88)) k ⟨eb, w2.heap.size⟩ A c bs sh fr st rep ⟨newEnc, pr⟩ := by
  have s2 := hs.later h1
  have e1 := hs.m.lt
  have e2 := hs.l.lt
  have e3 := he.p.lt
  have e4 := h1.size
  have hsz : (w2.alloc (.cells #[.pointer (some ⟨k.sb, 0, none⟩), .pointer (some ⟨eb, 0, none⟩), .slice A bs.length c, .int .i64 fr, .int .i64 sh] 88)).heap.size = w2.heap.size + 1 := by show (w2.heap.push _).size = _; rw [Array.size_push]
  refine ⟨⟨⟨⟨.slice none 0 0, ⟨he.p.alloc _, OwnB.nil _ _ _, he.k⟩, fun q hq => by cases hq⟩, .inl rfl, fun q hq => .inr (by omega), encI_new⟩, s2.m.alloc _, s2.l.alloc _, s2.fit, ?_, ?_, s2.ne⟩, Pts.new _ _ _, ?_, ?_, ?_⟩
  · rintro (e | e) <;> omega
  · rintro (e | e) <;> omega
  · intro h0
    obtain ⟨b, off, rfl, hlt, hc⟩ := hr h0
    have hb : Below w.heap.size w (w2.alloc (.cells #[.pointer (some ⟨k.sb, 0, none⟩), .pointer (some ⟨eb, 0, none⟩), .slice (some ⟨b, off, none⟩) bs.length c, .int .i64 fr, .int .i64 sh] 88)) := h1.alloc h1.size _
    exact ⟨b, off, rfl, by omega, fun j hj => (hb.cell (p := ⟨b, off + j, none⟩) hlt).trans (hc j hj)⟩
  · intro h0 ad e hz
    obtain ⟨b, off, e6, hlt, hc⟩ := hr h0
    have e7 := hoff h0 ad e
    rw [e] at e6
    injection e6 with e6
    subst e6
    rcases hz with (e8 | e8) | e8
    · rcases e8 with e8 | e8
      · simp only at e8; omega
      · simp only at e8; omega
    · exact e7 e8
    · simp only at e8; omega
  · rintro (e | e)
    · simp only at e; omega
    · simp only at e; omega
set_option maxRecDepth 100000 in
set_option maxHeartbeats 8000000 in
theorem putchunk_main (k : LK) (st : Nat) (rep : Nat → Nat) (pr : Pr) (A : Option Addr) (bs : List UInt8) (n c fr total : Nat) (B : Option Addr) (l : List Sq) (m d : Nat) (w : World)
    (hs : PAt w k st rep pr) (hk : k.Ok) (hst : st < 12) (hrep : ∀ j, rep j < 4294967296) (hn : n = bs.length) (hc : bs.length ≤ c) (hr : BRow w w.heap.size A bs) (hoff : BOff (KZ k) A bs) (hlen : bs.length ≤ 16777216)
    (hm : m = l.length) (hmd : l.length ≤ d) (hl : SqRow w w.heap.size B l) (hlo : ∀ ad, B = some ad → ¬ KZ k ad.block) (hml : l.length ≤ 140737488355328) (hfit : ∀ s ∈ l, s.fits) (hfr : fr ≤ bs.length) (h21 : bs.length - fr ≤ 2097152) (ht : total < 9223372036854775808)
    (hright : rightP bs fr l = true) (hcost : costOps (opsOf l) + 110 ≤ 1000000) :
    Calls Try.prog 14 #[.pointer (some ⟨k.sb, 0, none⟩), .slice A n c, .int .i64 fr, .int .i64 total, .slice B m d] w fun e w' => ∃ v, e = .returned (.tuple #[v, .int .i64 0]) ∧ OwnB w' 5 w.heap.size v (opsB k bs fr total st rep pr (opsOf l)) ∧
      PAt w' k (wOps k bs fr (totOf total) (opsOf l) ⟨fr, st, rep, ⟨newEnc, pr⟩⟩).st (wOps k bs fr (totOf total) (opsOf l) ⟨fr, st, rep, ⟨newEnc, pr⟩⟩).rep (wOps k bs fr (totOf total) (opsOf l) ⟨fr, st, rep, ⟨newEnc, pr⟩⟩).s.pr ∧ Frm (KZ k) w w' := by
  subst hn; subst hm
  unfold opsB
  obtain ⟨T, hT⟩ : ∃ T, totOf total = T := ⟨_, rfl⟩
  rw [hT]
  have hTb : T < 1099511627792 := by rw [← hT]; exact totOf_lt total
  obtain ⟨X, hX⟩ : ∃ X, wOps k bs fr T (opsOf l) ⟨fr, st, rep, ⟨newEnc, pr⟩⟩ = X := ⟨_, rfl⟩
  rw [hX]
  have hgo : rightGo bs l fr = some bs.length ∧ fr < bs.length := by
    unfold rightP rightEnd at hright
    cases hg : rightGo bs l fr with
    | none => rw [hg] at hright; cases hright
    | some a =>
      rw [hg] at hright
      obtain ⟨e1, e2⟩ := of_decide_eq_true hright
      subst e1
      exact ⟨rfl, e2⟩
  obtain ⟨sh, hsh⟩ : ∃ sh : Int, (T : Int) - (fr : Int) = sh := ⟨_, rfl⟩
  have hshw : IntKind.i64.wrap sh = sh := Go.IntWalk.i64_in _ (by omega)
  have HR1 := Lib.hid (right_p A bs bs.length c fr B l l.length d w rfl hc hr (by omega) rfl hmd hl hml hfit hfr)
  rw [hright] at HR1
  obtain ⟨r, hr2⟩ : ∃ r, bs.length - fr = r := ⟨_, rfl⟩
  have hri : (bs.length : Int) - (fr : Int) = (r : Int) := by omega
  have hrw : IntKind.i64.wrap (r : Int) = (r : Int) := Go.IntWalk.i64_in _ (by omega)
  have hr21 : (r : Int) ≤ 2097152 := by omega
  have hf1 : (0 : Int) ≤ (fr : Int) := by omega
  have hf2 : (fr : Int) ≤ (bs.length : Int) := by omega
  have ht1 : (0 : Int) ≤ (total : Int) := by omega
  have HS := Lib.hid hs
  have HK := Lib.hid hk
  have HREP := Lib.hid hrep
  have HR := Lib.hid hr
  have HOFF := Lib.hid hoff
  have HL := Lib.hid hl
  have HLO := Lib.hid hlo
  have HF := Lib.hid hfit
  have HT := Lib.hid hT
  have HX := Lib.hid hX
  have HGO := Lib.hid hgo
  have HCO := Lib.hid hcost
  have HSH := Lib.hid hsh
  have HN := Lib.hid (And.intro hlen (And.intro hfr hTb))
  clear hs hk hrep hr hoff hl hlo hfit hT hX hgo hcost hright hr2 h21 hfr
  go_enter Try.func14, Try.ntmps14
  go_wp2_with fail
  refine HR1.out.mono ?_; rintro e w1 ⟨rfl, b1⟩
  have B1 := Lib.hid b1
  clear b1 HR1
  go_upto_if 45 with fail
  go_cut [3] from 46 (fun v wx => v = .int .i64 T ∧ wx = w1)
  case first =>
    by_cases hbig : 1099511627776 < total
    · have hi : (1099511627776 : Int) < (total : Int) := by omega
      have ha := and15 total ht
      obtain ⟨m, hm⟩ : ∃ m, total % 16 = m := ⟨_, rfl⟩
      have hTe := HT.out
      unfold totOf at hTe
      rw [if_pos hbig, hm] at hTe
      rw [hm] at ha
      have hmb : m < 16 := by omega
      have hTi : (1099511627776 : Int) + (m : Int) = (T : Int) := by omega
      have hTw : IntKind.i64.wrap (T : Int) = (T : Int) := Go.IntWalk.i64_in _ (by omega)
      clear hm hTe hbig hmb
      go_wp2
      go_meet
      case rel => exact ⟨rfl, rfl⟩
    · have hi : (total : Int) ≤ 1099511627776 := by omega
      have hTe := HT.out
      unfold totOf at hTe
      rw [if_neg hbig] at hTe
      subst hTe
      clear hbig
      go_wp2
      go_meet
      case rel => exact ⟨rfl, rfl⟩
  case rest =>
    obtain ⟨rfl, hwx⟩ := hcut
    subst hwx
    go_wp2_with fail
    refine (enew_p wc).mono ?_; rintro e w2 ⟨rfl, h2, b2⟩
    have B2 := Lib.hid (B1.out.trans (b2.mono B1.out.size))
    have E2 := Lib.hid h2
    have HST := Lib.hid (WrAt.start (fr := fr) (sh := sh) (c := c) HS.out HR.out HOFF.out B2.out E2.out B1.out.size)
    have hsb := HSH.out
    obtain ⟨eb, heb⟩ : ∃ eb, wc.heap.size = eb := ⟨_, rfl⟩
    have hebw : w.heap.size ≤ eb := by have := B1.out.size; omega
    rw [heb] at HST ⊢
    have HEB := Lib.hid hebw
    clear h2 b2 heb hebw
    go_upto_region 13 with fail
    have HB3 := Lib.hid (B2.out.alloc B2.out.size (.cells #[.pointer (some ⟨k.sb, 0, none⟩), .pointer (some ⟨eb, 0, none⟩), .slice A bs.length c, .int .i64 fr, .int .i64 sh] 88))
    obtain ⟨w3, hw3⟩ : ∃ w3, w2.alloc (.cells #[.pointer (some ⟨k.sb, 0, none⟩), .pointer (some ⟨eb, 0, none⟩), .slice A bs.length c, .int .i64 fr, .int .i64 sh] 88) = w3 := ⟨_, rfl⟩
    obtain ⟨O, hO⟩ : ∃ O : Nat → Prop, (fun q => q = eb ∨ w2.heap.size + 1 ≤ q) = O := ⟨_, rfl⟩
    have hxb2 := B2.out.size
    have HO : Hid (∀ q, O q → w.heap.size ≤ q) := Lib.hid (fun q hq => by
      rw [← hO] at hq
      rcases hq with e | e
      · have := HEB.out; omega
      · omega)
    obtain ⟨xb, hxb⟩ : ∃ xb, w2.heap.size = xb := ⟨_, rfl⟩
    rw [hw3, hO, hxb] at HST
    rw [hw3] at HB3
    rw [hw3, hxb]
    rw [hxb] at hxb2
    have HXB := Lib.hid hxb2
    clear hw3 hO hxb hxb2 hsb B1 B2 E2
    have hlen2 : (l.length : Int) ≤ 140737488355328 := by omega
    go_wp2
    go_loopw [64] (fun iv wr => ∃ (j : Nat) (x : PS), iv = .int .i64 j ∧ j ≤ l.length ∧ WrAt O wr k ⟨eb, xb⟩ A c bs sh x.pos x.st x.rep x.s ∧ rightGo bs (l.drop j) x.pos = some bs.length ∧ wOps k bs fr T (opsOf (l.drop j)) x = X ∧ x.s.d.cnt + costOps (opsOf (l.drop j)) + 110 ≤ 1000000 ∧ x.st < 12 ∧ (∀ i, x.rep i < 4294967296) ∧ fr ≤ x.pos ∧ x.pos ≤ bs.length ∧ Frm (KZ k) w wr) (fun iv _ => l.length - (intOf iv).toNat)
    case atStart => exact ⟨0, ⟨fr, st, rep, ⟨newEnc, pr⟩⟩, rfl, by omega, HST.out, HGO.out.1, HX.out, by have := HCO.out; have h0 : newEnc.cnt = 0 := rfl; simp only [List.drop_zero]; omega, hst, HREP.out, Nat.le_refl _, HN.out.2.1, Frm.of_below HB3.out⟩
    case round =>
      obtain ⟨j, x, rfl, hj, hwr, hgo, hX, hcost, hxst, hxrep, hxf, hxl, hfr⟩ := hrel
      have HWR := Lib.hid hwr
      have HGO2 := Lib.hid hgo
      have HX2 := Lib.hid hX
      have HCO2 := Lib.hid hcost
      have HXR := Lib.hid hxrep
      have HXF := Lib.hid (And.intro hxf hxl)
      have HFR := Lib.hid hfr
      have hbnd := hwr.p.lt
      simp only at hbnd
      have HBND := Lib.hid hbnd
      clear hwr hgo hX hcost hxrep hxf hxl hfr hbnd HST HB3
      by_cases hjl : j < l.length
      · obtain ⟨b, off, hB, hb, hcell⟩ := HL.out (by omega)
        subst hB
        obtain ⟨c0, c1, c2⟩ := hcell j hjl
        obtain ⟨s, hs⟩ : ∃ s, l.getD j default = s := ⟨_, rfl⟩
        rw [hs] at c0 c1 c2
        have hdrop : l.drop j = s :: l.drop (j + 1) := by
          rw [List.drop_eq_getElem_cons hjl, ← hs]
          simp [List.getD, hjl]
        have hbk : ¬ KZ k b := HLO.out ⟨b, off, none⟩ rfl
        have hbl := HFR.out.block b hb hbk
        have x0 := (World.cell?_of_block (a := ⟨b, off + j * 3, none⟩) hbl).trans c0
        have x1 := (World.cell?_of_block (a := ⟨b, off + j * 3 + 1, none⟩) hbl).trans c1
        have x2 := (World.cell?_of_block (a := ⟨b, off + j * 3 + 2, none⟩) hbl).trans c2
        obtain ⟨⟨s0, s1⟩, ⟨s2, s3⟩, s4, s5⟩ := HF.out s (by rw [← hs]; simp [List.getD, hjl])
        have HDR := Lib.hid hdrop
        clear hcell c0 c1 c2 hs hdrop hbl hbk
        obtain ⟨sl, sm, sb⟩ := s
        simp only at x0 x1 x2 s0 s1 s2 s3 s4 s5
        have hg := HGO2.out
        have hX := HX2.out
        have hco := HCO2.out
        rw [HDR.out] at hg hX hco
        rw [rightGo] at hg
        unfold opsOf opsSq at hX hco
        by_cases hbad : RB1 ⟨sl, sm, sb⟩ (bs.length - x.pos)
        · rw [if_pos hbad] at hg; cases hg
        rw [if_neg hbad] at hg
        unfold RB1 at hbad
        simp only at hbad hg hX hco
        obtain ⟨L, rfl⟩ : ∃ L : Nat, sl = L := ⟨sl.toNat, by omega⟩
        obtain ⟨M, rfl⟩ : ∃ M : Nat, sm = M := ⟨sm.toNat, by omega⟩
        simp only [Int.toNat_natCast] at hg hX hco
        rw [List.append_assoc] at hX hco
        obtain ⟨R1, hR1⟩ : ∃ R1, (if 0 < (M : Int) then [some (M, sb.toNat - 1)] else []) ++ opsOf (l.drop (j + 1)) = R1 := ⟨_, rfl⟩
        rw [hR1] at hX hco
        rw [costOps_append, costOps_lits] at hco
        have hL1 : x.pos + L ≤ bs.length := by have := HXF.out; omega
        have HG := Lib.hid hg
        have HX3 := Lib.hid hX
        have HCO3 := Lib.hid hco
        have HR1 := Lib.hid hR1
        have HL1 := Lib.hid hL1
        have HM := Lib.hid (show M ≠ 1 ∧ M ≤ 273 by omega)
        have hLi : (L : Int) ≤ 16777216 := by have := HN.out.1; omega
        have H1 := Lib.hid (HWR.out.narrow ((Frm.refl (fun _ => False) wr).alloc (.cells #[.int .i64 (L : Int), .int .i64 (M : Int), .int .i64 sb] 69)) (fun q => q = wr.heap.size) (fun q e => by
          have : (wr.alloc (.cells #[.int .i64 (L : Int), .int .i64 (M : Int), .int .i64 sb] 69)).heap.size = wr.heap.size + 1 := by show (wr.heap.push _).size = _; rw [Array.size_push]
          omega))
        have HP := Lib.hid (Pts.new wr #[.int .i64 (L : Int), .int .i64 (M : Int), .int .i64 sb] 69)
        have HF1 := Lib.hid (HFR.out.alloc (.cells #[.int .i64 (L : Int), .int .i64 (M : Int), .int .i64 sb] 69))
        clear hg hX hco hR1 hL1 hbad
        go_wp2_with fail
        obtain ⟨wo, rfl⟩ : ∃ wo : World, wo = wr := ⟨_, rfl⟩
        obtain ⟨yb, hyb⟩ : ∃ yb, wo.heap.size = yb := ⟨_, rfl⟩
        rw [hyb] at H1 HP HBND ⊢
        obtain ⟨O1, hO1⟩ : ∃ O1 : Nat → Prop, (fun q => O q ∧ ¬ q = yb) = O1 := ⟨_, rfl⟩
        rw [hO1] at H1
        have HO1 : Hid ((∀ q, O1 q → O q) ∧ ¬ O1 yb) := Lib.hid ⟨fun q hq => by rw [← hO1] at hq; exact hq.1, fun hq => by rw [← hO1] at hq; exact hq.2 rfl⟩
        have HWB : Hid (w.heap.size ≤ yb) := Lib.hid (by have := HFR.out.size; omega)
        have HSL : Hid (k.sb < yb ∧ k.lb < yb) := Lib.hid ⟨by have := HWR.out.lz.m.lt; omega, by have := HWR.out.lz.l.lt; omega⟩
        clear hO1 x0 x1 x2
        go_loopw [70] (fun iv wq => ∃ (t : Nat) (y : PS), iv = .int .i64 t ∧ t ≤ L ∧ WrAt O1 wq k ⟨eb, xb⟩ A c bs sh y.pos y.st y.rep y.s ∧ y.pos = x.pos + t ∧ wOps k bs fr T (List.replicate (L - t) none ++ R1) y = X ∧ y.s.d.cnt + (9 * (L - t) + costOps R1) + 110 ≤ 1000000 ∧ y.st < 12 ∧ (∀ i, y.rep i < 4294967296) ∧ Pts wq yb #[.int .i64 (L : Int), .int .i64 (M : Int), .int .i64 sb] 69 ∧ Frm (KZ k) w wq) (fun iv _ => L - (intOf iv).toNat)
        case atStart => exact ⟨0, x, rfl, by omega, H1.out, rfl, HX3.out, HCO3.out, hxst, HXR.out, HP.out, HF1.out⟩
        case round =>
          obtain ⟨t, y, rfl, ht, hw1, hyp, hyX, hyc, hyst, hyrep, hpy, hfy⟩ := hrel
          have HW1 := Lib.hid hw1
          have HYP := Lib.hid hyp
          have HYX := Lib.hid hyX
          have HYC := Lib.hid hyc
          have HYR := Lib.hid hyrep
          have HPY := Lib.hid hpy
          have HFY := Lib.hid hfy
          have z1 : wr.cell? ⟨yb, 1, none⟩ = some (.int .i64 (M : Int)) := by rw [hpy.cell]; rfl
          have z2 : wr.cell? ⟨yb, 2, none⟩ = some (.int .i64 sb) := by rw [hpy.cell]; rfl
          clear hw1 hyp hyX hyc hyrep hpy hfy H1 HP
          have htot : (y.pos : Int) + sh = ((T + (y.pos - fr) : Nat) : Int) := by have := HSH.out; have := HYP.out; have := HXF.out; omega
          have HTOT := Lib.hid htot
          clear htot
          by_cases htL : t < L
          · go_wp2_with fail
            refine (putlit_p O1 wr k ⟨eb, xb⟩ A c bs sh y.pos (T + (y.pos - fr)) y.st y.rep y.s HW1.out HK.out HTOT.out (by have := HN.out; have := HYP.out; have := HL1.out; omega) (by have := HYP.out; have := HL1.out; omega) (by have := HN.out; omega) hyst (HYR.out 0) (by have := HYC.out; omega)).mono ?_; rintro e w4 ⟨rfl, h4, f4⟩
            have H4 := Lib.hid h4
            have P4 := Lib.hid (HPY.out.frm f4 (by
              rintro ((e | e | e) | e)
              · exact HO1.out.2 e
              · have := HSL.out; omega
              · have := HSL.out; omega
              · have := HBND.out; simp only at e; omega))
            have F4 := Lib.hid (HFY.out.transR f4 (fun q hq e => by
              rcases e with (e | e | e) | e
              · have := HO.out q (HO1.out.1 q e); omega
              · exact .inl e
              · exact .inr e
              · have := HXB.out; simp only at e; omega))
            have hX5 : wOps k bs fr T (List.replicate (L - (t + 1)) none ++ R1) (wOp k bs fr T y none) = X := by
              have h := HYX.out
              rw [show L - t = (L - (t + 1)) + 1 by omega, List.replicate_succ, List.cons_append, wOps_cons] at h
              exact h
            have hc5 : (wOp k bs fr T y none).s.d.cnt + (9 * (L - (t + 1)) + costOps R1) + 110 ≤ 1000000 := by
              have h1 := cnt_putLit k bs (T + (y.pos - fr)) y.pos y.st y.rep y.s
              have h2 := HYC.out
              show (putLit k bs (T + (y.pos - fr)) y.pos y.st y.rep y.s).d.cnt + _ + 110 ≤ 1000000
              omega
            have HX5 := Lib.hid hX5
            have HC5 := Lib.hid hc5
            clear h4 f4 hX5 hc5 z1 z2
            go_wp2
            exact ⟨⟨t + 1, wOp k bs fr T y none, by go_num, by omega, H4.out, by show y.pos + 1 = _; have := HYP.out; omega, HX5.out, HC5.out, show behS y.st 0 < 12 from behS_lt hyst, HYR.out, P4.out, F4.out⟩, by simp [intOf]; omega⟩
          · obtain rfl : t = L := by omega
            have hg := HG.out
            have hX6 := HYX.out
            rw [Nat.sub_self, List.replicate_zero, List.nil_append] at hX6
            have hpy := HYP.out
            rw [← hpy] at hg
            by_cases hM0 : M = 0
            · subst hM0
              rw [if_pos (show ((0 : Nat) : Int) = 0 from rfl)] at hg
              have hR1 := HR1.out
              rw [if_neg (show ¬ (0 : Int) < ((0 : Nat) : Int) by omega), List.nil_append] at hR1
              rw [← hR1] at hX6
              have hc6 : y.s.d.cnt + costOps (opsOf (l.drop (j + 1))) + 110 ≤ 1000000 := by have := HYC.out; rw [hR1]; omega
              have HC6 := Lib.hid hc6
              have HG6 := Lib.hid hg
              have HX6 := Lib.hid hX6
              have HW6 := Lib.hid (HW1.out.widen HWR.out HO1.out.1 (by have := HPY.out.lt; omega))
              have hM1 : ((0 : Nat) : Int) ≤ 0 := by omega
              clear hg hX6 hpy hR1 hc6
              go_wp2
              exact ⟨⟨j + 1, y, by go_num, by omega, HW6.out, HG6.out, HX6.out, HC6.out, hyst, HYR.out, by have := HXF.out; have := HYP.out; omega, by have := HL1.out; have := HYP.out; omega, HFY.out⟩, by simp [intOf]; omega⟩
            · rw [if_neg (show ¬ ((M : Nat) : Int) = 0 by omega)] at hg
              by_cases hbad2 : RB2 ⟨t, M, sb⟩ bs.length y.pos
              · rw [if_pos hbad2] at hg; cases hg
              rw [if_neg hbad2] at hg
              unfold RB2 at hbad2
              simp only at hbad2 hg
              obtain ⟨K, rfl⟩ : ∃ K : Nat, sb = K := ⟨sb.toNat, by omega⟩
              simp only [Int.toNat_natCast] at hg
              by_cases hsm : Same bs y.pos M K
              · rw [if_pos hsm] at hg
                have hR1 := HR1.out
                rw [if_pos (show (0 : Int) < (M : Int) by omega)] at hR1
                rw [← hR1] at hX6
                simp only [Int.toNat_natCast, List.cons_append, List.nil_append] at hX6
                rw [wOps_cons] at hX6
                have hyc2 : y.s.d.cnt + (100 + costOps (opsOf (l.drop (j + 1)))) + 110 ≤ 1000000 := by
                  have h1 := HYC.out
                  rw [← hR1] at h1
                  simp only [Nat.sub_self, Nat.mul_zero, Nat.zero_add, List.cons_append, List.nil_append, costOps, costOp] at h1
                  exact h1
                obtain ⟨D, hD⟩ : ∃ D, K - 1 = D := ⟨_, rfl⟩
                rw [hD] at hX6
                have hK1 : K = D + 1 := by omega
                have hDb : D < 4294967296 := by have := HN.out; omega
                have HG6 := Lib.hid hg
                have HX6 := Lib.hid hX6
                have HC6 := Lib.hid hyc2
                have HD := Lib.hid (And.intro hK1 hDb)
                have HB2 := Lib.hid (show y.pos + M ≤ bs.length by omega)
                have hM1 : (0 : Int) < (M : Int) := by omega
                have HM2 := Lib.hid (show 2 ≤ M by have := HM.out; omega)
                clear hg hX6 hyc2 hD hK1 hDb hR1 hpy hsm hbad2 hM0
                go_wp2_with fail
                refine (putmatch_p O1 wr k ⟨eb, xb⟩ A c bs sh y.pos (T + (y.pos - fr)) y.st y.rep y.s HW1.out HK.out HTOT.out (by have := HN.out; have := HB2.out; omega) M K D HM2.out HM.out.2 HD.out.1 HD.out.2 (by have := HN.out; have := HB2.out; omega) hyst HYR.out (by have := HC6.out; omega)).mono ?_; rintro e w4 ⟨rfl, h4, f4⟩
                have F4 := Lib.hid (HFY.out.transR f4 (fun q hq e => by
                  rcases e with (e | e | e) | e
                  · have := HO.out q (HO1.out.1 q e); omega
                  · exact .inl e
                  · exact .inr e
                  · have := HXB.out; simp only at e; omega))
                have H4 := Lib.hid (h4.widen HWR.out HO1.out.1 (by have := HPY.out.lt; have := f4.size; omega))
                have hinv := putMatch_inv k (T + (y.pos - fr)) M D y.st y.rep y.s hyst HYR.out HD.out.2
                have hcn := cnt_putMatch k (T + (y.pos - fr)) M D y.st y.rep y.s HD.out.2
                have HINV := Lib.hid hinv
                have HCN : Hid ((wOp k bs fr T y (some (M, D))).s.d.cnt + costOps (opsOf (l.drop (j + 1))) + 110 ≤ 1000000) := Lib.hid (by
                  have h1 := HC6.out
                  show (putMatch k (T + (y.pos - fr)) M D y.st y.rep y.s).2.2.d.cnt + _ + 110 ≤ 1000000
                  omega)
                clear h4 f4 z1 z2 hinv hcn
                go_wp2
                exact ⟨⟨j + 1, wOp k bs fr T y (some (M, D)), by go_num, by omega, H4.out, HG6.out, HX6.out, HCN.out, HINV.out.1, HINV.out.2, by show fr ≤ y.pos + M; have := HXF.out; have := HYP.out; omega, HB2.out, F4.out⟩, by simp [intOf]; omega⟩
              · rw [if_neg hsm] at hg; cases hg
      · obtain rfl : j = l.length := by omega
        have hX := HX2.out
        rw [List.drop_length] at hX
        have hX2 : x = X := hX
        subst hX2
        have hco := HCO2.out
        have HC7 : Hid (x.s.d.cnt + 5 < 1000000) := Lib.hid (by omega)
        clear hX hco
        obtain ⟨⟨v, hv, hvo⟩, hob, hoz, hI⟩ := HWR.out.lz.c
        have HV := Lib.hid hv
        have HVO := Lib.hid (And.intro hvo hob)
        clear hv hvo hob hoz hI
        go_wp2_with fail
        refine (eclose_p eb 0 v x.s.d wr HV.out (Nat.zero_le _) HC7.out).mono ?_; rintro e w5 ⟨v', rv, rfl, h5, f5, m5, o5, n5⟩
        have F5 := Lib.hid (HFR.out.transR f5 (fun q hq e => by
          rcases e with e | e
          · have := HEB.out; omega
          · have := HO.out q (HVO.out.1 q e); omega))
        have S5 : Hid (PAt w5 k x.st x.rep x.s.pr) := Lib.hid (by
          have hne : ∀ q, KZ k q → ¬ (q = eb ∨ v.ownBlock = some q) := by
            intro q hq e
            have hoq : O q := by
              rcases e with e | e
              · rw [e]; exact HVO.out.2
              · exact HVO.out.1 q e
            rcases hq with e2 | e2
            · exact HWR.out.lz.ne.1 (e2 ▸ hoq)
            · exact HWR.out.lz.ne.2.1 (e2 ▸ hoq)
          exact ⟨HWR.out.lz.m.frm f5 (hne _ (.inl rfl)), HWR.out.lz.l.frm f5 (hne _ (.inr rfl)), HWR.out.lz.fit, HWR.out.lz.ne.2.2⟩)
        have O5 := Lib.hid (o5.low (base' := w.heap.size) HFR.out.size)
        clear h5 f5 m5 o5 n5
        go_wp2
        go_ret2
        exact ⟨rv, rfl, O5.out, S5.out, F5.out⟩
end Go.Proofs.Ytefbjamepbkklaa

/- What is told of a chunk that was made (room, props, read); the refusals of Chunk. -/
namespace Go.Proofs.Ytefbjamepbkklaa
open Go.RowKit Rng Win Lz Fnd
set_option linter.unusedVariables false
set_option linter.unusedSimpArgs false
theorem set93_p (k : LK) (st : Nat) (rep : Nat → Nat) (pr : Pr) (w : World) (h : StAt w k st rep pr) : Calls Try.prog 62 #[.pointer (some ⟨k.sb, 0, none⟩), .int .u8 93] w fun e w' => e = .returned (.int .i64 0) ∧ ∃ lb, w.heap.size ≤ lb ∧ StAt w' (newK k.sb lb) 0 (fun _ => 0) (fun _ => 1024) ∧ Frm (· = k.sb) w w' := by
  have hm := h.m
  rw [← qcells_m] at hm
  refine (props_p 93 k.sb k.lc k.lp k.pb st rep pr _ 132 w hm ⟨_, _, _, rfl⟩ (by omega)).mono ?_
  rintro e w' ⟨rfl, hf, h2⟩
  obtain ⟨lb, h3, h4, h5⟩ := h2 (by omega)
  exact ⟨rfl, lb, h3, ⟨h4, h5, fun _ => (by decide : 1024 < 65536), by have := h.m.lt; show k.sb ≠ lb; omega⟩, hf⟩
/-- A chunk out of a new state, in an empty window of 2^16 bytes. -/
def Reads (total n : Nat) (cs told : List UInt8) : Prop := ∀ b lb, ∃ y, chunkOf (newK b lb) 65536 total n 0 (fun _ => 0) (fun _ => 1024) [] cs = some (told, y)
theorem ba_nil (l : List UInt8) : (⟨#[]⟩ : ByteArray) ++ ⟨l.toArray⟩ = ⟨l.toArray⟩ := by
  apply ByteArray.ext
  simp
theorem chunk_told (k : LK) (st : Nat) (rep : Nat → Nat) (pr : Pr) (base wb kb S : Nat) (C bs told : List UInt8) (y : RS) (wv : Value) (A : Option Addr) (n c l total : Nat) (w : World)
    (hs : StAt w k st rep pr) (hw : WinC w base wb kb S C wv) (hb : base ≤ w.heap.size) (hS : S ≤ 16777216) (hk : k.Ok) (hst : st < 12) (hrep : ∀ j, rep j < 4294967296)
    (hl : l = bs.length) (hr : BRow w w.heap.size A bs) (hc : bs.length ≤ c) (hcm : c ≤ maxLen) (hlen : bs.length ≤ 140737488355328)
    (h1 : 1 ≤ n) (h2 : n ≤ 2097152) (ht : total < 9223372036854775808) (hy : chunkOf k S total n st rep pr C bs = some (told, y)) :
    Calls Try.prog 63 #[.pointer (some ⟨k.sb, 0, none⟩), .pointer (some ⟨wb, 0, none⟩), .int .i64 total, .slice A l c, .int .i64 n] w fun e w' => ∃ A5 c5, e = .returned (.tuple #[.slice A5 told.length c5, .int .i64 0]) ∧ OwnB w' 5 w.heap.size (.slice A5 told.length c5) told ∧ Frm (fun q => q = k.sb ∨ q = k.lb ∨ q = wb ∨ wv.ownBlock = some q) w w' := by
  refine (chunk_p k st rep pr base wb kb S C bs wv A n c l total w hs hw hb hS hk hst hrep hl hr hc hcm hlen h1 h2 ht).mono ?_
  rintro e w' ⟨hf, (⟨hn, rfl⟩ | ⟨told', y', tv, wv', hR, rfl, ho, _⟩)⟩
  · rw [hy] at hn; cases hn
  · rw [hy] at hR
    injection hR with hR
    injection hR with e1 e2
    subst e1
    obtain ⟨A5, c5, rfl, _, _, _⟩ := ho.slice
    exact ⟨A5, c5, rfl, ho, hf⟩
theorem putc_nil (A : Option Addr) (n c : Nat) (fr total : Int) (B : Option Addr) (m d : Nat) (w : World) : Calls Try.prog 14 #[.pointer none, .slice A n c, .int .i64 fr, .int .i64 total, .slice B m d] w fun e w' => e = .returned (.tuple #[.slice none 0 0, .int .i64 1]) ∧ w = w' := by
  go_enter Try.func14, Try.ntmps14
  go_wp2
  go_ret2
  exact ⟨rfl, rfl⟩
set_option maxHeartbeats 1000000 in
theorem put_arg (p : Addr) (A : Option Addr) (n c : Nat) (fr total : Int) (B : Option Addr) (m d : Nat) (w : World) (h : fr < 0 ∨ (n : Int) < fr ∨ total < 0) : Calls Try.prog 14 #[.pointer (some p), .slice A n c, .int .i64 fr, .int .i64 total, .slice B m d] w fun e w' => e = .returned (.tuple #[.slice none 0 0, .int .i64 2]) ∧ w = w' := by
  have h3 : fr < 0 ∨ (0 ≤ fr ∧ (n : Int) < fr) ∨ (0 ≤ fr ∧ fr ≤ (n : Int) ∧ total < 0) := by omega
  clear h
  rcases h3 with h | ⟨h, h1⟩ | ⟨h, h1, h2⟩
  · go_enter Try.func14, Try.ntmps14
    go_wp2
    go_ret2
    exact ⟨rfl, rfl⟩
  · go_enter Try.func14, Try.ntmps14
    go_wp2
    go_ret2
    exact ⟨rfl, rfl⟩
  · go_enter Try.func14, Try.ntmps14
    go_wp2
    go_ret2
    exact ⟨rfl, rfl⟩
set_option maxHeartbeats 1000000 in
theorem put_bad (p : Addr) (A : Option Addr) (bs : List UInt8) (n c fr total : Nat) (B : Option Addr) (l : List Sq) (m d : Nat) (w : World) (hn : n = bs.length) (hc : bs.length ≤ c) (hr : BRow w w.heap.size A bs) (hlen : bs.length ≤ 140737488355328)
    (hm : m = l.length) (hmd : l.length ≤ d) (hl : SqRow w w.heap.size B l) (hml : l.length ≤ 140737488355328) (hfit : ∀ s ∈ l, s.fits) (hfr : fr ≤ bs.length) (hright : rightP bs fr l = false) :
    Calls Try.prog 14 #[.pointer (some p), .slice A n c, .int .i64 fr, .int .i64 total, .slice B m d] w fun e w' => e = .returned (.tuple #[.slice none 0 0, .int .i64 11]) ∧ Below w.heap.size w w' := by
  subst hn; subst hm
  have HR1 := Lib.hid (right_p A bs bs.length c fr B l l.length d w rfl hc hr (by omega) rfl hmd hl hml hfit hfr)
  rw [hright] at HR1
  have hf1 : (0 : Int) ≤ (fr : Int) := by omega
  have hf2 : (fr : Int) ≤ (bs.length : Int) := by omega
  have ht1 : (0 : Int) ≤ (total : Int) := by omega
  clear hr hl hfit hright hfr
  go_enter Try.func14, Try.ntmps14
  go_wp2_with fail
  refine HR1.out.mono ?_; rintro e w1 ⟨rfl, b1⟩
  have B1 := Lib.hid b1
  clear b1 HR1
  go_wp2
  go_ret2
  exact ⟨rfl, B1.out⟩
end Go.Proofs.Ytefbjamepbkklaa

/- What the document says of abcabc: the walk of wakes. -/
namespace Go.Proofs.Ytefbjamepbkklaa
open Go.RowKit Rng Win Lz Fnd
set_option linter.unusedVariables false
set_option linter.unusedSimpArgs false
set_option maxRecDepth 100000 in
theorem wOp_k (b lb b' lb' : Nat) (bs : List UInt8) (fr total : Nat) : wOp (newK b lb) bs fr total = wOp (newK b' lb') bs fr total := by
  funext x o
  cases o <;> rfl
theorem opsB_k (b lb b' lb' : Nat) (bs : List UInt8) (fr total st : Nat) (rep : Nat → Nat) (pr : Pr) (l : List (Option (Nat × Nat))) : opsB (newK b lb) bs fr total st rep pr l = opsB (newK b' lb') bs fr total st rep pr l := by
  unfold opsB wOps
  rw [wOp_k b lb b' lb']
theorem reads_ops (b lb : Nat) (bs : List UInt8) (total : Nat) (l : List (Option (Nat × Nat))) (hok : OkOps bs 0 l) (hS : bs.length ≤ 65536) : Reads total bs.length (opsB (newK b lb) bs 0 total 0 (fun _ => 0) (fun _ => 1024) l) bs := by
  intro b' lb'
  rw [opsB_k b lb b' lb']
  obtain ⟨y, hy, _⟩ := ops_read (newK b' lb') 65536 bs 0 total 0 (fun _ => 0) (fun _ => 1024) l hok (Nat.zero_le _) hS (by omega)
  exact ⟨y, by simpa using hy⟩
set_option maxRecDepth 100000 in
theorem cnt_ops (k : LK) (bs : List UInt8) (fr T : Nat) (hb : bs.length ≤ 16777216) : ∀ (l : List (Option (Nat × Nat))) (x : PS), OkOps bs x.pos l → (wOps k bs fr T l x).s.d.cnt ≤ x.s.d.cnt + costOps l
  | [], x, _ => Nat.le_refl _
  | none :: l, x, h => by
    rw [wOps_cons]
    have h1 := cnt_ops k bs fr T hb l (wOp k bs fr T x none) h.2
    have h2 : (wOp k bs fr T x none).s.d.cnt ≤ x.s.d.cnt + 9 := cnt_putLit _ _ _ _ _ _ _
    show _ ≤ x.s.d.cnt + (_ + costOps l)
    unfold costOp
    simp only
    omega
  | some m :: l, x, h => by
    obtain ⟨a1, a2, a3, a4, a5, a6⟩ := h
    rw [wOps_cons]
    have h1 := cnt_ops k bs fr T hb l (wOp k bs fr T x (some m)) a6
    have h2 : (wOp k bs fr T x (some m)).s.d.cnt ≤ x.s.d.cnt + 100 := cnt_putMatch _ _ _ _ _ _ _ (by omega)
    show _ ≤ x.s.d.cnt + (_ + costOps l)
    unfold costOp
    simp only
    omega
theorem opsB_len (k : LK) (bs : List UInt8) (fr total st : Nat) (rep : Nat → Nat) (pr : Pr) (l : List (Option (Nat × Nat))) (hb : bs.length ≤ 16777216) (hok : OkOps bs fr l) : (opsB k bs fr total st rep pr l).length ≤ costOps l + 5 := by
  have hI : EncI (wOps k bs fr (totOf total) l ⟨fr, st, rep, ⟨newEnc, pr⟩⟩).s.d := stays_wOps encI_stays k bs fr (totOf total) l (x := ⟨fr, st, rep, ⟨newEnc, pr⟩⟩) encI_new
  have h := (told_close hI).l
  have h1 := cnt_ops k bs fr (totOf total) hb l ⟨fr, st, rep, ⟨newEnc, pr⟩⟩ hok
  have h3 : newEnc.cnt = 0 := rfl
  unfold opsB
  simp only at h1
  omega
theorem wk_right : rightP [97, 98, 99, 97, 98, 99] 0 [⟨3, 3, 3⟩] = true := by kernel_rfl
theorem wk_wrong : rightP [97, 98, 99] 0 [⟨2, 0, 0⟩] = false := by kernel_rfl
theorem sq_one (w : World) (s : Sq) (T : TypeId) : SqRow (w.alloc (.cells #[.int .i64 s.lits, .int .i64 s.mat, .int .i64 s.back] T)) (w.heap.size + 1) (some ⟨w.heap.size, 0, none⟩) [s] := by
  intro _
  have hp := Pts.new w #[.int .i64 s.lits, .int .i64 s.mat, .int .i64 s.back] T
  refine ⟨w.heap.size, 0, rfl, Nat.lt_succ_self _, fun k hk => ?_⟩
  obtain rfl : k = 0 := by simpa using hk
  exact ⟨by rw [hp.cell]; rfl, by rw [hp.cell]; rfl, by rw [hp.cell]; rfl⟩
theorem bytes_new (w : World) (T : TypeId) (bs : List UInt8) (cs : Array Value) (fz : Nat × Nat) (h : cs = (bs.map byteV).toArray) : BRow (w.alloc (.cells cs T fz)) (w.heap.size + 1) (some ⟨w.heap.size, 0, none⟩) bs := by
  subst h
  intro _
  have hp : (w.alloc (.cells (bs.map byteV).toArray T fz)).heap[w.heap.size]? = some (.cells (bs.map byteV).toArray T fz) := by show (w.heap.push _)[w.heap.size]? = _; simp
  refine ⟨w.heap.size, 0, rfl, Nat.lt_succ_self _, fun j hj => ?_⟩
  have h : (w.alloc (.cells (bs.map byteV).toArray T fz)).cell? ⟨w.heap.size, 0 + j, none⟩ = (bs.map byteV).toArray[0 + j]? := by unfold World.cell?; simp only; rw [hp]; rfl
  rw [h, Nat.zero_add, List.getElem?_toArray, List.getElem?_map, List.getElem?_eq_getElem hj, List.getD_eq_getElem?_getD, List.getElem?_eq_getElem hj]
  rfl
/-- A new state tq9 put in by. -/
theorem pnew_p (lc lp pb : Nat) (h1 : lc + lp ≤ 4) (h2 : pb ≤ 4) (w : World) : Calls Try.prog 11 #[.int .i64 lc, .int .i64 lp, .int .i64 pb] w fun e w' => ∃ b lb, e = .returned (.tuple #[.pointer (some ⟨b, 0, none⟩), .int .i64 0]) ∧ w.heap.size ≤ b ∧ w.heap.size ≤ lb ∧ PAt w' ⟨b, lb, lc, lp, pb⟩ 0 (fun _ => 0) (fun _ => 1024) ∧ Below w.heap.size w w' := by
  refine (putnew_p lc lp pb h1 h2 w).mono ?_
  rintro e w' ⟨b, lb, rfl, h3, h4, h5, h6, h7, h8⟩
  exact ⟨b, lb, rfl, h3, h4, ⟨h6, h7, fun _ => (by decide : 1024 < 65536), h5⟩, h8⟩
theorem pnew32 (w : World) : Calls Try.prog 11 #[.int .i64 3, .int .i64 0, .int .i64 2] w fun e w' => ∃ b lb, e = .returned (.tuple #[.pointer (some ⟨b, 0, none⟩), .int .i64 0]) ∧ w.heap.size ≤ b ∧ w.heap.size ≤ lb ∧ PAt w' (newK b lb) 0 (fun _ => 0) (fun _ => 1024) ∧ Below w.heap.size w w' := pnew_p 3 0 2 (by omega) (by omega) w
theorem alloc_size (w : World) (o : Obj) : (w.alloc o).heap.size = w.heap.size + 1 := by show (w.heap.push _).size = _; rw [Array.size_push]
def abc6 : List UInt8 := [97, 98, 99, 97, 98, 99]
def abc3 : List UInt8 := [97, 98, 99]
/-- A text and one step, both new. -/
theorem text_step (w : World) (bs : List UInt8) (s : Sq) (cs : Array Value) (fz : Nat × Nat) (h : cs = (bs.map byteV).toArray) :
    Below w.heap.size w ((w.alloc (.cells cs 5 fz)).alloc (.cells #[.int .i64 s.lits, .int .i64 s.mat, .int .i64 s.back] 69)) ∧ ((w.alloc (.cells cs 5 fz)).alloc (.cells #[.int .i64 s.lits, .int .i64 s.mat, .int .i64 s.back] 69)).heap.size = w.heap.size + 2 ∧
      BRow ((w.alloc (.cells cs 5 fz)).alloc (.cells #[.int .i64 s.lits, .int .i64 s.mat, .int .i64 s.back] 69)) (w.heap.size + 2) (some ⟨w.heap.size, 0, none⟩) bs ∧
      SqRow ((w.alloc (.cells cs 5 fz)).alloc (.cells #[.int .i64 s.lits, .int .i64 s.mat, .int .i64 s.back] 69)) (w.heap.size + 2) (some ⟨w.heap.size + 1, 0, none⟩) [s] := by
  have b1 := below_alloc w (.cells cs 5 fz)
  have b2 := below_alloc (w.alloc (.cells cs 5 fz)) (.cells #[.int .i64 s.lits, .int .i64 s.mat, .int .i64 s.back] 69)
  have s1 := alloc_size w (.cells cs 5 fz)
  have s2 := alloc_size (w.alloc (.cells cs 5 fz)) (.cells #[.int .i64 s.lits, .int .i64 s.mat, .int .i64 s.back] 69)
  have r := bytes_new w 5 bs cs fz h
  have q := sq_one (w.alloc (.cells cs 5 fz)) s 69
  rw [s1] at q b2
  exact ⟨b1.trans (b2.mono (by omega)), by omega, (r.below b2).more (by omega), q.more (by omega)⟩
end Go.Proofs.Ytefbjamepbkklaa

/- What is encoded as LZMA2 is read as it was: plain. -/
namespace Go.Proofs.Ytefbjamepbkklaa
open Go.RowKit Rng Win Lz Fnd
set_option linter.unusedVariables false
set_option linter.unusedSimpArgs false
theorem ops_read2 (k : LK) (S : Nat) (bs : List UInt8) (fr total st : Nat) (rep : Nat → Nat) (pr : Pr) (l : List (Option (Nat × Nat))) (hok : OkOps bs fr l) (hf : fr ≤ bs.length) (hS : bs.length ≤ S) (hb : bs.length ≤ 16777216) :
    ∃ y, chunkOf k S total (bs.length - fr) st rep pr (bs.take fr) (opsB k bs fr total st rep pr l) = some (bs.drop fr, y) ∧ y.C = bs := by
  have hI : EncI (wOps k bs fr (totOf total) l ⟨fr, st, rep, ⟨newEnc, pr⟩⟩).s.d := stays_wOps encI_stays k bs fr (totOf total) l (x := ⟨fr, st, rep, ⟨newEnc, pr⟩⟩) encI_new
  have ht := told_close hI
  have hsub : Sub newEnc (wOps k bs fr (totOf total) l ⟨fr, st, rep, ⟨newEnc, pr⟩⟩).s.d := sub_wOps ht k bs fr (totOf total) l (x := ⟨fr, st, rep, ⟨newEnc, pr⟩⟩) encI_new (Sub.refl _)
  obtain ⟨h1, h2⟩ := told_head ht hsub
  unfold chunkOf opsB
  have h1' : ¬ newErr (wOps k bs fr (totOf total) l ⟨fr, st, rep, ⟨newEnc, pr⟩⟩).s.d.close.out ≠ 0 := fun h => h h1
  rw [if_neg h1']
  obtain ⟨y, h3, h4⟩ := ops_back ht k S fr (totOf total) (bs.length - fr) hS hb rfl l (bs.length - fr + 1) (x := ⟨fr, st, rep, ⟨newEnc, pr⟩⟩) (y := ⟨st, rep, ⟨newDec _, pr⟩, bs.take fr⟩) (told := []) ⟨encI_new, ⟨h2, rfl⟩, rfl, rfl, rfl, by simp only; rw [List.drop_of_length_le (by rw [List.length_take]; omega)], Nat.le_refl _, hf⟩ hok (by simp) rfl
  rw [h3]
  simp only
  rw [if_pos (Lz.told_end ht h4.p.1)]
  refine ⟨y, rfl, ?_⟩
  have hl := h4.len
  rw [List.length_drop] at hl
  have hn := h4.n
  have hff := h4.f
  rw [h4.c, List.take_of_length_le (by omega)]
def lenB (b : List UInt8) (fr : Nat) : Nat := b.length - fr - 1
def encPlain (b : List UInt8) (fr : Nat) : List UInt8 := (if fr = 0 then 1 else 2) :: UInt8.ofNat (lenB b fr / 256) :: UInt8.ofNat (lenB b fr) :: b.drop fr
def encLz (b : List UInt8) (fr : Nat) (c : List UInt8) : List UInt8 := (if fr = 0 then 224 else 192) :: UInt8.ofNat (lenB b fr / 256) :: UInt8.ofNat (lenB b fr) :: UInt8.ofNat ((c.length - 1) / 256) :: UInt8.ofNat (c.length - 1) :: 93 :: c
def lzB (b : List UInt8) (fr : Nat) (l : List Sq) : List UInt8 := opsB (newK 0 0) b fr fr 0 (fun _ => 0) (fun _ => 1024) (opsOf l)
/-- What may come of a stretch. -/
def IsEnc (b : List UInt8) (fr : Nat) (x : List UInt8) : Prop := (fr = b.length ∧ x = []) ∨ (fr < b.length ∧ x = encPlain b fr) ∨ (fr < b.length ∧ ∃ l, rightGo b l fr = some b.length ∧ (lzB b fr l).length + 6 < b.length - fr + 3 ∧ x = encLz b fr (lzB b fr l))
theorem two_num {m : Nat} (h : m < 65536) : (UInt8.ofNat (m / 256)).toNat * 256 + (UInt8.ofNat m).toNat = m := by
  rw [UInt8.toNat_ofNat', UInt8.toNat_ofNat']
  omega
/-- What is known behind fr bytes of a text. -/
structure At (b : List UInt8) (fr : Nat) (x : DS) : Prop where
  c : x.C = b.take fr
  t : x.total = fr
  g : x.begun = true ∨ fr = 0
theorem plain_one (S : Nat) {b : List UInt8} {fr : Nat} {x : DS} (h : At b fr x) (hf : fr < b.length) (hS : b.length ≤ S) (hb : b.length ≤ 65536) (rest : List UInt8) :
    ∃ y, one S x (encPlain b fr ++ rest) = .told (b.drop fr) y rest ∧ y.C = b ∧ y.total = fr ∧ y.begun = true := by
  obtain ⟨xC, xlc, xlp, xpb, xst, xrep, xpr, xtot, xbeg, xprops⟩ := x
  obtain ⟨h1, h2, h3⟩ := h
  simp only at h1 h2 h3
  subst h1; subst h2
  have hl : lenB b xtot < 65536 := by unfold lenB; omega
  have htw := two_num hl
  have hdl : (b.drop xtot).length = b.length - xtot := List.length_drop
  have key : ∀ (c : UInt8) (z : DS), c.toNat < 3 → 1 ≤ c.toNat → ¬ badHead ⟨b.take xtot, xlc, xlp, xpb, xst, xrep, xpr, xtot, xbeg, xprops⟩ c.toNat → DS.dict ⟨b.take xtot, xlc, xlp, xpb, xst, xrep, xpr, xtot, xbeg, xprops⟩ c.toNat = z → z.C = b.take xtot → 
      one S ⟨b.take xtot, xlc, xlp, xpb, xst, xrep, xpr, xtot, xbeg, xprops⟩ (c :: UInt8.ofNat (lenB b xtot / 256) :: UInt8.ofNat (lenB b xtot) :: b.drop xtot ++ rest) = .told (b.drop xtot) { z with C := b } rest := by
    intro c z hc3 hc1 hbad hz hzc
    have hh : headN c.toNat = 3 := by unfold headN; rw [if_neg (by omega), if_pos hc3]
    have e0 : (c :: UInt8.ofNat (lenB b xtot / 256) :: UInt8.ofNat (lenB b xtot) :: b.drop xtot ++ rest).getD 0 0 = c := rfl
    unfold one
    rw [e0, hh]
    rw [if_neg (by simp), if_neg (by omega), if_neg (by simp), if_neg (by omega), if_neg hbad]
    unfold oneBody
    rw [if_pos hc3, hz]
    have e1 : twoB ((c :: UInt8.ofNat (lenB b xtot / 256) :: UInt8.ofNat (lenB b xtot) :: b.drop xtot ++ rest).take 3) 1 + 1 = (b.drop xtot).length := by
      show (UInt8.ofNat (lenB b xtot / 256)).toNat * 256 + (UInt8.ofNat (lenB b xtot)).toNat + 1 = _
      rw [htw, hdl]
      unfold lenB
      omega
    have e2 : (c :: UInt8.ofNat (lenB b xtot / 256) :: UInt8.ofNat (lenB b xtot) :: b.drop xtot ++ rest).drop 3 = b.drop xtot ++ rest := rfl
    rw [e1, e2, if_neg (by rw [List.length_append]; omega), List.take_append_of_le_length (Nat.le_refl _), List.take_length, List.drop_append_of_le_length (Nat.le_refl _), List.drop_length, List.nil_append, hzc, List.take_append_drop, lastN_all hS]
  by_cases h0 : xtot = 0
  · subst h0
    refine ⟨{ ({ DS.clear ⟨b.take 0, xlc, xlp, xpb, xst, xrep, xpr, 0, xbeg, xprops⟩ with props := false } : DS) with C := b }, ?_, rfl, rfl, ?_⟩
    · unfold encPlain
      rw [if_pos rfl]
      exact key 1 { DS.clear ⟨b.take 0, xlc, xlp, xpb, xst, xrep, xpr, 0, xbeg, xprops⟩ with props := false } (by decide) (by decide) (by unfold badHead; rintro (e | e); exact e.2.1 rfl; exact absurd e.1 (by decide)) rfl rfl
    · rfl
  · have hg : xbeg = true := h3.resolve_right h0
    subst hg
    refine ⟨{ (⟨b.take xtot, xlc, xlp, xpb, xst, xrep, xpr, xtot, true, xprops⟩ : DS) with C := b }, ?_, rfl, rfl, ?_⟩
    · unfold encPlain
      rw [if_neg h0]
      exact key 2 ⟨b.take xtot, xlc, xlp, xpb, xst, xrep, xpr, xtot, true, xprops⟩ (by decide) (by decide) (by unfold badHead; rintro (e | e); exact absurd e.1 (by simp); exact absurd e.1 (by decide)) rfl rfl
    · rfl
theorem lz_one (S : Nat) {b : List UInt8} {fr : Nat} {x : DS} {l : List Sq} (h : At b fr x) (hf : fr < b.length) (hS : b.length ≤ S) (hb : b.length ≤ 65536) (hl : rightGo b l fr = some b.length) (hc : (lzB b fr l).length + 6 < b.length - fr + 3) (rest : List UInt8) :
    ∃ y, one S x (encLz b fr (lzB b fr l) ++ rest) = .told (b.drop fr) y rest ∧ y.C = b ∧ y.total = fr ∧ y.begun = true := by
  obtain ⟨y0, hy, hyC⟩ := ops_read2 (newK 0 0) S b fr fr 0 (fun _ => 0) (fun _ => 1024) (opsOf l) (right_ops l fr (by omega) hl) (by omega) hS (by omega)
  have hne : 1 ≤ (lzB b fr l).length := by
    have hI : EncI (wOps (newK 0 0) b fr (totOf fr) (opsOf l) ⟨fr, 0, fun _ => 0, ⟨newEnc, fun _ => 1024⟩⟩).s.d := stays_wOps encI_stays (newK 0 0) b fr (totOf fr) (opsOf l) (x := ⟨fr, 0, fun _ => 0, ⟨newEnc, fun _ => 1024⟩⟩) encI_new
    have := (told_close hI).l
    unfold lzB opsB
    omega
  change chunkOf (newK 0 0) S fr (b.length - fr) 0 (fun _ => 0) (fun _ => 1024) (b.take fr) (lzB b fr l) = some (b.drop fr, y0) at hy
  generalize lzB b fr l = c at *
  obtain ⟨xC, xlc, xlp, xpb, xst, xrep, xpr, xtot, xbeg, xprops⟩ := x
  obtain ⟨h1, h2, h3⟩ := h
  simp only at h1 h2 h3
  subst h1; subst h2
  have hlb : lenB b xtot < 65536 := by unfold lenB; omega
  have htw := two_num hlb
  have htc := two_num (show c.length - 1 < 65536 by omega)
  have hn : lenB b xtot + 1 = b.length - xtot := by unfold lenB; omega
  have key : ∀ (q : UInt8) (z : DS), 192 ≤ q.toNat → q.toNat % 32 = 0 → ¬ badHead ⟨b.take xtot, xlc, xlp, xpb, xst, xrep, xpr, xtot, xbeg, xprops⟩ q.toNat → DS.dict ⟨b.take xtot, xlc, xlp, xpb, xst, xrep, xpr, xtot, xbeg, xprops⟩ q.toNat = z → z.C = b.take xtot → z.total = xtot →
      one S ⟨b.take xtot, xlc, xlp, xpb, xst, xrep, xpr, xtot, xbeg, xprops⟩ (q :: UInt8.ofNat (lenB b xtot / 256) :: UInt8.ofNat (lenB b xtot) :: UInt8.ofNat ((c.length - 1) / 256) :: UInt8.ofNat (c.length - 1) :: 93 :: c ++ rest) = .told (b.drop xtot) ⟨y0.C, 3, 0, 2, y0.st, y0.rep, y0.s.pr, xtot, z.begun, true⟩ rest := by
    intro q z hq hq32 hbad hz hzc hzt
    have hh : headN q.toNat = 6 := by unfold headN; rw [if_neg (by omega), if_neg (by omega), if_neg (by omega), if_neg (by omega)]
    have e0 : (q :: UInt8.ofNat (lenB b xtot / 256) :: UInt8.ofNat (lenB b xtot) :: UInt8.ofNat ((c.length - 1) / 256) :: UInt8.ofNat (c.length - 1) :: 93 :: c ++ rest).getD 0 0 = q := rfl
    unfold one
    rw [e0, hh]
    rw [if_neg (by simp), if_neg (by omega), if_neg (by simp), if_neg (by omega), if_neg hbad]
    unfold oneBody
    rw [if_neg (by omega), hz]
    have e1 : twoB ((q :: UInt8.ofNat (lenB b xtot / 256) :: UInt8.ofNat (lenB b xtot) :: UInt8.ofNat ((c.length - 1) / 256) :: UInt8.ofNat (c.length - 1) :: 93 :: c ++ rest).take 6) 1 + 1 = b.length - xtot := by
      show (UInt8.ofNat (lenB b xtot / 256)).toNat * 256 + (UInt8.ofNat (lenB b xtot)).toNat + 1 = _
      rw [htw, hn]
    have e2 : twoB ((q :: UInt8.ofNat (lenB b xtot / 256) :: UInt8.ofNat (lenB b xtot) :: UInt8.ofNat ((c.length - 1) / 256) :: UInt8.ofNat (c.length - 1) :: 93 :: c ++ rest).take 6) 3 + 1 = c.length := by
      show (UInt8.ofNat ((c.length - 1) / 256)).toNat * 256 + (UInt8.ofNat (c.length - 1)).toNat + 1 = _
      rw [htc]
      omega
    have e3 : (q :: UInt8.ofNat (lenB b xtot / 256) :: UInt8.ofNat (lenB b xtot) :: UInt8.ofNat ((c.length - 1) / 256) :: UInt8.ofNat (c.length - 1) :: 93 :: c ++ rest).drop 6 = c ++ rest := rfl
    have e4 : (((q :: UInt8.ofNat (lenB b xtot / 256) :: UInt8.ofNat (lenB b xtot) :: UInt8.ofNat ((c.length - 1) / 256) :: UInt8.ofNat (c.length - 1) :: 93 :: c ++ rest).take 6).getD 5 0).toNat = 93 := rfl
    rw [e1, e2, e3, e4, if_neg (by rw [List.length_append]; omega), if_neg (by rintro ⟨_, e⟩; revert e; decide), List.take_append_of_le_length (Nat.le_refl _), List.take_length, List.drop_append_of_le_length (Nat.le_refl _), List.drop_length, List.nil_append, hq32, Nat.zero_mul, Nat.add_zero]
    unfold DS.set DS.reset
    rw [if_pos hq]
    unfold oneLz
    simp only
    rw [hzc, hzt]
    have e5 : chunkOf ⟨0, 0, 93 % 9, 93 / 9 % 5, 93 / 45⟩ S xtot (b.length - xtot) 0 (fun _ => 0) (fun _ => 1024) (b.take xtot) c = some (b.drop xtot, y0) := hy
    rw [e5]
  by_cases h0 : xtot = 0
  · subst h0
    refine ⟨⟨y0.C, 3, 0, 2, y0.st, y0.rep, y0.s.pr, 0, true, true⟩, ?_, hyC, rfl, ?_⟩
    · unfold encLz
      rw [if_pos rfl]
      exact key 224 (DS.clear ⟨b.take 0, xlc, xlp, xpb, xst, xrep, xpr, 0, xbeg, xprops⟩) (by decide) (by decide) (by unfold badHead; rintro (e | e); exact absurd e.2.2 (by decide); exact absurd e.1 (by decide)) rfl rfl rfl
    · rfl
  · have hg : xbeg = true := h3.resolve_right h0
    subst hg
    refine ⟨⟨y0.C, 3, 0, 2, y0.st, y0.rep, y0.s.pr, xtot, true, true⟩, ?_, hyC, rfl, ?_⟩
    · unfold encLz
      rw [if_neg h0]
      exact key 192 ⟨b.take xtot, xlc, xlp, xpb, xst, xrep, xpr, xtot, true, xprops⟩ (by decide) (by decide) (by unfold badHead; rintro (e | e); exact absurd e.1 (by simp); exact absurd e.1 (by decide)) rfl rfl rfl
    · rfl
/-- Stretches one behind the other. -/
def Pieces (b : List UInt8) : Nat → List (List UInt8) → Prop
  | a, [] => a = b.length
  | a, x :: xs => ∃ e, a ≤ e ∧ e ≤ b.length ∧ IsEnc (b.take e) a x ∧ Pieces b e xs
theorem pieces_go (S most : Nat) {b : List UInt8} (hS : b.length ≤ S) (hb : b.length ≤ 65536) (hm : b.length ≤ most) : ∀ (xs : List (List UInt8)) (a f : Nat) (x : DS), Pieces b a xs → a ≤ b.length → At b a x → xs.flatten.length + 1 < f → d2Go S most f x (b.take a) (xs.flatten ++ [0]) = (b, .inr [])
  | [], a, 0, x, h, ha, hx, hf => absurd hf (by omega)
  | [], a, f + 1, x, h, ha, hx, hf => by
    have h : a = b.length := h
    subst h
    have e : one S x ([].flatten ++ [0]) = .fin [] := rfl
    unfold d2Go
    rw [e, List.take_length]
  | t :: xs, a, f, x, h, ha, hx, hf => by
    obtain ⟨e, h1, h2, h3, h4⟩ := h
    have hel : (b.take e).length = e := by rw [List.length_take]; omega
    have hAt : At (b.take e) a x := ⟨by rw [hx.c, List.take_take, Nat.min_eq_left h1], hx.t, hx.g⟩
    have step : ∀ (t : List UInt8), a < e → (∃ y, one S x (t ++ (xs.flatten ++ [0])) = .told ((b.take e).drop a) y (xs.flatten ++ [0]) ∧ y.C = b.take e ∧ y.total = a ∧ y.begun = true) → xs.flatten.length + 2 < f → d2Go S most f x (b.take a) (t ++ (xs.flatten ++ [0])) = (b, .inr []) := by
      intro t hae ⟨y, k1, k2, k3, k4⟩ hf2
      obtain ⟨g, rfl⟩ : ∃ g, f = g + 1 := ⟨f - 1, by omega⟩
      unfold d2Go
      rw [k1]
      simp only
      have hdl : ((b.take e).drop a).length = e - a := by rw [List.length_drop, hel]
      have htl : (b.take a).length = a := by rw [List.length_take]; omega
      rw [if_neg (by omega)]
      have htx : b.take a ++ (b.take e).drop a = b.take e := by
        have : b.take a = (b.take e).take a := by rw [List.take_take, Nat.min_eq_left h1]
        rw [this, List.take_append_drop]
      rw [htx]
      exact pieces_go S most hS hb hm xs e g { y with total := y.total + ((b.take e).drop a).length } h4 h2 ⟨k2, by simp only; omega, .inl k4⟩ (by omega)
    rw [List.flatten_cons, List.append_assoc]
    rw [List.flatten_cons, List.length_append] at hf
    rcases h3 with ⟨g1, g2⟩ | ⟨g1, g2⟩ | ⟨g1, l, g2, g3, g4⟩
    · subst g2
      rw [hel] at g1
      subst g1
      rw [List.nil_append]
      exact pieces_go S most hS hb hm xs a f x h4 ha hx (by rw [List.length_nil] at hf; omega)
    · rw [hel] at g1
      have hl : 2 ≤ t.length := by rw [g2]; unfold encPlain; simp
      rw [g2]
      exact step _ g1 (plain_one S hAt (by omega) (by omega) (by omega) _) (by omega)
    · rw [hel] at g1
      have hl : 2 ≤ t.length := by rw [g4]; unfold encLz; simp
      rw [g4]
      exact step _ g1 (lz_one S hAt (by omega) (by omega) (by omega) g2 g3 _) (by omega)
/-- All stretches, and the end: read as the text. -/
theorem pieces_read (S most : Nat) {b : List UInt8} (hS : b.length ≤ S) (hb : b.length ≤ 65536) (hm : b.length ≤ most) (xs : List (List UInt8)) (h : Pieces b 0 xs) : d2P S most (xs.flatten ++ [0]) = (b, .inr []) :=
  pieces_go S most hS hb hm xs 0 _ newDS h (Nat.zero_le _) ⟨rfl, rfl, .inr rfl⟩ (by rw [List.length_append]; simp)
theorem isEnc_len {b : List UInt8} {fr : Nat} {x : List UInt8} (h : IsEnc b fr x) : x.length ≤ b.length - fr + 3 ∧ ((x.length = 0) ↔ fr = b.length) := by
  rcases h with ⟨g1, g2⟩ | ⟨g1, g2⟩ | ⟨g1, l, g2, g3, g4⟩
  · subst g2; exact ⟨by simp, by simp [g1]⟩
  · subst g2
    unfold encPlain
    simp only [List.length_cons, List.length_drop]
    omega
  · subst g4
    unfold encLz
    simp only [List.length_cons]
    omega
end Go.Proofs.Ytefbjamepbkklaa

/- What chunks say that they tell, by their heads; the first error among what is handed over: plain. -/
namespace Go.Proofs.Ytefbjamepbkklaa
open Go.RowKit Rng Win Lz Fnd
set_option linter.unusedVariables false
set_option linter.unusedSimpArgs false
def toldGo (b : List UInt8) : Nat → Nat → Nat → Nat
  | 0, _, n => n
  | f + 1, at_, n =>
    if at_ + 3 ≤ b.length ∧ n ≤ 262144 then
      if (b.getD at_ 0).toNat = 1 ∨ (b.getD at_ 0).toNat = 2 then toldGo b f (at_ + 3 + twoB b (at_ + 1) + 1) (n + twoB b (at_ + 1) + 1)
      else if 128 ≤ (b.getD at_ 0).toNat ∧ at_ + 6 ≤ b.length then toldGo b f (at_ + 5 + twoB b (at_ + 3) + 1 + (if 192 ≤ (b.getD at_ 0).toNat then 1 else 0)) (n + (b.getD at_ 0).toNat % 32 * 65536 + twoB b (at_ + 1) + 1)
      else n
    else n
def toldP (b : List UInt8) : Nat := toldGo b (b.length + 1) 0 0
theorem toldGo_end (b : List UInt8) (f at_ n : Nat) (h : b.length < at_ + 3) : toldGo b f at_ n = n := by
  cases f with
  | zero => rfl
  | succ f => unfold toldGo; rw [if_neg (by omega)]
theorem told_enc {b : List UInt8} {fr : Nat} {x : List UInt8} (hb : b.length ≤ 65536) (h : IsEnc b fr x) : toldP x = b.length - fr := by
  rcases h with ⟨h1, rfl⟩ | ⟨h1, rfl⟩ | ⟨h1, l, h2, h3, rfl⟩
  · show toldGo [] 1 0 0 = _
    rw [toldGo_end _ _ _ _ (by simp)]
    omega
  · have hl : lenB b fr < 65536 := by unfold lenB; omega
    have htw := two_num hl
    have e1 : twoB (encPlain b fr) 1 = lenB b fr := htw
    have hlen : (encPlain b fr).length = b.length - fr + 3 := by unfold encPlain; simp only [List.length_cons, List.length_drop]
    have e0 : ((encPlain b fr).getD 0 0).toNat = 1 ∨ ((encPlain b fr).getD 0 0).toNat = 2 := by
      unfold encPlain
      split
      · exact .inl rfl
      · exact .inr rfl
    unfold toldP
    unfold toldGo
    rw [if_pos (by omega), if_pos e0, e1, toldGo_end _ _ _ _ (by unfold lenB; omega)]
    unfold lenB
    omega
  · generalize lzB b fr l = c at *
    have hl : lenB b fr < 65536 := by unfold lenB; omega
    have htw := two_num hl
    have htc := two_num (show c.length - 1 < 65536 by omega)
    have e1 : twoB (encLz b fr c) 1 = lenB b fr := htw
    have e3 : twoB (encLz b fr c) 3 = c.length - 1 := htc
    have hlen : (encLz b fr c).length = c.length + 6 := by unfold encLz; simp only [List.length_cons]
    have e0 : ((encLz b fr c).getD 0 0).toNat = 224 ∨ ((encLz b fr c).getD 0 0).toNat = 192 := by
      unfold encLz
      split
      · exact .inl rfl
      · exact .inr rfl
    unfold toldP
    unfold toldGo
    rw [if_pos (by omega), if_neg (by omega), if_pos (by omega), if_pos (show 192 ≤ ((encLz b fr c).getD 0 0).toNat by omega), e1, e3, toldGo_end _ _ _ _ (by omega)]
    have : ((encLz b fr c).getD 0 0).toNat % 32 = 0 := by omega
    rw [this]
    unfold lenB
    omega
theorem evErr_zero {l : List (List UInt8 × Nat)} (h : ∀ p ∈ l, p.2 = 0) : evErr l = 0 := by
  unfold evErr
  have : (l.map (·.2)).find? (· ≠ 0) = none := List.find?_eq_none.2 (by
    intro a ha
    obtain ⟨q, hq, rfl⟩ := List.mem_map.1 ha
    simp [h q hq])
  rw [this]
  rfl
theorem evErr_snoc {l : List (List UInt8 × Nat)} {p : List UInt8 × Nat} (h : ∀ q ∈ l, q.2 = 0) (hp : p.2 ≠ 0) : evErr (l ++ [p]) = p.2 := by
  unfold evErr
  have : (l.map (·.2)).find? (· ≠ 0) = none := List.find?_eq_none.2 (by
    intro a ha
    obtain ⟨q, hq, rfl⟩ := List.mem_map.1 ha
    simp [h q hq])
  rw [List.map_append, List.find?_append, this]
  simp [hp]
/-- An error among what is handed over is the last of it. -/
theorem ev_stop {S most f told : Nat} {x : DS} {src : List UInt8} {l : List (List UInt8 × Nat)} {p : List UInt8 × Nat} (h : l ++ [p] <+: (evGo S most f x told src).1) (hp : p.2 ≠ 0) :
    (evGo S most f x told src).1 = l ++ [p] ∧ (evGo S most f x told src).2 = none ∧ ∀ q ∈ l, q.2 = 0 := by
  obtain ⟨t, ht⟩ := h
  rcases evGo_ok S most f x told src with ⟨m, b, e, h1, h2, h3, h4, h5⟩ | ⟨_, h2⟩
  · rw [h1] at ht
    rcases List.eq_nil_or_concat t with rfl | ⟨t', z, rfl⟩
    · rw [List.append_nil] at ht
      obtain ⟨e1, e2⟩ := List.append_inj' ht rfl
      refine ⟨by rw [h1, ← ht], h4, ?_⟩
      rw [e1]
      exact h5
    · rw [List.concat_eq_append, ← List.append_assoc] at ht
      obtain ⟨e1, e2⟩ := List.append_inj' ht rfl
      exfalso
      refine hp (h5 p ?_)
      rw [← e1]
      simp
  · exfalso
    refine hp (h2 p ?_)
    rw [← ht]
    simp
/-- If none of what was handed over is an error, the end was come tq9. -/
theorem ev_none {S most f told : Nat} {x : DS} {src : List UInt8} (h : ∀ q ∈ (evGo S most f x told src).1, q.2 = 0) : ∃ r, (evGo S most f x told src).2 = some r := by
  rcases evGo_ok S most f x told src with ⟨m, b, e, h1, h2, h3, h4, h5⟩ | ⟨⟨r, h1⟩, _⟩
  · exfalso
    refine h2 (h (b, e) ?_)
    rw [h1]
    simp
  · exact ⟨r, h1⟩
/-- What all chunks come tq9, by what is handed over. -/
def d2E (S most : Nat) (src : List UInt8) : List (List UInt8 × Nat) × Option (List UInt8) := evGo S most (src.length + 1) newDS 0 src
theorem d2E_d2P (S most : Nat) (src : List UInt8) : d2P S most src = (evOut (d2E S most src).1, match (d2E S most src).2 with | none => .inl (evErr (d2E S most src).1) | some r => .inr r) := by
  unfold d2P
  rw [evGo_d2Go]
  rfl
/-- Chunks that are taken: what they take; cut; with something behind. -/
theorem d2P_cut {S most : Nat} {b T r : List UInt8} (h : d2P S most b = (T, .inr r)) : ∃ n, 1 ≤ n ∧ n ≤ b.length ∧ r = b.drop n ∧ (∀ k, k < n → ∃ T' more, d2P S most (b.take k) = (T', .inl 10) ∧ T = T' ++ more) ∧ ∀ q, d2P S most (b.take n ++ q) = (T, .inr q) := by
  unfold d2P at h
  obtain ⟨p, h1, h2, h3⟩ := go_exact S most (b.length + 1) (b.length + 1) newDS [] b T r (by omega) (by omega) h
  have hl := congrArg List.length h1
  rw [List.length_append] at hl
  have hp : b.take p.length = p := by rw [h1, List.take_append_of_le_length (Nat.le_refl _), List.take_length]
  refine ⟨p.length, h2, by omega, by rw [h1, List.drop_append_of_le_length (Nat.le_refl _), List.drop_length, List.nil_append], fun k hk => ?_, fun q => ?_⟩
  · have hk2 : b.take k = p.take k := by rw [h1, List.take_append_of_le_length (by omega)]
    rw [hk2]
    have hne : p.drop k ≠ [] := by
      intro e
      have := congrArg List.length e
      rw [List.length_drop, List.length_nil] at this
      omega
    have hh : d2Go S most (b.length + 1) newDS [] (p.take k ++ p.drop k) = (T, .inr []) := by rw [List.take_append_drop]; exact h3
    exact go_cut S most (p.drop k) hne (b.length + 1) ((p.take k).length + 1) newDS [] (p.take k) T (by rw [List.take_append_drop]; omega) (by omega) hh
  · rw [hp]
    exact go_more S most q (b.length + 1) ((p ++ q).length + 1) newDS [] p T [] (by omega) (by rw [List.length_append]; omega) h3
end Go.Proofs.Ytefbjamepbkklaa

/- Run: what chunks tell is handed over tq9 a function: the walk. -/
namespace Go.Proofs.Ytefbjamepbkklaa
open Go.RowKit Rng Win Lz
set_option linter.unusedVariables false
set_option linter.unusedSimpArgs false
attribute [local go_sem] Oper.semAt_some
/-- What bytes are handed over tq9: a function's number and what it has caught; M: the blocks that are its own; what it was told so far. -/
structure PutOk (P : Program) (fput : Nat) (lb : Array Value) (B0 most : Nat) (J : (Nat → Prop) → List UInt8 → World → Prop) : Prop where
  ent : ∀ args w, (callFunc fput args).run P w = .ok (.enter fput args) w
  keep : ∀ M T W W', J M T W → Frm (fun q => ¬ M q) W W' → J M T W'
  own : ∀ M T W, J M T W → ∀ q, M q → B0 ≤ q ∧ ∃ c t f, W.heap[q]? = some (.cells c t f)
  call : ∀ M T (b : List UInt8) Ab cb W, J M T W → BRow W W.heap.size Ab b → b.length ≤ cb → cb ≤ maxLen → T.length + b.length ≤ most →
    Calls P fput (#[.slice Ab b.length cb] ++ lb) W fun e W' => e = .returned (.bool true) ∧ ∃ M', J M' (T ++ b) W' ∧ Frm M W W' ∧ ∀ q, M' q → M q ∨ (W.heap.size ≤ q ∧ q < W'.heap.size)
def catC (pre : List Ck) : List UInt8 := (pre.map (·.b)).flatten
theorem catC_snoc (pre : List Ck) (x : Ck) : catC (pre ++ [x]) = catC pre ++ x.b := by simp [catC]
theorem catC_len (pre : List Ck) : (catC pre).length = sumC pre := by
  unfold catC sumC
  rw [List.length_flatten, List.map_map]
  rfl
theorem catC_out (pre : List Ck) : evOut (pre.map ckP) = catC pre := by
  unfold evOut catC
  rw [List.map_map]
  rfl
/-- Between two rounds. -/
structure RunI (w : World) (fb eb pb : Nat) (pv : Value) (M0 : Nat → Prop) (J : (Nat → Prop) → List UInt8 → World → Prop) (N : Nat → Prop) (pre : List Ck) (W : World) : Prop where
  j : ∃ M, J M (catC pre) W ∧ ∀ q, M q → ¬ N q ∧ q ≠ eb ∧ q ≠ pb ∧ (M0 q ∨ w.heap.size ≤ q)
  n : ∀ q, N q → q < W.heap.size ∧ q ≠ eb ∧ q ≠ pb ∧ (q = fb ∨ w.heap.size ≤ q)
  e : Pts W eb #[.int .i64 0] 25
  p : Pts W pb #[pv] 44
  f : Frm (fun q => M0 q ∨ q = fb) w W
  z : ∀ x ∈ pre, x.e = 0
/-- Where the loop is left: an error. -/
structure RunX (w : World) (fb eb un : Nat) (M0 : Nat → Prop) (J : (Nat → Prop) → List UInt8 → World → Prop) (pre : List Ck) (W : World) : Prop where
  j : ∃ M, J M (catC pre) W ∧ ∀ q, M q → q ≠ eb ∧ (M0 q ∨ w.heap.size ≤ q)
  x : ∃ l y, pre = l ++ [y] ∧ y.e ≠ 0 ∧ Pts W eb #[.int .i64 (y.e : Int)] 25
  s : ∃ A n c used, SrcAt W fb A n c used ∧ used ≤ un
  f : Frm (fun q => M0 q ∨ q = fb) w W
section
variable {w W W' : World} {fb eb pb un B0 most D : Nat} {pv : Value} {M0 N N' : Nat → Prop} {J : (Nat → Prop) → List UInt8 → World → Prop} {pre : List Ck} {P : Program} {fput : Nat} {lb : Array Value}
theorem PutOk.lt (hp : PutOk P fput lb B0 most J) {M : Nat → Prop} {T : List UInt8} (h : J M T W) : ∀ q, M q → q < W.heap.size := by
  intro q hq
  obtain ⟨_, c, t, f, hc⟩ := hp.own M T W h q hq
  exact (Array.getElem?_eq_some_iff.1 hc).1
theorem RunI.ab (hp : PutOk P fput lb B0 most J) (h : RunI w fb eb pb pv M0 J N pre W) (hf : Frm N W W') (hN : ∀ q, N' q → N q ∨ (W.heap.size ≤ q ∧ q < W'.heap.size)) : RunI w fb eb pb pv M0 J N' pre W' := by
  obtain ⟨M, hj, hM⟩ := h.j
  have hlt := hp.lt hj
  have he := h.e.lt
  have hpl := h.p.lt
  have hw := h.f.size
  refine ⟨⟨M, hp.keep M _ W W' hj (hf.mono fun q _ hn hm => (hM q hm).1 hn), fun q hm => ⟨fun hn => ?_, (hM q hm).2⟩⟩, fun q hq => ?_, h.e.frm hf (fun hn => (h.n _ hn).2.1 rfl), h.p.frm hf (fun hn => (h.n _ hn).2.2.1 rfl), h.f.transW hf fun q hq hlt => ?_, h.z⟩
  · rcases hN q hn with h1 | h1
    · exact (hM q hm).1 h1
    · have := hlt q hm; omega
  · rcases hN q hq with h1 | h1
    · obtain ⟨k1, k2, k3, k4⟩ := h.n q h1
      exact ⟨Nat.lt_of_lt_of_le k1 hf.size, k2, k3, k4⟩
    · exact ⟨h1.2, by omega, by omega, .inr (by omega)⟩
  · obtain ⟨k1, k2, k3, k4⟩ := h.n q hq
    rcases k4 with k4 | k4
    · exact .inr k4
    · omega
/-- The law's own book-keeping. -/
theorem RunI.put (hp : PutOk P fput lb B0 most J) (h : RunI w fb eb pb pv M0 J N pre W) {l : Nat} {o o' : Obj} (hl : w.heap.size ≤ l) (ho : W.heap[l]? = some o) (hc : o.isCells = false) : RunI w fb eb pb pv M0 J N pre (W.putObj l o') := by
  obtain ⟨M, hj, hM⟩ := h.j
  have hno : ∀ q c t f, W.heap[q]? = some (.cells c t f) → q ≠ l := by
    rintro q c t f hq rfl
    rw [ho] at hq
    injection hq with hq
    rw [hq] at hc
    cases hc
  refine ⟨⟨M, hp.keep M _ W _ hj ((Frm.refl _ W).putObj (S := fun q => ¬ M q) (fun hm => ?_) o'), hM⟩, fun q hq => by obtain ⟨k1, k2⟩ := h.n q hq; exact ⟨by simpa using k1, k2⟩,
    (World.putObj_heap_other (hno _ _ _ _ h.e)).trans h.e, (World.putObj_heap_other (hno _ _ _ _ h.p)).trans h.p, h.f.transW ((Frm.refl _ W).putObj (S := fun q => q = l) rfl o') fun q hq hlt => by omega, h.z⟩
  obtain ⟨_, c, t, f, hcc⟩ := hp.own M _ W hj l hm
  exact hno _ _ _ _ hcc rfl
theorem RunI.alloc (hp : PutOk P fput lb B0 most J) (h : RunI w fb eb pb pv M0 J N pre W) (o : Obj) : RunI w fb eb pb pv M0 J N pre (W.alloc o) := by
  refine h.ab hp ((Frm.refl N W).alloc o) fun q hq => .inl hq
theorem RunX.put (hp : PutOk P fput lb B0 most J) (h : RunX w fb eb un M0 J pre W) {l : Nat} {o o' : Obj} (hl : w.heap.size ≤ l) (ho : W.heap[l]? = some o) (hc : o.isCells = false) : RunX w fb eb un M0 J pre (W.putObj l o') := by
  obtain ⟨M, hj, hM⟩ := h.j
  obtain ⟨l2, y, e1, e2, e3⟩ := h.x
  obtain ⟨A, n, c, used, hs, hu⟩ := h.s
  have hno : ∀ q c t f, W.heap[q]? = some (.cells c t f) → q ≠ l := by
    rintro q c t f hq rfl
    rw [ho] at hq
    injection hq with hq
    rw [hq] at hc
    cases hc
  refine ⟨⟨M, hp.keep M _ W _ hj ((Frm.refl _ W).putObj (S := fun q => ¬ M q) (fun hm => ?_) o'), hM⟩, ⟨l2, y, e1, e2, (World.putObj_heap_other (hno _ _ _ _ e3)).trans e3⟩, ⟨A, n, c, used, (World.putObj_heap_other (hno _ _ _ _ hs)).trans hs, hu⟩,
    h.f.transW ((Frm.refl _ W).putObj (S := fun q => q = l) rfl o') fun q hq hlt => by omega⟩
  obtain ⟨_, c, t, f, hcc⟩ := hp.own M _ W hj l hm
  exact hno _ _ _ _ hcc rfl
/-- The function was told some more. -/
theorem RunI.told (hp : PutOk P fput lb B0 most J) (h : RunI w fb eb pb pv M0 J N pre W) {x : Ck} {M M' : Nat → Prop} (hM : ∀ q, M q → ¬ N q ∧ q ≠ eb ∧ q ≠ pb ∧ (M0 q ∨ w.heap.size ≤ q)) (hx : x.e = 0) (hj : J M' (catC pre ++ x.b) W') (hf : Frm M W W') (hM' : ∀ q, M' q → M q ∨ (W.heap.size ≤ q ∧ q < W'.heap.size)) :
    RunI w fb eb pb pv M0 J N (pre ++ [x]) W' := by
  have he := h.e.lt
  have hpl := h.p.lt
  have hw := h.f.size
  refine ⟨⟨M', by rw [catC_snoc]; exact hj, fun q hq => ?_⟩, fun q hq => ?_, h.e.frm hf (fun hn => (hM _ hn).2.1 rfl), h.p.frm hf (fun hn => (hM _ hn).2.2.1 rfl), h.f.transW hf fun q hq hlt => ?_, ?_⟩
  · rcases hM' q hq with h1 | h1
    · exact hM q h1
    · exact ⟨fun hn => by have := (h.n q hn).1; omega, by omega, by omega, .inr (by omega)⟩
  · obtain ⟨k1, k2⟩ := h.n q hq
    exact ⟨Nat.lt_of_lt_of_le k1 hf.size, k2⟩
  · rcases (hM q hq).2.2.2 with k | k
    · exact .inl k
    · omega
  · intro y hy
    rcases List.mem_append.1 hy with hy | hy
    · exact h.z y hy
    · rw [List.mem_singleton.1 hy]; exact hx
end
theorem AbN_runI {w : World} {fb eb pb B0 most : Nat} {pv : Value} {M0 : Nat → Prop} {J : (Nat → Prop) → List UInt8 → World → Prop} {P : Program} {fput : Nat} {lb : Array Value} (hp : PutOk P fput lb B0 most J) : AbN (RunI w fb eb pb pv M0 J) :=
  fun _ _ _ _ _ h hf hN => h.ab hp hf hN
theorem cells_ne {W : World} {l q : Nat} {o : Obj} {c : Array Value} {t : TypeId} {f : Nat × Nat} (hq : W.heap[q]? = some (.cells c t f)) (ho : W.heap[l]? = some o) (hc : o.isCells = false) : q ≠ l := by
  rintro rfl
  rw [ho] at hq
  injection hq with hq
  rw [hq] at hc
  cases hc
theorem BRow.putO {W : World} {B l : Nat} {A : Option Addr} {bs : List UInt8} (h : BRow W B A bs) {o : Obj} (ho : W.heap[l]? = some o) (hc : o.isCells = false) (o' : Obj) : BRow (W.putObj l o') B A bs := by
  intro h0
  obtain ⟨b, off, rfl, hb, hcell⟩ := h h0
  refine ⟨b, off, rfl, hb, fun k hk => ?_⟩
  have hne : b ≠ l := by
    rintro rfl
    have h1 := hcell k hk
    unfold World.cell? at h1
    simp only [ho] at h1
    cases o <;> first | (cases hc; done) | (cases h1; done) | simp at h1
  rw [World.cell?_of_block (World.putObj_heap_other hne)]
  exact hcell k hk
theorem SC_put {E : List (List UInt8 × Nat) × Option (List UInt8)} {fb un B0 D : Nat} (hB : B0 ≤ D) : AbL D (SC E fb un B0) := by
  rintro N pre W l o o' hl ho hc ⟨h1, h2⟩
  refine ⟨h1, fun rest hr => ?_⟩
  obtain ⟨A, n, c, used, hs, h3, h4, h5⟩ := h2 rest hr
  exact ⟨A, n, c, used, (World.putObj_heap_other (cells_ne hs ho hc)).trans hs, h3, h4.putO ho hc o', h5⟩
theorem PxC_put {fb un most l : Nat} {pre : List Ck} {x : Ck} {W : World} {o o' : Obj} (ho : W.heap[l]? = some o) (hc : o.isCells = false) (h : PxC fb un most pre x W) : PxC fb un most pre x (W.putObj l o') := by
  obtain ⟨⟨A, n, c, used, hs, hu⟩, Ab, cb, h1, h2, h3⟩ := h
  exact ⟨⟨A, n, c, used, (World.putObj_heap_other (cells_ne hs ho hc)).trans hs, hu⟩, Ab, cb, h1, by simpa using h2.putO ho hc o', h3⟩
/-- How Run ends: the first error, or none; what was told; the source. -/
def RunEnd (fb un B0 : Nat) (M0 : Nat → Prop) (J : (Nat → Prop) → List UInt8 → World → Prop) (E : List (List UInt8 × Nat) × Option (List UInt8)) (w : World) (e : Ending) (w' : World) : Prop :=
  e = .returned (.int .i64 ((evErr E.1 : Nat) : Int)) ∧ (∃ M, J M (evOut E.1) w' ∧ ∀ q, M q → M0 q ∨ w.heap.size ≤ q) ∧ Frm (fun q => M0 q ∨ q = fb) w w' ∧
    (match E.2 with
    | none => ∃ A n c used, SrcAt w' fb A n c used ∧ used ≤ un
    | some rest => ∃ A n c used, SrcAt w' fb A n c used ∧ used + n = un ∧ BRow w' B0 A rest ∧ n = rest.length ∧ n ≤ c ∧ c ≤ maxLen)
set_option maxRecDepth 8000 in
set_option maxHeartbeats 4000000 in
theorem run_p (fb B0 S most fput : Nat) (lb : Array Value) (J : (Nat → Prop) → List UInt8 → World → Prop) (M0 : Nat → Prop) (A : Option Addr) (nn c used un : Nat) (bs : List UInt8) (w : World)
    (hp : PutOk Try.prog fput lb B0 most J) (hj : J M0 [] w) (hfb : ¬ M0 fb) (hfb0 : B0 ≤ fb) (hs : SrcAt w fb A nn c used) (hn : nn = bs.length) (hr : BRow w B0 A bs) (hB0 : B0 ≤ w.heap.size) (hc : nn ≤ c) (hcm : c ≤ maxLen) (hu : used + nn = un) (hub : un ≤ 4611686018427387904)
    (hS1 : 1 ≤ S) (hS : S ≤ 16777216) (hm : most ≤ 16777216) :
    Calls Try.prog 16 #[.pointer (some ⟨fb, 0, none⟩), .int .i64 S, .int .i64 most, .func (.func fput) #[] lb] w (RunEnd fb un B0 M0 J (evGo S most (bs.length + 1) newDS 0 bs) w) := by
  have HP := Lib.hid hp
  have HJ := Lib.hid hj
  have HS : Hid (SrcAt w fb A nn c used ∧ nn = bs.length ∧ BRow w B0 A bs ∧ B0 ≤ w.heap.size ∧ nn ≤ c ∧ c ≤ maxLen ∧ used + nn = un ∧ B0 ≤ fb ∧ ¬ M0 fb) := Lib.hid ⟨hs, hn, hr, hB0, hc, hcm, hu, hfb0, hfb⟩
  have hfl := Pts.lt hs
  have HFL := Lib.hid hfl
  obtain ⟨E, hE⟩ : ∃ E, evGo S most (bs.length + 1) newDS 0 bs = E := ⟨_, rfl⟩
  rw [hE]
  have HE := Lib.hid hE
  clear hp hj hfb hfb0 hs hn hr hB0 hc hcm hu hE hfl
  have hst0 : chE 16777216 0 S = 0 := (ch_ok (B := 16777216) (n := 0) 0 (k := (S : Int)) (by omega) (by omega)).1
  have hbud : bud 16777216 = 16777216 := by decide
  refine (callsIn_wide (n := 6)).1 ?_
  refine callsIn_of_wp_marks Try.func16 rfl trivial ?_ rfl
  simp only [Try.ntmps16, List.size_toArray, List.length_cons, List.length_nil, Nat.reduceAdd, Nat.reduceSub, Array.replicate_succ, Array.replicate_zero, List.push_toArray, List.append_toArray, List.nil_append, List.cons_append]
  refine wpIn_wide.2 ?_
  go_wp2
  go_step3
  go_wp2_with fail
  obtain ⟨W0, hW0⟩ : ∃ W, (w.alloc (.cells #[.func (.func fput) #[] lb] 44)).alloc (.cells #[.int .i64 0] 25) = W := ⟨_, rfl⟩
  have hs0 : W0.heap.size = w.heap.size + 1 + 1 := by rw [← hW0]; simp only [World.size_alloc]
  have HP0 : Hid (Pts W0 w.heap.size #[.func (.func fput) #[] lb] 44 ∧ Pts W0 (w.heap.size + 1) #[.int .i64 0] 25 ∧ Below w.heap.size w W0) := by
    refine Lib.hid ⟨?_, ?_, ?_⟩
    · rw [← hW0]; exact (Pts.new w _ _).alloc _
    · rw [← hW0]; have := Pts.new (w.alloc (.cells #[.func (.func fput) #[] lb] 44)) #[.int .i64 0] 25; rwa [World.size_alloc] at this
    · rw [← hW0]; exact ((Below.refl _ w).alloc (Nat.le_refl _) _).alloc (by simp only [World.size_alloc]; omega) _
  rw [hW0]
  clear hW0
  refine (new_led 16777216 _).mono ?_; rintro e w1 ⟨rfl, hl1, hb1⟩
  rw [hbud] at hl1
  rw [hs0] at hl1 hb1
  have HL1 := Lib.hid hl1
  have HB1 := Lib.hid hb1
  have HZ1 : Hid (w.heap.size + 1 + 1 + 1 ≤ w1.heap.size) := Lib.hid (Pts.lt hl1)
  rw [hs0]
  clear hl1 hb1 hbud
  go_wp2_with fail
  refine (new_win _ S 16777216 0 0 w1 HL1.out (by omega) (by omega) (by omega) hS1 hS hst0).mono ?_; rintro e w2 ⟨wb, rfl, hw2, hwb2, hl2, hf2⟩
  have HW2 := Lib.hid hw2
  have HF2 := Lib.hid hf2
  have HWB := Lib.hid hwb2
  have p2 : Pts w2 w.heap.size #[.func (.func fput) #[] lb] 44 := (HP0.out.1.below HB1.out (by omega)).frm hf2 (by omega)
  have e2 : Pts w2 (w.heap.size + 1) #[.int .i64 0] 25 := (HP0.out.2.1.below HB1.out (by omega)).frm hf2 (by omega)
  have B2 : Hid (Below w.heap.size w w2) := Lib.hid ((HP0.out.2.2.trans (HB1.out.mono (by omega))).trans (hf2.below (by have := HZ1.out; omega) (by intro q hq; omega)))
  have ce : w2.cell? ⟨w.heap.size + 1, 0, none⟩ = some (.int .i64 0) := by rw [e2.cell]; rfl
  have ze := e2.frozen 0
  have e3 := e2.set 0 (.int .i64 0)
  have p3 : Pts (w2.setCell ⟨w.heap.size + 1, 0, none⟩ (.int .i64 0)) w.heap.size #[.func (.func fput) #[] lb] 44 := p2.other (p := ⟨w.heap.size + 1, 0, none⟩) (by simp) _
  have B3 : Hid (Below w.heap.size w (w2.setCell ⟨w.heap.size + 1, 0, none⟩ (.int .i64 0))) := Lib.hid (B2.out.trans (((Frm.refl (fun q => q = w.heap.size + 1) w2).setCell (p := ⟨w.heap.size + 1, 0, none⟩) rfl _).below B2.out.size (by intro q hq; omega)))
  have W3 : Hid (WinC (w2.setCell ⟨w.heap.size + 1, 0, none⟩ (.int .i64 0)) w1.heap.size wb (w.heap.size + 1 + 1) S [] (.slice none 0 0)) := Lib.hid ((show WinC w2 w1.heap.size wb (w.heap.size + 1 + 1) S [] (.slice none 0 0) from ⟨[], 0, hw2, rfl⟩).frm ((Frm.refl (fun q => q = w.heap.size + 1) w2).setCell (p := ⟨w.heap.size + 1, 0, none⟩) rfl _) (by have := HZ1.out; omega) (by intro q hq; cases hq))
  have E3 := Lib.hid e3
  have P3 := Lib.hid p3
  have hz3 : w1.heap.size ≤ (w2.setCell ⟨w.heap.size + 1, 0, none⟩ (.int .i64 0)).heap.size := by simpa [World.setCell] using hf2.size
  have Z3 := Lib.hid hz3
  clear hw2 hf2 hl2 hst0 hwb2 p2 e2 e3 p3 B2 hz3
  go_wp2_with fail
  obtain ⟨w3, hw3⟩ : ∃ W, w2.setCell ⟨w.heap.size + 1, 0, none⟩ (.int .i64 0) = W := ⟨_, rfl⟩
  rw [hw3] at B3 W3 E3 P3 Z3
  rw [hw3]
  clear hw3 ce ze HW2 HF2 HL1 HP0
  refine (lnew_st w3).mono ?_; rintro e w4 ⟨sb, lb2, rfl, h1, h2, hst, hb4⟩
  have B4 := Lib.hid (B3.out.trans (hb4.mono B3.out.size))
  have W4 := Lib.hid (W3.out.later hb4)
  have E4 : Hid (Pts w4 (w.heap.size + 1) #[.int .i64 0] 25) := Lib.hid (E3.out.below hb4 E3.out.lt)
  have P4 := Lib.hid (P3.out.below hb4 P3.out.lt)
  have Z4 := Lib.hid (Nat.le_trans Z3.out hb4.size)
  have S4 := Lib.hid hst
  have H4 := Lib.hid (And.intro h1 h2)
  have ZW := Lib.hid (Nat.le_trans B3.out.size h1)
  have Z3w := Lib.hid Z3.out
  clear hst hb4 h1 h2 W3 E3 P3 Z3
  go_wp2_with fail
  go_step3
  go_wp2
  obtain ⟨W5, hW5⟩ : ∃ W, w4.alloc (.cells #[.pointer (some ⟨wb, 0, none⟩), .pointer (some ⟨sb, 0, none⟩), .pointer (some ⟨fb, 0, none⟩), .int .i64 0, .int .i64 most, .bool false, .bool false] 103) = W := ⟨_, rfl⟩
  have hbA : Below w4.heap.size w4 W5 := by rw [← hW5]; exact below_alloc _ _
  have hs5 : W5.heap.size = w4.heap.size + 1 := by rw [← hW5]; simp only [World.size_alloc]
  have hR5 : RdS W5 w4.heap.size fb wb (w.heap.size + 1 + 1) w1.heap.size S (newK sb lb2) newDS (.slice none 0 0) A nn c used (most : Int) := by
    refine ⟨?_, S4.out.later hbA, ⟨rfl, rfl, rfl⟩, newK_ok _ _, ⟨(by decide : (0 : Nat) < 12), fun _ => (by decide : (0 : Nat) < 4294967296)⟩, W4.out.later hbA, by have := Z4.out; omega, Pts.below (Pts.below HS.out.1 B4.out HFL.out) hbA (Nat.lt_of_lt_of_le HFL.out B4.out.size)⟩
    rw [← hW5]
    exact Pts.new w4 _ _
  have hB5 : Below w.heap.size w W5 := B4.out.trans (hbA.mono B4.out.size)
  have hE5 : Pts W5 (w.heap.size + 1) #[.int .i64 0] 25 := E4.out.below hbA E4.out.lt
  have hP5 : Pts W5 w.heap.size #[.func (.func fput) #[] lb] 44 := P4.out.below hbA P4.out.lt
  have hE4l := E4.out.lt
  have hwbl : wb < w4.heap.size := W4.out.pts.choose_spec.lt
  have hsbl := S4.out.m.lt
  have hlbl := S4.out.l.lt
  have hN5 : ∀ q, RdB w4.heap.size fb wb (newK sb lb2) (.slice none 0 0) q → q < W5.heap.size ∧ q ≠ w.heap.size + 1 ∧ q ≠ w.heap.size ∧ (q = fb ∨ w.heap.size ≤ q) ∧ B0 ≤ q := by
    have h1 := HZ1.out
    have h2 := HWB.out
    have h3 := Z3w.out
    have h4 := H4.out
    have h5 := HFL.out
    have h6 := HS.out.2.2.2.1
    have h7 := HS.out.2.2.2.2.2.2.2.1
    have hk1 : (newK sb lb2).sb = sb := rfl
    have hk2 : (newK sb lb2).lb = lb2 := rfl
    rw [hk1] at hsbl
    rw [hk2] at hlbl
    rintro q (e | e | e | e | e | e)
    · omega
    · omega
    · omega
    · rw [hk1] at e; omega
    · rw [hk2] at e; omega
    · cases e
  have hI5 : RunI w fb (w.heap.size + 1) w.heap.size (.func (.func fput) #[] lb) M0 J (RdB w4.heap.size fb wb (newK sb lb2) (.slice none 0 0)) [] W5 := by
    refine ⟨⟨M0, HP.out.keep M0 _ w W5 HJ.out (Frm.of_below hB5), fun q hq => ?_⟩, fun q hq => ⟨(hN5 q hq).1, (hN5 q hq).2.1, (hN5 q hq).2.2.1, (hN5 q hq).2.2.2.1⟩, hE5, hP5, Frm.of_below hB5, fun _ h => by cases h⟩
    have hlt := HP.out.lt HJ.out q hq
    refine ⟨fun hn => ?_, by omega, by omega, .inl hq⟩
    rcases (hN5 q hn).2.2.2.1 with e | e
    · exact HS.out.2.2.2.2.2.2.2.2 (e ▸ hq)
    · omega
  have hB0 : B0 ≤ W5.heap.size := Nat.le_trans HS.out.2.2.2.1 hB5.size
  have hseq := chunks_seq 5 w4.heap.size fb wb (w.heap.size + 1 + 1) w1.heap.size S B0 (newK sb lb2) newDS (.slice none 0 0) A nn c used most un bs W5 (by omega) hR5 (fun q hq => (hN5 q hq).2.2.2.2) hB0 hS HS.out.2.1 (HS.out.2.2.1.below ((hB5.mono HS.out.2.2.2.1))) HS.out.2.2.2.2.1 HS.out.2.2.2.2.2.1 HS.out.2.2.2.2.2.2.1 hub (by show 0 + most ≤ _; omega)
  rw [HE.out] at hseq
  have hW5w : w.heap.size ≤ W5.heap.size := hB5.size
  rw [hW5]
  refine (wpIn_wide (n := 6)).1 ?_
  refine wpIn_rangeFunc_ownW (n := 6) rfl (by omega) (gf := 31) (bd := #[.pointer (some ⟨w4.heap.size, 0, none⟩)]) rfl trivial (enters_of Try.func31 (by kernel_rfl) rfl) hseq
    (fun q hq => (hN5 q hq).1) hB0 (fun _ => rfl) (RunI w fb (w.heap.size + 1) w.heap.size (.func (.func fput) #[] lb) M0 J) (fun cd N pre W => cd = .exit 0 ∧ RunX w fb (w.heap.size + 1) un M0 J pre W) (AbN_runI HP.out) (SC_put hB0)
    (fun N pre W l o o' hl ho hc h => h.put HP.out (Nat.le_trans hW5w hl) ho hc) (fun cd N pre W l o o' hl ho hc h => ⟨h.1, h.2.put HP.out (Nat.le_trans hW5w hl) ho hc⟩) ((hI5.alloc HP.out _).alloc HP.out _)
    (fun x => { tmps := #[.pointer (some ⟨fb, 0, none⟩), .int .i64 S, .int .i64 most, .func (.func fput) #[] lb, undef, undef, undef, .pointer (some ⟨w.heap.size, 0, none⟩), .pointer (some ⟨w.heap.size + 1, 0, none⟩), .pointer (some ⟨wb, 0, none⟩), .pointer (some ⟨w4.heap.size, 0, none⟩), x.val, .int .i64 (x.e : Int),
      .tuple #[.pointer (some ⟨wb, 0, none⟩), .int .i64 0], .int .i64 S, .pointer (some ⟨w.heap.size + 1 + 1, 0, none⟩), .tuple #[.pointer (some ⟨wb, 0, none⟩), .int .i64 0], .pointer (some ⟨wb, 0, none⟩), .int .i64 0, .int .i64 0, .bool false, .pointer (some ⟨wb, 0, none⟩), .pointer (some ⟨sb, 0, none⟩), .pointer (some ⟨fb, 0, none⟩), .int .i64 most,
      .agg #[.pointer (some ⟨wb, 0, none⟩), .pointer (some ⟨sb, 0, none⟩), .pointer (some ⟨fb, 0, none⟩), .int .i64 0, .int .i64 most, .bool false, .bool false], .pointer (some ⟨w4.heap.size, 0, none⟩), .pointer (some ⟨w4.heap.size, 0, none⟩), .func (.func 31) #[.pointer (some ⟨w4.heap.size, 0, none⟩)] #[], x.val, .int .i64 (x.e : Int),
      undef, undef, undef, undef, undef, undef, undef, undef, undef, undef], defers := [] }) (fun pre x W l o o' _ ho hc h => PxC_put ho hc h) ?assign ?body ?done ?stop
  case assign =>
    intro l x W K hK
    unfold ckEnc
    gi_wp2
    exact hK
  case body =>
    rintro l N pre ⟨xv, xb, xe⟩ W hI ⟨hsrc, Ab, cb, hxv, hxr, hxc, hxm, hxt, hxn⟩ hn1 hn2 hd1 ⟨rl, hd2⟩
    simp only at hxv hxr hxc hxm hxt hxn
    have HI := Lib.hid hI
    have pc : W.cell? ⟨w.heap.size, 0, none⟩ = some (.func (.func fput) #[] lb) := by rw [hI.p.cell]; rfl
    have ec : W.cell? ⟨w.heap.size + 1, 0, none⟩ = some (.int .i64 0) := by rw [hI.e.cell]; rfl
    have ez := hI.e.frozen 0
    have HD := Lib.hid (And.intro hd1 hd2)
    have HSR := Lib.hid hsrc
    have HXR := Lib.hid hxr
    have HXC : Hid (xb.length ≤ cb ∧ cb ≤ maxLen ∧ sumC pre + xb.length ≤ most) := Lib.hid ⟨hxc, hxm, hxt⟩
    clear hI hseq hI5 hN5 hR5 hE5 hP5 hbA hW5 hd1 hd2 hsrc hxr hxc hxm hxt
    by_cases hx : xe = 0
    · subst hx
      subst hxv
      clear hxn
      gi_wp2
      refine ⟨trivial, ?_⟩
      rw [HP.out.ent, Oper.uponIn_enter]
      refine ⟨fun _ => by decide, ?_⟩
      obtain ⟨M, hj, hM⟩ := HI.out.j
      refine (CallsIn.inRound l (callsIn_wide.2 (HP.out.call M _ xb Ab cb W hj HXR.out HXC.out.1 HXC.out.2.1 (by rw [catC_len]; exact HXC.out.2.2)))).mono ?_
      rintro e W' ⟨rfl, M', hj', hf', hM'⟩
      have hown := HP.out.own M _ W hj
      have hK1 : W'.heap[W5.heap.size]? = W.heap[W5.heap.size]? := hf'.block _ (Array.getElem?_eq_some_iff.1 HD.out.1).1 (fun hm => by
        obtain ⟨_, c, t, f, hcc⟩ := hown _ hm
        rw [HD.out.1] at hcc
        cases hcc)
      have hK2 : W'.heap[W5.heap.size + 1]? = W.heap[W5.heap.size + 1]? := hf'.block _ (Array.getElem?_eq_some_iff.1 HD.out.2).1 (fun hm => by
        obtain ⟨_, c, t, f, hcc⟩ := hown _ hm
        rw [HD.out.2] at hcc
        cases hcc)
      have hT := HI.out.told HP.out (x := ⟨.slice Ab xb.length cb, xb, 0⟩) hM rfl hj' hf' hM'
      have hFB : Frm (fun q => ¬ N q ∧ B0 ≤ q) W W' := hf'.mono fun q _ hq => ⟨(hM q hq).1, (hown q hq).1⟩
      have HT := Lib.hid (And.intro (And.intro hK1 hK2) (And.intro hFB hT))
      clear hK1 hK2 hT hFB hown hj hj' hf' hM' hM
      gi_wp2
      exact HT.out
    · have q0 : ((xe : Int) != 0) = true := bne_iff_ne.2 (by omega)
      have hxv2 := hxn hx
      have hxb : xb = [] := by
        rw [hxv] at hxv2
        injection hxv2 with _ h2 _
        exact List.eq_nil_of_length_eq_zero h2
      clear hxn hxv hxv2
      gi_wp2
      obtain ⟨M, hj, hM⟩ := HI.out.j
      have hne : ∀ q, q = W5.heap.size ∨ q = W5.heap.size + 1 → q ≠ w.heap.size + 1 := by
        rintro q (e | e) e2
        · have h1 := HI.out.e
          rw [← e2, e] at h1
          exact absurd (HD.out.1.symm.trans h1) (by simp)
        · have h1 := HI.out.e
          rw [← e2, e] at h1
          exact absurd (HD.out.2.symm.trans h1) (by simp)
      have hset : ∀ q, q ≠ w.heap.size + 1 → (W.setCell ⟨w.heap.size + 1, 0, none⟩ (.int .i64 (xe : Int))).heap[q]? = W.heap[q]? := fun q hq => Below.heap_setCell _ _ _ _ hq
      refine ⟨⟨hset _ (hne _ (.inl rfl)), hset _ (hne _ (.inr rfl))⟩, rfl, ⟨M, ?_, fun q hq => ⟨(hM q hq).2.1, (hM q hq).2.2.2⟩⟩, ⟨pre, _, rfl, hx, HI.out.e.set 0 _⟩, ?_, ?_⟩
      · rw [catC_snoc]
        simp only
        rw [hxb, List.append_nil]
        exact HP.out.keep M _ W _ hj ((Frm.refl _ W).setCell (p := ⟨w.heap.size + 1, 0, none⟩) (fun hm => (hM _ hm).2.1 rfl) _)
      · obtain ⟨A1, n1, c1, u1, hs1, hu1⟩ := HSR.out
        exact ⟨A1, n1, c1, u1, Pts.other hs1 (p := ⟨w.heap.size + 1, 0, none⟩) (hs1.ne_of HI.out.e (by decide)) _, hu1⟩
      · exact HI.out.f.transW ((Frm.refl (fun q => q = w.heap.size + 1) W).setCell (p := ⟨w.heap.size + 1, 0, none⟩) rfl _) (fun q hq hlt => by omega)
  case done =>
    rintro N xs W hSx hIx hd
    have ec : W.cell? ⟨w.heap.size + 1, 0, none⟩ = some (.int .i64 0) := by rw [hIx.e.cell]; rfl
    have ez := hIx.e.frozen 0
    have HSX := Lib.hid hSx
    have HI := Lib.hid hIx
    have HD := Lib.hid hd
    clear hSx hIx hd hseq hI5 hN5 hR5 hE5 hP5 hbA hW5
    go_wp2
    have hse : ∀ q, q ≠ w.heap.size + 1 → (W.setCell ⟨w.heap.size + 1, 0, none⟩ (.int .i64 0)).heap[q]? = W.heap[q]? := fun q hq => Below.heap_setCell _ _ _ _ hq
    have hne : W5.heap.size ≠ w.heap.size + 1 := by omega
    have hd2 : (W.setCell ⟨w.heap.size + 1, 0, none⟩ (.int .i64 0)).heap[W5.heap.size]? = some (.deferred (some [])) := (hse _ hne).trans HD.out
    refine ⟨by simp, .inl ⟨_, _, rfl, run_takeDeferred hd2, ?_⟩⟩
    have he2 : Pts ((W.setCell ⟨w.heap.size + 1, 0, none⟩ (.int .i64 0)).putObj W5.heap.size (.deferred none)) (w.heap.size + 1) #[.int .i64 0] 25 := (World.putObj_heap_other hne.symm).trans (HI.out.e.set 0 (.int .i64 0))
    have hce : ((W.setCell ⟨w.heap.size + 1, 0, none⟩ (.int .i64 0)).putObj W5.heap.size (.deferred none)).cell? ⟨w.heap.size + 1, 0, none⟩ = some (.int .i64 0) := by rw [he2.cell]; rfl
    refine ⟨.int .i64 0, ?_, ?_⟩
    · simp [results, Try.f16, go_sem, hce]
    · have hfin : Frm (fun q => q = w.heap.size + 1 ∨ q = W5.heap.size) W ((W.setCell ⟨w.heap.size + 1, 0, none⟩ (.int .i64 0)).putObj W5.heap.size (.deferred none)) := ((Frm.refl _ W).setCell (p := ⟨w.heap.size + 1, 0, none⟩) (.inl rfl) _).putObj (.inr rfl) _
      obtain ⟨hx1, hx2⟩ := HSX.out
      have hz := HI.out.z
      have hall : ∀ q ∈ E.1, q.2 = 0 := by
        intro q hq
        rw [← hx1] at hq
        obtain ⟨y, hy, rfl⟩ := List.mem_map.1 hq
        exact hz y hy
      obtain ⟨M, hj, hM⟩ := HI.out.j
      have hMD : ¬ M W5.heap.size := fun hm => by
        obtain ⟨_, c, t, f, hcc⟩ := HP.out.own M _ W hj _ hm
        rw [HD.out] at hcc
        cases hcc
      obtain ⟨r, hr⟩ := ev_none (S := S) (most := most) (f := bs.length + 1) (told := 0) (x := newDS) (src := bs) (by rw [HE.out]; exact hall)
      rw [HE.out] at hr
      refine ⟨by rw [evErr_zero hall]; rfl, ⟨M, ?_, fun q hq => (hM q hq).2.2.2⟩, HI.out.f.transW hfin (fun q hq hlt => by omega), ?_⟩
      · rw [← hx1, catC_out]
        refine HP.out.keep M _ W _ hj (hfin.mono ?_)
        rintro q _ (e | e) hm
        · exact (hM q hm).2.1 e
        · exact hMD (e ▸ hm)
      · rw [hr]
        obtain ⟨A1, n1, c1, u1, hs1, h2, h3, h4, h5, h6⟩ := hx2 r hr
        have hB0w := HS.out.2.2.2.1
        refine ⟨A1, n1, c1, u1, Pts.frm hs1 hfin ?_, h2, row_kept h3 hfin (Nat.le_trans hB0w HI.out.f.size) (fun q hq => by omega), h4, h5, h6⟩
        rintro (e | e)
        · exact hs1.ne_of HI.out.e (by decide) e
        · exact cells_ne hs1 HD.out rfl e
  case stop =>
    rintro cd N pre W hSp ⟨rfl, hIx⟩ hd
    obtain ⟨M, hj, hM⟩ := hIx.j
    obtain ⟨l, y, hpre, hy, hye⟩ := hIx.x
    have ec : W.cell? ⟨w.heap.size + 1, 0, none⟩ = some (.int .i64 (y.e : Int)) := by rw [hye.cell]; rfl
    have ez := hye.frozen 0
    have HI := Lib.hid hIx
    have HD := Lib.hid hd
    have HYE := Lib.hid hye
    have HJM := Lib.hid (And.intro hj hM)
    have HY := Lib.hid hy
    have HSP := Lib.hid hSp
    have HPR := Lib.hid hpre
    clear hSp hIx hd hye hj hM hy hpre hseq hI5 hN5 hR5 hE5 hP5 hbA hW5
    refine wpIn_wide.2 ?_
    go_wp2
    have hse : ∀ q, q ≠ w.heap.size + 1 → (W.setCell ⟨w.heap.size + 1, 0, none⟩ (.int .i64 (y.e : Int))).heap[q]? = W.heap[q]? := fun q hq => Below.heap_setCell _ _ _ _ hq
    have hne : W5.heap.size ≠ w.heap.size + 1 := by omega
    have hd2 : (W.setCell ⟨w.heap.size + 1, 0, none⟩ (.int .i64 (y.e : Int))).heap[W5.heap.size]? = some (.deferred (some [])) := (hse _ hne).trans HD.out
    refine ⟨by simp, .inl ⟨_, _, rfl, run_takeDeferred hd2, ?_⟩⟩
    have he2 : Pts ((W.setCell ⟨w.heap.size + 1, 0, none⟩ (.int .i64 (y.e : Int))).putObj W5.heap.size (.deferred none)) (w.heap.size + 1) #[.int .i64 (y.e : Int)] 25 := (World.putObj_heap_other hne.symm).trans (HYE.out.set 0 (.int .i64 (y.e : Int)))
    have hce : ((W.setCell ⟨w.heap.size + 1, 0, none⟩ (.int .i64 (y.e : Int))).putObj W5.heap.size (.deferred none)).cell? ⟨w.heap.size + 1, 0, none⟩ = some (.int .i64 (y.e : Int)) := by rw [he2.cell]; rfl
    refine ⟨.int .i64 (y.e : Int), ?_, ?_⟩
    · simp [results, Try.f16, go_sem, hce]
    · have hfin : Frm (fun q => q = w.heap.size + 1 ∨ q = W5.heap.size) W ((W.setCell ⟨w.heap.size + 1, 0, none⟩ (.int .i64 (y.e : Int))).putObj W5.heap.size (.deferred none)) := ((Frm.refl _ W).setCell (p := ⟨w.heap.size + 1, 0, none⟩) (.inl rfl) _).putObj (.inr rfl) _
      have hMD : ¬ M W5.heap.size := fun hm => by
        obtain ⟨_, c, t, f, hcc⟩ := HP.out.own M _ W HJM.out.1 _ hm
        rw [HD.out] at hcc
        cases hcc
      have hsp := HSP.out
      unfold SpC at hsp
      rw [HPR.out, List.map_append, ← HE.out] at hsp
      obtain ⟨k1, k2, k3⟩ := ev_stop (l := l.map ckP) (p := ckP y) hsp HY.out
      rw [HE.out] at k1 k2
      refine ⟨by rw [k1, evErr_snoc k3 HY.out]; rfl, ⟨M, ?_, fun q hq => (HJM.out.2 q hq).2⟩, HI.out.f.transW hfin (fun q hq hlt => by omega), ?_⟩
      · rw [k1, ← List.map_singleton (f := ckP), ← List.map_append, catC_out, ← HPR.out]
        refine HP.out.keep M _ W _ HJM.out.1 (hfin.mono ?_)
        rintro q _ (e | e) hm
        · exact (HJM.out.2 q hm).1 e
        · exact hMD (e ▸ hm)
      · rw [k2]
        obtain ⟨A1, n1, c1, u1, hs1, hu1⟩ := HI.out.s
        refine ⟨A1, n1, c1, u1, Pts.frm hs1 hfin ?_, hu1⟩
        rintro (e | e)
        · exact hs1.ne_of HYE.out (by decide) e
        · exact cells_ne hs1 HD.out rfl e
end Go.Proofs.Ytefbjamepbkklaa

/- Decode: the walks. -/
namespace Go.Proofs.Ytefbjamepbkklaa
open Go.RowKit Rng Win Lz
set_option linter.unusedVariables false
set_option linter.unusedSimpArgs false
/-- Bytes that are gathered in a variable at block ob. -/
def OutJ (ob base : Nat) (M : Nat → Prop) (T : List UInt8) (W : World) : Prop :=
  ∃ v, Pts W ob #[v] 22 ∧ OwnB W 5 base v T ∧ (∀ q, M q ↔ q = ob ∨ v.ownBlock = some q) ∧ base ≤ W.heap.size
set_option maxRecDepth 100000 in
set_option maxHeartbeats 1000000 in
theorem out_p (ob base : Nat) (v : Value) (T b : List UInt8) (Ab : Option Addr) (cb : Nat) (W : World) (hp : Pts W ob #[v] 22) (ho : OwnB W 5 base v T) (hb : base ≤ W.heap.size) (hr : BRow W W.heap.size Ab b) (hl : T.length + b.length ≤ 16777216) :
    Calls Try.prog 17 #[.slice Ab b.length cb, .pointer (some ⟨ob, 0, none⟩)] W fun e W' => e = .returned (.bool true) ∧ ∃ v', Pts W' ob #[v'] 22 ∧ OwnB W' 5 base v' (T ++ b) ∧ Frm (fun q => q = ob ∨ v.ownBlock = some q) W W' ∧ (v'.ownBlock = v.ownBlock ∨ v'.ownBlock = some W.heap.size) := by
  obtain ⟨A0, k0, rfl, -, -, -⟩ := ho.slice
  obtain ⟨v, hv⟩ : ∃ v, Value.slice A0 T.length k0 = v := ⟨_, rfl⟩
  have c0 : W.cell? ⟨ob, 0, none⟩ = some (.slice A0 T.length k0) := by rw [hp.cell]; rfl
  rw [hv] at hp ho
  rw [hv]
  have HV := Lib.hid hv
  clear hv
  have z0 := hp.frozen 0
  have HP := Lib.hid hp
  have HO := Lib.hid ho
  have HR := Lib.hid hr
  have HL := Lib.hid hl
  have HB := Lib.hid hb
  clear hp ho hr hl hb
  go_enter Try.func17, Try.ntmps17
  go_wp2_with (at_builtin; refine wpList_append_bytes _ rfl (.tmp 4) (.tmp 5) 22 rfl 5 base Try.underlying22 Try.info_u8 (.slice A0 T.length k0) T rfl ?own2 Ab b.length cb W.heap.size b rfl rfl ?row2 ?len2 ?base2 ?next2)
  case own2 => rw [HV.out]; exact HO.out
  case row2 => exact HR.out
  case len2 => have := HL.out; omega
  case base2 => exact HB.out
  case next2 =>
    intro v3 w3 hown3 hfrm3 hnew3
    rw [HV.out] at hfrm3 hnew3
    obtain ⟨A3, k3, hv3, -, -, -⟩ := hown3.slice
    have hne : v.ownBlock ≠ some ob := fun e => by
      rcases HO.out.form with ⟨rfl, _⟩ | ⟨g, cap, cur, rfl, _, hh, _⟩
      · cases e
      · injection e with e
        subst e
        exact hh.ne_of HP.out (by decide) rfl
    have hp3 := HP.out.frm hfrm3 hne
    have hne3 : v3.ownBlock ≠ some ob := by
      have := HP.out.lt
      rcases hnew3 with e | e
      · rw [e]; exact hne
      · rw [e]; intro h; injection h with h; omega
    have c3 : w3.cell? ⟨ob, 0, none⟩ = some (.slice A0 T.length k0) := by rw [hp3.cell, HV.out]; rfl
    have z3 := hp3.frozen 0
    have HP3 := Lib.hid (hp3.set 0 v3)
    have HO3 := Lib.hid (hown3.other (p := ⟨ob, 0, none⟩) hne3 v3)
    have HF3 := Lib.hid (Frm.setCell (p := ⟨ob, 0, none⟩) (hfrm3.mono (S' := fun q => q = ob ∨ v.ownBlock = some q) fun q _ e => .inr e) (.inl rfl) v3)
    have HN3 := Lib.hid hnew3
    clear hown3 hfrm3 hnew3 hne hp3 hne3
    obtain ⟨L3, hL3⟩ : ∃ L, (T ++ b).length = L := ⟨_, rfl⟩
    rw [hL3] at hv3
    subst hv3
    clear hL3
    go_wp2
    go_ret
    exact ⟨rfl, _, HP3.out, HO3.out, HF3.out, HN3.out⟩
theorem out_ok (ob base B0 most : Nat) (h1 : B0 ≤ ob) (h2 : B0 ≤ base) (hm : most ≤ 16777216) : PutOk Try.prog 17 #[.pointer (some ⟨ob, 0, none⟩)] B0 most (OutJ ob base) where
  ent := enters_of Try.func17 (by kernel_rfl) rfl
  keep := by
    rintro M T W W' ⟨v, hp, ho, hM, hb⟩ hf
    exact ⟨v, hp.frm hf (fun h => h ((hM ob).2 (.inl rfl))), ho.frm hf (fun k hk h => h ((hM k).2 (.inr hk))), hM, Nat.le_trans hb hf.size⟩
  own := by
    rintro M T W ⟨v, hp, ho, hM, hb⟩ q hq
    rcases (hM q).1 hq with e | e
    · subst e; exact ⟨h1, _, _, _, hp⟩
    · refine ⟨Nat.le_trans h2 (ho.lt e).1, ?_⟩
      rcases ho.form with ⟨rfl, _⟩ | ⟨g, cap, cur, rfl, _, hh, _⟩
      · cases e
      · injection e with e
        subst e
        exact ⟨_, _, _, hh⟩
  call := by
    rintro M T b Ab cb W ⟨v, hp, ho, hM, hb⟩ hr hbc hcm hl
    refine (out_p ob base v T b Ab cb W hp ho hb hr (by omega)).mono ?_
    rintro e W' ⟨rfl, v', hp', ho', hf, hn⟩
    refine ⟨rfl, fun q => q = ob ∨ v'.ownBlock = some q, ⟨v', hp', ho', fun q => Iff.rfl, Nat.le_trans hb hf.size⟩, hf.mono fun q _ e => (hM q).2 e, ?_⟩
    rintro q (e | e)
    · exact .inl ((hM q).2 (.inl e))
    · rcases hn with h | h
      · exact .inl ((hM q).2 (.inr (h ▸ e)))
      · have h3 := (ho'.lt e).2
        rw [h] at e
        injection e with e
        exact .inr ⟨by omega, h3⟩
/-- How Decode ends. -/
def DecEnd (S : Nat) (bs : List UInt8) (w : World) (e : Ending) (w' : World) : Prop :=
  ∃ v, OwnB w' 5 w.heap.size v (d2P S 16777216 bs).1 ∧ Below w.heap.size w w' ∧
    (match (d2P S 16777216 bs).2 with
    | .inl z => z ≠ 0 ∧ e = .returned (.tuple #[v, .int .i64 0, .int .i64 ((z : Nat) : Int)])
    | .inr r => r.length ≤ bs.length ∧ e = .returned (.tuple #[v, .int .i64 ((bs.length - r.length : Nat) : Int), .int .i64 0]))
set_option maxHeartbeats 1000000 in
theorem decode_p (A : Option Addr) (bs : List UInt8) (n c S : Nat) (w : World) (hn : n = bs.length) (hr : BRow w w.heap.size A bs) (hc : n ≤ c) (hcm : c ≤ maxLen) (hub : n ≤ 4611686018427387904) (hS1 : 1 ≤ S) (hS : S ≤ 16777216) :
    Calls Try.prog 9 #[.slice A n c, .int .i64 S] w (DecEnd S bs w) := by
  have HR := Lib.hid hr
  have HN := Lib.hid hn
  have HH : Hid (n ≤ c ∧ c ≤ maxLen ∧ n ≤ 4611686018427387904 ∧ 1 ≤ S ∧ S ≤ 16777216) := Lib.hid ⟨hc, hcm, hub, hS1, hS⟩
  clear hr hn hc hcm hub hS1 hS
  go_enter Try.func9, Try.ntmps9
  go_wp2_with fail
  obtain ⟨W0, hW0⟩ : ∃ W, w.alloc (.cells #[.slice none 0 0] 22) = W := ⟨_, rfl⟩
  have hs0 : W0.heap.size = w.heap.size + 1 := by rw [← hW0]; simp only [World.size_alloc]
  have hP0 : Pts W0 w.heap.size #[.slice none 0 0] 22 := by rw [← hW0]; exact Pts.new w _ _
  have hB0 : Below w.heap.size w W0 := by rw [← hW0]; exact below_alloc _ _
  rw [hW0]
  clear hW0
  refine (whole_p A n c W0).mono ?_; rintro e w1 ⟨rfl, hs1, hb1⟩
  have hP1 := hP0.below hb1 hP0.lt
  have B1 := Lib.hid (hB0.trans (hb1.mono hB0.size))
  have hz1 := Pts.lt hs1
  rw [hs0] at hs1 hz1
  have P1 := Lib.hid hP1
  have S1 := Lib.hid hs1
  have Z1 := Lib.hid hz1
  have HRun := run_p (w.heap.size + 1) w.heap.size S 16777216 17 #[.pointer (some ⟨w.heap.size, 0, none⟩)] (OutJ w.heap.size w.heap.size) (fun q => q = w.heap.size) A n c 0 n bs w1 (out_ok w.heap.size w.heap.size w.heap.size 16777216 (Nat.le_refl _) (Nat.le_refl _) (Nat.le_refl _))
    ⟨.slice none 0 0, hP1, OwnB.nil _ _ _, fun q => ⟨fun h => .inl h, fun h => h.elim id (fun h => by cases h)⟩, B1.out.size⟩ (by omega) (by omega) hs1 HN.out (HR.out.below B1.out) B1.out.size HH.out.1 HH.out.2.1 (by omega) HH.out.2.2.1 HH.out.2.2.2.1 HH.out.2.2.2.2 (Nat.le_refl _)
  have HRU := Lib.hid HRun
  rw [hs0]
  clear hP0 hB0 hb1 hP1 hs1 hz1 hs0 HRun
  go_wp2_with fail
  refine HRU.out.mono ?_; rintro e w2 ⟨rfl, ⟨M, ⟨v, hv, ho, hMv, hbb⟩, hM⟩, hf, hsrc⟩
  have hE : evGo S 16777216 (bs.length + 1) newDS 0 bs = d2E S 16777216 bs := rfl
  rw [hE] at ho hsrc
  rw [hE]
  have hD := d2E_d2P S 16777216 bs
  have hBF : Below w.heap.size w w2 := B1.out.trans (hf.below B1.out.size (by rintro q (e | e) <;> omega))
  obtain ⟨Ev, hEv⟩ : ∃ E, d2E S 16777216 bs = E := ⟨_, rfl⟩
  have hok := evGo_ok S 16777216 (bs.length + 1) newDS 0 bs
  rw [hE, hEv] at hok
  rw [hEv] at ho hsrc hD
  rw [hEv]
  obtain ⟨Av, kv, hve, -, -, -⟩ := ho.slice
  obtain ⟨Lv, hLv⟩ : ∃ L, (evOut Ev.1).length = L := ⟨_, rfl⟩
  rw [hLv] at hve
  subst hve
  have cv : w2.cell? ⟨w.heap.size, 0, none⟩ = some (.slice Av Lv kv) := by rw [hv.cell]; rfl
  have zv := hv.frozen 0
  have hso : (Value.slice Av Lv kv).ownBlock ≠ some w.heap.size := fun e => by
    rcases ho.form with ⟨h1, _⟩ | ⟨g, cap, cur, h1, _, hh, _⟩
    · rw [h1] at e; cases e
    · rw [h1] at e
      injection e with e
      subst e
      exact hh.ne_of hv (by decide) rfl
  have HO : Hid (OwnB (w2.setCell ⟨w.heap.size, 0, none⟩ (.slice Av Lv kv)) 5 w.heap.size (.slice Av Lv kv) (evOut Ev.1) ∧ Below w.heap.size w (w2.setCell ⟨w.heap.size, 0, none⟩ (.slice Av Lv kv))) :=
    Lib.hid ⟨ho.other (p := ⟨w.heap.size, 0, none⟩) hso (.slice Av Lv kv), hBF.trans ((Frm.setCell (p := ⟨w.heap.size, 0, none⟩) (Frm.refl (fun q => q = w.heap.size) w2) rfl (.slice Av Lv kv)).below hBF.size (by intro q hq; omega))⟩
  have HD := Lib.hid hD
  have HVP := Lib.hid hv
  clear hE hD hBF hEv ho hv hM hMv hbb hf hso HRU S1 P1 hLv
  rcases hok with ⟨l, b, z, h1, h2, h3, h4, h5⟩ | ⟨⟨r, h1⟩, h2⟩
  · have hz : evErr Ev.1 = z := by rw [h1]; exact evErr_snoc h5 h2
    rw [h4] at HD
    rw [hz] at HD
    rw [hz]
    have qz : ((z : Int) != 0) = true := bne_iff_ne.2 (by omega)
    have HZ := Lib.hid h2
    clear hsrc h1 h2 h3 h4 h5 hz
    go_wp2
    have hcv : (w2.setCell ⟨w.heap.size, 0, none⟩ (.slice Av Lv kv)).cell? ⟨w.heap.size, 0, none⟩ = some (.slice Av Lv kv) := World.cell?_setCell_same' _ _ _ (by rw [cv]; rfl)
    refine bodyPost_ret (v := .tuple #[.slice Av Lv kv, .int .i64 0, .int .i64 (z : Int)]) (by simp [results, Try.f9, go_sem, hcv]) rfl ?_
    · unfold DecEnd
      rw [HD.out]
      exact ⟨_, HO.out.1, HO.out.2, HZ.out, rfl⟩
  · rw [h1] at hsrc
    rw [h1] at HD
    rw [evErr_zero h2]
    obtain ⟨A2, n2, c2, used, hs2, hu, hr2, hn2, hc2, hcm2⟩ := hsrc
    have HS2 := Lib.hid hs2
    have HU := Lib.hid (And.intro hu hn2)
    clear h1 h2 hs2 hu hr2 hn2 hc2 hcm2
    have hne : w.heap.size + 1 ≠ w.heap.size := by omega
    have SA : Hid (SrcAt w2.drew (w.heap.size + 1) A2 n2 c2 used) := Lib.hid HS2.out
    have SB : Hid (SrcAt (w2.drew.setCell ⟨w.heap.size, 0, none⟩ (.slice Av Lv kv)) (w.heap.size + 1) A2 n2 c2 used) := Lib.hid (Pts.other SA.out (p := ⟨w.heap.size, 0, none⟩) hne _)
    go_upto_region 5 with fail
    go_region_with (go_at_call 18; (first | refine (used_p _ A2 n2 c2 used _ SA.out).mono ?_ | refine (used_p _ A2 n2 c2 used _ SB.out).mono ?_); rintro e w3 ⟨rfl, rfl⟩)
    all_goals
      have hcv : (w2.setCell ⟨w.heap.size, 0, none⟩ (.slice Av Lv kv)).cell? ⟨w.heap.size, 0, none⟩ = some (.slice Av Lv kv) := World.cell?_setCell_same' _ _ _ (by rw [cv]; rfl)
      have hO2 : OwnB (w2.setCell ⟨w.heap.size, 0, none⟩ (.slice Av Lv kv)).drew 5 w.heap.size (.slice Av Lv kv) (evOut Ev.1) := HO.out.1
      have hB2 : Below w.heap.size w (w2.setCell ⟨w.heap.size, 0, none⟩ (.slice Av Lv kv)).drew := ⟨HO.out.2.os, HO.out.2.tape, HO.out.2.output, HO.out.2.size, HO.out.2.block⟩
      have O2 := Lib.hid (And.intro hO2 hB2)
      clear hO2 hB2
      go_wp2
      refine bodyPost_ret (v := .tuple #[.slice Av Lv kv, .int .i64 (used : Int), .int .i64 0]) (by simp [results, Try.f9, go_sem, hcv]) rfl ?_
      unfold DecEnd
      rw [HD.out]
      have h1 := HU.out.1
      have h2 := HU.out.2
      have h3 := HN.out
      refine ⟨_, O2.out.1, O2.out.2, by omega, ?_⟩
      rw [show bs.length - r.length = used by omega]
set_option maxHeartbeats 1000000 in
theorem run_arg (p : Option Addr) (S most : Int) (fput : Nat) (lb : Array Value) (w : World) (h : S < 1 ∨ 16777216 < S) : Calls Try.prog 16 #[.pointer p, .int .i64 S, .int .i64 most, .func (.func fput) #[] lb] w fun e w' => e = .returned (.int .i64 2) ∧ Below w.heap.size w w' := by
  have HS := Lib.hid h
  have hbud : bud 16777216 = 16777216 := by decide
  clear h
  go_enter Try.func16, Try.ntmps16
  go_wp2
  go_step3
  go_wp2_with fail
  obtain ⟨W0, hW0⟩ : ∃ W, (w.alloc (.cells #[.func (.func fput) #[] lb] 44)).alloc (.cells #[.int .i64 0] 25) = W := ⟨_, rfl⟩
  have hs0 : W0.heap.size = w.heap.size + 1 + 1 := by rw [← hW0]; simp only [World.size_alloc]
  have hE0 : Pts W0 (w.heap.size + 1) #[.int .i64 0] 25 := by
    rw [← hW0]; have := Pts.new (w.alloc (.cells #[.func (.func fput) #[] lb] 44)) #[.int .i64 0] 25; rwa [World.size_alloc] at this
  have hB0 : Below w.heap.size w W0 := by rw [← hW0]; exact ((Below.refl _ w).alloc (Nat.le_refl _) _).alloc (by simp only [World.size_alloc]; omega) _
  rw [hW0]
  clear hW0
  refine (new_led 16777216 _).mono ?_; rintro e w1 ⟨rfl, hl1, hb1⟩
  rw [hs0] at hb1
  have hE1 := hE0.below hb1 (by omega)
  have hB1 := Lib.hid (hB0.trans (hb1.mono (by omega)))
  rw [hs0]
  clear hl1 hb1 hbud hE0 hB0 hs0
  go_wp2_with fail
  refine (new_size S _ w1 HS.out).mono ?_; rintro e w2 ⟨rfl, rfl⟩
  have c1 : w1.cell? ⟨w.heap.size + 1, 0, none⟩ = some (.int .i64 0) := by rw [hE1.cell]; rfl
  have z1 := hE1.frozen 0
  have HE1 := Lib.hid hE1
  clear hE1
  go_wp2
  have he2 := (HE1.out.set 0 (.int .i64 2)).set 0 (.int .i64 2)
  have hce : ((w1.setCell ⟨w.heap.size + 1, 0, none⟩ (.int .i64 2)).setCell ⟨w.heap.size + 1, 0, none⟩ (.int .i64 2)).cell? ⟨w.heap.size + 1, 0, none⟩ = some (.int .i64 2) := by rw [he2.cell]; rfl
  rw [Exit.noGoto_ret]
  refine bodyPost_ret (v := .int .i64 2) (by simp [results, Try.f16, go_sem, hce]) rfl ?_
  have hf : Frm (fun q => q = w.heap.size + 1) w1 ((w1.setCell ⟨w.heap.size + 1, 0, none⟩ (.int .i64 2)).setCell ⟨w.heap.size + 1, 0, none⟩ (.int .i64 2)) := (((Frm.refl (fun q => q = w.heap.size + 1) w1).setCell (p := ⟨w.heap.size + 1, 0, none⟩) rfl _).setCell (p := ⟨w.heap.size + 1, 0, none⟩) rfl _)
  exact ⟨rfl, hB1.out.trans (hf.below hB1.out.size (by intro q hq; omega))⟩
set_option maxHeartbeats 1000000 in
theorem decode_arg (A : Option Addr) (n c : Nat) (S : Int) (w : World) (h : S < 1 ∨ 16777216 < S) : Calls Try.prog 9 #[.slice A n c, .int .i64 S] w fun e w' => e = .returned (.tuple #[.slice none 0 0, .int .i64 0, .int .i64 2]) ∧ Below w.heap.size w w' := by
  have HS := Lib.hid h
  clear h
  go_enter Try.func9, Try.ntmps9
  go_wp2_with fail
  obtain ⟨W0, hW0⟩ : ∃ W, w.alloc (.cells #[.slice none 0 0] 22) = W := ⟨_, rfl⟩
  have hs0 : W0.heap.size = w.heap.size + 1 := by rw [← hW0]; simp only [World.size_alloc]
  have hP0 : Pts W0 w.heap.size #[.slice none 0 0] 22 := by rw [← hW0]; exact Pts.new w _ _
  have hB0 : Below w.heap.size w W0 := by rw [← hW0]; exact below_alloc _ _
  rw [hW0]
  clear hW0
  refine (whole_p A n c W0).mono ?_; rintro e w1 ⟨rfl, hs1, hb1⟩
  have hP1 := hP0.below hb1 hP0.lt
  have hB1 := hB0.trans (hb1.mono hB0.size)
  clear hs1 hb1 hB0 hP0 hs0
  have P1 := Lib.hid hP1
  have B1 := Lib.hid hB1
  clear hP1 hB1
  go_wp2_with fail
  refine (run_arg _ S 16777216 _ _ w1 HS.out).mono ?_; rintro e w2 ⟨rfl, hb2⟩
  have hP2 := P1.out.below hb2 P1.out.lt
  have B2 := Lib.hid (B1.out.trans (hb2.mono B1.out.size))
  have c2 : w2.cell? ⟨w.heap.size, 0, none⟩ = some (.slice none 0 0) := by rw [hP2.cell]; rfl
  have z2 := hP2.frozen 0
  have P2 := Lib.hid hP2
  clear hb2 hP2
  go_wp2
  have he2 := P2.out.set 0 (.slice none 0 0)
  have hce : (w2.setCell ⟨w.heap.size, 0, none⟩ (.slice none 0 0)).cell? ⟨w.heap.size, 0, none⟩ = some (.slice none 0 0) := by rw [he2.cell]; rfl
  refine bodyPost_ret (v := .tuple #[.slice none 0 0, .int .i64 0, .int .i64 2]) (by simp [results, Try.f9, go_sem, hce]) rfl ?_
  have hf : Frm (fun q => q = w.heap.size) w2 (w2.setCell ⟨w.heap.size, 0, none⟩ (.slice none 0 0)) := ((Frm.refl (fun q => q = w.heap.size) w2).setCell (p := ⟨w.heap.size, 0, none⟩) rfl _)
  exact ⟨rfl, B2.out.trans (hf.below B2.out.size (by intro q hq; omega))⟩
end Go.Proofs.Ytefbjamepbkklaa

/- Steps that make a text stand in it: plain. -/
namespace Go.Proofs.Ytefbjamepbkklaa
open Go.RowKit Rng Win Lz Fnd
set_option linter.unusedVariables false
set_option linter.unusedSimpArgs false
theorem copyBack_front (k : Nat) : ∀ (n : Nat) (out : List UInt8), ∃ suf, copyBack k n out = out ++ suf
  | 0, out => ⟨[], by rw [copyBack, List.append_nil]⟩
  | n + 1, out => by
    obtain ⟨suf, h⟩ := copyBack_front k n (out ++ [out.getD (out.length - k) 0])
    exact ⟨[out.getD (out.length - k) 0] ++ suf, by rw [copyBack, h, List.append_assoc]⟩
theorem getD_front (o suf : List UInt8) {i : Nat} (h : i < o.length) : (o ++ suf).getD i 0 = o.getD i 0 := by
  rw [List.getD_eq_getElem?_getD, List.getD_eq_getElem?_getD, List.getElem?_append_left h]
theorem copyBack_same (k : Nat) : ∀ (n : Nat) (out : List UInt8), 1 ≤ k → k ≤ out.length → ∀ i, i < n → (copyBack k n out).getD (out.length + i) 0 = (copyBack k n out).getD (out.length + i - k) 0
  | 0, _, _, _, i, hi => absurd hi (by omega)
  | n + 1, out, h1, h2, i, hi => by
    rw [copyBack]
    obtain ⟨suf, h⟩ := copyBack_front k n (out ++ [out.getD (out.length - k) 0])
    by_cases h0 : i = 0
    · subst h0
      have hl : (out ++ [out.getD (out.length - k) 0]).length = out.length + 1 := by simp
      have hx : (out ++ [out.getD (out.length - k) 0]).getD out.length 0 = out.getD (out.length - k) 0 := by
        rw [List.getD_eq_getElem?_getD, List.getElem?_append_right (Nat.le_refl _)]
        simp
      rw [h, getD_front _ suf (by rw [hl]; omega), getD_front _ suf (by rw [hl]; omega), Nat.add_zero, hx, getD_front _ _ (by omega)]
    · have e := copyBack_same k n (out ++ [out.getD (out.length - k) 0]) h1 (by simp; omega) (i - 1) (by omega)
      have hl : (out ++ [out.getD (out.length - k) 0]).length = out.length + 1 := by simp
      rw [hl, show out.length + 1 + (i - 1) = out.length + i by omega] at e
      exact e
def sumM : List Sq → Nat
  | [] => 0
  | s :: l => s.mat.toNat + sumM l
theorem sumM_take {l : List Sq} : ∀ {k : Nat}, k < l.length → sumM (l.take (k + 1)) = sumM (l.take k) + (l.getD k default).mat.toNat := by
  induction l with
  | nil => intro k h; simp at h
  | cons s l ih =>
    intro k h
    cases k with
    | zero => simp [sumM]
    | succ k =>
      have := ih (k := k) (by simpa using h)
      simp only [List.take_succ_cons, sumM, List.getD_cons_succ] at this ⊢
      omega
set_option maxRecDepth 100000 in
theorem back_all : ∀ (l : List Sq) (out rest b : List UInt8), backGo l out rest = some b → (∀ s ∈ l, s.mat ≠ 1 ∧ s.mat ≤ 273) →
    ∃ suf, b = out ++ suf ∧ rightGo b l out.length = some b.length ∧ b.length ≤ out.length + rest.length + sumM l ∧ costOps (opsOf l) ≤ 9 * rest.length + 100 * l.length ∧ b.length ≤ 16777216
  | [], out, rest, b, h, _ => by
    unfold Fnd.backGo at h
    by_cases hm : maxC < out.length
    · rw [if_pos hm] at h; cases h
    · rw [if_neg hm] at h
      injection h with h
      subst h
      unfold maxC at hm
      exact ⟨[], by simp, rfl, by omega, by simp [opsOf, costOps], by omega⟩
  | s :: l, out, rest, b, h, hs => by
    unfold Fnd.backGo at h
    by_cases h1 : Bad1 s rest.length
    · rw [if_pos h1] at h; cases h
    rw [if_neg h1] at h
    by_cases h2 : Bad2 s (out ++ rest.take s.lits.toNat).length
    · rw [if_pos h2] at h; cases h
    rw [if_neg h2] at h
    unfold Bad1 at h1
    have hol : (out ++ rest.take s.lits.toNat).length = out.length + s.lits.toNat := by rw [List.length_append, List.length_take]; omega
    rw [hol] at h2
    unfold Bad2 maxC at h2
    obtain ⟨suf, e1, e2, e3, e4, e5⟩ := back_all l _ _ b h (fun x hx => hs x (List.mem_cons_of_mem _ hx))
    have hms := hs s (List.mem_cons_self)
    have hcl := copyBack_length s.back.toNat s.mat.toNat (out ++ rest.take s.lits.toNat)
    rw [hol] at hcl
    rw [hcl] at e2 e3
    have hdl : (rest.drop s.lits.toNat).length = rest.length - s.lits.toNat := List.length_drop
    rw [hdl] at e3 e4
    obtain ⟨suf2, hf⟩ := copyBack_front s.back.toNat s.mat.toNat (out ++ rest.take s.lits.toNat)
    have hbl : b.length = out.length + s.lits.toNat + s.mat.toNat + suf.length := by rw [e1, List.length_append, hcl]
    refine ⟨rest.take s.lits.toNat ++ suf2 ++ suf, by rw [e1, hf]; simp, ?_, by unfold sumM; omega, ?_, e5⟩
    · unfold rightGo
      rw [if_neg (by unfold RB1; omega)]
      by_cases h0 : s.mat = 0
      · rw [if_pos h0]
        rw [h0] at e2
        exact e2
      · rw [if_neg h0, if_neg (by unfold RB2; omega), if_pos ?_]
        · exact e2
        · intro i hi
          have hk : 1 ≤ s.back.toNat := by omega
          have hc := copyBack_same s.back.toNat s.mat.toNat (out ++ rest.take s.lits.toNat) hk (by rw [hol]; omega) i hi
          rw [hol] at hc
          rw [e1, getD_front _ _ (by rw [hcl]; omega), getD_front _ _ (by rw [hcl]; omega)]
          exact hc
    · unfold opsOf opsSq
      rw [costOps_append, costOps_append, costOps_lits, List.length_cons]
      by_cases h0 : 0 < s.mat
      · rw [if_pos h0]
        simp only [costOps, costOp]
        omega
      · rw [if_neg h0]
        simp only [costOps]
        omega
theorem back_right {l : List Sq} {lits b : List UInt8} (h : back lits 0 l = .ok b) (hs : ∀ s ∈ l, s.mat ≠ 1 ∧ s.mat ≤ 273) (hb : b.length ≠ 0) :
    rightP b 0 l = true ∧ rightGo b l 0 = some b.length ∧ b.length ≤ lits.length + sumM l ∧ costOps (opsOf l) ≤ 9 * lits.length + 100 * l.length ∧ b.length ≤ 16777216 := by
  have hg : backGo l [] lits = some b := by
    unfold back at h
    rw [if_neg (by omega)] at h
    simp only [Int.toNat_zero, List.take_zero, List.drop_zero] at h
    revert h
    cases backGo l [] lits with
    | none => intro h; cases h
    | some o => intro h; injection h with h; rw [h]
  obtain ⟨suf, e1, e2, e3, e4, e5⟩ := back_all l [] lits b hg hs
  refine ⟨?_, e2, by simpa using e3, e4, e5⟩
  unfold rightP
  rw [show ([] : List UInt8).length = 0 from rfl] at e2
  rw [e2]
  exact decide_eq_true ⟨rfl, by omega⟩
end Go.Proofs.Ytefbjamepbkklaa

/- The contracts of Back. -/
namespace Go.Proofs.Ytefbjamepbkklaa
open Go.RowKit Fnd
set_option linter.unusedVariables false
set_option linter.unusedSimpArgs false

theorem Try.info_u8F : (Try.prog.info? 5).map (fun i => (i.zero, i.size, i.bytes)) = some (some (.int .u8 0), 1, 1) := by kernel_rfl

theorem slice_fromF (A : Option Addr) (n c f : Nat) (hf : f ≤ n) (hn : n ≤ c) (w : World) :
    (Instr.sliceAt 22 (.slice A n c) (some (.int .i64 (f : Int))) none none).run Try.prog w = .ok (.slice (if c = f then A else A.map (·.add f)) (n - f) (c - f)) w := by
  by_cases hcf : c = f
  · simp [go_sem, hcf]
    intro h; omega
  · simp [go_sem, hcf]
    intro h; omega

/-- What Back hands back. -/
def TaleBy (w w' : World) (v : Value) (en : Int) : Tale → Prop
  | .arg => v = .slice none 0 0 ∧ en = 2
  | .malformed => v = .slice none 0 0 ∧ en = 11
  | .ok out => OwnB w' 5 w.heap.size v out ∧ en = 0
def taleGo : Option (List UInt8) → Tale
  | none => .malformed
  | some out => .ok out

end Go.Proofs.Ytefbjamepbkklaa

/- LzmaputSteps. -/
namespace Go.Proofs.Ytefbjamepbkklaa
open Go.RowKit Rng Win Lz Fnd
set_option linter.unusedVariables false
set_option linter.unusedSimpArgs false
theorem opsB_chunk (b lb : Nat) {bs : List UInt8} {l : List Sq} (total : Nat) (hr : rightGo bs l 0 = some bs.length) (hb : bs.length ≤ 65536) : Reads total bs.length (opsB (newK b lb) bs 0 total 0 (fun _ => 0) (fun _ => 1024) (opsOf l)) bs ∧ (opsB (newK b lb) bs 0 total 0 (fun _ => 0) (fun _ => 1024) (opsOf l)).length ≤ costOps (opsOf l) + 5 := by
  have hok := right_ops l 0 (Nat.zero_le _) hr
  exact ⟨reads_ops b lb bs total _ hok hb, opsB_len (newK b lb) bs 0 total 0 _ _ _ (by omega) hok⟩
end Go.Proofs.Ytefbjamepbkklaa

/- Rows of steps of the call's own, and maps of places. -/
namespace Go.Proofs.Ytefbjamepbkklaa
open Go.RowKit Fnd
set_option linter.unusedVariables false
set_option linter.unusedSimpArgs false

def sqCells (l : List Sq) : List Value := l.flatMap fun s => [.int .i64 s.lits, .int .i64 s.mat, .int .i64 s.back]
theorem sqCells_length : ∀ l : List Sq, (sqCells l).length = l.length * 3
  | [] => rfl
  | s :: l => by
    have := sqCells_length l
    unfold sqCells at this ⊢
    rw [List.flatMap_cons, List.length_append, this]; simp; omega
theorem sqCells_at : ∀ (l : List Sq) (k : Nat), k < l.length → (sqCells l)[k * 3]? = some (.int .i64 (l.getD k default).lits) ∧ (sqCells l)[k * 3 + 1]? = some (.int .i64 (l.getD k default).mat) ∧ (sqCells l)[k * 3 + 2]? = some (.int .i64 (l.getD k default).back)
  | [], k, h => absurd h (by simp)
  | s :: l, 0, _ => by simp [sqCells]
  | s :: l, k + 1, h => by
    have ih := sqCells_at l k (by simpa using h)
    have e : sqCells (s :: l) = .int .i64 s.lits :: .int .i64 s.mat :: .int .i64 s.back :: sqCells l := rfl
    rw [e, show (k + 1) * 3 = k * 3 + 1 + 1 + 1 by omega]
    simpa using ih
theorem sqCells_append (l m : List Sq) : sqCells (l ++ m) = sqCells l ++ sqCells m := by simp [sqCells]

/-- A row of steps of the call's own. -/
def OwnSq (w : World) (T base : Nat) (v : Value) (l : List Sq) : Prop := w.ownsRow base T 3 v l.length (sqCells l)
section
variable {w w' : World} {T base : Nat} {v : Value} {l : List Sq}
theorem OwnSq.nil (w : World) (T base : Nat) : OwnSq w T base (.slice none 0 0) [] := World.ownsRow_nil w base T 3
theorem OwnSq.slice (h : OwnSq w T base v l) : ∃ A cap, v = .slice A l.length cap ∧ l.length ≤ cap ∧ cap ≤ maxLen ∧ SqRow w w.heap.size A l := by
  obtain ⟨h1, h2⟩ := h
  rcases h2 with ⟨rfl, hn⟩ | ⟨g, cap, cur, rfl, hb, hh, hnc, hcm, hcs, ht⟩
  · obtain rfl : l = [] := List.eq_nil_of_length_eq_zero hn
    exact ⟨none, 0, rfl, Nat.le_refl _, Nat.zero_le _, fun h => absurd h (by simp)⟩
  · have hp : Pts w g cur T := hh
    refine ⟨_, cap, rfl, hnc, hcm, fun _ => ⟨g, 0, rfl, hp.lt, fun k hk => ?_⟩⟩
    obtain ⟨c0, c1, c2⟩ := sqCells_at l k hk
    have hx : ∀ j, j < l.length * 3 → cur[j]? = (sqCells l)[j]? := by
      intro j hj
      rw [← ht, List.getElem?_take, if_pos hj, Array.getElem?_toList]
    rw [hp.cell, hp.cell, hp.cell, hx _ (by omega), hx _ (by omega), hx _ (by omega)]
    simpa using ⟨c0, c1, c2⟩
theorem OwnSq.lt (h : OwnSq w T base v l) {k : Nat} (hk : v.ownBlock = some k) : base ≤ k ∧ k < w.heap.size := World.ownsRow.lt h k hk
theorem OwnSq.frm {S : Nat → Prop} (h : OwnSq w T base v l) (hf : Frm S w w') (hn : ∀ k, v.ownBlock = some k → ¬ S k) : OwnSq w' T base v l := by
  refine ⟨h.1, ?_⟩
  rcases h.2 with h2 | ⟨g, cap, cur, rfl, hb, hh, r⟩
  · exact .inl h2
  · exact .inr ⟨g, cap, cur, rfl, hb, (hf.block g (Pts.lt hh) (hn g rfl)).trans hh, r⟩
theorem OwnSq.alloc (h : OwnSq w T base v l) (o : Obj) : OwnSq (w.alloc o) T base v l := World.ownsRow.alloc h o
theorem OwnSq.one (w : World) (T base : Nat) (hb : base ≤ w.heap.size) (s : Sq) : OwnSq (w.alloc (.cells #[.int .i64 s.lits, .int .i64 s.mat, .int .i64 s.back] T)) T base (.slice (some ⟨w.heap.size, 0, none⟩) 1 1) [s] :=
  World.ownsRow_lit w #[.int .i64 s.lits, .int .i64 s.mat, .int .i64 s.back] 1 hb (by decide) rfl
end

section
variable {P : Program} (w : World)
theorem run_append_sq (t ty T base : Nat) (ht : P.underlying t = some (.slice T)) (hinfo : (P.info? T).map (fun i => (i.zero, i.size, i.bytes)) = some (some (.agg #[.int .i64 0, .int .i64 0, .int .i64 0]), 3, 24))
    (v : Value) (l : List Sq) (hown : OwnSq w T base v l) (g c : Nat) (s : Sq) (hnews : Pts w g #[.int .i64 s.lits, .int .i64 s.mat, .int .i64 s.back] T)
    (hlen : l.length + 1 ≤ 1000000000) (hbase : base ≤ w.heap.size) :
    ∃ v' w', (Builtin.append_ #[t, t] ty #[v, .slice (some ⟨g, 0, none⟩) 1 c]).run P w = .ok v' w' ∧ OwnSq w' T base v' (l ++ [s]) ∧ Frm (fun k => v.ownBlock = some k) w w' ∧
      (v'.ownBlock = v.ownBlock ∨ v'.ownBlock = some w.heap.size) := by
  obtain ⟨i, hi, hzz⟩ := Option.map_eq_some_iff.1 hinfo
  simp only [Prod.mk.injEq] at hzz
  obtain ⟨hz, hs, hby⟩ := hzz
  have hcells : ∀ j u, (sqCells [s])[j]? = some u → w.cell? ((⟨g, 0, none⟩ : Addr).add j) = some u := by
    intro j u hu
    rw [Opn.add_at, Nat.zero_add, hnews.cell, ← hu]
    show #[Value.int IntKind.i64 s.lits, .int .i64 s.mat, .int .i64 s.back][j]? = [Value.int IntKind.i64 s.lits, .int .i64 s.mat, .int .i64 s.back][j]?
    simp
  obtain ⟨v', w', hrun, h2, h3, _, h5⟩ := run_append_own_at (P := P) w base t ty T i (.agg #[.int .i64 0, .int .i64 0, .int .i64 0]) 3 24 ht hi hz hs hby rfl (by omega) v l.length (sqCells l) hown ⟨g, 0, none⟩ 1 c (sqCells [s]) (by simp [sqCells]) hcells (by intro u hu; simp [sqCells] at hu; rcases hu with rfl | rfl | rfl <;> rfl) (by unfold maxLen; omega) (by omega) hbase
  refine ⟨v', w', hrun, ?_, ⟨h3.os, h3.tape, h3.output, h3.size, fun k hk hn => h3.block k hk (fun e => hn e.symm)⟩, h5⟩
  unfold OwnSq
  rw [List.length_append, sqCells_append]
  exact h2

theorem wpList_append_sq {ops : Array Oper} {rest : List Oper} {o : Oper} {a : Act} {Q : Exit → Act → World → Prop} (hgd : o.guard = none) (u x : Operand) (t : TypeId)
    (ho : o.op = .call { callee := .builtin .append, args := #[u, x], argTypes := #[t, t] })
    (T base : Nat) (ht : P.underlying t = some (.slice T)) (hinfo : (P.info? T).map (fun i => (i.zero, i.size, i.bytes)) = some (some (.agg #[.int .i64 0, .int .i64 0, .int .i64 0]), 3, 24))
    (v : Value) (l : List Sq) (hs : a.eval u = v) (hown : OwnSq w T base v l) (g c : Nat) (s : Sq) (hx : a.eval x = .slice (some ⟨g, 0, none⟩) 1 c) (hnews : Pts w g #[.int .i64 s.lits, .int .i64 s.mat, .int .i64 s.back] T)
    (hlen : l.length + 1 ≤ 1000000000) (hbase : base ≤ w.heap.size)
    (h : ∀ v' w', OwnSq w' T base v' (l ++ [s]) → Frm (fun k => v.ownBlock = some k) w w' → (v'.ownBlock = v.ownBlock ∨ v'.ownBlock = some w.heap.size) → wpList P ops Q rest (a.put o.dst v') w') : wpList P ops Q (o :: rest) a w :=
  wpList_plain hgd fun K' hK' => by
    obtain ⟨v', w', hrun, h2, h3, h4⟩ := run_append_sq (P := P) w t o.type T base ht hinfo v l hown g c s hnews hlen hbase
    unfold Oper.wp execOp
    simp only [ho, resolve, invoke, builtin, Sem.run_bind, Sem.run_pure, Result.andThen_ok, List.map_toArray, List.map_cons, List.map_nil, hs, hx, hrun]
    exact hK' _ _ (h v' w' h2 h3 h4)
end

/-! ### the key of some bytes -/
def keyStep (y : Nat) (x : UInt8) : Nat := (y * 256 % Num.M32) ||| (x.toNat % Num.M32)
def keyFold (l : List UInt8) : Nat := l.foldl keyStep 0
theorem keyStep_lt (y : Nat) (x : UInt8) : keyStep y x < 4294967296 := by
  have e : Num.M32 = 2 ^ 32 := rfl
  unfold keyStep
  rw [e]
  exact Nat.or_lt_two_pow (Nat.mod_lt _ (by decide)) (Nat.mod_lt _ (by decide))
theorem keyStep_cast (y : Nat) (x : UInt8) : bits .or .u32 ((y : Int) * 256 % 4294967296) ((x.toNat : Int) % 4294967296) = (keyStep y x : Int) := by
  have h := Num.or32 (a := y * 256 % Num.M32) (b := x.toNat % Num.M32) (Nat.mod_lt _ (by decide)) (Nat.mod_lt _ (by decide))
  unfold keyStep
  rw [← h]
  unfold Num.M32
  congr 1 <;> omega
theorem keyFold_lt' : ∀ (l : List UInt8) (y : Nat), y < 4294967296 → l.foldl keyStep y < 4294967296
  | [], _, h => h
  | x :: l, y, _ => keyFold_lt' l _ (keyStep_lt y x)
theorem keyFold_lt (l : List UInt8) : keyFold l < 4294967296 := keyFold_lt' l 0 (by decide)
theorem keyFold_take {l : List UInt8} {t : Nat} (h : t < l.length) : keyFold (l.take (t + 1)) = keyStep (keyFold (l.take t)) (l.getD t 0) := by
  unfold keyFold
  rw [List.take_succ_eq_append_getElem h, List.foldl_append]
  simp [List.getD, h]
/-- A place's key. -/
def keyAt (bs : List UInt8) (key i : Nat) : Nat := keyFold ((bs.drop i).take key)

/-! ### a map of places -/
/-- The map reads as f. -/
def MapIs (D : DataW Unit) (f : Int → Option Int) : Prop :=
  Maps.IsMap D ∧ ∀ k, Maps.has D (.int .u32 k) = (f k).isSome ∧ ∀ p, f k = some p → D.atKey (.int .u32 k) (.lit (.int .i64 0)) = .lit (.int .i64 p)
theorem MapIs.empty : MapIs (.map []) (fun _ => none) := ⟨Maps.isMap_empty, fun k => ⟨rfl, fun p h => absurd h (by simp)⟩⟩
theorem MapIs.put {D : DataW Unit} {f : Int → Option Int} (h : MapIs D f) (k p : Int) : MapIs (D.put (.int .u32 k) (.lit (.int .i64 p))) (fun x => if x = k then some p else f x) := by
  obtain ⟨h1, h2⟩ := h
  refine ⟨h1.put _ _, fun x => ?_⟩
  by_cases hx : x = k
  · subst hx
    have hkl : WideAt.IsKeyLit (.int .u32 x) := trivial
    simp only [if_true]
    refine ⟨by rw [Maps.has_put_same h1 hkl]; rfl, fun q hq => ?_⟩
    injection hq with hq
    subst hq
    exact Maps.atKey_put_same h1 hkl _ _
  · have hne : (Lit.int .u32 x) ≠ .int .u32 k := fun e => hx (by injection e)
    simp only [if_neg hx]
    refine ⟨by rw [Maps.has_put_other hne]; exact (h2 x).1, fun q hq => ?_⟩
    rw [Maps.atKey_put_other hne]
    exact (h2 x).2 q hq
theorem World.ownsMap.frm {H : Type} {P : Program} {k : TypeId} {R : Value → Option (DataW H × List MemPlace)} {b n : Nat} {D : DataW H} {w w' : World} {S : Nat → Prop} (h : w.ownsMap P k R b n D) (hf : Frm S w w') (hn : ¬ S b) : w'.ownsMap P k R b n D := by
  have hlt := World.ownsMap.lt h
  obtain ⟨es, clock, hb, r⟩ := h
  exact ⟨es, clock, (hf.block b hlt hn).trans hb, r⟩
end Go.Proofs.Ytefbjamepbkklaa

/- The contracts of the chains: at, add, longest. -/
namespace Go.Proofs.Ytefbjamepbkklaa
open Go.RowKit Fnd
set_option linter.unusedVariables false
set_option linter.unusedSimpArgs false

theorem slice_mid (A : Option Addr) (n c f m : Nat) (hf : f + m ≤ n) (hn : n ≤ c) (w : World) :
    (Instr.sliceAt 22 (.slice A n c) (some (.int .i64 (f : Int))) (some (.int .i64 (f + m : Int))) none).run Try.prog w = .ok (.slice (if c = f then A else A.map (·.add f)) m (c - f)) w := by
  have e : ((f : Int) + m).toNat = f + m := by omega
  by_cases hcf : c = f
  · simp [go_sem, hcf, e]
    intro h; exact absurd (h (by omega)) (by omega)
  · simp [go_sem, hcf, e]
    intro h; exact absurd (h (by omega)) (by omega)

theorem at_no (bc : Nat) (A : Option Addr) (n cap key i : Nat) (mv pv : Value) (w : World) (hc : Pts w bc #[.slice A n cap, .int .i64 key, mv, pv] 75)
    (hi : n < i + key) (hcap : n ≤ cap) (hcm : cap ≤ maxLen) (hi2 : i ≤ n) (hk : key ≤ 4) (hb : n ≤ 1048576) :
    Calls Try.prog 32 #[.pointer (some ⟨bc, 0, none⟩), .int .i64 i] w fun e w' => e = .returned (.tuple #[.int .u32 0, .bool false]) ∧ ∃ d, w' = w.drewN d := by
  have c0 : w.cell? ⟨bc, 0, none⟩ = some (.slice A n cap) := by rw [hc.cell]; rfl
  have c1 : w.cell? ⟨bc, 1, none⟩ = some (.int .i64 key) := by rw [hc.cell]; rfl
  unfold maxLen at hcm
  clear hc
  go_enter Try.func32, Try.ntmps32
  go_wp2
  go_quiet (fail)
  go_wp2
  go_ret2
  exact ⟨rfl, _, rfl⟩

theorem at_any (bc : Nat) (A : Option Addr) (bs : List UInt8) (cap key i : Nat) (mv pv : Value) (w : World) (hc : Pts w bc #[.slice A bs.length cap, .int .i64 key, mv, pv] 75)
    (hr : BRow w w.heap.size A bs) (hcap : bs.length ≤ cap) (hcm : cap ≤ maxLen) (hi : i + key ≤ bs.length) (hb : bs.length ≤ 1048576) :
    Calls Try.prog 32 #[.pointer (some ⟨bc, 0, none⟩), .int .i64 i] w fun e w' => e = .returned (.tuple #[.int .u32 (keyAt bs key i), .bool true]) ∧ ∃ d, w' = w.drewN d := by
  have HR := Lib.hid ((hr.drop (k := i) hcap).take key)
  have hs := fun w => slice_mid A bs.length cap i key hi hcap w
  generalize (if cap = i then A else A.map (·.add i)) = Ar at *
  have c0 : w.cell? ⟨bc, 0, none⟩ = some (.slice A bs.length cap) := by rw [hc.cell]; rfl
  have c1 : w.cell? ⟨bc, 1, none⟩ = some (.int .i64 key) := by rw [hc.cell]; rfl
  have hlen : ((bs.drop i).take key).length = key := by rw [List.length_take, List.length_drop]; omega
  have HLEN := Lib.hid hlen
  have hkd : keyAt bs key i = keyFold ((bs.drop i).take key) := rfl
  generalize (bs.drop i).take key = l at *
  generalize keyAt bs key i = kk at *
  have HK := Lib.hid hkd
  unfold maxLen at hcm
  clear hr hc hlen hkd
  go_enter Try.func32, Try.ntmps32
  go_wp2
  go_quiet (fail)
  go_wp2
  go_quiet (fail)
  go_wp2
  clear hs
  go_loopw [4, 33] (fun kv iv wr => ∃ (t : Nat), t ≤ key ∧ iv = .int .i64 t ∧ kv = .int .u32 (keyFold (l.take t)) ∧ ∃ d, wr = w.drewN d) (fun _ iv _ => key - (intOf iv).toNat)
  case atStart => exact ⟨0, by omega, rfl, rfl, _, World.drewN_drewN _ _ _⟩
  case round =>
    obtain ⟨t, ht, rfl, rfl, dd, rfl⟩ := hrel
    by_cases htk : t < key
    · obtain ⟨b, off, rfl, hb1, hcc⟩ := HR.out (by rw [HLEN.out]; omega)
      have hc1 := hcc t (by rw [HLEN.out]; omega)
      have hcw : (w.drewN dd).cell? ⟨b, off + t, none⟩ = _ := hc1
      have HF := Lib.hid (keyFold_take (l := l) (t := t) (by rw [HLEN.out]; omega))
      clear hc1 hcc
      unfold byteV at hcw
      generalize l.getD t 0 = x at *
      generalize keyFold (l.take t) = y at *
      have HC := Lib.hid (keyStep_cast y x)
      go_wp2
      exact ⟨⟨t + 1, by omega, by go_num, by rw [HF.out, ← HC.out], _, rfl⟩, by simp [intOf]; omega⟩
    · obtain rfl : t = key := by omega
      have hF : kk = keyFold (l.take t) := by rw [HK.out, List.take_of_length_le (by rw [HLEN.out]; exact Nat.le_refl _)]
      have HF := Lib.hid hF
      clear hF
      generalize keyFold (l.take t) = y at *
      go_wp2
      go_ret2
      exact ⟨by rw [HF.out]; rfl, _, rfl⟩

theorem wf_u32 {a : Int} (h0 : 0 ≤ a) (h : a < 4294967296) : (Lit.int .u32 a).wf = true := by
  simp [Lit.wf, IntKind.min, IntKind.max, IntKind.signed, IntKind.bits]; omega
theorem wf_i64 {a : Int} (h0 : -9223372036854775808 ≤ a) (h : a ≤ 9223372036854775807) : (Lit.int .i64 a).wf = true := by
  simp [Lit.wf, IntKind.min, IntKind.max, IntKind.signed, IntKind.bits]; omega
theorem Try.law_u32 : Go.Maps.Keyed Try.prog 46 := Go.Maps.int_keyed Try.underlying46
theorem Try.zero_int (w : World) : (zeroValue 3).run Try.prog w = .ok (.int .i64 0) w := by kernel_rfl
def prevCells (prev : List Int) : Array Value := (prev.map (Value.int .i64)).toArray
theorem prevCells_set (prev : List Int) (i : Nat) (x : Int) : (prevCells prev).setIfInBounds i (.int .i64 x) = prevCells (prev.set i x) := by
  unfold prevCells
  apply Array.toList_inj.1
  simp [List.map_set]
theorem prevCells_get (prev : List Int) (i : Nat) (h : i < prev.length) : (prevCells prev)[i]? = some (.int .i64 (prev.getD i 0)) := by
  unfold prevCells
  simp [List.getD, h]

/-- The chains in memory. -/
structure ChainAt (w : World) (B bc bp bm : Nat) (A : Option Addr) (cap : Nat) (bs : List UInt8) (key cnt : Nat) (f : Int → Option Int) (prev : List Int) : Prop where
  c : Pts w bc #[.slice A bs.length cap, .int .i64 key, .map (some bm), .slice (some ⟨bp, 0, none⟩) bs.length bs.length] 75
  p : Pts w bp (prevCells prev) 3
  n : prev.length = bs.length
  m : ∃ D, w.ownsMap Try.prog 46 (plainElem Try.prog 3) bm cnt D ∧ MapIs D f
  row : BRow w B A bs
  hc : B ≤ bc
  hp : B ≤ bp
  hm : B ≤ bm
section
variable {w w' : World} {B bc bp bm : Nat} {A : Option Addr} {cap : Nat} {bs : List UInt8} {key cnt : Nat} {f : Int → Option Int} {prev : List Int}
theorem ChainAt.ne (h : ChainAt w B bc bp bm A cap bs key cnt f prev) : bc ≠ bp ∧ bc ≠ bm ∧ bp ≠ bm := by
  obtain ⟨D, hD, _⟩ := h.m
  obtain ⟨es, cl, hb, _⟩ := hD
  refine ⟨?_, ?_, ?_⟩
  · rintro rfl
    have e := h.c.symm.trans h.p
    simp at e
  · rintro rfl
    have e := h.c.symm.trans hb
    cases e
  · rintro rfl
    have e := h.p.symm.trans hb
    cases e
theorem ChainAt.lt (h : ChainAt w B bc bp bm A cap bs key cnt f prev) : bc < w.heap.size ∧ bp < w.heap.size ∧ bm < w.heap.size := by
  obtain ⟨D, hD, _⟩ := h.m
  exact ⟨h.c.lt, h.p.lt, World.ownsMap.lt hD⟩
theorem ChainAt.frm {S : Nat → Prop} (h : ChainAt w B bc bp bm A cap bs key cnt f prev) (hf : Frm S w w') (h1 : ¬ S bc) (h2 : ¬ S bp) (h3 : ¬ S bm) (h4 : ∀ k, S k → B ≤ k) : ChainAt w' B bc bp bm A cap bs key cnt f prev := by
  obtain ⟨D, hD, hM⟩ := h.m
  exact ⟨h.c.frm hf h1, h.p.frm hf h2, h.n, ⟨D, World.ownsMap.frm hD hf h3, hM⟩, h.row.below (hf.below (Nat.le_trans h.hc (Nat.le_of_lt h.c.lt)) h4), h.hc, h.hp, h.hm⟩
theorem ChainAt.mono (h : ChainAt w B bc bp bm A cap bs key cnt f prev) {cnt' : Nat} (hn : cnt ≤ cnt') : ChainAt w B bc bp bm A cap bs key cnt' f prev := by
  obtain ⟨D, hD, hM⟩ := h.m
  exact ⟨h.c, h.p, h.n, ⟨D, World.ownsMap.mono hD hn, hM⟩, h.row, h.hc, h.hp, h.hm⟩
end

def addF (bs : List UInt8) (key i : Nat) (f : Int → Option Int) : Int → Option Int :=
  if i + key ≤ bs.length then (fun x => if x = (keyAt bs key i : Int) then some (i : Int) else f x) else f
def addP (bs : List UInt8) (key i : Nat) (f : Int → Option Int) : Int :=
  if i + key ≤ bs.length then (f (keyAt bs key i)).getD (-1) else -1

set_option maxRecDepth 100000 in
theorem add_any (B bc bp bm : Nat) (A : Option Addr) (cap : Nat) (bs : List UInt8) (key cnt i : Nat) (f : Int → Option Int) (prev : List Int) (w : World) (hC : ChainAt w B bc bp bm A cap bs key cnt f prev)
    (hcap : bs.length ≤ cap) (hcm : cap ≤ maxLen) (hb : bs.length ≤ 1048576) (hk : key ≤ 4) (hi : i < bs.length) (hcnt : cnt ≤ 10000000) (hf : ∀ k p, f k = some p → (Lit.int .i64 p).wf = true) :
    Calls Try.prog 19 #[.pointer (some ⟨bc, 0, none⟩), .int .i64 i] w fun e w' => e = .returned (.tuple #[]) ∧
      ChainAt w' B bc bp bm A cap bs key (cnt + 1) (addF bs key i f) (prev.set i (addP bs key i f)) ∧ Frm (fun k => k = bp ∨ k = bm) w w' := by
  obtain ⟨n1, n2, n3⟩ := hC.ne
  obtain ⟨l1, l2, l3⟩ := hC.lt
  have c0 : w.cell? ⟨bc, 0, none⟩ = some (.slice A bs.length cap) := by rw [hC.c.cell]; rfl
  have c1 : w.cell? ⟨bc, 1, none⟩ = some (.int .i64 key) := by rw [hC.c.cell]; rfl
  have c2 : w.cell? ⟨bc, 2, none⟩ = some (.map (some bm)) := by rw [hC.c.cell]; rfl
  have c3 : w.cell? ⟨bc, 3, none⟩ = some (.slice (some ⟨bp, 0, none⟩) bs.length bs.length) := by rw [hC.c.cell]; rfl
  have p0 : w.cell? ⟨bp, i, none⟩ = some (.int .i64 (prev.getD i 0)) := by rw [hC.p.cell, prevCells_get _ _ (by rw [hC.n]; exact hi)]
  have p1 : w.frozen? ⟨bp, i, none⟩ = false := hC.p.frozen _
  have hw1 : Frm (fun k => k = bp) w (w.setCell ⟨bp, i, none⟩ (.int .i64 (-1))) := (Frm.refl _ _).setCell (by rfl) _
  have hpts : Pts (w.setCell ⟨bp, i, none⟩ (.int .i64 (-1))) bc _ _ := hC.c.other (by exact n1) _
  have hset : Pts (w.setCell ⟨bp, i, none⟩ (.int .i64 (-1))) bp (prevCells (prev.set i (-1))) 3 := by rw [← prevCells_set]; exact hC.p.set _ _
  by_cases hik : i + key ≤ bs.length
  · obtain ⟨D, hD, hM⟩ := hC.m
    have hrow1 := (hC.row.below (hw1.below (Nat.le_trans hC.hc (Nat.le_of_lt l1)) (fun k hk => by subst hk; exact hC.hp))).more (B' := (w.setCell ⟨bp, i, none⟩ (.int .i64 (-1))).heap.size) (by have := hw1.size; exact Nat.le_trans (Nat.le_trans hC.hc (Nat.le_of_lt l1)) this)
    have hmap1 := World.ownsMap.frm hD hw1 (fun e => n3 e.symm)
    have HROW := Lib.hid hrow1
    have HMAP := Lib.hid hmap1
    have hCC := Lib.hid hC
    have hPP := Lib.hid hpts
    have hSS := Lib.hid hset
    have HM := Lib.hid hM
    have hW := Lib.hid hw1
    have hF : addF bs key i f = (fun x => if x = (keyAt bs key i : Int) then some (i : Int) else f x) := if_pos hik
    have hP : addP bs key i f = (f (keyAt bs key i)).getD (-1) := if_pos hik
    have hkl : keyAt bs key i < 4294967296 := keyFold_lt _
    have hkey : keyOf Try.prog 46 (.int .u32 (keyAt bs key i)) = some (.int .u32 (keyAt bs key i)) := Go.Maps.keyOf_int_mk Try.underlying46 (wf_u32 (by omega) (by omega))
    have HAT := Lib.hid (fun (w : World) hc hr => at_any bc A bs cap key i (.map (some bm)) (.slice (some ⟨bp, 0, none⟩) bs.length bs.length) w hc hr hcap hcm hik hb)
    rw [hF, hP]
    obtain ⟨hh, hv⟩ := hM.2 (keyAt bs key i)
    clear hrow1 hmap1 hC hpts hset hM hw1 hF hP
    generalize keyAt bs key i = kk at *
    have hwfi : (Lit.int .i64 (i : Int)).wf = true := wf_i64 (by omega) (by omega)
    have x3 : (w.setCell ⟨bp, i, none⟩ (.int .i64 (-1))).cell? ⟨bc, 3, none⟩ = some (.slice (some ⟨bp, 0, none⟩) bs.length bs.length) := by rw [hPP.out.cell]; rfl
    have x2 : (w.setCell ⟨bp, i, none⟩ (.int .i64 (-1))).cell? ⟨bc, 2, none⟩ = some (.map (some bm)) := by rw [hPP.out.cell]; rfl
    have x4 : (w.setCell ⟨bp, i, none⟩ (.int .i64 (-1))).cell? ⟨bp, i, none⟩ = some (.int .i64 (-1)) := by rw [hSS.out.cell, prevCells_get _ _ (by simp [hCC.out.n]; exact hi)]; simp [List.getD, hCC.out.n, hi]
    cases hfk : f kk with
    | none =>
      rw [hfk] at hh
      simp only [Option.isSome_none] at hh
      have HV := Lib.hid hv
      have HFK := Lib.hid hfk
      clear hv hfk hf
      go_enter Try.func19, Try.ntmps19
      go_wp2_with (first
        | (go_at_call 32; refine (HAT.out _ hPP.out HROW.out).mono ?_; rintro e w1 ⟨rfl, d, rfl⟩)
        | (at_lookup; refine Go.wpList_lookup_own_ok_int _ rfl (.tmp 25) (.tmp 26) 73 rfl 46 3 .i64 Try.law_u32 Try.underlying73 Try.underlying3 (Try.zero_int _) bm cnt D rfl HMAP.out _ _ rfl hkey ?_; intro c hat hwc)
        | (at_mapUpdate; refine Go.wpList_mapUpdate_own _ rfl (.tmp 41) (.tmp 42) (.tmp 43) 73 rfl 46 3 Try.law_u32 Try.underlying73 (plainElem Try.prog 3) bm cnt D rfl HMAP.out (by unfold maxLen; omega) _ _ _ rfl rfl hkey _ [] (plainElem_int Try.underlying3 hwfi) ?_; intro w2 hown2 hgr2)
        | go_in)
      go_end0
      have hF2 : Frm (fun k => k = bm) ((w.setCell ⟨bp, i, none⟩ (.int .i64 (-1))).drewN d) w2 := ⟨hgr2.os, hgr2.tape, hgr2.output, hgr2.size, fun k hk hn => hgr2.block k hk (fun e => hn (by injection e))⟩
      have hF3 : Frm (fun k => k = bp ∨ k = bm) w w2 := ((hW.out.drewN d).mono (fun k _ hk => .inl hk)).trans (hF2.mono (fun k _ hk => .inr hk))
      exact ⟨rfl, ⟨(hPP.out.drewN d).frm hF2 n2, (hSS.out.drewN d).frm hF2 n3, by simp [hCC.out.n], ⟨_, hown2, HM.out.put _ _⟩,
        hCC.out.row.below (hF3.below (Nat.le_trans hCC.out.hc (Nat.le_of_lt l1)) (fun k hk => by rcases hk with rfl | rfl; exact hCC.out.hp; exact hCC.out.hm)), hCC.out.hc, hCC.out.hp, hCC.out.hm⟩, hF3⟩
    | some p =>
      rw [hfk] at hh
      simp only [Option.isSome_some] at hh
      have HV := Lib.hid (hv p hfk)
      have HFK := Lib.hid hfk
      clear hv hfk hf
      go_enter Try.func19, Try.ntmps19
      go_wp2_with (first
        | (go_at_call 32; refine (HAT.out _ hPP.out HROW.out).mono ?_; rintro e w1 ⟨rfl, d, rfl⟩)
        | (at_lookup; refine Go.wpList_lookup_own_ok_int _ rfl (.tmp 25) (.tmp 26) 73 rfl 46 3 .i64 Try.law_u32 Try.underlying73 Try.underlying3 (Try.zero_int _) bm cnt D rfl HMAP.out _ _ rfl hkey ?_; intro c hat hwc; obtain rfl : c = p := by { have e := hat.symm.trans HV.out; injection e with e; injection e }; clear hat)
        | (at_mapUpdate; refine Go.wpList_mapUpdate_own _ rfl (.tmp 41) (.tmp 42) (.tmp 43) 73 rfl 46 3 Try.law_u32 Try.underlying73 (plainElem Try.prog 3) bm cnt D rfl (World.ownsMap.frm (S := fun k => k = bp) HMAP.out (((Frm.refl _ _).drewN _).setCell (by rfl) _) (fun e => n3 e.symm)) (by unfold maxLen; omega) _ _ _ rfl rfl hkey _ [] (plainElem_int Try.underlying3 hwfi) ?_; intro w2 hown2 hgr2)
        | go_in)
      go_end0
      have hS2 : Pts (((w.setCell ⟨bp, i, none⟩ (.int .i64 (-1))).drewN d).setCell ⟨bp, i, none⟩ (.int .i64 c)) bp (prevCells (prev.set i c)) 3 := by have := (hSS.out.drewN d).set i (.int .i64 c); rw [prevCells_set, List.set_set] at this; exact this
      have hF2 : Frm (fun k => k = bm) (((w.setCell ⟨bp, i, none⟩ (.int .i64 (-1))).drewN d).setCell ⟨bp, i, none⟩ (.int .i64 c)) w2 := ⟨hgr2.os, hgr2.tape, hgr2.output, hgr2.size, fun k hk hn => hgr2.block k hk (fun e => hn (by injection e))⟩
      have hF3 : Frm (fun k => k = bp ∨ k = bm) w w2 := (((hW.out.drewN d).setCell (by rfl) _).mono (fun k _ hk => .inl hk)).trans (hF2.mono (fun k _ hk => .inr hk))
      exact ⟨rfl, ⟨((hPP.out.drewN d).other (by exact n1) _).frm hF2 n2, hS2.frm hF2 n3, by simp [hCC.out.n], ⟨_, hown2, HM.out.put _ _⟩,
        hCC.out.row.below (hF3.below (Nat.le_trans hCC.out.hc (Nat.le_of_lt l1)) (fun k hk => by rcases hk with rfl | rfl; exact hCC.out.hp; exact hCC.out.hm)), hCC.out.hc, hCC.out.hp, hCC.out.hm⟩, hF3⟩
  · have hCC := Lib.hid hC
    have hPP := Lib.hid hpts
    have hSS := Lib.hid hset
    have hF : addF bs key i f = f := if_neg hik
    have hP : addP bs key i f = -1 := if_neg hik
    have hW := Lib.hid hw1
    rw [hF, hP]
    clear hC hpts hset hw1 hF hP
    go_enter Try.func19, Try.ntmps19
    go_wp2_with (go_at_call 32; refine (at_no _ _ _ _ _ _ _ _ _ hPP.out (by omega) hcap hcm (by omega) hk hb).mono ?_; rintro e w1 ⟨rfl, d, rfl⟩)
    go_end0
    have hfr := hW.out.drewN d
    exact ⟨rfl, ⟨hPP.out.drewN d, hSS.out.drewN d, by simp [hCC.out.n], by obtain ⟨D, hD, hM⟩ := hCC.out.m; exact ⟨D, (World.ownsMap.frm hD hfr (fun e => n3 e.symm)).mono (by omega), hM⟩,
      hCC.out.row.below (hfr.below (Nat.le_trans hCC.out.hc (Nat.le_of_lt l1)) (fun k hk => by subst hk; exact hCC.out.hp)), hCC.out.hc, hCC.out.hp, hCC.out.hm⟩, hfr.mono fun k _ hk => .inl hk⟩
end Go.Proofs.Ytefbjamepbkklaa

/- The contract of the longest match. -/
namespace Go.Proofs.Ytefbjamepbkklaa
open Go.RowKit Fnd
set_option linter.unusedVariables false
set_option linter.unusedSimpArgs false

/-- A match of a place: none, or one that does stand there. -/
def MatchOk (bs : List UInt8) (win i size back : Nat) : Prop :=
  (size = 0 ∧ back = 0) ∨ (1 ≤ back ∧ back ≤ win ∧ back ≤ i ∧ ∀ k, k < size → bs.getD (i + k) 0 = bs.getD (i + k - back) 0)
/-- The last place of a like key has all that is asked for. -/
def Whole (bs : List UInt8) (key win lim i : Nat) (f : Int → Option Int) : Prop :=
  i + key ≤ bs.length ∧ ∃ p : Nat, f (keyAt bs key i) = some (p : Int) ∧ p < i ∧ i - p ≤ win ∧ ∀ j, j < lim → bs.getD (p + j) 0 = bs.getD (i + j) 0
structure Longest (bs : List UInt8) (key win least most i : Nat) (f : Int → Option Int) (size back : Nat) : Prop where
  ok : MatchOk bs win i size back
  lim : size ≤ min most (bs.length - i)
  lo : size = 0 ∨ least ≤ size
  whole : Whole bs key win (min most (bs.length - i)) i f → least ≤ min most (bs.length - i) → size = min most (bs.length - i)

theorem long_no {bs : List UInt8} {key win least most i lim : Nat} {f : Int → Option Int} (hl : min most (bs.length - i) = lim) {sz : Nat} (h : Whole bs key win lim i f → least ≤ lim → sz = lim) (hs : sz < least) : Longest bs key win least most i f 0 0 :=
  ⟨.inl ⟨rfl, rfl⟩, Nat.zero_le _, .inl rfl, fun h1 h2 => by rw [hl] at *; have := h h1 h2; omega⟩
theorem long_yes {bs : List UInt8} {key win least most i lim : Nat} {f : Int → Option Int} (hl : min most (bs.length - i) = lim) {sz bk : Nat} (h0 : MatchOk bs win i sz bk) (h1 : sz ≤ lim) (h : Whole bs key win lim i f → least ≤ lim → sz = lim) (hs : least ≤ sz) : Longest bs key win least most i f sz bk :=
  ⟨h0, by omega, .inr hs, fun h1 h2 => by rw [hl] at *; exact h h1 h2⟩
theorem match_new {bs : List UInt8} {win i q t : Nat} (hq : q < i) (hw : i - q ≤ win) (h : ∀ j, j < t → bs.getD (q + j) 0 = bs.getD (i + j) 0) : MatchOk bs win i t (i - q) :=
  .inr ⟨by omega, hw, by omega, fun k hk => by rw [show i + k - (i - q) = q + k by omega]; exact (h k hk).symm⟩

set_option maxRecDepth 100000 in
set_option maxHeartbeats 1000000 in
theorem longest_any (B bc bp bm : Nat) (A : Option Addr) (cap : Nat) (bs : List UInt8) (key cnt i win least most tries : Nat) (lazy : Bool) (f : Int → Option Int) (prev : List Int) (w : World) (hC : ChainAt w B bc bp bm A cap bs key cnt f prev)
    (hcap : bs.length ≤ cap) (hcm : cap ≤ maxLen) (hb : bs.length ≤ 1048576) (hk : key ≤ 4) (hi : i ≤ bs.length) (hf : ∀ k p, f k = some p → 0 ≤ p ∧ p < i)
    (hprev : ∀ j, j < bs.length → -1 ≤ prev.getD j 0 ∧ prev.getD j 0 ≤ j) (hw1 : 1 ≤ win) (hw2 : win ≤ 16777216) (hl2 : 2 ≤ least) (hlm : least ≤ most) (hm : most ≤ 65536) (ht : 1 ≤ tries) (ht2 : tries ≤ 1000) :
    Calls Try.prog 21 #[.pointer (some ⟨bc, 0, none⟩), .int .i64 i, .agg #[.int .i64 win, .int .i64 least, .int .i64 most, .int .i64 tries, .bool lazy]] w fun e w' =>
      ∃ size back : Nat, e = .returned (.tuple #[.int .i64 size, .int .i64 back]) ∧ Longest bs key win least most i f size back ∧ Below w.heap.size w w' := by
  obtain ⟨l1, l2, l3⟩ := hC.lt
  have hc1 : Pts (w.alloc (.cells #[.int .i64 win, .int .i64 least, .int .i64 most, .int .i64 tries, .bool lazy] 71)) bc _ _ := hC.c.alloc _
  have PC := Lib.hid hc1
  have hbel : Below w.heap.size w (w.alloc (.cells #[.int .i64 win, .int .i64 least, .int .i64 most, .int .i64 tries, .bool lazy] 71)) := (Below.refl _ _).alloc (Nat.le_refl _) _
  have BE := Lib.hid hbel
  clear hc1 hbel
  by_cases hik : i + key ≤ bs.length
  · obtain ⟨D, hD, hM⟩ := hC.m
    have hrow1 : BRow (w.alloc (.cells #[.int .i64 win, .int .i64 least, .int .i64 most, .int .i64 tries, .bool lazy] 71)) w.heap.size A bs := (hC.row.more (Nat.le_trans hC.hc (Nat.le_of_lt l1))).below BE.out
    have hmap1 := World.ownsMap.alloc hD (.cells #[.int .i64 win, .int .i64 least, .int .i64 most, .int .i64 tries, .bool lazy] 71)
    have ROW := Lib.hid hrow1
    have HMAP := Lib.hid hmap1
    have HF := Lib.hid hf
    have hPP := Lib.hid hC.p
    have HN := Lib.hid hC.n
    have HPREV := Lib.hid hprev
    have hkl : keyAt bs key i < 4294967296 := keyFold_lt _
    have hkey : keyOf Try.prog 46 (.int .u32 (keyAt bs key i)) = some (.int .u32 (keyAt bs key i)) := Go.Maps.keyOf_int_mk Try.underlying46 (wf_u32 (by omega) (by omega))
    have HAT := Lib.hid (fun (w : World) hc hr => at_any bc A bs cap key i (.map (some bm)) (.slice (some ⟨bp, 0, none⟩) bs.length bs.length) w hc hr hcap hcm hik hb)
    have hkk : ∃ kk, keyAt bs key i = kk := ⟨_, rfl⟩
    obtain ⟨kk, hkk⟩ := hkk
    have HKK := Lib.hid hkk
    rw [hkk] at hkl hkey
    have HAT2 : ∀ (w : World), Pts w bc #[.slice A bs.length cap, .int .i64 key, .map (some bm), .slice (some ⟨bp, 0, none⟩) bs.length bs.length] 75 → BRow w w.heap.size A bs → Calls Try.prog 32 #[.pointer (some ⟨bc, 0, none⟩), .int .i64 i] w fun e w' => e = .returned (.tuple #[.int .u32 kk, .bool true]) ∧ ∃ d, w' = w.drewN d := by rw [← hkk]; exact HAT.out
    have HAT3 := Lib.hid HAT2
    obtain ⟨hh, hv⟩ := hM.2 kk
    have x2 : (w.alloc (.cells #[.int .i64 win, .int .i64 least, .int .i64 most, .int .i64 tries, .bool lazy] 71)).cell? ⟨bc, 2, none⟩ = some (.map (some bm)) := by rw [PC.out.cell]; rfl
    have x0 : (w.alloc (.cells #[.int .i64 win, .int .i64 least, .int .i64 most, .int .i64 tries, .bool lazy] 71)).cell? ⟨bc, 0, none⟩ = some (.slice A bs.length cap) := by rw [PC.out.cell]; rfl
    have hlim : ∃ lim, min most (bs.length - i) = lim := ⟨_, rfl⟩
    obtain ⟨lim, hlim⟩ := hlim
    have hmin : min (most : Int) ((bs.length : Int) - i) = lim := by omega
    have HLIM := Lib.hid hlim
    have hlimle : i + lim ≤ bs.length := by omega
    have hlimm : lim ≤ most := by omega
    have hmin2 := fun w => min2_int (P := Try.prog) #[3, 3] 3 most ((bs.length : Int) - i) lim hmin w
    clear hlim hmin hkk HAT2 HAT hC hrow1 hmap1 hf hprev hM hD
    cases hfk : f kk with
    | none =>
      rw [hfk] at hh
      simp only [Option.isSome_none] at hh
      have HFK := Lib.hid hfk
      clear hv hfk
      go_enter Try.func21, Try.ntmps21
      go_wp2
      go_step3
      go_wp2_with (first
        | (go_at_call 32; refine (HAT3.out _ PC.out (ROW.out.more (by simp))).mono ?_; rintro e w1 ⟨rfl, d, rfl⟩)
        | (at_lookup; refine Go.wpList_lookup_own_ok_int _ rfl (.tmp 27) (.tmp 28) 73 rfl 46 3 .i64 Try.law_u32 Try.underlying73 Try.underlying3 (Try.zero_int _) bm cnt D rfl HMAP.out _ _ rfl hkey ?_; intro c hat hwc)
        | go_in)
      go_quiet (fail)
      go_wp2
      go_step3
      go_wp2
      refine wp_loop_once ?_
      go_wp2
      rw [Exit.noGoto_ret]
      go_ret2
      exact ⟨0, 0, rfl, ⟨.inl ⟨rfl, rfl⟩, Nat.zero_le _, .inl rfl, fun h => by obtain ⟨_, p, hp, _⟩ := h; rw [HKK.out, HFK.out] at hp; cases hp⟩, below_drewN BE.out _⟩
    | some p =>
      rw [hfk] at hh
      simp only [Option.isSome_some] at hh
      obtain ⟨hp0, hp1⟩ := HF.out _ _ hfk
      obtain ⟨p0, rfl⟩ : ∃ p0 : Nat, p = p0 := ⟨p.toNat, by omega⟩
      have HV := Lib.hid (hv p0 hfk)
      have hwh : ∀ q, f (keyAt bs key i) = some q → q = p0 := by intro q hq; rw [HKK.out, hfk] at hq; injection hq with hq; exact hq.symm
      have HWH := Lib.hid hwh
      have hpi : p0 < i := by omega
      have PP : Pts (w.alloc (.cells #[.int .i64 win, .int .i64 least, .int .i64 most, .int .i64 tries, .bool lazy] 71)) bp _ _ := hPP.out.alloc _
      have PPH := Lib.hid PP
      have x3 : (w.alloc (.cells #[.int .i64 win, .int .i64 least, .int .i64 most, .int .i64 tries, .bool lazy] 71)).cell? ⟨bc, 3, none⟩ = some (.slice (some ⟨bp, 0, none⟩) bs.length bs.length) := by rw [PC.out.cell]; rfl
      have y0 : (w.alloc (.cells #[.int .i64 win, .int .i64 least, .int .i64 most, .int .i64 tries, .bool lazy] 71)).cell? ⟨w.heap.size, 0, none⟩ = some (.int .i64 win) := by rw [(Pts.new w _ _).cell]; rfl
      have y1 : (w.alloc (.cells #[.int .i64 win, .int .i64 least, .int .i64 most, .int .i64 tries, .bool lazy] 71)).cell? ⟨w.heap.size, 1, none⟩ = some (.int .i64 least) := by rw [(Pts.new w _ _).cell]; rfl
      have y3 : (w.alloc (.cells #[.int .i64 win, .int .i64 least, .int .i64 most, .int .i64 tries, .bool lazy] 71)).cell? ⟨w.heap.size, 3, none⟩ = some (.int .i64 tries) := by rw [(Pts.new w _ _).cell]; rfl
      clear hv hfk hwh hp0 hp1 PP
      go_enter Try.func21, Try.ntmps21
      go_wp2
      go_step3
      go_wp2_with (first
        | (go_at_call 32; refine (HAT3.out _ PC.out (ROW.out.more (by simp))).mono ?_; rintro e w1 ⟨rfl, d, rfl⟩)
        | (at_lookup; refine Go.wpList_lookup_own_ok_int _ rfl (.tmp 27) (.tmp 28) 73 rfl 46 3 .i64 Try.law_u32 Try.underlying73 Try.underlying3 (Try.zero_int _) bm cnt D rfl HMAP.out _ _ rfl hkey ?_; intro c hat hwc; obtain rfl : c = p0 := by { have e := hat.symm.trans HV.out; injection e with e; injection e }; clear hat HV)
        | go_in)
      go_quiet (fail)
      go_wp2
      go_step3
      go_wp2
      generalize w.alloc (.cells #[.int .i64 win, .int .i64 least, .int .i64 most, .int .i64 tries, .bool lazy] 71) = w1 at *
      obtain ⟨b, off, rfl, hblt, hcells⟩ := ROW.out (by omega)
      have CELLS := Lib.hid hcells
      clear hcells hmin2 ROW HMAP HAT3
      go_loopw [6, 7, 10, 13] (fun sv kv pv nv wr => ∃ (sz bk nn : Nat) (q : Int), sv = .int .i64 sz ∧ kv = .int .i64 bk ∧ pv = .int .i64 q ∧ nv = .int .i64 nn ∧ nn ≤ tries ∧ -1 ≤ q ∧ q < i ∧ MatchOk bs win i sz bk ∧ sz ≤ lim ∧
          (nn = 0 → sz = 0 ∧ q = p0) ∧ (0 < nn → Whole bs key win lim i f → least ≤ lim → False) ∧ ∃ dd, wr = w1.drewN dd) (fun _ _ _ nv _ => tries - (intOf nv).toNat)
      case atStart => exact ⟨0, 0, 0, p0, rfl, rfl, rfl, rfl, by omega, by omega, by omega, .inl ⟨rfl, rfl⟩, by omega, fun _ => ⟨rfl, rfl⟩, fun h => absurd h (by omega), by first | exact ⟨_, rfl⟩ | exact ⟨_, World.drewN_drewN _ _ _⟩⟩
      case round =>
        obtain ⟨sz, bk, nn, q, rfl, rfl, rfl, rfl, hnn, hq1, hqi, hmo, hszl, hst, hnw, dd, rfl⟩ := hrel
        have MO := Lib.hid hmo
        have ST := Lib.hid hst
        have NW := Lib.hid hnw
        clear hmo hst hnw
        by_cases hend : q < 0 ∨ tries ≤ nn ∨ (win : Int) < i - q
        · have hfin : Whole bs key win lim i f → least ≤ lim → sz = lim := by
            intro h1 h2
            by_cases h0 : 0 < nn
            · exact (NW.out h0 h1 h2).elim
            · obtain ⟨_, rfl⟩ := ST.out (by omega)
              obtain ⟨_, p, hp, hp2, hp3, _⟩ := h1
              have := HWH.out _ hp
              omega
          have FIN := Lib.hid hfin
          clear hfin
          have h3 : q < 0 ∨ (0 ≤ q ∧ tries ≤ nn) ∨ (0 ≤ q ∧ nn < tries ∧ (win : Int) < i - q) := by omega
          clear hend
          by_cases hsl : sz < least
          · have LN := Lib.hid (long_no HLIM.out FIN.out hsl)
            rcases h3 with h | ⟨h, h2⟩ | ⟨h, h2, h4⟩
            all_goals
              go_wp2
              try rw [Exit.noGoto_ret]
              go_ret2
              exact ⟨0, 0, rfl, LN.out, below_drewN BE.out _⟩
          · have LY := Lib.hid (long_yes HLIM.out MO.out hszl FIN.out (by omega))
            rcases h3 with h | ⟨h, h2⟩ | ⟨h, h2, h4⟩
            all_goals
              go_wp2
              try rw [Exit.noGoto_ret]
              go_ret2
              exact ⟨sz, bk, rfl, LY.out, below_drewN BE.out _⟩
        · obtain ⟨Q, rfl⟩ : ∃ Q : Nat, q = Q := ⟨q.toNat, by omega⟩
          have hQi : Q < i := by omega
          have hQw : ((i : Int) - Q) ≤ win := by omega
          have hnt : nn < tries := by omega
          have hcast : ((i - Q : Nat) : Int) = i - Q := by omega
          have HCAST := Lib.hid hcast
          have hpv : w1.cell? ⟨bp, Q, none⟩ = some (.int .i64 (prev.getD Q 0)) := by rw [PPH.out.cell, prevCells_get _ _ (by rw [HN.out]; omega)]
          have PV := Lib.hid (HPREV.out Q (by omega))
          clear hcast
          clear hend
          go_wp2
          go_loopw [14] (fun mv wr => ∃ t : Nat, t ≤ lim ∧ mv = .int .i64 t ∧ (∀ j, j < t → bs.getD (Q + j) 0 = bs.getD (i + j) 0) ∧ ∃ dd, wr = w1.drewN dd) (fun mv _ => lim - (intOf mv).toNat)
          case atStart => exact ⟨0, by omega, rfl, fun j h => absurd h (by omega), _, rfl⟩
          case round =>
            obtain ⟨t, htl, rfl, hall, d2, rfl⟩ := hrel
            have ALL := Lib.hid hall
            clear hall
            by_cases htlt : t < lim
            · have e1 := CELLS.out (Q + t) (by omega)
              have e2 := CELLS.out (i + t) (by omega)
              unfold byteV at e1 e2
              by_cases hbb : bs.getD (Q + t) 0 = bs.getD (i + t) 0
              · have HBB := Lib.hid hbb
                rw [hbb] at e1
                clear hbb
                generalize bs.getD (i + t) 0 = x at e1 e2
                go_wp2
                go_quiet (fail)
                go_wp2
                exact ⟨⟨t + 1, by omega, by go_num, fun j hj => by
                  rcases Nat.lt_or_ge j t with h | h
                  · exact ALL.out j h
                  · obtain rfl : j = t := by omega
                    exact HBB.out, by first | exact ⟨_, rfl⟩ | exact ⟨_, World.drewN_drewN _ _ _⟩⟩, by simp [intOf]; omega⟩
              · have hEX : t = lim ∨ bs.getD (Q + t) 0 ≠ bs.getD (i + t) 0 := .inr hbb
                have EX := Lib.hid hEX
                clear hEX
                generalize bs.getD (Q + t) 0 = x at e1 hbb
                generalize bs.getD (i + t) 0 = y at e2 hbb
                have hne2 : ((x.toNat : Int) == (y.toNat : Int)) = false := beq_eq_false_iff_ne.2 (fun e => hbb (UInt8.toNat_inj.1 (by omega)))
                clear hbb
                by_cases hts : sz < t
                · have MO2 := Lib.hid (match_new (win := win) hQi (by omega) ALL.out)
                  by_cases htL : t = lim
                  · omega
                  · have hnL : decide ((t : Int) = lim) = false := decide_eq_false (by omega)
                    have hnL2 : ((t : Int) == (lim : Int)) = false := beq_eq_false_iff_ne.2 (by omega)
                    have NW2 := Lib.hid (fun (h1 : Whole bs key win lim i f) (h2 : least ≤ lim) => show False from by
                      by_cases h0 : 0 < nn
                      · exact NW.out h0 h1 h2
                      · obtain ⟨h3, h4⟩ := ST.out (by omega)
                        obtain ⟨_, p, hp, hp2, hp3, hp4⟩ := h1
                        have h5 := HWH.out _ hp
                        obtain rfl : p = Q := by omega
                        rcases EX.out with h6 | h6
                        · exact htL h6
                        · exact h6 (hp4 t (by omega)))
                    go_wp2
                    go_quiet (fail)
                    go_wp2
                    go_quiet (fail)
                    go_wp2
                    exact ⟨⟨t, i - Q, nn + 1, prev.getD Q 0, rfl, by rw [HCAST.out], rfl, by go_num, by omega, PV.out.1, by have := PV.out.2; omega, MO2.out, by omega, fun h => absurd h (by omega), fun _ => NW2.out, by first | exact ⟨_, rfl⟩ | exact ⟨_, World.drewN_drewN _ _ _⟩⟩, by simp [intOf]; omega⟩
                · by_cases htL : sz = lim
                  · have hd : decide ((sz : Int) = lim) = true := decide_eq_true (by omega)
                    have hd2 : ((sz : Int) == (lim : Int)) = true := beq_iff_eq.2 (by omega)
                    by_cases hsl : sz < least
                    · have LN := Lib.hid (long_no HLIM.out (f := f) (key := key) (win := win) (least := least) (fun _ _ => htL) hsl)
                      go_wp2
                      go_quiet (fail)
                      go_wp2
                      try rw [Exit.noGoto_ret]
                      go_ret2
                      exact ⟨0, 0, rfl, LN.out, below_drewN BE.out _⟩
                    · have LY := Lib.hid (long_yes HLIM.out (f := f) (key := key) (win := win) (least := least) (sz := sz) MO.out (by omega) (fun _ _ => htL) (by omega))
                      go_wp2
                      go_quiet (fail)
                      go_wp2
                      try rw [Exit.noGoto_ret]
                      go_ret2
                      exact ⟨sz, bk, rfl, LY.out, below_drewN BE.out _⟩
                  · have hnL : decide ((sz : Int) = lim) = false := decide_eq_false (by omega)
                    have hnL2 : ((sz : Int) == (lim : Int)) = false := beq_eq_false_iff_ne.2 (by omega)
                    have NW2 := Lib.hid (fun (h1 : Whole bs key win lim i f) (h2 : least ≤ lim) => show False from by
                      by_cases h0 : 0 < nn
                      · exact NW.out h0 h1 h2
                      · obtain ⟨h3, h4⟩ := ST.out (by omega)
                        obtain ⟨_, p, hp, hp2, hp3, hp4⟩ := h1
                        have h5 := HWH.out _ hp
                        obtain rfl : p = Q := by omega
                        rcases EX.out with h6 | h6
                        · omega
                        · exact h6 (hp4 t (by omega)))
                    go_wp2
                    go_quiet (fail)
                    go_wp2
                    go_quiet (fail)
                    go_wp2
                    exact ⟨⟨sz, bk, nn + 1, prev.getD Q 0, rfl, rfl, rfl, by go_num, by omega, PV.out.1, by have := PV.out.2; omega, MO.out, by omega, fun h => absurd h (by omega), fun _ => NW2.out, by first | exact ⟨_, rfl⟩ | exact ⟨_, World.drewN_drewN _ _ _⟩⟩, by simp [intOf]; omega⟩
            · have hEX : t = lim ∨ bs.getD (Q + t) 0 ≠ bs.getD (i + t) 0 := .inl (by omega)
              have EX := Lib.hid hEX
              clear hEX
              by_cases hts : sz < t
              · have MO2 := Lib.hid (match_new (win := win) hQi (by omega) ALL.out)
                by_cases htL : t = lim
                · have hd : decide ((t : Int) = lim) = true := decide_eq_true (by omega)
                  have hd2 : ((t : Int) == (lim : Int)) = true := beq_iff_eq.2 (by omega)
                  by_cases hsl : t < least
                  · have LN := Lib.hid (long_no HLIM.out (f := f) (key := key) (win := win) (least := least) (fun _ _ => htL) hsl)
                    go_wp2
                    go_quiet (fail)
                    go_wp2
                    try rw [Exit.noGoto_ret]
                    go_ret2
                    exact ⟨0, 0, rfl, LN.out, below_drewN BE.out _⟩
                  · have LY := Lib.hid (long_yes HLIM.out (f := f) (key := key) (win := win) (least := least) (sz := t) MO2.out (by omega) (fun _ _ => htL) (by omega))
                    go_wp2
                    go_quiet (fail)
                    go_wp2
                    try rw [Exit.noGoto_ret]
                    go_ret2
                    exact ⟨t, i - Q, by rw [HCAST.out]; rfl, LY.out, below_drewN BE.out _⟩
                · omega
              · by_cases htL : sz = lim
                · have hd : decide ((sz : Int) = lim) = true := decide_eq_true (by omega)
                  have hd2 : ((sz : Int) == (lim : Int)) = true := beq_iff_eq.2 (by omega)
                  by_cases hsl : sz < least
                  · have LN := Lib.hid (long_no HLIM.out (f := f) (key := key) (win := win) (least := least) (fun _ _ => htL) hsl)
                    go_wp2
                    go_quiet (fail)
                    go_wp2
                    try rw [Exit.noGoto_ret]
                    go_ret2
                    exact ⟨0, 0, rfl, LN.out, below_drewN BE.out _⟩
                  · have LY := Lib.hid (long_yes HLIM.out (f := f) (key := key) (win := win) (least := least) (sz := sz) MO.out (by omega) (fun _ _ => htL) (by omega))
                    go_wp2
                    go_quiet (fail)
                    go_wp2
                    try rw [Exit.noGoto_ret]
                    go_ret2
                    exact ⟨sz, bk, rfl, LY.out, below_drewN BE.out _⟩
                · omega
  · clear hf hprev hC
    go_enter Try.func21, Try.ntmps21
    go_wp2
    go_step3
    go_wp2_with (go_at_call 32; refine (at_no _ _ _ _ _ _ _ _ _ PC.out (by omega) hcap hcm (by omega) hk hb).mono ?_; rintro e w1 ⟨rfl, d, rfl⟩)
    try rw [Exit.noGoto_ret]
    go_ret2
    exact ⟨0, 0, rfl, ⟨.inl ⟨rfl, rfl⟩, Nat.zero_le _, .inl rfl, fun h => absurd h.1 hik⟩, below_drewN BE.out d⟩
end Go.Proofs.Ytefbjamepbkklaa
