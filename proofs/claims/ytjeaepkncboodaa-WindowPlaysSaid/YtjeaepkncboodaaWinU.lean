/- Both windows side by side: one state, and each call's contract over it. -/
import Derived.Test.YtjeaepkncboodaaWinT
namespace Go.Proofs.Ytjeaepkncboodaa
open Go.RowKit Win
set_option linter.unusedVariables false
set_option linter.unusedSimpArgs false
theorem Pts.ne_of {w : World} {b b' : Nat} {c c' : Array Value} {T T' : TypeId} (h : Pts w b c T) (h' : Pts w b' c' T') (hT : T ≠ T') : b ≠ b' := by
  rintro rfl
  have e := h.symm.trans h'
  injection e with e
  injection e with e1 e2
  exact hT e2
def Mv (w : World) (v v' : Value) : Prop := ∀ q, v'.ownBlock = some q → v.ownBlock = some q ∨ w.heap.size ≤ q
theorem Mv.of {w : World} {v v' : Value} (h : Mvd w v v') : Mv w v v' := by
  intro q hq
  rcases h with h | ⟨g, h, hg⟩
  · exact .inl (h ▸ hq)
  · rw [h] at hq; injection hq with hq; exact .inr (by omega)
theorem Mv.nil (w : World) (v : Value) : Mv w v (.slice none 0 0) := fun q hq => by cases hq
theorem Mv.same (w : World) (v : Value) : Mv w v v := fun q hq => .inl hq
/-- The program's window, held or dropped. -/
def PW (w : World) (base b k S : Nat) (B : Int) (on : Bool) (all : List UInt8) (v : Value) : Prop :=
  (on = true → ∃ R a, WinAt w base b k S v R a ∧ content R a = lastN S all ∧ Led w k B S S) ∧
  (on = false → ∃ a : Nat, Pts w b #[.slice none 0 0, .int .i64 a, .int .i64 S, .pointer none] 57 ∧ v = .slice none 0 0 ∧ all = [] ∧ Led w k B 0 S)
theorem PW.pts {w : World} {base b k S : Nat} {B : Int} {on : Bool} {all : List UInt8} {v : Value} (h : PW w base b k S B on all v) : ∃ c, Pts w b c 57 := by
  cases on
  · obtain ⟨a, hp, _⟩ := h.2 rfl; exact ⟨_, hp⟩
  · obtain ⟨R, a, hw, _⟩ := h.1 rfl; exact ⟨_, hw.p⟩
theorem PW.led {w : World} {base b k S : Nat} {B : Int} {on : Bool} {all : List UInt8} {v : Value} (h : PW w base b k S B on all v) : Led w k B ((if on then S else 0 : Nat) : Int) S := by
  cases on
  · obtain ⟨a, _, _, _, hl⟩ := h.2 rfl; exact hl
  · obtain ⟨R, a, _, _, hl⟩ := h.1 rfl; exact hl
theorem PW.own {w : World} {base b k S : Nat} {B : Int} {on : Bool} {all : List UInt8} {v : Value} (h : PW w base b k S B on all v) : ∃ l, OwnB w 5 base v l := by
  cases on
  · obtain ⟨a, _, rfl, _⟩ := h.2 rfl; exact ⟨[], OwnB.nil _ _ _⟩
  · obtain ⟨R, a, hw, _⟩ := h.1 rfl; exact ⟨R, hw.o⟩
theorem PW.frm {N : Nat → Prop} {w w' : World} {base b k S : Nat} {B : Int} {on : Bool} {all : List UInt8} {v : Value} (h : PW w base b k S B on all v) (hf : Frm N w w') (hb : ¬ N b) (hk : ¬ N k) (hv : ∀ q, v.ownBlock = some q → ¬ N q) : PW w' base b k S B on all v := by
  constructor
  · intro ho
    obtain ⟨R, a, hw, hc, hl⟩ := h.1 ho
    exact ⟨R, a, hw.frm hf hb hv, hc, Pts.frm hl hf hk⟩
  · intro ho
    obtain ⟨a, hp, hv0, ha, hl⟩ := h.2 ho
    exact ⟨a, hp.frm hf hb, hv0, ha, Pts.frm hl hf hk⟩
/-- Both windows and both ledgers: the program's window has been put a1, the document's a2. -/
structure Duo (w0 w : World) (b k rb rk S : Nat) (B : Int) (o1 : Bool) (a1 : List UInt8) (o2 : Bool) (a2 : List UInt8) (v rv : Value) : Prop where
  pw : PW w w0.heap.size b k S B o1 a1 v
  rw' : RWin w w0.heap.size rb rk S o2 rv a2
  rl : RLed w rk B ((if o2 then S else 0 : Nat) : Int) S
  ne : ∀ q, v.ownBlock = some q → rv.ownBlock ≠ some q
  lo : w0.heap.size ≤ b ∧ w0.heap.size ≤ k ∧ w0.heap.size ≤ rb ∧ w0.heap.size ≤ rk
  be : Below w0.heap.size w0 w
  nm : 1 ≤ S ∧ S ≤ 16777216 ∧ (S : Int) ≤ B ∧ B ≤ 16777216
section
variable {w0 w w' : World} {b k rb rk S : Nat} {B : Int} {o1 o2 : Bool} {a1 a2 : List UInt8} {v rv : Value}
theorem Duo.frm {N : Nat → Prop} (h : Duo w0 w b k rb rk S B o1 a1 o2 a2 v rv) (hf : Frm N w w') (hN : ¬ N b ∧ ¬ N k ∧ ¬ N rb ∧ ¬ N rk) (hv : ∀ q, v.ownBlock = some q → ¬ N q) (hr : ∀ q, rv.ownBlock = some q → ¬ N q) (hlo : ∀ q, N q → w0.heap.size ≤ q) : Duo w0 w' b k rb rk S B o1 a1 o2 a2 v rv :=
  ⟨h.pw.frm hf hN.1 hN.2.1 hv, ⟨h.rw'.p.frm hf hN.2.2.1, h.rw'.o.frm hf hr⟩, Pts.frm h.rl hf hN.2.2.2, h.ne, h.lo, h.be.trans (hf.below h.be.size hlo), h.nm⟩
theorem Duo.later (h : Duo w0 w b k rb rk S B o1 a1 o2 a2 v rv) (hb : Below w.heap.size w w') : Duo w0 w' b k rb rk S B o1 a1 o2 a2 v rv :=
  h.frm (Frm.of_below (S := fun _ => False) hb) ⟨id, id, id, id⟩ (fun _ _ => id) (fun _ _ => id) (fun _ h => h.elim)
theorem Duo.lts (h : Duo w0 w b k rb rk S B o1 a1 o2 a2 v rv) : b < w.heap.size ∧ k < w.heap.size ∧ rb < w.heap.size ∧ rk < w.heap.size ∧ (∀ q, v.ownBlock = some q → w0.heap.size ≤ q ∧ q < w.heap.size) ∧ (∀ q, rv.ownBlock = some q → w0.heap.size ≤ q ∧ q < w.heap.size) := by
  obtain ⟨c, hp⟩ := h.pw.pts
  obtain ⟨l, ho⟩ := h.pw.own
  exact ⟨hp.lt, Pts.lt h.pw.led, h.rw'.p.lt, Pts.lt h.rl, fun q hq => ho.lt hq, fun q hq => h.rw'.o.lt hq⟩
theorem Duo.stepP {o : Bool} {a : List UInt8} {v' : Value} (h : Duo w0 w b k rb rk S B o1 a1 o2 a2 v rv) (hf : Frm (fun x => x = b ∨ x = k ∨ v.ownBlock = some x) w w') (hp : PW w' w0.heap.size b k S B o a v') (hm : Mv w v v') : Duo w0 w' b k rb rk S B o a o2 a2 v' rv := by
  obtain ⟨c, hP⟩ := h.pw.pts
  obtain ⟨l, hO⟩ := h.pw.own
  have hL := h.pw.led
  have l6 := h.lts.2.2.2.2.2
  refine ⟨hp, ⟨h.rw'.p.frm hf ?_, h.rw'.o.frm hf ?_⟩, Pts.frm h.rl hf ?_, ?_, h.lo, h.be.trans (hf.below h.be.size ?_), h.nm⟩
  · rintro (e | e | e)
    · exact hP.ne_of h.rw'.p (by decide) e.symm
    · exact Pts.ne_of hL h.rw'.p (by decide) e.symm
    · exact own_ne hO h.rw'.p (by decide) e
  · intro q hq
    rintro (e | e | e)
    · subst e; exact own_ne h.rw'.o hP (by decide) hq
    · subst e; exact own_ne h.rw'.o hL (by decide) hq
    · exact h.ne q e hq
  · rintro (e | e | e)
    · exact hP.ne_of h.rl (by decide) e.symm
    · exact Pts.ne_of hL h.rl (by decide) e.symm
    · exact own_ne hO h.rl (by decide) e
  · intro q hq hr
    rcases hm q hq with e | e
    · exact h.ne q e hr
    · have := (l6 q hr).2; omega
  · rintro q (e | e | e)
    · subst e; exact h.lo.1
    · subst e; exact h.lo.2.1
    · exact (hO.lt e).1
theorem Duo.stepR {o : Bool} {a : List UInt8} {rv' : Value} (h : Duo w0 w b k rb rk S B o1 a1 o2 a2 v rv) (hf : Frm (fun x => x = rb ∨ x = rk ∨ rv.ownBlock = some x) w w') (hr : RWin w' w0.heap.size rb rk S o rv' a) (hl : RLed w' rk B ((if o then S else 0 : Nat) : Int) S) (hm : Mv w rv rv') : Duo w0 w' b k rb rk S B o1 a1 o a v rv' := by
  obtain ⟨c, hP⟩ := h.pw.pts
  obtain ⟨l, hO⟩ := h.pw.own
  have hL := h.pw.led
  have l5 := h.lts.2.2.2.2.1
  refine ⟨h.pw.frm hf ?_ ?_ ?_, hr, hl, ?_, h.lo, h.be.trans (hf.below h.be.size ?_), h.nm⟩
  · rintro (e | e | e)
    · exact hP.ne_of h.rw'.p (by decide) e
    · exact hP.ne_of h.rl (by decide) e
    · exact own_ne h.rw'.o hP (by decide) e
  · rintro (e | e | e)
    · exact Pts.ne_of hL h.rw'.p (by decide) e
    · exact Pts.ne_of hL h.rl (by decide) e
    · exact own_ne h.rw'.o hL (by decide) e
  · intro q hq
    rintro (e | e | e)
    · subst e; exact own_ne hO h.rw'.p (by decide) hq
    · subst e; exact own_ne hO h.rl (by decide) hq
    · exact h.ne q hq e
  · intro q hq hr
    rcases hm q hr with e | e
    · exact h.ne q hq e
    · have := (l5 q hq).2; omega
  · rintro q (e | e | e)
    · subst e; exact h.lo.2.2.1
    · subst e; exact h.lo.2.2.2
    · exact (h.rw'.o.lt e).1
end
/-- What a copy hands over, its error, and all that was put then. -/
def copyS (on : Bool) (S : Nat) (all : List UInt8) (back n : Int) : List UInt8 × Int × List UInt8 :=
  if on = false then ([], 5, all) else if n < 0 ∨ 16777216 < n then ([], 2, all) else if back < 1 ∨ (S : Int) < back ∨ (all.length : Int) < back then ([], 11, all)
  else (cyc all back.toNat n.toNat, 0, all ++ cyc all back.toNat n.toNat)
def atS (on : Bool) (S : Nat) (all : List UInt8) (back : Int) : UInt8 × Bool :=
  if on = false ∨ back < 1 ∨ (S : Int) < back ∨ (all.length : Int) < back then (0, false) else (all.getD (all.length - back.toNat) 0, true)
def putS (on : Bool) (all bs : List UInt8) : List UInt8 := if on = true then all ++ bs else all
theorem clear_gone (b : Nat) (a : Nat) (sv : Value) (w : World) (hp : Pts w b #[.slice none 0 0, .int .i64 a, sv, .pointer none] 57) :
    Calls Try.prog 22 #[.pointer (some ⟨b, 0, none⟩)] w fun e w' => e = .returned (.tuple #[]) ∧ Pts w' b #[.slice none 0 0, .int .i64 ((0 : Nat) : Int), sv, .pointer none] 57 ∧ Frm (fun x => x = b) w w' := by
  have c0 : w.cell? ⟨b, 0, none⟩ = some (.slice none 0 0) := by rw [hp.cell]; rfl
  have c1 : w.cell? ⟨b, 1, none⟩ = some (.int .i64 a) := by rw [hp.cell]; rfl
  have f0 := hp.frozen 0
  have f1 := hp.frozen 1
  have HP := Lib.hid hp
  clear hp
  go_enter Try.func22, Try.ntmps22
  go_wp2
  go_end0
  exact ⟨rfl, (HP.out.set 0 (.slice none 0 0)).set 1 (.int .i64 ((0 : Nat) : Int)), ((Frm.refl _ w).setCell (by rfl) _).setCell (by rfl) _⟩
section
variable {w0 : World} {b k rb rk S : Nat} {B : Int} {o1 o2 : Bool} {a1 a2 : List UInt8} {v rv : Value}
theorem put_duo (w : World) (h : Duo w0 w b k rb rk S B o1 a1 o2 a2 v rv) (A : Option Addr) (bs : List UInt8) (n c B' : Nat) (hn : n = bs.length) (hr : BRow w B' A bs) (hB : B' ≤ w.heap.size) (hoff : BOff (fun x => x = b ∨ v.ownBlock = some x) A bs) (hc : bs.length ≤ c) (hcm : c ≤ maxLen) (hlen : bs.length ≤ 16777216) :
    Calls Try.prog 11 #[.pointer (some ⟨b, 0, none⟩), .slice A n c] w fun e w' => e = .returned (.tuple #[]) ∧ ∃ v', Duo w0 w' b k rb rk S B o1 (putS o1 a1 bs) o2 a2 v' rv ∧ Frm (fun x => x = b ∨ x = k ∨ v.ownBlock = some x) w w' ∧ Mv w v v' := by
  cases o1
  · obtain ⟨a, hp, hv0, ha, hl⟩ := h.pw.2 rfl
    refine (put_gone b _ _ _ A n c w hp).mono ?_
    rintro e w' ⟨rfl, rfl⟩
    exact ⟨rfl, v, h, Frm.refl _ _, Mv.same _ _⟩
  · obtain ⟨R, a, hw, hcn, hl⟩ := h.pw.1 rfl
    refine (put_any w0.heap.size b k S a c B' n v R A bs w hw hn hr hoff hc hcm hlen h.be.size h.nm.2.1 hB).mono ?_
    rintro e w' ⟨v', R', a', rfl, hw', hc', hf, hm⟩
    have hf' : Frm (fun x => x = b ∨ x = k ∨ v.ownBlock = some x) w w' := hf.mono (fun q _ hq => by rcases hq with e | e; exact .inl e; exact .inr (.inr e))
    have hm' : Mv w v v' := by
      intro q hq
      rcases hm with e | e
      · exact .inl (e ▸ hq)
      · rw [e] at hq; injection hq with hq; exact .inr (by omega)
    have hkb : ¬ (k = b ∨ v.ownBlock = some k) := by
      rintro (e | e)
      · exact Pts.ne_of hl hw.p (by decide) e
      · exact own_ne hw.o hl (by decide) e
    refine ⟨rfl, v', h.stepP hf' ⟨fun _ => ⟨R', a', hw', ?_, Pts.frm hl hf hkb⟩, fun e => (by cases e)⟩ hm', hf', hm'⟩
    rw [hc', hcn, lastN_lastN]; rfl
theorem rput_duo (w : World) (h : Duo w0 w b k rb rk S B o1 a1 o2 a2 v rv) (A : Option Addr) (bs : List UInt8) (n c B' : Nat) (hn : n = bs.length) (hr : BRow w B' A bs) (hlen : a2.length + bs.length ≤ 140737488355328) :
    Calls Try.prog 18 #[.pointer (some ⟨rb, 0, none⟩), .slice A n c] w fun e w' => e = .returned (.tuple #[]) ∧ ∃ rv', Duo w0 w' b k rb rk S B o1 a1 o2 (putS o2 a2 bs) v rv' := by
  cases o2
  · refine (rput_off _ rb rk S c n rv a2 A w h.rw').mono ?_
    rintro e w' ⟨rfl, rfl⟩
    exact ⟨rfl, rv, h⟩
  · refine (rput_on w0.heap.size rb rk S c B' n rv a2 bs A w h.rw' hn hr hlen h.be.size).mono ?_
    rintro e w' ⟨v', rfl, hw', hf, hm⟩
    have hkb : ¬ (rk = rb ∨ rv.ownBlock = some rk) := by
      rintro (e | e)
      · exact Pts.ne_of h.rl h.rw'.p (by decide) e
      · exact own_ne h.rw'.o h.rl (by decide) e
    exact ⟨rfl, v', h.stepR (hf.mono (fun q _ hq => by rcases hq with e | e; exact .inl e; exact .inr (.inr e))) hw' (Pts.frm h.rl hf hkb) (Mv.of hm)⟩
theorem clear_duo (w : World) (h : Duo w0 w b k rb rk S B o1 a1 o2 a2 v rv) :
    Calls Try.prog 22 #[.pointer (some ⟨b, 0, none⟩)] w fun e w' => e = .returned (.tuple #[]) ∧ ∃ v', Duo w0 w' b k rb rk S B o1 [] o2 a2 v' rv := by
  have hm : ∀ {v' : Value} {w' : World}, v'.ownBlock = v.ownBlock → Mv w v v' := fun e q hq => .inl (e ▸ hq)
  cases o1
  · obtain ⟨a, hp, hv0, ha, hl⟩ := h.pw.2 rfl
    refine (clear_gone b a _ w hp).mono ?_
    rintro e w' ⟨rfl, hp', hf⟩
    exact ⟨rfl, v, h.stepP (hf.mono (fun q _ hq => .inl hq)) ⟨fun e => (by cases e), fun _ => ⟨0, hp', hv0, rfl, Pts.frm hl hf (Pts.ne_of hl hp (by decide))⟩⟩ (Mv.same _ _)⟩
  · obtain ⟨R, a, hw, hcn, hl⟩ := h.pw.1 rfl
    refine (clear_win w0.heap.size b k S a v R w hw).mono ?_
    rintro e w' ⟨v', rfl, hw', hf, hv⟩
    exact ⟨rfl, v', h.stepP (hf.mono (fun q _ hq => .inl hq)) ⟨fun _ => ⟨[], 0, hw', by simp [content, lastN], Pts.frm hl hf (Pts.ne_of hl hw.p (by decide))⟩, fun e => (by cases e)⟩ (fun q hq => .inl (hv ▸ hq))⟩
theorem rclear_duo (w : World) (h : Duo w0 w b k rb rk S B o1 a1 o2 a2 v rv) :
    Calls Try.prog 23 #[.pointer (some ⟨rb, 0, none⟩)] w fun e w' => e = .returned (.tuple #[]) ∧ ∃ rv', Duo w0 w' b k rb rk S B o1 a1 o2 [] v rv' := by
  refine (rclear_any _ rb rk S o2 rv a2 w h.rw').mono ?_
  rintro e w' ⟨rfl, hw', hf⟩
  exact ⟨rfl, _, h.stepR (hf.mono (fun q _ hq => .inl hq)) hw' (Pts.frm h.rl hf (Pts.ne_of h.rl h.rw'.p (by decide))) (Mv.nil _ _)⟩
theorem drop_duo (w : World) (h : Duo w0 w b k rb rk S B o1 a1 o2 a2 v rv) :
    Calls Try.prog 14 #[.pointer (some ⟨b, 0, none⟩)] w fun e w' => e = .returned (.tuple #[]) ∧ ∃ v', Duo w0 w' b k rb rk S B false [] o2 a2 v' rv := by
  cases o1
  · obtain ⟨a, hp, hv0, ha, hl⟩ := h.pw.2 rfl
    refine (drop_gone b _ _ _ w hp).mono ?_
    rintro e w' ⟨rfl, rfl⟩
    subst ha
    exact ⟨rfl, v, h⟩
  · obtain ⟨R, a, hw, hcn, hl⟩ := h.pw.1 rfl
    have hnm := h.nm
    refine (drop_win w0.heap.size b k S a v R B S S w hw hl (by omega) (by omega)).mono ?_
    rintro e w' ⟨rfl, hp', hl', hf⟩
    rw [show reN (S : Int) S = 0 by unfold reN; rw [if_neg (by omega), if_neg (by omega)]; omega] at hl'
    exact ⟨rfl, _, h.stepP (hf.mono (fun q _ hq => by rcases hq with e | e; exact .inl e; exact .inr (.inl e))) ⟨fun e => (by cases e), fun _ => ⟨a, hp', rfl, rfl, hl'⟩⟩ (Mv.nil _ _)⟩
theorem rdrop_duo (w : World) (h : Duo w0 w b k rb rk S B o1 a1 o2 a2 v rv) :
    Calls Try.prog 24 #[.pointer (some ⟨rb, 0, none⟩)] w fun e w' => e = .returned (.tuple #[]) ∧ ∃ rv', Duo w0 w' b k rb rk S B o1 a1 false [] v rv' := by
  have hnm := h.nm
  cases o2
  · refine (rdrop_off _ rb rk S rv a2 w h.rw').mono ?_
    rintro e w' ⟨rfl, hw', hf⟩
    exact ⟨rfl, _, h.stepR (hf.mono (fun q _ hq => .inl hq)) hw' (Pts.frm h.rl hf (Pts.ne_of h.rl h.rw'.p (by decide))) (Mv.nil _ _)⟩
  · refine (rdrop_on _ rb rk S rv a2 B S S w h.rw' h.rl (by omega) (by omega)).mono ?_
    rintro e w' ⟨rfl, hw', hl', hf⟩
    rw [show reN (S : Int) S = 0 by unfold reN; rw [if_neg (by omega), if_neg (by omega)]; omega] at hl'
    exact ⟨rfl, _, h.stepR (hf.mono (fun q _ hq => by rcases hq with e | e; exact .inl e; exact .inr (.inl e))) hw' hl' (Mv.nil _ _)⟩
theorem held_duo (H : Nat) (w : World) (h : Duo w0 w b k rb rk S B o1 a1 o2 a2 v rv) (hH : (if o1 then S else 0 : Nat) = H) :
    Calls Try.prog 13 #[.pointer (some ⟨b, 0, none⟩)] w fun e w' => e = .returned (.int .i64 H) ∧ w = w' := by
  subst hH
  cases o1
  · obtain ⟨a, hp, hv0, ha, hl⟩ := h.pw.2 rfl
    exact held_gone b _ _ _ w hp
  · obtain ⟨R, a, hw, hcn, hl⟩ := h.pw.1 rfl
    exact held_win _ b k S v R a w hw
theorem rheld_duo (H : Nat) (w : World) (h : Duo w0 w b k rb rk S B o1 a1 o2 a2 v rv) (hH : (if o2 then S else 0 : Nat) = H) :
    Calls Try.prog 25 #[.pointer (some ⟨rb, 0, none⟩)] w fun e w' => e = .returned (.int .i64 H) ∧ w = w' := by
  subst hH
  cases o2
  · exact rheld_off _ rb rk S rv a2 w h.rw'
  · exact rheld_on _ rb rk S rv a2 w h.rw'
theorem book_duo (H : Nat) (w : World) (h : Duo w0 w b k rb rk S B o1 a1 o2 a2 v rv) (hH : (if o1 then S else 0 : Nat) = H) :
    Calls Try.prog 15 #[.pointer (some ⟨k, 0, none⟩)] w fun e w' => e = .returned (.tuple #[.int .i64 H, .int .i64 S]) ∧ Duo w0 w' b k rb rk S B o1 a1 o2 a2 v rv := by
  subst hH
  refine (held_led k B _ _ w h.pw.led).mono ?_
  rintro e w' ⟨rfl, d, rfl⟩
  exact ⟨rfl, h.later (below_drewN (Below.refl _ _) d)⟩
theorem at_duo (back : Int) (x : UInt8) (ok : Bool) (w : World) (h : Duo w0 w b k rb rk S B o1 a1 o2 a2 v rv) (hx : atS o1 S a1 back = (x, ok)) :
    Calls Try.prog 20 #[.pointer (some ⟨b, 0, none⟩), .int .i64 back] w fun e w' => e = .returned (.tuple #[.int .u8 (x.toNat : Int), .bool ok]) ∧ Duo w0 w' b k rb rk S B o1 a1 o2 a2 v rv ∧ Below w.heap.size w w' := by
  have hnm := h.nm
  cases o1
  · unfold atS at hx
    rw [if_pos (.inl rfl)] at hx
    injection hx with hx1 hx2
    subst hx1; subst hx2
    obtain ⟨a, hp, hv0, ha, hl⟩ := h.pw.2 rfl
    refine (at_gone b back _ _ _ w hp).mono ?_
    rintro e w' ⟨rfl, rfl⟩
    exact ⟨rfl, h, Below.refl _ _⟩
  · obtain ⟨R, a, hw, hcn, hl⟩ := h.pw.1 rfl
    have hbm := back_may hcn (a := a) (back := back.toNat)
    by_cases hb : back < 1 ∨ (S : Int) < back ∨ (a1.length : Int) < back
    · unfold atS at hx
      rw [if_pos (.inr hb)] at hx
      injection hx with hx1 hx2
      subst hx1; subst hx2
      refine (at_out _ b k S a back v R w hw (by omega)).mono ?_
      rintro e w' ⟨rfl, rfl⟩
      exact ⟨rfl, h, Below.refl _ _⟩
    · unfold atS at hx
      rw [if_neg (by rintro (e | e); cases e; exact hb e)] at hx
      injection hx with hx1 hx2
      subst hx1; subst hx2
      obtain ⟨K, rfl⟩ : ∃ K : Nat, back = K := ⟨back.toNat, by omega⟩
      rw [Int.toNat_natCast] at hbm ⊢
      have hKR := hbm.2 (by omega)
      have hp := hw.p
      obtain ⟨A0, k0, rfl, hc0, hm0, hr0⟩ := hw.o.slice
      refine (at_in b k a S k0 K A0 R w hp hr0 (by have := hw.n; omega) (by have := hw.lt; omega) (by omega) hKR).mono ?_
      rintro e w' ⟨rfl, d, rfl⟩
      have he : R.getD ((a + R.length - K) % R.length) 0 = a1.getD (a1.length - K) 0 := by
        rw [content_at (by have := hw.lt; have := hw.z; by_cases hz : R.length < S; have := this hz; omega; omega) (by omega) hKR, hcn]
        have hl := congrArg List.length hcn
        rw [content_length, lastN_length] at hl
        unfold lastN
        simp only [List.getD]
        rw [List.getElem?_drop]
        congr 2
        omega
      exact ⟨by rw [he], h.later (below_drewN (Below.refl _ _) d), below_drewN (Below.refl _ _) d⟩
theorem rat_duo (back : Int) (x : UInt8) (ok : Bool) (w : World) (h : Duo w0 w b k rb rk S B o1 a1 o2 a2 v rv) (hx : atS o2 S a2 back = (x, ok)) (hlen : a2.length ≤ 140737488355328) :
    Calls Try.prog 21 #[.pointer (some ⟨rb, 0, none⟩), .int .i64 back] w fun e w' => e = .returned (.tuple #[.int .u8 (x.toNat : Int), .bool ok]) ∧ Duo w0 w' b k rb rk S B o1 a1 o2 a2 v rv := by
  by_cases hb : o2 = false ∨ back < 1 ∨ (S : Int) < back ∨ (a2.length : Int) < back
  · unfold atS at hx
    rw [if_pos hb] at hx
    injection hx with hx1 hx2
    subst hx1; subst hx2
    refine (rat_no _ rb rk S o2 back rv a2 w h.rw' hb).mono ?_
    rintro e w' ⟨rfl, rfl⟩
    exact ⟨rfl, h⟩
  · unfold atS at hx
    rw [if_neg hb] at hx
    injection hx with hx1 hx2
    subst hx1; subst hx2
    cases o2
    · exact absurd (.inl rfl) hb
    have hb2 : ¬ (back < 1 ∨ (S : Int) < back ∨ (a2.length : Int) < back) := fun e => hb (.inr e)
    obtain ⟨K, rfl⟩ : ∃ K : Nat, back = K := ⟨back.toNat, by omega⟩
    rw [Int.toNat_natCast]
    refine (rat_yes _ rb rk S K rv a2 w h.rw' (by omega) (by omega) (by omega) hlen).mono ?_
    rintro e w' ⟨rfl, d, rfl⟩
    exact ⟨rfl, h.later (below_drewN (Below.refl _ _) d)⟩
theorem copy_duo (back n : Int) (out a' : List UInt8) (en : Int) (w : World) (h : Duo w0 w b k rb rk S B o1 a1 o2 a2 v rv) (hx : copyS o1 S a1 back n = (out, en, a')) :
    Calls Try.prog 12 #[.pointer (some ⟨b, 0, none⟩), .int .i64 back, .int .i64 n] w fun e w' => ∃ ov v', e = .returned (.tuple #[ov, .int .i64 en]) ∧ OwnB w' 5 w.heap.size ov out ∧ (∀ q, ov.ownBlock = some q → v'.ownBlock ≠ some q) ∧ Duo w0 w' b k rb rk S B o1 a' o2 a2 v' rv ∧ Frm (fun x => x = b ∨ x = k ∨ v.ownBlock = some x) w w' := by
  have hnm := h.nm
  have l5 := h.lts.2.2.2.2.1
  have triv : ∀ (w1 : World), (∀ q, (Value.slice none 0 0).ownBlock = some q → v.ownBlock ≠ some q) := fun _ q hq => by cases hq
  cases o1
  · unfold copyS at hx
    rw [if_pos rfl] at hx
    injection hx with hx1 hx2
    injection hx2 with hx2 hx3
    subst hx1; subst hx2; subst hx3
    obtain ⟨a, hp, hv0, ha, hl⟩ := h.pw.2 rfl
    refine (copy_gone b back n _ _ _ w hp).mono ?_
    rintro e w' ⟨rfl, rfl⟩
    exact ⟨_, v, rfl, OwnB.nil _ _ _, triv w, h, Frm.refl _ _⟩
  · obtain ⟨R, a, hw, hcn, hl⟩ := h.pw.1 rfl
    have hbm := back_may hcn (a := a) (back := back.toNat)
    unfold copyS at hx
    rw [if_neg (by simp)] at hx
    by_cases hn : n < 0 ∨ 16777216 < n
    · rw [if_pos hn] at hx
      injection hx with hx1 hx2
      injection hx2 with hx2 hx3
      subst hx1; subst hx2; subst hx3
      refine (copy_arg _ b k S a back n v R w hw hn).mono ?_
      rintro e w' ⟨rfl, rfl⟩
      exact ⟨_, v, rfl, OwnB.nil _ _ _, triv w, h, Frm.refl _ _⟩
    rw [if_neg hn] at hx
    by_cases hb : back < 1 ∨ (S : Int) < back ∨ (a1.length : Int) < back
    · rw [if_pos hb] at hx
      injection hx with hx1 hx2
      injection hx2 with hx2 hx3
      subst hx1; subst hx2; subst hx3
      refine (copy_bad _ b k S a back n v R w hw (by omega) (by omega)).mono ?_
      rintro e w' ⟨rfl, rfl⟩
      exact ⟨_, v, rfl, OwnB.nil _ _ _, triv w, h, Frm.refl _ _⟩
    · rw [if_neg hb] at hx
      injection hx with hx1 hx2
      injection hx2 with hx2 hx3
      subst hx1; subst hx2; subst hx3
      obtain ⟨K, rfl⟩ : ∃ K : Nat, back = K := ⟨back.toNat, by omega⟩
      obtain ⟨N, rfl⟩ : ∃ N : Nat, n = N := ⟨n.toNat, by omega⟩
      rw [Int.toNat_natCast] at hbm
      rw [Int.toNat_natCast, Int.toNat_natCast]
      have hKR := hbm.2 (by omega)
      refine (copy_any w0.heap.size b k S a K N v R w hw h.be.size hnm.2.1 (by omega) (by omega) hKR).mono ?_
      rintro e w' ⟨ov, v', R', a', rfl, hw', hc', ho, hf, hm⟩
      have hcy : cyc (content R a) K N = cyc a1 K N := by rw [hcn]; exact cyc_last (by omega) (by omega) (by omega)
      rw [hcy] at hc' ho
      have hkb : ¬ (k = b ∨ v.ownBlock = some k) := by
        rintro (e | e)
        · exact Pts.ne_of hl hw.p (by decide) e
        · exact own_ne hw.o hl (by decide) e
      have hf' : Frm (fun x => x = b ∨ x = k ∨ v.ownBlock = some x) w w' := hf.mono (fun q _ hq => by rcases hq with e | e; exact .inl e; exact .inr (.inr e))
      refine ⟨ov, v', rfl, ho, ?_, h.stepP (hf.mono (fun q _ hq => by rcases hq with e | e; exact .inl e; exact .inr (.inr e))) ⟨fun _ => ⟨R', a', hw', ?_, Pts.frm hl hf hkb⟩, fun e => (by cases e)⟩ ?_, hf'⟩
      · intro q hq e
        rcases hm with e' | ⟨g, e', hg, hne⟩
        · have h1 := (ho.lt hq).1
          have h2 := (l5 q (e' ▸ e)).2
          omega
        · rw [e'] at e; injection e with e; subst e; exact hne hq
      · rw [hc', hcn, lastN_lastN]
      · intro q hq
        rcases hm with e' | ⟨g, e', hg, hne⟩
        · exact .inl (e' ▸ hq)
        · rw [e'] at hq; injection hq with hq; exact .inr (by omega)
theorem rcopy_duo (back n : Int) (out a' : List UInt8) (en : Int) (w : World) (h : Duo w0 w b k rb rk S B o1 a1 o2 a2 v rv) (hx : copyS o2 S a2 back n = (out, en, a')) (hlen : a2.length ≤ 300000) (hn' : n ≤ 300000 ∨ 16777216 < n) :
    Calls Try.prog 19 #[.pointer (some ⟨rb, 0, none⟩), .int .i64 back, .int .i64 n] w fun e w' => ∃ A c rv', e = .returned (.tuple #[.slice A out.length c, .int .i64 en]) ∧ BRow w' w'.heap.size A out ∧ Duo w0 w' b k rb rk S B o1 a1 o2 a' v rv' ∧ Frm (fun x => x = rb ∨ x = rk ∨ rv.ownBlock = some x) w w' ∧ Mv w rv rv' := by
  cases o2
  · unfold copyS at hx
    rw [if_pos rfl] at hx
    injection hx with hx1 hx2
    injection hx2 with hx2 hx3
    subst hx1; subst hx2; subst hx3
    refine (rcopy_off _ rb rk S back n rv a2 w h.rw').mono ?_
    rintro e w' ⟨rfl, rfl⟩
    exact ⟨none, 0, rv, rfl, BRow.nil _ _ _, h, Frm.refl _ _, Mv.same _ _⟩
  · unfold copyS at hx
    rw [if_neg (by simp)] at hx
    by_cases hn : n < 0 ∨ 16777216 < n
    · rw [if_pos hn] at hx
      injection hx with hx1 hx2
      injection hx2 with hx2 hx3
      subst hx1; subst hx2; subst hx3
      refine (rcopy_arg _ rb rk S back n rv a2 w h.rw' hn).mono ?_
      rintro e w' ⟨rfl, rfl⟩
      exact ⟨none, 0, rv, rfl, BRow.nil _ _ _, h, Frm.refl _ _, Mv.same _ _⟩
    rw [if_neg hn] at hx
    by_cases hb : back < 1 ∨ (S : Int) < back ∨ (a2.length : Int) < back
    · rw [if_pos hb] at hx
      injection hx with hx1 hx2
      injection hx2 with hx2 hx3
      subst hx1; subst hx2; subst hx3
      refine (rcopy_bad _ rb rk S back n rv a2 w h.rw' (by omega) hb).mono ?_
      rintro e w' ⟨rfl, rfl⟩
      exact ⟨none, 0, rv, rfl, BRow.nil _ _ _, h, Frm.refl _ _, Mv.same _ _⟩
    · rw [if_neg hb] at hx
      injection hx with hx1 hx2
      injection hx2 with hx2 hx3
      subst hx1; subst hx2; subst hx3
      obtain ⟨K, rfl⟩ : ∃ K : Nat, back = K := ⟨back.toNat, by omega⟩
      obtain ⟨N, rfl⟩ : ∃ N : Nat, n = N := ⟨n.toNat, by omega⟩
      rw [Int.toNat_natCast, Int.toNat_natCast, cyc_length]
      refine (rcopy_ok w0.heap.size rb rk S K N rv a2 w h.rw' h.be.size (by omega) (by omega) (by omega) (by omega)).mono ?_
      rintro e w' ⟨A, c, rv', rfl, hr, hw', hf, hm⟩
      have hkb : ¬ (rk = rb ∨ rv.ownBlock = some rk) := by
        rintro (e | e)
        · exact Pts.ne_of h.rl h.rw'.p (by decide) e
        · exact own_ne h.rw'.o h.rl (by decide) e
      have hf' : Frm (fun x => x = rb ∨ x = rk ∨ rv.ownBlock = some x) w w' := hf.mono (fun q _ hq => by rcases hq with e | e; exact .inl e; exact .inr (.inr e))
      exact ⟨A, c, rv', rfl, hr, h.stepR hf' hw' (Pts.frm h.rl hf hkb) (Mv.of hm), hf', Mv.of hm⟩
end
end Go.Proofs.Ytjeaepkncboodaa
