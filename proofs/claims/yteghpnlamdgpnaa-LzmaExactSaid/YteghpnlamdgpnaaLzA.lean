/- The chances in memory. -/
import Derived.Test.YteghpnlamdgpnaaLzP
import Derived.Test.YteghpnlamdgpnaaRngB
namespace Go.Proofs.Yteghpnlamdgpnaa
open Go.RowKit Rng Lz
set_option linter.unusedVariables false
set_option linter.unusedSimpArgs false
/-- Where a model lies, and its settings. -/
structure LK where
  sb : Nat
  lb : Nat
  lc : Nat
  lp : Nat
  pb : Nat
def LK.L (k : LK) : Nat := 768 * 2 ^ (k.lc + k.lp)
structure LK.Ok (k : LK) : Prop where
  a : k.lc + k.lp ≤ 4
  b : k.pb ≤ 4
theorem LK.Ok.L_le {k : LK} (h : k.Ok) : k.L ≤ 12288 := by
  unfold LK.L
  have : 2 ^ (k.lc + k.lp) ≤ 2 ^ 4 := Nat.pow_le_pow_right (by omega) h.a
  omega
def mcell (k : LK) (st : Nat) (rep : Nat → Nat) (pr : Pr) (i : Nat) : Value :=
  if i = 0 then .int .i64 k.lc else if i = 1 then .int .i64 k.lp else if i = 2 then .int .i64 k.pb else if i = 3 then .int .i64 st else if i < 8 then .int .u32 (rep (i - 4))
  else if i < 1868 then .int .u16 (pr i) else .slice (some ⟨k.lb, 0, none⟩) k.L k.L
def mcells (k : LK) (st : Nat) (rep : Nat → Nat) (pr : Pr) : Array Value := Array.ofFn (n := 1869) fun i => mcell k st rep pr i.val
def lcells (k : LK) (pr : Pr) : Array Value := Array.ofFn (n := k.L) fun j => .int .u16 (pr (4096 + j.val))
theorem mcells_get (k : LK) (st : Nat) (rep : Nat → Nat) (pr : Pr) {i : Nat} (h : i < 1869) : (mcells k st rep pr)[i]? = some (mcell k st rep pr i) := by
  unfold mcells
  rw [Array.getElem?_ofFn]
  simp [h]
theorem lcells_get (k : LK) (pr : Pr) {j : Nat} (h : j < k.L) : (lcells k pr)[j]? = some (.int .u16 (pr (4096 + j))) := by
  unfold lcells
  rw [Array.getElem?_ofFn]
  simp [h]
theorem mcells_set {k : LK} {st st' : Nat} {rep rep' : Nat → Nat} {pr pr' : Pr} {i : Nat} {v : Value} (h : ∀ j, j < 1869 → mcell k st' rep' pr' j = if j = i then v else mcell k st rep pr j) :
    (mcells k st rep pr).setIfInBounds i v = mcells k st' rep' pr' := by
  apply Array.ext
  · simp [mcells]
  · intro j h1 h2
    have hj : j < 1869 := by simpa [mcells] using h2
    rw [Array.getElem_setIfInBounds (by simpa [mcells] using hj)]
    have e := h j hj
    simp only [mcells, Array.getElem_ofFn]
    rw [e]
    by_cases hji : j = i
    · rw [if_pos hji, if_pos hji.symm]
    · rw [if_neg hji, if_neg (fun h => hji h.symm)]
theorem mcells_pr (k : LK) (st : Nat) (rep : Nat → Nat) (pr : Pr) {i : Nat} (h1 : 8 ≤ i) (h2 : i < 1868) (v : Nat) : (mcells k st rep pr).setIfInBounds i (.int .u16 (v : Int)) = mcells k st rep (upd pr i v) := by
  refine mcells_set fun j hj => ?_
  unfold mcell upd
  by_cases e : j = i
  · subst e
    rw [if_pos rfl, if_neg (by omega), if_neg (by omega), if_neg (by omega), if_neg (by omega), if_neg (by omega), if_pos h2, if_pos rfl]
  · rw [if_neg e]
    simp only [if_neg e]
theorem mcells_st (k : LK) (st st' : Nat) (rep : Nat → Nat) (pr : Pr) : (mcells k st rep pr).setIfInBounds 3 (.int .i64 (st' : Int)) = mcells k st' rep pr := by
  refine mcells_set fun j hj => ?_
  unfold mcell
  by_cases e : j = 3
  · subst e; rfl
  · rw [if_neg e]
    simp only [if_neg e]
theorem mcells_rep (k : LK) (st : Nat) (rep : Nat → Nat) (pr : Pr) {i : Nat} (h : i < 4) (v : Nat) : (mcells k st rep pr).setIfInBounds (4 + i) (.int .u32 (v : Int)) = mcells k st (fun j => if j = i then v else rep j) pr := by
  refine mcells_set fun j hj => ?_
  unfold mcell
  by_cases e : j = 4 + i
  · subst e
    rw [if_pos rfl, if_neg (by omega), if_neg (by omega), if_neg (by omega), if_neg (by omega), if_pos (by omega)]
    simp
  · rw [if_neg e]
    by_cases h0 : j = 0
    · rw [if_pos h0, if_pos h0]
    rw [if_neg h0, if_neg h0]
    by_cases h1 : j = 1
    · rw [if_pos h1, if_pos h1]
    rw [if_neg h1, if_neg h1]
    by_cases h2 : j = 2
    · rw [if_pos h2, if_pos h2]
    rw [if_neg h2, if_neg h2]
    by_cases h3 : j = 3
    · rw [if_pos h3, if_pos h3]
    rw [if_neg h3, if_neg h3]
    by_cases h4 : j < 8
    · rw [if_pos h4, if_pos h4]
      have : ¬ j - 4 = i := by omega
      simp only [if_neg this]
    · rw [if_neg h4, if_neg h4]
theorem mcells_up (k : LK) (st : Nat) (rep : Nat → Nat) (pr : Pr) {i : Nat} (h : 4096 ≤ i) (v : Nat) : mcells k st rep (upd pr i v) = mcells k st rep pr := by
  unfold mcells
  congr 1
  funext j
  unfold mcell upd
  have := j.isLt
  have e : ¬ j.val = i := by omega
  simp only [if_neg e]
theorem lcells_up (k : LK) (pr : Pr) {i : Nat} (h : i < 4096) (v : Nat) : lcells k (upd pr i v) = lcells k pr := by
  unfold lcells
  congr 1
  funext j
  rw [upd_ne _ _ (by omega)]
theorem lcells_pr (k : LK) (pr : Pr) (j v : Nat) : (lcells k pr).setIfInBounds j (.int .u16 (v : Int)) = lcells k (upd pr (4096 + j) v) := by
  apply Array.ext
  · simp [lcells]
  · intro i h1 h2
    have hi : i < k.L := by simpa [lcells] using h2
    rw [Array.getElem_setIfInBounds (by simpa [lcells] using hi)]
    simp only [lcells, Array.getElem_ofFn]
    unfold upd
    by_cases e : j = i
    · subst e; simp
    · rw [if_neg e, if_neg (by omega)]
/-- The model in memory, and its coder (CA: where it lies; own: its blocks). -/
structure LzAt {σ : Type} (CA : World → σ → Prop) (own : Nat → Prop) (T : TypeId) (w : World) (k : LK) (st : Nat) (rep : Nat → Nat) (s : CP σ) : Prop where
  c : CA w s.d
  m : Pts w k.sb (mcells k st rep s.pr) T
  l : Pts w k.lb (lcells k s.pr) 38
  fit : ∀ i, s.pr i < 65536
  ne : ¬ own k.sb ∧ ¬ own k.lb ∧ k.sb ≠ k.lb
/-- Where a chance lies. -/
def plA (k : LK) (i : Nat) : Nat × Nat := if i < 4096 then (k.sb, i) else (k.lb, i - 4096)
def Place (k : LK) (i : Nat) : Prop := (8 ≤ i ∧ i < 1868) ∨ (4096 ≤ i ∧ i < 4096 + k.L)
/-- The blocks that the work writes. -/
def Wr (own : Nat → Prop) (k : LK) (q : Nat) : Prop := own q ∨ q = k.sb ∨ q = k.lb
section
variable {σ : Type} {CA : World → σ → Prop} {own : Nat → Prop} {T : TypeId} {w w' : World} {k : LK} {st : Nat} {rep : Nat → Nat} {s : CP σ}
theorem LzAt.cell (h : LzAt CA own T w k st rep s) {i tb to : Nat} (hp : Place k i) (he : plA k i = (tb, to)) : w.cell? ⟨tb, to, none⟩ = some (.int .u16 (s.pr i)) ∧ w.frozen? ⟨tb, to, none⟩ = false ∧ ¬ own tb ∧ Wr own k tb ∧ tb < w.heap.size := by
  unfold plA at he
  by_cases h4 : i < 4096
  · rw [if_pos h4] at he
    injection he with e1 e2
    subst e1; subst e2
    have hi : 8 ≤ i ∧ i < 1868 := by rcases hp with h | h <;> omega
    refine ⟨?_, h.m.frozen _, h.ne.1, .inr (.inl rfl), h.m.lt⟩
    rw [h.m.cell, mcells_get _ _ _ _ (by omega)]
    unfold mcell
    rw [if_neg (by omega), if_neg (by omega), if_neg (by omega), if_neg (by omega), if_neg (by omega), if_pos hi.2]
  · rw [if_neg h4] at he
    injection he with e1 e2
    subst e1; subst e2
    have hi : 4096 ≤ i ∧ i < 4096 + k.L := by rcases hp with h | h <;> omega
    refine ⟨?_, h.l.frozen _, h.ne.2.1, .inr (.inr rfl), h.l.lt⟩
    rw [h.l.cell, lcells_get _ _ (by omega), show 4096 + (i - 4096) = i by omega]
theorem LzAt.learnt (h : LzAt CA own T w k st rep s) {i tb to v : Nat} {d : σ} (hp : Place k i) (he : plA k i = (tb, to)) (hv : v < 65536) (hc : CA w' d) (hf : Frm own (w.setCell ⟨tb, to, none⟩ (.int .u16 (v : Int))) w') :
    LzAt CA own T w' k st rep ⟨d, upd s.pr i v⟩ ∧ Frm (Wr own k) w w' := by
  have hc0 := h.cell hp he
  have hf2 : Frm (Wr own k) w w' := ((Frm.refl (Wr own k) w).setCell (p := ⟨tb, to, none⟩) hc0.2.2.2.1 (.int .u16 (v : Int))).trans (hf.mono fun q _ hq => .inl hq)
  have hfit : ∀ j, upd s.pr i v j < 65536 := by
    intro j
    unfold upd
    split
    · exact hv
    · exact h.fit j
  unfold plA at he
  by_cases h4 : i < 4096
  · rw [if_pos h4] at he
    injection he with e1 e2
    subst e1; subst e2
    have hi : 8 ≤ i ∧ i < 1868 := by rcases hp with h | h <;> omega
    have hm := (h.m.set i (.int .u16 (v : Int))).frm hf h.ne.1
    rw [mcells_pr _ _ _ _ hi.1 hi.2] at hm
    have hl := (h.l.other (p := ⟨k.sb, i, none⟩) (fun e => h.ne.2.2 e.symm) (.int .u16 (v : Int))).frm hf h.ne.2.1
    rw [← lcells_up k s.pr (i := i) h4 v] at hl
    exact ⟨⟨hc, hm, hl, hfit, h.ne⟩, hf2⟩
  · rw [if_neg h4] at he
    injection he with e1 e2
    subst e1; subst e2
    have hi : 4096 ≤ i ∧ i < 4096 + k.L := by rcases hp with h | h <;> omega
    have hl := (h.l.set (i - 4096) (.int .u16 (v : Int))).frm hf h.ne.2.1
    rw [lcells_pr, show 4096 + (i - 4096) = i by omega] at hl
    have hm := (h.m.other (p := ⟨k.lb, i - 4096, none⟩) h.ne.2.2 (.int .u16 (v : Int))).frm hf h.ne.1
    rw [← mcells_up k st rep s.pr (i := i) (by omega) v] at hm
    exact ⟨⟨hc, hm, hl, hfit, h.ne⟩, hf2⟩
end
/-- A coder stands where nothing of its blocks is written. -/
def KeepOK {σ : Type} (CA : World → σ → Prop) (own : Nat → Prop) : Prop := ∀ (N : Nat → Prop) (w w' : World) (s : σ), CA w s → Frm N w w' → (∀ q, own q → ¬ N q) → CA w' s
theorem LzAt.frm {σ : Type} {CA : World → σ → Prop} {own N : Nat → Prop} {T : TypeId} {w w' : World} {k : LK} {st : Nat} {rep : Nat → Nat} {s : CP σ} (hk : KeepOK CA own) (h : LzAt CA own T w k st rep s) (hf : Frm N w w') (hN : ∀ q, Wr own k q → ¬ N q) : LzAt CA own T w' k st rep s :=
  ⟨hk N w w' _ h.c hf (fun q hq => hN q (.inl hq)), h.m.frm hf (hN _ (.inr (.inl rfl))), h.l.frm hf (hN _ (.inr (.inr rfl))), h.fit, h.ne⟩
theorem LzAt.later {σ : Type} {CA : World → σ → Prop} {own : Nat → Prop} {T : TypeId} {w w' : World} {k : LK} {st : Nat} {rep : Nat → Nat} {s : CP σ} (hk : KeepOK CA own) (h : LzAt CA own T w k st rep s) (hf : Frm (fun _ => False) w w') : LzAt CA own T w' k st rep s := h.frm hk hf (fun _ _ h => h)
/-- A coder's bit, as the walks meet it. -/
def BitOK {σ : Type} (co : Cod σ) (CA : World → σ → Prop) (own : Nat → Prop) (f : FuncId) (cv : Value) (rel : Int → Nat → Prop) : Prop :=
  ∀ (w : World) (s : σ) (pb po pv : Nat) (xi : Int) (x : Nat), rel xi x → CA w s → w.cell? ⟨pb, po, none⟩ = some (.int .u16 pv) → w.frozen? ⟨pb, po, none⟩ = false → ¬ own pb → pv < 65536 →
    Calls Try.prog f #[cv, .pointer (some ⟨pb, po, none⟩), .int .i64 xi] w fun e w' => e = .returned (.int .i64 (b2n (co.bit s (fair pv) x).1 : Nat)) ∧ CA w' (co.bit s (fair pv) x).2 ∧
      Frm own (w.setCell ⟨pb, po, none⟩ (.int .u16 (learn (fair pv) (co.bit s (fair pv) x).1))) w'
theorem lz_bit {σ : Type} {co : Cod σ} {CA : World → σ → Prop} {own : Nat → Prop} {T : TypeId} {f : FuncId} {cv : Value} {rel : Int → Nat → Prop} (hb : BitOK co CA own f cv rel) {w : World} {k : LK} {st : Nat} {rep : Nat → Nat} {s : CP σ} (h : LzAt CA own T w k st rep s)
    (i tb to : Nat) (x : Nat) (xi : Int) (hr : rel xi x) (hp : Place k i) (he : plA k i = (tb, to)) :
    Calls Try.prog f #[cv, .pointer (some ⟨tb, to, none⟩), .int .i64 xi] w fun e w' => e = .returned (.int .i64 ((bitAt co i x s).1 : Nat)) ∧ LzAt CA own T w' k st rep (bitAt co i x s).2 ∧ Frm (Wr own k) w w' := by
  have hc := h.cell hp he
  refine (hb w s.d tb to (s.pr i) xi x hr h.c hc.1 hc.2.1 hc.2.2.1 (h.fit i)).mono ?_
  rintro e w' ⟨rfl, h1, h2⟩
  have hl := h.learnt hp he (Nat.lt_of_le_of_lt (learn_bd (fair_bd (s.pr i)).2 _) (by omega)) h1 h2
  exact ⟨rfl, hl.1, hl.2⟩
theorem bitAt_le {σ : Type} (co : Cod σ) (i x : Nat) (s : CP σ) : (bitAt co i x s).1 ≤ 1 := by
  unfold bitAt b2n; simp only; split <;> omega
end Go.Proofs.Yteghpnlamdgpnaa
