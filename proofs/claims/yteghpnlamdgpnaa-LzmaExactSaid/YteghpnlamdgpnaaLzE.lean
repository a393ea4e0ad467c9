/- The state behind an operation, the distances that are kept, the place. -/
import Derived.Test.YteghpnlamdgpnaaLzD
namespace Go.Proofs.Yteghpnlamdgpnaa
open Go.RowKit Rng Lz
set_option linter.unusedVariables false
set_option linter.unusedSimpArgs false
section
variable {σ : Type} {CA : World → σ → Prop} {own : Nat → Prop} {T : TypeId} {w w' : World} {k : LK} {st : Nat} {rep : Nat → Nat} {s : CP σ}
theorem LzAt.hdr (h : LzAt CA own T w k st rep s) {i : Nat} (hi : i < 8) : w.cell? ⟨k.sb, i, none⟩ = some (mcell k st rep s.pr i) ∧ w.frozen? ⟨k.sb, i, none⟩ = false := ⟨by rw [h.m.cell, mcells_get _ _ _ _ (by omega)], h.m.frozen _⟩
theorem LzAt.put {st' : Nat} {rep' : Nat → Nat} (hk : KeepOK CA own) (h : LzAt CA own T w k st rep s) {i : Nat} {v : Value} (he : (mcells k st rep s.pr).setIfInBounds i v = mcells k st' rep' s.pr) : LzAt CA own T (w.setCell ⟨k.sb, i, none⟩ v) k st' rep' s ∧ Frm (Wr own k) w (w.setCell ⟨k.sb, i, none⟩ v) := by
  have hf : Frm (· = k.sb) w (w.setCell ⟨k.sb, i, none⟩ v) := (Frm.refl (· = k.sb) w).setCell (p := ⟨k.sb, i, none⟩) rfl v
  refine ⟨⟨hk _ _ _ _ h.c hf (fun q hq e => h.ne.1 (e ▸ hq)), ?_, h.l.other (p := ⟨k.sb, i, none⟩) (fun e => h.ne.2.2 e.symm) v, h.fit, h.ne⟩, hf.mono fun q _ e => .inr (.inl e)⟩
  have := h.m.set i v
  rw [he] at this
  exact this
theorem LzAt.putSt (st' : Nat) (hk : KeepOK CA own) (h : LzAt CA own T w k st rep s) : LzAt CA own T (w.setCell ⟨k.sb, 3, none⟩ (.int .i64 (st' : Int))) k st' rep s ∧ Frm (Wr own k) w (w.setCell ⟨k.sb, 3, none⟩ (.int .i64 (st' : Int))) := h.put hk (mcells_st k st st' rep s.pr)
theorem LzAt.putRep (i v : Nat) (hi : i < 4) (hk : KeepOK CA own) (h : LzAt CA own T w k st rep s) : LzAt CA own T (w.setCell ⟨k.sb, 4 + i, none⟩ (.int .u32 (v : Int))) k st (fun j => if j = i then v else rep j) s ∧ Frm (Wr own k) w (w.setCell ⟨k.sb, 4 + i, none⟩ (.int .u32 (v : Int))) := h.put hk (mcells_rep k st rep s.pr hi v)
end
/-- The state behind an operation. -/
def behS (st kind : Nat) : Nat := if kind = 0 then (if st < 4 then 0 else if 9 < st then st - 6 else st - 3) else if kind = 1 then (if 7 ≤ st then 10 else 7) else if kind = 2 then (if 7 ≤ st then 11 else 8) else (if 7 ≤ st then 11 else 9)
theorem behS_lt {st kind : Nat} (h : st < 12) : behS st kind < 12 := by
  unfold behS
  split
  · split
    · omega
    · split <;> omega
  · split
    · split <;> omega
    · split
      · split <;> omega
      · split <;> omega
theorem bool01_t (w : World) : Calls Try.prog 46 #[.bool true] w fun e w' => e = .returned (.int .i64 1) ∧ w = w' := bool01_any true w
theorem bool01_f (w : World) : Calls Try.prog 46 #[.bool false] w fun e w' => e = .returned (.int .i64 0) ∧ w = w' := bool01_any false w
set_option maxRecDepth 100000 in
set_option maxHeartbeats 1000000 in
theorem behind_any {σ : Type} {CA : World → σ → Prop} {own : Nat → Prop} (hk : KeepOK CA own) (T : TypeId) (k : LK) (st kind : Nat) (rep : Nat → Nat) (s : CP σ) (w : World) (h : LzAt CA own T w k st rep s) (hst : st < 12) (hkind : kind < 4) :
    Calls Try.prog 31 #[.pointer (some ⟨k.sb, 0, none⟩), .int .i64 kind] w fun e w' => e = .returned (.tuple #[]) ∧ LzAt CA own T w' k (behS st kind) rep s ∧ Frm (Wr own k) w w' := by
  have c3 : w.cell? ⟨k.sb, 3, none⟩ = some (.int .i64 st) := (h.hdr (i := 3) (by omega)).1
  have f3 := (h.hdr (i := 3) (by omega)).2
  have HZ := Lib.hid h
  have hk4 : kind = 0 ∨ kind = 1 ∨ kind = 2 ∨ kind = 3 := by omega
  clear h hkind
  rcases hk4 with rfl | rfl | rfl | rfl
  · have hm : max (0 : Int) ((st : Int) - 3) = ((st - 3 : Nat) : Int) := by omega
    have hmx := fun w => max2_num (P := Try.prog) .i64 #[3, 3] 3 _ _ _ hm w
    have hc3 : st < 4 ∨ (4 ≤ st ∧ st ≤ 9) ∨ (4 ≤ st ∧ 9 < st) := by omega
    have P1 := HZ.out.putSt (st - 3) hk
    have d3 : (w.setCell ⟨k.sb, 3, none⟩ (.int .i64 ((st - 3 : Nat) : Int))).frozen? ⟨k.sb, 3, none⟩ = false := (P1.1.hdr (i := 3) (by omega)).2
    have HP := Lib.hid P1
    obtain ⟨z, hz⟩ : ∃ z : Int, ((st - 3 : Nat) : Int) = z := ⟨_, rfl⟩
    have HZZ := Lib.hid hz
    rw [hz] at hmx d3
    clear P1 hm hz
    rcases hc3 with h1 | ⟨h1, h2⟩ | ⟨h1, h2⟩
    all_goals
      go_enter Try.func31, Try.ntmps31
      go_wp2_with fail
      go_end0
      rw [← HZZ.out]
    · exact ⟨rfl, by unfold behS; rw [if_pos rfl, if_pos h1]; exact (HP.out.1.putSt 0 hk).1, HP.out.2.trans (HP.out.1.putSt 0 hk).2⟩
    · exact ⟨rfl, by unfold behS; rw [if_pos rfl, if_neg (by omega), if_neg (by omega)]; exact HP.out.1, HP.out.2⟩
    · have P2 := HP.out.1.putSt (st - 6) hk
      rw [show ((st - 6 : Nat) : Int) = (st : Int) - 6 by omega] at P2
      exact ⟨rfl, by unfold behS; rw [if_pos rfl, if_neg (by omega), if_pos h2]; exact P2.1, HP.out.2.trans P2.2⟩
  all_goals
    have hc3 : (7 ≤ st ∧ (7 : Int) ≤ (st : Int) ∧ decide (7 ≤ st) = true ∧ decide ((7 : Int) ≤ (st : Int)) = true) ∨ (st < 7 ∧ (st : Int) < 7 ∧ decide (7 ≤ st) = false ∧ decide ((7 : Int) ≤ (st : Int)) = false) := by
      by_cases h : 7 ≤ st
      · exact .inl ⟨h, by omega, decide_eq_true h, decide_eq_true (by omega)⟩
      · exact .inr ⟨by omega, by omega, decide_eq_false h, decide_eq_false (by omega)⟩
    rcases hc3 with ⟨h1, h2, h3, h4⟩ | ⟨h1, h2, h3, h4⟩
    all_goals
      go_enter Try.func31, Try.ntmps31
      go_wp2_with (go_at_call 46; first | (refine (bool01_t _).mono ?_; rintro e w2 ⟨rfl, rfl⟩) | (refine (bool01_f _).mono ?_; rintro e w2 ⟨rfl, rfl⟩))
      go_end0
      first
        | (have P2 := HZ.out.putSt 10 hk; exact ⟨rfl, by unfold behS; simp only [Nat.reduceEqDiff, if_true, if_false, if_pos h1]; exact P2.1, P2.2⟩)
        | (have P2 := HZ.out.putSt 7 hk; exact ⟨rfl, by unfold behS; simp only [Nat.reduceEqDiff, if_true, if_false, if_neg (show ¬ 7 ≤ st by omega)]; exact P2.1, P2.2⟩)
        | (have P2 := HZ.out.putSt 11 hk; exact ⟨rfl, by unfold behS; simp only [Nat.reduceEqDiff, if_true, if_false, if_pos h1]; exact P2.1, P2.2⟩)
        | (have P2 := HZ.out.putSt 8 hk; exact ⟨rfl, by unfold behS; simp only [Nat.reduceEqDiff, if_true, if_false, if_neg (show ¬ 7 ≤ st by omega)]; exact P2.1, P2.2⟩)
        | (have P2 := HZ.out.putSt 9 hk; exact ⟨rfl, by unfold behS; simp only [Nat.reduceEqDiff, if_true, if_false, if_neg (show ¬ 7 ≤ st by omega)]; exact P2.1, P2.2⟩)
end Go.Proofs.Yteghpnlamdgpnaa
