/- Texts of this proof, put together: LzD, LzE. -/
import Derived.Deep.CutBlock
import Derived.Test.YtffehfpbdcokbaaDoorBu1
set_option linter.unusedVariables false
set_option linter.unusedSimpArgs false
/- Lengths: the walk. -/
namespace Go.Proofs.YtffehfpbdcokbaaDoor
open Go.RowKit Rng Lz
set_option linter.unusedVariables false
set_option linter.unusedSimpArgs false
theorem plm (k : LK) {i : Nat} (h1 : 8 ≤ i) (h2 : i < 1868) : Place k i ∧ plA k i = (k.sb, i) := ⟨.inl ⟨h1, h2⟩, by unfold plA; rw [if_pos (by omega)]⟩
theorem pll (k : LK) {j : Nat} (h : j < k.L) : Place k (4096 + j) ∧ plA k (4096 + j) = (k.lb, j) := ⟨.inr ⟨by omega, by omega⟩, by unfold plA; rw [if_neg (show ¬ 4096 + j < 4096 by omega), Nat.add_sub_cancel_left]⟩
theorem treeGo_lt {σ : Type} (co : Cod σ) (base x : Nat) : ∀ (n m : Nat) (s : CP σ), (treeGo co base x n m s).1 < 2 ^ n * (m + 1)
  | 0, m, s => by show m < 2 ^ 0 * (m + 1); omega
  | n + 1, m, s => by
    have h := treeGo_lt co base x n (2 * m + (bitAt co (base + m) (x / 2 ^ n % 2) s).1) (bitAt co (base + m) (x / 2 ^ n % 2) s).2
    have hb := bitAt_le co (base + m) (x / 2 ^ n % 2) s
    show (treeGo co base x n _ _).1 < _
    refine Nat.lt_of_lt_of_le h ?_
    rw [Nat.pow_succ, Nat.mul_assoc]
    exact Nat.mul_le_mul_left _ (by omega)
theorem treeAt_lt {σ : Type} (co : Cod σ) (base n x : Nat) (s : CP σ) (hn : n ≤ 8) : (treeAt co base n x s).1 < 256 := by
  have h := treeGo_lt co base x n 1 s
  have h2 : 2 ^ n ≤ 2 ^ 8 := Nat.pow_le_pow_right (by omega) hn
  unfold treeAt
  simp only
  omega
theorem tree_num (db rb : Nat) (T : TypeId) (k : LK) (st : Nat) (rep : Nat → Nat) (s : CP Dec) (R : Nat × CP Dec) (tb tq base n len cap : Nat) (x z : Int) (w : World) (h : LzAt (DC db rb) (DO db rb) T w k st rep s) (hn : n ≤ 8) (hz : z = (n : Int)) (hlen : 2 ^ n ≤ len) (hlc : len ≤ cap)
    (hpl : ∀ j, 1 ≤ j → j < 2 ^ n → Place k (base + j) ∧ plA k (base + j) = (tb, tq + j)) (hR : treeAt outC base n 0 s = R) :
    Calls Tryd.prog 41 #[.slice (some ⟨tb, tq, none⟩) len cap, .iface 68 (outV db), .int .i64 x, .int .i64 z] w fun e w' => e = .returned (.int .i64 (R.1 : Nat)) ∧
      LzAt (DC db rb) (DO db rb) T w' k st rep R.2 ∧ Frm (Wr (DO db rb) k) w w' := by
  subst hz; subst hR
  exact tree_p db rb T k st rep s tb tq base n len cap x w h hn hlen hlc hpl
theorem bool01_any (y : Bool) (w : World) : Calls Tryd.prog 40 #[.bool y] w fun e w' => e = .returned (.int .i64 (b2n y : Nat)) ∧ w = w' := by
  cases y
  all_goals
    go_enter Tryd.func40, Tryd.ntmps40
    go_wp2
    go_ret
    exact ⟨rfl, rfl⟩
set_option maxRecDepth 100000 in
set_option maxHeartbeats 1000000 in
theorem lens_p (db rb : Nat) (T : TypeId) (k : LK) (st : Nat) (rep : Nat → Nat) (s : CP Dec) (base p : Nat) (w : World) (h : LzAt (DC db rb) (DO db rb) T w k st rep s) (hb : base = 840 ∨ base = 1354) (hp : p < 16) :
    Calls Tryd.prog 24 #[.pointer (some ⟨k.sb, base, none⟩), .iface 68 (outV db), .int .i64 2, .int .i64 p] w fun e w' => e = .returned (.int .i64 ((lenAt outC base 2 p s).1 : Nat)) ∧
      LzAt (DC db rb) (DO db rb) T w' k st rep (lenAt outC base 2 p s).2 ∧ Frm (Wr (DO db rb) k) w w' := by
  obtain ⟨R, hR⟩ : ∃ R, lenAt outC base 2 p s = R := ⟨_, rfl⟩
  rw [hR]
  unfold lenAt at hR
  simp only [show b2n (decide (10 ≤ 2)) = 0 by rfl, show b2n (decide (18 ≤ 2)) = 0 by rfl, Nat.sub_self, show 2 - 10 = 0 by rfl, show 2 - 18 = 0 by rfl] at hR
  have AT := Lib.hid h
  have ATD := Lib.hid (h.later (DC.keep db rb) ((Frm.refl _ w).drew))
  have HB := Lib.hid hb
  have P0 := Lib.hid (plm k (i := base) (by omega) (by omega))
  have P1 := Lib.hid (plm k (i := base + 1) (by omega) (by omega))
  have hno := nil_out (outV db)
  have hme := meth_bit (outV db)
  have hpi : (p : Int) < 16 := by omega
  obtain ⟨⟨a, sa⟩, ha⟩ : ∃ x, bitAt outC base 0 s = x := ⟨_, rfl⟩
  have hal : a ≤ 1 := by have := bitAt_le outC base 0 s; rw [ha] at this; exact this
  rw [ha] at hR
  have HA := Lib.hid ha
  have HRR := Lib.hid hR
  clear h hb hR ha
  obtain ⟨T0, hT0⟩ : ∃ x, base + 2 + p * 8 = x := ⟨_, rfl⟩
  obtain ⟨T1, hT1⟩ : ∃ x, base + 130 + p * 8 = x := ⟨_, rfl⟩
  obtain ⟨T2, hT2⟩ : ∃ x, base + 258 = x := ⟨_, rfl⟩
  have PL0 := Lib.hid (fun (j : Nat) (h1 : 1 ≤ j) (h2 : j < 2 ^ 3) => plm k (i := T0 + j) (by have := HB.out; omega) (by have := HB.out; omega))
  have PL1 := Lib.hid (fun (j : Nat) (h1 : 1 ≤ j) (h2 : j < 2 ^ 3) => plm k (i := T1 + j) (by have := HB.out; omega) (by have := HB.out; omega))
  have PL2 := Lib.hid (fun (j : Nat) (h1 : 1 ≤ j) (h2 : j < 2 ^ 8) => plm k (i := T2 + j) (by have := HB.out; omega) (by have := HB.out; omega))
  rw [hT0, hT1, hT2] at HRR
  go_enter Tryd.func24, Tryd.ntmps24
  go_upto_region 2 with fail
  go_cut [23] from 11 (fun v wx => ∃ β : Bool, v = .bool β ∧ (β = true ↔ a = 0) ∧ LzAt (DC db rb) (DO db rb) T wx k st rep sa ∧ Frm (Wr (DO db rb) k) w wx)
  case first =>
    go_region_with (first
      | (go_at_call 40; refine (bool01_any _ _).mono ?_; rintro e w2 ⟨rfl, rfl⟩)
      | (go_at_call 21; refine (lz_bit (obit_any db rb) ATD.out base k.sb base 0 _ trivial P0.out.1 P0.out.2).mono ?_; rintro e w2 ⟨rfl, h2, f2⟩; rw [HA.out] at h2 ⊢))
    all_goals
      have H2 := Lib.hid h2
      have F2 := Lib.hid (((Frm.refl _ w).drew).trans f2)
      clear h2 f2
      go_wp2
      go_meet
      case rel => exact ⟨_, rfl, by simp, H2.out, F2.out⟩
  case rest =>
    obtain ⟨β, rfl, hβ, h2, f2⟩ := hcut
    have H2 := Lib.hid h2
    have F2 := Lib.hid f2
    clear h2 f2 AT ATD
    by_cases ha0 : a = 0
    · obtain rfl : β = true := hβ.2 ha0
      have hR := HRR.out
      rw [if_pos ha0] at hR
      clear hβ ha0 HRR
      go_wp2_with fail
      obtain ⟨⟨u, su⟩, hu⟩ : ∃ x, treeAt outC T0 3 0 sa = x := ⟨_, rfl⟩
      rw [hu] at hR
      refine (tree_num db rb T k st rep _ _ k.sb T0 T0 3 _ _ _ _ _ H2.out (by omega) rfl (by omega) (Nat.le_refl _) PL0.out hu).mono ?_; rintro e w4 ⟨rfl, h4, f4⟩
      have H4 := Lib.hid h4
      have F4 := Lib.hid (F2.out.trans f4)
      have hul : u < 256 := by have := treeAt_lt outC T0 3 0 sa (by omega); rw [hu] at this; exact this
      have HRR := Lib.hid hR
      clear h4 f4 hu hR
      go_wp2
      go_ret
      rw [← HRR.out]
      refine ⟨ret_int' ?_, H4.out, F4.out⟩
      show _ = ((2 + u : Nat) : Int)
      first | omega | (unfold wrap64; omega)
    · obtain rfl : β = false := by cases β; rfl; exact absurd (hβ.1 rfl) ha0
      have hR := HRR.out
      rw [if_neg ha0] at hR
      clear hβ ha0 HRR
      obtain ⟨⟨c, sc⟩, hc⟩ : ∃ x, bitAt outC (base + 1) 0 sa = x := ⟨_, rfl⟩
      rw [hc] at hR
      have HC := Lib.hid hc
      have HRR := Lib.hid hR
      have ATD := Lib.hid (H2.out.later (DC.keep db rb) ((Frm.refl _ _).drew))
      clear hc hR
      go_upto_region 4 with fail
      go_cut [46] from 11 (fun v wx => ∃ β : Bool, v = .bool β ∧ (β = true ↔ c = 0) ∧ LzAt (DC db rb) (DO db rb) T wx k st rep sc ∧ Frm (Wr (DO db rb) k) w wx)
      case first =>
        go_region_with (first
          | (go_at_call 40; refine (bool01_any _ _).mono ?_; rintro e w2 ⟨rfl, rfl⟩)
          | (go_at_call 21; refine (lz_bit (obit_any db rb) ATD.out (base + 1) k.sb (base + 1) 0 _ trivial P1.out.1 P1.out.2).mono ?_; rintro e w2 ⟨rfl, h2, f2⟩; rw [HC.out] at h2 ⊢))
        all_goals
          have H3 := Lib.hid h2
          have F3 := Lib.hid ((F2.out.drew).trans f2)
          clear h2 f2
          go_wp2
          go_meet
          case rel => exact ⟨_, rfl, by simp, H3.out, F3.out⟩
      case rest =>
        obtain ⟨β, rfl, hβ, h2, f2⟩ := hcut
        have H3 := Lib.hid h2
        have F3 := Lib.hid f2
        clear h2 f2 H2 F2 ATD
        by_cases hc0 : c = 0
        · obtain rfl : β = true := hβ.2 hc0
          have hR := HRR.out
          rw [if_pos hc0] at hR
          clear hβ hc0 HRR
          go_wp2_with fail
          obtain ⟨⟨u, su⟩, hu⟩ : ∃ x, treeAt outC T1 3 0 sc = x := ⟨_, rfl⟩
          rw [hu] at hR
          refine (tree_num db rb T k st rep _ _ k.sb T1 T1 3 _ _ _ _ _ H3.out (by omega) rfl (by omega) (Nat.le_refl _) PL1.out hu).mono ?_; rintro e w4 ⟨rfl, h4, f4⟩
          have H4 := Lib.hid h4
          have F4 := Lib.hid (F3.out.trans f4)
          have hul : u < 256 := by have := treeAt_lt outC T1 3 0 sc (by omega); rw [hu] at this; exact this
          have HRR := Lib.hid hR
          clear h4 f4 hu hR
          go_wp2
          go_ret
          rw [← HRR.out]
          refine ⟨ret_int' ?_, H4.out, F4.out⟩
          show _ = ((10 + u : Nat) : Int)
          first | omega | (unfold wrap64; omega)
        · obtain rfl : β = false := by cases β; rfl; exact absurd (hβ.1 rfl) hc0
          have hR := HRR.out
          rw [if_neg hc0] at hR
          clear hβ hc0 HRR
          go_wp2_with fail
          obtain ⟨⟨u, su⟩, hu⟩ : ∃ x, treeAt outC T2 8 0 sc = x := ⟨_, rfl⟩
          rw [hu] at hR
          refine (tree_num db rb T k st rep _ _ k.sb T2 T2 8 _ _ _ _ _ H3.out (by omega) rfl (by omega) (Nat.le_refl _) PL2.out hu).mono ?_; rintro e w4 ⟨rfl, h4, f4⟩
          have H4 := Lib.hid h4
          have F4 := Lib.hid (F3.out.trans f4)
          have hul : u < 256 := by have := treeAt_lt outC T2 8 0 sc (by omega); rw [hu] at this; exact this
          have HRR := Lib.hid hR
          clear h4 f4 hu hR
          go_wp2
          go_ret
          rw [← HRR.out]
          refine ⟨ret_int' ?_, H4.out, F4.out⟩
          show _ = ((18 + u : Nat) : Int)
          first | omega | (unfold wrap64; omega)
end Go.Proofs.YtffehfpbdcokbaaDoor

/- The state behind an operation, the distances that are kept, the place. -/
namespace Go.Proofs.YtffehfpbdcokbaaDoor
open Go.RowKit Rng Lz
set_option linter.unusedVariables false
set_option linter.unusedSimpArgs false
section
variable {σ : Type} {CA : World → σ → Prop} {own : Nat → Prop} {T : TypeId} {w w' : World} {k : LK} {st : Nat} {rep : Nat → Nat} {s : CP σ}
theorem LzAt.hdr (h : LzAt CA own T w k st rep s) {i : Nat} (hi : i < 8) : w.cell? ⟨k.sb, i, none⟩ = some (mcell k st rep s.pr i) ∧ w.frozen? ⟨k.sb, i, none⟩ = false := ⟨by rw [h.m.cell, mcells_get _ _ _ _ (by omega)], h.m.frozen _⟩
theorem LzAt.put {st' : Nat} {rep' : Nat → Nat} (hk : KeepOK CA own) (h : LzAt CA own T w k st rep s) {i : Nat} {v : Value} (he : (mcells k st rep s.pr).setIfInBounds i v = mcells k st' rep' s.pr) : LzAt CA own T (w.setCell ⟨k.sb, i, none⟩ v) k st' rep' s ∧ Frm (Wr own k) w (w.setCell ⟨k.sb, i, none⟩ v) := by
  have hf : Frm (· = k.sb) w (w.setCell ⟨k.sb, i, none⟩ v) := (Frm.refl (· = k.sb) w).setCell (p := ⟨k.sb, i, none⟩) rfl v
  refine ⟨⟨hk _ _ _ _ h.c hf (fun q hq e => h.ne.1 (e ▸ hq)), ?_, h.l.other (p := ⟨k.sb, i, none⟩) (fun e => h.ne.2.2 e.symm) v, h.fit, h.ne⟩, hf.mono fun q _ e => .inr (.inl e)⟩
  have := h.m.set i v
  rw [he] at this
  exact this
theorem LzAt.putSt (st' : Nat) (hk : KeepOK CA own) (h : LzAt CA own T w k st rep s) : LzAt CA own T (w.setCell ⟨k.sb, 3, none⟩ (.int .i64 (st' : Int))) k st' rep s ∧ Frm (Wr own k) w (w.setCell ⟨k.sb, 3, none⟩ (.int .i64 (st' : Int))) := h.put hk (mcells_st k st st' rep s.pr)
theorem LzAt.putRep (i v : Nat) (hi : i < 4) (hk : KeepOK CA own) (h : LzAt CA own T w k st rep s) : LzAt CA own T (w.setCell ⟨k.sb, 4 + i, none⟩ (.int .u32 (v : Int))) k st (fun j => if j = i then v else rep j) s ∧ Frm (Wr own k) w (w.setCell ⟨k.sb, 4 + i, none⟩ (.int .u32 (v : Int))) := h.put hk (mcells_rep k st rep s.pr hi v)
end
/-- The state behind an operation. -/
def behS (st kind : Nat) : Nat := if kind = 0 then (if st < 4 then 0 else if 9 < st then st - 6 else st - 3) else if kind = 1 then (if 7 ≤ st then 10 else 7) else if kind = 2 then (if 7 ≤ st then 11 else 8) else (if 7 ≤ st then 11 else 9)
theorem behS_lt {st kind : Nat} (h : st < 12) : behS st kind < 12 := by
  unfold behS
  split
  · split
    · omega
    · split <;> omega
  · split
    · split <;> omega
    · split
      · split <;> omega
      · split <;> omega
theorem bool01_t (w : World) : Calls Tryd.prog 40 #[.bool true] w fun e w' => e = .returned (.int .i64 1) ∧ w = w' := bool01_any true w
theorem bool01_f (w : World) : Calls Tryd.prog 40 #[.bool false] w fun e w' => e = .returned (.int .i64 0) ∧ w = w' := bool01_any false w
set_option maxRecDepth 100000 in
set_option maxHeartbeats 1000000 in
theorem behind_any {σ : Type} {CA : World → σ → Prop} {own : Nat → Prop} (hk : KeepOK CA own) (T : TypeId) (k : LK) (st kind : Nat) (rep : Nat → Nat) (s : CP σ) (w : World) (h : LzAt CA own T w k st rep s) (hst : st < 12) (hkind : kind < 4) :
    Calls Tryd.prog 25 #[.pointer (some ⟨k.sb, 0, none⟩), .int .i64 kind] w fun e w' => e = .returned (.tuple #[]) ∧ LzAt CA own T w' k (behS st kind) rep s ∧ Frm (Wr own k) w w' := by
  have c3 : w.cell? ⟨k.sb, 3, none⟩ = some (.int .i64 st) := (h.hdr (i := 3) (by omega)).1
  have f3 := (h.hdr (i := 3) (by omega)).2
  have HZ := Lib.hid h
  have hk4 : kind = 0 ∨ kind = 1 ∨ kind = 2 ∨ kind = 3 := by omega
  clear h hkind
  rcases hk4 with rfl | rfl | rfl | rfl
  · have hm : max (0 : Int) ((st : Int) - 3) = ((st - 3 : Nat) : Int) := by omega
    have hmx := fun w => max2_num (P := Tryd.prog) .i64 #[3, 3] 3 _ _ _ hm w
    have hc3 : st < 4 ∨ (4 ≤ st ∧ st ≤ 9) ∨ (4 ≤ st ∧ 9 < st) := by omega
    have P1 := HZ.out.putSt (st - 3) hk
    have d3 : (w.setCell ⟨k.sb, 3, none⟩ (.int .i64 ((st - 3 : Nat) : Int))).frozen? ⟨k.sb, 3, none⟩ = false := (P1.1.hdr (i := 3) (by omega)).2
    have HP := Lib.hid P1
    obtain ⟨z, hz⟩ : ∃ z : Int, ((st - 3 : Nat) : Int) = z := ⟨_, rfl⟩
    have HZZ := Lib.hid hz
    rw [hz] at hmx d3
    clear P1 hm hz
    rcases hc3 with h1 | ⟨h1, h2⟩ | ⟨h1, h2⟩
    all_goals
      go_enter Tryd.func25, Tryd.ntmps25
      go_wp2_with fail
      go_end0
      rw [← HZZ.out]
    · exact ⟨rfl, by unfold behS; rw [if_pos rfl, if_pos h1]; exact (HP.out.1.putSt 0 hk).1, HP.out.2.trans (HP.out.1.putSt 0 hk).2⟩
    · exact ⟨rfl, by unfold behS; rw [if_pos rfl, if_neg (by omega), if_neg (by omega)]; exact HP.out.1, HP.out.2⟩
    · have P2 := HP.out.1.putSt (st - 6) hk
      rw [show ((st - 6 : Nat) : Int) = (st : Int) - 6 by omega] at P2
      exact ⟨rfl, by unfold behS; rw [if_pos rfl, if_neg (by omega), if_pos h2]; exact P2.1, HP.out.2.trans P2.2⟩
  all_goals
    have hc3 : (7 ≤ st ∧ (7 : Int) ≤ (st : Int) ∧ decide (7 ≤ st) = true ∧ decide ((7 : Int) ≤ (st : Int)) = true) ∨ (st < 7 ∧ (st : Int) < 7 ∧ decide (7 ≤ st) = false ∧ decide ((7 : Int) ≤ (st : Int)) = false) := by
      by_cases h : 7 ≤ st
      · exact .inl ⟨h, by omega, decide_eq_true h, decide_eq_true (by omega)⟩
      · exact .inr ⟨by omega, by omega, decide_eq_false h, decide_eq_false (by omega)⟩
    rcases hc3 with ⟨h1, h2, h3, h4⟩ | ⟨h1, h2, h3, h4⟩
    all_goals
      go_enter Tryd.func25, Tryd.ntmps25
      go_wp2_with (go_at_call 40; first | (refine (bool01_t _).mono ?_; rintro e w2 ⟨rfl, rfl⟩) | (refine (bool01_f _).mono ?_; rintro e w2 ⟨rfl, rfl⟩))
      go_end0
      first
        | (have P2 := HZ.out.putSt 10 hk; exact ⟨rfl, by unfold behS; simp only [Nat.reduceEqDiff, if_true, if_false, if_pos h1]; exact P2.1, P2.2⟩)
        | (have P2 := HZ.out.putSt 7 hk; exact ⟨rfl, by unfold behS; simp only [Nat.reduceEqDiff, if_true, if_false, if_neg (show ¬ 7 ≤ st by omega)]; exact P2.1, P2.2⟩)
        | (have P2 := HZ.out.putSt 11 hk; exact ⟨rfl, by unfold behS; simp only [Nat.reduceEqDiff, if_true, if_false, if_pos h1]; exact P2.1, P2.2⟩)
        | (have P2 := HZ.out.putSt 8 hk; exact ⟨rfl, by unfold behS; simp only [Nat.reduceEqDiff, if_true, if_false, if_neg (show ¬ 7 ≤ st by omega)]; exact P2.1, P2.2⟩)
        | (have P2 := HZ.out.putSt 9 hk; exact ⟨rfl, by unfold behS; simp only [Nat.reduceEqDiff, if_true, if_false, if_neg (show ¬ 7 ≤ st by omega)]; exact P2.1, P2.2⟩)
end Go.Proofs.YtffehfpbdcokbaaDoor
