/- Lengths: the walk. -/
import Derived.Test.YteghpnlamdgpnaaLzC
import Derived.Deep.CutBlock
namespace Go.Proofs.Yteghpnlamdgpnaa
open Go.RowKit Rng Lz
set_option linter.unusedVariables false
set_option linter.unusedSimpArgs false
theorem plm (k : LK) {i : Nat} (h1 : 8 ≤ i) (h2 : i < 1868) : Place k i ∧ plA k i = (k.sb, i) := ⟨.inl ⟨h1, h2⟩, by unfold plA; rw [if_pos (by omega)]⟩
theorem pll (k : LK) {j : Nat} (h : j < k.L) : Place k (4096 + j) ∧ plA k (4096 + j) = (k.lb, j) := ⟨.inr ⟨by omega, by omega⟩, by unfold plA; rw [if_neg (show ¬ 4096 + j < 4096 by omega), Nat.add_sub_cancel_left]⟩
theorem treeGo_lt {σ : Type} (co : Cod σ) (base x : Nat) : ∀ (n m : Nat) (s : CP σ), (treeGo co base x n m s).1 < 2 ^ n * (m + 1)
  | 0, m, s => by show m < 2 ^ 0 * (m + 1); omega
  | n + 1, m, s => by
    have h := treeGo_lt co base x n (2 * m + (bitAt co (base + m) (x / 2 ^ n % 2) s).1) (bitAt co (base + m) (x / 2 ^ n % 2) s).2
    have hb := bitAt_le co (base + m) (x / 2 ^ n % 2) s
    show (treeGo co base x n _ _).1 < _
    refine Nat.lt_of_lt_of_le h ?_
    rw [Nat.pow_succ, Nat.mul_assoc]
    exact Nat.mul_le_mul_left _ (by omega)
theorem treeAt_lt {σ : Type} (co : Cod σ) (base n x : Nat) (s : CP σ) (hn : n ≤ 8) : (treeAt co base n x s).1 < 256 := by
  have h := treeGo_lt co base x n 1 s
  have h2 : 2 ^ n ≤ 2 ^ 8 := Nat.pow_le_pow_right (by omega) hn
  unfold treeAt
  simp only
  omega
theorem tree_num (db rb : Nat) (T : TypeId) (k : LK) (st : Nat) (rep : Nat → Nat) (s : CP Dec) (R : Nat × CP Dec) (tb tq base n len cap : Nat) (x z : Int) (w : World) (h : LzAt (DC db rb) (DO db rb) T w k st rep s) (hn : n ≤ 8) (hz : z = (n : Int)) (hlen : 2 ^ n ≤ len) (hlc : len ≤ cap)
    (hpl : ∀ j, 1 ≤ j → j < 2 ^ n → Place k (base + j) ∧ plA k (base + j) = (tb, tq + j)) (hR : treeAt outC base n 0 s = R) :
    Calls Try.prog 47 #[.slice (some ⟨tb, tq, none⟩) len cap, .iface 65 (outV db), .int .i64 x, .int .i64 z] w fun e w' => e = .returned (.int .i64 (R.1 : Nat)) ∧
      LzAt (DC db rb) (DO db rb) T w' k st rep R.2 ∧ Frm (Wr (DO db rb) k) w w' := by
  subst hz; subst hR
  exact tree_p db rb T k st rep s tb tq base n len cap x w h hn hlen hlc hpl
theorem bool01_any (y : Bool) (w : World) : Calls Try.prog 46 #[.bool y] w fun e w' => e = .returned (.int .i64 (b2n y : Nat)) ∧ w = w' := by
  cases y
  all_goals
    go_enter Try.func46, Try.ntmps46
    go_wp2
    go_ret
    exact ⟨rfl, rfl⟩
set_option maxRecDepth 100000 in
set_option maxHeartbeats 1000000 in
theorem lens_p (db rb : Nat) (T : TypeId) (k : LK) (st : Nat) (rep : Nat → Nat) (s : CP Dec) (base p : Nat) (w : World) (h : LzAt (DC db rb) (DO db rb) T w k st rep s) (hb : base = 840 ∨ base = 1354) (hp : p < 16) :
    Calls Try.prog 30 #[.pointer (some ⟨k.sb, base, none⟩), .iface 65 (outV db), .int .i64 2, .int .i64 p] w fun e w' => e = .returned (.int .i64 ((lenAt outC base 2 p s).1 : Nat)) ∧
      LzAt (DC db rb) (DO db rb) T w' k st rep (lenAt outC base 2 p s).2 ∧ Frm (Wr (DO db rb) k) w w' := by
  obtain ⟨R, hR⟩ : ∃ R, lenAt outC base 2 p s = R := ⟨_, rfl⟩
  rw [hR]
  unfold lenAt at hR
  simp only [show b2n (decide (10 ≤ 2)) = 0 by rfl, show b2n (decide (18 ≤ 2)) = 0 by rfl, Nat.sub_self, show 2 - 10 = 0 by rfl, show 2 - 18 = 0 by rfl] at hR
  have AT := Lib.hid h
  have ATD := Lib.hid (h.later (DC.keep db rb) ((Frm.refl _ w).drew))
  have HB := Lib.hid hb
  have P0 := Lib.hid (plm k (i := base) (by omega) (by omega))
  have P1 := Lib.hid (plm k (i := base + 1) (by omega) (by omega))
  have hno := nil_out (outV db)
  have hme := meth_bit (outV db)
  have hpi : (p : Int) < 16 := by omega
  obtain ⟨⟨a, sa⟩, ha⟩ : ∃ x, bitAt outC base 0 s = x := ⟨_, rfl⟩
  have hal : a ≤ 1 := by have := bitAt_le outC base 0 s; rw [ha] at this; exact this
  rw [ha] at hR
  have HA := Lib.hid ha
  have HRR := Lib.hid hR
  clear h hb hR ha
  obtain ⟨T0, hT0⟩ : ∃ x, base + 2 + p * 8 = x := ⟨_, rfl⟩
  obtain ⟨T1, hT1⟩ : ∃ x, base + 130 + p * 8 = x := ⟨_, rfl⟩
  obtain ⟨T2, hT2⟩ : ∃ x, base + 258 = x := ⟨_, rfl⟩
  have PL0 := Lib.hid (fun (j : Nat) (h1 : 1 ≤ j) (h2 : j < 2 ^ 3) => plm k (i := T0 + j) (by have := HB.out; omega) (by have := HB.out; omega))
  have PL1 := Lib.hid (fun (j : Nat) (h1 : 1 ≤ j) (h2 : j < 2 ^ 3) => plm k (i := T1 + j) (by have := HB.out; omega) (by have := HB.out; omega))
  have PL2 := Lib.hid (fun (j : Nat) (h1 : 1 ≤ j) (h2 : j < 2 ^ 8) => plm k (i := T2 + j) (by have := HB.out; omega) (by have := HB.out; omega))
  rw [hT0, hT1, hT2] at HRR
  go_enter Try.func30, Try.ntmps30
  go_upto_region 2 with fail
  go_cut [23] from 11 (fun v wx => ∃ β : Bool, v = .bool β ∧ (β = true ↔ a = 0) ∧ LzAt (DC db rb) (DO db rb) T wx k st rep sa ∧ Frm (Wr (DO db rb) k) w wx)
  case first =>
    go_region_with (first
      | (go_at_call 46; refine (bool01_any _ _).mono ?_; rintro e w2 ⟨rfl, rfl⟩)
      | (go_at_call 27; refine (lz_bit (obit_any db rb) ATD.out base k.sb base 0 _ trivial P0.out.1 P0.out.2).mono ?_; rintro e w2 ⟨rfl, h2, f2⟩; rw [HA.out] at h2 ⊢))
    all_goals
      have H2 := Lib.hid h2
      have F2 := Lib.hid (((Frm.refl _ w).drew).trans f2)
      clear h2 f2
      go_wp2
      go_meet
      case rel => exact ⟨_, rfl, by simp, H2.out, F2.out⟩
  case rest =>
    obtain ⟨β, rfl, hβ, h2, f2⟩ := hcut
    have H2 := Lib.hid h2
    have F2 := Lib.hid f2
    clear h2 f2 AT ATD
    by_cases ha0 : a = 0
    · obtain rfl : β = true := hβ.2 ha0
      have hR := HRR.out
      rw [if_pos ha0] at hR
      clear hβ ha0 HRR
      go_wp2_with fail
      obtain ⟨⟨u, su⟩, hu⟩ : ∃ x, treeAt outC T0 3 0 sa = x := ⟨_, rfl⟩
      rw [hu] at hR
      refine (tree_num db rb T k st rep _ _ k.sb T0 T0 3 _ _ _ _ _ H2.out (by omega) rfl (by omega) (Nat.le_refl _) PL0.out hu).mono ?_; rintro e w4 ⟨rfl, h4, f4⟩
      have H4 := Lib.hid h4
      have F4 := Lib.hid (F2.out.trans f4)
      have hul : u < 256 := by have := treeAt_lt outC T0 3 0 sa (by omega); rw [hu] at this; exact this
      have HRR := Lib.hid hR
      clear h4 f4 hu hR
      go_wp2
      go_ret
      rw [← HRR.out]
      refine ⟨ret_int' ?_, H4.out, F4.out⟩
      show _ = ((2 + u : Nat) : Int)
      first | omega | (unfold wrap64; omega)
    · obtain rfl : β = false := by cases β; rfl; exact absurd (hβ.1 rfl) ha0
      have hR := HRR.out
      rw [if_neg ha0] at hR
      clear hβ ha0 HRR
      obtain ⟨⟨c, sc⟩, hc⟩ : ∃ x, bitAt outC (base + 1) 0 sa = x := ⟨_, rfl⟩
      rw [hc] at hR
      have HC := Lib.hid hc
      have HRR := Lib.hid hR
      have ATD := Lib.hid (H2.out.later (DC.keep db rb) ((Frm.refl _ _).drew))
      clear hc hR
      go_upto_region 4 with fail
      go_cut [46] from 11 (fun v wx => ∃ β : Bool, v = .bool β ∧ (β = true ↔ c = 0) ∧ LzAt (DC db rb) (DO db rb) T wx k st rep sc ∧ Frm (Wr (DO db rb) k) w wx)
      case first =>
        go_region_with (first
          | (go_at_call 46; refine (bool01_any _ _).mono ?_; rintro e w2 ⟨rfl, rfl⟩)
          | (go_at_call 27; refine (lz_bit (obit_any db rb) ATD.out (base + 1) k.sb (base + 1) 0 _ trivial P1.out.1 P1.out.2).mono ?_; rintro e w2 ⟨rfl, h2, f2⟩; rw [HC.out] at h2 ⊢))
        all_goals
          have H3 := Lib.hid h2
          have F3 := Lib.hid ((F2.out.drew).trans f2)
          clear h2 f2
          go_wp2
          go_meet
          case rel => exact ⟨_, rfl, by simp, H3.out, F3.out⟩
      case rest =>
        obtain ⟨β, rfl, hβ, h2, f2⟩ := hcut
        have H3 := Lib.hid h2
        have F3 := Lib.hid f2
        clear h2 f2 H2 F2 ATD
        by_cases hc0 : c = 0
        · obtain rfl : β = true := hβ.2 hc0
          have hR := HRR.out
          rw [if_pos hc0] at hR
          clear hβ hc0 HRR
          go_wp2_with fail
          obtain ⟨⟨u, su⟩, hu⟩ : ∃ x, treeAt outC T1 3 0 sc = x := ⟨_, rfl⟩
          rw [hu] at hR
          refine (tree_num db rb T k st rep _ _ k.sb T1 T1 3 _ _ _ _ _ H3.out (by omega) rfl (by omega) (Nat.le_refl _) PL1.out hu).mono ?_; rintro e w4 ⟨rfl, h4, f4⟩
          have H4 := Lib.hid h4
          have F4 := Lib.hid (F3.out.trans f4)
          have hul : u < 256 := by have := treeAt_lt outC T1 3 0 sc (by omega); rw [hu] at this; exact this
          have HRR := Lib.hid hR
          clear h4 f4 hu hR
          go_wp2
          go_ret
          rw [← HRR.out]
          refine ⟨ret_int' ?_, H4.out, F4.out⟩
          show _ = ((10 + u : Nat) : Int)
          first | omega | (unfold wrap64; omega)
        · obtain rfl : β = false := by cases β; rfl; exact absurd (hβ.1 rfl) hc0
          have hR := HRR.out
          rw [if_neg hc0] at hR
          clear hβ hc0 HRR
          go_wp2_with fail
          obtain ⟨⟨u, su⟩, hu⟩ : ∃ x, treeAt outC T2 8 0 sc = x := ⟨_, rfl⟩
          rw [hu] at hR
          refine (tree_num db rb T k st rep _ _ k.sb T2 T2 8 _ _ _ _ _ H3.out (by omega) rfl (by omega) (Nat.le_refl _) PL2.out hu).mono ?_; rintro e w4 ⟨rfl, h4, f4⟩
          have H4 := Lib.hid h4
          have F4 := Lib.hid (F3.out.trans f4)
          have hul : u < 256 := by have := treeAt_lt outC T2 8 0 sc (by omega); rw [hu] at this; exact this
          have HRR := Lib.hid hR
          clear h4 f4 hu hR
          go_wp2
          go_ret
          rw [← HRR.out]
          refine ⟨ret_int' ?_, H4.out, F4.out⟩
          show _ = ((18 + u : Nat) : Int)
          first | omega | (unfold wrap64; omega)
end Go.Proofs.Yteghpnlamdgpnaa
