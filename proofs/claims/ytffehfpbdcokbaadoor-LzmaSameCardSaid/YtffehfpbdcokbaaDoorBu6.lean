/- Texts of this proof, put together: LzH. -/
import Derived.Test.YtffehfpbdcokbaaDoorBu5
set_option linter.unusedVariables false
set_option linter.unusedSimpArgs false
/- A byte: the walk. -/
namespace Go.Proofs.YtffehfpbdcokbaaDoor.Lz
open Go.RowKit Rng
/-- A byte by its chances: ahead: the byte ahead; far: the one at the last distance. -/
def litAt {σ : Type} (co : Cod σ) (lc lp st total ahead far x : Nat) (s : CP σ) : Nat × CP σ :=
  let base := 4096 + 768 * (total % 2 ^ lp * 2 ^ lc + ahead / 2 ^ (8 - lc))
  let r := if 7 ≤ st then farGo co base x far 8 1 s else treeGo co base x 8 1 s
  (r.1 - 256, r.2)
end Go.Proofs.YtffehfpbdcokbaaDoor.Lz
namespace Go.Proofs.YtffehfpbdcokbaaDoor
open Go.RowKit Rng Lz
set_option linter.unusedVariables false
set_option linter.unusedSimpArgs false
theorem and_mask {t e P : Nat} (ht : t < 4611686018427387904) (hP : 2 ^ e = P) (he : P ≤ 256) : bits .and .i64 (t : Int) ((P : Int) - 1) = ((t % P : Nat) : Int) := by
  have hp : 1 ≤ P := by rw [← hP]; exact Nat.one_le_two_pow
  have e1 : (P : Int) - 1 = ((P - 1 : Nat) : Int) := by omega
  rw [e1, and_i64 ht (by omega), ← hP, Nat.and_two_pow_sub_one_eq_mod]
set_option maxRecDepth 100000 in
set_option maxHeartbeats 1000000 in
theorem place_any {σ : Type} {CA : World → σ → Prop} {own : Nat → Prop} (T : TypeId) (k : LK) (st total : Nat) (rep : Nat → Nat) (s : CP σ) (w : World) (h : LzAt CA own T w k st rep s) (hk : k.Ok) (ht : total < 4611686018427387904) :
    Calls Tryd.prog 20 #[.pointer (some ⟨k.sb, 0, none⟩), .int .i64 total] w fun e w' => e = .returned (.int .i64 ((total % 2 ^ k.pb : Nat) : Int)) ∧ w = w' := by
  have c2 : w.cell? ⟨k.sb, 2, none⟩ = some (.int .i64 k.pb) := (h.hdr (i := 2) (by omega)).1
  have hpb := hk.b
  obtain ⟨e, he⟩ : ∃ e, k.pb = e := ⟨_, rfl⟩
  rw [he] at c2 hpb ⊢
  have hP1 : 2 ^ e ≤ 2 ^ 4 := Nat.pow_le_pow_right (by omega) hpb
  obtain ⟨P, hP⟩ : ∃ P, 2 ^ e = P := ⟨_, rfl⟩
  have hPi : (2 : Int) ^ e = (P : Int) := by rw [← hP]; simp
  have hm := and_mask ht hP (by omega)
  rw [hP] at hP1 ⊢
  obtain ⟨R, hR⟩ : ∃ R, total % P = R := ⟨_, rfl⟩
  rw [hR] at hm ⊢
  clear h hk he hP hR
  go_enter Tryd.func20, Tryd.ntmps20
  go_wp2
  go_ret
  exact ⟨rfl, rfl⟩
theorem slice_lits (b L f g : Nat) (hf : f + 768 ≤ L) (hg : g = f + 768) (w : World) :
    (Instr.sliceAt 52 (.slice (some ⟨b, 0, none⟩) L L) (some (.int .i64 (f : Int))) (some (.int .i64 (g : Int))) none).run Tryd.prog w = .ok (.slice (some ⟨b, f, none⟩) 768 (L - f)) w := by
  have h : ¬ L = f := by omega
  have h2 : g - f = 768 := by omega
  have h3 : g ≤ L := by omega
  have h4 : f ≤ g := by omega
  simp [go_sem, h, h2, h3, h4]
set_option maxRecDepth 100000 in
set_option maxHeartbeats 1000000 in
theorem lit_p (db rb : Nat) (T : TypeId) (k : LK) (st total ahead far : Nat) (rep : Nat → Nat) (s : CP Dec) (w : World) (h : LzAt (DC db rb) (DO db rb) T w k st rep s) (hk : k.Ok) (ht : total < 4611686018427387904) (ha : ahead < 256) (hfa : far < 256) :
    Calls Tryd.prog 37 #[.pointer (some ⟨k.sb, 0, none⟩), .iface 68 (outV db), .int .i64 0, .int .i64 total, .int .u8 ahead, .int .u8 far] w fun e w' => e = .returned (.int .u8 ((litAt outC k.lc k.lp st total ahead far 0 s).1 : Nat)) ∧
      LzAt (DC db rb) (DO db rb) T w' k st rep (litAt outC k.lc k.lp st total ahead far 0 s).2 ∧ Frm (Wr (DO db rb) k) w w' := by
  have c0 : w.cell? ⟨k.sb, 0, none⟩ = some (.int .i64 k.lc) := (h.hdr (i := 0) (by omega)).1
  have c1 : w.cell? ⟨k.sb, 1, none⟩ = some (.int .i64 k.lp) := (h.hdr (i := 1) (by omega)).1
  have c3 : w.cell? ⟨k.sb, 3, none⟩ = some (.int .i64 st) := (h.hdr (i := 3) (by omega)).1
  have c9 : w.cell? ⟨k.sb, 1868, none⟩ = some (.slice (some ⟨k.lb, 0, none⟩) k.L k.L) := by rw [h.m.cell, mcells_get _ _ _ _ (by omega)]; rfl
  have hok := hk.a
  obtain ⟨R, hR⟩ : ∃ R, litAt outC k.lc k.lp st total ahead far 0 s = R := ⟨_, rfl⟩
  rw [hR]
  unfold litAt at hR
  have hLL : k.L = 768 * (2 ^ k.lp * 2 ^ k.lc) := by unfold LK.L; rw [Nat.pow_add, Nat.mul_comm (2 ^ k.lc)]
  have PLL : ∀ j, j < k.L → Place k (4096 + j) ∧ plA k (4096 + j) = (k.lb, j) := fun j hj => pll k hj
  obtain ⟨lc, hlc⟩ : ∃ e, k.lc = e := ⟨_, rfl⟩
  obtain ⟨lp, hlp⟩ : ∃ e, k.lp = e := ⟨_, rfl⟩
  obtain ⟨L, hL⟩ : ∃ e, k.L = e := ⟨_, rfl⟩
  rw [hL] at hLL PLL c9
  rw [hlc] at hLL hR c0 hok
  rw [hlp] at hLL hR c1 hok
  have hP1 : 2 ^ lp ≤ 2 ^ 4 := Nat.pow_le_pow_right (by omega) (by omega)
  have hP2 : 2 ^ lc ≤ 2 ^ 4 := Nat.pow_le_pow_right (by omega) (by omega)
  obtain ⟨E, hE⟩ : ∃ E, 8 - lc = E := ⟨_, rfl⟩
  have hPE : 2 ^ E * 2 ^ lc = 256 := by rw [← hE, ← Nat.pow_add, show 8 - lc + lc = 8 by omega]
  obtain ⟨P1, hp1⟩ : ∃ P, 2 ^ lp = P := ⟨_, rfl⟩
  obtain ⟨P2, hp2⟩ : ∃ P, 2 ^ lc = P := ⟨_, rfl⟩
  obtain ⟨P3, hp3⟩ : ∃ P, 2 ^ E = P := ⟨_, rfl⟩
  have hi1 : (2 : Int) ^ lp = (P1 : Int) := by rw [← hp1]; simp
  have hi2 : (2 : Int) ^ lc = (P2 : Int) := by rw [← hp2]; simp
  have hi3 : (2 : Int) ^ E = (P3 : Int) := by rw [← hp3]; simp
  have hand := and_mask ht hp1 (by omega)
  rw [hE, hp1, hp2, hp3] at hR
  rw [hp1, hp2] at hLL
  rw [hp1] at hP1
  rw [hp2] at hP2
  rw [hp2, hp3] at hPE
  have hP1p : 1 ≤ P1 := by rw [← hp1]; exact Nat.one_le_two_pow
  have hP2p : 1 ≤ P2 := by rw [← hp2]; exact Nat.one_le_two_pow
  have hP3p : 1 ≤ P3 := by rw [← hp3]; exact Nat.one_le_two_pow
  have ha1 : total % P1 < P1 := Nat.mod_lt _ (by omega)
  obtain ⟨A1, hA1⟩ : ∃ A, total % P1 = A := ⟨_, rfl⟩
  rw [hA1] at hand hR ha1
  have ha3 : ahead / P3 < P2 := by rw [Nat.div_lt_iff_lt_mul (by omega), Nat.mul_comm]; omega
  have hi4 : (ahead : Int) / (P3 : Int) = ((ahead / P3 : Nat) : Int) := (Int.natCast_ediv ahead P3).symm
  obtain ⟨A3, hA3⟩ : ∃ A, ahead / P3 = A := ⟨_, rfl⟩
  rw [hA3] at hR ha3 hi4
  have hA2 : A1 * P2 + P2 ≤ P1 * P2 := by
    have := Nat.mul_le_mul_right P2 (show A1 + 1 ≤ P1 by omega)
    rw [Nat.add_mul, Nat.one_mul] at this
    exact this
  have hPP : P1 * P2 ≤ 16 * 16 := Nat.mul_le_mul hP1 hP2
  have hi5 : (A1 : Int) * (P2 : Int) = ((A1 * P2 : Nat) : Int) := by simp
  obtain ⟨A2, hA2e⟩ : ∃ A, A1 * P2 = A := ⟨_, rfl⟩
  rw [hA2e] at hR hA2 hi5
  obtain ⟨PP, hPPe⟩ : ∃ A, P1 * P2 = A := ⟨_, rfl⟩
  rw [hPPe] at hA2 hPP hLL
  obtain ⟨SET, hSET⟩ : ∃ A, A2 + A3 = A := ⟨_, rfl⟩
  rw [hSET] at hR
  have hset : (A2 : Int) + (A3 : Int) = (SET : Int) := by omega
  have hE8 : (8 : Int) - (lc : Int) = (E : Int) := by omega
  have hE64 : min E 64 = E := by omega
  have hlc64 : min lc 64 = lc := by omega
  have hlp64 : min lp 64 = lp := by omega
  have hEu : IntKind.u64.wrap (E : Int) = (E : Int) := Go.IntWalk.u64_in _ (by omega)
  have hlcu : IntKind.u64.wrap (lc : Int) = (lc : Int) := Go.IntWalk.u64_in _ (by omega)
  have hlpu : IntKind.u64.wrap (lp : Int) = (lp : Int) := Go.IntWalk.u64_in _ (by omega)
  have hfit : 768 * SET + 768 ≤ L := by omega
  have hSB : SET < 256 := by omega
  obtain ⟨X0, hX0⟩ : ∃ A, 768 * SET = A := ⟨_, rfl⟩
  obtain ⟨X1, hX1⟩ : ∃ A, X0 + 768 = A := ⟨_, rfl⟩
  have hxi0 : (768 : Int) * (SET : Int) = (X0 : Int) := by omega
  have hxi1 : (X0 : Int) + 768 = (X1 : Int) := by omega
  rw [hX0] at hR hfit
  have hsl := fun w => slice_lits k.lb L X0 X1 hfit hX1.symm w
  have b1 : P1 ≤ 16 := by omega
  have b2 : P2 ≤ 16 := by omega
  have b3 : P3 ≤ 256 := by have := Nat.mul_le_mul_left P3 hP2p; omega
  have b4 : A1 ≤ 16 := by omega
  have b5 : A2 ≤ 256 := by omega
  have b6 : A3 ≤ 16 := by omega
  have b7 : X0 ≤ 200000 := by omega
  have b8 : X1 ≤ 200768 := by omega
  have AT := Lib.hid h
  have HRR := Lib.hid hR
  have HPL := Lib.hid PLL
  have HFIT := Lib.hid hfit
  clear h hk hR PLL hlc hlp hL hLL hp1 hp2 hp3 hP1 hP2 hPE hA1 hA3 hA2e hPPe hSET hE hA2 hPP ha1 ha3 hok hP1p hP2p hP3p hfit hX0 hX1
  go_enter Tryd.func37, Tryd.ntmps37
  go_wp2
  go_quiet (fail)
  go_upto_if 58 with fail
  obtain ⟨RR, hRR⟩ : ∃ RR, (if 7 ≤ st then farGo outC (4096 + X0) 0 far 8 1 s else treeGo outC (4096 + X0) 0 8 1 s) = RR := ⟨_, rfl⟩
  rw [hRR] at HRR
  have HQ := Lib.hid hRR
  have ATD := Lib.hid (AT.out.later (DC.keep db rb) ((Frm.refl _ w).drewN nq))
  have FD := Lib.hid ((Frm.refl (Wr (DO db rb) k) w).drewN nq)
  clear hRR hsl hand hi1 hi2 hi3 hi4 hi5 hset hE8 hE64 hlc64 hlp64 hEu hlcu hlpu hxi0 hxi1 b1 b2 b3 b4 b5 b6 b8 c0 c1 c9
  have hno := nil_out (outV db)
  have hme := meth_bit (outV db)
  go_cut [15, 16] from 19 to 94 (fun nv iv wx => ∃ (r m : Nat) (i : Int) (s' : CP Dec), nv = .int .i64 m ∧ iv = .int .i64 i ∧ i = (r : Int) - 1 ∧ r ≤ 8 ∧ 2 ^ (8 - r) ≤ m ∧ m < 2 ^ (8 - r + 1) ∧ treeGo outC (4096 + X0) 0 r m s' = RR ∧ LzAt (DC db rb) (DO db rb) T wx k st rep s' ∧ Frm (Wr (DO db rb) k) w wx)
  case first =>
    by_cases h7 : 7 ≤ st
    · have h7i : (7 : Int) ≤ (st : Int) := by omega
      have hRR := HQ.out
      rw [if_pos h7] at hRR
      have HQ2 := Lib.hid hRR
      have h7d : decide (7 ≤ st) = true := decide_eq_true h7
      clear hRR HQ AT HRR
      go_wp2
      go_step3
      go_wp2
      go_step3
      go_wp2
      have h7e : decide ((7 : Int) ≤ (st : Int)) = true := decide_eq_true h7i
      simp only [h7e]
      clear h7 h7i h7d h7e
      go_loopw [15, 16] (fun nv iv wx => ∃ (r m : Nat) (i : Int) (s' : CP Dec), nv = .int .i64 m ∧ iv = .int .i64 i ∧ i = (r : Int) - 1 ∧ r ≤ 8 ∧ 2 ^ (8 - r) ≤ m ∧ m < 2 ^ (8 - r + 1) ∧ farGo outC (4096 + X0) 0 far r m s' = RR ∧ LzAt (DC db rb) (DO db rb) T wx k st rep s' ∧ Frm (Wr (DO db rb) k) w wx) (fun _ iv _ => (intOf iv + 1).toNat)
      case atStart => exact ⟨8, 1, 7, s, rfl, rfl, by omega, by omega, by simp, by simp, HQ2.out, ATD.out, FD.out⟩
      case round =>
        obtain ⟨r, m, i, s', rfl, rfl, hi, hr, hm1, hm2, hgo, hat, hfr⟩ := hrel
        have GO := Lib.hid hgo
        have AT := Lib.hid hat
        have FR := Lib.hid hfr
        clear hgo hat hfr ATD FD HQ2
        cases r with
        | zero =>
          obtain rfl : i = -1 := by omega
          have HM1 := Lib.hid hm1
          have HM2 := Lib.hid hm2
          clear hi hm1 hm2
          go_wp2
          simp only [Exit.noGoto_normal]
          go_wp2
          go_meet
          case rel => exact ⟨0, m, -1, s', rfl, rfl, by omega, by omega, HM1.out, HM2.out, GO.out, AT.out, FR.out⟩
        | succ q =>
          obtain rfl : i = (q : Int) := by omega
          clear hi
          have hpow : m < 2 ^ 8 := Nat.lt_of_lt_of_le hm2 (Nat.pow_le_pow_right (by omega) (by omega))
          have hmb : m < 256 := by omega
          have HM1 := Lib.hid hm1
          have HM2 := Lib.hid hm2
          have hq64 : min q 64 = q := by omega
          have hqu : IntKind.u64.wrap (q : Int) = (q : Int) := Go.IntWalk.u64_in _ (by omega)
          obtain ⟨Pq, hPq⟩ : ∃ P, 2 ^ q = P := ⟨_, rfl⟩
          have hPi : (2 : Int) ^ q = (Pq : Int) := by rw [← hPq]; simp
          have hFi : (far : Int) / (Pq : Int) = ((far / Pq : Nat) : Int) := (Int.natCast_ediv far Pq).symm
          have hFl : far / Pq ≤ far := Nat.div_le_self _ _
          obtain ⟨Fq, hFq⟩ : ∃ F, far / Pq = F := ⟨_, rfl⟩
          rw [hFq] at hFi hFl
          obtain ⟨W, hW⟩ : ∃ W, Fq % 2 = W := ⟨_, rfl⟩
          have hWi : bits .and .i64 (Fq : Int) 1 = (W : Int) := by
            have := and_i64 (a := Fq) (b := 1) (by omega) (by omega)
            rw [nat_mask1, hW] at this
            exact this
          have hWb : W ≤ 1 := by omega
          have hgo : (if (bitAt outC (4096 + X0 + (1 + W) * 256 + m) 0 s').1 = W then farGo outC (4096 + X0) 0 far q (2 * m + (bitAt outC (4096 + X0 + (1 + W) * 256 + m) 0 s').1) (bitAt outC (4096 + X0 + (1 + W) * 256 + m) 0 s').2
              else treeGo outC (4096 + X0) 0 q (2 * m + (bitAt outC (4096 + X0 + (1 + W) * 256 + m) 0 s').1) (bitAt outC (4096 + X0 + (1 + W) * 256 + m) 0 s').2) = RR := by
            rw [← GO.out]
            show _ = (if (bitAt outC (4096 + X0 + (1 + far / 2 ^ q % 2) * 256 + m) (0 / 2 ^ q % 2) s').1 = far / 2 ^ q % 2 then farGo outC (4096 + X0) 0 far q (2 * m + (bitAt outC (4096 + X0 + (1 + far / 2 ^ q % 2) * 256 + m) (0 / 2 ^ q % 2) s').1) (bitAt outC (4096 + X0 + (1 + far / 2 ^ q % 2) * 256 + m) (0 / 2 ^ q % 2) s').2
              else treeGo outC (4096 + X0) 0 q (2 * m + (bitAt outC (4096 + X0 + (1 + far / 2 ^ q % 2) * 256 + m) (0 / 2 ^ q % 2) s').1) (bitAt outC (4096 + X0 + (1 + far / 2 ^ q % 2) * 256 + m) (0 / 2 ^ q % 2) s').2)
            rw [Nat.zero_div, Nat.zero_mod, hPq, hFq, hW]
          obtain ⟨WW, hWW⟩ : ∃ x, (1 + W) * 256 = x := ⟨_, rfl⟩
          obtain ⟨V1, hV1⟩ : ∃ x, 1 + W = x := ⟨_, rfl⟩
          have hV1i : (1 : Int) + (W : Int) = (V1 : Int) := by omega
          have hV1b : V1 ≤ 2 := by omega
          have hWWi : (V1 : Int) * 256 = (WW : Int) := by omega
          obtain ⟨IX, hIX⟩ : ∃ x, WW + m = x := ⟨_, rfl⟩
          have hIXi : (WW : Int) + (m : Int) = (IX : Int) := by omega
          have hIXb : IX < 768 := by omega
          have hw1 : IntKind.i64.wrap (V1 : Int) = (V1 : Int) := Go.IntWalk.i64_in _ (by omega)
          have hw2 : IntKind.i64.wrap (WW : Int) = (WW : Int) := Go.IntWalk.i64_in _ (by omega)
          have hw3 : IntKind.i64.wrap (IX : Int) = (IX : Int) := Go.IntWalk.i64_in _ (by omega)
          have hWWb : WW ≤ 512 := by omega
          have HP := Lib.hid (HPL.out (X0 + IX) (by have := HFIT.out; omega))
          have eix : 4096 + X0 + (1 + W) * 256 + m = 4096 + (X0 + IX) := by omega
          rw [eix] at hgo
          have ATD := Lib.hid (AT.out.later (DC.keep db rb) ((Frm.refl _ _).drew))
          have hbl := bitAt_le outC (4096 + (X0 + IX)) 0 s'
          obtain ⟨⟨bb, s2⟩, hbb⟩ : ∃ x, bitAt outC (4096 + (X0 + IX)) 0 s' = x := ⟨_, rfl⟩
          rw [hbb] at hbl hgo
          dsimp only at hbl hgo
          have hob := or_bit (m := m) (b := bb) (by omega) hbl
          have HBB := Lib.hid hbb
          have hmw : IntKind.i64.wrap ((m : Int) * 2) = (m : Int) * 2 := Go.IntWalk.i64_in _ (by omega)
          have G2 := Lib.hid hgo
          clear hm1 hm2 hpow hbb hgo hPq hFq hW hWW hIX hV1 eix GO
          have hbw : bb = W ∨ ¬ bb = W := by omega
          rcases hbw with hbw | hbw
          · have hne : ((bb : Int) != (W : Int)) = false := by rw [hbw]; simp
            have G3 := Lib.hid (show farGo outC (4096 + X0) 0 far q (2 * m + bb) s2 = RR by have := G2.out; rw [if_pos hbw] at this; exact this)
            clear G2 hbw
            go_wp2
            go_region_with (first
              | (go_at_call 21; refine (lz_bit (obit_any db rb) ATD.out (4096 + (X0 + IX)) k.lb (X0 + IX) 0 _ trivial HP.out.1 HP.out.2).mono ?_; rintro e w2 ⟨rfl, h2, f2⟩; rw [HBB.out] at h2 ⊢))
            all_goals
              have H2 := Lib.hid h2
              have F2 := Lib.hid ((FR.out.drew).trans f2)
              clear h2 f2
              go_wp2
              have e1 : 2 ^ (8 - q) ≤ 2 * m + bb := by
                have := HM1.out
                rw [show 8 - q = 8 - (q + 1) + 1 by omega, Nat.pow_succ]; omega
              have e2 : 2 * m + bb < 2 ^ (8 - q + 1) := by
                have := HM2.out
                rw [show 8 - q + 1 = 8 - (q + 1) + 1 + 1 by omega, Nat.pow_succ]; omega
              exact ⟨⟨q, 2 * m + bb, (q : Int) - 1, _, by go_num, by go_num, rfl, by omega, e1, e2, G3.out, H2.out, F2.out⟩, by simp [intOf]⟩
          · have hne : ((bb : Int) != (W : Int)) = true := by rw [bne_iff_ne]; omega
            have G3 := Lib.hid (show treeGo outC (4096 + X0) 0 q (2 * m + bb) s2 = RR by have := G2.out; rw [if_neg hbw] at this; exact this)
            clear G2 hbw
            go_wp2
            go_region_with (first
              | (go_at_call 21; refine (lz_bit (obit_any db rb) ATD.out (4096 + (X0 + IX)) k.lb (X0 + IX) 0 _ trivial HP.out.1 HP.out.2).mono ?_; rintro e w2 ⟨rfl, h2, f2⟩; rw [HBB.out] at h2 ⊢))
            all_goals
              have H2 := Lib.hid h2
              have F2 := Lib.hid ((FR.out.drew).trans f2)
              clear h2 f2
              go_wp2
              simp only [Exit.noGoto_normal]
              go_wp2
              go_meet
              case rel =>
                refine ⟨q, 2 * m + bb, (q : Int) - 1, _, by go_num, by go_num, rfl, by omega, ?_, ?_, G3.out, H2.out, F2.out⟩
                · have := HM1.out
                  rw [show 8 - q = 8 - (q + 1) + 1 by omega, Nat.pow_succ]; omega
                · have := HM2.out
                  rw [show 8 - q + 1 = 8 - (q + 1) + 1 + 1 by omega, Nat.pow_succ]; omega
    · have h7i : (st : Int) < 7 := by omega
      have h7d : decide (7 ≤ st) = false := decide_eq_false h7
      have hRR := HQ.out
      rw [if_neg h7] at hRR
      have HQ2 := Lib.hid hRR
      clear hRR HQ AT HRR
      go_wp2
      go_meet
      case rel => exact ⟨8, 1, 7, s, rfl, rfl, by omega, by omega, by simp, by simp, HQ2.out, ATD.out, FD.out⟩
  case rest =>
    obtain ⟨r0, m0, i0, s0, rfl, rfl, hi0, hr0, hm01, hm02, hgo0, hat0, hfr0⟩ := hcut
    have GO0 := Lib.hid hgo0
    have AT0 := Lib.hid hat0
    have FR0 := Lib.hid hfr0
    clear hgo0 hat0 hfr0 AT ATD FD HQ
    have HI0 := Lib.hid hi0
    clear hi0
    go_wp2
    go_loopw [15, 16] (fun nv iv wx => ∃ (r m : Nat) (i : Int) (s' : CP Dec), nv = .int .i64 m ∧ iv = .int .i64 i ∧ i = (r : Int) - 1 ∧ r ≤ 8 ∧ 2 ^ (8 - r) ≤ m ∧ m < 2 ^ (8 - r + 1) ∧ treeGo outC (4096 + X0) 0 r m s' = RR ∧ LzAt (DC db rb) (DO db rb) T wx k st rep s' ∧ Frm (Wr (DO db rb) k) w wx) (fun _ iv _ => (intOf iv + 1).toNat)
    case atStart => exact ⟨r0, m0, i0, s0, rfl, rfl, HI0.out, hr0, hm01, hm02, GO0.out, AT0.out, FR0.out⟩
    case round =>
      obtain ⟨r, m, i, s', rfl, rfl, hi, hr, hm1, hm2, hgo, hat, hfr⟩ := hrel
      have GO := Lib.hid hgo
      have AT := Lib.hid hat
      have FR := Lib.hid hfr
      clear hgo hat hfr GO0 AT0 FR0 HI0 hm01 hm02 hr0
      cases r with
      | zero =>
        obtain rfl : i = -1 := by omega
        clear hi
        have GO2 : (m, s') = RR := GO.out
        have hma : 256 ≤ m := by simpa using hm1
        have hmb : m < 512 := by simpa using hm2
        clear hm1 hm2 hr
        go_wp2
        go_ret
        rw [← HRR.out, ← GO2]
        refine ⟨ret_u32 ?_, AT.out, FR.out⟩
        show _ = ((m - 256 : Nat) : Int)
        omega
      | succ q =>
        obtain rfl : i = (q : Int) := by omega
        clear hi
        have hpow : m < 2 ^ 8 := Nat.lt_of_lt_of_le hm2 (Nat.pow_le_pow_right (by omega) (by omega))
        have hml : m < 768 := by omega
        have hmb : m < 256 := by omega
        have hpos : 1 ≤ m := Nat.le_trans (Nat.one_le_two_pow) hm1
        have HP := Lib.hid (HPL.out (X0 + m) (by have := HFIT.out; omega))
        have HM1 := Lib.hid hm1
        have HM2 := Lib.hid hm2
        have ATD := Lib.hid (AT.out.later (DC.keep db rb) ((Frm.refl _ _).drew))
        have hbl := bitAt_le outC (4096 + X0 + m) 0 s'
        obtain ⟨bb, hbb⟩ : ∃ bb, (bitAt outC (4096 + X0 + m) 0 s').1 = bb := ⟨_, rfl⟩
        rw [hbb] at hbl
        have hob := or_bit (m := m) (b := bb) (by omega) hbl
        have HBB := Lib.hid hbb
        have hmw : IntKind.i64.wrap ((m : Int) * 2) = (m : Int) * 2 := Go.IntWalk.i64_in _ (by omega)
        clear hm1 hm2 hpow hbb
        go_wp2
        go_region_with (first
          | (go_at_call 21; refine (lz_bit (obit_any db rb) ATD.out (4096 + X0 + m) k.lb (X0 + m) 0 _ trivial (by rw [Nat.add_assoc]; exact HP.out.1) (by rw [Nat.add_assoc]; exact HP.out.2)).mono ?_; rintro e w2 ⟨rfl, h2, f2⟩; rw [HBB.out]))
        all_goals
          have H2 := Lib.hid h2
          have F2 := Lib.hid ((FR.out.drew).trans f2)
          clear h2 f2
          go_wp2
          refine ⟨⟨q, 2 * m + bb, (q : Int) - 1, _, rfl, by go_num, rfl, by omega, ?_, ?_, ?_, H2.out, F2.out⟩, by simp [intOf]⟩
          · have := HM1.out
            rw [show 8 - q = 8 - (q + 1) + 1 by omega, Nat.pow_succ]; omega
          · have := HM2.out
            rw [show 8 - q + 1 = 8 - (q + 1) + 1 + 1 by omega, Nat.pow_succ]; omega
          · rw [← GO.out]
            show _ = treeGo outC (4096 + X0) 0 q (2 * m + (bitAt outC (4096 + X0 + m) (0 / 2 ^ q % 2) s').1) (bitAt outC (4096 + X0 + m) (0 / 2 ^ q % 2) s').2
            rw [Nat.zero_div, Nat.zero_mod, HBB.out]
end Go.Proofs.YtffehfpbdcokbaaDoor
