/- Texts of this proof, put together: LzF. -/
import Derived.Test.YtffehfpbdcokbaaDoorBu2
import Derived.Test.YtffehfpbdcokbaaDoorBu3
set_option linter.unusedVariables false
set_option linter.unusedSimpArgs false
/- Distances: the walk. -/
namespace Go.Proofs.YtffehfpbdcokbaaDoor
open Go.RowKit Rng Lz
set_option linter.unusedVariables false
set_option linter.unusedSimpArgs false
theorem slot_zero (w : World) : Calls Tryd.prog 42 #[.int .u32 0] w fun e w' => e = .returned (.int .i64 0) ∧ w = w' := by
  go_enter Tryd.func42, Tryd.ntmps42
  go_wp2
  go_ret
  exact ⟨rfl, rfl⟩
theorem odir_any (db rb : Nat) (x n : Int) (d : Dec) (w : World) (hd : DC db rb w d) :
    Calls Tryd.prog 78 #[outV db, .int .u32 x, .int .i64 n] w fun e w' => e = .returned (.int .u32 ((d.direct (count n) 0).1 : Nat)) ∧ DC db rb w' (d.direct (count n) 0).2 ∧ Frm (DO db rb) w w' := by
  obtain ⟨r, hd', hback⟩ := hd.dec
  have HD := Lib.hid hd'
  have HBK := Lib.hid hback
  clear hd hd' hback
  unfold outV
  go_enter Tryd.func78, Tryd.ntmps78
  go_wp2_with fail
  obtain ⟨X, hX⟩ : ∃ X, Obj.cells #[.pointer (some ⟨db, 0, none⟩)] 68 = X := ⟨_, rfl⟩
  rw [hX]
  have hfr := (Frm.refl (fun _ => False) w).alloc X
  refine (ddirect_p db r n d (w.alloc X) (DecAt.frm HD.out hfr id id)).mono ?_
  rintro e w1 ⟨rfl, h1, h2⟩
  have H1 := Lib.hid h1
  have H2 := Lib.hid h2
  clear h1 h2 hX hfr
  go_wp2
  go_ret
  exact ⟨rfl, HBK.out _ _ (fun h => Dec.direct_nil _ _ h) H1.out, ((Frm.refl (DO db rb) w).alloc X).trans (H2.out.mono fun q _ hq => .inl hq)⟩
theorem lz_dir (db rb : Nat) (T : TypeId) (k : LK) (st : Nat) (rep : Nat → Nat) (s : CP Dec) (x z : Int) (n : Nat) (w : World) (h : LzAt (DC db rb) (DO db rb) T w k st rep s) (hz : z = (n : Int)) (hn : n ≤ 32) (v : Nat) (d' : Dec) (hv : outC.dir s.d 0 n = (v, d')) :
    Calls Tryd.prog 78 #[outV db, .int .u32 x, .int .i64 z] w fun e w' => e = .returned (.int .u32 (v : Nat)) ∧ LzAt (DC db rb) (DO db rb) T w' k st rep ⟨d', s.pr⟩ ∧ Frm (Wr (DO db rb) k) w w' := by
  subst hz
  have hc : count (n : Int) = n := by unfold count; omega
  have hv' : s.d.direct n 0 = (v, d') := hv
  refine (odir_any db rb x n s.d w h.c).mono ?_
  rintro e w' ⟨rfl, h1, h2⟩
  rw [hc, hv'] at h1 ⊢
  exact ⟨rfl, ⟨h1, h.m.frm h2 h.ne.1, h.l.frm h2 h.ne.2.1, h.fit, h.ne⟩, h2.mono fun q _ hq => .inl hq⟩
theorem back_num (db rb : Nat) (T : TypeId) (k : LK) (st : Nat) (rep : Nat → Nat) (s : CP Dec) (R : Nat × CP Dec) (tb tq base n len cap : Nat) (x z : Int) (w : World) (h : LzAt (DC db rb) (DO db rb) T w k st rep s) (hn : n ≤ 8) (hz : z = (n : Int)) (hlen : 2 ^ n ≤ len) (hlc : len ≤ cap)
    (hpl : ∀ j, 1 ≤ j → j < 2 ^ n → Place k (base + j) ∧ plA k (base + j) = (tb, tq + j)) (hR : backAt outC base n 0 s = R) :
    Calls Tryd.prog 43 #[.slice (some ⟨tb, tq, none⟩) len cap, .iface 68 (outV db), .int .i64 x, .int .i64 z] w fun e w' => e = .returned (.int .i64 (R.1 : Nat)) ∧
      LzAt (DC db rb) (DO db rb) T w' k st rep R.2 ∧ Frm (Wr (DO db rb) k) w w' := by
  subst hz; subst hR
  exact back_p db rb T k st rep s tb tq base n len cap x w h hn hlen hlc hpl
theorem backGo_lt {σ : Type} (co : Cod σ) (base x n : Nat) : ∀ (k m o : Nat) (s : CP σ), k ≤ n → o < 2 ^ (n - k) → (backGo co base x n k m o s).1 < 2 ^ n
  | 0, m, o, s, _, h => by simpa [backGo] using h
  | k + 1, m, o, s, hk, h => by
    refine backGo_lt co base x n k _ _ _ (by omega) ?_
    have hb := bitAt_le co (base + m) (x / 2 ^ (n - (k + 1)) % 2) s
    rw [show n - k = n - (k + 1) + 1 by omega, Nat.pow_succ]
    generalize (bitAt co (base + m) (x / 2 ^ (n - (k + 1)) % 2) s).1 = b at hb
    have : b * 2 ^ (n - (k + 1)) ≤ 1 * 2 ^ (n - (k + 1)) := Nat.mul_le_mul_right _ hb
    omega
theorem backAt_lt {σ : Type} (co : Cod σ) (base n x : Nat) (s : CP σ) : (backAt co base n x s).1 < 2 ^ n := backGo_lt co base x n n 1 0 s (Nat.le_refl _) (by simp)
/-- What is behind the slot: the numbers that the code reckons with. -/
theorem slot_nums {t : Nat} (h4 : 4 ≤ t) (h64 : t < 64) : ∃ K P bs : Nat, t / 2 - 1 = K ∧ 2 ^ K = P ∧ (2 + t % 2) * P = bs ∧ (2 : Int) ^ K = (P : Int) ∧ K ≤ 30 ∧ bs < 4294967296 ∧ (((2 : Int) + ((t % 2 : Nat) : Int)) * (P : Int) = (bs : Int)) := by
  have hK : t / 2 - 1 ≤ 30 := by omega
  have hP : 2 ^ (t / 2 - 1) ≤ 2 ^ 30 := Nat.pow_le_pow_right (by omega) hK
  refine ⟨t / 2 - 1, 2 ^ (t / 2 - 1), (2 + t % 2) * 2 ^ (t / 2 - 1), rfl, rfl, rfl, by simp, hK, ?_, by simp⟩
  have h2 : t % 2 < 2 := Nat.mod_lt _ (by omega)
  have : (2 + t % 2) * 2 ^ (t / 2 - 1) ≤ 3 * 2 ^ 30 := Nat.mul_le_mul (by omega) hP
  omega
theorem slot_low {t K P bs : Nat} (h4 : 4 ≤ t) (h14 : t < 14) (hK : t / 2 - 1 = K) (hP : 2 ^ K = P) (hb : (2 + t % 2) * P = bs) : t ≤ bs ∧ bs - t + P ≤ 128 ∧ K ≤ 5 := by
  have : ∀ t : Fin 14, 4 ≤ t.val → t.val ≤ (2 + t.val % 2) * 2 ^ (t.val / 2 - 1) ∧ (2 + t.val % 2) * 2 ^ (t.val / 2 - 1) - t.val + 2 ^ (t.val / 2 - 1) ≤ 128 := by decide
  have h := this ⟨t, h14⟩ h4
  simp only at h
  subst hK; subst hP; subst hb
  exact ⟨h.1, h.2, by omega⟩
theorem ret_u32 {k : IntKind} {a b : Int} (h : a = b) : Ending.returned (.int k a) = .returned (.int k b) := by rw [h]
theorem slice_places (b o f : Nat) (hf : f < 128) (w : World) :
    (Instr.sliceAt 44 (.pointer (some ⟨b, o, none⟩)) (some (.int .i64 (f : Int))) none none).run Tryd.prog w = .ok (.slice (some ⟨b, o + f, none⟩) (128 - f) (128 - f)) w := by
  have h : ¬ 128 = f := by omega
  unfold Instr.sliceAt
  simp [go_sem, h]
  first | done | omega | (intro h; omega)
set_option maxRecDepth 100000 in
set_option maxHeartbeats 1000000 in
theorem dist_p (db rb : Nat) (T : TypeId) (k : LK) (st : Nat) (rep : Nat → Nat) (s : CP Dec) (size : Nat) (w : World) (h : LzAt (DC db rb) (DO db rb) T w k st rep s) (hs : 2 ≤ size) (hsz : size ≤ 300) :
    Calls Tryd.prog 26 #[.pointer (some ⟨k.sb, 0, none⟩), .iface 68 (outV db), .int .u32 0, .int .i64 size] w fun e w' => e = .returned (.int .u32 ((distAt outC 0 size s).1 : Nat)) ∧
      LzAt (DC db rb) (DO db rb) T w' k st rep (distAt outC 0 size s).2 ∧ Frm (Wr (DO db rb) k) w w' := by
  obtain ⟨R, hR⟩ : ∃ R, distAt outC 0 size s = R := ⟨_, rfl⟩
  rw [hR]
  unfold distAt at hR
  simp only [show slotOf 0 = 0 by rfl, Nat.zero_sub, Nat.zero_div, Nat.zero_mod] at hR
  obtain ⟨q, hq⟩ : ∃ q, min size 5 - 2 = q := ⟨_, rfl⟩
  have hq3 : q < 4 := by omega
  obtain ⟨Q2, hQ2⟩ : ∃ Q2, q + 2 = Q2 := ⟨_, rfl⟩
  have hmin : min (size : Int) 5 = (Q2 : Int) := by omega
  have hmn := fun w => min2_num (P := Tryd.prog) .i64 #[3, 3] 3 _ _ _ hmin w
  have hqs : (Q2 : Int) - 2 = (q : Int) := by omega
  have hqw : IntKind.i64.wrap (q : Int) = (q : Int) := Go.IntWalk.i64_in _ (by omega)
  have hqi : (q : Int) < 4 := by omega
  rw [hq] at hR
  obtain ⟨TB, hTB⟩ : ∃ x, 440 + q * 64 = x := ⟨_, rfl⟩
  rw [hTB] at hR
  have PL := Lib.hid (fun (j : Nat) (h1 : 1 ≤ j) (h2 : j < 2 ^ 6) => plm k (i := TB + j) (by omega) (by omega))
  obtain ⟨⟨t, s1⟩, ht⟩ : ∃ x, treeAt outC TB 6 0 s = x := ⟨_, rfl⟩
  rw [ht] at hR
  have htl : t < 64 := by
    have := treeGo_lt outC TB 0 6 1 s
    have e : t = (treeGo outC TB 0 6 1 s).1 - 2 ^ 6 := by unfold treeAt at ht; exact (congrArg Prod.fst ht).symm
    omega
  dsimp only at hR
  have HT := Lib.hid ht
  have HRR := Lib.hid hR
  have AT := Lib.hid h
  have ATD := Lib.hid (h.later (DC.keep db rb) ((Frm.refl _ w).drew))
  clear h hR ht hmin hq hQ2
  go_enter Tryd.func26, Tryd.ntmps26
  go_upto_region 1 with fail
  go_cut [9] from 12 (fun v wx => v = .int .i64 t ∧ LzAt (DC db rb) (DO db rb) T wx k st rep s1 ∧ Frm (Wr (DO db rb) k) w wx)
  case first =>
    go_region_with (first
      | (go_at_call 42; refine (slot_zero _).mono ?_; rintro e w2 ⟨rfl, rfl⟩)
      | (go_at_call 41; refine (tree_num db rb T k st rep _ _ k.sb TB TB 6 _ _ _ _ _ ATD.out (by omega) rfl (by omega) (Nat.le_refl _) PL.out HT.out).mono ?_; rintro e w2 ⟨rfl, h2, f2⟩))
    all_goals
      have H2 := Lib.hid h2
      have F2 := Lib.hid (((Frm.refl _ w).drew).trans f2)
      clear h2 f2
      go_wp2
      go_meet
      case rel => exact ⟨rfl, H2.out, F2.out⟩
  case rest =>
    obtain ⟨rfl, h2, f2⟩ := hcut
    have H2 := Lib.hid h2
    have F2 := Lib.hid f2
    clear h2 f2 AT ATD
    by_cases ht4 : t < 4
    · have hR := HRR.out
      rw [if_pos ht4] at hR
      subst hR
      have htw : IntKind.u32.wrap (t : Int) = (t : Int) := Go.IntWalk.u32_in _ (by omega)
      clear HRR
      go_wp2
      go_ret
      exact ⟨rfl, H2.out, F2.out⟩
    · have hR := HRR.out
      rw [if_neg ht4] at hR
      clear HRR
      obtain ⟨K, P, bs, hK, hP, hbs, hPi, hK30, hb32, hbi⟩ := slot_nums (t := t) (by omega) htl
      rw [hK, hP, hbs] at hR
      obtain ⟨K1, hK1⟩ : ∃ K1, t / 2 = K1 := ⟨_, rfl⟩
      have hk1 : (t : Int) / 2 = (K1 : Int) := by omega
      have hk2 : (K1 : Int) - 1 = (K : Int) := by omega
      obtain ⟨b1, hb1⟩ : ∃ b1, t % 2 = b1 := ⟨_, rfl⟩
      have hand : bits .and .i64 (t : Int) 1 = (b1 : Int) := by
        have := and_i64 (a := t) (b := 1) (by omega) (by omega)
        rw [nat_mask1, hb1] at this
        exact this
      obtain ⟨c1, hc1⟩ : ∃ c1, 2 + b1 = c1 := ⟨_, rfl⟩
      have hc2 : (2 : Int) + (b1 : Int) = (c1 : Int) := by omega
      have hcb : (c1 : Int) * (P : Int) = (bs : Int) := by rw [← hbi, hb1, hc2]
      have hwc : IntKind.u32.wrap (c1 : Int) = (c1 : Int) := Go.IntWalk.u32_in _ (by omega)
      have hwb : IntKind.u32.wrap (bs : Int) = (bs : Int) := Go.IntWalk.u32_in _ (by omega)
      have hKu : IntKind.u64.wrap (K : Int) = (K : Int) := Go.IntWalk.u64_in _ (by omega)
      have hKm : min K 64 = K := by omega
      have hb1b : b1 ≤ 1 := by omega
      have hc1b : c1 ≤ 3 := by omega
      by_cases ht14 : t < 14
      · rw [if_pos ht14] at hR
        obtain ⟨l1, l2, l3⟩ := slot_low (by omega) ht14 hK hP hbs
        obtain ⟨off, hoff⟩ : ∃ off, bs - t = off := ⟨_, rfl⟩
        have hoi : (bs : Int) - (t : Int) = (off : Int) := by omega
        have hKp : 2 ^ K = P := hP
        have HRR := Lib.hid hR
        have HP := Lib.hid hP
        have hti : (t : Int) < 14 := by omega
        have hPp : 1 ≤ P := by rw [← hP]; exact Nat.one_le_two_pow
        have hsl := fun w => slice_places k.sb 696 off (by omega) w
        have hoff2 : 696 + bs - t = 696 + off := by omega
        rw [hoff2] at HRR
        obtain ⟨O, hO⟩ : ∃ O, 696 + off = O := ⟨_, rfl⟩
        rw [hO] at HRR hsl
        have PL2 := Lib.hid (fun (j : Nat) (h1 : 1 ≤ j) (h2 : j < 2 ^ K) => plm k (i := O + j) (by omega) (by rw [hP] at h2; omega))
        obtain ⟨⟨u, s2⟩, hu⟩ : ∃ x, backAt outC O K 0 s1 = x := ⟨_, rfl⟩
        have hul : u < P := by have := backAt_lt outC O K 0 s1; rw [hu, hP] at this; exact this
        have HU := Lib.hid hu
        have hlen : 2 ^ K ≤ 128 - off := by rw [hP]; omega
        have HLEN := Lib.hid hlen
        obtain ⟨N9, hN9⟩ : ∃ N9, 128 - off = N9 := ⟨_, rfl⟩
        rw [hN9] at hsl HLEN
        clear hR hbs hK hK1 hb1 hc1 hbi hP hKp hoff hoff2 hO hlen hu hN9
        go_wp2_with fail
        refine (back_num db rb T k st rep _ _ k.sb O O K _ _ _ _ _ H2.out (by omega) rfl HLEN.out (Nat.le_refl _) PL2.out HU.out).mono ?_; rintro e w4 ⟨rfl, h4, f4⟩
        have H4 := Lib.hid h4
        have F4 := Lib.hid (F2.out.trans f4)
        have hR := HRR.out
        rw [HU.out] at hR
        clear h4 f4 HRR
        go_wp2
        go_ret
        rw [← hR]
        refine ⟨ret_u32 ?_, H4.out, F4.out⟩
        show _ = ((bs + u : Nat) : Int)
        omega
      · rw [if_neg ht14] at hR
        obtain ⟨K4, hK4⟩ : ∃ K4, K - 4 = K4 := ⟨_, rfl⟩
        have hk4 : (K : Int) - 4 = (K4 : Int) := by omega
        rw [hK4] at hR
        obtain ⟨⟨v, d2⟩, hv⟩ : ∃ x, outC.dir s1.d 0 K4 = x := ⟨_, rfl⟩
        rw [hv] at hR
        dsimp only at hR
        obtain ⟨⟨u, s3⟩, hu⟩ : ∃ x, backAt outC 824 4 0 ⟨d2, s1.pr⟩ = x := ⟨_, rfl⟩
        rw [hu] at hR
        have hul : u < 16 := by have := backAt_lt outC 824 4 0 ⟨d2, s1.pr⟩; rw [hu] at this; exact this
        have PL2 := Lib.hid (fun (j : Nat) (h1 : 1 ≤ j) (h2 : j < 2 ^ 4) => plm k (i := 824 + j) (by omega) (by omega))
        have HRR := Lib.hid hR
        have HV := Lib.hid hv
        have HU := Lib.hid hu
        have hti : ¬ ((t : Int) < 14) := by omega
        have hmd := meth_dir (outV db)
        have hK32 : K4 ≤ 32 := by omega
        have h824 : 2 ^ 4 ≤ 16 := by omega
        clear hR hbs hK hK1 hb1 hc1 hbi hP hK4 hv hu
        go_wp2_with fail
        refine (lz_dir db rb T k st rep s1 _ _ K4 _ H2.out rfl hK32 v d2 HV.out).mono ?_; rintro e w3 ⟨rfl, h3, f3⟩
        have H3 := Lib.hid h3
        have F3 := Lib.hid (F2.out.trans f3)
        clear h3 f3
        go_wp2_with fail
        refine (back_num db rb T k st rep _ _ k.sb 824 824 4 _ _ _ _ _ H3.out (by omega) rfl h824 (Nat.le_refl _) PL2.out HU.out).mono ?_; rintro e w4 ⟨rfl, h4, f4⟩
        have H4 := Lib.hid h4
        have F4 := Lib.hid (F3.out.trans f4)
        have hR := HRR.out
        clear h4 f4 HRR
        go_wp2
        go_ret
        rw [← hR]
        refine ⟨ret_u32 ?_, H4.out, F4.out⟩
        show _ = (((bs + v * 16 + u) % 4294967296 : Nat) : Int)
        omega
end Go.Proofs.YtffehfpbdcokbaaDoor
