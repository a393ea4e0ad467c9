/- Trees backwards: the walk. -/
import Derived.Test.YteghpnlamdgpnaaLzB
namespace Go.Proofs.Yteghpnlamdgpnaa
open Go.RowKit Rng Lz
set_option linter.unusedVariables false
set_option linter.unusedSimpArgs false
theorem or_hi {o b c C2 : Nat} (hC : 2 ^ c = C2) (ho : o < C2) (hc : C2 ≤ 256) (hb : b ≤ 1) : bits .or .i64 (o : Int) (wrap64 ((b : Int) * (C2 : Int))) = ((o + b * C2 : Nat) : Int) := by
  have hy : b * C2 ≤ 256 := by
    have h : b = 0 ∨ b = 1 := by omega
    rcases h with rfl | rfl <;> omega
  have e1 : wrap64 ((b : Int) * (C2 : Int)) = ((b * C2 : Nat) : Int) := by
    have e : (b : Int) * (C2 : Int) = ((b * C2 : Nat) : Int) := by simp
    rw [e]
    unfold wrap64
    omega
  rw [e1, or_i64 (by omega) (by omega), Nat.or_comm]
  have h3 := Nat.shiftLeft_add_eq_or_of_lt (a := b) (b := o) (i := c) (by rw [hC]; exact ho)
  rw [Nat.shiftLeft_eq, hC] at h3
  rw [← h3, Nat.add_comm]
set_option maxRecDepth 100000 in
set_option maxHeartbeats 1000000 in
theorem back_p (db rb : Nat) (T : TypeId) (k : LK) (st : Nat) (rep : Nat → Nat) (s : CP Dec) (tb to base n len cap : Nat) (x : Int) (w : World) (h : LzAt (DC db rb) (DO db rb) T w k st rep s) (hn : n ≤ 8) (hlen : 2 ^ n ≤ len) (hlc : len ≤ cap)
    (hpl : ∀ j, 1 ≤ j → j < 2 ^ n → Place k (base + j) ∧ plA k (base + j) = (tb, to + j)) :
    Calls Try.prog 49 #[.slice (some ⟨tb, to, none⟩) len cap, .iface 65 (outV db), .int .i64 x, .int .i64 n] w fun e w' => e = .returned (.int .i64 ((backAt outC base n 0 s).1 : Nat)) ∧
      LzAt (DC db rb) (DO db rb) T w' k st rep (backAt outC base n 0 s).2 ∧ Frm (Wr (DO db rb) k) w w' := by
  obtain ⟨R, hR⟩ : ∃ R, backGo outC base 0 n n 1 0 s = R := ⟨_, rfl⟩
  unfold backAt
  rw [hR]
  have HZ := Lib.hid h
  have HR := Lib.hid hR
  have HPL := Lib.hid hpl
  clear h hR hpl
  go_enter Try.func49, Try.ntmps49
  go_wp2
  go_loopw [8, 9, 13] (fun ov mv cv wr => ∃ (r m o c : Nat) (s' : CP Dec), ov = .int .i64 o ∧ mv = .int .i64 m ∧ cv = .int .i64 c ∧ c + r = n ∧ 2 ^ c ≤ m ∧ m < 2 ^ (c + 1) ∧ o < 2 ^ c ∧ backGo outC base 0 n r m o s' = R ∧ LzAt (DC db rb) (DO db rb) T wr k st rep s' ∧ Frm (Wr (DO db rb) k) w wr) (fun _ _ cv _ => n - (intOf cv).toNat)
  case atStart => exact ⟨n, 1, 0, 0, s, rfl, rfl, rfl, by omega, by simp, by simp, by simp, HR.out, HZ.out, Frm.refl _ _⟩
  case round =>
    obtain ⟨r, m, o, c, s', rfl, rfl, rfl, hcr, hm1, hm2, ho, hgo, hat, hfr⟩ := hrel
    have GO := Lib.hid hgo
    have AT := Lib.hid hat
    have FR := Lib.hid hfr
    clear hgo hat hfr
    cases r with
    | zero =>
      obtain rfl : c = n := by omega
      have GO2 : (o, s') = R := GO.out
      clear hcr hm1 hm2 ho
      go_wp2
      go_ret
      rw [← GO2]
      exact ⟨rfl, AT.out, FR.out⟩
    | succ q =>
      have hcn : c < n := by omega
      have hpow : m < 2 ^ n := Nat.lt_of_lt_of_le hm2 (Nat.pow_le_pow_right (by omega) (by omega))
      have hml : m < len := by omega
      have hm256 : 2 ^ n ≤ 2 ^ 8 := Nat.pow_le_pow_right (by omega) hn
      have hmb : m < 256 := by omega
      have hpos : 1 ≤ m := Nat.le_trans (Nat.one_le_two_pow) hm1
      have hob : o < 256 := by have : 2 ^ c ≤ 2 ^ n := Nat.pow_le_pow_right (by omega) (by omega); omega
      have HP := Lib.hid (HPL.out m hpos hpow)
      have HM1 := Lib.hid hm1
      have HM2 := Lib.hid hm2
      have HO := Lib.hid ho
      have hc2 : 2 ^ c ≤ 2 ^ 8 := Nat.pow_le_pow_right (by omega) (by omega)
      obtain ⟨C2, hC2⟩ : ∃ C2 : Nat, 2 ^ c = C2 := ⟨_, rfl⟩
      have hC3 : (2 : Int) ^ c = (C2 : Int) := by rw [← hC2]; simp
      have HC2 := Lib.hid hC2
      rw [hC2] at hc2
      have hno := nil_out (outV db)
      have hme := meth_bit (outV db)
      have ATD := Lib.hid (AT.out.later (DC.keep db rb) ((Frm.refl _ wr).drew))
      have hbl := bitAt_le outC (base + m) 0 s'
      obtain ⟨bb, hbb⟩ : ∃ bb, (bitAt outC (base + m) 0 s').1 = bb := ⟨_, rfl⟩
      rw [hbb] at hbl
      have hob := or_bit (m := m) (b := bb) (by omega) hbl
      have HBB := Lib.hid hbb
      have hmw : IntKind.i64.wrap ((m : Int) * 2) = (m : Int) * 2 := Go.IntWalk.i64_in _ (by omega)
      clear hm1 hm2 hpow hm256 hlen ho hbb hC2
      go_wp2
      go_region_with (first
        | (go_at_call 27; refine (lz_bit (obit_any db rb) ATD.out (base + m) tb (to + m) 0 _ trivial HP.out.1 HP.out.2).mono ?_; rintro e w2 ⟨rfl, h2, f2⟩; rw [HBB.out]))
      have H2 := Lib.hid h2
      have F2 := Lib.hid ((FR.out.drew).trans f2)
      clear h2 f2
      go_wp2
      have ho9 := HO.out
      rw [HC2.out] at ho9
      have hv := or_hi HC2.out ho9 hc2 hbl
      refine ⟨⟨q, 2 * m + bb, o + bb * C2, c + 1, _, by rw [hv], by go_num, by go_num, by omega, ?_, ?_, ?_, ?_, H2.out, F2.out⟩, by simp [intOf]; omega⟩
      · have := HM1.out
        rw [Nat.pow_succ]; omega
      · have := HM2.out
        rw [Nat.pow_succ]; omega
      · have h1 : bb * C2 ≤ C2 := by
          have h : bb = 0 ∨ bb = 1 := by omega
          rcases h with rfl | rfl <;> omega
        rw [Nat.pow_succ, HC2.out]; omega
      · rw [← GO.out]
        have e : n - (q + 1) = c := by omega
        show _ = backGo outC base 0 n q (2 * m + (bitAt outC (base + m) (0 / 2 ^ (n - (q + 1)) % 2) s').1) (o + (bitAt outC (base + m) (0 / 2 ^ (n - (q + 1)) % 2) s').1 * 2 ^ (n - (q + 1))) (bitAt outC (base + m) (0 / 2 ^ (n - (q + 1)) % 2) s').2
        rw [Nat.zero_div, Nat.zero_mod, HBB.out, e, HC2.out]
end Go.Proofs.Yteghpnlamdgpnaa
