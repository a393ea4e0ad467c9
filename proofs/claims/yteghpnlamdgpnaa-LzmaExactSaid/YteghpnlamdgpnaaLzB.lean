/- Trees of chances: the walks, with the coder that takes bits out. -/
import Derived.Test.YteghpnlamdgpnaaLzA
import Derived.Test.YteghpnlamdgpnaaQTail
import Derived.Test.YteghpnlamdgpnaaNum
import Derived.Deep.RegionWith
namespace Go.Proofs.Yteghpnlamdgpnaa
open Go.RowKit Rng Lz
set_option linter.unusedVariables false
set_option linter.unusedSimpArgs false
theorem nil_out (v : Value) (w : World) : (nilAhead 253 65 v "Bit").run Try.prog w = .ok (some false) w := by kernel_rfl
theorem meth_bit (v : Value) (w : World) : (method 253 65 v "Bit").run Try.prog w = .ok (27, v) w := by kernel_rfl
theorem meth_dir (v : Value) (w : World) : (method 253 65 v "Direct").run Try.prog w = .ok (78, v) w := by kernel_rfl
/-- Where the decoder lies; behind its last byte rb may be db itself. -/
def DC (db rb : Nat) (w : World) (d : Dec) : Prop := DecAt w 90 db rb d ∨ (rb = db ∧ d.rest = [] ∧ ∃ r, DecAt w 90 db r d)
def DO (db rb : Nat) (q : Nat) : Prop := q = db ∨ q = rb
def outV (db : Nat) : Value := .agg #[.pointer (some ⟨db, 0, none⟩)]
theorem DC.pts {db rb : Nat} {w : World} {d : Dec} (h : DC db rb w d) : ∃ c, Pts w db c 90 := by
  rcases h with h | ⟨_, _, r, h⟩
  all_goals
    obtain ⟨⟨A, c, hp, _⟩, _, _⟩ := h
    exact ⟨_, hp⟩
theorem DC.dec {db rb : Nat} {w : World} {d : Dec} (h : DC db rb w d) : ∃ r, DecAt w 90 db r d ∧ ∀ (w' : World) (d' : Dec), (d.rest = [] → d'.rest = []) → DecAt w' 90 db r d' → DC db rb w' d' := by
  rcases h with h | ⟨rfl, h0, r, h⟩
  · exact ⟨rb, h, fun w' d' _ h' => .inl h'⟩
  · exact ⟨r, h, fun w' d' hr h' => .inr ⟨rfl, hr h0, r, h'⟩⟩
theorem DC.keep (db rb : Nat) : KeepOK (DC db rb) (DO db rb) := by
  intro N w w' s h hf hN
  rcases h with h | ⟨rfl, h0, r, h⟩
  · exact .inl (DecAt.frm h hf (hN db (.inl rfl)) (hN rb (.inr rfl)))
  · obtain ⟨⟨A, c, hp, hrow, ho, hc, hm⟩, hfit, hn⟩ := h
    refine .inr ⟨rfl, h0, r, ⟨A, c, hp.frm hf (hN rb (.inl rfl)), ?_, ho, hc, hm⟩, hfit, hn⟩
    rw [h0]
    exact BRow.nil _ _ _
theorem Dec.order_nil {d : Dec} (h : d.rest = []) : d.order.rest = [] := by
  unfold Dec.order
  split
  · exact h
  · rw [h]
theorem Dec.bit_nil {d : Dec} (c : Nat) (h : d.rest = []) : (d.bit c).2.rest = [] := by
  unfold Dec.bit
  simp only
  split <;> exact Dec.order_nil h
theorem Dec.one_nil {d : Dec} (h : d.rest = []) : d.one.2.rest = [] := by
  unfold Dec.one
  simp only
  split <;> exact Dec.order_nil h
theorem Dec.direct_nil : ∀ (n x : Nat) {d : Dec}, d.rest = [] → (d.direct n x).2.rest = []
  | 0, _, _, h => h
  | n + 1, x, d, h => Dec.direct_nil n _ (Dec.one_nil h)
theorem obit_any (db rb : Nat) : BitOK outC (DC db rb) (DO db rb) 27 (outV db) (fun _ _ => True) := by
  intro w s pb po pv xi x _ hd0 hc hfz ho hpv
  obtain ⟨r, hd, hback⟩ := hd0.dec
  have hlt := World.block_lt_of_cell? w ⟨pb, po, none⟩ hc
  have HD := Lib.hid hd
  have HO := Lib.hid ho
  have HC := Lib.hid hc
  have HF := Lib.hid hfz
  have HBK := Lib.hid hback
  clear hd ho hc hfz hback hd0
  unfold outV
  go_enter Try.func27, Try.ntmps27
  go_wp2_with fail
  obtain ⟨X, hX⟩ : ∃ X, Obj.cells #[.pointer (some ⟨db, 0, none⟩)] 65 = X := ⟨_, rfl⟩
  rw [hX]
  have hfr := (Frm.refl (fun _ => False) w).alloc X
  have hb := hfr.block pb hlt id
  refine (dbit_p db r pb po pv s (w.alloc X) (DecAt.frm HD.out hfr id id) (by rw [World.cell?_of_block hb]; exact HC.out) (by rw [World.frozen?_of_block hb]; exact HF.out) (fun e => HO.out (.inl e)) hpv).mono ?_
  rintro e w1 ⟨rfl, h1, h2⟩
  have H1 := Lib.hid h1
  have H2 := Lib.hid h2
  clear h1 h2 hX hfr hb
  go_wp2
  go_ret
  refine ⟨?_, HBK.out _ _ (fun h => Dec.bit_nil _ h) H1.out, (((Frm.refl (DO db rb) w).alloc X).setBoth HO.out hlt _).trans (H2.out.mono fun q _ hq => .inl hq)⟩
  show Ending.returned (.int .i64 (bitV _)) = _
  unfold bitV b2n outC
  simp only
  split <;> rfl
theorem ret_int' {k : IntKind} {a b : Int} (h : a = b) : Ending.returned (.int k a) = .returned (.int k b) := by rw [h]
theorem or_i64 {a b : Nat} (ha : a < 4611686018427387904) (hb : b < 4611686018427387904) : bits .or .i64 (a : Int) (b : Int) = ((a ||| b : Nat) : Int) := by
  have hx : a ||| b < 2 ^ 62 := Nat.or_lt_two_pow (by omega) (by omega)
  show IntKind.i64.wrap ((BitVec.ofInt 64 (a : Int) ||| BitVec.ofInt 64 (b : Int)).toNat : Int) = _
  rw [BitVec.toNat_or, ofInt_u64 a (by omega), ofInt_u64 b (by omega)]
  exact Go.IntWalk.i64_in _ (by omega)
theorem and_i64 {a b : Nat} (ha : a < 4611686018427387904) (hb : b < 4611686018427387904) : bits .and .i64 (a : Int) (b : Int) = ((a &&& b : Nat) : Int) := by
  have hx : a &&& b < 2 ^ 62 := Nat.and_lt_two_pow _ (by omega)
  show IntKind.i64.wrap ((BitVec.ofInt 64 (a : Int) &&& BitVec.ofInt 64 (b : Int)).toNat : Int) = _
  rw [BitVec.toNat_and, ofInt_u64 a (by omega), ofInt_u64 b (by omega)]
  exact Go.IntWalk.i64_in _ (by omega)
theorem or_bit {m b : Nat} (hm : m < 1000000) (hb : b ≤ 1) : bits .or .i64 ((m : Int) * 2) (b : Int) = ((2 * m + b : Nat) : Int) := by
  have h := or_i64 (a := m * 2) (b := b) (by omega) (by omega)
  have e : (m * 2) ||| b = 2 * m + b := by rw [nat_join1 _ _ (by omega) (by omega)]; omega
  rw [e] at h
  rw [← h]
  congr 1
set_option maxRecDepth 100000 in
set_option maxHeartbeats 1000000 in
theorem tree_p (db rb : Nat) (T : TypeId) (k : LK) (st : Nat) (rep : Nat → Nat) (s : CP Dec) (tb to base n len cap : Nat) (x : Int) (w : World) (h : LzAt (DC db rb) (DO db rb) T w k st rep s) (hn : n ≤ 8) (hlen : 2 ^ n ≤ len) (hlc : len ≤ cap)
    (hpl : ∀ j, 1 ≤ j → j < 2 ^ n → Place k (base + j) ∧ plA k (base + j) = (tb, to + j)) :
    Calls Try.prog 47 #[.slice (some ⟨tb, to, none⟩) len cap, .iface 65 (outV db), .int .i64 x, .int .i64 n] w fun e w' => e = .returned (.int .i64 ((treeAt outC base n 0 s).1 : Nat)) ∧
      LzAt (DC db rb) (DO db rb) T w' k st rep (treeAt outC base n 0 s).2 ∧ Frm (Wr (DO db rb) k) w w' := by
  obtain ⟨R, hR⟩ : ∃ R, treeGo outC base 0 n 1 s = R := ⟨_, rfl⟩
  unfold treeAt
  rw [hR]
  have HZ := Lib.hid h
  have HR := Lib.hid hR
  have HPL := Lib.hid hpl
  clear h hR hpl
  go_enter Try.func47, Try.ntmps47
  go_wp2
  go_loopw [9, 10] (fun mv iv wr => ∃ (r m : Nat) (i : Int) (s' : CP Dec), mv = .int .i64 m ∧ iv = .int .i64 i ∧ i = (r : Int) - 1 ∧ r ≤ n ∧ 2 ^ (n - r) ≤ m ∧ m < 2 ^ (n - r + 1) ∧ treeGo outC base 0 r m s' = R ∧ LzAt (DC db rb) (DO db rb) T wr k st rep s' ∧ Frm (Wr (DO db rb) k) w wr) (fun _ iv _ => (intOf iv + 1).toNat)
  case atStart => exact ⟨n, 1, (n : Int) - 1, s, rfl, by go_num, rfl, Nat.le_refl _, by simp, by simp, HR.out, HZ.out, Frm.refl _ _⟩
  case round =>
    obtain ⟨r, m, i, s', rfl, rfl, hi, hr, hm1, hm2, hgo, hat, hfr⟩ := hrel
    have GO := Lib.hid hgo
    have AT := Lib.hid hat
    have FR := Lib.hid hfr
    clear hgo hat hfr
    cases r with
    | zero =>
      obtain rfl : i = -1 := by omega
      clear hi
      have hn256 : 2 ^ n ≤ 2 ^ 8 := Nat.pow_le_pow_right (by omega) hn
      have hmn : 2 ^ n ≤ m := by simpa using hm1
      have hmm : m < 2 ^ n * 2 := by rw [← Nat.pow_succ]; simpa using hm2
      obtain ⟨N2, hN2⟩ : ∃ N2 : Nat, 2 ^ n = N2 := ⟨_, rfl⟩
      have hN3 : (2 : Int) ^ n = (N2 : Int) := by rw [← hN2]; simp
      rw [hN2] at hmn hmm hn256
      have GO2 : (m, s') = R := GO.out
      clear hm1 hm2
      go_wp2
      go_ret
      rw [hN2, ← GO2]
      refine ⟨ret_int' ?_, AT.out, FR.out⟩
      show (m : Int) - (N2 : Int) = ((m - N2 : Nat) : Int)
      omega
    | succ q =>
      obtain rfl : i = (q : Int) := by omega
      clear hi
      have hpow : m < 2 ^ n := Nat.lt_of_lt_of_le hm2 (Nat.pow_le_pow_right (by omega) (by omega))
      have hml : m < len := by omega
      have hm256 : 2 ^ n ≤ 2 ^ 8 := Nat.pow_le_pow_right (by omega) hn
      have hmb : m < 256 := by omega
      have hpos : 1 ≤ m := Nat.le_trans (Nat.one_le_two_pow) hm1
      have HP := Lib.hid (HPL.out m hpos hpow)
      have HM1 := Lib.hid hm1
      have HM2 := Lib.hid hm2
      clear hm1 hm2 hpow hm256 hlen
      go_wp2
      have hno := nil_out (outV db)
      have hme := meth_bit (outV db)
      have ATD := Lib.hid (AT.out.later (DC.keep db rb) ((Frm.refl _ wr).drew))
      have hbl := bitAt_le outC (base + m) 0 s'
      obtain ⟨bb, hbb⟩ : ∃ bb, (bitAt outC (base + m) 0 s').1 = bb := ⟨_, rfl⟩
      rw [hbb] at hbl
      have hob := or_bit (m := m) (b := bb) (by omega) hbl
      have HBB := Lib.hid hbb
      have hmw : IntKind.i64.wrap ((m : Int) * 2) = (m : Int) * 2 := Go.IntWalk.i64_in _ (by omega)
      clear hbb
      go_region_with (first
        | (go_at_call 27; refine (lz_bit (obit_any db rb) ATD.out (base + m) tb (to + m) 0 _ trivial HP.out.1 HP.out.2).mono ?_; rintro e w2 ⟨rfl, h2, f2⟩; rw [HBB.out]))
      have H2 := Lib.hid h2
      have F2 := Lib.hid ((FR.out.drew).trans f2)
      clear h2 f2
      go_wp2
      refine ⟨⟨q, 2 * m + bb, (q : Int) - 1, _, rfl, by go_num, rfl, by omega, ?_, ?_, ?_, H2.out, F2.out⟩, by simp [intOf]⟩
      · have := HM1.out
        rw [show n - q = n - (q + 1) + 1 by omega, Nat.pow_succ]; omega
      · have := HM2.out
        rw [show n - q + 1 = n - (q + 1) + 1 + 1 by omega, Nat.pow_succ]; omega
      · rw [← GO.out]
        show _ = treeGo outC base 0 q (2 * m + (bitAt outC (base + m) (0 / 2 ^ q % 2) s').1) (bitAt outC (base + m) (0 / 2 ^ q % 2) s').2
        rw [Nat.zero_div, Nat.zero_mod, HBB.out]
end Go.Proofs.Yteghpnlamdgpnaa
