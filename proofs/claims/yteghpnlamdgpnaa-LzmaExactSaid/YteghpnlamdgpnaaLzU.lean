/- An operation that is read: plain, and the walk's beginning. -/
import Derived.Test.YteghpnlamdgpnaaLzT
namespace Go.Proofs.Yteghpnlamdgpnaa
open Go.RowKit Rng Lz Win
set_option linter.unusedVariables false
set_option linter.unusedSimpArgs false
/-- An operation behind the first bit (1): its length, the state, the distances, what is then. -/
def opOf {σ : Type} (co : Cod σ) (st p : Nat) (rep : Nat → Nat) (s : CP σ) : Nat × Nat × (Nat → Nat) × CP σ :=
  let b := bitAt co (200 + st) 0 s
  if b.1 = 1 then repOf co st p rep b.2
  else
    let l := lenAt co 840 2 p b.2
    let d := distAt co 0 l.1 l.2
    (l.1, behS st 1, (fun j => if j = 0 then d.1 else shiftN rep 3 j), d.2)
theorem lenAt_lt {σ : Type} (co : Cod σ) (base n p : Nat) (s : CP σ) : 2 ≤ (lenAt co base n p s).1 ∧ (lenAt co base n p s).1 ≤ 300 := by
  unfold lenAt
  simp only
  split
  · have := treeAt_lt co (base + 2 + p * 8) 3 (n - 2) (bitAt co base (b2n (decide (10 ≤ n))) s).2 (by omega)
    simp only; omega
  · split
    · have := treeAt_lt co (base + 130 + p * 8) 3 (n - 10) (bitAt co (base + 1) (b2n (decide (18 ≤ n))) (bitAt co base (b2n (decide (10 ≤ n))) s).2).2 (by omega)
      simp only; omega
    · have := treeAt_lt co (base + 258) 8 (n - 18) (bitAt co (base + 1) (b2n (decide (18 ≤ n))) (bitAt co base (b2n (decide (10 ≤ n))) s).2).2 (by omega)
      simp only; omega
set_option maxRecDepth 100000 in
set_option maxHeartbeats 2000000 in
theorem step_lit (Z : Nat → Prop) (w0 w : World) (k : LK) (g : RB) (total st : Nat) (room : Int) (rep : Nat → Nat) (s sa : CP Dec) (C told : List UInt8) (wv tv : Value) (h : RdAt Z w0 w k g (total : Int) st rep s C told wv tv)
    (hk : k.Ok) (ht : total < 4611686018427387904) (hst : st < 12) (hrep : rep 0 < 4294967296) (hS : g.S ≤ 16777216) (hlen : told.length ≤ 100000000) (p : Nat) (hp : total % 2 ^ k.pb = p) (ha : bitAt outC (8 + st * 16 + p) 0 s = (0, sa)) :
    Calls Try.prog 16 #[.pointer (some ⟨g.xb, 0, none⟩), .int .i64 room] w fun e w' => e = .returned (.tuple #[]) ∧ ∃ wv' tv', RdAt Z w0 w' k g (total : Int) (behS st 0) rep (litOf outC k st total rep C sa).2 (lastN g.S (C ++ [UInt8.ofNat (litOf outC k st total rep C sa).1])) (told ++ [UInt8.ofNat (litOf outC k st total rep C sa).1]) wv' tv' := by
  have hp16 : p < 16 := by
    have h1 : 2 ^ k.pb ≤ 2 ^ 4 := Nat.pow_le_pow_right (by omega) hk.b
    have h2 : total % 2 ^ k.pb < 2 ^ k.pb := Nat.mod_lt _ (Nat.lt_of_lt_of_le (by omega) (Nat.one_le_two_pow))
    omega
  have HA := Lib.hid ha
  have HH := Lib.hid h
  have HK := Lib.hid hk
  have HPL := Lib.hid (place_any 57 k st total rep s w h.lz hk ht)
  rw [hp] at HPL
  obtain ⟨d0, d1, d2, dt, -, -⟩ := h.cells
  have d3 := h.st3
  have HD := Lib.hid h.drew
  have P0 := Lib.hid (plm k (i := 8 + st * 16 + p) (by omega) (by omega))
  have hsti : (st : Int) < 12 := by omega
  have hpi : (p : Int) < 16 := by omega
  clear h ha hk hp
  go_enter Try.func16, Try.ntmps16
  go_wp2_with fail
  refine HPL.out.mono ?_; rintro e w1 ⟨rfl, rfl⟩
  go_upto_region 2 with fail
  go_cut [36] from 9 (fun v wx => v = .bool true ∧ RdAt Z w0 wx k g (total : Int) st rep sa C told wv tv)
  case first =>
    go_region_with (first
      | (go_at_call 27; refine (lz_bit (obit_any g.db g.rb) HD.out.lz (8 + st * 16 + p) k.sb (8 + st * 16 + p) 0 _ trivial P0.out.1 P0.out.2).mono ?_; rintro e w2 ⟨rfl, h2, f2⟩; rw [HA.out] at h2 ⊢))
    all_goals
      have H2 := Lib.hid (HD.out.lzStep h2 f2)
      clear h2 f2
      go_wp2
      go_meet
      case rel => exact ⟨by simp, H2.out⟩
  case rest =>
    obtain ⟨rfl, h2⟩ := hcut
    have H2 := Lib.hid h2
    clear h2 d0 d1 d2 d3 dt HD HH
    go_wp2_with fail
    refine (literal_p Z w0 _ k g total st rep sa C told wv tv H2.out HK.out ht hst hrep hS hlen).mono ?_; rintro e w3 ⟨rfl, h3⟩
    have H3 := Lib.hid h3
    clear h3
    go_wp2
    first | go_end0 | (refine bodyPost_ret (results_none rfl _ _ _) rfl ?_)
    exact ⟨rfl, H3.out⟩
end Go.Proofs.Yteghpnlamdgpnaa
