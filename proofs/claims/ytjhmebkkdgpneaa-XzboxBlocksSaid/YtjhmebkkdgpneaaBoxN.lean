/- Numbers of an xz file: the walks. -/
import Derived.Test.YtjhmebkkdgpneaaBoxA
import Derived.Test.YtjhmebkkdgpneaaBoxP
namespace Go.Proofs.Ytjhmebkkdgpneaa
open Go.RowKit Box
set_option linter.unusedVariables false
set_option linter.unusedSimpArgs false
def errOf (t : Nat × Nat × Int) : Value := .tuple #[.int .u64 (t.1 : Int), .int .i64 (t.2.1 : Int), .int .i64 t.2.2]
theorem or_num {n X i : Nat} (hn : n < 2 ^ (7 * i)) (hX : X < 128) (hi : i ≤ 8) : bits .or .u64 (n : Int) (IntKind.u64.wrap ((X : Int) * 2 ^ (7 * i))) = ((n + X * 2 ^ (7 * i) : Nat) : Int) := by
  have hp : 2 ^ (7 * i) ≤ 2 ^ 56 := Nat.pow_le_pow_right (by decide) (by omega)
  have h56 : (2 : Nat) ^ 56 = 72057594037927936 := by decide
  have hm : X * 2 ^ (7 * i) ≤ 127 * 2 ^ (7 * i) := Nat.mul_le_mul_right _ (by omega)
  have e0 : (X : Int) * 2 ^ (7 * i) = ((X * 2 ^ (7 * i) : Nat) : Int) := by simp
  rw [e0, Go.IntWalk.u64_in _ (by omega)]
  have h1 := Num.or64 (a := n) (b := X * 2 ^ (7 * i)) (by unfold Num.M64; omega) (by unfold Num.M64; omega)
  rw [h1]
  have h3 := Nat.shiftLeft_add_eq_or_of_lt (a := X) (b := n) (i := 7 * i) hn
  rw [Nat.shiftLeft_eq] at h3
  rw [Nat.or_comm, ← h3, Nat.add_comm]
theorem and_num {X : Nat} (h : X < 256) : bits .and .u8 (X : Int) 127 = ((X % 128 : Nat) : Int) := by
  have h1 : bits .and .u8 (X : Int) ((127 : Nat) : Int) = ((X &&& 127 : Nat) : Int) := u8_and_nat X 127 h (by decide)
  rw [show (127 : Nat) = 2 ^ 7 - 1 by rfl, Nat.and_two_pow_sub_one_eq_mod] at h1
  exact h1
set_option maxRecDepth 100000 in
set_option maxHeartbeats 2000000 in
theorem number_p (A : Option Addr) (bs : List UInt8) (n c B : Nat) (w : World) (hn : n = bs.length) (hr : BRow w B A bs) (hlen : bs.length ≤ maxLen) :
    Calls Try.prog 13 #[.slice A n c] w fun e w' => e = .returned (errOf (number bs)) ∧ w = w' := by
  subst hn
  have HR := Lib.hid hr
  obtain ⟨R, hR⟩ : ∃ R, number bs = R := ⟨_, rfl⟩
  rw [hR]
  have HN := Lib.hid hR
  clear hr hR
  go_enter Try.func13, Try.ntmps13
  go_wp2
  go_loopw [2, 9] (fun nv iv wr => w = wr ∧ ∃ (i n : Nat), iv = .int .i64 i ∧ nv = .int .u64 n ∧ i ≤ bs.length ∧ i ≤ 8 ∧ n < 2 ^ (7 * i) ∧ scan i n (bs.drop i) = R) (fun _ iv _ => bs.length - (intOf iv).toNat)
  case atStart => exact ⟨rfl, 0, 0, rfl, rfl, by omega, by omega, by decide, HN.out⟩
  case round =>
    obtain ⟨rfl, i, n, rfl, rfl, hi, hi8, hnp, hsc⟩ := hrel
    by_cases hlt : i < bs.length
    · obtain ⟨b0, off, rfl, hb0, hcell⟩ := HR.out (by omega)
      have hc := hcell i hlt
      rw [List.drop_eq_getElem_cons hlt] at hsc
      have hg : bs.getD i 0 = bs[i] := by simp [List.getD, List.getElem?_eq_getElem hlt]
      rw [hg] at hc
      obtain ⟨x, hx⟩ : ∃ x, bs[i] = x := ⟨_, rfl⟩
      rw [hx] at hsc hc
      have hxl := x.toNat_lt
      clear hg hx hcell
      unfold scan at hsc
      unfold byteV at hc
      obtain ⟨X, hX⟩ : ∃ X, x.toNat = X := ⟨_, rfl⟩
      rw [hX] at hsc hc hxl
      clear hX
      by_cases h1 : (i = 8 ∧ 128 ≤ X) ∨ (0 < i ∧ X = 0)
      · rw [if_pos h1] at hsc
        subst hsc
        go_wp2
        all_goals
          refine bodyPost_ret (results_tmp3 rfl _ _ _) rfl ?_
          exact ⟨rfl, rfl⟩
      · rw [if_neg h1] at hsc
        have h10 : ¬ (i = 8 ∧ 128 ≤ X) := fun h => h1 (.inl h)
        have h11 : ¬ (0 < i ∧ X = 0) := fun h => h1 (.inr h)
        clear h1
        by_cases h2 : X < 128
        · rw [if_pos h2] at hsc
          have hor := or_num hnp h2 hi8
          by_cases h8 : i = 8
          · subst h8
            have hx0 : 0 < X := by omega
            have e0 : IntKind.u64.wrap ((X : Int) * 2 ^ (7 * 8)) = (X : Int) * 72057594037927936 := Go.IntWalk.u64_in _ (by omega)
            rw [e0] at hor
            clear h10 h11 hnp
            go_wp2
            refine bodyPost_ret (results_tmp3 rfl _ _ _) rfl ?_
            rw [← hsc]
            exact ⟨rfl, rfl⟩
          · have h8' : ((i : Int) == 8) = false := by simp; omega
            clear h10
            by_cases hi0 : i = 0
            · subst hi0
              have hc0 : w.cell? ⟨b0, off, none⟩ = some (.int .u8 (X : Int)) := hc
              clear h11
              have e1 : X * 2 ^ (7 * 0) = X := by simp
              have e2 : IntKind.u64.wrap ((X : Int) * 2 ^ (7 * 0)) = (X : Int) := by rw [show ((X : Int) * 2 ^ (7 * 0)) = (X : Int) by simp]; exact Go.IntWalk.u64_in _ (by omega)
              rw [e2, e1] at hor
              rw [e1] at hsc
              go_wp2
              refine bodyPost_ret (results_tmp3 rfl _ _ _) rfl ?_
              rw [← hsc]
              exact ⟨rfl, rfl⟩
            · have hx0 : 0 < X := by omega
              clear h11
              go_wp2
              refine bodyPost_ret (results_tmp3 rfl _ _ _) rfl ?_
              rw [← hsc]
              exact ⟨rfl, rfl⟩
        · rw [if_neg h2] at hsc
          have hi7 : i < 8 := by omega
          have ha := and_num hxl
          obtain ⟨Y, hY⟩ : ∃ Y, X % 128 = Y := ⟨_, rfl⟩
          rw [hY] at ha hsc
          have hY2 : Y < 128 := by omega
          have hor := or_num hnp hY2 hi8
          have hwY : IntKind.u64.wrap (Y : Int) = Y := Go.IntWalk.u64_in _ (by omega)
          have h8' : ((i : Int) == 8) = false := by simp; omega
          have hx0 : ((X : Int) == 0) = false := by simp; omega
          have hnp2 : n + Y * 2 ^ (7 * i) < 2 ^ (7 * (i + 1)) := by
            rw [pow_step]
            have hm : Y * 2 ^ (7 * i) ≤ 127 * 2 ^ (7 * i) := Nat.mul_le_mul_right _ (by omega)
            omega
          have HSC := Lib.hid hsc
          clear h10 h11 hsc hY
          go_wp2
          all_goals
            exact ⟨⟨trivial, i + 1, _, by go_num, rfl, by omega, by omega, hnp2, HSC.out⟩, by simp [intOf]; omega⟩
    · obtain rfl : i = bs.length := by omega
      rw [List.drop_length] at hsc
      subst hsc
      go_wp2
      refine bodyPost_ret (results_tmp3 rfl _ _ _) rfl ?_
      exact ⟨rfl, rfl⟩
end Go.Proofs.Ytjhmebkkdgpneaa
