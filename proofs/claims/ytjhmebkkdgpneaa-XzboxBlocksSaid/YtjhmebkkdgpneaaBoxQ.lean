/- Numbers of an xz file: the document's walk; writing. -/
import Derived.Test.YtjhmebkkdgpneaaBoxN
namespace Go.Proofs.Ytjhmebkkdgpneaa
open Go.RowKit Box
set_option linter.unusedVariables false
set_option linter.unusedSimpArgs false
set_option maxRecDepth 100000 in
set_option maxHeartbeats 2000000 in
theorem rnumber_p (A : Option Addr) (bs : List UInt8) (n c B : Nat) (w : World) (hn : n = bs.length) (hr : BRow w B A bs) (hlen : bs.length ≤ maxLen) :
    Calls Try.prog 14 #[.slice A n c] w fun e w' => e = .returned (errOf (number bs)) ∧ w = w' := by
  subst hn
  have HR := Lib.hid hr
  obtain ⟨R, hR⟩ : ∃ R, number bs = R := ⟨_, rfl⟩
  rw [hR]
  have HN := Lib.hid hR
  clear hr hR
  go_enter Try.func14, Try.ntmps14
  go_wp2
  go_loopw [2, 5] (fun nv iv wr => w = wr ∧ ∃ (i n : Nat), iv = .int .i64 i ∧ nv = .int .u64 n ∧ i ≤ bs.length ∧ i ≤ 8 ∧ n < 2 ^ (7 * i) ∧ scan i n (bs.drop i) = R) (fun _ iv _ => bs.length - (intOf iv).toNat)
  case atStart => exact ⟨rfl, 0, 0, rfl, rfl, by omega, by omega, by decide, HN.out⟩
  case round =>
    obtain ⟨rfl, i, n, rfl, rfl, hi, hi8, hnp, hsc⟩ := hrel
    by_cases hlt : i < bs.length
    · obtain ⟨b0, off, rfl, hb0, hcell⟩ := HR.out (by omega)
      have hc := hcell i hlt
      rw [List.drop_eq_getElem_cons hlt] at hsc
      have hg : bs.getD i 0 = bs[i] := by simp [List.getD, List.getElem?_eq_getElem hlt]
      rw [hg] at hc
      obtain ⟨x, hx⟩ : ∃ x, bs[i] = x := ⟨_, rfl⟩
      rw [hx] at hsc hc
      have hxl := x.toNat_lt
      clear hg hx hcell
      unfold scan at hsc
      unfold byteV at hc
      obtain ⟨X, hX⟩ : ∃ X, x.toNat = X := ⟨_, rfl⟩
      rw [hX] at hsc hc hxl
      clear hX
      have ha := and_num hxl
      by_cases h1 : (i = 8 ∧ 128 ≤ X) ∨ (0 < i ∧ X = 0)
      · rw [if_pos h1] at hsc
        subst hsc
        rcases h1 with ⟨rfl, h128⟩ | ⟨h0i, rfl⟩
        all_goals
          try have hd1 : decide (128 ≤ (X : Int)) = true := by simp; omega
          go_wp2
          all_goals
            refine bodyPost_ret (results_tmp3 rfl _ _ _) rfl ?_
            exact ⟨rfl, rfl⟩
      · rw [if_neg h1] at hsc
        have h10 : ¬ (i = 8 ∧ 128 ≤ X) := fun h => h1 (.inl h)
        have h11 : ¬ (0 < i ∧ X = 0) := fun h => h1 (.inr h)
        clear h1
        by_cases h2 : X < 128
        · rw [if_pos h2] at hsc
          rw [Nat.mod_eq_of_lt h2] at ha
          have hmm : (X : Int) % 128 = (X : Int) := by omega
          have hor := or_num hnp h2 hi8
          by_cases h8 : i = 8
          · subst h8
            have hx0 : 0 < X := by omega
            have e0 : IntKind.u64.wrap ((X : Int) * 2 ^ (7 * 8)) = (X : Int) * 72057594037927936 := Go.IntWalk.u64_in _ (by omega)
            rw [e0] at hor
            have hd1 : decide (128 ≤ (X : Int)) = false := by simp; omega
            have hd2 : ((X : Int) == 0) = false := by simp; omega
            clear h10 h11 hnp
            go_wp2
            refine bodyPost_ret (results_tmp3 rfl _ _ _) rfl ?_
            rw [← hsc]
            exact ⟨rfl, rfl⟩
          · have h8' : ((i : Int) == 8) = false := by simp; omega
            clear h10
            by_cases hi0 : i = 0
            · subst hi0
              have hc0 : w.cell? ⟨b0, off, none⟩ = some (.int .u8 (X : Int)) := hc
              clear h11
              have e1 : X * 2 ^ (7 * 0) = X := by simp
              have e2 : IntKind.u64.wrap ((X : Int) * 2 ^ (7 * 0)) = (X : Int) := by rw [show ((X : Int) * 2 ^ (7 * 0)) = (X : Int) by simp]; exact Go.IntWalk.u64_in _ (by omega)
              rw [e2, e1] at hor
              rw [e1] at hsc
              go_wp2
              refine bodyPost_ret (results_tmp3 rfl _ _ _) rfl ?_
              rw [← hsc]
              exact ⟨rfl, rfl⟩
            · have hx0 : 0 < X := by omega
              clear h11
              go_wp2
              refine bodyPost_ret (results_tmp3 rfl _ _ _) rfl ?_
              rw [← hsc]
              exact ⟨rfl, rfl⟩
        · rw [if_neg h2] at hsc
          have hi7 : i < 8 := by omega
          obtain ⟨Y, hY⟩ : ∃ Y, X % 128 = Y := ⟨_, rfl⟩
          rw [hY] at ha hsc
          have hY2 : Y < 128 := by omega
          have hmm : (X : Int) % 128 = (Y : Int) := by omega
          have hor := or_num hnp hY2 hi8
          have hwY : IntKind.u64.wrap (Y : Int) = Y := Go.IntWalk.u64_in _ (by omega)
          have h8' : ((i : Int) == 8) = false := by simp; omega
          have hx0 : ((X : Int) == 0) = false := by simp; omega
          have hnp2 : n + Y * 2 ^ (7 * i) < 2 ^ (7 * (i + 1)) := by
            rw [pow_step]
            have hm : Y * 2 ^ (7 * i) ≤ 127 * 2 ^ (7 * i) := Nat.mul_le_mul_right _ (by omega)
            omega
          have HSC := Lib.hid hsc
          clear h10 h11 hsc hY
          go_wp2
          all_goals
            exact ⟨⟨trivial, i + 1, _, by go_num, rfl, by omega, by omega, hnp2, HSC.out⟩, by simp [intOf]; omega⟩
    · obtain rfl : i = bs.length := by omega
      rw [List.drop_length] at hsc
      subst hsc
      go_wp2
      refine bodyPost_ret (results_tmp3 rfl _ _ _) rfl ?_
      exact ⟨rfl, rfl⟩
end Go.Proofs.Ytjhmebkkdgpneaa
