/- Bits that are all alike, in plain Lean. -/
import Derived.Test.YtcnjbdaopphleaaRngQ
import Derived.Test.YtcnjbdaopphleaaRngS
namespace Go.Proofs.Ytcnjbdaopphleaa.Rng
open Go.RowKit
set_option linter.unusedVariables false
set_option linter.unusedSimpArgs false
structure SS where
  s : Nat
  p : Nat
  c : Nat
def cutS (one : Bool) (s c : Nat) : Nat := if one then s - s / 2048 * c else s / 2048 * c
def sstep (one : Bool) (x : SS) : SS :=
  if cutS one x.s (fair x.p) < 16777216 then ⟨cutS one x.s (fair x.p) * 256, learn (fair x.p) one, x.c + 1⟩ else ⟨cutS one x.s (fair x.p), learn (fair x.p) one, x.c⟩
def srun (one : Bool) : Nat → SS
  | 0 => ⟨4294967295, 1024, 0⟩
  | n + 1 => sstep one (srun one n)
def endP (one : Bool) : Nat := if one then 31 else 2017
set_option maxRecDepth 100000 in
theorem srun150 (one : Bool) : (srun one 150).p = endP one ∧ (srun one 150).c = 3 ∧ 33554432 ≤ (srun one 150).s := by
  cases one
  · have h : srun false 150 = ⟨242562403, 2017, 3⟩ := by rfl
    rw [h]; exact ⟨rfl, rfl, by decide⟩
  · have h : srun true 150 = ⟨242891509, 31, 3⟩ := by rfl
    rw [h]; exact ⟨rfl, rfl, by decide⟩
theorem end_fair (one : Bool) : fair (endP one) = endP one := by cases one <;> rfl
theorem end_learn (one : Bool) : learn (endP one) one = endP one := by cases one <;> rfl
theorem srun_mono (one : Bool) : ∀ n, (srun one n).c ≤ (srun one (n + 1)).c := by
  intro n
  show _ ≤ (sstep one (srun one n)).c
  unfold sstep
  split
  · exact Nat.le_succ _
  · exact Nat.le_refl _
theorem cut_low (one : Bool) {s T : Nat} (hT : T ≤ 16777216) (h : 16777216 + T ≤ s) : 16777216 + T ≤ cutS one s (endP one) + 524288 := by
  unfold cutS endP
  have hd := Nat.div_add_mod s 2048
  have hm := Nat.mod_lt s (show 2048 > 0 by decide)
  generalize s / 2048 = q at *
  generalize s % 2048 = r at *
  cases one
  · simp only [Bool.false_eq_true, if_false]; omega
  · simp only [if_true]; omega
theorem srun_inv (one : Bool) : ∀ n, ∃ j, j ≤ 32 ∧ (srun one (150 + n)).p = endP one ∧ 16777216 + 524288 * j ≤ (srun one (150 + n)).s ∧ 32 * (srun one (150 + n)).c + 32 ≤ n + 96 + j
  | 0 => by
    obtain ⟨h1, h2, h3⟩ := srun150 one
    exact ⟨32, Nat.le_refl _, h1, by omega, by rw [h2]; omega⟩
  | n + 1 => by
    obtain ⟨j, hj, hp, hs, hc⟩ := srun_inv one n
    have hT : 524288 * j ≤ 16777216 := by
      have := Nat.mul_le_mul_left 524288 hj
      exact this
    have hl := cut_low one hT hs
    have e : srun one (150 + (n + 1)) = sstep one (srun one (150 + n)) := rfl
    rw [e]
    unfold sstep
    rw [hp, end_fair, end_learn]
    generalize (srun one (150 + n)).s = s at *
    generalize (srun one (150 + n)).c = c at *
    generalize cutS one s (endP one) = z at *
    by_cases h : z < 16777216
    · rw [if_pos h]
      have hj0 : j = 0 := by
        rcases Nat.eq_zero_or_pos j with h0 | h0
        · exact h0
        · have h2 : 524288 * 1 ≤ 524288 * j := Nat.mul_le_mul_left 524288 h0
          generalize 524288 * j = T at *
          omega
      subst hj0
      have hz : 16777216 ≤ z + 524288 := by simpa using hl
      refine ⟨32, Nat.le_refl _, rfl, ?_, ?_⟩
      · show 16777216 + 524288 * 32 ≤ z * 256; omega
      · show 32 * (c + 1) + 32 ≤ n + 1 + 96 + 32; omega
    · rw [if_neg h]
      refine ⟨j - 1, by omega, rfl, ?_, ?_⟩
      · show 16777216 + 524288 * (j - 1) ≤ z
        rcases Nat.eq_zero_or_pos j with h0 | h0
        · subst h0; show 16777216 + 0 ≤ z; omega
        · have h2 : 524288 * j = 524288 * (j - 1) + 524288 := by rw [← Nat.mul_succ]; congr 1; omega
          rw [h2] at hl
          generalize 524288 * (j - 1) = T at *
          omega
      · show 32 * c + 32 ≤ n + 1 + 96 + (j - 1); omega
theorem srun_le (one : Bool) (n : Nat) : (srun one n).c ≤ n / 32 + 11 := by
  by_cases h : n < 150
  · have hm : ∀ k, (srun one n).c ≤ (srun one (n + k)).c := by
      intro k
      induction k with
      | zero => exact Nat.le_refl _
      | succ k ih => exact Nat.le_trans ih (srun_mono one (n + k))
    have h1 := hm (150 - n)
    rw [show n + (150 - n) = 150 by omega, (srun150 one).2.1] at h1
    omega
  · obtain ⟨j, hj, _, _, hc⟩ := srun_inv one (n - 150)
    rw [show 150 + (n - 150) = n by omega] at hc
    omega
/-- The encoder behind n bits. -/
def erun (one : Bool) : Nat → Enc
  | 0 => newEnc
  | n + 1 => (erun one n).bit (fair (srun one n).p) one
theorem erun_like (one : Bool) : ∀ n, (erun one n).size = (srun one n).s ∧ (erun one n).cnt = (srun one n).c
  | 0 => ⟨rfl, rfl⟩
  | n + 1 => by
    obtain ⟨h1, h2⟩ := erun_like one n
    show ((erun one n).bit (fair (srun one n).p) one).size = (sstep one (srun one n)).s ∧ ((erun one n).bit (fair (srun one n).p) one).cnt = (sstep one (srun one n)).c
    have hs : ((erun one n).cut (fair (srun one n).p) one).size = cutS one (srun one n).s (fair (srun one n).p) := by
      unfold Enc.cut cutS; rw [h1]; cases one <;> rfl
    have hc := Enc.cut_cnt (erun one n) (fair (srun one n).p) one
    rw [h2] at hc
    rw [Enc.bit_cut]
    generalize (erun one n).cut (fair (srun one n).p) one = E at *
    unfold Enc.order sstep
    rw [hs]
    split
    · refine ⟨?_, ?_⟩
      · rw [Enc.shift_size]
      · rw [Enc.shift_cnt]; exact congrArg (· + 1) hc
    · exact ⟨hs, hc⟩
theorem erun_run (one : Bool) : ∀ n, (erun one n).Run ∧ (erun one n).closed = false
  | 0 => ⟨newEnc_run, rfl⟩
  | n + 1 => ⟨(erun_run one n).1.bit (fair_bd _).1 (fair_bd _).2 one, by show ((erun one n).bit _ one).closed = false; rw [Enc.bit_closed]; exact (erun_run one n).2⟩
theorem erun_cnt (one : Bool) (n : Nat) : (erun one n).cnt ≤ n / 32 + 11 := by rw [(erun_like one n).2]; exact srun_le one n
theorem srun_p (one : Bool) : ∀ n, (srun one n).p < 65536
  | 0 => by show 1024 < 65536; decide
  | n + 1 => by
    have h : (srun one (n + 1)).p = learn (fair (srun one n).p) one := by
      show (sstep one (srun one n)).p = _
      unfold sstep; split <;> rfl
    have h2 := learn_bd (fair_bd (srun one n).p).2 one
    omega
theorem srun_next (one : Bool) (n : Nat) : learn (fair (srun one n).p) one = (srun one (n + 1)).p := by
  show _ = (sstep one (srun one n)).p
  unfold sstep; split <;> rfl
end Go.Proofs.Ytcnjbdaopphleaa.Rng
