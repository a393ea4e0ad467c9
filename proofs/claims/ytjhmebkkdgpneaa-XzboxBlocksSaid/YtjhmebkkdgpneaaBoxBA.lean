/- A block's head: what it tells, in plain Lean; what a cursor reads of it. -/
import Derived.Test.YtjhmebkkdgpneaaBoxV
import Derived.Deep.CutRange
namespace Go.Proofs.Ytjhmebkkdgpneaa
open Go.RowKit Box
set_option linter.unusedVariables false
set_option linter.unusedSimpArgs false
namespace Box
def winOf (c : Nat) : Int := if c = 40 then 4294967295 else (((2 + c % 2) * 2 ^ (c / 2 + 11) : Nat) : Int)
abbrev BkR := Except Int (Int × Nat × Nat)
def M64' : Nat := 18446744073709551615
def bkFilter (r : List UInt8) (p w : Nat) : BkR :=
  match r with
  | [] => .error 11
  | c :: t => if ¬ c.toNat < 64 then .error 12 else if 40 < c.toNat then .error 11 else if ¬ (∀ x ∈ t, x = 0) then .error 11 else .ok (winOf c.toNat, p, w)
def bkSet (r : List UInt8) (p w : Nat) : BkR :=
  if ¬ (number r).2.2 = 0 then .error 11 else if ¬ (number r).1 = 1 then .error 11 else bkFilter (r.drop (number r).2.1) p w
def bkKind (r : List UInt8) (p w : Nat) : BkR :=
  if ¬ (number r).2.2 = 0 then .error 11 else if ¬ (number r).1 = 33 then .error 12 else bkSet (r.drop (number r).2.1) p w
def bkWhole (f : Nat) (r : List UInt8) (p : Nat) : BkR :=
  if 128 ≤ f then (if ¬ (number r).2.2 = 0 then .error 11 else bkKind (r.drop (number r).2.1) p (number r).1) else bkKind r p M64'
def bkPacked (f : Nat) (r : List UInt8) : BkR :=
  if f / 64 % 2 = 1 then (if ¬ (number r).2.2 = 0 then .error 11 else if (number r).1 = 0 then .error 11 else bkWhole f (r.drop (number r).2.1) (number r).1) else bkWhole f r M64'
def bkBody (r : List UInt8) : BkR :=
  match r with
  | [] => .error 11
  | f :: r => if ¬ f.toNat % 64 = 0 then .error 12 else bkPacked f.toNat r
end Box
/-- What reading a block's head leaves. -/
def BkPost (cb : Nat) (R : BkR) (w : World) (e : Ending) (w' : World) : Prop :=
  (match R with
   | .ok (s, p, q) => e = .returned (.tuple #[.int .i64 s, .int .u64 (p : Int), .int .u64 (q : Int)])
   | .error x => x ≠ 0 ∧ e = .panicked [{ v := .iface 66 (.agg #[.int .i64 x]), recovered := false }]) ∧ Frm (· = cb) w w'
theorem and_tab : ∀ F : Fin 256, (bits .and .u8 ((F.val : Nat) : Int) 63 == 0) = decide (F.val % 64 = 0) ∧ (bits .and .u8 ((F.val : Nat) : Int) 64 != 0) = decide (F.val / 64 % 2 = 1) ∧ (bits .and .u8 ((F.val : Nat) : Int) 128 != 0) = decide (128 ≤ F.val) ∧ (bits .and .u8 ((F.val : Nat) : Int) 192 == 0) = decide (F.val < 64) ∧
    bits .and .u8 ((F.val : Nat) : Int) 1 = ((F.val % 2 : Nat) : Int) := by decide +kernel
theorem and_facts {F : Nat} (h : F < 256) : (bits .and .u8 (F : Int) 63 == 0) = decide (F % 64 = 0) ∧ (bits .and .u8 (F : Int) 64 != 0) = decide (F / 64 % 2 = 1) ∧ (bits .and .u8 (F : Int) 128 != 0) = decide (128 ≤ F) ∧ (bits .and .u8 (F : Int) 192 == 0) = decide (F < 64) ∧
    bits .and .u8 (F : Int) 1 = ((F % 2 : Nat) : Int) := and_tab ⟨F, h⟩
theorem win_in {m : Nat} (hm : m < 40) : (2 + m % 2) * 2 ^ (m / 2 + 11) ≤ 3221225472 := by
  have h1 : 2 ^ (m / 2 + 11) ≤ 2 ^ 30 := Nat.pow_le_pow_right (by decide) (by omega)
  have h2 : (2 : Nat) ^ 30 = 1073741824 := by decide
  have h3 : (2 + m % 2) * 2 ^ (m / 2 + 11) ≤ 3 * 2 ^ 30 := Nat.mul_le_mul (by omega) h1
  omega
theorem size_p (m : Nat) (w : World) (hm : m ≤ 40) : Calls Try.prog 41 #[.int .u8 (m : Int)] w fun e w' => e = .returned (.int .i64 (winOf m)) ∧ w = w' := by
  by_cases h40 : m = 40
  · subst h40
    show Calls _ _ #[.int .u8 40] w _
    go_enter Try.func41, Try.ntmps41
    go_wp2
    go_ret
    exact ⟨rfl, rfl⟩
  · have ha := (and_facts (F := m) (by omega)).2.2.2.2
    have hwin := win_in (m := m) (by omega)
    have hwo : winOf m = (((2 + m % 2) * 2 ^ (m / 2 + 11) : Nat) : Int) := by unfold winOf; rw [if_neg h40]
    obtain ⟨q, hq⟩ : ∃ q, m % 2 = q := ⟨_, rfl⟩
    have hq2 : q < 2 := by omega
    rw [hq] at ha hwin hwo
    have hmod : (2 + (q : Int)) % 256 = 2 + (q : Int) := by omega
    obtain ⟨z, hz⟩ : ∃ z, 2 ^ (m / 2 + 11) = z := ⟨_, rfl⟩
    have hzi : (2 : Int) ^ (m / 2 + 11) = (z : Int) := by rw [← hz]; simp
    rw [hz] at hwin hwo
    have hp : (2 + (q : Int)) * (z : Int) = (((2 + q) * z : Nat) : Int) := by simp
    obtain ⟨W, hW⟩ : ∃ W, (2 + q) * z = W := ⟨_, rfl⟩
    rw [hW] at hp hwin hwo
    have hww : wrap64 (W : Int) = (W : Int) := by unfold wrap64; omega
    rw [hwo]
    have HZI := Lib.hid hzi
    clear hwo hq hz hW hzi
    go_enter Try.func41, Try.ntmps41
    go_wp2
    go_ret
    exact ⟨by show Ending.returned (.int .i64 (wrap64 ((2 + (q : Int)) * 2 ^ (m / 2 + 11)))) = _; rw [HZI.out, hp, hww], rfl⟩
theorem window_p (m : Nat) (w : World) (hm : m ≤ 40) : Calls Try.prog 42 #[.int .u8 (m : Int)] w fun e w' => e = .returned (.int .i64 (winOf m)) ∧ w = w' := by
  by_cases h40 : m = 40
  · subst h40
    show Calls _ _ #[.int .u8 40] w _
    go_enter Try.func42, Try.ntmps42
    go_wp2
    go_ret
    exact ⟨rfl, rfl⟩
  · have ha := (and_facts (F := m) (by omega)).2.2.2.2
    have hwin := win_in (m := m) (by omega)
    have hwo : winOf m = (((2 + m % 2) * 2 ^ (m / 2 + 11) : Nat) : Int) := by unfold winOf; rw [if_neg h40]
    obtain ⟨q, hq⟩ : ∃ q, m % 2 = q := ⟨_, rfl⟩
    have hq2 : q < 2 := by omega
    rw [hq] at ha hwin hwo
    have hmod : (2 + (q : Int)) % 256 = 2 + (q : Int) := by omega
    obtain ⟨z, hz⟩ : ∃ z, 2 ^ (m / 2 + 11) = z := ⟨_, rfl⟩
    have hzi : (2 : Int) ^ (m / 2 + 11) = (z : Int) := by rw [← hz]; simp
    rw [hz] at hwin hwo
    have hp : (2 + (q : Int)) * (z : Int) = (((2 + q) * z : Nat) : Int) := by simp
    obtain ⟨W, hW⟩ : ∃ W, (2 + q) * z = W := ⟨_, rfl⟩
    rw [hW] at hp hwin hwo
    have hww : wrap64 (W : Int) = (W : Int) := by unfold wrap64; omega
    rw [hwo]
    have HZI := Lib.hid hzi
    clear hwo hq hz hW hzi
    go_enter Try.func42, Try.ntmps42
    go_wp2
    go_ret
    exact ⟨by show Ending.returned (.int .i64 (wrap64 ((2 + (q : Int)) * 2 ^ (m / 2 + 11)))) = _; rw [HZI.out, hp, hww], rfl⟩
end Go.Proofs.Ytjhmebkkdgpneaa
