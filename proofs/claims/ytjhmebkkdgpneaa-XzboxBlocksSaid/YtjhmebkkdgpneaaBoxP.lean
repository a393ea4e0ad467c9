/- Numbers of an xz file, in plain Lean. -/
import Derived.Test.YtjhmebkkdgpneaaSumsA
namespace Go.Proofs.Ytjhmebkkdgpneaa.Box
open Go.RowKit
set_option linter.unusedVariables false
set_option linter.unusedSimpArgs false
/-- A number in bytes, i of which were read, n told so far: it, how many bytes, the error. -/
def scan (i n : Nat) : List UInt8 → Nat × Nat × Int
  | [] => (0, 0, 10)
  | c :: r =>
    if (i = 8 ∧ 128 ≤ c.toNat) ∨ (0 < i ∧ c.toNat = 0) then (0, 0, 11)
    else if c.toNat < 128 then (n + c.toNat * 2 ^ (7 * i), i + 1, 0)
    else scan (i + 1) (n + c.toNat % 128 * 2 ^ (7 * i)) r
def number (bs : List UInt8) : Nat × Nat × Int := scan 0 0 bs
/-- A number's bytes. -/
def putGo : Nat → Nat → List UInt8
  | 0, n => [UInt8.ofNat n]
  | f + 1, n => if n < 128 then [UInt8.ofNat n] else UInt8.ofNat (n % 128 + 128) :: putGo f (n / 128)
def put (n : Nat) : List UInt8 := putGo 8 n
theorem ofNat_toNat {n : Nat} (h : n < 256) : (UInt8.ofNat n).toNat = n := by rw [UInt8.toNat_ofNat']; exact Nat.mod_eq_of_lt h
theorem pow_step (i : Nat) : 2 ^ (7 * (i + 1)) = 2 ^ (7 * i) * 128 := by rw [Nat.mul_succ, Nat.pow_add]
/-- What is written is read. -/
theorem scan_put : ∀ (f i n m : Nat) (r : List UInt8), f + i = 8 → m < 2 ^ (7 * (9 - i)) → (0 < i → 0 < m) → scan i n (putGo f m ++ r) = (n + m * 2 ^ (7 * i), i + (putGo f m).length, 0)
  | 0, i, n, m, r, hf, hm, hz => by
    obtain rfl : i = 8 := by omega
    have hm2 : m < 128 := hm
    have hz2 := hz (by decide)
    show scan 8 n (UInt8.ofNat m :: r) = _
    unfold scan
    rw [ofNat_toNat (by omega), if_neg (by omega), if_pos hm2]
    rfl
  | f + 1, i, n, m, r, hf, hm, hz => by
    unfold putGo
    by_cases h : m < 128
    · rw [if_pos h]
      show scan i n (UInt8.ofNat m :: r) = _
      unfold scan
      rw [ofNat_toNat (by omega), if_neg (by have := hz; omega), if_pos h]
      rfl
    · rw [if_neg h]
      show scan i n (UInt8.ofNat (m % 128 + 128) :: (putGo f (m / 128) ++ r)) = _
      unfold scan
      have e1 : (m % 128 + 128) % 128 = m % 128 := by omega
      have hp : 2 ^ (7 * (9 - i)) = 2 ^ (7 * (9 - (i + 1))) * 128 := by rw [show 9 - i = 9 - (i + 1) + 1 by omega, pow_step]
      rw [hp] at hm
      have hq : m / 128 < 2 ^ (7 * (9 - (i + 1))) := Nat.div_lt_of_lt_mul (by rw [Nat.mul_comm]; exact hm)
      rw [ofNat_toNat (by omega), if_neg (by omega), if_neg (by omega), e1, scan_put f (i + 1) _ (m / 128) r (by omega) hq (fun _ => by omega), pow_step]
      have hd := Nat.div_add_mod m 128
      generalize hA : m / 128 = A at *
      generalize hC : m % 128 = C at *
      have e2 : n + C * 2 ^ (7 * i) + A * (2 ^ (7 * i) * 128) = n + m * 2 ^ (7 * i) := by
        rw [← hd, Nat.add_mul, Nat.mul_assoc 128 A, Nat.mul_comm 128 (A * 2 ^ (7 * i)), Nat.mul_assoc A]
        omega
      rw [e2, List.length_cons]
      have e3 : i + 1 + (putGo f A).length = i + ((putGo f A).length + 1) := by omega
      rw [e3]
theorem number_put {n : Nat} (h : n < 9223372036854775808) (r : List UInt8) : number (put n ++ r) = (n, (put n).length, 0) := by
  have h1 := scan_put 8 0 0 n r rfl h (fun h => absurd h (by decide))
  unfold number put
  rw [h1]
  simp
/-- What is read is what would be written. -/
theorem scan_back : ∀ (bs : List UInt8) (i n y m : Nat), i ≤ 8 → scan i n bs = (y, m, 0) → ∃ v k, y = n + v * 2 ^ (7 * i) ∧ m = i + k ∧ 1 ≤ k ∧ k ≤ bs.length ∧ v < 2 ^ (7 * (9 - i)) ∧ putGo (8 - i) v = bs.take k ∧ (0 < i → 0 < v)
  | [], i, n, y, m, hi, h => by unfold scan at h; injection h with _ h; injection h with _ h; cases h
  | c :: r, i, n, y, m, hi, h => by
    unfold scan at h
    have hc := c.toNat_lt
    by_cases h1 : (i = 8 ∧ 128 ≤ c.toNat) ∨ (0 < i ∧ c.toNat = 0)
    · rw [if_pos h1] at h; injection h with _ h; injection h with _ h; cases h
    · rw [if_neg h1] at h
      by_cases h2 : c.toNat < 128
      · rw [if_pos h2] at h
        injection h with ha hb
        injection hb with hb _
        have hp : 128 ≤ 2 ^ (7 * (9 - i)) := by
          have : 2 ^ 7 ≤ 2 ^ (7 * (9 - i)) := Nat.pow_le_pow_right (by decide) (by omega)
          exact this
        refine ⟨c.toNat, 1, ha.symm, by omega, Nat.le_refl _, by simp, by omega, ?_, by omega⟩
        have e : UInt8.ofNat c.toNat = c := UInt8.ofNat_toNat
        cases hk : 8 - i with
        | zero => unfold putGo; rw [e]; rfl
        | succ k => unfold putGo; rw [if_pos h2, e]; rfl
      · rw [if_neg h2] at h
        have hi8 : i ≤ 7 := by omega
        obtain ⟨v, k, e1, e2, e3, e4, e5, e6, e7⟩ := scan_back r (i + 1) _ y m (by omega) h
        have hv := e7 (by omega)
        have hp : 2 ^ (7 * (9 - i)) = 2 ^ (7 * (9 - (i + 1))) * 128 := by rw [show 9 - i = 9 - (i + 1) + 1 by omega, pow_step]
        refine ⟨v * 128 + c.toNat % 128, k + 1, ?_, by omega, by omega, by simp; omega, ?_, ?_, fun _ => by omega⟩
        · rw [e1, pow_step, Nat.add_mul, Nat.mul_assoc v, Nat.mul_comm 128 (2 ^ (7 * i))]
          omega
        · rw [hp]; omega
        · rw [show 8 - i = (8 - (i + 1)) + 1 by omega]
          unfold putGo
          rw [if_neg (by omega)]
          have q1 : (v * 128 + c.toNat % 128) % 128 + 128 = c.toNat := by omega
          have q2 : (v * 128 + c.toNat % 128) / 128 = v := by omega
          rw [q1, q2, e6, UInt8.ofNat_toNat]
          rfl
theorem number_back {bs : List UInt8} {y m : Nat} (h : number bs = (y, m, 0)) : y < 9223372036854775808 ∧ 1 ≤ m ∧ m ≤ bs.length ∧ put y = bs.take m := by
  obtain ⟨v, k, e1, e2, e3, e4, e5, e6, e7⟩ := scan_back bs 0 0 y m (by decide) h
  have ey : y = v := by simpa using e1
  have em : m = k := by omega
  subst ey; subst em
  exact ⟨e5, e3, e4, e6⟩
theorem scan_bad : ∀ (bs : List UInt8) (i n : Nat), (scan i n bs).2.2 ≠ 0 → scan i n bs = (0, 0, 10) ∨ scan i n bs = (0, 0, 11)
  | [], i, n, h => .inl rfl
  | c :: r, i, n, h => by
    unfold scan at h ⊢
    by_cases h1 : (i = 8 ∧ 128 ≤ c.toNat) ∨ (0 < i ∧ c.toNat = 0)
    · rw [if_pos h1]; exact .inr rfl
    · rw [if_neg h1] at h ⊢
      by_cases h2 : c.toNat < 128
      · rw [if_pos h2] at h; exact absurd rfl h
      · rw [if_neg h2] at h ⊢
        exact scan_bad r _ _ h
theorem number_err (bs : List UInt8) : (number bs).2.2 = 0 ∨ number bs = (0, 0, 10) ∨ number bs = (0, 0, 11) := by
  by_cases h : (number bs).2.2 = 0
  · exact .inl h
  · exact .inr (scan_bad bs 0 0 h)
end Go.Proofs.Ytjhmebkkdgpneaa.Box
