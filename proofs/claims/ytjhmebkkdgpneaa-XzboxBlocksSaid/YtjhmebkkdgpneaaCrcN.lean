/- The CRC's arithmetic: the table's step is eight steps of a bit. No program in sight. -/
import Derived.Test.YtjhmebkkdgpneaaNum
namespace Go.Proofs.Ytjhmebkkdgpneaa.Crc
open Go.Proofs.Ytjhmebkkdgpneaa.Num

/-- One step of a bit. -/
def bit (P x : Nat) : Nat := if x % 2 = 1 then (x / 2) ^^^ P else x / 2
def bitsN (P : Nat) : Nat → Nat → Nat
  | 0, x => x
  | n + 1, x => bit P (bitsN P n x)
/-- A byte by the table. -/
def byByte (P n : Nat) (b : UInt8) : Nat := (n / 256) ^^^ bitsN P 8 ((n % 256) ^^^ b.toNat)
/-- A byte by definition. -/
def byBits (P n : Nat) (b : UInt8) : Nat := bitsN P 8 (n ^^^ b.toNat)

theorem half_lt {x : Nat} (h : x < M64) : x / 2 < M64 := by omega
theorem bit_lt {P x : Nat} (hP : P < M64) (hx : x < M64) : bit P x < M64 := by
  unfold bit
  split
  · exact xor_lt64 (half_lt hx) hP
  · exact half_lt hx
theorem bitsN_lt {P x : Nat} (hP : P < M64) (hx : x < M64) : ∀ n, bitsN P n x < M64
  | 0 => hx
  | n + 1 => bit_lt hP (bitsN_lt hP hx n)
theorem bit_lt32 {P x : Nat} (hP : P < M32) (hx : x < M32) : bit P x < M32 := by
  unfold bit
  split
  · exact xor_lt32 (by omega) hP
  · omega
theorem bitsN_lt32 {P x : Nat} (hP : P < M32) (hx : x < M32) : ∀ n, bitsN P n x < M32
  | 0 => hx
  | n + 1 => bit_lt32 hP (bitsN_lt32 hP hx n)

theorem half_xor (a b : Nat) : (a ^^^ b) / 2 = (a / 2) ^^^ (b / 2) := by
  have := Nat.shiftRight_xor_distrib (a := a) (b := b) (i := 1)
  simpa [Nat.shiftRight_succ] using this
theorem mod_xor (a b : Nat) : (a ^^^ b) % 2 = (a % 2 + b % 2) % 2 := by
  have h := Nat.xor_mod_two_pow (a := a) (b := b) (n := 1)
  rw [show (2 : Nat) ^ 1 = 2 from rfl] at h
  rw [h]
  rcases Nat.mod_two_eq_zero_or_one a with ha | ha <;> rcases Nat.mod_two_eq_zero_or_one b with hb | hb <;> rw [ha, hb] <;> rfl
/-- The step is linear. -/
theorem bit_xor (P a b : Nat) : bit P (a ^^^ b) = bit P a ^^^ bit P b := by
  unfold bit
  rw [mod_xor, half_xor]
  rcases Nat.mod_two_eq_zero_or_one a with ha | ha <;> rcases Nat.mod_two_eq_zero_or_one b with hb | hb <;> simp [ha, hb]
  · rw [Nat.xor_assoc]
  · rw [Nat.xor_assoc, Nat.xor_assoc, Nat.xor_comm P]
  · rw [Nat.xor_assoc, Nat.xor_comm P (b / 2 ^^^ P), Nat.xor_assoc (b / 2), Nat.xor_self, Nat.xor_zero]
theorem bitsN_xor (P a b : Nat) : ∀ n, bitsN P n (a ^^^ b) = bitsN P n a ^^^ bitsN P n b
  | 0 => rfl
  | n + 1 => by unfold bitsN; rw [bitsN_xor P a b n, bit_xor]
theorem bit_even (P x : Nat) (h : x % 2 = 0) : bit P x = x / 2 := by unfold bit; rw [if_neg (by omega)]
theorem bitsN_high (P k : Nat) : ∀ n m, bitsN P n (k * 2 ^ (m + n)) = k * 2 ^ m
  | 0, m => by simp [bitsN]
  | n + 1, m => by
    unfold bitsN
    rw [show m + (n + 1) = (m + 1) + n by omega, bitsN_high P k n (m + 1), bit_even]
    · rw [Nat.pow_succ, ← Nat.mul_assoc, Nat.mul_div_cancel _ (by omega)]
    · rw [Nat.pow_succ, ← Nat.mul_assoc, Nat.mul_mod_left]
theorem split_xor (n : Nat) : n = (n / 256 * 256) ^^^ (n % 256) := by
  have h : (n / 256) * 2 ^ 8 ^^^ (n % 256) = (n / 256) * 2 ^ 8 + n % 256 := by
    rw [← Nat.shiftLeft_eq]
    have h1 := Nat.shiftLeft_add_eq_or_of_lt (a := n / 256) (b := n % 256) (i := 8) (Nat.mod_lt _ (by omega))
    rw [h1]
    apply Nat.eq_of_testBit_eq
    intro i
    rw [Nat.testBit_xor, Nat.testBit_or, Nat.testBit_shiftLeft]
    by_cases hi : i < 8
    · simp [show ¬ (i ≥ 8) by omega]
    · have h2 : (n % 256).testBit i = false := by
        apply Nat.testBit_lt_two_pow
        have : 2 ^ 8 ≤ 2 ^ i := Nat.pow_le_pow_right (by omega) (by omega)
        have := Nat.mod_lt n (show 256 > 0 by omega)
        omega
      simp [h2]
  rw [show (256 : Nat) = 2 ^ 8 from rfl] at *
  rw [h]
  exact (Nat.div_add_mod' n (2 ^ 8)).symm
theorem byByte_eq (P n : Nat) (b : UInt8) : byByte P n b = byBits P n b := by
  unfold byByte byBits
  have h : n ^^^ b.toNat = (n / 256 * 2 ^ 8) ^^^ ((n % 256) ^^^ b.toNat) := by
    rw [← Nat.xor_assoc]
    exact congrArg (· ^^^ b.toNat) (split_xor n)
  have h2 := bitsN_high P (n / 256) 8 0
  rw [Nat.zero_add, Nat.pow_zero, Nat.mul_one] at h2
  rw [h, bitsN_xor P (n / 256 * 2 ^ 8), h2]

/-- The sum of bytes, by the table and by definition. -/
def add (P n : Nat) (bs : List UInt8) : Nat := bs.foldl (byByte P) n
theorem add_append (P n : Nat) (a b : List UInt8) : add P n (a ++ b) = add P (add P n a) b := List.foldl_append
theorem add_bits (P : Nat) (bs : List UInt8) : ∀ n, add P n bs = bs.foldl (byBits P) n := by
  induction bs with
  | nil => intro n; rfl
  | cons b bs ih => intro n; show add P (byByte P n b) bs = _; rw [ih, byByte_eq]; rfl
theorem byByte_lt {P n : Nat} (hP : P < M64) (hn : n < M64) (b : UInt8) : byByte P n b < M64 := by
  have := b.toNat_lt
  exact xor_lt64 (by omega) (bitsN_lt hP (Nat.lt_of_lt_of_le (xor_lt8 (Nat.mod_lt _ (by omega)) (by omega)) (by unfold M64; omega)) 8)
theorem add_lt {P : Nat} (hP : P < M64) (bs : List UInt8) : ∀ n, n < M64 → add P n bs < M64 := by
  induction bs with
  | nil => intro n h; exact h
  | cons b bs ih => intro n h; exact ih _ (byByte_lt hP h b)
theorem byBits_lt32 {P n : Nat} (hP : P < M32) (hn : n < M32) (b : UInt8) : byBits P n b < M32 := by
  have := b.toNat_lt
  exact bitsN_lt32 hP (xor_lt32 hn (Nat.lt_of_lt_of_le this (by unfold M32; omega))) 8
theorem add_lt32 {P : Nat} (hP : P < M32) (bs : List UInt8) : ∀ n, n < M32 → add P n bs < M32 := by
  induction bs with
  | nil => intro n h; exact h
  | cons b bs ih => intro n h; refine ih _ ?_; rw [byByte_eq]; exact byBits_lt32 hP h b

theorem xor_cancel {a b c : Nat} (h : a ^^^ c = b ^^^ c) : a = b := by
  have := congrArg (· ^^^ c) h
  simpa [Nat.xor_assoc] using this
/-- A polynomial with its highest bit: the step loses nothing. -/
theorem bit_inj {B P x y : Nat} (hP : P.testBit B = true) (hx : x < 2 ^ (B + 1)) (hy : y < 2 ^ (B + 1)) (h : bit P x = bit P y) : x = y := by
  have key : ∀ z, z < 2 ^ (B + 1) → (z / 2).testBit B = false := fun z hz => Nat.testBit_lt_two_pow (by rw [Nat.pow_succ] at hz; omega)
  have kx := key x hx
  have ky := key y hy
  unfold bit at h
  by_cases h1 : x % 2 = 1 <;> by_cases h2 : y % 2 = 1
  · rw [if_pos h1, if_pos h2] at h
    have := xor_cancel h
    omega
  · rw [if_pos h1, if_neg h2] at h
    have h3 := congrArg (fun n => Nat.testBit n B) h
    simp only [Nat.testBit_xor, kx, ky, hP] at h3
    simp at h3
  · rw [if_neg h1, if_pos h2] at h
    have h3 := congrArg (fun n => Nat.testBit n B) h
    simp only [Nat.testBit_xor, kx, ky, hP] at h3
    simp at h3
  · rw [if_neg h1, if_neg h2] at h
    omega
theorem bit_ltB {B P x : Nat} (hP : P < 2 ^ (B + 1)) (hx : x < 2 ^ (B + 1)) : bit P x < 2 ^ (B + 1) := by
  unfold bit
  split
  · exact Nat.xor_lt_two_pow (by omega) hP
  · omega
theorem bitsN_ltB {B P x : Nat} (hP : P < 2 ^ (B + 1)) (hx : x < 2 ^ (B + 1)) : ∀ n, bitsN P n x < 2 ^ (B + 1)
  | 0 => hx
  | n + 1 => bit_ltB hP (bitsN_ltB hP hx n)
theorem bitsN_inj {B P : Nat} (hP : P < 2 ^ (B + 1)) (ht : P.testBit B = true) : ∀ n x y, x < 2 ^ (B + 1) → y < 2 ^ (B + 1) → bitsN P n x = bitsN P n y → x = y
  | 0, _, _, _, _, h => h
  | n + 1, x, y, hx, hy, h => bitsN_inj hP ht n x y hx hy (bit_inj ht (bitsN_ltB hP hx n) (bitsN_ltB hP hy n) h)
theorem byBits_ltB {B P n : Nat} (h8 : 7 ≤ B) (hP : P < 2 ^ (B + 1)) (hn : n < 2 ^ (B + 1)) (b : UInt8) : byBits P n b < 2 ^ (B + 1) := by
  have hb := b.toNat_lt
  have h2 : 2 ^ 8 ≤ 2 ^ (B + 1) := Nat.pow_le_pow_right (by omega) (by omega)
  exact bitsN_ltB hP (Nat.xor_lt_two_pow hn (by omega)) 8
theorem add_ltB {B P : Nat} (h8 : 7 ≤ B) (hP : P < 2 ^ (B + 1)) (bs : List UInt8) : ∀ n, n < 2 ^ (B + 1) → add P n bs < 2 ^ (B + 1) := by
  induction bs with
  | nil => intro n h; exact h
  | cons b bs ih => intro n h; refine ih _ ?_; rw [byByte_eq]; exact byBits_ltB h8 hP h b
/-- Two states that differ stay so over the same bytes. -/
theorem add_inj {B P : Nat} (h8 : 7 ≤ B) (hP : P < 2 ^ (B + 1)) (ht : P.testBit B = true) (bs : List UInt8) : ∀ n m, n < 2 ^ (B + 1) → m < 2 ^ (B + 1) → add P n bs = add P m bs → n = m := by
  have h2 : 2 ^ 8 ≤ 2 ^ (B + 1) := Nat.pow_le_pow_right (by omega) (by omega)
  induction bs with
  | nil => intro n m _ _ h; exact h
  | cons b bs ih =>
    intro n m hn hm h
    have hb := b.toNat_lt
    have h1 : byByte P n b = byByte P m b := ih _ _ (by rw [byByte_eq]; exact byBits_ltB h8 hP hn b) (by rw [byByte_eq]; exact byBits_ltB h8 hP hm b) h
    rw [byByte_eq, byByte_eq] at h1
    exact xor_cancel (bitsN_inj hP ht 8 _ _ (Nat.xor_lt_two_pow hn (by omega)) (Nat.xor_lt_two_pow hm (by omega)) h1)
/-- One byte that is changed changes the sum. -/
theorem add_set {B P n : Nat} (h8 : 7 ≤ B) (hP : P < 2 ^ (B + 1)) (ht : P.testBit B = true) (hn : n < 2 ^ (B + 1)) (bs : List UInt8) (k : Nat) (hk : k < bs.length) (y : UInt8) (hy : y ≠ bs.getD k 0) :
    add P n bs ≠ add P n (bs.set k y) := by
  have h2 : 2 ^ 8 ≤ 2 ^ (B + 1) := Nat.pow_le_pow_right (by omega) (by omega)
  have e1 : bs = bs.take k ++ bs.getD k 0 :: bs.drop (k + 1) := by
    conv => lhs; rw [← List.take_append_drop k bs]
    rw [List.drop_eq_getElem_cons hk]
    simp [List.getD, hk]
  have e2 : bs.set k y = bs.take k ++ y :: bs.drop (k + 1) := List.set_eq_take_append_cons_drop.trans (by rw [if_pos hk])
  generalize hx : bs.getD k 0 = x at *
  rw [e2]
  conv => lhs; rw [e1]
  rw [add_append, add_append]
  intro h
  have hm := add_ltB h8 hP (bs.take k) n hn
  generalize add P n (bs.take k) = m at *
  have hbx := x.toNat_lt
  have hby := y.toNat_lt
  have h3 : byByte P m x = byByte P m y := add_inj h8 hP ht (bs.drop (k + 1)) _ _ (by rw [byByte_eq]; exact byBits_ltB h8 hP hm x) (by rw [byByte_eq]; exact byBits_ltB h8 hP hm y) h
  rw [byByte_eq, byByte_eq] at h3
  have h4 := bitsN_inj hP ht 8 _ _ (Nat.xor_lt_two_pow hm (by omega)) (Nat.xor_lt_two_pow hm (by omega)) h3
  rw [Nat.xor_comm m, Nat.xor_comm m] at h4
  exact hy (UInt8.toNat_inj.1 (xor_cancel h4)).symm
/-- Three rows of one length, taken together. -/
theorem add_xor3 (P : Nat) : ∀ (a b c d : List UInt8) (n m q r : Nat), a.length = d.length → b.length = d.length → c.length = d.length → (∀ i, i < d.length → d.getD i 0 = a.getD i 0 ^^^ b.getD i 0 ^^^ c.getD i 0) → n ^^^ m ^^^ q = r →
    add P n a ^^^ add P m b ^^^ add P q c = add P r d := by
  intro a
  induction a with
  | nil =>
    intro b c d n m q r h1 h2 h3 _ hr
    have hd : d = [] := List.eq_nil_of_length_eq_zero h1.symm
    subst hd
    have hb := List.eq_nil_of_length_eq_zero h2
    have hc := List.eq_nil_of_length_eq_zero h3
    subst hb; subst hc
    exact hr
  | cons x a ih =>
    intro b c d n m q r h1 h2 h3 h4 hr
    cases d with
    | nil => simp at h1
    | cons t d =>
      cases b with
      | nil => simp at h2
      | cons y b =>
        cases c with
        | nil => simp at h3
        | cons z c =>
          have h0 := h4 0 (by simp)
          simp only [List.getD_cons_zero] at h0
          refine ih b c d _ _ _ _ (by simpa using h1) (by simpa using h2) (by simpa using h3) (fun i hi => by have := h4 (i + 1) (by simpa using hi); simpa using this) ?_
          rw [byByte_eq, byByte_eq, byByte_eq, byByte_eq]
          unfold byBits
          rw [← bitsN_xor, ← bitsN_xor, h0, ← hr]
          congr 1
          rw [UInt8.toNat_xor, UInt8.toNat_xor]
          apply Nat.eq_of_testBit_eq
          intro i
          simp only [Nat.testBit_xor]
          cases n.testBit i <;> cases m.testBit i <;> cases q.testBit i <;> cases x.toNat.testBit i <;> cases y.toNat.testBit i <;> cases z.toNat.testBit i <;> rfl
end Go.Proofs.Ytjhmebkkdgpneaa.Crc
