/- An encoder, in plain Lean. -/
import Derived.Test.YtcnjbdaopphleaaRngP
namespace Go.Proofs.Ytcnjbdaopphleaa.Rng
open Go.RowKit
set_option linter.unusedVariables false
set_option linter.unusedSimpArgs false
structure Enc where
  low : Nat
  size : Nat
  first : UInt8
  more : Nat
  out : List UInt8
  closed : Bool
def Enc.carry (e : Enc) : UInt8 := UInt8.ofNat (e.low / 4294967296)
def Enc.shift (e : Enc) : Enc :=
  if 4278190080 ≤ e.low ∧ e.low < 4294967296 then ⟨e.low * 256 % 4294967296, e.size, e.first, e.more + 1, e.out, e.closed⟩
  else ⟨e.low * 256 % 4294967296, e.size, UInt8.ofNat (e.low / 16777216), 0, e.out ++ (e.first + e.carry) :: List.replicate e.more (255 + e.carry), e.closed⟩
def Enc.order (e : Enc) : Enc := if e.size < 16777216 then Enc.shift ⟨e.low, e.size * 256, e.first, e.more, e.out, e.closed⟩ else e
def Enc.bit (e : Enc) (c : Nat) (one : Bool) : Enc :=
  Enc.order (if one then ⟨e.low + e.size / 2048 * c, e.size - e.size / 2048 * c, e.first, e.more, e.out, e.closed⟩ else ⟨e.low, e.size / 2048 * c, e.first, e.more, e.out, e.closed⟩)
def Enc.one (e : Enc) (one : Bool) : Enc := Enc.order ⟨if one then e.low + e.size / 2 else e.low, e.size / 2, e.first, e.more, e.out, e.closed⟩
/-- The lowest n bits of x, the highest first. -/
def Enc.direct (x : Nat) : Nat → Enc → Enc
  | 0, e => e
  | n + 1, e => Enc.direct x n (e.one (x / 2 ^ n % 2 == 1))
def Enc.shifts : Nat → Enc → Enc
  | 0, e => e
  | n + 1, e => Enc.shifts n e.shift
def newEnc : Enc := ⟨0, 4294967295, 0, 0, [], false⟩
/-- What an encoder tells at its end, and what it is then. -/
def Enc.close (e : Enc) : Enc := if e.closed then e else ⟨(e.shifts 5).low, (e.shifts 5).size, (e.shifts 5).first, (e.shifts 5).more, (e.shifts 5).out, true⟩
/-- How many shifts it has seen. -/
def Enc.cnt (e : Enc) : Nat := e.out.length + e.more
structure Enc.Ok (e : Enc) : Prop where
  l : e.low ≤ 8589934592
  s : e.size < 4294967296
/-- Between two bits. -/
structure Enc.Run (e : Enc) : Prop where
  l : e.low + e.size ≤ 8589934592
  s : 16777216 ≤ e.size ∧ e.size < 4294967296
theorem Enc.Run.ok {e : Enc} (h : e.Run) : e.Ok := by
  have h1 := h.l
  have h2 := h.s
  exact ⟨by omega, by omega⟩
theorem Enc.shift_cnt (e : Enc) : e.shift.cnt = e.cnt + 1 := by
  unfold Enc.shift Enc.cnt
  split
  · simp only; omega
  · simp only [List.length_append, List.length_cons, List.length_replicate]; omega
theorem Enc.shift_size (e : Enc) : e.shift.size = e.size := by unfold Enc.shift; split <;> rfl
theorem Enc.shift_low (e : Enc) : e.shift.low = e.low * 256 % 4294967296 := by unfold Enc.shift; split <;> rfl
theorem Enc.shift_closed (e : Enc) : e.shift.closed = e.closed := by unfold Enc.shift; split <;> rfl
theorem Enc.Ok.shift {e : Enc} (h : e.Ok) : e.shift.Ok := by
  have h1 := h.l
  have h2 := h.s
  refine ⟨?_, by rw [Enc.shift_size]; exact h2⟩
  rw [Enc.shift_low]
  omega
theorem Enc.order_stay {e : Enc} (h : 16777216 ≤ e.size) : e.order = e := if_neg (by omega)
theorem Enc.order_cnt (e : Enc) : e.order.cnt ≤ e.cnt + 1 := by
  unfold Enc.order
  split
  · rw [Enc.shift_cnt]; exact Nat.le_refl _
  · omega
theorem Enc.order_closed (e : Enc) : e.order.closed = e.closed := by
  unfold Enc.order
  split
  · rw [Enc.shift_closed]
  · rfl
/-- Ahead of order. -/
structure Enc.Pre (e : Enc) : Prop where
  l : e.low + e.size ≤ 8589934592
  s : 65536 ≤ e.size ∧ e.size < 4294967296
theorem Enc.Pre.ok {e : Enc} (h : e.Pre) : e.Ok := by
  have h1 := h.l
  have h2 := h.s
  exact ⟨by omega, by omega⟩
theorem Enc.Pre.order {e : Enc} (h : e.Pre) : e.order.Run := by
  have h1 := h.l
  have h2 := h.s
  unfold Enc.order
  split
  · refine ⟨?_, ?_⟩
    · rw [Enc.shift_size, Enc.shift_low]; simp only; omega
    · rw [Enc.shift_size]; simp only; omega
  · exact ⟨h1, by omega⟩
theorem newEnc_run : newEnc.Run := ⟨by show 0 + 4294967295 ≤ 8589934592; omega, by show 16777216 ≤ 4294967295 ∧ 4294967295 < 4294967296; omega⟩
theorem bound_bd {s c : Nat} (hs : 16777216 ≤ s) (h1 : 31 ≤ c) (h2 : c ≤ 2017) : 65536 ≤ s / 2048 * c ∧ 65536 ≤ s - s / 2048 * c ∧ s / 2048 * c ≤ s := by
  have hq : 8192 ≤ s / 2048 := by omega
  have hm := Nat.div_mul_le_self s 2048
  generalize s / 2048 = q at *
  have a1 : 8192 * 31 ≤ q * c := Nat.mul_le_mul hq h1
  have a2 : q * c ≤ q * 2017 := Nat.mul_le_mul_left _ h2
  omega
/-- Behind a bit, ahead of order. -/
def Enc.cut (e : Enc) (c : Nat) (one : Bool) : Enc :=
  if one then ⟨e.low + e.size / 2048 * c, e.size - e.size / 2048 * c, e.first, e.more, e.out, e.closed⟩ else ⟨e.low, e.size / 2048 * c, e.first, e.more, e.out, e.closed⟩
theorem Enc.bit_cut (e : Enc) (c : Nat) (one : Bool) : e.bit c one = (e.cut c one).order := rfl
theorem Enc.Run.cut {e : Enc} (h : e.Run) {c : Nat} (h1 : 31 ≤ c) (h2 : c ≤ 2017) (one : Bool) : (e.cut c one).Pre := by
  have a1 := h.l
  have a2 := h.s
  have hb := bound_bd a2.1 h1 h2
  unfold Enc.cut
  split
  · exact ⟨by simp only; omega, by simp only; omega⟩
  · exact ⟨by simp only; omega, by simp only; omega⟩
theorem Enc.cut_cnt (e : Enc) (c : Nat) (one : Bool) : (e.cut c one).cnt = e.cnt := by unfold Enc.cut; split <;> rfl
theorem Enc.Run.bit {e : Enc} (h : e.Run) {c : Nat} (h1 : 31 ≤ c) (h2 : c ≤ 2017) (one : Bool) : (e.bit c one).Run := (h.cut h1 h2 one).order
theorem Enc.bit_cnt (e : Enc) (c : Nat) (one : Bool) : (e.bit c one).cnt ≤ e.cnt + 1 := by
  rw [Enc.bit_cut]
  have := Enc.order_cnt (e.cut c one)
  rw [Enc.cut_cnt] at this
  exact this
theorem Enc.bit_closed (e : Enc) (c : Nat) (one : Bool) : (e.bit c one).closed = e.closed := by
  rw [Enc.bit_cut, Enc.order_closed]; unfold Enc.cut; split <;> rfl
/-- Half of it, ahead of order. -/
def Enc.half (e : Enc) (one : Bool) : Enc := ⟨if one then e.low + e.size / 2 else e.low, e.size / 2, e.first, e.more, e.out, e.closed⟩
theorem Enc.one_half (e : Enc) (one : Bool) : e.one one = (e.half one).order := rfl
theorem Enc.Run.half {e : Enc} (h : e.Run) (one : Bool) : (e.half one).Pre := by
  have a1 := h.l
  have a2 := h.s
  unfold Enc.half
  refine ⟨?_, by simp only; omega⟩
  simp only
  split <;> omega
theorem Enc.Run.one {e : Enc} (h : e.Run) (one : Bool) : (e.one one).Run := (h.half one).order
theorem Enc.one_cnt (e : Enc) (one : Bool) : (e.one one).cnt ≤ e.cnt + 1 := Enc.order_cnt (e.half one)
theorem Enc.one_closed (e : Enc) (one : Bool) : (e.one one).closed = e.closed := Enc.order_closed (e.half one)
theorem Enc.Run.direct {x : Nat} : ∀ {n : Nat} {e : Enc}, e.Run → (Enc.direct x n e).Run
  | 0, e, h => h
  | n + 1, e, h => Enc.Run.direct (n := n) (e := e.one (x / 2 ^ n % 2 == 1)) (Enc.Run.one h _)
theorem Enc.direct_cnt {x : Nat} : ∀ {n : Nat} {e : Enc}, (Enc.direct x n e).cnt ≤ e.cnt + n
  | 0, e => Nat.le_refl _
  | n + 1, e => by
    have h1 := Enc.direct_cnt (x := x) (n := n) (e := e.one (x / 2 ^ n % 2 == 1))
    have h2 := Enc.one_cnt e (x / 2 ^ n % 2 == 1)
    rw [Enc.direct]; omega
theorem Enc.direct_closed {x : Nat} : ∀ {n : Nat} {e : Enc}, (Enc.direct x n e).closed = e.closed
  | 0, e => rfl
  | n + 1, e => by rw [Enc.direct, Enc.direct_closed, Enc.one_closed]
end Go.Proofs.Ytcnjbdaopphleaa.Rng
