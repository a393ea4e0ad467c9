/- The coder of bits by chances, in plain Lean: a decoder's and an encoder's state, and their steps. -/
import Derived.Test.YteghpnlamdgpnaaBytes
import Derived.Test.YteghpnlamdgpnaaNum
namespace Go.Proofs.Yteghpnlamdgpnaa.Rng
open Go.RowKit
set_option linter.unusedVariables false
set_option linter.unusedSimpArgs false

theorem or_byte {k x : Nat} (hk : k % 256 = 0) (hx : x < 256) : k ||| x = k + x := by
  have h := Nat.shiftLeft_add_eq_or_of_lt (a := k / 256) (b := x) (i := 8) hx
  have e : (k / 256) <<< 8 = k := by rw [Nat.shiftLeft_eq]; omega
  rw [e] at h
  exact h.symm
theorem or_raw {k x : Nat} (h1 : k % 256 = 0) (h2 : k < 4294967296) (hx : x < 256) : bits .or .u32 (k : Int) (x : Int) = ((k + x : Nat) : Int) := by
  have e1 : k < Num.M32 := h2
  have e2 : x < Num.M32 := by show x < 4294967296; omega
  rw [Num.or32 e1 e2, or_byte h1 hx]
/-- A chance as it is used, and what it is behind a bit. -/
def fair (p : Nat) : Nat := max 31 (min p 2017)
def learn (c : Nat) (one : Bool) : Nat := if one then c - c / 32 else c + (2048 - c) / 32
theorem fair_bd (p : Nat) : 31 ≤ fair p ∧ fair p ≤ 2017 := by unfold fair; omega
theorem learn_bd {c : Nat} (h : c ≤ 2017) (one : Bool) : learn c one ≤ 2048 := by unfold learn; split <;> omega

/-- A bit as a number. -/
def bitV (one : Bool) : Int := if one then 1 else 0
/-- A decoder. -/
structure Dec where
  rest : List UInt8
  size : Nat
  code : Nat
  want : Bool
def Dec.order (d : Dec) : Dec :=
  if 16777216 ≤ d.size then d else
  match d.rest with
  | [] => ⟨[], d.size * 256, d.code * 256 % 4294967296, true⟩
  | x :: r => ⟨r, d.size * 256, d.code * 256 % 4294967296 + x.toNat, d.want⟩
def Dec.bit (d : Dec) (c : Nat) : Bool × Dec :=
  let d := d.order
  if d.code < d.size / 2048 * c then (false, ⟨d.rest, d.size / 2048 * c, d.code, d.want⟩)
  else (true, ⟨d.rest, d.size - d.size / 2048 * c, d.code - d.size / 2048 * c, d.want⟩)
def Dec.one (d : Dec) : Bool × Dec :=
  let d := d.order
  if d.code < d.size / 2 then (false, ⟨d.rest, d.size / 2, d.code, d.want⟩)
  else (true, ⟨d.rest, d.size / 2, d.code - d.size / 2, d.want⟩)
/-- n bits as they are, behind x. -/
def Dec.direct : Nat → Nat → Dec → Nat × Dec
  | 0, x, d => (x, d)
  | n + 1, x, d => Dec.direct n (x * 2 % 4294967296 + (if d.one.1 then 1 else 0)) d.one.2
def count (n : Int) : Nat := (min (max n 0) 32).toNat
structure Dec.Fits (d : Dec) : Prop where
  s : d.size < 4294967296
  c : d.code < 4294967296
theorem Dec.Fits.order {d : Dec} (h : d.Fits) : d.order.Fits := by
  unfold Dec.order
  have h1 := h.s
  have h2 := h.c
  split
  · exact h
  · cases hr : d.rest with
    | nil => exact ⟨by simp only; omega, by simp only; omega⟩
    | cons x r =>
      have := x.toNat_lt
      exact ⟨by simp only; omega, by simp only; omega⟩
theorem bound_le (s c : Nat) (h : c ≤ 2017) : s / 2048 * c ≤ s := by
  have h1 : s / 2048 * c ≤ s / 2048 * 2048 := Nat.mul_le_mul_left _ (by omega)
  have h2 := Nat.div_mul_le_self s 2048
  omega
theorem Dec.Fits.bit {d : Dec} (h : d.Fits) {c : Nat} (hc : c ≤ 2017) : (d.bit c).2.Fits := by
  have ho := h.order
  have h1 := ho.s
  have h2 := ho.c
  have hb := bound_le d.order.size c hc
  unfold Dec.bit
  simp only
  split
  · exact ⟨by simp only; omega, by simp only; omega⟩
  · exact ⟨by simp only; omega, by simp only; omega⟩
theorem Dec.Fits.one {d : Dec} (h : d.Fits) : d.one.2.Fits := by
  have ho := h.order
  have h1 := ho.s
  have h2 := ho.c
  unfold Dec.one
  simp only
  split
  · exact ⟨by simp only; omega, by simp only; omega⟩
  · exact ⟨by simp only; omega, by simp only; omega⟩
/-- What stands at the end. -/
def Dec.fin (d : Dec) : Nat × Nat := if d.order.want then (0, 10) else if d.order.code ≠ 0 then (0, 11) else (d.order.rest.length, 0)
end Go.Proofs.Yteghpnlamdgpnaa.Rng
