/- XXH64's arithmetic, as the code's own operations have it; numbers out of bytes. No program in sight. -/
import Derived.Test.YtjhmebkkdgpneaaNum
import Derived.IntWalk
namespace Go.Proofs.Ytjhmebkkdgpneaa.Xxh
open Go.Proofs.Ytjhmebkkdgpneaa.Num

def xr (a b : Int) : Int := bits .xor .u64 a b
def mulU (a b : Int) : Int := IntKind.u64.wrap (a * b)
def addU (a b : Int) : Int := IntKind.u64.wrap (a + b)
def turn (x n : Int) : Int := bits .or .u64 (IntKind.u64.wrap (x * 2 ^ n.toNat)) (x / 2 ^ (64 - n).toNat)
def round (a x : Int) : Int := mulU (turn (addU a (mulU x 14029467366897019727)) 31) 11400714785074694791

/-- The number of bytes, the lowest first. -/
def le : List UInt8 → Nat
  | [] => 0
  | b :: bs => b.toNat + 256 * le bs
theorem le_cons (b : UInt8) (bs : List UInt8) : le (b :: bs) = b.toNat + 256 * le bs := rfl
theorem le_lt : ∀ bs : List UInt8, le bs < 256 ^ bs.length
  | [] => by simp [le]
  | b :: bs => by
    have h := le_lt bs
    have hb := b.toNat_lt
    rw [List.length_cons, Nat.pow_succ]
    unfold le
    omega
theorem le_lt64 {bs : List UInt8} (h : bs.length ≤ 8) : le bs < M64 := by
  have h1 := le_lt bs
  have h2 : 256 ^ bs.length ≤ 256 ^ 8 := Nat.pow_le_pow_right (by omega) h
  unfold M64; omega
theorem or_join {i x y : Nat} (hx : x % 2 ^ i = 0) (hy : y < 2 ^ i) : x ||| y = x + y := nat_join i x y hx hy
/-- One byte more at the low end. -/
theorem le_cons_raw {b : UInt8} {bs : List UInt8} (h : bs.length ≤ 7) : bits .or .u64 (IntKind.u64.wrap ((le bs : Int) * 256)) (b.toNat : Int) = ((le (b :: bs) : Nat) : Int) := by
  have h1 := le_lt bs
  have h2 : 256 ^ bs.length ≤ 256 ^ 7 := Nat.pow_le_pow_right (by omega) h
  have hb := b.toNat_lt
  rw [show (le bs : Int) * 256 = ((le bs * 256 : Nat) : Int) by omega, wrap64u, Nat.mod_eq_of_lt (by unfold M64; omega), or64 (by unfold M64; omega) (by unfold M64; omega)]
  rw [or_join (i := 8) (by omega) (by omega), le_cons]
  omega
theorem le_append : ∀ (bs : List UInt8) (b : UInt8), le (bs ++ [b]) = le bs + b.toNat * 256 ^ bs.length
  | [], b => by simp [le]
  | a :: bs, b => by
    rw [List.cons_append]
    unfold le
    rw [le_append bs b, List.length_cons, Nat.pow_succ, Nat.mul_add, ← Nat.mul_assoc]
    rw [show b.toNat * (256 ^ bs.length * 256) = 256 * b.toNat * 256 ^ bs.length by rw [Nat.mul_comm (256 ^ bs.length), ← Nat.mul_assoc, Nat.mul_comm b.toNat]]
    omega
/-- One byte more at the high end. -/
theorem le_snoc_raw {b : UInt8} {bs : List UInt8} (h : bs.length ≤ 7) : bits .or .u64 (le bs : Int) (IntKind.u64.wrap ((b.toNat : Int) * 2 ^ (8 * bs.length))) = ((le (bs ++ [b]) : Nat) : Int) := by
  have h1 := le_lt bs
  have hb := b.toNat_lt
  have e256 : (256 : Nat) ^ bs.length = 2 ^ (8 * bs.length) := by rw [Nat.pow_mul]
  have h7 : 2 ^ (8 * bs.length) ≤ 2 ^ 56 := Nat.pow_le_pow_right (by omega) (by omega)
  have hlt : b.toNat * 2 ^ (8 * bs.length) < M64 := by
    have : b.toNat * 2 ^ (8 * bs.length) ≤ 255 * 2 ^ 56 := Nat.mul_le_mul (by omega) h7
    unfold M64; omega
  rw [show (b.toNat : Int) * 2 ^ (8 * bs.length) = ((b.toNat * 2 ^ (8 * bs.length) : Nat) : Int) by rw [Int.natCast_mul, Int.natCast_pow]; rfl]
  rw [wrap64u, Nat.mod_eq_of_lt hlt, or64 (le_lt64 (by omega)) hlt, Nat.or_comm]
  rw [e256] at h1
  rw [or_join (i := 8 * bs.length) (Nat.mul_mod_left _ _) h1, le_append, e256]
  omega
theorem bits_or_range (a b : Int) : 0 ≤ bits .or .u64 a b ∧ bits .or .u64 a b < 18446744073709551616 := by
  have h : bits .or .u64 a b = ((BitVec.ofInt 64 a ||| BitVec.ofInt 64 b).toNat : Int) % 18446744073709551616 := by
    rw [← show ∀ n : Int, IntKind.u64.wrap n = n % 18446744073709551616 from fun n => by simp [IntKind.wrap, IntKind.bits, IntKind.signed]]
    rfl
  omega
theorem add0_turn (x n : Int) : addU 0 (turn x n) = turn x n := by
  have h := bits_or_range (IntKind.u64.wrap (x * 2 ^ n.toNat)) (x / 2 ^ (64 - n).toNat)
  unfold addU
  rw [show ∀ n : Int, IntKind.u64.wrap n = n % 18446744073709551616 from fun n => by simp [IntKind.wrap, IntKind.bits, IntKind.signed]]
  unfold turn
  omega

/-- The four lanes behind a stretch of 32 bytes. -/
structure L4 where
  a : Int
  b : Int
  c : Int
  d : Int
def L4.get (L : L4) : Nat → Int
  | 0 => L.a
  | 1 => L.b
  | 2 => L.c
  | _ => L.d
def L4.set (L : L4) : Nat → Int → L4
  | 0, v => { L with a := v }
  | 1, v => { L with b := v }
  | 2, v => { L with c := v }
  | _, v => { L with d := v }
/-- The first k lanes take their eight bytes in. -/
def upd (l : List UInt8) : Nat → L4 → L4
  | 0, L => L
  | k + 1, L => let M := upd l k L; M.set k (round (M.get k) (le ((l.drop (8 * k)).take 8)))
def eat : Nat → List UInt8 → L4 → L4
  | 0, _, L => L
  | n + 1, l, L => eat n (l.drop 32) (upd l 4 L)
def start : L4 := ⟨addU 11400714785074694791 14029467366897019727, 14029467366897019727, 0, IntKind.u64.wrap (-11400714785074694791)⟩
def lanes (l : List UInt8) : L4 := eat (l.length / 32) l start
def rest (l : List UInt8) : List UInt8 := l.drop (32 * (l.length / 32))

theorem upd_congr {l l' : List UInt8} (h : l.take 32 = l'.take 32) : ∀ k, k ≤ 4 → ∀ L, upd l k L = upd l' k L
  | 0, _, L => rfl
  | k + 1, hk, L => by
    unfold upd
    rw [upd_congr h k (by omega) L]
    have : (l.drop (8 * k)).take 8 = (l'.drop (8 * k)).take 8 := by
      have e : ∀ q : List UInt8, (q.drop (8 * k)).take 8 = ((q.take 32).drop (8 * k)).take 8 := fun q => by
        rw [List.drop_take, List.take_take, Nat.min_eq_left (by omega)]
      rw [e l, e l', h]
    rw [this]
theorem eat_succ (n : Nat) (l : List UInt8) : ∀ L, eat (n + 1) l L = upd (l.drop (32 * n)) 4 (eat n l L) := by
  induction n generalizing l with
  | zero => intro L; rfl
  | succ n ih =>
    intro L
    show eat (n + 1) (l.drop 32) (upd l 4 L) = _
    rw [ih (l.drop 32) (upd l 4 L), List.drop_drop, show 32 + 32 * n = 32 * (n + 1) by omega]
    rfl
theorem eat_append (a b : List UInt8) : ∀ n, 32 * n ≤ a.length → ∀ L, eat n (a ++ b) L = eat n a L := by
  intro n
  induction n generalizing a with
  | zero => intro _ L; rfl
  | succ n ih =>
    intro h L
    show eat n ((a ++ b).drop 32) (upd (a ++ b) 4 L) = eat n (a.drop 32) (upd a 4 L)
    rw [List.drop_append_of_le_length (by omega), ih (a.drop 32) (by rw [List.length_drop]; omega)]
    rw [upd_congr (l := a ++ b) (l' := a) (by rw [List.take_append_of_le_length (by omega)]) 4 (by omega)]
theorem eat_add (n m : Nat) (l : List UInt8) : ∀ L, eat (n + m) l L = eat m (l.drop (32 * n)) (eat n l L) := by
  induction n generalizing l with
  | zero => intro L; simp [eat]
  | succ n ih =>
    intro L
    rw [show n + 1 + m = (n + m) + 1 by omega]
    show eat (n + m) (l.drop 32) (upd l 4 L) = eat m (l.drop (32 * (n + 1))) (eat n (l.drop 32) (upd l 4 L))
    rw [ih (l.drop 32), List.drop_drop, show 32 + 32 * n = 32 * (n + 1) by omega]
/-- Bytes more: the rest goes ahead of them. -/
theorem lanes_append (a b : List UInt8) : lanes (a ++ b) = eat ((rest a ++ b).length / 32) (rest a ++ b) (lanes a) := by
  unfold lanes rest
  have hl : (a.drop (32 * (a.length / 32)) ++ b).length / 32 = (a ++ b).length / 32 - a.length / 32 := by
    rw [List.length_append, List.length_append, List.length_drop]; omega
  rw [hl]
  have h1 : (a ++ b).length / 32 = a.length / 32 + ((a ++ b).length / 32 - a.length / 32) := by rw [List.length_append]; omega
  conv => lhs; rw [h1]
  rw [eat_add, eat_append a b _ (by omega), List.drop_append_of_le_length (by omega)]
theorem rest_append (a b : List UInt8) : rest (a ++ b) = (rest a ++ b).drop (32 * ((rest a ++ b).length / 32)) := by
  unfold rest
  rw [show a.drop (32 * (a.length / 32)) ++ b = (a ++ b).drop (32 * (a.length / 32)) from (List.drop_append_of_le_length (by omega)).symm, List.drop_drop]
  congr 1
  rw [List.length_drop, List.length_append]; omega
theorem rest_length (a : List UInt8) : (rest a).length = a.length % 32 := by unfold rest; rw [List.length_drop]; omega

/-- The end: eights, a four, single bytes, and the last turns. -/
def eights : Nat → Int → List UInt8 → Int
  | 0, x, _ => x
  | n + 1, x, l => eights n (addU (mulU (turn (xr x (round 0 (le (l.take 8)))) 27) 11400714785074694791) 9650029242287828579) (l.drop 8)
def four (x : Int) (l : List UInt8) : Int := addU (mulU (turn (xr x (mulU (le (l.take 4)) 11400714785074694791)) 23) 14029467366897019727) 1609587929392839161
def one (x : Int) (c : UInt8) : Int := mulU (turn (xr x (mulU c.toNat 2870177450012600261)) 11) 11400714785074694791
def ones (x : Int) (l : List UInt8) : Int := l.foldl one x
def last1 (x : Int) : Int := mulU (xr x (x / 8589934592)) 14029467366897019727
def last2 (x : Int) : Int := mulU (xr x (x / 536870912)) 1609587929392839161
def last3 (x : Int) : Int := xr x (x / 4294967296)
def tail (x : Int) (l : List UInt8) : Int :=
  let y := eights (l.length / 8) x l
  let m := l.drop (8 * (l.length / 8))
  last3 (last2 (last1 (if 4 ≤ m.length then ones (four y m) (m.drop 4) else ones y m)))
def join1 (L : L4) : Int := addU (addU (addU (turn L.a 1) (turn L.b 7)) (turn L.c 12)) (turn L.d 18)
def join2 (x a : Int) : Int := addU (mulU (xr x (round 0 a)) 11400714785074694791) 9650029242287828579
def head (l : List UInt8) : Int := if 32 ≤ l.length then join2 (join2 (join2 (join2 (join1 (lanes l)) (lanes l).a) (lanes l).b) (lanes l).c) (lanes l).d else 2870177450012600261
/-- XXH64. -/
def xxh64 (l : List UInt8) : Int := tail (addU (head l) l.length) (rest l)

theorem add_p5 (n : Nat) (h : n ≤ 140737488355328) : addU 2870177450012600261 (n : Int) = 2870177450012600261 + (n : Int) := by
  unfold addU
  exact IntWalk.u64_in _ (by omega)
/-- The first lanes, turned and added up. -/
def jn : Nat → Int
  | 0 => 1
  | 1 => 7
  | 2 => 12
  | _ => 18
def jsum (L : L4) : Nat → Int
  | 0 => 0
  | i + 1 => addU (jsum L i) (turn (L.get i) (jn i))
theorem jsum_4 (L : L4) : jsum L 4 = join1 L := by
  show addU (addU (addU (addU 0 (turn L.a 1)) (turn L.b 7)) (turn L.c 12)) (turn L.d 18) = _
  rw [add0_turn]
  rfl
def jlan (L : L4) (x : Int) : Nat → Int
  | 0 => x
  | i + 1 => join2 (jlan L x i) (L.get i)
theorem head_ge {l : List UInt8} (h : 32 ≤ l.length) : head l = jlan (lanes l) (jsum (lanes l) 4) 4 := by
  unfold head
  rw [if_pos h, jsum_4]
  rfl
theorem head_lt {l : List UInt8} (h : ¬ 32 ≤ l.length) : head l = 2870177450012600261 := by unfold head; rw [if_neg h]
def eight (x : Int) (l : List UInt8) : Int := addU (mulU (turn (xr x (round 0 (le (l.take 8)))) 27) 11400714785074694791) 9650029242287828579
theorem tail_eight {x : Int} {l : List UInt8} (h : 8 ≤ l.length) : tail x l = tail (eight x l) (l.drop 8) := by
  unfold tail
  have e1 : l.length / 8 = (l.drop 8).length / 8 + 1 := by rw [List.length_drop]; omega
  have e2 : l.drop (8 * (l.length / 8)) = (l.drop 8).drop (8 * ((l.drop 8).length / 8)) := by
    rw [List.drop_drop]; congr 1; omega
  simp only []
  rw [e2]
  conv => lhs; rw [e1]
  rfl
theorem tail_four {x : Int} {l : List UInt8} (h : l.length < 8) (h4 : 4 ≤ l.length) : tail x l = last3 (last2 (last1 (ones (four x l) (l.drop 4)))) := by
  unfold tail
  have e1 : l.length / 8 = 0 := by omega
  simp only [e1, Nat.mul_zero, List.drop_zero, eights]
  rw [if_pos h4]
theorem tail_ones {x : Int} {l : List UInt8} (h4 : l.length < 4) : tail x l = last3 (last2 (last1 (ones x l))) := by
  unfold tail
  have e1 : l.length / 8 = 0 := by omega
  simp only [e1, Nat.mul_zero, List.drop_zero, eights]
  rw [if_neg (by omega)]
theorem ones_step {x : Int} {l : List UInt8} {i : Nat} (h : i < l.length) : ones x (l.drop i) = ones (one x (l.getD i 0)) (l.drop (i + 1)) := by
  rw [List.drop_eq_getElem_cons h]
  show ones (one x l[i]) (l.drop (i + 1)) = _
  simp [List.getD, h]
end Go.Proofs.Ytjhmebkkdgpneaa.Xxh
