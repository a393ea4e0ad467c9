/- The last bytes of a content, in plain Lean: a ring. -/
import Derived.Test.YteghpnlamdgpnaaBytes
namespace Go.Proofs.Yteghpnlamdgpnaa.Win
open Go.RowKit
set_option linter.unusedVariables false
set_option linter.unusedSimpArgs false

/-- The last n of them. -/
def lastN (n : Nat) (l : List UInt8) : List UInt8 := l.drop (l.length - n)
/-- What a ring has, the oldest first. -/
def content (R : List UInt8) (a : Nat) : List UInt8 := R.drop a ++ R.take a
theorem content_zero (R : List UInt8) : content R 0 = R := by simp [content]
theorem content_length (R : List UInt8) (a : Nat) : (content R a).length = R.length := by
  unfold content; rw [List.length_append, List.length_drop, List.length_take]; omega
theorem lastN_length (n : Nat) (l : List UInt8) : (lastN n l).length = min n l.length := by
  unfold lastN; rw [List.length_drop]; omega
theorem lastN_all {n : Nat} {l : List UInt8} (h : l.length ≤ n) : lastN n l = l := by
  unfold lastN; rw [show l.length - n = 0 by omega, List.drop_zero]
theorem lastN_lastN (n : Nat) (x y : List UInt8) : lastN n (lastN n x ++ y) = lastN n (x ++ y) := by
  unfold lastN
  rw [List.length_append, List.length_append, List.length_drop]
  by_cases h : x.length ≤ n
  · rw [show x.length - n = 0 by omega, List.drop_zero]; congr 1
  · by_cases hy : y.length ≤ n
    · rw [List.drop_append_of_le_length (by rw [List.length_drop]; omega), List.drop_append_of_le_length (by omega), List.drop_drop]
      congr 2; omega
    · have e1 : (x.drop (x.length - n) ++ y).drop (x.length - (x.length - n) + y.length - n) = y.drop (y.length - n) := by
        rw [List.drop_append, List.drop_of_length_le (by rw [List.length_drop]; omega), List.nil_append, List.length_drop]
        congr 1; omega
      have e2 : (x ++ y).drop (x.length + y.length - n) = y.drop (y.length - n) := by
        rw [List.drop_append, List.drop_of_length_le (by omega), List.nil_append]
        congr 1; omega
      rw [e1, e2]
theorem put_big {C b : List UInt8} {S : Nat} (h : S ≤ b.length) : lastN S (C ++ b) = b.drop (b.length - S) := by
  unfold lastN
  rw [List.length_append, List.drop_append, List.drop_of_length_le (by omega), List.nil_append]
  congr 1; omega
/-- Bytes n of them go over the ring's from a on. -/
def over (R b : List UInt8) (a n : Nat) : List UInt8 := R.take a ++ b.take n ++ R.drop (a + n)
theorem over_length {R b : List UInt8} {a n : Nat} (h1 : a + n ≤ R.length) (h2 : n ≤ b.length) : (over R b a n).length = R.length := by
  unfold over; simp only [List.length_append, List.length_take, List.length_drop]; omega
theorem over_content {R b : List UInt8} {a n : Nat} (h1 : a + n ≤ R.length) (h2 : n ≤ b.length) (ha : a < R.length) (hn : n ≤ R.length) : content (over R b a n) ((a + n) % R.length) = lastN R.length (content R a ++ b.take n) := by
  have lb : (b.take n).length = n := by rw [List.length_take]; omega
  have la : (R.take a).length = a := by rw [List.length_take]; omega
  have hr : lastN R.length (content R a ++ b.take n) = R.drop (a + n) ++ (R.take a ++ b.take n) := by
    unfold lastN content
    have e : (R.drop a ++ R.take a ++ b.take n).length - R.length = n := by
      simp only [List.length_append, List.length_drop, la, lb]; omega
    rw [e, List.append_assoc, List.drop_append_of_le_length (by rw [List.length_drop]; omega), List.drop_drop]
  rw [hr]
  by_cases he : a + n = R.length
  · rw [he, Nat.mod_self, content_zero, over, he]
    simp
  · rw [Nat.mod_eq_of_lt (by omega), content, over]
    have e1 : (R.take a ++ b.take n).length = a + n := by rw [List.length_append, la, lb]
    have e2 : (R.take a ++ b.take n ++ R.drop (a + n)).drop (a + n) = R.drop (a + n) := by rw [← e1, List.drop_left]
    have e3 : (R.take a ++ b.take n ++ R.drop (a + n)).take (a + n) = R.take a ++ b.take n := by rw [← e1, List.take_left]
    rw [e2, e3]
theorem content_at {R : List UInt8} {a back : Nat} (ha : a ≤ R.length) (h1 : 1 ≤ back) (h2 : back ≤ R.length) : R.getD ((a + R.length - back) % R.length) 0 = (content R a).getD (R.length - back) 0 := by
  unfold content
  simp only [List.getD]
  congr 1
  by_cases h : back ≤ a
  · rw [List.getElem?_append_right (by rw [List.length_drop]; omega), List.length_drop, List.getElem?_take, if_pos (by omega)]
    have e : (a + R.length - back) % R.length = a - back := by
      rw [show a + R.length - back = (a - back) + R.length by omega, Nat.add_mod_right, Nat.mod_eq_of_lt (by omega)]
    rw [e]; congr 1; omega
  · rw [List.getElem?_append_left (by rw [List.length_drop]; omega), List.getElem?_drop, Nat.mod_eq_of_lt (by omega)]
    congr 1; omega
end Go.Proofs.Yteghpnlamdgpnaa.Win
