/- The contracts of XXH64's small functions, in the program and in the reference. -/
import Derived.Test.YtmijkndokcibpaaSumsA
import Derived.Test.YtmijkndokcibpaaXxhN
namespace Go.Proofs.Ytmijkndokcibpaa
open Go.RowKit

theorem turn_any (x n : Int) (w : World) (hn : 1 ≤ n ∧ n ≤ 63) :
    Calls Try.prog 48 #[.int .u64 x, .int .i64 n] w fun e w' => e = .returned (.int .u64 (Xxh.turn x n)) ∧ ∃ d, w' = w.drewN d := by
  obtain ⟨h0, h1⟩ := hn
  go_enter Try.func48, Try.ntmps48
  go_wp2
  go_quiet (fail)
  go_wp2
  go_ret
  exact ⟨rfl, _, rfl⟩

theorem round_any (a x : Int) (w : World) :
    Calls Try.prog 46 #[.int .u64 a, .int .u64 x] w fun e w' => e = .returned (.int .u64 (Xxh.round a x)) ∧ ∃ d, w' = w.drewN d := by
  go_enter Try.func46, Try.ntmps46
  go_wp2_with fail
  refine (turn_any _ _ _ (by omega)).mono ?_; rintro e w1 ⟨rfl, d, rfl⟩
  go_wp2
  go_ret
  exact ⟨rfl, _, rfl⟩

theorem rturn_any (x n : Int) (w : World) (hn : 1 ≤ n ∧ n ≤ 63) :
    Calls Try.prog 24 #[.int .u64 x, .int .i64 n] w fun e w' => e = .returned (.int .u64 (Xxh.turn x n)) ∧ ∃ d, w' = w.drewN d := by
  obtain ⟨h0, h1⟩ := hn
  go_enter Try.func24, Try.ntmps24
  go_wp2
  go_quiet (fail)
  go_wp2
  go_ret
  exact ⟨rfl, _, rfl⟩

theorem rround_any (a x : Int) (w : World) :
    Calls Try.prog 22 #[.int .u64 a, .int .u64 x] w fun e w' => e = .returned (.int .u64 (Xxh.round a x)) ∧ ∃ d, w' = w.drewN d := by
  go_enter Try.func22, Try.ntmps22
  go_wp2_with fail
  refine (rturn_any _ _ _ (by omega)).mono ?_; rintro e w1 ⟨rfl, d, rfl⟩
  go_wp2
  go_ret
  exact ⟨rfl, _, rfl⟩

theorem little_any (A : Option Addr) (bs : List UInt8) (B c m : Nat) (w : World) (hr : BRow w B A bs) (hm : m = bs.length) (hl : bs.length ≤ 8) :
    Calls Try.prog 47 #[.slice A m c] w fun e w' => e = .returned (.int .u64 (Xxh.le bs : Int)) ∧ w = w' := by
  subst hm
  have HR := Lib.hid hr
  clear hr
  go_enter Try.func47, Try.ntmps47
  go_wp2
  go_loop [2, 3] (fun x i => ∃ k : Nat, k ≤ bs.length ∧ i = .int .i64 ((k : Int) - 1) ∧ x = .int .u64 (Xxh.le (bs.drop k) : Int)) (fun _ i => (intOf i + 1).toNat)
  case atStart => exact ⟨bs.length, by omega, rfl, by simp [Xxh.le]⟩
  case round =>
    obtain ⟨k, hk, rfl, rfl⟩ := hrel
    by_cases h0 : 0 < k
    · obtain ⟨j, rfl⟩ : ∃ j, k = j + 1 := ⟨k - 1, by omega⟩
      obtain ⟨ab, aoff, hA, hab, hcell⟩ := HR.out (by omega)
      subst hA
      have hx := hcell j (by omega)
      unfold byteV at hx
      have hd : bs.drop j = bs.getD j 0 :: bs.drop (j + 1) := by
        rw [List.drop_eq_getElem_cons (by omega)]; simp [List.getD, show j < bs.length by omega]
      have hs := Xxh.le_cons_raw (b := bs.getD j 0) (bs := bs.drop (j + 1)) (by rw [List.length_drop]; omega)
      rw [← hd] at hs
      generalize Xxh.le (bs.drop (j + 1)) = y at *
      generalize hzz : Xxh.le (bs.drop j) = z at *
      generalize bs.getD j 0 = u at *
      have HZ := Lib.hid hzz
      have huu := u.toNat_lt
      have hu0 : (u.toNat : Int) ≤ 255 := by omega
      clear hd hcell hzz huu
      have hji : ((j + 1 : Nat) : Int) - 1 = (j : Int) := by omega
      rw [hji]
      clear hji
      go_wp2
      exact ⟨⟨j, by omega, rfl, by rw [HZ.out]⟩, by simp [intOf]⟩
    · have hk0 : k = 0 := by omega
      subst hk0
      simp only [List.drop_zero]
      go_wp2
      go_ret
      exact ⟨rfl, rfl⟩

theorem rread_any (A : Option Addr) (bs : List UInt8) (B c m q : Nat) (n : Int) (w : World) (hr : BRow w B A bs) (hq : q = bs.length) (hn : n = m) (hl : m ≤ 8) (hm : m ≤ bs.length) (hb : bs.length ≤ 9223372036854775807) :
    Calls Try.prog 23 #[.slice A q c, .int .i64 n] w fun e w' => e = .returned (.int .u64 (Xxh.le (bs.take m) : Int)) ∧ ∃ d, w' = w.drewN d := by
  subst hn
  subst hq
  have HR := Lib.hid hr
  clear hr
  go_enter Try.func23, Try.ntmps23
  go_wp2
  go_loopw [5, 6] (fun x i wr => ∃ k d : Nat, k ≤ m ∧ i = .int .i64 k ∧ x = .int .u64 (Xxh.le (bs.take k) : Int) ∧ wr = w.drewN d) (fun _ i _ => m - (intOf i).toNat)
  case atStart => exact ⟨0, 0, by omega, rfl, by simp [Xxh.le], rfl⟩
  case round =>
    obtain ⟨k, d, hk, rfl, rfl, rfl⟩ := hrel
    by_cases h0 : k < m
    · obtain ⟨ab, aoff, hA, hab, hcell⟩ := HR.out (by omega)
      subst hA
      have hx := hcell k (by omega)
      unfold byteV at hx
      have hd : bs.take (k + 1) = bs.take k ++ [bs.getD k 0] := by
        rw [List.take_succ_eq_append_getElem (by omega)]; simp [List.getD, show k < bs.length by omega]
      have hs := Xxh.le_snoc_raw (b := bs.getD k 0) (bs := bs.take k) (by rw [List.length_take]; omega)
      rw [← hd, List.length_take, Nat.min_eq_left (by omega)] at hs
      generalize hzz : Xxh.le (bs.take (k + 1)) = z at *
      generalize Xxh.le (bs.take k) = y at *
      generalize bs.getD k 0 = u at *
      have HZ := Lib.hid hzz
      have huu := u.toNat_lt
      have hu0 : (u.toNat : Int) ≤ 255 := by omega
      clear hd hcell hzz huu
      go_wp2
      exact ⟨⟨k + 1, d, by omega, by go_num, by rw [HZ.out], rfl⟩, by simp [intOf]; omega⟩
    · have hk0 : k = m := by omega
      subst hk0
      go_wp2
      go_ret
      exact ⟨rfl, _, rfl⟩
end Go.Proofs.Ytmijkndokcibpaa
