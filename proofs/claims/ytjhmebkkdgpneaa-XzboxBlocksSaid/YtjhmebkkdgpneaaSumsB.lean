/- The contracts of XXH64's small functions, in the program and in the reference. -/
import Derived.Test.YtjhmebkkdgpneaaSumsA
import Derived.Test.YtjhmebkkdgpneaaXxhN
namespace Go.Proofs.Ytjhmebkkdgpneaa
open Go.RowKit

theorem turn_any (x n : Int) (w : World) (hn : 1 ≤ n ∧ n ≤ 63) :
    Calls Try.prog 71 #[.int .u64 x, .int .i64 n] w fun e w' => e = .returned (.int .u64 (Xxh.turn x n)) ∧ ∃ d, w' = w.drewN d := by
  obtain ⟨h0, h1⟩ := hn
  go_enter Try.func71, Try.ntmps71
  go_wp2
  go_quiet (fail)
  go_wp2
  go_ret
  exact ⟨rfl, _, rfl⟩

theorem round_any (a x : Int) (w : World) :
    Calls Try.prog 69 #[.int .u64 a, .int .u64 x] w fun e w' => e = .returned (.int .u64 (Xxh.round a x)) ∧ ∃ d, w' = w.drewN d := by
  go_enter Try.func69, Try.ntmps69
  go_wp2_with fail
  refine (turn_any _ _ _ (by omega)).mono ?_; rintro e w1 ⟨rfl, d, rfl⟩
  go_wp2
  go_ret
  exact ⟨rfl, _, rfl⟩

theorem little_any (A : Option Addr) (bs : List UInt8) (B c m : Nat) (w : World) (hr : BRow w B A bs) (hm : m = bs.length) (hl : bs.length ≤ 8) :
    Calls Try.prog 70 #[.slice A m c] w fun e w' => e = .returned (.int .u64 (Xxh.le bs : Int)) ∧ w = w' := by
  subst hm
  have HR := Lib.hid hr
  clear hr
  go_enter Try.func70, Try.ntmps70
  go_wp2
  go_loop [2, 3] (fun x i => ∃ k : Nat, k ≤ bs.length ∧ i = .int .i64 ((k : Int) - 1) ∧ x = .int .u64 (Xxh.le (bs.drop k) : Int)) (fun _ i => (intOf i + 1).toNat)
  case atStart => exact ⟨bs.length, by omega, rfl, by simp [Xxh.le]⟩
  case round =>
    obtain ⟨k, hk, rfl, rfl⟩ := hrel
    by_cases h0 : 0 < k
    · obtain ⟨j, rfl⟩ : ∃ j, k = j + 1 := ⟨k - 1, by omega⟩
      obtain ⟨ab, aoff, hA, hab, hcell⟩ := HR.out (by omega)
      subst hA
      have hx := hcell j (by omega)
      unfold byteV at hx
      have hd : bs.drop j = bs.getD j 0 :: bs.drop (j + 1) := by
        rw [List.drop_eq_getElem_cons (by omega)]; simp [List.getD, show j < bs.length by omega]
      have hs := Xxh.le_cons_raw (b := bs.getD j 0) (bs := bs.drop (j + 1)) (by rw [List.length_drop]; omega)
      rw [← hd] at hs
      generalize Xxh.le (bs.drop (j + 1)) = y at *
      generalize hzz : Xxh.le (bs.drop j) = z at *
      generalize bs.getD j 0 = u at *
      have HZ := Lib.hid hzz
      have huu := u.toNat_lt
      have hu0 : (u.toNat : Int) ≤ 255 := by omega
      clear hd hcell hzz huu
      have hji : ((j + 1 : Nat) : Int) - 1 = (j : Int) := by omega
      rw [hji]
      clear hji
      go_wp2
      exact ⟨⟨j, by omega, rfl, by rw [HZ.out]⟩, by simp [intOf]⟩
    · have hk0 : k = 0 := by omega
      subst hk0
      simp only [List.drop_zero]
      go_wp2
      go_ret
      exact ⟨rfl, rfl⟩

end Go.Proofs.Ytjhmebkkdgpneaa
