/- The contracts of the window: Put in one, no window, New, Held, Clear, Drop. -/
import Derived.Test.YteghpnlamdgpnaaWinD
namespace Go.Proofs.Yteghpnlamdgpnaa
open Go.RowKit Win
set_option linter.unusedVariables false
set_option linter.unusedSimpArgs false

theorem put_any (base b k S a c B n : Nat) (v : Value) (R : List UInt8) (A : Option Addr) (bs : List UInt8) (w : World) (hw : WinAt w base b k S v R a) (hn : n = bs.length) (hr : BRow w B A bs) (hoff : BOff (fun x => x = b ∨ v.ownBlock = some x) A bs) (hc : bs.length ≤ c) (hcm : c ≤ maxLen) (hlen : bs.length ≤ 16777216) (hbase : base ≤ w.heap.size)
    (hS2 : S ≤ 16777216) (hB : B ≤ w.heap.size) :
    Calls Try.prog 44 #[.pointer (some ⟨b, 0, none⟩), .slice A n c] w fun e w' => ∃ (v' : Value) (R' : List UInt8) (a' : Nat), e = .returned (.tuple #[]) ∧ WinAt w' base b k S v' R' a' ∧ content R' a' = lastN S (content R a ++ bs) ∧
      Frm (fun x => x = b ∨ v.ownBlock = some x) w w' ∧ (v'.ownBlock = v.ownBlock ∨ v'.ownBlock = some w.heap.size) := by
  subst hn
  by_cases hS : S ≤ bs.length
  · refine (put_big_any base b k S a c B v R A bs w hw hr hc hcm hlen hbase hS (by have := hw.lt; omega) hB).mono ?_
    rintro e w' ⟨v', rfl, h1, h2, h3⟩
    exact ⟨v', _, 0, rfl, h1, by rw [content_zero, put_big hS], h2, h3⟩
  · exact put_small_any base b k S a c B v R A bs w hw hr hoff hc hcm hlen hbase (by omega) hS2 hB

theorem put_nil (A : Option Addr) (n c : Nat) (w : World) :
    Calls Try.prog 44 #[.pointer none, .slice A n c] w fun e w' => e = .returned (.tuple #[]) ∧ w = w' := by
  go_enter Try.func44, Try.ntmps44
  go_wp2
  refine bodyPost_ret (results_none rfl _ _ _) rfl ?_
  exact ⟨rfl, rfl⟩
theorem copy_nil (back n : Int) (w : World) : Calls Try.prog 33 #[.pointer none, .int .i64 back, .int .i64 n] w fun e w' => e = .returned (.tuple #[.slice none 0 0, .int .i64 1]) ∧ w = w' := by
  go_enter Try.func33, Try.ntmps33
  go_wp2
  go_ret2
  exact ⟨rfl, rfl⟩
theorem at_nil (back : Int) (w : World) : Calls Try.prog 42 #[.pointer none, .int .i64 back] w fun e w' => e = .returned (.tuple #[.int .u8 0, .bool false]) ∧ w = w' := by
  go_enter Try.func42, Try.ntmps42
  go_wp2
  go_ret2
  exact ⟨rfl, rfl⟩
theorem new_nil (S : Nat) (w : World) (h1 : 1 ≤ S) (h2 : S ≤ 16777216) : Calls Try.prog 18 #[.int .i64 S, .pointer none] w fun e w' => e = .returned (.tuple #[.pointer none, .int .i64 1]) ∧ w = w' := by
  go_enter Try.func18, Try.ntmps18
  go_wp2_with (go_at_call 35; refine (charge_nil _ _).mono ?_; rintro e w1 ⟨rfl, rfl⟩)
  go_ret2
  exact ⟨rfl, rfl⟩
/-- A window of a size that may be, and what the ledger answers. -/
theorem new_win (k S : Nat) (B n m : Int) (w : World) (hl : Led w k B n m) (hB : 0 ≤ B ∧ B ≤ 16777216) (hn : 0 ≤ n ∧ n ≤ B) (hm : n ≤ m ∧ m ≤ B) (h1 : 1 ≤ S) (h2 : S ≤ 16777216) (hc : chE B n S = 0) :
    Calls Try.prog 18 #[.int .i64 S, .pointer (some ⟨k, 0, none⟩)] w fun e w' => ∃ b, e = .returned (.tuple #[.pointer (some ⟨b, 0, none⟩), .int .i64 0]) ∧ WinAt w' w.heap.size b k S (.slice none 0 0) [] 0 ∧ w.heap.size ≤ b ∧
      Led w' k B (chN B n S) (chM B n m S) ∧ Frm (· = k) w w' := by
  have HL := Lib.hid hl
  have HC := Lib.hid hc
  have klt := Pts.lt hl
  clear hl hc
  go_enter Try.func18, Try.ntmps18
  go_wp2_with (go_at_call 35; refine (charge_led _ B n m _ _ HL.out hB hn hm).mono ?_; rintro e w1 ⟨rfl, hL1, hF1⟩; rw [HC.out])
  go_ret2
  have hp := Pts.new w1 #[.slice none 0 0, .int .i64 ((0 : Nat) : Int), .int .i64 S, .pointer (some ⟨k, 0, none⟩)] 99
  exact ⟨w1.heap.size, rfl, ⟨hp, OwnB.nil _ _ _, Nat.zero_le _, by omega, fun _ => rfl⟩, hF1.size, Pts.alloc hL1 _, hF1.alloc _⟩
end Go.Proofs.Yteghpnlamdgpnaa
