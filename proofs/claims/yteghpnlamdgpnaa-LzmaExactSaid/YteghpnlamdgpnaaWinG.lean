/- The contracts of the window: what Copy refuses, Drop. -/
import Derived.Test.YteghpnlamdgpnaaWinF
namespace Go.Proofs.Yteghpnlamdgpnaa
open Go.RowKit Win
set_option linter.unusedVariables false
set_option linter.unusedSimpArgs false

theorem copy_gone (b : Nat) (back n : Int) (rv av sv : Value) (w : World) (hp : Pts w b #[rv, av, sv, .pointer none] 99) : Calls Try.prog 33 #[.pointer (some ⟨b, 0, none⟩), .int .i64 back, .int .i64 n] w fun e w' => e = .returned (.tuple #[.slice none 0 0, .int .i64 5]) ∧ w = w' := by
  have HP := Lib.hid hp
  clear hp
  go_enter Try.func33, Try.ntmps33
  go_wp2_with (go_at_call 50; refine (dropped_yes _ _ _ _ _ HP.out).mono ?_; rintro e w1 ⟨rfl, rfl⟩)
  go_ret2
  exact ⟨rfl, rfl⟩
theorem copy_arg (base b k S a : Nat) (back n : Int) (v : Value) (R : List UInt8) (w : World) (hw : WinAt w base b k S v R a) (hn : n < 0 ∨ 16777216 < n) :
    Calls Try.prog 33 #[.pointer (some ⟨b, 0, none⟩), .int .i64 back, .int .i64 n] w fun e w' => e = .returned (.tuple #[.slice none 0 0, .int .i64 2]) ∧ w = w' := by
  have HW := Lib.hid hw
  clear hw
  have h3 : n < 0 ∨ (0 ≤ n ∧ 16777216 < n) := by omega
  clear hn
  rcases h3 with h | ⟨h, h4⟩
  all_goals
    go_enter Try.func33, Try.ntmps33
    go_wp2_with (go_at_call 50; refine (dropped_no _ _ _ _ _ _ HW.out.p).mono ?_; rintro e w1 ⟨rfl, rfl⟩)
    go_ret2
    exact ⟨rfl, rfl⟩
theorem copy_bad (base b k S a : Nat) (back n : Int) (v : Value) (R : List UInt8) (w : World) (hw : WinAt w base b k S v R a) (hn : 0 ≤ n ∧ n ≤ 16777216) (hb : back < 1 ∨ (R.length : Int) < back) :
    Calls Try.prog 33 #[.pointer (some ⟨b, 0, none⟩), .int .i64 back, .int .i64 n] w fun e w' => e = .returned (.tuple #[.slice none 0 0, .int .i64 11]) ∧ w = w' := by
  obtain ⟨A0, k0, rfl, hc0, hm0, hr0⟩ := hw.o.slice
  have c0 : w.cell? ⟨b, 0, none⟩ = some (.slice A0 R.length k0) := by rw [hw.p.cell]; rfl
  have HW := Lib.hid hw
  obtain ⟨n0, n1⟩ := hn
  clear hw hr0 hm0
  have h3 : back < 1 ∨ (1 ≤ back ∧ (R.length : Int) < back) := by omega
  clear hb
  rcases h3 with h | ⟨h, h4⟩
  all_goals
    go_enter Try.func33, Try.ntmps33
    go_wp2_with (go_at_call 50; refine (dropped_no _ _ _ _ _ _ HW.out.p).mono ?_; rintro e w1 ⟨rfl, rfl⟩)
    go_ret2
    exact ⟨rfl, rfl⟩
end Go.Proofs.Yteghpnlamdgpnaa
