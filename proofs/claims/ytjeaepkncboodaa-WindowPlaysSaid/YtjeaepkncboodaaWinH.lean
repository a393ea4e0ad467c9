/- The contracts of the window: New's refusals, Clear, and a window that was dropped. -/
import Derived.Test.YtjeaepkncboodaaWinW
namespace Go.Proofs.Ytjeaepkncboodaa
open Go.RowKit Win
set_option linter.unusedVariables false
set_option linter.unusedSimpArgs false

theorem new_size (S : Int) (lv : Value) (w : World) (h : S < 1 ∨ 16777216 < S) : Calls Try.prog 9 #[.int .i64 S, lv] w fun e w' => e = .returned (.tuple #[.pointer none, .int .i64 2]) ∧ w = w' := by
  have h3 : S < 1 ∨ (1 ≤ S ∧ 16777216 < S) := by omega
  clear h
  rcases h3 with h | ⟨h, h4⟩
  all_goals
    go_enter Try.func9, Try.ntmps9
    go_wp2
    go_ret2
    exact ⟨rfl, rfl⟩
theorem new_over (k S : Nat) (B n m : Int) (w : World) (hl : Led w k B n m) (hB : 0 ≤ B ∧ B ≤ 16777216) (hn : 0 ≤ n ∧ n ≤ B) (hm : n ≤ m ∧ m ≤ B) (h1 : 1 ≤ S) (h2 : S ≤ 16777216) (hc : B - n < S) :
    Calls Try.prog 9 #[.int .i64 S, .pointer (some ⟨k, 0, none⟩)] w fun e w' => e = .returned (.tuple #[.pointer none, .int .i64 40]) ∧ Led w' k B n m ∧ Frm (· = k) w w' := by
  have HL := Lib.hid hl
  have HC := Lib.hid (ch_over (B := B) (n := n) m (k := (S : Int)) (by omega) hc)
  clear hl hc
  go_enter Try.func9, Try.ntmps9
  go_wp2_with (go_at_call 26; refine (charge_led _ B n m _ _ HL.out hB hn hm).mono ?_; rintro e w1 ⟨rfl, hL1, hF1⟩; rw [HC.out.1]; rw [HC.out.2.1, HC.out.2.2] at hL1)
  go_ret2
  exact ⟨rfl, hL1, hF1⟩
theorem put_gone (b : Nat) (rv av sv : Value) (A : Option Addr) (n c : Nat) (w : World) (hp : Pts w b #[rv, av, sv, .pointer none] 57) :
    Calls Try.prog 11 #[.pointer (some ⟨b, 0, none⟩), .slice A n c] w fun e w' => e = .returned (.tuple #[]) ∧ w = w' := by
  have HP := Lib.hid hp
  clear hp
  go_enter Try.func11, Try.ntmps11
  go_wp2_with (go_at_call 27; refine (dropped_yes _ _ _ _ _ HP.out).mono ?_; rintro e w1 ⟨rfl, rfl⟩)
  refine bodyPost_ret (results_none rfl _ _ _) rfl ?_
  exact ⟨rfl, rfl⟩
theorem drop_gone (b : Nat) (rv av sv : Value) (w : World) (hp : Pts w b #[rv, av, sv, .pointer none] 57) :
    Calls Try.prog 14 #[.pointer (some ⟨b, 0, none⟩)] w fun e w' => e = .returned (.tuple #[]) ∧ w = w' := by
  have HP := Lib.hid hp
  clear hp
  go_enter Try.func14, Try.ntmps14
  go_wp2_with (go_at_call 27; refine (dropped_yes _ _ _ _ _ HP.out).mono ?_; rintro e w1 ⟨rfl, rfl⟩)
  refine bodyPost_ret (results_none rfl _ _ _) rfl ?_
  exact ⟨rfl, rfl⟩
theorem at_gone (b : Nat) (back : Int) (rv av sv : Value) (w : World) (hp : Pts w b #[rv, av, sv, .pointer none] 57) :
    Calls Try.prog 20 #[.pointer (some ⟨b, 0, none⟩), .int .i64 back] w fun e w' => e = .returned (.tuple #[.int .u8 0, .bool false]) ∧ w = w' := by
  have HP := Lib.hid hp
  clear hp
  go_enter Try.func20, Try.ntmps20
  go_wp2_with (go_at_call 27; refine (dropped_yes _ _ _ _ _ HP.out).mono ?_; rintro e w1 ⟨rfl, rfl⟩)
  go_ret2
  exact ⟨rfl, rfl⟩
theorem at_out (base b k S a : Nat) (back : Int) (v : Value) (R : List UInt8) (w : World) (hw : WinAt w base b k S v R a) (hb : back < 1 ∨ (R.length : Int) < back) :
    Calls Try.prog 20 #[.pointer (some ⟨b, 0, none⟩), .int .i64 back] w fun e w' => e = .returned (.tuple #[.int .u8 0, .bool false]) ∧ w = w' := by
  obtain ⟨A0, k0, rfl, hc0, hm0, hr0⟩ := hw.o.slice
  have c0 : w.cell? ⟨b, 0, none⟩ = some (.slice A0 R.length k0) := by rw [hw.p.cell]; rfl
  have HW := Lib.hid hw
  clear hw hr0 hm0
  have h3 : back < 1 ∨ (1 ≤ back ∧ (R.length : Int) < back) := by omega
  clear hb
  rcases h3 with h | ⟨h, h4⟩
  all_goals
    go_enter Try.func20, Try.ntmps20
    go_wp2_with (go_at_call 27; refine (dropped_no _ _ _ _ _ _ HW.out.p).mono ?_; rintro e w1 ⟨rfl, rfl⟩)
    go_ret2
    exact ⟨rfl, rfl⟩
theorem clear_win (base b k S a : Nat) (v : Value) (R : List UInt8) (w : World) (hw : WinAt w base b k S v R a) :
    Calls Try.prog 22 #[.pointer (some ⟨b, 0, none⟩)] w fun e w' => ∃ v' : Value, e = .returned (.tuple #[]) ∧ WinAt w' base b k S v' [] 0 ∧ Frm (fun x => x = b) w w' ∧ v'.ownBlock = v.ownBlock := by
  obtain ⟨A0, k0, rfl, hc0, hm0, hr0⟩ := hw.o.slice
  have c0 : w.cell? ⟨b, 0, none⟩ = some (.slice A0 R.length k0) := by rw [hw.p.cell]; rfl
  have c1 : w.cell? ⟨b, 1, none⟩ = some (.int .i64 a) := by rw [hw.p.cell]; rfl
  have f0 := hw.p.frozen 0
  have f1 := hw.p.frozen 1
  have HW := Lib.hid hw
  have hsz := fun w => slice_zero A0 R.length k0 w
  clear hw hr0 hm0
  go_enter Try.func22, Try.ntmps22
  go_wp2
  go_end0
  have hcut := HW.out.o.cut (k := 0) (Nat.zero_le _)
  rw [List.take_zero] at hcut
  have hoff : (Value.slice A0 0 k0).ownBlock ≠ some b := fun e => HW.out.off b (by rw [← e]; cases A0 <;> rfl) rfl
  exact ⟨.slice A0 0 k0, rfl, ⟨(HW.out.p.set 0 _).set 1 _, (hcut.other (p := ⟨b, 0, none⟩) hoff _).other (p := ⟨b, 1, none⟩) hoff _, Nat.zero_le _, by have := HW.out.lt; omega, fun _ => rfl⟩, ((Frm.refl _ w).setCell (by rfl) _).setCell (by rfl) _, by cases A0 <;> rfl⟩
end Go.Proofs.Ytjeaepkncboodaa
