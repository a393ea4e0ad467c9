/- The contracts of the window: what Copy refuses, Drop. -/
import Derived.Test.YtjeaepkncboodaaWinF
namespace Go.Proofs.Ytjeaepkncboodaa
open Go.RowKit Win
set_option linter.unusedVariables false
set_option linter.unusedSimpArgs false

theorem copy_gone (b : Nat) (back n : Int) (rv av sv : Value) (w : World) (hp : Pts w b #[rv, av, sv, .pointer none] 57) : Calls Try.prog 12 #[.pointer (some ⟨b, 0, none⟩), .int .i64 back, .int .i64 n] w fun e w' => e = .returned (.tuple #[.slice none 0 0, .int .i64 5]) ∧ w = w' := by
  have HP := Lib.hid hp
  clear hp
  go_enter Try.func12, Try.ntmps12
  go_wp2_with (go_at_call 27; refine (dropped_yes _ _ _ _ _ HP.out).mono ?_; rintro e w1 ⟨rfl, rfl⟩)
  go_ret2
  exact ⟨rfl, rfl⟩
theorem copy_arg (base b k S a : Nat) (back n : Int) (v : Value) (R : List UInt8) (w : World) (hw : WinAt w base b k S v R a) (hn : n < 0 ∨ 16777216 < n) :
    Calls Try.prog 12 #[.pointer (some ⟨b, 0, none⟩), .int .i64 back, .int .i64 n] w fun e w' => e = .returned (.tuple #[.slice none 0 0, .int .i64 2]) ∧ w = w' := by
  have HW := Lib.hid hw
  clear hw
  have h3 : n < 0 ∨ (0 ≤ n ∧ 16777216 < n) := by omega
  clear hn
  rcases h3 with h | ⟨h, h4⟩
  all_goals
    go_enter Try.func12, Try.ntmps12
    go_wp2_with (go_at_call 27; refine (dropped_no _ _ _ _ _ _ HW.out.p).mono ?_; rintro e w1 ⟨rfl, rfl⟩)
    go_ret2
    exact ⟨rfl, rfl⟩
theorem copy_bad (base b k S a : Nat) (back n : Int) (v : Value) (R : List UInt8) (w : World) (hw : WinAt w base b k S v R a) (hn : 0 ≤ n ∧ n ≤ 16777216) (hb : back < 1 ∨ (R.length : Int) < back) :
    Calls Try.prog 12 #[.pointer (some ⟨b, 0, none⟩), .int .i64 back, .int .i64 n] w fun e w' => e = .returned (.tuple #[.slice none 0 0, .int .i64 11]) ∧ w = w' := by
  obtain ⟨A0, k0, rfl, hc0, hm0, hr0⟩ := hw.o.slice
  have c0 : w.cell? ⟨b, 0, none⟩ = some (.slice A0 R.length k0) := by rw [hw.p.cell]; rfl
  have HW := Lib.hid hw
  obtain ⟨n0, n1⟩ := hn
  clear hw hr0 hm0
  have h3 : back < 1 ∨ (1 ≤ back ∧ (R.length : Int) < back) := by omega
  clear hb
  rcases h3 with h | ⟨h, h4⟩
  all_goals
    go_enter Try.func12, Try.ntmps12
    go_wp2_with (go_at_call 27; refine (dropped_no _ _ _ _ _ _ HW.out.p).mono ?_; rintro e w1 ⟨rfl, rfl⟩)
    go_ret2
    exact ⟨rfl, rfl⟩
set_option maxHeartbeats 1000000 in
theorem drop_win (base b k S a : Nat) (v : Value) (R : List UInt8) (B n m : Int) (w : World) (hw : WinAt w base b k S v R a) (hl : Led w k B n m) (hB : 0 ≤ B ∧ B ≤ 16777216) (hn : 0 ≤ n ∧ n ≤ B) :
    Calls Try.prog 14 #[.pointer (some ⟨b, 0, none⟩)] w fun e w' => e = .returned (.tuple #[]) ∧ Pts w' b #[.slice none 0 0, .int .i64 a, .int .i64 S, .pointer none] 57 ∧ Led w' k B (reN n S) m ∧ Frm (fun x => x = b ∨ x = k) w w' := by
  obtain ⟨A0, k0, rfl, hc0, hm0, hr0⟩ := hw.o.slice
  have hbk : b ≠ k := by
    rintro rfl
    have e := hw.p.symm.trans hl
    simp [ledCells] at e
  have c2 : w.cell? ⟨b, 2, none⟩ = some (.int .i64 S) := by rw [hw.p.cell]; rfl
  have c3 : w.cell? ⟨b, 3, none⟩ = some (.pointer (some ⟨k, 0, none⟩)) := by rw [hw.p.cell]; rfl
  have HW := Lib.hid hw
  have HL := Lib.hid hl
  clear hw hl hr0 hm0
  go_enter Try.func14, Try.ntmps14
  go_wp2_with (go_at_call 27; refine (dropped_no _ _ _ _ _ _ HW.out.p).mono ?_; rintro e w1 ⟨rfl, rfl⟩)
  refine QTail.wp_region_qtail_lit 8 (by kernel_rfl) (by kernel_rfl) ?_
  simp only [List.take_succ_cons, List.take_zero, List.drop_succ_cons, List.drop_zero]
  repeat (go_big_quiet_step (fail))
  refine wpQuiet_nil ?_
  rintro w' ⟨nr, rfl⟩
  go_wp2_with fail
  refine (release_led k B n m _ (w.drewN nr) (Pts.drewN HL.out nr) hB hn).mono ?_; rintro e w2 ⟨rfl, hL2, hF2⟩
  have hp2 := (HW.out.p.drewN nr).frm hF2 hbk
  have d0 : w2.cell? ⟨b, 0, none⟩ = some (.slice A0 R.length k0) := by rw [hp2.cell]; rfl
  have d3 : w2.cell? ⟨b, 3, none⟩ = some (.pointer (some ⟨k, 0, none⟩)) := by rw [hp2.cell]; rfl
  have z0 := hp2.frozen 0
  have z3 := hp2.frozen 3
  have P2 := Lib.hid hp2
  have L2 := Lib.hid hL2
  have F2 := Lib.hid hF2
  clear hp2 hL2 hF2 c2 c3
  go_wp2
  go_end0
  have hp3 := (P2.out.set 0 (.slice none 0 0)).set 3 (.pointer none)
  refine ⟨rfl, hp3, ?_, ?_⟩
  · exact (Pts.other (Pts.other L2.out (p := ⟨b, 0, none⟩) (fun e => hbk e.symm) _) (p := ⟨b, 3, none⟩) (fun e => hbk e.symm) _)
  · exact ((((Frm.refl _ w).drewN nr).trans (F2.out.mono (fun q _ hq => .inr hq))).setCell (by left; rfl) _).setCell (by left; rfl) _
end Go.Proofs.Ytjeaepkncboodaa
