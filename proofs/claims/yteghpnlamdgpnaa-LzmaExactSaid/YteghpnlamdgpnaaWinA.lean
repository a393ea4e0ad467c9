/- The contracts of the window: dropped, Held, At. -/
import Derived.Test.YteghpnlamdgpnaaChecked
import Derived.Test.YteghpnlamdgpnaaLedger
import Derived.Test.YteghpnlamdgpnaaBytes
import Derived.Test.YteghpnlamdgpnaaQTail
import Derived.OwnWalk
import Derived.Deep.LoopGhost
namespace Go.Proofs.Yteghpnlamdgpnaa
open Go.RowKit
set_option linter.unusedVariables false
set_option linter.unusedSimpArgs false

theorem dropped_no (b k : Nat) (rv av sv : Value) (w : World) (hp : Pts w b #[rv, av, sv, .pointer (some ⟨k, 0, none⟩)] 99) :
    Calls Try.prog 50 #[.pointer (some ⟨b, 0, none⟩)] w fun e w' => e = .returned (.bool false) ∧ w = w' := by
  have c3 : w.cell? ⟨b, 3, none⟩ = some (.pointer (some ⟨k, 0, none⟩)) := by rw [hp.cell]; rfl
  clear hp
  go_enter Try.func50, Try.ntmps50
  go_wp2
  go_ret
  exact ⟨rfl, rfl⟩
theorem dropped_yes (b : Nat) (rv av sv : Value) (w : World) (hp : Pts w b #[rv, av, sv, .pointer none] 99) :
    Calls Try.prog 50 #[.pointer (some ⟨b, 0, none⟩)] w fun e w' => e = .returned (.bool true) ∧ w = w' := by
  have c3 : w.cell? ⟨b, 3, none⟩ = some (.pointer none) := by rw [hp.cell]; rfl
  clear hp
  go_enter Try.func50, Try.ntmps50
  go_wp2
  go_ret
  exact ⟨rfl, rfl⟩

set_option maxRecDepth 100000 in
theorem at_in (b k a S cap back : Nat) (A : Option Addr) (R : List UInt8) (w : World) (hp : Pts w b #[.slice A R.length cap, .int .i64 a, .int .i64 S, .pointer (some ⟨k, 0, none⟩)] 99) (hr : BRow w w.heap.size A R)
    (hR : R.length ≤ 16777216) (ha : a ≤ 16777216) (h1 : 1 ≤ back) (h2 : back ≤ R.length) :
    Calls Try.prog 42 #[.pointer (some ⟨b, 0, none⟩), .int .i64 back] w fun e w' => e = .returned (.tuple #[.int .u8 ((R.getD ((a + R.length - back) % R.length) 0).toNat : Int), .bool true]) ∧ ∃ d, w' = w.drewN d := by
  have c0 : w.cell? ⟨b, 0, none⟩ = some (.slice A R.length cap) := by rw [hp.cell]; rfl
  have c1 : w.cell? ⟨b, 1, none⟩ = some (.int .i64 a) := by rw [hp.cell]; rfl
  have HP := Lib.hid hp
  obtain ⟨g, off, rfl, hg, hc⟩ := hr (by omega)
  have hlt : (a + R.length - back) % R.length < R.length := Nat.mod_lt _ (by omega)
  have e1 := hc _ hlt
  have hne : ((R.length : Int) == 0) = false := beq_eq_false_iff_ne.2 (by omega)
  have hm : ((a : Int) + R.length - back) % (R.length : Int) = (((a + R.length - back) % R.length : Nat) : Int) := by
    rw [Int.natCast_emod]; congr 1; omega
  have hsub : back ≤ a + R.length := by omega
  unfold byteV at e1
  generalize R.getD ((a + R.length - back) % R.length) 0 = x at *
  generalize (a + R.length - back) % R.length = q at *
  clear hp hc hr
  go_enter Try.func42, Try.ntmps42
  go_wp2_with (go_at_call 50; refine (dropped_no _ _ _ _ _ _ HP.out).mono ?_; rintro e w1 ⟨rfl, rfl⟩)
  go_quiet (fail)
  go_wp2
  go_ret2
  exact ⟨rfl, _, rfl⟩
end Go.Proofs.Yteghpnlamdgpnaa
