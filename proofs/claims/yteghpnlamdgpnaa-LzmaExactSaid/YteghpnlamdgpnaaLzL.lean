/- A state that is made; its settings. -/
import Derived.Test.YteghpnlamdgpnaaLzK
namespace Go.Proofs.Yteghpnlamdgpnaa
open Go.RowKit Rng Lz
set_option linter.unusedVariables false
set_option linter.unusedSimpArgs false
theorem lreset_nil (w : World) : Calls Try.prog 6 #[.pointer none] w fun e w' => e = .returned (.tuple #[]) ∧ w = w' := by
  go_enter Try.func6, Try.ntmps6
  go_wp2
  go_end0
  exact ⟨rfl, rfl⟩
theorem lreset_st (k0 lc lp pb st : Nat) (rep : Nat → Nat) (pr : Pr) (lv : Value) (T : TypeId) (w : World) (hp : Pts w k0 (qcells lc lp pb st rep pr lv) T) (hcl : lc + lp ≤ 4) (hlv : ∃ A n c, lv = .slice A n c) (hpb : pb ≤ 4) :
    Calls Try.prog 6 #[.pointer (some ⟨k0, 0, none⟩)] w fun e w' => e = .returned (.tuple #[]) ∧ ∃ lb, w.heap.size ≤ lb ∧ Pts w' k0 (mcells ⟨k0, lb, lc, lp, pb⟩ 0 (fun _ => 0) (fun _ => 1024)) T ∧ Pts w' lb (lcells ⟨k0, lb, lc, lp, pb⟩ (fun _ => 1024)) 38 ∧ Frm (· = k0) w w' := by
  have HP := Lib.hid hp
  clear hp
  go_enter Try.func6, Try.ntmps6
  go_wp2_with fail
  refine (mreset_any k0 lc lp pb st rep pr lv T w HP.out hcl hlv hpb).mono ?_; rintro e w1 ⟨rfl, h1⟩
  have H1 := Lib.hid h1
  clear h1
  go_wp2
  go_end0
  exact ⟨rfl, H1.out⟩
theorem props_nil (p : Int) (w : World) (hp : 0 ≤ p ∧ p ≤ 255) : Calls Try.prog 10 #[.pointer none, .int .u8 p] w fun e w' => e = .returned (.int .i64 1) ∧ w = w' := by
  obtain ⟨n, rfl⟩ : ∃ n : Nat, p = n := ⟨p.toNat, by omega⟩
  have hn : n ≤ 255 := by omega
  clear hp
  go_enter Try.func10, Try.ntmps10
  go_wp2
  go_ret
  exact ⟨rfl, rfl⟩
end Go.Proofs.Yteghpnlamdgpnaa
