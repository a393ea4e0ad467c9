/- LzmaNil. -/
import Derived.Test.YteghpnlamdgpnaaLcD
namespace Go.Proofs.Yteghpnlamdgpnaa
open Go.RowKit Rng Lz Win
set_option linter.unusedVariables false
set_option linter.unusedSimpArgs false
set_option maxRecDepth 100000 in
set_option maxHeartbeats 2000000 in
theorem lawNil12 (A : Option Addr) (n c : Nat) (f : Nat → Int) (p x : Int) (w : World) (_hl : n ≤ c) (_hm : c ≤ maxLen) (_hr : Opn.RowAt w w.heap.size A n (fun i => .int .u8 (f i))) (_hf : ∀ i, i < n → 0 ≤ f i ∧ f i ≤ 255) (hp : 0 ≤ p ∧ p ≤ 255) (_hx : -9223372036854775808 ≤ x ∧ x ≤ 9223372036854775807) :
    Calls Try.prog 3 #[.slice A n c, .int .u8 p, .int .i64 x] w fun e w' => e = .returned (.bool true) ∧ Below w.heap.size w w' := by
  clear _hl _hm _hr _hf _hx
  have HP := Lib.hid hp
  clear hp
  go_enter Try.func3, Try.ntmps3
  go_wp2_with fail
  refine (lreset_nil _).mono ?_; rintro e w1 ⟨rfl, rfl⟩
  go_wp2_with fail
  refine (room_p 5 w (by omega) (by omega)).mono ?_; rintro e w2 ⟨wb, kb, rfl, g3, hw2, hb2⟩
  have B2 := Lib.hid hb2
  clear hw2 hb2
  go_wp2_with fail
  refine (chunk_nil_s _ _ _ _ _ _ _).mono ?_; rintro e w3 ⟨rfl, hb3⟩
  have B3 := Lib.hid (B2.out.trans (hb3.mono B2.out.size))
  clear hb3
  go_wp2_with fail
  refine (lnew_st _).mono ?_; rintro e w4 ⟨sb, lb, rfl, g1, g2, hs4, hb4⟩
  have B4 := Lib.hid (B3.out.trans (hb4.mono B3.out.size))
  clear hs4 hb4
  go_wp2_with fail
  refine (chunk_nil_w _ _ _ _ _ _ _).mono ?_; rintro e w5 ⟨rfl, hb5⟩
  have B5 := Lib.hid (B4.out.trans (hb5.mono B4.out.size))
  clear hb5
  go_wp2_with fail
  refine (props_nil p _ HP.out).mono ?_; rintro e w6 ⟨rfl, rfl⟩
  go_wp2_with fail
  refine (wakes12 _).mono ?_; rintro e w7 ⟨rfl, hb7⟩
  have B7 := Lib.hid (B5.out.trans (hb7.mono B5.out.size))
  clear hb7
  go_wp2
  go_ret
  exact ⟨rfl, B7.out⟩
end Go.Proofs.Yteghpnlamdgpnaa
