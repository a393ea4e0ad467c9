/- The walk of RangesNil. -/
import Derived.Test.YtcnjbdaopphleaaRngL
namespace Go.Proofs.Ytcnjbdaopphleaa
open Go.RowKit Rng
set_option linter.unusedVariables false
set_option linter.unusedSimpArgs false
set_option maxRecDepth 100000 in
set_option maxHeartbeats 2000000 in
theorem lawNil10 (x n : Int) (w : World) (_i0 : 0 ≤ x ∧ x ≤ 4294967295) (_i1 : -9223372036854775808 ≤ n ∧ n ≤ 9223372036854775807) :
    Calls Try.prog 7 #[.int .u32 x, .int .i64 n] w fun e w' => e = .returned (.bool true) ∧ Below w.heap.size w w' := by
  clear _i0 _i1
  go_enter Try.func7, Try.ntmps7
  go_wp2_with fail
  refine (ebit_nil _ _ _).mono ?_; rintro r w1 ⟨rfl, rfl⟩
  go_wp2_with fail
  refine (edirect_nil _ _ _).mono ?_; rintro r w1 ⟨rfl, rfl⟩
  go_wp2_with fail
  refine (dend_nil _).mono ?_; rintro r w1 ⟨rfl, rfl⟩
  go_wp2_with fail
  have P1 := Pts.new w #[.int .u16 77] 40
  have hb1 := (Below.refl w.heap.size w).alloc (Nat.le_refl _) (.cells #[.int .u16 77] 40)
  have hs1 : (w.alloc (.cells #[.int .u16 77] 40)).heap.size = w.heap.size + 1 := by simp
  generalize w.alloc (.cells #[.int .u16 77] 40) = w1 at *
  refine (enew_p _).mono ?_; rintro r w2 ⟨rfl, hE2, hB2⟩
  rw [hs1] at hE2
  try rw [hs1]
  have P2 := P1.below hB2 (by omega)
  have B2 := Lib.hid (hb1.trans (hB2.mono (by omega)))
  have E2 := Lib.hid hE2
  have hs2 := hB2.size
  have c2 : w2.cell? ⟨w.heap.size, 0, none⟩ = some (.int .u16 77) := by rw [P2.cell]; rfl
  have PP := Lib.hid P2
  clear P1 P2 hE2 hB2 hb1
  go_wp2_with fail
  refine (ebit_none _ _ _).mono ?_; rintro r w3 ⟨rfl, rfl⟩
  go_wp2_with fail
  refine (dbit_nil _ _).mono ?_; rintro r w3 ⟨rfl, rfl⟩
  go_wp2_with fail
  refine (ddirect_nil _ _).mono ?_; rintro r w3 ⟨rfl, rfl⟩
  go_wp2_with fail
  refine (eclose_nil _).mono ?_; rintro r w3 ⟨rfl, rfl⟩
  go_wp2_with fail
  refine (eclose_p (w.heap.size + 1) (w.heap.size + 1) _ _ w2 E2.out (by omega) (by decide)).mono ?_; rintro r w8 ⟨v8, rv8, rfl, hE8, hF8, hM8, ho8, hne8⟩
  rw [wk_none] at ho8
  obtain ⟨A8, k8, rfl, hc8, hm8, hr8⟩ := ho8.slice
  have B8 := Lib.hid (B2.out.trans (hF8.below B2.out.size (by
    rintro k (rfl | hk)
    · omega
    · have := (E2.out.o.lt hk).1; omega)))
  have hsm : ([0, 0, 0, 0, 0] : List UInt8).length = 5 := rfl
  rw [hsm] at hc8 ⊢
  clear hE8 hF8 hM8 ho8 hne8 hr8 hsm
  go_wp2_with fail
  refine (wakes10 _).mono ?_; rintro r w9 ⟨rfl, h9⟩
  have B9 := Lib.hid (B8.out.trans (h9.mono B8.out.size))
  clear h9
  go_wp2
  go_ret
  exact ⟨rfl, B9.out⟩
end Go.Proofs.Ytcnjbdaopphleaa
