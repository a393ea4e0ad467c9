/- The walk of XzboxBlocks. -/
import Derived.Test.YtjhmebkkdgpneaaBoxBD
import Derived.Test.YtjhmebkkdgpneaaBoxBG
import Derived.Test.YtjhmebkkdgpneaaBoxU
namespace Go.Proofs.Ytjhmebkkdgpneaa
open Go.RowKit Box
set_option linter.unusedVariables false
set_option linter.unusedSimpArgs false
set_option maxRecDepth 100000 in
set_option maxHeartbeats 1000000 in
theorem lawBlocks18 (A : Option Addr) (n c : Nat) (f : Nat → Int) (w : World) (h1 : n ≤ c) (h2 : c ≤ maxLen) (h3 : Opn.RowAt w w.heap.size A n fun i => .int .u8 (f i)) (h4 : ∀ i, i < n → 0 ≤ f i ∧ f i ≤ 255) :
    Calls Try.prog 7 #[.slice A n c] w fun e w' => e = .returned (.bool true) ∧ Below w.heap.size w w' := by
  obtain ⟨bs, hbs, hr⟩ := BRow.of_row h3 h4
  have C1 := Lib.hid (block_p A bs n c w hbs.symm h1 h2 hr)
  have C2 := fun w2 (hb : Below w.heap.size w w2) => rblock_p A bs n c w2 hbs.symm h1 h2 ((hr.below hb).more hb.size)
  obtain ⟨⟨x1, x2, x3, x4, x5⟩, hx⟩ : ∃ p, blockOf bs = p := ⟨_, rfl⟩
  rw [hx] at C1 C2
  unfold BlkPost blkV at C1 C2
  have C2 := Lib.hid C2
  clear hx hbs hr h1 h2 h3 h4
  go_enter Try.func7, Try.ntmps7
  go_wp2_with fail
  refine C1.out.mono ?_; rintro r w1 ⟨rfl, hb⟩
  have B1 := Lib.hid hb
  clear hb
  go_wp2_with fail
  refine (C2.out w1 B1.out).mono ?_; rintro r w2 ⟨rfl, hb⟩
  have B2 := Lib.hid (B1.out.trans (hb.mono B1.out.size))
  clear hb
  go_wp2_with fail
  refine (wakes_p w2).mono ?_; rintro r w5 ⟨rfl, hb⟩
  have B5 := Lib.hid (B2.out.trans (hb.mono B2.out.size))
  clear hb
  go_wp2
  go_ret
  exact ⟨rfl, B5.out⟩
end Go.Proofs.Ytjhmebkkdgpneaa
