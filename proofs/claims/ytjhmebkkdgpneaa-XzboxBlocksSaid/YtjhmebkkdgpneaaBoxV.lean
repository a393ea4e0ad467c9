/- The walks of XzboxHeads and XzboxNumbers. -/
import Derived.Test.YtjhmebkkdgpneaaBoxU
namespace Go.Proofs.Ytjhmebkkdgpneaa
open Go.RowKit Box
set_option linter.unusedVariables false
set_option linter.unusedSimpArgs false
set_option maxRecDepth 100000 in
set_option maxHeartbeats 1000000 in
theorem lawHeads18 (A : Option Addr) (n c : Nat) (f : Nat → Int) (w : World) (h1 : n ≤ c) (h2 : c ≤ maxLen) (h3 : Opn.RowAt w w.heap.size A n fun i => .int .u8 (f i)) (h4 : ∀ i, i < n → 0 ≤ f i ∧ f i ≤ 255) :
    Calls Try.prog 3 #[.slice A n c] w fun e w' => e = .returned (.bool true) ∧ Below w.heap.size w w' := by
  obtain ⟨bs, hbs, hr⟩ := BRow.of_row h3 h4
  have hl : bs.length ≤ maxLen := by omega
  have C1 := Lib.hid (head_p A bs n c w hbs.symm h1 h2 hr hl)
  have C2 := fun w2 (hb : Below w.heap.size w w2) => rhead_p A bs n c w2 hbs.symm h1 ((hr.below hb).more hb.size) hl
  have C3 := fun w2 (hb : Below w.heap.size w w2) => foot_p A bs n c w2 hbs.symm h1 h2 ((hr.below hb).more hb.size) hl
  have C4 := fun w2 (hb : Below w.heap.size w w2) => rfoot_p A bs n c _ w2 hbs.symm h1 ((hr.below hb).more hb.size) rfl hl
  obtain ⟨⟨x1, x2⟩, hx⟩ : ∃ p, headOf bs = p := ⟨_, rfl⟩
  obtain ⟨⟨y1, y2, y3⟩, hy⟩ : ∃ p, footOf bs = p := ⟨_, rfl⟩
  rw [hx] at C1 C2
  rw [hy] at C3 C4
  unfold checkV at C1 C2
  unfold footV at C3 C4
  have C2 := Lib.hid C2
  have C3 := Lib.hid C3
  have C4 := Lib.hid C4
  clear hx hy hl hbs hr h1 h2 h3 h4
  go_enter Try.func3, Try.ntmps3
  go_wp2_with fail
  refine C1.out.mono ?_; rintro r w1 ⟨rfl, hb⟩
  have B1 := Lib.hid hb
  clear hb
  go_wp2_with fail
  refine (C2.out w1 B1.out).mono ?_; rintro r w2 ⟨rfl, hb⟩
  have B2 := Lib.hid (B1.out.trans (hb.mono B1.out.size))
  clear hb
  go_wp2_with fail
  refine (C3.out w2 B2.out).mono ?_; rintro r w3 ⟨rfl, hb⟩
  have B3 := Lib.hid (B2.out.trans (hb.mono B2.out.size))
  clear hb
  go_wp2_with fail
  refine (C4.out w3 B3.out).mono ?_; rintro r w4 ⟨rfl, hb⟩
  have B4 := Lib.hid (B3.out.trans (hb.mono B3.out.size))
  clear hb
  go_wp2_with fail
  refine (wakes_p w4).mono ?_; rintro r w5 ⟨rfl, hb⟩
  have B5 := Lib.hid (B4.out.trans (hb.mono B4.out.size))
  clear hb
  go_wp2
  go_ret
  exact ⟨rfl, B5.out⟩
set_option maxRecDepth 100000 in
set_option maxHeartbeats 1000000 in
theorem lawNumbers18 (A : Option Addr) (n c : Nat) (f : Nat → Int) (m : Int) (w : World) (h1 : n ≤ c) (h2 : c ≤ maxLen) (h3 : Opn.RowAt w w.heap.size A n fun i => .int .u8 (f i)) (h4 : ∀ i, i < n → 0 ≤ f i ∧ f i ≤ 255) (m1 : 0 ≤ m ∧ m ≤ 18446744073709551615) :
    Calls Try.prog 4 #[.slice A n c, .int .u64 m] w fun e w' => e = .returned (.bool true) ∧ Below w.heap.size w w' := by
  obtain ⟨bs, hbs, hr⟩ := BRow.of_row h3 h4
  obtain ⟨k, rfl⟩ : ∃ k : Nat, m = k := ⟨m.toNat, by omega⟩
  have hk : k < 18446744073709551616 := by omega
  have hl : bs.length ≤ maxLen := by omega
  have C1 := number_p A bs n c _ w hbs.symm hr hl
  have C2 := rnumber_p A bs n c _ w hbs.symm hr hl
  have C3 := Lib.hid (putNumber_p k w hk)
  have C4 := Lib.hid (fun w => rputNumber_p k w hk)
  obtain ⟨⟨y1, y2, y3⟩, hy⟩ : ∃ p, number bs = p := ⟨_, rfl⟩
  rw [hy] at C1 C2
  unfold errOf at C1 C2
  have C1 := Lib.hid C1
  have C2 := Lib.hid C2
  have HK := Lib.hid hk
  clear hy hl hbs hr h1 h2 h3 h4 hk m1
  go_enter Try.func4, Try.ntmps4
  go_wp2_with fail
  refine C1.out.mono ?_; rintro r w1 ⟨rfl, rfl⟩
  go_wp2_with fail
  refine C2.out.mono ?_; rintro r w1 ⟨rfl, rfl⟩
  go_wp2_with fail
  refine C3.out.mono ?_; rintro r w1 ⟨p1, p2, pb⟩
  have B1 := Lib.hid pb
  clear pb
  by_cases hbig : 9223372036854775808 ≤ k
  · obtain rfl := p2 hbig
    have HBG := Lib.hid hbig
    clear p1 p2 hbig
    go_wp2_with fail
    refine (C4.out w1).mono ?_; rintro r w2 ⟨q1, q2, qb⟩
    obtain rfl := q2 HBG.out
    have B2 := Lib.hid (B1.out.trans (qb.mono B1.out.size))
    clear q1 q2 qb
    have k1 := run_conv_bytes (P := Try.prog) w2 22 9 5 Try.underlying22 Try.underlying5 Try.underlying9 none 0 0 _ [] rfl (BRow.nil _ 0 _)
    go_wp2_with fail
    refine (wakes_p w2).mono ?_; rintro r w5 ⟨rfl, hb⟩
    have B5 := Lib.hid (B2.out.trans (hb.mono B2.out.size))
    clear hb
    go_wp2
    go_ret
    exact ⟨rfl, B5.out⟩
  · obtain ⟨v, rfl, ho⟩ := p1 (by omega)
    obtain ⟨A1, c1, rfl, _, _, hr1⟩ := ho.slice
    have R1 := Lib.hid hr1
    have HBG := Lib.hid hbig
    clear p1 p2 ho hr1 hbig
    go_wp2_with fail
    refine (C4.out w1).mono ?_; rintro r w2 ⟨q1, q2, qb⟩
    obtain ⟨v2, rfl, ho2⟩ := q1 (by have := HBG.out; omega)
    obtain ⟨A2, c2, rfl, _, _, hr2⟩ := ho2.slice
    have B2 := Lib.hid (B1.out.trans (qb.mono B1.out.size))
    have k1 := run_conv_bytes (P := Try.prog) w2 22 9 5 Try.underlying22 Try.underlying5 Try.underlying9 A1 _ c1 _ (put k) rfl (R1.out.below qb)
    have k2 := run_conv_bytes (P := Try.prog) w2 22 9 5 Try.underlying22 Try.underlying5 Try.underlying9 A2 _ c2 _ (put k) rfl hr2
    clear q1 q2 qb ho2 hr2
    go_wp2_with fail
    refine (wakes_p w2).mono ?_; rintro r w5 ⟨rfl, hb⟩
    have B5 := Lib.hid (B2.out.trans (hb.mono B2.out.size))
    clear hb
    go_wp2
    go_ret
    exact ⟨rfl, B5.out⟩
end Go.Proofs.Ytjhmebkkdgpneaa
