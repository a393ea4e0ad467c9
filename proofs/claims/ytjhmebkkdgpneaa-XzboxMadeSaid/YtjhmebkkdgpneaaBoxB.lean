/- The walk of XzboxBack. -/
import Derived.Test.YtjhmebkkdgpneaaBoxV
import Derived.Test.YtjhmebkkdgpneaaSized
namespace Go.Proofs.Ytjhmebkkdgpneaa
open Go.RowKit Box
set_option linter.unusedVariables false
set_option linter.unusedSimpArgs false
set_option maxRecDepth 100000 in
set_option maxHeartbeats 1000000 in
theorem lawBack18 (m : Int) (A : Option Addr) (n c : Nat) (f : Nat → Int) (w : World) (m1 : 0 ≤ m ∧ m ≤ 18446744073709551615) (h1 : n ≤ c) (h2 : c ≤ maxLen) (h3 : Opn.RowAt w w.heap.size A n fun i => .int .u8 (f i)) (h4 : ∀ i, i < n → 0 ≤ f i ∧ f i ≤ 255) (h5 : n = 0 ∨ c ≤ 140737488351232) :
    Calls Try.prog 5 #[.int .u64 m, .slice A n c] w fun e w' => e = .returned (.bool true) ∧ Below w.heap.size w w' := by
  obtain ⟨bs, hbs, hr⟩ := BRow.of_row h3 h4
  obtain ⟨k, rfl⟩ : ∃ k : Nat, m = k := ⟨m.toNat, by omega⟩
  have hk : k < 18446744073709551616 := by omega
  have hl : bs.length ≤ 140737488351232 := by omega
  have C3 := Lib.hid (putNumber_p k w hk)
  have ROW := Lib.hid hr
  have CAP := Lib.hid h1
  have HBS := Lib.hid hbs
  have HL := Lib.hid hl
  have HK := Lib.hid hk
  by_cases hbig : 9223372036854775808 ≤ k
  · have hge : decide ((9223372036854775808 : Int) ≤ (k : Int)) = true := decide_eq_true (by omega)
    have HBG := Lib.hid hbig
    clear hbig hk m1 h1 h2 h3 h4 h5 hr hbs hl
    go_enter Try.func5, Try.ntmps5
    go_wp2_with fail
    refine C3.out.mono ?_; rintro r w1 ⟨_, p2, pb⟩
    obtain rfl := p2 HBG.out
    have B1 := Lib.hid pb
    clear p2 pb
    go_wp2_with fail
    refine (wakes_p w1).mono ?_; rintro r w5 ⟨rfl, hb⟩
    have B5 := Lib.hid (B1.out.trans (hb.mono B1.out.size))
    clear hb
    go_wp2
    go_ret
    exact ⟨rfl, B5.out⟩
  · have hge : decide ((9223372036854775808 : Int) ≤ (k : Int)) = false := decide_eq_false (by omega)
    have HBG := Lib.hid hbig
    have hpl := put_len k
    have hnp := number_put (n := k) (by omega) bs
    obtain ⟨P, hP⟩ : ∃ P, put k = P := ⟨_, rfl⟩
    rw [hP] at hnp hpl
    have HNP := Lib.hid hnp
    have HPL := Lib.hid hpl
    have HP := Lib.hid hP
    clear hbig hk m1 h1 h2 h3 h4 h5 hr hbs hl hpl hnp hP
    go_enter Try.func5, Try.ntmps5
    go_wp2_with fail
    refine C3.out.mono ?_; rintro r w1 ⟨p1, _, pb⟩
    obtain ⟨v1, rfl, ho1⟩ := p1 (by have := HBG.out; omega)
    rw [HP.out] at ho1
    obtain ⟨A1, c1, rfl, _, _, hr1⟩ := ho1.slice
    have B1 := Lib.hid pb
    have R1 := Lib.hid hr1
    clear p1 pb hr1 ho1
    go_wp2_with (at_builtin; refine wpList_append_bytes _ rfl (.tmp 33) (.tmp 34) 22 rfl 5 w.heap.size Try.underlying22 Try.info_byte (.slice (some ⟨w1.heap.size, 0, none⟩) 0 0) [] rfl ?own1 A1 P.length c1 w1.heap.size P rfl rfl ?row1 ?len1 ?base1 ?next1)
    case own1 => exact OwnB.made w1 _ _ B1.out.size
    case row1 => exact R1.out.below ((Below.refl _ w1).alloc (Nat.le_refl _) _)
    case len1 => have := HPL.out; simp; omega
    case base1 => have := B1.out.size; simp; omega
    case next1 =>
      intro v2 w2 hown2 hfrm2 hnew2
      have hb2 : Below w.heap.size w w2 := (B1.out.alloc B1.out.size _).trans (hfrm2.below (B1.out.alloc B1.out.size _).size (fun q hq => by obtain rfl := Option.some.inj hq; exact B1.out.size))
      have B2 := Lib.hid hb2
      have O2 := Lib.hid hown2
      clear hown2 hfrm2 hnew2 hb2
      go_wp2_with (at_builtin; refine wpList_append_bytes _ rfl (.tmp 35) (.tmp 36) 22 rfl 5 w.heap.size Try.underlying22 Try.info_byte v2 P rfl ?own2 A n c w.heap.size bs rfl HBS.out.symm ?row2 ?len2 ?base2 ?next2)
      case own2 => exact O2.out
      case row2 => exact ROW.out.below B2.out
      case len2 => have := HPL.out; have := HL.out; omega
      case base2 => exact B2.out.size
      case next2 =>
        intro v3 w3 hown3 hfrm3 hnew3
        have hb3 : Below w.heap.size w w3 := B2.out.trans (hfrm3.below B2.out.size (fun q hq => (O2.out.lt hq).1))
        obtain ⟨A3, c3, hv3, _, _, hr3⟩ := hown3.slice
        obtain ⟨L, hL⟩ : ∃ L, (P ++ bs).length = L := ⟨_, rfl⟩
        rw [hL] at hv3
        subst hv3
        have B3 := Lib.hid hb3
        have C4 := number_p A3 (P ++ bs) L c3 _ w3 hL.symm hr3 (by have := HPL.out; have := HL.out; rw [List.length_append]; unfold maxLen; omega)
        rw [HNP.out] at C4
        unfold errOf at C4
        have C4 := Lib.hid C4
        have C5 := number_p A bs n c _ w3 HBS.out.symm (ROW.out.below hb3) (by have := HL.out; unfold maxLen; omega)
        obtain ⟨⟨y1, y2, y3⟩, hy⟩ : ∃ p, number bs = p := ⟨_, rfl⟩
        rw [hy] at C5
        unfold errOf at C5
        have C5 := Lib.hid C5
        have HY := Lib.hid hy
        clear hown3 hfrm3 hnew3 hb3 hr3 hy O2 B2 hL
        go_wp2_with fail
        refine C4.out.mono ?_; rintro r w4 ⟨rfl, rfl⟩
        go_wp2_with fail
        refine C5.out.mono ?_; rintro r w4 ⟨rfl, rfl⟩
        by_cases hz : y3 = 0
        · subst hz
          obtain ⟨q1, q2, q3, q4⟩ := number_back HY.out
          have C6 := Lib.hid (putNumber_p y1 w3 (by omega))
          have HQ := Lib.hid (And.intro q1 (And.intro q2 (And.intro q3 q4)))
          clear q1 q2 q3 q4
          go_wp2_with fail
          refine C6.out.mono ?_; rintro r w4 ⟨p1, _, pb⟩
          obtain ⟨v4, rfl, ho4⟩ := p1 HQ.out.1
          rw [HQ.out.2.2.2] at ho4
          obtain ⟨A4, c4, hv4, _, _, hr4⟩ := ho4.slice
          have hly : (bs.take y2).length = y2 := by rw [List.length_take]; have := HQ.out; omega
          rw [hly] at hv4
          subst hv4
          have B4 := Lib.hid (B3.out.trans (pb.mono B3.out.size))
          have hs1 : ∀ w, (Instr.sliceAt 22 (.slice A n c) none (some (.int .i64 (y2 : Int))) none).run Try.prog w = .ok (.slice A y2 c) w := fun w => slice_toX A n c y2 (by have := HQ.out; have := HBS.out; omega) CAP.out w
          have RA := Lib.hid hr4
          have RT := Lib.hid ((ROW.out.take y2).below B4.out)
          obtain ⟨tk, htk⟩ : ∃ tk, bs.take y2 = tk := ⟨_, rfl⟩
          rw [htk] at hly RA RT
          have k1 := fun dd => run_conv_bytes (P := Try.prog) (w4.drewN dd) 22 9 5 Try.underlying22 Try.underlying5 Try.underlying9 A4 y2 c4 _ tk hly.symm (BRow.drewN RA.out dd)
          have k2 := fun dd => run_conv_bytes (P := Try.prog) (w4.drewN dd) 22 9 5 Try.underlying22 Try.underlying5 Try.underlying9 A y2 c _ tk hly.symm (BRow.drewN RT.out dd)
          have hy1 : decide ((1 : Int) ≤ (y2 : Int)) = true := decide_eq_true (by have := HQ.out; omega)
          have hyn : decide (y2 ≤ n) = true := decide_eq_true (by have := HQ.out; have := HBS.out; omega)
          clear p1 pb hr4 ho4 hly htk
          go_wp2
          refine QTail.wp_region_qtail_lit 22 (by kernel_rfl) (by kernel_rfl) ?_
          simp only [List.take_succ_cons, List.take_zero, List.drop_succ_cons, List.drop_zero]
          repeat (go_big_quiet_step (fail))
          refine wpQuiet_nil ?_
          rintro w' ⟨nq, rfl⟩
          go_wp2_with fail
          refine (wakes_p _).mono ?_; rintro e w5 ⟨rfl, b5⟩
          have B5 := Lib.hid ((below_drewN B4.out nq).trans (b5.mono (below_drewN B4.out nq).size))
          clear b5
          go_wp2
          go_ret
          exact ⟨rfl, B5.out⟩
        · have hb0 := number_bad (bs := bs) (by rw [HY.out]; exact hz)
          rw [HY.out] at hb0
          injection hb0 with e1 e2
          injection e2 with e2 e3
          subst e1 e2
          have hzb : (y3 != 0) = true := by simp [hz]
          clear hz e3
          go_wp2_with fail
          refine (wakes_p w3).mono ?_; rintro r w5 ⟨rfl, hb⟩
          have B5 := Lib.hid (B3.out.trans (hb.mono B3.out.size))
          clear hb
          go_wp2
          go_ret
          exact ⟨rfl, B5.out⟩
end Go.Proofs.Ytjhmebkkdgpneaa
