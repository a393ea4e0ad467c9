/- The walks of FinderRight and FinderAgain. -/
import Derived.Test.YtjifnnghcaaonaaFindY
namespace Go.Proofs.Ytjifnnghcaaonaa
open Go.RowKit Fnd
set_option linter.unusedVariables false
set_option linter.unusedSimpArgs false

theorem sizes_ex (n : Nat) (fr level window least most : Int) : ∃ at_ lv win lo hi : Nat, min (max fr 0) n = at_ ∧ min (max level 0) 3 = lv ∧ min (max window 1) 16777216 = win ∧ min (max least 2) 65536 = lo ∧ max (lo : Int) (min most 65536) = hi ∧ lv ≤ 3 ∧ win ≤ 16777216 ∧ 1 ≤ win ∧ 2 ≤ lo ∧ lo ≤ hi ∧ hi ≤ 65536 := by
  refine ⟨(min (max fr 0) n).toNat, (min (max level 0) 3).toNat, (min (max window 1) 16777216).toNat, (min (max least 2) 65536).toNat, (max ((min (max least 2) 65536).toNat : Int) (min most 65536)).toNat, ?_, ?_, ?_, ?_, ?_, ?_, ?_, ?_, ?_, ?_, ?_⟩
  · omega
  · omega
  · omega
  · omega
  · clear fr level window n; omega
  · omega
  · omega
  · omega
  · omega
  · clear fr level window n; omega
  · clear fr level window n; omega

set_option maxRecDepth 100000 in
set_option maxHeartbeats 1000000 in
theorem lawRight08 (A : Option Addr) (n c : Nat) (f : Nat → Int) (fr level window least most : Int) (w : World)
    (h1 : n ≤ c) (h2 : c ≤ maxLen) (h3 : Opn.RowAt w w.heap.size A n fun i => .int .u8 (f i)) (h4 : ∀ i, i < n → 0 ≤ f i ∧ f i ≤ 255)
    (_i1 : -9223372036854775808 ≤ fr ∧ fr ≤ 9223372036854775807) (_i2 : -9223372036854775808 ≤ level ∧ level ≤ 9223372036854775807) (_i3 : -9223372036854775808 ≤ window ∧ window ≤ 9223372036854775807)
    (_i4 : -9223372036854775808 ≤ least ∧ least ≤ 9223372036854775807) (_i5 : -9223372036854775808 ≤ most ∧ most ≤ 9223372036854775807) :
    Calls Try.prog 4 #[.slice A n c, .int .i64 fr, .int .i64 level, .int .i64 window, .int .i64 least, .int .i64 most] w fun e w' => e = .returned (.bool true) ∧ Below w.heap.size w w' := by
  obtain ⟨bs, rfl, hr⟩ := BRow.of_row h3 h4
  have HR := Lib.hid hr
  have HM := Lib.hid h2
  clear hr h3 h4 _i1 _i2 _i3 _i4 _i5
  unfold maxLen at h2
  by_cases hlen : bs.length ≤ 16384
  · obtain ⟨at_, lv, win, lo, hi, e1, e2, e3, e4, e5, b2, b3, b31, b4, b5, b6⟩ := sizes_ex bs.length fr level window least most
    have hat : at_ ≤ bs.length := by omega
    have E1 := Lib.hid e1
    have E2 := Lib.hid e2
    have E3 := Lib.hid e3
    have E4 := Lib.hid e4
    have E5 := Lib.hid e5
    clear e1 e2 e3 e4 e5
    go_enter Try.func4, Try.ntmps4
    go_wp2_with (at_builtin; refine wpList_append_bytes _ rfl (.tmp 25) (.tmp 26) 22 rfl 5 w.heap.size Try.underlying22 Try.info_u8 (.slice (some ⟨w.heap.size, 0, none⟩) 0 0) [] rfl ?own1 A bs.length c w.heap.size bs rfl rfl ?row1 ?len1 ?base1 ?next1)
    case own1 => exact OwnB.made _ _ _ (Nat.le_refl _)
    case row1 => exact HR.out.below ((Below.refl _ _).alloc (Nat.le_refl _) _)
    case len1 => simp; omega
    case base1 => simp
    case next1 =>
      intro v1 w1 hown1 hfrm1 hnew1
      have hb1 : Below w.heap.size w w1 := ((Below.refl _ _).alloc (Nat.le_refl _) _).trans (hfrm1.below (by simp) (by intro k hk; simp [Value.ownBlock] at hk; omega))
      obtain ⟨A1, c1, rfl, hc1, hm1, hr1⟩ := hown1.slice
      have R1 := Lib.hid hr1
      have B1 := Lib.hid hb1
      clear hown1 hfrm1 hnew1 hb1 hr1
      go_wp2_with fail
      refine (parse_any A1 bs _ c1 fr level window least most at_ lv win lo hi w1 rfl hc1 hm1 R1.out (by omega) E1.out E2.out E3.out E4.out E5.out).mono ?_; rintro e w2 ⟨v, l, rfl, ho, hR, hnil, hplain, -, hll, b2⟩
      obtain ⟨A2, c2, rfl, hc2, hm2, hs2⟩ := ho.slice
      have RI := Lib.hid hR
      have S2 := Lib.hid hs2
      have R2 := Lib.hid ((R1.out.below b2).more b2.size)
      have B2 := Lib.hid (B1.out.trans (b2.mono B1.out.size))
      have NI := Lib.hid hnil
      have PL := Lib.hid hplain
      clear b2 hR hs2 ho hm2 hnil hplain
      go_wp2_with fail
      refine (sizes_any bs.length fr level window least most at_ lv win lo hi w2 E1.out E2.out E3.out E4.out E5.out).mono ?_; rintro e w3 ⟨rfl, rfl⟩
      have k1 := run_conv_bytes (P := Try.prog) w2 22 9 5 Try.underlying22 Try.underlying5 Try.underlying9 A1 _ c1 _ bs rfl R2.out
      have k2 := run_conv_bytes (P := Try.prog) w2 22 9 5 Try.underlying22 Try.underlying5 Try.underlying9 A _ c _ bs rfl (HR.out.below B2.out)
      by_cases hlv : lv = 0
      · subst hlv
        go_wp2
        go_loopw [20] (fun iv wr => ∃ k : Nat, iv = .int .i64 k ∧ k ≤ l.length ∧ wr = w2) (fun iv _ => l.length - (intOf iv).toNat)
        case atStart => exact ⟨0, rfl, by omega, rfl⟩
        case round =>
          obtain ⟨k, rfl, hk, rfl⟩ := hrel
          by_cases hkl : k < l.length
          · obtain ⟨b, off, rfl, hb, hcell⟩ := S2.out (by omega)
            obtain ⟨_, x1, _⟩ := hcell k hkl
            rw [PL.out trivial (l.getD k default) (by simp [List.getD, hkl])] at x1
            clear hcell
            go_wp2
            exact ⟨⟨k + 1, by go_num, by omega, by first | rfl | trivial⟩, by simp [intOf]; omega⟩
          · have hkk : k = l.length := by omega
            clear hk
            go_wp2_with fail
            refine (right_any A bs _ c at_ win lo hi A2 l _ _ wr rfl h1 HM.out ((HR.out.below B2.out).more B2.out.size) (by omega) rfl S2.out (by omega) (by omega) b5 (by omega) b3 RI.out).mono ?_; rintro e w4 ⟨rfl, b4'⟩
            have B4 := Lib.hid (B2.out.trans (b4'.mono B2.out.size))
            clear b4'
            by_cases hatn : at_ < bs.length
            · go_wp2_with fail
              refine (wakes08 _).mono ?_; rintro e w5 ⟨rfl, b5'⟩
              go_wp2
              go_ret
              exact ⟨rfl, B4.out.trans (b5'.mono B4.out.size)⟩
            · have hl0 := NI.out (by omega)
              have hl1 : ((l.length : Int) == 0) = true := by rw [hl0]; rfl
              clear hl0
              go_wp2_with fail
              refine (wakes08 _).mono ?_; rintro e w5 ⟨rfl, b5'⟩
              go_wp2
              go_ret
              exact ⟨rfl, B4.out.trans (b5'.mono B4.out.size)⟩
      · have ne : ((lv : Int) == 0) = false := beq_eq_false_iff_ne.2 (by omega)
        go_wp2_with fail
        refine (right_any A bs _ c at_ win lo hi A2 l _ _ w2 rfl h1 HM.out ((HR.out.below B2.out).more B2.out.size) (by omega) rfl S2.out (by omega) (by omega) b5 (by omega) b3 RI.out).mono ?_; rintro e w4 ⟨rfl, b4'⟩
        have B4 := Lib.hid (B2.out.trans (b4'.mono B2.out.size))
        clear b4'
        by_cases hatn : at_ < bs.length
        · go_wp2_with fail
          refine (wakes08 _).mono ?_; rintro e w5 ⟨rfl, b5'⟩
          go_wp2
          go_ret
          exact ⟨rfl, B4.out.trans (b5'.mono B4.out.size)⟩
        · have hl0 := NI.out (by omega)
          have hl1 : ((l.length : Int) == 0) = true := by rw [hl0]; rfl
          clear hl0
          go_wp2_with fail
          refine (wakes08 _).mono ?_; rintro e w5 ⟨rfl, b5'⟩
          go_wp2
          go_ret
          exact ⟨rfl, B4.out.trans (b5'.mono B4.out.size)⟩
  · go_enter Try.func4, Try.ntmps4
    go_wp2_with fail
    refine (wakes08 _).mono ?_; rintro e w1 ⟨rfl, h1⟩
    go_wp2
    go_ret
    exact ⟨rfl, h1⟩

set_option maxRecDepth 100000 in
set_option maxHeartbeats 1000000 in
theorem lawAgain08 (A : Option Addr) (n c : Nat) (f : Nat → Int) (fr level window least most : Int) (w : World)
    (h1 : n ≤ c) (h2 : c ≤ maxLen) (h3 : Opn.RowAt w w.heap.size A n fun i => .int .u8 (f i)) (h4 : ∀ i, i < n → 0 ≤ f i ∧ f i ≤ 255)
    (_i1 : -9223372036854775808 ≤ fr ∧ fr ≤ 9223372036854775807) (_i2 : -9223372036854775808 ≤ level ∧ level ≤ 9223372036854775807) (_i3 : -9223372036854775808 ≤ window ∧ window ≤ 9223372036854775807)
    (_i4 : -9223372036854775808 ≤ least ∧ least ≤ 9223372036854775807) (_i5 : -9223372036854775808 ≤ most ∧ most ≤ 9223372036854775807) :
    Calls Try.prog 5 #[.slice A n c, .int .i64 fr, .int .i64 level, .int .i64 window, .int .i64 least, .int .i64 most] w fun e w' => e = .returned (.bool true) ∧ Below w.heap.size w w' := by
  obtain ⟨bs, rfl, hr⟩ := BRow.of_row h3 h4
  have HR := Lib.hid hr
  have HM := Lib.hid h2
  clear hr h3 h4 _i1 _i2 _i3 _i4 _i5
  unfold maxLen at h2
  by_cases hlen : bs.length ≤ 16384
  · obtain ⟨at_, lv, win, lo, hi, e1, e2, e3, e4, e5, b2, b3, b31, b4, b5, b6⟩ := sizes_ex bs.length fr level window least most
    have hat : at_ ≤ bs.length := by omega
    have E1 := Lib.hid e1
    have E2 := Lib.hid e2
    have E3 := Lib.hid e3
    have E4 := Lib.hid e4
    have E5 := Lib.hid e5
    clear e1 e2 e3 e4 e5
    go_enter Try.func5, Try.ntmps5
    go_wp2_with fail
    refine (parse_any A bs _ c fr level window least most at_ lv win lo hi w rfl h1 HM.out HR.out (by omega) E1.out E2.out E3.out E4.out E5.out).mono ?_; rintro e w2 ⟨v, l, rfl, ho, hR, -, -, -, hll, b2⟩
    obtain ⟨A2, c2, rfl, hc2, hm2, hs2⟩ := ho.slice
    have RI := Lib.hid hR
    have S2 := Lib.hid hs2
    have B2 := Lib.hid b2
    clear b2 hR hs2 ho hm2
    go_wp2_with fail
    refine (sizes_any bs.length fr level window least most at_ lv win lo hi w2 E1.out E2.out E3.out E4.out E5.out).mono ?_; rintro e w3 ⟨rfl, rfl⟩
    go_wp2_with fail
    refine (right_any A bs _ c at_ win lo hi A2 l _ _ w2 rfl h1 HM.out ((HR.out.below B2.out).more B2.out.size) (by omega) rfl S2.out (by omega) (by omega) b5 (by omega) b3 RI.out).mono ?_; rintro e w3 ⟨rfl, b3'⟩
    have B3 := Lib.hid (B2.out.trans (b3'.mono B2.out.size))
    have S3 := Lib.hid ((S2.out.below b3').more b3'.size)
    clear b3'
    go_wp2_with fail
    refine (lits_any A bs _ c at_ win lo hi A2 l _ _ w3 rfl h1 HM.out ((HR.out.below B3.out).more B3.out.size) (by omega) rfl S3.out (by omega) RI.out).mono ?_; rintro e w4 ⟨v4, rfl, ho4, b4'⟩
    have hlg := litsGo_le RI.out
    have hol : (bs.take at_ ++ litsGo bs l at_).length ≤ bs.length := by rw [List.length_append, List.length_take]; omega
    obtain ⟨A4, c4, rfl, hc4, hm4, hr4⟩ := ho4.slice
    have S4 := Lib.hid ((S3.out.below b4').more b4'.size)
    have O4 := Lib.hid hr4
    have B4 := Lib.hid (B3.out.trans (b4'.mono B3.out.size))
    have TB := Lib.hid (again_back (by unfold maxC; omega) RI.out)
    have FT := Lib.hid (RI.out.fits (by omega) (by omega) (by omega))
    have M4 := Lib.hid hm4
    clear b4' ho4 hr4 hlg hm4
    generalize bs.take at_ ++ litsGo bs l at_ = o4 at *
    go_wp2_with fail
    refine (back_num _ o4 _ _ at_ _ l _ _ _ w4 TB.out rfl hc4 M4.out O4.out (by omega) rfl hc2 S4.out (by omega) FT.out).mono ?_; rintro e w5 ⟨v5, en5, rfl, ⟨ho5, rfl⟩, b5'⟩
    obtain ⟨A5, c5, rfl, hc5, hm5, hr5⟩ := ho5.slice
    have B5 := Lib.hid (B4.out.trans (b5'.mono B4.out.size))
    have k1 := run_conv_bytes (P := Try.prog) w5 22 9 5 Try.underlying22 Try.underlying5 Try.underlying9 A5 _ c5 _ bs rfl hr5
    have k2 := run_conv_bytes (P := Try.prog) w5 22 9 5 Try.underlying22 Try.underlying5 Try.underlying9 A _ c _ bs rfl (HR.out.below B5.out)
    clear ho5 hr5 b5'
    go_wp2_with fail
    refine (wakes08 _).mono ?_; rintro e w6 ⟨rfl, b6'⟩
    go_wp2
    go_ret
    exact ⟨rfl, B5.out.trans (b6'.mono B5.out.size)⟩
  · go_enter Try.func5, Try.ntmps5
    go_wp2_with fail
    refine (wakes08 _).mono ?_; rintro e w1 ⟨rfl, h1⟩
    go_wp2
    go_ret
    exact ⟨rfl, h1⟩
end Go.Proofs.Ytjifnnghcaaonaa
