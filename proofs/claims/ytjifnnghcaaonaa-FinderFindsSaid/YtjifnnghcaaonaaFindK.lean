/- The walk of FinderFinds. -/
import Derived.Test.YtjifnnghcaaonaaFindY
namespace Go.Proofs.Ytjifnnghcaaonaa
open Go.RowKit Fnd
set_option linter.unusedVariables false
set_option linter.unusedSimpArgs false

theorem modK (x k : Int) (hk : 0 < k) (hk2 : k ≤ 4611686018427387904) : ∃ Z : Nat, (wrap64 (x.tmod k + k)).tmod k = (Z : Int) ∧ (Z : Int) < k := by
  have a1 := Int.tmod_lt_of_pos x hk
  have a2 := Int.lt_tmod_of_pos x hk
  have e1 : wrap64 (x.tmod k + k) = x.tmod k + k := by unfold wrap64; omega
  rw [e1]
  generalize x.tmod k = r at *
  have b1 := Int.tmod_lt_of_pos (r + k) hk
  have b2 := Int.tmod_nonneg (a := r + k) k (by omega)
  exact ⟨((r + k).tmod k).toNat, by omega, by omega⟩
theorem few_le (k MM HI len : Nat) (h : len ≤ 2 + k / HI) (h1 : 0 < MM) (h2 : MM ≤ HI) (hk : k < 32768) : ∃ Q : Nat, (k : Int) / (MM : Int) = (Q : Int) ∧ Q ≤ 32768 ∧ len ≤ 2 + Q := by
  have hdd : k / HI ≤ k / MM := Nat.div_le_div_left h2 h1
  have hQk : k / MM ≤ k := Nat.div_le_self _ _
  exact ⟨k / MM, (Int.natCast_ediv k MM).symm, by omega, by omega⟩
theorem same_rep (hd : List UInt8) (u : UInt8) (N : Nat) : Same (hd ++ List.replicate N u) hd.length := by
  have h : ∀ j, hd.length ≤ j → j < (hd ++ List.replicate N u).length → (hd ++ List.replicate N u).getD j 0 = u := by
    intro j h1 h2
    simp only [List.length_append, List.length_replicate] at h2
    simp only [List.getD]
    rw [List.getElem?_append_right h1, List.getElem?_replicate, if_pos (by omega)]
    rfl
  intro j h1 h2
  rw [h j h1 h2, h hd.length (Nat.le_refl _) (by omega)]

set_option maxRecDepth 100000 in
set_option maxHeartbeats 2000000 in
theorem lawFinds08 (ch : Int) (A : Option Addr) (n c : Nat) (f : Nat → Int) (nn level least most : Int) (w : World)
    (hch : 0 ≤ ch ∧ ch ≤ 255) (h1 : n ≤ c) (h2 : c ≤ maxLen) (h3 : Opn.RowAt w w.heap.size A n fun i => .int .u8 (f i)) (h4 : ∀ i, i < n → 0 ≤ f i ∧ f i ≤ 255)
    (_i2 : -9223372036854775808 ≤ nn ∧ nn ≤ 9223372036854775807) (_i3 : -9223372036854775808 ≤ level ∧ level ≤ 9223372036854775807)
    (_i4 : -9223372036854775808 ≤ least ∧ least ≤ 9223372036854775807) (_i5 : -9223372036854775808 ≤ most ∧ most ≤ 9223372036854775807) :
    Calls Try.prog 6 #[.int .u8 ch, .slice A n c, .int .i64 nn, .int .i64 level, .int .i64 least, .int .i64 most] w fun e w' => e = .returned (.bool true) ∧ Below w.heap.size w w' := by
  obtain ⟨bs, rfl, hr⟩ := BRow.of_row h3 h4
  obtain ⟨u, rfl⟩ : ∃ u : UInt8, ch = (u.toNat : Int) := ⟨UInt8.ofNat ch.toNat, by simp; omega⟩
  have HR := Lib.hid hr
  have HM := Lib.hid h2
  clear hr h3 h4 _i2 _i3 _i4 _i5 hch
  unfold maxLen at h2
  obtain ⟨N, hN, hN2⟩ := modK nn 32768 (by decide) (by decide)
  have hN3 : N < 32768 := by omega
  clear hN2
  by_cases hlen : bs.length ≤ 4096
  · obtain ⟨Z1, hZ1, hZ2⟩ := modK level 3 (by decide) (by decide)
    obtain ⟨Y1, hY1, hY2⟩ := modK least 63 (by decide) (by decide)
    have hZ3 : Z1 < 3 := by omega
    have hY3 : Y1 < 63 := by omega
    clear hZ2 hY2
    obtain ⟨V1, hV1⟩ : ∃ X, max most 0 = X := ⟨_, rfl⟩
    obtain ⟨V2, hV2⟩ : ∃ X, min V1 65536 = X := ⟨_, rfl⟩
    obtain ⟨HI, hHI⟩ : ∃ HI : Nat, max (2 + (Y1 : Int)) V2 = HI := ⟨(max (2 + (Y1 : Int)) V2).toNat, by omega⟩
    obtain ⟨MM, hMM⟩ : ∃ MM : Nat, min (HI : Int) 256 = MM := ⟨min HI 256, by omega⟩
    have f1 := fun w => max2_int (P := Try.prog) #[3, 3] 3 _ _ _ hV1 w
    have f2 := fun w => min2_int (P := Try.prog) #[3, 3] 3 _ _ _ hV2 w
    have f3 := fun w => max2_int (P := Try.prog) #[3, 3] 3 _ _ _ hHI w
    have f4 := fun w => min2_int (P := Try.prog) #[3, 3] 3 _ _ _ hMM w
    have g1 : 2 + Y1 ≤ HI ∧ HI ≤ 65536 := by omega
    have g2 : 2 ≤ MM ∧ MM ≤ HI := by omega
    clear hV1 hV2 hHI hMM
    go_enter Try.func6, Try.ntmps6
    go_wp2_with (at_builtin; refine wpList_append_bytes _ rfl (.tmp 39) (.tmp 40) 22 rfl 5 w.heap.size Try.underlying22 Try.info_u8 (.slice (some ⟨w.heap.size, 0, none⟩) 0 0) [] rfl ?own1 A bs.length c w.heap.size bs rfl rfl ?row1 ?len1 ?base1 ?next1)
    case own1 => exact OwnB.made _ _ _ (Nat.le_refl _)
    case row1 => exact HR.out.below ((Below.refl _ _).alloc (Nat.le_refl _) _)
    case len1 => simp; omega
    case base1 => simp
    case next1 =>
      intro v1 w1 hown1 hfrm1 hnew1
      have hb1 : Below w.heap.size w w1 := ((Below.refl _ _).alloc (Nat.le_refl _) _).trans (hfrm1.below (by simp) (by intro k hk; simp [Value.ownBlock] at hk; omega))
      have O1 := Lib.hid hown1
      have B1 := Lib.hid hb1
      clear hown1 hfrm1 hnew1 hb1 f1 f2 f3
      go_wp2
      go_loopw [13, 14] (fun bv iv wr => ∃ (k : Nat) (o : List UInt8), iv = .int .i64 k ∧ k ≤ N ∧ OwnB wr 5 w.heap.size bv o ∧ o = bs ++ List.replicate k u ∧ Below w.heap.size w wr) (fun _ iv _ => N - (intOf iv).toNat)
      case atStart => exact ⟨0, bs, rfl, by omega, O1.out, by simp, B1.out⟩
      case round =>
        obtain ⟨k, o, rfl, hk, hown, ho, hbe⟩ := hrel
        have OW := Lib.hid hown
        have BE := Lib.hid hbe
        have hol : o.length = bs.length + k := by rw [ho]; simp
        have OE := Lib.hid ho
        have OL := Lib.hid hol
        have ho3 : o.length ≤ 140737488355320 := by omega
        clear hown hbe ho hol
        by_cases hkN : k < N
        · go_wp2_with (at_builtin; refine wpList_append_bytes _ rfl (.tmp 47) (.tmp 49) 22 rfl 5 w.heap.size Try.underlying22 Try.info_u8 u13 o rfl ?own2 (some ⟨wr.heap.size, 0, none⟩) 1 1 (wr.heap.size + 1) [u] rfl rfl ?row2 ?len2 ?base2 ?next2)
          case own2 => exact OW.out.alloc _
          case row2 => intro _; exact ⟨wr.heap.size, 0, rfl, by simp, fun j hj => by
              obtain rfl : j = 0 := by simpa using hj
              rw [(Pts.new wr _ _).cell]; simp [byteV]⟩
          case len2 => simp; omega
          case base2 => have := BE.out.size; simp; omega
          case next2 =>
            intro v3 w3 hown3 hfrm3 hnew3
            have hb3 : Below w.heap.size w w3 := (BE.out.alloc BE.out.size _).trans (hfrm3.below (B := w.heap.size) (BE.out.alloc BE.out.size _).size (fun q hq => (OW.out.lt hq).1))
            have B3 := Lib.hid hb3
            have O3 := Lib.hid hown3
            clear hown3 hfrm3 hnew3 hb3
            go_wp2
            exact ⟨⟨k + 1, _, by go_num, by omega, O3.out, by rw [OE.out, List.replicate_succ', List.append_assoc], B3.out⟩, by simp [intOf]; omega⟩
        · obtain rfl : k = N := by omega
          obtain ⟨A1, c1, rfl, hc1, hm1, hr1⟩ := OW.out.slice
          have R1 := Lib.hid hr1
          have SM : Same o bs.length := by rw [OE.out]; exact same_rep _ _ _
          have SAME := Lib.hid SM
          clear hr1 SM
          go_wp2_with fail
          refine (parse_any A1 o _ c1 bs.length (1 + (Z1 : Int)) 65536 (2 + (Y1 : Int)) HI bs.length (1 + Z1) 65536 (2 + Y1) HI wr rfl hc1 hm1 R1.out (by rw [OL.out]; omega) (by rw [OL.out]; omega) (by omega) (by decide) (by omega) (by omega)).mono ?_; rintro e w2 ⟨v, l, rfl, hol, -, -, -, hfew, hll, b2⟩
          obtain ⟨A2, c2, rfl, hc2, hm2, hs2⟩ := hol.slice
          have hfew2 := hfew (by omega) SAME.out
          rw [OL.out, show bs.length + k - bs.length = k by omega] at hfew2
          have B2 := Lib.hid (BE.out.trans (b2.mono BE.out.size))
          have hne : ((MM : Int) == 0) = false := beq_eq_false_iff_ne.2 (by omega)
          obtain ⟨Q, hq0, hQ, hle⟩ := few_le k MM HI l.length hfew2 (by omega) g2.2 hN3
          clear hs2 hol b2 hfew hfew2
          go_wp2_with fail
          refine (wakes08 _).mono ?_; rintro e w3 ⟨rfl, b3⟩
          go_wp2
          go_ret
          exact ⟨rfl, B2.out.trans (b3.mono B2.out.size)⟩
  · go_enter Try.func6, Try.ntmps6
    go_wp2_with fail
    refine (wakes08 _).mono ?_; rintro e w1 ⟨rfl, h1⟩
    go_wp2
    go_ret
    exact ⟨rfl, h1⟩
end Go.Proofs.Ytjifnnghcaaonaa
