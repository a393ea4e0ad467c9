/- The walk of FinderPlain. -/
import Derived.Test.YtjifnnghcaaonaaFindY
import Derived.Test.YtjifnnghcaaonaaQTail
namespace Go.Proofs.Ytjifnnghcaaonaa
open Go.RowKit Fnd
set_option linter.unusedVariables false
set_option linter.unusedSimpArgs false

def plainOf (L : List Nat) : List Sq := L.map fun (k : Nat) => ⟨(k : Int), 0, 0⟩
def sumOf (L : List Nat) : Nat := L.foldr (· + ·) 0
theorem sumOf_snoc (L : List Nat) (k : Nat) : sumOf (L ++ [k]) = sumOf L + k := by
  induction L with
  | nil => simp [sumOf]
  | cons a L ih => unfold sumOf at ih ⊢; simp [ih]; omega
theorem plain_go {bs : List UInt8} (hb : bs.length ≤ maxC) : ∀ (L : List Nat) (a : Nat), a ≤ bs.length → backGo (plainOf L) (bs.take a) (bs.drop a) = if a + sumOf L ≤ bs.length then some (bs.take (a + sumOf L)) else none
  | [], a, ha => by
    have e : (bs.take a).length = a := by rw [List.length_take]; omega
    show backGo [] _ _ = _
    rw [backGo, if_neg (by rw [e]; omega)]
    simp [sumOf, ha]
  | k :: L, a, ha => by
    have e : (bs.drop a).length = bs.length - a := List.length_drop
    have es : sumOf (k :: L) = k + sumOf L := rfl
    show backGo (⟨(k : Int), 0, 0⟩ :: plainOf L) _ _ = _
    rw [backGo, es]
    by_cases hk : a + k ≤ bs.length
    · have e3 : bs.take a ++ (bs.drop a).take k = bs.take (a + k) := by rw [List.take_add]
      have e4 : (bs.take (a + k)).length = a + k := by rw [List.length_take]; omega
      simp only [Int.toNat_natCast]
      rw [if_neg (by show ¬ Bad1 _ _; unfold Bad1; simp only [e]; omega), e3, if_neg (by show ¬ Bad2 _ _; unfold Bad2; simp only [e4]; unfold maxC at *; omega), List.drop_drop]
      show backGo (plainOf L) (copyBack 0 0 (bs.take (a + k))) _ = _
      rw [copyBack, plain_go hb L (a + k) hk, show a + k + sumOf L = a + (k + sumOf L) by omega]
    · rw [if_pos (by show Bad1 _ _; unfold Bad1; simp only [e]; omega), if_neg (by omega)]
theorem plain_back {bs : List UInt8} (hb : bs.length ≤ maxC) (L : List Nat) (a : Nat) (ha : a ≤ bs.length) : back bs a (plainOf L) = if a + sumOf L ≤ bs.length then .ok (bs.take (a + sumOf L)) else .malformed := by
  unfold back
  rw [if_neg (by omega)]
  simp only [Int.toNat_natCast]
  rw [plain_go hb L a ha]
  split <;> rename_i h <;> split at h <;> simp_all

theorem mod100 (x : Int) (h0 : -9223372036854775808 ≤ x) (h1 : x ≤ 9223372036854775807) : ∃ Z : Nat, (wrap64 (x.tmod 100 + 100)).tmod 100 = (Z : Int) ∧ Z ≤ 99 := by
  have a1 := Int.tmod_lt_of_pos x (show (0 : Int) < 100 by omega)
  have a2 := Int.lt_tmod_of_pos x (show (0 : Int) < 100 by omega)
  have e1 : wrap64 (x.tmod 100 + 100) = x.tmod 100 + 100 := by unfold wrap64; omega
  rw [e1]
  generalize x.tmod 100 = r at *
  have b1 := Int.tmod_lt_of_pos (r + 100) (show (0 : Int) < 100 by omega)
  have b2 := Int.tmod_nonneg (a := r + 100) 100 (by omega)
  exact ⟨((r + 100).tmod 100).toNat, by omega, by omega⟩

set_option maxRecDepth 100000 in
set_option maxHeartbeats 2000000 in
theorem lawPlain08 (A : Option Addr) (n c : Nat) (f : Nat → Int) (fr : Int) (X : Option Addr) (nx cx : Nat) (fx : Nat → Int) (w : World)
    (h1 : n ≤ c) (h2 : c ≤ maxLen) (h3 : Opn.RowAt w w.heap.size A n fun i => .int .u8 (f i)) (h4 : ∀ i, i < n → 0 ≤ f i ∧ f i ≤ 255) (_i1 : -9223372036854775808 ≤ fr ∧ fr ≤ 9223372036854775807)
    (_x1 : nx ≤ cx) (_x2 : cx ≤ maxLen) (x3 : Opn.RowAt w w.heap.size X nx fun i => .int .i64 (fx i)) (_x4 : ∀ i, i < nx → -9223372036854775808 ≤ fx i ∧ fx i ≤ 9223372036854775807) :
    Calls Try.prog 7 #[.slice A n c, .int .i64 fr, .slice X nx cx] w fun e w' => e = .returned (.bool true) ∧ Below w.heap.size w w' := by
  obtain ⟨bs, rfl, hr⟩ := BRow.of_row h3 h4
  have HR := Lib.hid hr
  have HM := Lib.hid h2
  have HX := Lib.hid x3
  have X4 := Lib.hid _x4
  clear hr h3 h4 x3 _x4
  unfold maxLen at h2 _x2
  by_cases hmain : bs.length ≤ 16384 ∧ nx ≤ 200 ∧ 0 ≤ fr ∧ fr ≤ bs.length
  · obtain ⟨g1, g2, g3, g4⟩ := hmain
    obtain ⟨F, rfl⟩ : ∃ F : Nat, fr = F := ⟨fr.toNat, by omega⟩
    clear _i1
    have hdq : decide (bs.length < F) = false := decide_eq_false (by omega)
    go_enter Try.func7, Try.ntmps7
    go_wp2
    go_loopw [7, 8, 9] (fun lv nv iv wr => ∃ (i q : Nat) (L : List Nat), iv = .int .i64 i ∧ nv = .int .i64 q ∧ q = F + sumOf L ∧ L.length = i ∧ i ≤ nx ∧ sumOf L ≤ 99 * i ∧ (∀ k ∈ L, k ≤ 99) ∧ OwnSq wr 25 w.heap.size lv (plainOf L) ∧ Below w.heap.size w wr) (fun _ _ iv _ => nx - (intOf iv).toNat)
    case atStart => exact ⟨0, F, [], rfl, rfl, by simp [sumOf], rfl, by omega, by simp [sumOf], by simp, OwnSq.nil _ _ _, Below.refl _ _⟩
    case round =>
      obtain ⟨i, q, L, rfl, rfl, hqs, hLi, hi, hsum, hall, hown, hbe⟩ := hrel
      have OW := Lib.hid hown
      have BE := Lib.hid hbe
      have AL := Lib.hid hall
      have LI := Lib.hid hLi
      have QS := Lib.hid hqs
      have hq : q ≤ bs.length + 19800 := by omega
      have SM := Lib.hid hsum
      clear hown hbe hall hLi hqs hsum
      by_cases hlt : i < nx
      · obtain ⟨b, off, rfl, hb, hcell⟩ := HX.out (by omega)
        have x0 := (BE.out.cell (p := ⟨b, off + i, none⟩) hb).trans (hcell i hlt)
        obtain ⟨x5, x6⟩ := X4.out i hlt
        obtain ⟨Z, hz, hZ⟩ := mod100 (fx i) x5 x6
        clear hcell
        go_wp2_with (at_builtin; refine wpList_append_sq _ rfl (.tmp 46) (.tmp 49) 23 rfl 25 w.heap.size Try.underlying23 Try.info_sq u7 (plainOf L) rfl ?own1 wr.heap.size 1 ⟨(Z : Int), 0, 0⟩ rfl ?news1 ?len1 ?base1 ?next1)
        case own1 => exact OW.out.alloc _
        case news1 => exact Pts.new _ _ _
        case len1 => simp [plainOf, LI.out]; omega
        case base1 => have := BE.out.size; simp; omega
        case next1 =>
          intro v4 w4 hown4 hfrm4 hnew4
          have hb4 : Below w.heap.size w w4 := (BE.out.alloc BE.out.size _).trans (hfrm4.below (B := w.heap.size) (BE.out.alloc BE.out.size _).size (fun q hq => (OW.out.lt hq).1))
          have O4 := Lib.hid hown4
          have B4 := Lib.hid hb4
          clear hown4 hfrm4 hnew4 hb4
          go_wp2
          exact ⟨⟨i + 1, q + Z, L ++ [Z], by go_num, by go_num, by rw [sumOf_snoc]; have := QS.out; omega, by simp [LI.out], by omega, by rw [sumOf_snoc]; have := SM.out; omega, by
            intro k hk
            rcases List.mem_append.1 hk with h | h
            · exact AL.out k h
            · simp at h; omega, by have h := O4.out; unfold plainOf at h ⊢; simpa using h, B4.out⟩, by simp [intOf]; omega⟩
      · have hii : i = nx := by omega
        obtain ⟨A2, c2, rfl, hc2, hm2, hs2⟩ := OW.out.slice
        have hpl : (plainOf L).length = i := by simp [plainOf, LI.out]
        have S2 := Lib.hid hs2
        have hfit : ∀ s ∈ plainOf L, s.fits := by
          intro s hs
          obtain ⟨k, hk, rfl⟩ := List.mem_map.1 hs
          have := AL.out k hk
          unfold Sq.fits; simp only; omega
        have FT := Lib.hid hfit
        have PB := Lib.hid (plain_back (by unfold maxC; omega) L F (by omega) : back bs F (plainOf L) = _)
        have hql : q ≤ bs.length → (bs.take q).length = q := fun h => by rw [List.length_take]; omega
        have QL := Lib.hid hql
        have PLN := Lib.hid hpl
        clear hs2 hfit hm2 hql hpl
        by_cases hqn : q ≤ bs.length
        · have hpb : back bs F (plainOf L) = .ok (bs.take q) := by rw [PB.out, if_pos (by rw [← QS.out]; exact hqn), ← QS.out]
          have PB2 := Lib.hid hpb
          clear hpb
          go_wp2_with fail
          refine (back_num A bs _ c F A2 (plainOf L) _ c2 _ wr PB2.out rfl h1 HM.out ((HR.out.below BE.out).more BE.out.size) (by omega) rfl hc2 S2.out (by rw [PLN.out]; omega) FT.out).mono ?_; rintro e w2 ⟨v2, en2, rfl, ⟨ho2, rfl⟩, b2⟩
          obtain ⟨A3, c3, rfl, hc3, hm3, hr3⟩ := ho2.slice
          have B2 := Lib.hid (BE.out.trans (b2.mono BE.out.size))
          have R3 := Lib.hid hr3
          have RT := Lib.hid ((HR.out.below B2.out).take q)
          have hlt2 : (bs.take q).length = q := QL.out hqn
          clear ho2 hr3 hc3 hm3 b2
          have hsl := fun w => slice_to A bs.length c q hqn h1 w
          generalize bs.take q = tk at *
          have k1 := fun dd => run_conv_bytes (P := Try.prog) (w2.drewN dd) 22 9 5 Try.underlying22 Try.underlying5 Try.underlying9 A3 _ c3 _ tk rfl (BRow.drewN R3.out dd)
          have k2 := fun dd => run_conv_bytes (P := Try.prog) (w2.drewN dd) 22 9 5 Try.underlying22 Try.underlying5 Try.underlying9 A q c _ tk hlt2.symm (BRow.drewN RT.out dd)
          clear hlt2
          go_wp2
          refine QTail.wp_region_qtail_lit 12 (by kernel_rfl) (by kernel_rfl) ?_
          simp only [List.take_succ_cons, List.take_zero, List.drop_succ_cons, List.drop_zero]
          repeat (go_big_quiet_step (fail))
          refine wpQuiet_nil ?_
          rintro w' ⟨nq, rfl⟩
          go_wp2_with fail
          refine (wakes08 _).mono ?_; rintro e w3 ⟨rfl, b3⟩
          go_wp2
          go_ret
          exact ⟨rfl, (below_drewN B2.out nq).trans (b3.mono (below_drewN B2.out nq).size)⟩
        · have hpb : back bs F (plainOf L) = .malformed := by rw [PB.out, if_neg (by rw [← QS.out]; exact hqn)]
          have PB2 := Lib.hid hpb
          clear hpb
          go_wp2_with fail
          refine (back_num A bs _ c F A2 (plainOf L) _ c2 _ wr PB2.out rfl h1 HM.out ((HR.out.below BE.out).more BE.out.size) (by omega) rfl hc2 S2.out (by rw [PLN.out]; omega) FT.out).mono ?_; rintro e w2 ⟨v2, en2, rfl, ⟨rfl, rfl⟩, b2⟩
          have B2 := Lib.hid (BE.out.trans (b2.mono BE.out.size))
          clear b2
          go_wp2_with fail
          refine (wakes08 _).mono ?_; rintro e w3 ⟨rfl, b3⟩
          go_wp2
          go_ret
          exact ⟨rfl, B2.out.trans (b3.mono B2.out.size)⟩
  · have h5 : 16384 < bs.length ∨ (bs.length ≤ 16384 ∧ 200 < nx) ∨ (bs.length ≤ 16384 ∧ nx ≤ 200 ∧ fr < 0) ∨ (bs.length ≤ 16384 ∧ nx ≤ 200 ∧ 0 ≤ fr ∧ bs.length < fr) := by omega
    clear hmain
    rcases h5 with g1 | ⟨g1, g2⟩ | ⟨g1, g2, g3⟩ | ⟨g1, g2, g3, g4⟩
    all_goals
      go_enter Try.func7, Try.ntmps7
      go_wp2_with fail
      refine (wakes08 _).mono ?_; rintro e w3 ⟨rfl, b3⟩
      go_wp2
      go_ret
      exact ⟨rfl, b3⟩
end Go.Proofs.Ytjifnnghcaaonaa
