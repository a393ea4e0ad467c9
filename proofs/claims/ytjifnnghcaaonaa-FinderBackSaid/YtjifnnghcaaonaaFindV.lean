/- The walk of FinderBack. -/
import Derived.Test.YtjifnnghcaaonaaFindY
import Derived.Test.YtjifnnghcaaonaaFindU
import Derived.Test.YtjifnnghcaaonaaSqOpen
namespace Go.Proofs.Ytjifnnghcaaonaa
open Go.RowKit Fnd
set_option linter.unusedVariables false
set_option linter.unusedSimpArgs false

theorem refback_num (A : Option Addr) (bs : List UInt8) (n c : Nat) (fr : Int) (B : Option Addr) (l : List Sq) (m d : Nat) (t : Tale) (w : World) (ht : back bs fr l = t) (hn : n = bs.length) (hc : bs.length ≤ c) (hcm : c ≤ maxLen) (hr : BRow w w.heap.size A bs) (hlen : bs.length ≤ 1048576)
    (hm : m = l.length) (hmd : l.length ≤ d) (hl : SqRow w w.heap.size B l) (hml : l.length ≤ 140737488355328) (hfit : ∀ s ∈ l, s.fits) :
    Calls Try.prog 10 #[.slice A n c, .int .i64 fr, .slice B m d] w fun e w' => ∃ v en, e = .returned (.tuple #[v, .int .i64 en]) ∧ TaleBy w w' v en t ∧ Below w.heap.size w w' := by
  subst ht
  exact refback_any A bs n c fr B l m d w hn hc hcm hr hlen hm hmd hl hml hfit

set_option maxRecDepth 100000 in
set_option maxHeartbeats 2000000 in
theorem lawBack08 (A : Option Addr) (n c : Nat) (f : Nat → Int) (fr : Int) (B : Option Addr) (l : List Sq) (m d : Nat) (w : World)
    (h1 : n ≤ c) (h2 : c ≤ maxLen) (h3 : Opn.RowAt w w.heap.size A n fun i => .int .u8 (f i)) (h4 : ∀ i, i < n → 0 ≤ f i ∧ f i ≤ 255) (_i1 : -9223372036854775808 ≤ fr ∧ fr ≤ 9223372036854775807)
    (l1 : m = l.length) (l2 : l.length ≤ d) (_l3 : d ≤ maxLen) (l4 : SqRow w w.heap.size B l) (l5 : ∀ s ∈ l, s.fits) :
    Calls Try.prog 3 #[.slice A n c, .int .i64 fr, .slice B m d] w fun e w' => e = .returned (.bool true) ∧ Below w.heap.size w w' := by
  obtain ⟨bs, rfl, hr⟩ := BRow.of_row h3 h4
  subst l1
  have HR := Lib.hid hr
  have HM := Lib.hid h2
  have HL := Lib.hid l4
  have HF := Lib.hid l5
  clear hr h3 h4 _i1 l4 l5
  unfold maxLen at h2 _l3
  go_enter Try.func3, Try.ntmps3
  go_wp2
  go_loopw [7, 8] (fun qv iv wr => ∃ k q : Nat, qv = .int .i64 q ∧ iv = .int .i64 k ∧ k ≤ l.length ∧ q ≤ 16908288 ∧ wr = w) (fun _ iv _ => l.length - (intOf iv).toNat)
  case atStart => exact ⟨0, 0, rfl, rfl, by omega, by omega, rfl⟩
  case round =>
    obtain ⟨k, q, rfl, rfl, hk, hq, rfl⟩ := hrel
    by_cases hgo : k < l.length ∧ k ≤ 4096 ∧ q ≤ 131072
    · obtain ⟨g1, g2, g3⟩ := hgo
      obtain ⟨b, off, rfl, hb, hcell⟩ := HL.out (by omega)
      obtain ⟨_, x1, _⟩ := hcell k g1
      clear hcell
      obtain ⟨z, hz⟩ : ∃ z, (l.getD k default).mat = z := ⟨_, rfl⟩
      rw [hz] at x1
      clear hz
      by_cases hz0 : 0 < z
      · by_cases hz1 : z ≤ 16777216
        · obtain ⟨Z, rfl⟩ : ∃ Z : Nat, z = Z := ⟨z.toNat, by omega⟩
          go_wp2
          exact ⟨⟨k + 1, q + Z, by go_num, by go_num, by omega, by omega, by first | rfl | trivial⟩, by simp [intOf]; omega⟩
        · go_wp2
          exact ⟨⟨k + 1, q, rfl, by go_num, by omega, by omega, by first | rfl | trivial⟩, by simp [intOf]; omega⟩
      · go_wp2
        exact ⟨⟨k + 1, q, rfl, by go_num, by omega, by omega, by first | rfl | trivial⟩, by simp [intOf]; omega⟩
    · by_cases hmain : k = l.length ∧ bs.length ≤ 65536 ∧ l.length ≤ 4096 ∧ q ≤ 131072
      · obtain ⟨hk2, g1, g2, g3⟩ := hmain
        clear hgo
        obtain ⟨t, ht⟩ : ∃ t, back bs fr l = t := ⟨_, rfl⟩
        have HT := Lib.hid ht
        clear ht
        go_wp2_with fail
        refine (back_num A bs _ c fr B l _ d t wr HT.out rfl h1 HM.out HR.out (by omega) rfl l2 HL.out (by omega) HF.out).mono ?_; rintro e w1 ⟨v1, en1, rfl, ht1, b1⟩
        have T1 := Lib.hid ht1
        have B1 := Lib.hid b1
        clear ht1 b1
        cases t with
        | arg =>
          obtain ⟨rfl, rfl⟩ := T1.out
          go_wp2_with fail
          refine (refback_num A bs _ c fr B l _ d .arg w1 HT.out rfl h1 HM.out ((HR.out.below B1.out).more B1.out.size) (by omega) rfl l2 ((HL.out.below B1.out).more B1.out.size) (by omega) HF.out).mono ?_; rintro e w2 ⟨v2, en2, rfl, ⟨rfl, rfl⟩, b2⟩
          have B2 := Lib.hid (B1.out.trans (b2.mono B1.out.size))
          clear b2
          have k1 := run_conv_bytes (P := Try.prog) w2 22 9 5 Try.underlying22 Try.underlying5 Try.underlying9 none 0 0 _ [] rfl (BRow.nil _ 0 _)
          go_wp2_with fail
          refine (wakes08 _).mono ?_; rintro e w3 ⟨rfl, b3⟩
          go_wp2
          go_ret
          exact ⟨rfl, B2.out.trans (b3.mono B2.out.size)⟩
        | malformed =>
          obtain ⟨rfl, rfl⟩ := T1.out
          go_wp2_with fail
          refine (refback_num A bs _ c fr B l _ d .malformed w1 HT.out rfl h1 HM.out ((HR.out.below B1.out).more B1.out.size) (by omega) rfl l2 ((HL.out.below B1.out).more B1.out.size) (by omega) HF.out).mono ?_; rintro e w2 ⟨v2, en2, rfl, ⟨rfl, rfl⟩, b2⟩
          have B2 := Lib.hid (B1.out.trans (b2.mono B1.out.size))
          clear b2
          have k1 := run_conv_bytes (P := Try.prog) w2 22 9 5 Try.underlying22 Try.underlying5 Try.underlying9 none 0 0 _ [] rfl (BRow.nil _ 0 _)
          go_wp2_with fail
          refine (wakes08 _).mono ?_; rintro e w3 ⟨rfl, b3⟩
          go_wp2
          go_ret
          exact ⟨rfl, B2.out.trans (b3.mono B2.out.size)⟩
        | ok out =>
          obtain ⟨ho1, rfl⟩ := T1.out
          obtain ⟨A1, c1, rfl, hc1, hm1, hr1⟩ := ho1.slice
          have R1 := Lib.hid hr1
          clear ho1 hr1 T1
          go_wp2_with fail
          refine (refback_num A bs _ c fr B l _ d (.ok out) w1 HT.out rfl h1 HM.out ((HR.out.below B1.out).more B1.out.size) (by omega) rfl l2 ((HL.out.below B1.out).more B1.out.size) (by omega) HF.out).mono ?_; rintro e w2 ⟨v2, en2, rfl, ⟨ho2, rfl⟩, b2⟩
          obtain ⟨A2, c2, rfl, hc2, hm2, hr2⟩ := ho2.slice
          have k1 := run_conv_bytes (P := Try.prog) w2 22 9 5 Try.underlying22 Try.underlying5 Try.underlying9 A1 _ c1 _ out rfl (R1.out.below b2)
          have k2 := run_conv_bytes (P := Try.prog) w2 22 9 5 Try.underlying22 Try.underlying5 Try.underlying9 A2 _ c2 _ out rfl hr2
          have B2 := Lib.hid (B1.out.trans (b2.mono B1.out.size))
          clear b2 ho2 hr2
          go_wp2_with fail
          refine (wakes08 _).mono ?_; rintro e w3 ⟨rfl, b3⟩
          go_wp2
          go_ret
          exact ⟨rfl, B2.out.trans (b3.mono B2.out.size)⟩
      · have hw : (k = l.length ∧ ((65536 < bs.length) ∨ (bs.length ≤ 65536 ∧ 4096 < l.length) ∨ (bs.length ≤ 65536 ∧ l.length ≤ 4096 ∧ 131072 < q))) ∨
            (k < l.length ∧ 4096 < k ∧ (65536 < bs.length ∨ (bs.length ≤ 65536 ∧ 4096 < l.length))) ∨
            (k < l.length ∧ k ≤ 4096 ∧ 131072 < q ∧ (65536 < bs.length ∨ (bs.length ≤ 65536 ∧ 4096 < l.length) ∨ (bs.length ≤ 65536 ∧ l.length ≤ 4096))) := by omega
        clear hgo hmain
        rcases hw with ⟨g1, g2 | ⟨g2, g3⟩ | ⟨g2, g3, g4⟩⟩ | ⟨g1, g0, g2 | ⟨g2, g3⟩⟩ | ⟨g1, g0, g5, g2 | ⟨g2, g3⟩ | ⟨g2, g3⟩⟩
        all_goals
          go_wp2_with fail
          refine (wakes08 _).mono ?_; rintro e w3 ⟨rfl, b3⟩
          go_wp2
          go_ret
          exact ⟨rfl, b3⟩
end Go.Proofs.Ytjifnnghcaaonaa
