/- The walk of SumsTell. -/
import Derived.Test.YtmijkndokcibpaaSumsW
namespace Go.Proofs.Ytmijkndokcibpaa
open Go.RowKit

set_option maxHeartbeats 1000000 in
theorem lawTell02 (A : Option Addr) (n c : Nat) (f : Nat → Int) (w : World) (h1 : n ≤ c) (h2 : c ≤ maxLen) (h3 : Opn.RowAt w w.heap.size A n fun i => .int .u8 (f i)) (h4 : ∀ i, i < n → 0 ≤ f i ∧ f i ≤ 255) :
    Calls Try.prog 3 #[.slice A n c] w fun e w' => e = .returned (.bool true) ∧ Below w.heap.size w w' := by
  obtain ⟨bs, rfl, hr⟩ := BRow.of_row h3 h4
  have HR := Lib.hid hr
  have HM := Lib.hid h2
  clear h3 h4 hr h2
  by_cases hg : 65536 < bs.length
  · go_enter Try.func3, Try.ntmps3
    go_wp2_with fail
    refine (wakes02 _).mono ?_; rintro e w1 ⟨rfl, h1⟩
    go_wp2
    go_ret
    exact ⟨rfl, h1⟩
  · have hlen : bs.length ≤ 140737488355328 := by omega
    go_enter Try.func3, Try.ntmps3
    go_wp2_with (at_builtin; refine wpList_append_bytes _ rfl (.tmp 9) (.tmp 10) 22 rfl 5 w.heap.size Try.underlying22 Try.info_u8 (.slice (some ⟨w.heap.size, 0, none⟩) 0 0) [] rfl ?own A bs.length c w.heap.size bs rfl rfl ?row ?len ?base ?k)
    case own => exact OwnB.made _ _ _ (Nat.le_refl _)
    case row => exact HR.out.below ((Below.refl _ _).alloc (Nat.le_refl _) _)
    case len => simp; omega
    case base => simp
    case k =>
      intro v w1 hown hfrm hnew
      obtain ⟨A1, c1, rfl, hc1, hm1, hr1⟩ := hown.slice
      have hb1 : Below w.heap.size w w1 := ((Below.refl _ _).alloc (Nat.le_refl _) _).trans (hfrm.below (by simp) (by intro k hk; simp [Value.ownBlock] at hk; omega))
      have HR1 := Lib.hid hr1
      have HB1 := Lib.hid hb1
      clear hown hfrm hnew hr1 hb1
      go_wp2_with fail
      refine (crc32_any _ bs _ _ _ rfl HR1.out hlen).mono ?_; rintro e w2 ⟨rfl, b2⟩
      have B2 := Lib.hid (HB1.out.trans (b2.mono HB1.out.size))
      have R2 := Lib.hid ((HR1.out.below b2).more b2.size)
      clear b2
      go_wp2_with fail
      refine (rcrc32_any' _ bs _ _ _ _ rfl (HR.out.below B2.out) hlen).mono ?_; rintro e w3 ⟨rfl, rfl⟩
      go_wp2_with fail
      refine (crc64_any _ bs _ _ _ rfl R2.out hlen).mono ?_; rintro e w3 ⟨rfl, b3⟩
      have B3 := Lib.hid (B2.out.trans (b3.mono B2.out.size))
      have R3 := Lib.hid ((R2.out.below b3).more b3.size)
      clear b3
      go_wp2_with fail
      refine (rcrc64_any' _ bs _ _ _ _ rfl (HR.out.below B3.out) hlen).mono ?_; rintro e w4 ⟨rfl, rfl⟩
      go_wp2_with fail
      refine (xxh64_any _ bs _ _ _ rfl R3.out hlen).mono ?_; rintro e w4 ⟨rfl, b4⟩
      have B4 := Lib.hid (B3.out.trans (b4.mono B3.out.size))
      have R4 := Lib.hid ((R3.out.below b4).more b4.size)
      clear b4
      go_wp2_with fail
      refine (rxxh_any _ bs _ _ _ rfl h1 HM.out ((HR.out.below B4.out).more B4.out.size) hlen).mono ?_; rintro e w5 ⟨rfl, b5⟩
      have B5 := Lib.hid (B4.out.trans (b5.mono B4.out.size))
      have R5 := Lib.hid ((R4.out.below b5).more b5.size)
      clear b5
      have c1 := run_conv_bytes (P := Try.prog) w5 22 9 5 Try.underlying22 Try.underlying5 Try.underlying9 A1 _ c1 _ bs rfl R5.out
      have c2 := run_conv_bytes (P := Try.prog) w5 22 9 5 Try.underlying22 Try.underlying5 Try.underlying9 A _ c _ bs rfl (HR.out.below B5.out)
      go_wp2_with fail
      refine (wakes02 _).mono ?_; rintro e w6 ⟨rfl, b6⟩
      go_wp2
      go_ret
      exact ⟨rfl, B5.out.trans (b6.mono B5.out.size)⟩
end Go.Proofs.Ytmijkndokcibpaa
