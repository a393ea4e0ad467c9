/- The contracts of the law's own functions: right, lits, Sizes. -/
import Derived.Test.YtjifnnghcaaonaaChecked
import Derived.Test.YtjifnnghcaaonaaFindR
namespace Go.Proofs.Ytjifnnghcaaonaa
open Go.RowKit Fnd
set_option linter.unusedVariables false
set_option linter.unusedSimpArgs false

set_option maxRecDepth 100000 in
set_option maxHeartbeats 1000000 in
theorem right_any (A : Option Addr) (bs : List UInt8) (n c : Nat) (at_ win lo hi : Nat) (B : Option Addr) (l : List Sq) (m d : Nat) (w : World) (hn : n = bs.length) (hc : bs.length ≤ c) (hcm : c ≤ maxLen) (hr : BRow w w.heap.size A bs) (hlen : bs.length ≤ 1048576)
    (hm : m = l.length) (hl : SqRow w w.heap.size B l) (hml : l.length ≤ 140737488355328) (hlo : 1 ≤ lo) (hlh : lo ≤ hi) (hhi : hi ≤ 1048576) (hwin : win ≤ 16777216) (hR : Right bs win lo hi l at_) :
    Calls Try.prog 13 #[.slice A n c, .int .i64 at_, .int .i64 win, .int .i64 lo, .int .i64 hi, .slice B m d] w fun e w' => e = .returned (.bool true) ∧ Below w.heap.size w w' := by
  subst hn; subst hm
  have HR := Lib.hid hr
  have HL := Lib.hid hl
  have RI := Lib.hid hR
  have hat := hR.le
  unfold maxLen at hcm
  clear hr hl hR
  go_enter Try.func13, Try.ntmps13
  go_wp2
  go_loopw [13, 14] (fun av iv wr => ∃ (k a : Nat), iv = .int .i64 k ∧ av = .int .i64 a ∧ k ≤ l.length ∧ Right bs win lo hi (l.drop k) a ∧ Below w.heap.size w wr) (fun _ iv _ => l.length - (intOf iv).toNat)
  case atStart => exact ⟨0, at_, rfl, rfl, by omega, RI.out, Below.refl _ _⟩
  case round =>
    obtain ⟨k, a, rfl, rfl, hk, hri, hbe⟩ := hrel
    have BE := Lib.hid hbe
    have hale := hri.le
    clear hbe
    by_cases hkl : k < l.length
    · obtain ⟨b, off, hB, hb, hcell⟩ := HL.out (by omega)
      subst hB
      obtain ⟨c0, c1, c2⟩ := hcell k hkl
      obtain ⟨s, hs⟩ : ∃ s, l.getD k default = s := ⟨_, rfl⟩
      rw [hs] at c0 c1 c2
      have hdrop : l.drop k = s :: l.drop (k + 1) := by
        rw [List.drop_eq_getElem_cons hkl, ← hs]
        simp [List.getD, hkl]
      have x0 := (BE.out.cell (p := ⟨b, off + k * 3, none⟩) hb).trans c0
      have x1 := (BE.out.cell (p := ⟨b, off + k * 3 + 1, none⟩) hb).trans c1
      have x2 := (BE.out.cell (p := ⟨b, off + k * 3 + 2, none⟩) hb).trans c2
      rw [hdrop] at hri
      clear hcell c0 c1 c2 hs
      rcases hri with ⟨e, ⟨L, M, K, rfl, h1, h2, h3, h4, h5, h6, h7, h8⟩, hnext⟩ | ⟨hnil, L, rfl, h1, h2⟩
      · simp only at x0 x1 x2
        have NX := Lib.hid hnext
        have MT := Lib.hid h8
        have m0 : ((M : Int) == 0) = false := beq_eq_false_iff_ne.2 (by omega)
        clear hnext h8 hdrop
        go_wp2
        obtain ⟨wo, rfl⟩ : ∃ wo : World, wo = wr := ⟨_, rfl⟩
        have PS0 := Lib.hid (Pts.new wo #[.int .i64 (L : Int), .int .i64 (M : Int), .int .i64 (K : Int)] 25)
        have BE2 := Lib.hid (BE.out.alloc BE.out.size (.cells #[.int .i64 (L : Int), .int .i64 (M : Int), .int .i64 (K : Int)] 25))
        generalize wo.alloc (.cells #[.int .i64 (L : Int), .int .i64 (M : Int), .int .i64 (K : Int)] 25) = w1 at *
        have y1 : w1.cell? ⟨wo.heap.size, 1, none⟩ = some (.int .i64 (M : Int)) := by rw [PS0.out.cell]; rfl
        have y2 : w1.cell? ⟨wo.heap.size, 2, none⟩ = some (.int .i64 (K : Int)) := by rw [PS0.out.cell]; rfl
        go_loopw [16] (fun jv wq => ∃ j : Nat, j ≤ M ∧ jv = .int .i64 j ∧ ∃ d, wq = w1.drewN d) (fun jv _ => M - (intOf jv).toNat)
        case atStart => exact ⟨0, by omega, rfl, 0, rfl⟩
        case round =>
          obtain ⟨j, hj, rfl, dd, rfl⟩ := hrel
          by_cases hjM : j < M
          · obtain ⟨b', off', rfl, hb', hcc⟩ := (HR.out.below BE2.out) (by omega)
            have e1 := hcc (a + L + j) (by omega)
            have e2 := hcc (a + L + j - K) (by omega)
            rw [MT.out j hjM] at e1
            unfold byteV at e1 e2
            generalize bs.getD (a + L + j - K) 0 = x at e1 e2
            have hsub : ((a : Int) + L + j - K).toNat = a + L + j - K := by omega
            have hs0 : (K : Int) ≤ (a : Int) + L + j := by omega
            clear hcc
            go_wp2
            go_quiet (fail)
            go_wp2
            exact ⟨⟨j + 1, by omega, by go_num, by first | exact ⟨_, rfl⟩ | exact ⟨_, World.drewN_drewN _ _ _⟩⟩, by simp [intOf]; omega⟩
          · obtain rfl : j = M := by omega
            go_wp2
            exact ⟨⟨k + 1, e, by go_num, by rw [← h1]; go_num, by omega, NX.out, below_drewN BE2.out _⟩, by simp [intOf]; omega⟩
      · simp only at x0 x1 x2
        have hlast : k + 1 = l.length := by
          have := congrArg List.length hnil
          rw [List.length_drop] at this
          simp at this; omega
        have m0 : ((L : Int) == 0) = false := beq_eq_false_iff_ne.2 (by omega)
        have m1 : ((k : Int) == (l.length : Int) - 1) = true := beq_iff_eq.2 (by omega)
        clear hnil hdrop
        go_wp2
        exact ⟨⟨k + 1, a + L, by go_num, by go_num, by omega, by rw [List.drop_eq_nil_of_le (by omega)]; exact h2, BE.out.alloc BE.out.size _⟩, by simp [intOf]; omega⟩
    · have hk2 : k = l.length := by omega
      subst hk2
      rw [List.drop_eq_nil_of_le (Nat.le_refl _)] at hri
      have h : a = bs.length := hri
      subst h
      clear hri
      go_wp2
      go_ret
      exact ⟨rfl, BE.out⟩

end Go.Proofs.Ytjifnnghcaaonaa
