/- The walk of LedgerPlays. -/
import Derived.Test.YtlllfolajlfibaaLedgerSum
import Derived.Test.YtlllfolajlfibaaLedgerRef
namespace Go.Proofs.Ytlllfolajlfibaa
open Go.RowKit

theorem rcharge_num (b : Nat) (B n m k E N M : Int) (w : World) (h : RLed w b B n m) (hB : 0 ≤ B ∧ B ≤ 16777216) (hn : 0 ≤ n ∧ n ≤ B) (hm : n ≤ m ∧ m ≤ B)
    (he : chE B n k = E ∧ chN B n k = N ∧ chM B n m k = M) :
    Calls Try.prog 13 #[.pointer (some ⟨b, 0, none⟩), .int .i64 k] w fun e w' =>
      e = .returned (.int .i64 E) ∧ RLed w' b B N M ∧ Frm (· = b) w w' := by
  obtain ⟨rfl, rfl, rfl⟩ := he
  exact rcharge_led b B n m k w h hB hn hm
theorem rrelease_num (b : Nat) (B n m k E N : Int) (w : World) (h : RLed w b B n m) (hB : 0 ≤ B ∧ B ≤ 16777216) (hn : 0 ≤ n ∧ n ≤ B)
    (he : reE n k = E ∧ reN n k = N) :
    Calls Try.prog 11 #[.pointer (some ⟨b, 0, none⟩), .int .i64 k] w fun e w' =>
      e = .returned (.int .i64 E) ∧ RLed w' b B N m ∧ Frm (· = b) w w' := by
  obtain ⟨rfl, rfl⟩ := he
  exact rrelease_led b B n m k w h hB hn

set_option maxHeartbeats 4000000 in
theorem lawPlays04 (B : Int) (A : Option Addr) (len cap : Nat) (f : Nat → Int) (g : Nat → Bool) (w : World) (_hB : -9223372036854775808 ≤ B ∧ B ≤ 9223372036854775807) (hlc : len ≤ cap) (hcap : cap ≤ maxLen) (ha : ActsAt w w.heap.size A len f g)
    (hf : ∀ k, k < len → -9223372036854775808 ≤ f k ∧ f k ≤ 9223372036854775807) :
    Calls Try.prog 3 #[.int .i64 B, .slice A len cap] w fun e w' => e = .returned (.bool true) ∧ Below w.heap.size w w' := by
  unfold maxLen at hcap
  have HA := Lib.hid ha
  have HF := Lib.hid hf
  clear ha hf
  by_cases h300 : 300 < len
  · go_enter Try.func3, Try.ntmps3
    go_wp2_with fail
    refine (wakes04 _).mono ?_; rintro e w1 ⟨rfl, h1⟩
    go_wp2
    go_ret
    exact ⟨rfl, h1⟩
  · obtain ⟨C, hC⟩ : ∃ C, bud B = C := ⟨_, rfl⟩
    have hC1 : 0 ≤ C ∧ C ≤ 16777216 := by rw [← hC]; exact bud_bd B
    obtain ⟨hC0, hC1⟩ := hC1
    have HC := Lib.hid hC
    clear hC
    go_enter Try.func3, Try.ntmps3
    go_wp2_with fail
    refine (new_num _ C _ HC.out).mono ?_; rintro e w1 ⟨rfl, h1, b1⟩
    go_wp2_with fail
    refine (rnew_led _ _).mono ?_; rw [HC.out]; rintro e w2 ⟨rfl, h2, b2⟩
    go_wp2_with fail
    have hsz : w.heap.size < w1.heap.size := h1.lt
    have h1' := h1.below b2 hsz
    have b3 := b1.trans (b2.mono b1.size)
    generalize w1.heap.size = br at *
    go_loopw [7] (fun i wr => ∃ (k : Nat) (n m : Int), k ≤ len ∧ i = .int .i64 k ∧ 0 ≤ n ∧ n ≤ m ∧ m ≤ C ∧ Led wr w.heap.size C n m ∧ RLed wr br C n m ∧ Below w.heap.size w wr)
      (fun i _ => len - (intOf i).toNat)
    case atStart => exact ⟨0, 0, 0, by omega, rfl, by omega, by omega, by omega, h1', h2, b3⟩
    case round =>
      obtain ⟨k, n, m, hk, rfl, hn0, hnm, hmb, hl, hrl, hb⟩ := hrel
      by_cases hlt : k < len
      · obtain ⟨ab, aoff, rfl, hab, hcell⟩ := (HA.out.below hb) (by omega)
        obtain ⟨hc1, hc2⟩ := hcell k hlt
        obtain ⟨hf1, hf2⟩ := HF.out k hlt
        clear hcell h1 b1 h2 b2 h1' b3
        generalize f k = x at *
        have HL := Lib.hid hl
        have HR := Lib.hid hrl
        have HB := Lib.hid hb
        clear hl hb hrl
        cases hg : g k
        · rw [hg] at hc2
          clear hg
          obtain ⟨E, N, M, hch, hN, hM⟩ : ∃ E N M, (chE C n x = E ∧ chN C n x = N ∧ chM C n m x = M) ∧ (0 ≤ N ∧ N ≤ C) ∧ (N ≤ M ∧ M ≤ C) := by
            refine ⟨_, _, _, ⟨rfl, rfl, rfl⟩, ?_, ?_⟩ <;> unfold chN <;> (try unfold chM) <;> split <;> (try split) <;> omega
          have HCH := Lib.hid hch
          obtain ⟨hN1, hN2⟩ := hN
          obtain ⟨hM1, hM2⟩ := hM
          clear hch
          go_wp2_with fail
          refine (charge_num _ _ _ _ _ _ _ _ _ HL.out (by omega) (by omega) (by omega) HCH.out).mono ?_; rintro e w2 ⟨rfl, h2, f2⟩
          have r2 := Lib.hid (Pts.frm HR.out f2 (by show ¬ _ = _; omega))
          have c2 := Lib.hid (f2.below (B := w.heap.size) HB.out.size (by intro k hk; omega))
          have hc1' := (c2.out.cell (p := ⟨ab, _, none⟩) hab).trans hc1
          clear f2
          go_wp2_with fail
          refine (rcharge_num _ _ _ _ _ _ _ _ _ r2.out (by omega) (by omega) (by omega) HCH.out).mono ?_; rintro e w3 ⟨rfl, h3, f3⟩
          have h2' := Pts.frm h2 f3 (by show ¬ _ = _; omega)
          have c3 := Lib.hid (f3.below (B := w.heap.size) (HB.out.trans c2.out).size (by intro k hk; omega))
          clear f3 h2
          have HN := Lib.hid h2'
          clear h2'
          go_wp2_with fail
          refine (held_led _ _ _ _ _ HN.out).mono ?_; rintro e w4 ⟨rfl, d, rfl⟩
          have q1 : w3.cell? ⟨br, 1, none⟩ = some (.int .i64 N) := h3.cell 1
          have q2 : w3.cell? ⟨br, 2, none⟩ = some (.int .i64 M) := h3.cell 2
          have H3 := Lib.hid h3
          clear h3
          go_wp2
          exact ⟨⟨k + 1, _, _, by omega, by go_num, by omega, by omega, by omega, Pts.drewN HN.out d, Pts.drewN H3.out d, ((HB.out.trans c2.out).trans c3.out).trans ⟨rfl, rfl, rfl, Nat.le_refl _, fun _ _ => rfl⟩⟩, by simp [intOf]; omega⟩
        · rw [hg] at hc2
          clear hg
          obtain ⟨E, N, hch, hN⟩ : ∃ E N, (reE n x = E ∧ reN n x = N) ∧ (0 ≤ N ∧ N ≤ n) := by
            refine ⟨_, _, ⟨rfl, rfl⟩, ?_⟩ <;> unfold reN <;> split <;> (try split) <;> omega
          have HCH := Lib.hid hch
          obtain ⟨hN1, hN2⟩ := hN
          clear hch
          go_wp2_with fail
          refine (release_num _ _ _ _ _ _ _ _ HL.out (by omega) (by omega) HCH.out).mono ?_; rintro e w2 ⟨rfl, h2, f2⟩
          have r2 := Lib.hid (Pts.frm HR.out f2 (by show ¬ _ = _; omega))
          have c2 := Lib.hid (f2.below (B := w.heap.size) HB.out.size (by intro k hk; omega))
          have hc1' := (c2.out.cell (p := ⟨ab, _, none⟩) hab).trans hc1
          clear f2
          go_wp2_with fail
          refine (rrelease_num _ _ _ _ _ _ _ _ r2.out (by omega) (by omega) HCH.out).mono ?_; rintro e w3 ⟨rfl, h3, f3⟩
          have h2' := Pts.frm h2 f3 (by show ¬ _ = _; omega)
          have c3 := Lib.hid (f3.below (B := w.heap.size) (HB.out.trans c2.out).size (by intro k hk; omega))
          clear f3 h2
          have HN := Lib.hid h2'
          clear h2'
          go_wp2_with fail
          refine (held_led _ _ _ _ _ HN.out).mono ?_; rintro e w4 ⟨rfl, d, rfl⟩
          have q1 : w3.cell? ⟨br, 1, none⟩ = some (.int .i64 N) := h3.cell 1
          have q2 : w3.cell? ⟨br, 2, none⟩ = some (.int .i64 m) := h3.cell 2
          have H3 := Lib.hid h3
          clear h3
          go_wp2
          exact ⟨⟨k + 1, _, _, by omega, by go_num, by omega, by omega, by omega, Pts.drewN HN.out d, Pts.drewN H3.out d, ((HB.out.trans c2.out).trans c3.out).trans ⟨rfl, rfl, rfl, Nat.le_refl _, fun _ _ => rfl⟩⟩, by simp [intOf]; omega⟩
      · go_wp2_with fail
        refine (wakes04 _).mono ?_; rintro e w2 ⟨rfl, h2⟩
        go_wp2
        go_ret
        exact ⟨rfl, hb.trans (h2.mono hb.size)⟩
end Go.Proofs.Ytlllfolajlfibaa
