/- The walk of LedgerSum. -/
import Derived.Test.YtlllfolajlfibaaLedgerWakes
namespace Go.Proofs.Ytlllfolajlfibaa
open Go.RowKit

/-- A slice of structs of a number and a bool: n of them, below block B. -/
def ActsAt (w : World) (B : Nat) (A : Option Addr) (n : Nat) (f : Nat → Int) (g : Nat → Bool) : Prop :=
  0 < n → ∃ b off, A = some ⟨b, off, none⟩ ∧ b < B ∧ ∀ k, k < n → w.cell? ⟨b, off + k * 2, none⟩ = some (.int .i64 (f k)) ∧ w.cell? ⟨b, off + k * 2 + 1, none⟩ = some (.bool (g k))

theorem ActsAt.below {w w' : World} {B n : Nat} {A : Option Addr} {f : Nat → Int} {g : Nat → Bool} (h : ActsAt w B A n f g) (hb : Below B w w') : ActsAt w' B A n f g := by
  intro hn
  obtain ⟨b, off, rfl, hlt, hc⟩ := h hn
  exact ⟨b, off, rfl, hlt, fun k hk => by rw [hb.cell (p := ⟨b, _, none⟩) hlt, hb.cell (p := ⟨b, _, none⟩) hlt]; exact hc k hk⟩

set_option maxHeartbeats 4000000 in
theorem lawSum04 (B : Int) (A : Option Addr) (len cap : Nat) (f : Nat → Int) (g : Nat → Bool) (w : World) (hB : -9223372036854775808 ≤ B ∧ B ≤ 9223372036854775807) (hlc : len ≤ cap) (hcap : cap ≤ maxLen) (ha : ActsAt w w.heap.size A len f g)
    (hf : ∀ k, k < len → -9223372036854775808 ≤ f k ∧ f k ≤ 9223372036854775807) :
    Calls Try.prog 5 #[.int .i64 B, .slice A len cap] w fun e w' => e = .returned (.bool true) ∧ Below w.heap.size w w' := by
  unfold maxLen at hcap
  obtain ⟨hB0, hB1⟩ := hB
  have HA := Lib.hid ha
  have HF := Lib.hid hf
  clear ha hf
  by_cases h300 : 300 < len
  · go_enter Try.func5, Try.ntmps5
    go_wp2_with fail
    refine (wakes04 _).mono ?_; rintro e w1 ⟨rfl, h1⟩
    go_wp2
    go_ret
    exact ⟨rfl, h1⟩
  · obtain ⟨C, hC⟩ : ∃ C, bud B = C := ⟨_, rfl⟩
    have hC1 : C ≤ min (max B 0) 16777216 := by rw [← hC]; unfold bud; omega
    have hC2 : min (max B 0) 16777216 ≤ C := by rw [← hC]; unfold bud; omega
    have HC := Lib.hid hC
    clear hC
    go_enter Try.func5, Try.ntmps5
    go_wp2_with fail
    refine (new_num _ C _ HC.out).mono ?_; rintro e w1 ⟨rfl, h1, b1⟩
    go_wp2_with fail
    go_loopw [6, 7, 8] (fun s t i wr => ∃ (k : Nat) (n m : Int), k ≤ len ∧ i = .int .i64 k ∧ s = .int .i64 n ∧ t = .int .i64 m ∧ 0 ≤ n ∧ n ≤ m ∧ m ≤ C ∧ Led wr w.heap.size C n m ∧ Below w.heap.size w wr)
      (fun _ _ i _ => len - (intOf i).toNat)
    case atStart => exact ⟨0, 0, 0, by omega, rfl, rfl, rfl, by omega, by omega, by omega, h1, b1⟩
    case round =>
      obtain ⟨k, n, m, hk, rfl, rfl, rfl, hn0, hnm, hmb, hl, hb⟩ := hrel
      by_cases hlt : k < len
      · obtain ⟨ab, aoff, rfl, hab, hcell⟩ := (HA.out.below hb) (by omega)
        obtain ⟨hc1, hc2⟩ := hcell k hlt
        obtain ⟨hf1, hf2⟩ := HF.out k hlt
        clear hcell
        generalize f k = x at *
        have HL := Lib.hid hl
        have HB := Lib.hid hb
        clear hl hb
        cases hg : g k
        · rw [hg] at hc2
          clear hg
          obtain ⟨E, N, M, hch, hcase⟩ : ∃ E N M, (chE C n x = E ∧ chN C n x = N ∧ chM C n m x = M) ∧ ((x < 0 ∧ E = 2 ∧ N = n ∧ M = m) ∨ (0 ≤ x ∧ C - n < x ∧ E = 40 ∧ N = n ∧ M = m) ∨ (0 ≤ x ∧ x ≤ C - n ∧ E = 0 ∧ N = n + x ∧ ((m < n + x ∧ M = n + x) ∨ (n + x ≤ m ∧ M = m)))) := by
            by_cases h1 : x < 0
            · exact ⟨_, _, _, ch_neg m h1, .inl ⟨h1, rfl, rfl, rfl⟩⟩
            · by_cases h2 : C - n < x
              · exact ⟨_, _, _, ch_over m h1 h2, .inr (.inl ⟨by omega, h2, rfl, rfl, rfl⟩)⟩
              · exact ⟨_, _, _, ch_ok m h1 h2, .inr (.inr ⟨by omega, by omega, rfl, rfl, by omega⟩)⟩
          have HCH := Lib.hid hch
          clear hch
          rcases hcase with ⟨hx, rfl, rfl, rfl⟩ | ⟨hx0, hx, rfl, rfl, rfl⟩ | ⟨hx0, hx, rfl, rfl, ⟨hM, rfl⟩ | ⟨hM, rfl⟩⟩
          · go_wp2_with fail
            refine (charge_num _ _ _ _ _ _ _ _ _ HL.out (by omega) (by omega) (by omega) HCH.out).mono ?_; rintro e w2 ⟨rfl, h2, f2⟩
            have c2 := Lib.hid (f2.below (B := w.heap.size) HB.out.size (by intro k hk; omega))
            clear f2
            go_wp2_with fail
            refine (held_led _ _ _ _ _ h2).mono ?_; rintro e w3 ⟨rfl, d, rfl⟩
            go_wp2
            all_goals exact ⟨⟨k + 1, _, _, by omega, by go_num, by go_num, by go_num, by omega, by omega, by omega, h2, (HB.out.trans c2.out).trans ⟨rfl, rfl, rfl, Nat.le_refl _, fun _ _ => rfl⟩⟩, by simp [intOf]; omega⟩
          · go_wp2_with fail
            refine (charge_num _ _ _ _ _ _ _ _ _ HL.out (by omega) (by omega) (by omega) HCH.out).mono ?_; rintro e w2 ⟨rfl, h2, f2⟩
            have c2 := Lib.hid (f2.below (B := w.heap.size) HB.out.size (by intro k hk; omega))
            clear f2
            go_wp2_with fail
            refine (held_led _ _ _ _ _ h2).mono ?_; rintro e w3 ⟨rfl, d, rfl⟩
            go_wp2
            all_goals exact ⟨⟨k + 1, _, _, by omega, by go_num, by go_num, by go_num, by omega, by omega, by omega, h2, (HB.out.trans c2.out).trans ⟨rfl, rfl, rfl, Nat.le_refl _, fun _ _ => rfl⟩⟩, by simp [intOf]; omega⟩
          · go_wp2_with fail
            refine (charge_num _ _ _ _ _ _ _ _ _ HL.out (by omega) (by omega) (by omega) HCH.out).mono ?_; rintro e w2 ⟨rfl, h2, f2⟩
            have c2 := Lib.hid (f2.below (B := w.heap.size) HB.out.size (by intro k hk; omega))
            clear f2
            go_wp2_with fail
            refine (held_led _ _ _ _ _ h2).mono ?_; rintro e w3 ⟨rfl, d, rfl⟩
            go_wp2
            all_goals exact ⟨⟨k + 1, _, _, by omega, by go_num, by go_num, by go_num, by omega, by omega, by omega, h2, (HB.out.trans c2.out).trans ⟨rfl, rfl, rfl, Nat.le_refl _, fun _ _ => rfl⟩⟩, by simp [intOf]; omega⟩
          · go_wp2_with fail
            refine (charge_num _ _ _ _ _ _ _ _ _ HL.out (by omega) (by omega) (by omega) HCH.out).mono ?_; rintro e w2 ⟨rfl, h2, f2⟩
            have c2 := Lib.hid (f2.below (B := w.heap.size) HB.out.size (by intro k hk; omega))
            clear f2
            go_wp2_with fail
            refine (held_led _ _ _ _ _ h2).mono ?_; rintro e w3 ⟨rfl, d, rfl⟩
            go_wp2
            all_goals exact ⟨⟨k + 1, _, _, by omega, by go_num, by go_num, by go_num, by omega, by omega, by omega, h2, (HB.out.trans c2.out).trans ⟨rfl, rfl, rfl, Nat.le_refl _, fun _ _ => rfl⟩⟩, by simp [intOf]; omega⟩
        · rw [hg] at hc2
          clear hg
          obtain ⟨E, N, hch, hcase⟩ : ∃ E N, (reE n x = E ∧ reN n x = N) ∧ ((x < 0 ∧ E = 2 ∧ N = n) ∨ (0 ≤ x ∧ n < x ∧ E = 2 ∧ N = n) ∨ (0 ≤ x ∧ x ≤ n ∧ E = 0 ∧ N = n - x)) := by
            by_cases h1 : x < 0
            · exact ⟨_, _, re_neg h1, .inl ⟨h1, rfl, rfl⟩⟩
            · by_cases h2 : n < x
              · exact ⟨_, _, re_over h1 h2, .inr (.inl ⟨by omega, h2, rfl, rfl⟩)⟩
              · exact ⟨_, _, re_ok h1 h2, .inr (.inr ⟨by omega, by omega, rfl, rfl⟩)⟩
          have HCH := Lib.hid hch
          clear hch
          rcases hcase with ⟨hx, rfl, rfl⟩ | ⟨hx0, hx, rfl, rfl⟩ | ⟨hx0, hx, rfl, rfl⟩
          · go_wp2_with fail
            refine (release_num _ _ _ _ _ _ _ _ HL.out (by omega) (by omega) HCH.out).mono ?_; rintro e w2 ⟨rfl, h2, f2⟩
            have c2 := Lib.hid (f2.below (B := w.heap.size) HB.out.size (by intro k hk; omega))
            clear f2
            go_wp2_with fail
            refine (held_led _ _ _ _ _ h2).mono ?_; rintro e w3 ⟨rfl, d, rfl⟩
            go_wp2
            all_goals exact ⟨⟨k + 1, _, _, by omega, by go_num, by go_num, by go_num, by omega, by omega, by omega, h2, (HB.out.trans c2.out).trans ⟨rfl, rfl, rfl, Nat.le_refl _, fun _ _ => rfl⟩⟩, by simp [intOf]; omega⟩
          · go_wp2_with fail
            refine (release_num _ _ _ _ _ _ _ _ HL.out (by omega) (by omega) HCH.out).mono ?_; rintro e w2 ⟨rfl, h2, f2⟩
            have c2 := Lib.hid (f2.below (B := w.heap.size) HB.out.size (by intro k hk; omega))
            clear f2
            go_wp2_with fail
            refine (held_led _ _ _ _ _ h2).mono ?_; rintro e w3 ⟨rfl, d, rfl⟩
            go_wp2
            all_goals exact ⟨⟨k + 1, _, _, by omega, by go_num, by go_num, by go_num, by omega, by omega, by omega, h2, (HB.out.trans c2.out).trans ⟨rfl, rfl, rfl, Nat.le_refl _, fun _ _ => rfl⟩⟩, by simp [intOf]; omega⟩
          · go_wp2_with fail
            refine (release_num _ _ _ _ _ _ _ _ HL.out (by omega) (by omega) HCH.out).mono ?_; rintro e w2 ⟨rfl, h2, f2⟩
            have c2 := Lib.hid (f2.below (B := w.heap.size) HB.out.size (by intro k hk; omega))
            clear f2
            go_wp2_with fail
            refine (held_led _ _ _ _ _ h2).mono ?_; rintro e w3 ⟨rfl, d, rfl⟩
            go_wp2
            all_goals exact ⟨⟨k + 1, _, _, by omega, by go_num, by go_num, by go_num, by omega, by omega, by omega, h2, (HB.out.trans c2.out).trans ⟨rfl, rfl, rfl, Nat.le_refl _, fun _ _ => rfl⟩⟩, by simp [intOf]; omega⟩
      · go_wp2_with fail
        refine (wakes04 _).mono ?_; rintro e w2 ⟨rfl, h2⟩
        go_wp2
        go_ret
        exact ⟨rfl, hb.trans (h2.mono hb.size)⟩
end Go.Proofs.Ytlllfolajlfibaa
