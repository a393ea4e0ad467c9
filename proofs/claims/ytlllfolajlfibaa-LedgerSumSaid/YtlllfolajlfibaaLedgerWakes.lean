/- What the document says of a budget of 10 holds of the ledger. -/
import Derived.Test.YtlllfolajlfibaaLedger
namespace Go.Proofs.Ytlllfolajlfibaa
open Go.RowKit

theorem charge_num (b : Nat) (B n m k E N M : Int) (w : World) (h : Led w b B n m) (hB : 0 ≤ B ∧ B ≤ 16777216) (hn : 0 ≤ n ∧ n ≤ B) (hm : n ≤ m ∧ m ≤ B)
    (he : chE B n k = E ∧ chN B n k = N ∧ chM B n m k = M) :
    Calls Try.prog 12 #[.pointer (some ⟨b, 0, none⟩), .int .i64 k] w fun e w' =>
      e = .returned (.int .i64 E) ∧ Led w' b B N M ∧ Frm (· = b) w w' := by
  obtain ⟨rfl, rfl, rfl⟩ := he
  exact charge_led b B n m k w h hB hn hm
theorem release_num (b : Nat) (B n m k E N : Int) (w : World) (h : Led w b B n m) (hB : 0 ≤ B ∧ B ≤ 16777216) (hn : 0 ≤ n ∧ n ≤ B)
    (he : reE n k = E ∧ reN n k = N) :
    Calls Try.prog 10 #[.pointer (some ⟨b, 0, none⟩), .int .i64 k] w fun e w' =>
      e = .returned (.int .i64 E) ∧ Led w' b B N m ∧ Frm (· = b) w w' := by
  obtain ⟨rfl, rfl⟩ := he
  exact release_led b B n m k w h hB hn
theorem new_num (B C : Int) (w : World) (h : bud B = C) :
    Calls Try.prog 8 #[.int .i64 B] w fun e w' => e = .returned (.pointer (some ⟨w.heap.size, 0, none⟩)) ∧ Led w' w.heap.size C 0 0 ∧ Below w.heap.size w w' := by
  subst h; exact new_led B w

theorem wakes04 (w : World) : Calls Try.prog 7 #[] w fun e w' => e = .returned (.bool true) ∧ Below w.heap.size w w' := by
  go_enter Try.func7, Try.ntmps7
  go_wp2_with fail
  refine (new_num 10 10 _ (by decide)).mono ?_; rintro e w1 ⟨rfl, h1, b1⟩
  go_wp2_with fail
  refine (charge_num _ 10 0 0 7 0 7 7 _ h1 (by decide) (by decide) (by decide) (by decide)).mono ?_; rintro e w2 ⟨rfl, h2, f2⟩
  have c2 := f2.below (B := w.heap.size) b1.size (by intro k hk; omega); clear h1 f2
  go_wp2_with fail
  refine (charge_num _ 10 7 7 4 40 7 7 _ h2 (by decide) (by decide) (by decide) (by decide)).mono ?_; rintro e w3 ⟨rfl, h3, f3⟩
  have c3 := f3.below (B := w.heap.size) (b1.trans c2).size (by intro k hk; omega); clear h2 f3
  go_wp2_with fail
  refine (charge_num _ 10 7 7 3 0 10 10 _ h3 (by decide) (by decide) (by decide) (by decide)).mono ?_; rintro e w4 ⟨rfl, h4, f4⟩
  have c4 := f4.below (B := w.heap.size) ((b1.trans c2).trans c3).size (by intro k hk; omega); clear h3 f4
  go_wp2_with fail
  refine (release_num _ 10 10 10 11 2 10 _ h4 (by decide) (by decide) (by decide)).mono ?_; rintro e w5 ⟨rfl, h5, f5⟩
  have c5 := f5.below (B := w.heap.size) (((b1.trans c2).trans c3).trans c4).size (by intro k hk; omega); clear h4 f5
  go_wp2_with fail
  refine (release_num _ 10 10 10 4 0 6 _ h5 (by decide) (by decide) (by decide)).mono ?_; rintro e w6 ⟨rfl, h6, f6⟩
  have c6 := f6.below (B := w.heap.size) ((((b1.trans c2).trans c3).trans c4).trans c5).size (by intro k hk; omega); clear h5 f6
  go_wp2_with fail
  refine (held_led _ 10 6 10 _ h6).mono ?_; rintro e w7 ⟨rfl, d, rfl⟩
  go_wp2
  go_ret
  exact ⟨rfl, (((((b1.trans c2).trans c3).trans c4).trans c5).trans c6).trans ⟨rfl, rfl, rfl, Nat.le_refl _, fun _ _ => rfl⟩⟩

theorem lawNil04 (n : Int) (w : World) (_hn : -9223372036854775808 ≤ n ∧ n ≤ 9223372036854775807) : Calls Try.prog 4 #[.int .i64 n] w fun e w' => e = .returned (.bool true) ∧ Below w.heap.size w w' := by
  go_enter Try.func4, Try.ntmps4
  go_wp2_with fail
  refine (held_nil _).mono ?_; rintro e w1 ⟨rfl, rfl⟩
  go_wp2_with fail
  refine (charge_nil _ _).mono ?_; rintro e w1 ⟨rfl, rfl⟩
  go_wp2_with fail
  refine (release_nil _ _).mono ?_; rintro e w1 ⟨rfl, rfl⟩
  go_wp2_with fail
  refine (wakes04 _).mono ?_; rintro e w1 ⟨rfl, h1⟩
  go_wp2
  go_ret
  exact ⟨rfl, h1⟩
end Go.Proofs.Ytlllfolajlfibaa
