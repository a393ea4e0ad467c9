/- The contracts of the reference's ledger. -/
import Derived.Test.YtjeaepkncboodaaLedger
import Derived.RegionTactic
import Derived.ChangeAlike
namespace Go.Proofs.Ytjeaepkncboodaa
open Go.RowKit

/-- The reference's ledger in memory. -/
def RLed (w : World) (b : Nat) (B n m : Int) : Prop := Pts w b (ledCells B n m) 52
theorem RLed.set {w : World} {b : Nat} {B n m n' : Int} (h : RLed w b B n m) : RLed (w.setCell ⟨b, 1, none⟩ (.int .i64 n')) b B n' m := Pts.set h 1 _
theorem RLed.set2 {w : World} {b : Nat} {B n m m' : Int} (h : RLed w b B n m) : RLed (w.setCell ⟨b, 2, none⟩ (.int .i64 m')) b B n m' := Pts.set h 2 _

theorem rnew_led (B : Int) (w : World) :
    Calls Try.prog 16 #[.int .i64 B] w fun e w' => e = .returned (.pointer (some ⟨w.heap.size, 0, none⟩)) ∧ RLed w' w.heap.size (bud B) 0 0 ∧ Below w.heap.size w w' := by
  go_enter Try.func16, Try.ntmps16
  go_wp2
  all_goals
    go_ret
    refine ⟨rfl, ?_, (Below.refl _ _).alloc (Nat.le_refl _) _⟩
    first | (rw [show bud B = 0 by unfold bud; omega]; exact Pts.new _ _ _) | (rw [show bud B = 16777216 by unfold bud; omega]; exact Pts.new _ _ _) | (rw [show bud B = B by unfold bud; omega]; exact Pts.new _ _ _)

theorem rrelease_led (b : Nat) (B n m k : Int) (w : World) (h : RLed w b B n m) (hB : 0 ≤ B ∧ B ≤ 16777216) (hn : 0 ≤ n ∧ n ≤ B) :
    Calls Try.prog 31 #[.pointer (some ⟨b, 0, none⟩), .int .i64 k] w fun e w' =>
      e = .returned (.int .i64 (reE n k)) ∧ RLed w' b B (reN n k) m ∧ Frm (· = b) w w' := by
  have h1 : w.cell? ⟨b, 1, none⟩ = some (.int .i64 n) := h.cell 1
  have f1 := h.frozen 1
  have HL := Lib.hid h
  clear h
  obtain ⟨hB0, hB1⟩ := hB
  obtain ⟨hn0, hn1⟩ := hn
  have hre : reE n k = if k < 0 ∨ n < k then 2 else 0 := by unfold reE; split <;> split <;> first | rfl | omega
  have hrn : reN n k = if k < 0 ∨ n < k then n else n - k := by unfold reN; split <;> split <;> first | rfl | omega
  have HE := Lib.hid hre
  have HN := Lib.hid hrn
  clear hre hrn
  by_cases hk : k < 0
  · go_enter Try.func31, Try.ntmps31
    go_wp2
    go_ret
    exact ⟨ret_int (by rw [HE.out, if_pos (by omega)]), by rw [HN.out, if_pos (by omega)]; exact HL.out, Frm.refl _ _⟩
  by_cases hov : n < k
  · go_enter Try.func31, Try.ntmps31
    go_wp2
    go_ret
    exact ⟨ret_int (by rw [HE.out, if_pos (by omega)]), by rw [HN.out, if_pos (by omega)]; exact HL.out, Frm.refl _ _⟩
  · go_enter Try.func31, Try.ntmps31
    go_wp2
    go_ret
    exact ⟨ret_int (by rw [HE.out, if_neg (by omega)]), by rw [HN.out, if_neg (by omega)]; exact RLed.set HL.out, (Frm.refl _ _).setCell (by rfl) _⟩

theorem rcharge_led (b : Nat) (B n m k : Int) (w : World) (h : RLed w b B n m) (hB : 0 ≤ B ∧ B ≤ 16777216) (hn : 0 ≤ n ∧ n ≤ B) (hm : n ≤ m ∧ m ≤ B) :
    Calls Try.prog 30 #[.pointer (some ⟨b, 0, none⟩), .int .i64 k] w fun e w' =>
      e = .returned (.int .i64 (chE B n k)) ∧ RLed w' b B (chN B n k) (chM B n m k) ∧ Frm (· = b) w w' := by
  have h0 : w.cell? ⟨b, 0, none⟩ = some (.int .i64 B) := h.cell 0
  have h1 : w.cell? ⟨b, 1, none⟩ = some (.int .i64 n) := h.cell 1
  have h2 : w.cell? ⟨b, 2, none⟩ = some (.int .i64 m) := h.cell 2
  have f1 := h.frozen 1
  have f2 := h.frozen 2
  have HL := Lib.hid h
  clear h
  obtain ⟨hB0, hB1⟩ := hB
  obtain ⟨hn0, hn1⟩ := hn
  obtain ⟨hm0, hm1⟩ := hm
  by_cases hk : k < 0
  · have H := Lib.hid (ch_neg (B := B) (n := n) m hk)
    go_enter Try.func30, Try.ntmps30
    go_wp2
    go_ret
    exact ⟨ret_int H.out.1.symm, by rw [H.out.2.1, H.out.2.2]; exact HL.out, Frm.refl _ _⟩
  by_cases hov : B - n < k
  · have H := Lib.hid (ch_over (B := B) (n := n) m hk hov)
    go_enter Try.func30, Try.ntmps30
    go_wp2
    go_region
    go_wp2
    go_ret
    exact ⟨ret_int H.out.1.symm, by rw [H.out.2.1, H.out.2.2]; exact HL.out, (Frm.refl _ _).drew⟩
  · have H := Lib.hid (ch_ok (B := B) (n := n) m hk hov)
    by_cases hmn : m < n + k
    · go_enter Try.func30, Try.ntmps30
      go_wp2
      go_region
      go_wp2
      go_region
      all_goals
        go_wp2
        go_ret
        exact ⟨ret_int H.out.1.symm, by rw [H.out.2.1, H.out.2.2, show max m (n + k) = n + k by omega]; exact RLed.set2 (RLed.set HL.out), (((Frm.refl _ _).setCell (by rfl) _).setCell (by rfl) _).drewN 2⟩
    · go_enter Try.func30, Try.ntmps30
      go_wp2
      go_region
      go_wp2
      go_region
      all_goals
        go_wp2
        go_ret
        exact ⟨ret_int H.out.1.symm, by rw [H.out.2.1, H.out.2.2, show max m (n + k) = m by omega]; exact RLed.set2 (RLed.set HL.out), (((Frm.refl _ _).setCell (by rfl) _).setCell (by rfl) _).drewN 2⟩
end Go.Proofs.Ytjeaepkncboodaa
