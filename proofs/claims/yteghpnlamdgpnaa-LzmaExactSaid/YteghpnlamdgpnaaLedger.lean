/- The contracts of the ledger's functions. -/
import Derived.Test.YteghpnlamdgpnaaChecked
import Derived.Test.YteghpnlamdgpnaaFrm
import Derived.WalkKit
import Derived.Lib.Hide
import Derived.BigQuiet
import Derived.Deep.QuietTactic
namespace Go.Proofs.Yteghpnlamdgpnaa
open Go.RowKit

theorem load64 (b o : Nat) (x : Int) (w : World) (h : w.cell? ⟨b, o, none⟩ = some (.int .i64 x)) :
    Calls Try.prog 51 #[.pointer (some ⟨b, o, none⟩)] w fun e w' => e = .returned (.int .i64 x) ∧ w = w' := by
  have hl := run_call_load (P := Try.prog) Try.func58 (by kernel_rfl) (by kernel_rfl) (by kernel_rfl) .i64 (by kernel_rfl) h
  go_enter Try.func51, Try.ntmps51
  go_wp2
  go_ret
  exact ⟨rfl, rfl⟩

theorem cas64 (b o : Nat) (x y : Int) (w : World) (h : w.cell? ⟨b, o, none⟩ = some (.int .i64 x)) (hf : w.frozen? ⟨b, o, none⟩ = false) :
    Calls Try.prog 52 #[.pointer (some ⟨b, o, none⟩), .int .i64 x, .int .i64 y] w fun e w' => e = .returned (.bool true) ∧ w.setCell ⟨b, o, none⟩ (.int .i64 y) = w' := by
  have hl := run_call_cas_hit (P := Try.prog) Try.func59 (by kernel_rfl) (by kernel_rfl) (by kernel_rfl) .i64 (by kernel_rfl) (y := y) h hf
  go_enter Try.func52, Try.ntmps52
  go_wp2
  go_ret
  exact ⟨rfl, rfl⟩

/-- A ledger in memory: its budget, what is held, the most. -/
def ledCells (B n m : Int) : Array Value := #[.int .i64 B, .int .i64 n, .int .i64 m]
def Led (w : World) (b : Nat) (B n m : Int) : Prop := Pts w b (ledCells B n m) 106

theorem top_lt (b : Nat) (m n : Int) (w : World) (h : w.cell? ⟨b, 2, none⟩ = some (.int .i64 m)) (hf : w.frozen? ⟨b, 2, none⟩ = false) (hmn : m < n) :
    Calls Try.prog 53 #[.pointer (some ⟨b, 0, none⟩), .int .i64 n] w fun e w' => e = .returned (.tuple #[]) ∧ w.setCell ⟨b, 2, none⟩ (.int .i64 n) = w' := by
  go_enter Try.func53, Try.ntmps53
  go_wp2_with (go_at_call 51; refine (load64 _ _ _ _ h).mono ?_; rintro e w' ⟨rfl, rfl⟩)
  refine wp_loop_once ?_
  go_wp2_with (go_at_call 52; refine (cas64 _ _ _ _ _ h hf).mono ?_; rintro e w' ⟨rfl, rfl⟩)
  refine bodyPost_ret (results_none rfl _ _ _) rfl ?_
  exact ⟨rfl, rfl⟩

theorem top_ge (b : Nat) (m n : Int) (w : World) (h : w.cell? ⟨b, 2, none⟩ = some (.int .i64 m)) (hmn : n ≤ m) :
    Calls Try.prog 53 #[.pointer (some ⟨b, 0, none⟩), .int .i64 n] w fun e w' => e = .returned (.tuple #[]) ∧ w = w' := by
  go_enter Try.func53, Try.ntmps53
  go_wp2_with (go_at_call 51; refine (load64 _ _ _ _ h).mono ?_; rintro e w' ⟨rfl, rfl⟩)
  refine wp_loop_once ?_
  go_wp2
  go_end0
  exact ⟨rfl, rfl⟩

theorem ret_int {k : IntKind} {a b : Int} (h : a = b) : Ending.returned (.int k a) = .returned (.int k b) := by rw [h]

/-- What Charge answers, and what it makes of what is held and of the most. -/
def chE (B n k : Int) : Int := if k < 0 then 2 else if B - n < k then 40 else 0
def chN (B n k : Int) : Int := if k < 0 then n else if B - n < k then n else n + k
def chM (B n m k : Int) : Int := if k < 0 then m else if B - n < k then m else max m (n + k)
def reE (n k : Int) : Int := if k < 0 then 2 else if n < k then 2 else 0
def reN (n k : Int) : Int := if k < 0 then n else if n < k then n else n - k

theorem ch_neg {B n k : Int} (m : Int) (h : k < 0) : chE B n k = 2 ∧ chN B n k = n ∧ chM B n m k = m := by
  unfold chE chN chM; simp [h]
theorem ch_over {B n k : Int} (m : Int) (h : ¬ k < 0) (h' : B - n < k) : chE B n k = 40 ∧ chN B n k = n ∧ chM B n m k = m := by
  unfold chE chN chM; simp [h, h']
theorem ch_ok {B n k : Int} (m : Int) (h : ¬ k < 0) (h' : ¬ B - n < k) : chE B n k = 0 ∧ chN B n k = n + k ∧ chM B n m k = max m (n + k) := by
  unfold chE chN chM; simp [h, h']

theorem re_neg {n k : Int} (h : k < 0) : reE n k = 2 ∧ reN n k = n := by
  unfold reE reN; simp [h]
theorem re_over {n k : Int} (h : ¬ k < 0) (h' : n < k) : reE n k = 2 ∧ reN n k = n := by
  unfold reE reN; simp [h, h']
theorem re_ok {n k : Int} (h : ¬ k < 0) (h' : ¬ n < k) : reE n k = 0 ∧ reN n k = n - k := by
  unfold reE reN; simp [h, h']

theorem Led.set {w : World} {b : Nat} {B n m n' : Int} (h : Led w b B n m) : Led (w.setCell ⟨b, 1, none⟩ (.int .i64 n')) b B n' m := Pts.set h 1 _
theorem Led.set2 {w : World} {b : Nat} {B n m m' : Int} (h : Led w b B n m) : Led (w.setCell ⟨b, 2, none⟩ (.int .i64 m')) b B n m' := Pts.set h 2 _

theorem charge_led (b : Nat) (B n m k : Int) (w : World) (h : Led w b B n m) (hB : 0 ≤ B ∧ B ≤ 16777216) (hn : 0 ≤ n ∧ n ≤ B) (hm : n ≤ m ∧ m ≤ B) :
    Calls Try.prog 35 #[.pointer (some ⟨b, 0, none⟩), .int .i64 k] w fun e w' =>
      e = .returned (.int .i64 (chE B n k)) ∧ Led w' b B (chN B n k) (chM B n m k) ∧ Frm (· = b) w w' := by
  have h0 : w.cell? ⟨b, 0, none⟩ = some (.int .i64 B) := h.cell 0
  have h1 : w.cell? ⟨b, 1, none⟩ = some (.int .i64 n) := h.cell 1
  have h2 : w.cell? ⟨b, 2, none⟩ = some (.int .i64 m) := h.cell 2
  have f1 := h.frozen 1
  have f2 := h.frozen 2
  have h2' : (w.setCell ⟨b, 1, none⟩ (.int .i64 (n + k))).cell? ⟨b, 2, none⟩ = some (.int .i64 m) := (Led.set h).cell 2
  have f2' : (w.setCell ⟨b, 1, none⟩ (.int .i64 (n + k))).frozen? ⟨b, 2, none⟩ = false := (Led.set h).frozen 2
  have HL := Lib.hid h
  clear h
  obtain ⟨hB0, hB1⟩ := hB
  obtain ⟨hn0, hn1⟩ := hn
  obtain ⟨hm0, hm1⟩ := hm
  by_cases hk : k < 0
  · go_enter Try.func35, Try.ntmps35
    go_wp2
    go_ret
    exact ⟨by simp [chE, hk], by simpa [chN, chM, hk] using HL.out, Frm.refl _ _⟩
  by_cases hov : B - n < k
  · go_enter Try.func35, Try.ntmps35
    go_wp2
    refine wp_loop_once ?_
    go_wp2_with (go_at_call 51; refine (load64 _ _ _ _ h1).mono ?_; rintro e w' ⟨rfl, rfl⟩)
    go_ret
    exact ⟨by simp [chE, hk, hov], by simpa [chN, chM, hk, hov] using HL.out, Frm.refl _ _⟩
  by_cases hmn : m < n + k
  · go_enter Try.func35, Try.ntmps35
    go_wp2
    refine wp_loop_once ?_
    go_wp2_with (first | (go_at_call 51; refine (load64 _ _ _ _ h1).mono ?_; rintro e w' ⟨rfl, rfl⟩) | (go_at_call 52; refine (cas64 _ _ _ _ _ h1 f1).mono ?_; rintro e w' ⟨rfl, rfl⟩) | (go_at_call 53; refine (top_lt _ _ _ _ h2' f2' (by omega)).mono ?_; rintro e w' ⟨rfl, rfl⟩))
    go_ret
    have e1 : chM B n m k = n + k := by unfold chM; rw [if_neg (by omega), if_neg (by omega)]; omega
    have e2 : chN B n k = n + k := by unfold chN; rw [if_neg (by omega), if_neg (by omega)]
    exact ⟨ret_int (by unfold chE; rw [if_neg (by omega), if_neg (by omega)]), by rw [e1, e2]; exact Led.set2 (Led.set HL.out), ((Frm.refl _ _).setCell (by rfl) _).setCell (by rfl) _⟩
  · go_enter Try.func35, Try.ntmps35
    go_wp2
    refine wp_loop_once ?_
    go_wp2_with (first | (go_at_call 51; refine (load64 _ _ _ _ h1).mono ?_; rintro e w' ⟨rfl, rfl⟩) | (go_at_call 52; refine (cas64 _ _ _ _ _ h1 f1).mono ?_; rintro e w' ⟨rfl, rfl⟩) | (go_at_call 53; refine (top_ge _ _ _ _ h2' (by omega)).mono ?_; rintro e w' ⟨rfl, rfl⟩))
    go_ret
    have e1 : chM B n m k = m := by unfold chM; rw [if_neg (by omega), if_neg (by omega)]; omega
    have e2 : chN B n k = n + k := by unfold chN; rw [if_neg (by omega), if_neg (by omega)]
    exact ⟨ret_int (by unfold chE; rw [if_neg (by omega), if_neg (by omega)]), by rw [e1, e2]; exact Led.set HL.out, (Frm.refl _ _).setCell (by rfl) _⟩

theorem charge_nil (k : Int) (w : World) :
    Calls Try.prog 35 #[.pointer none, .int .i64 k] w fun e w' => e = .returned (.int .i64 1) ∧ w = w' := by
  go_enter Try.func35, Try.ntmps35
  go_wp2
  go_ret
  exact ⟨rfl, rfl⟩

/-- A ledger's budget. -/
def bud (B : Int) : Int := min (max B 0) 16777216
theorem bud_bd (B : Int) : 0 ≤ bud B ∧ bud B ≤ 16777216 := by unfold bud; omega

theorem new_led (B : Int) (w : World) :
    Calls Try.prog 19 #[.int .i64 B] w fun e w' => e = .returned (.pointer (some ⟨w.heap.size, 0, none⟩)) ∧ Led w' w.heap.size (bud B) 0 0 ∧ Below w.heap.size w w' := by
  go_enter Try.func19, Try.ntmps19
  go_wp2
  all_goals
    go_ret
    refine ⟨rfl, ?_, (Below.refl _ _).alloc (Nat.le_refl _) _⟩
    first | (rw [show bud B = 0 by unfold bud; omega]; exact Pts.new _ _ _) | (rw [show bud B = 16777216 by unfold bud; omega]; exact Pts.new _ _ _) | (rw [show bud B = B by unfold bud; omega]; exact Pts.new _ _ _)
end Go.Proofs.Yteghpnlamdgpnaa
