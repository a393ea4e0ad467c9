/- A chunk: what is refused ahead of all. -/
import Derived.Test.YteghpnlamdgpnaaLzX
import Derived.Test.YteghpnlamdgpnaaLzW
namespace Go.Proofs.Yteghpnlamdgpnaa
open Go.RowKit Rng Lz Win
set_option linter.unusedVariables false
set_option linter.unusedSimpArgs false
theorem two_new (w : World) (v x : Value) (T U : TypeId) : Pts ((w.alloc (.cells #[v] T)).alloc (.cells #[x] U)) w.heap.size #[v] T ∧ Pts ((w.alloc (.cells #[v] T)).alloc (.cells #[x] U)) (w.heap.size + 1) #[x] U ∧ Below w.heap.size w ((w.alloc (.cells #[v] T)).alloc (.cells #[x] U)) ∧ ((w.alloc (.cells #[v] T)).alloc (.cells #[x] U)).heap.size = w.heap.size + 2 := by
  have hsz : (w.alloc (.cells #[v] T)).heap.size = w.heap.size + 1 := by show (w.heap.push _).size = _; rw [Array.size_push]
  have P1 : Pts ((w.alloc (.cells #[v] T)).alloc (.cells #[x] U)) (w.alloc (.cells #[v] T)).heap.size #[x] U := Pts.new _ _ _
  rw [hsz] at P1
  have hs2 : ((w.alloc (.cells #[v] T)).alloc (.cells #[x] U)).heap.size = (w.alloc (.cells #[v] T)).heap.size + 1 := by show ((w.alloc (.cells #[v] T)).heap.push _).size = _; rw [Array.size_push]
  exact ⟨(Pts.new w #[v] T).alloc _, P1, ((Below.refl _ w).alloc (Nat.le_refl _) _).alloc (by rw [hsz]; omega) _, by rw [hs2, hsz]⟩
set_option maxRecDepth 100000 in
set_option maxHeartbeats 1000000 in
theorem chunk_nil_s (w : World) (wp : Option Addr) (total n : Int) (A : Option Addr) (l c : Nat) :
    Calls Try.prog 7 #[.pointer none, .pointer wp, .int .i64 total, .slice A l c, .int .i64 n] w fun e w' => e = .returned (.tuple #[.slice none 0 0, .int .i64 1]) ∧ Below w.heap.size w w' := by
  have P := Lib.hid (two_new w (.slice none 0 0) (.int .i64 1) 22 24)
  go_enter_defers Try.func7, Try.ntmps7
  go_wp2
  go_step3
  go_wp2
  simp only [Exit.noGoto_ret]
  go_wp2
  have c0 := P.out.1.cell 0
  have c1 := P.out.2.1.cell 0
  simp [bodyPostD, Leaves, settle, results, Try.results7, go_sem, c0, c1]
  exact P.out.2.2.1
set_option maxRecDepth 100000 in
set_option maxHeartbeats 1000000 in
theorem chunk_nil_w (w : World) (sp : Addr) (total n : Int) (A : Option Addr) (l c : Nat) :
    Calls Try.prog 7 #[.pointer (some sp), .pointer none, .int .i64 total, .slice A l c, .int .i64 n] w fun e w' => e = .returned (.tuple #[.slice none 0 0, .int .i64 1]) ∧ Below w.heap.size w w' := by
  have P := Lib.hid (two_new w (.slice none 0 0) (.int .i64 1) 22 24)
  go_enter_defers Try.func7, Try.ntmps7
  go_wp2
  go_step3
  go_wp2
  simp only [Exit.noGoto_ret]
  go_wp2
  have c0 := P.out.1.cell 0
  have c1 := P.out.2.1.cell 0
  simp [bodyPostD, Leaves, settle, results, Try.results7, go_sem, c0, c1]
  exact P.out.2.2.1
set_option maxRecDepth 100000 in
set_option maxHeartbeats 1000000 in
theorem chunk_arg (w : World) (sp wp : Addr) (total n : Int) (A : Option Addr) (l c : Nat) (h : n < 1 ∨ 2097152 < n ∨ total < 0) :
    Calls Try.prog 7 #[.pointer (some sp), .pointer (some wp), .int .i64 total, .slice A l c, .int .i64 n] w fun e w' => e = .returned (.tuple #[.slice none 0 0, .int .i64 2]) ∧ Below w.heap.size w w' := by
  have P := Lib.hid (two_new w (.slice none 0 0) (.int .i64 2) 22 24)
  have h3 : n < 1 ∨ (1 ≤ n ∧ 2097152 < n) ∨ (1 ≤ n ∧ n ≤ 2097152 ∧ total < 0) := by omega
  clear h
  rcases h3 with h | ⟨h, h1⟩ | ⟨h, h1, h2⟩
  all_goals
    go_enter_defers Try.func7, Try.ntmps7
    go_wp2
    go_step3
    go_wp2
    simp only [Exit.noGoto_ret]
    go_wp2
    have c0 := P.out.1.cell 0
    have c1 := P.out.2.1.cell 0
    simp [bodyPostD, Leaves, settle, results, Try.results7, go_sem, c0, c1]
    exact P.out.2.2.1
set_option maxRecDepth 100000 in
set_option maxHeartbeats 1000000 in
theorem chunk_bad (w : World) (sp wp : Addr) (total n : Int) (A : Option Addr) (bs : List UInt8) (l c : Nat) (h1 : 1 ≤ n) (h2 : n ≤ 2097152) (h3 : 0 ≤ total) (hn : l = bs.length) (hr : BRow w w.heap.size A bs) (hc : bs.length ≤ c) (hcm : c ≤ maxLen) (h : newErr bs ≠ 0) :
    Calls Try.prog 7 #[.pointer (some sp), .pointer (some wp), .int .i64 total, .slice A l c, .int .i64 n] w fun e w' => e = .returned (.tuple #[.slice none 0 0, .int .i64 11]) ∧ Below w.heap.size w w' := by
  subst hn
  have P := Lib.hid (two_new w (.slice none 0 0) (.int .i64 11) 22 24)
  obtain ⟨p0, p1, hb, hs⟩ := two_new w (.slice none 0 0) (.int .i64 0) 22 24
  have HR := Lib.hid ((hr.below hb).more (Nat.le_of_lt_succ (by omega) : w.heap.size ≤ ((w.alloc (.cells #[.slice none 0 0] 22)).alloc (.cells #[.int .i64 0] 24)).heap.size))
  have HB := Lib.hid (dnew_bad_p A bs bs.length c _ _ rfl HR.out hc hcm h)
  obtain ⟨x, hx⟩ : ∃ x, newErr bs = x := ⟨_, rfl⟩
  rw [hx] at HB h
  clear hr hb hs hx p0 p1
  go_enter_defers Try.func7, Try.ntmps7
  go_wp2
  go_step3
  go_wp2_with fail
  refine Calls.mono HB.out ?_; rintro e w1 ⟨rfl, rfl⟩
  go_wp2
  simp only [Exit.noGoto_ret]
  go_wp2
  have c0 := P.out.1.cell 0
  have c1 := P.out.2.1.cell 0
  simp [bodyPostD, Leaves, settle, results, Try.results7, go_sem, c0, c1]
  exact P.out.2.2.1
end Go.Proofs.Yteghpnlamdgpnaa
