/- Texts of this proof, put together: Ledger, WinA, WinB. -/
import Derived.Test.YtffehfpbdcokbaaDoorChecked
import Derived.Test.YtffehfpbdcokbaaDoorFrm
import Derived.WalkKit
import Derived.Lib.Hide
import Derived.BigQuiet
import Derived.Deep.QuietTactic
import Derived.OwnWalk
import Derived.Deep.LoopGhost
import Derived.Deep.RegionHeld3
import Derived.Deep.RegionLaw
import Derived.Laws.CopyOwn
import Derived.Test.YtffehfpbdcokbaaDoorBu1
import Derived.Test.YtffehfpbdcokbaaDoorBu9
set_option linter.unusedVariables false
set_option linter.unusedSimpArgs false
/- The contracts of the ledger's functions. -/
namespace Go.Proofs.YtffehfpbdcokbaaDoor
open Go.RowKit

theorem load64 (b o : Nat) (x : Int) (w : World) (h : w.cell? ⟨b, o, none⟩ = some (.int .i64 x)) :
    Calls Tryd.prog 32 #[.pointer (some ⟨b, o, none⟩)] w fun e w' => e = .returned (.int .i64 x) ∧ w = w' := by
  have hl := run_call_load (P := Tryd.prog) Tryd.func46 (by kernel_rfl) (by kernel_rfl) (by kernel_rfl) .i64 (by kernel_rfl) h
  go_enter Tryd.func32, Tryd.ntmps32
  go_wp2
  go_ret
  exact ⟨rfl, rfl⟩

theorem cas64 (b o : Nat) (x y : Int) (w : World) (h : w.cell? ⟨b, o, none⟩ = some (.int .i64 x)) (hf : w.frozen? ⟨b, o, none⟩ = false) :
    Calls Tryd.prog 33 #[.pointer (some ⟨b, o, none⟩), .int .i64 x, .int .i64 y] w fun e w' => e = .returned (.bool true) ∧ w.setCell ⟨b, o, none⟩ (.int .i64 y) = w' := by
  have hl := run_call_cas_hit (P := Tryd.prog) Tryd.func47 (by kernel_rfl) (by kernel_rfl) (by kernel_rfl) .i64 (by kernel_rfl) (y := y) h hf
  go_enter Tryd.func33, Tryd.ntmps33
  go_wp2
  go_ret
  exact ⟨rfl, rfl⟩

/-- A ledger in memory: its budget, what is held, the most. -/
def ledCells (B n m : Int) : Array Value := #[.int .i64 B, .int .i64 n, .int .i64 m]
def Led (w : World) (b : Nat) (B n m : Int) : Prop := Pts w b (ledCells B n m) 84

theorem top_lt (b : Nat) (m n : Int) (w : World) (h : w.cell? ⟨b, 2, none⟩ = some (.int .i64 m)) (hf : w.frozen? ⟨b, 2, none⟩ = false) (hmn : m < n) :
    Calls Tryd.prog 34 #[.pointer (some ⟨b, 0, none⟩), .int .i64 n] w fun e w' => e = .returned (.tuple #[]) ∧ w.setCell ⟨b, 2, none⟩ (.int .i64 n) = w' := by
  go_enter Tryd.func34, Tryd.ntmps34
  go_wp2_with (go_at_call 32; refine (load64 _ _ _ _ h).mono ?_; rintro e w' ⟨rfl, rfl⟩)
  refine wp_loop_once ?_
  go_wp2_with (go_at_call 33; refine (cas64 _ _ _ _ _ h hf).mono ?_; rintro e w' ⟨rfl, rfl⟩)
  refine bodyPost_ret (results_none rfl _ _ _) rfl ?_
  exact ⟨rfl, rfl⟩

theorem top_ge (b : Nat) (m n : Int) (w : World) (h : w.cell? ⟨b, 2, none⟩ = some (.int .i64 m)) (hmn : n ≤ m) :
    Calls Tryd.prog 34 #[.pointer (some ⟨b, 0, none⟩), .int .i64 n] w fun e w' => e = .returned (.tuple #[]) ∧ w = w' := by
  go_enter Tryd.func34, Tryd.ntmps34
  go_wp2_with (go_at_call 32; refine (load64 _ _ _ _ h).mono ?_; rintro e w' ⟨rfl, rfl⟩)
  refine wp_loop_once ?_
  go_wp2
  go_end0
  exact ⟨rfl, rfl⟩

theorem ret_int {k : IntKind} {a b : Int} (h : a = b) : Ending.returned (.int k a) = .returned (.int k b) := by rw [h]

/-- What Charge answers, and what it makes of what is held and of the most. -/
def chE (B n k : Int) : Int := if k < 0 then 2 else if B - n < k then 40 else 0
def chN (B n k : Int) : Int := if k < 0 then n else if B - n < k then n else n + k
def chM (B n m k : Int) : Int := if k < 0 then m else if B - n < k then m else max m (n + k)
def reE (n k : Int) : Int := if k < 0 then 2 else if n < k then 2 else 0
def reN (n k : Int) : Int := if k < 0 then n else if n < k then n else n - k

theorem ch_neg {B n k : Int} (m : Int) (h : k < 0) : chE B n k = 2 ∧ chN B n k = n ∧ chM B n m k = m := by
  unfold chE chN chM; simp [h]
theorem ch_over {B n k : Int} (m : Int) (h : ¬ k < 0) (h' : B - n < k) : chE B n k = 40 ∧ chN B n k = n ∧ chM B n m k = m := by
  unfold chE chN chM; simp [h, h']
theorem ch_ok {B n k : Int} (m : Int) (h : ¬ k < 0) (h' : ¬ B - n < k) : chE B n k = 0 ∧ chN B n k = n + k ∧ chM B n m k = max m (n + k) := by
  unfold chE chN chM; simp [h, h']

theorem re_neg {n k : Int} (h : k < 0) : reE n k = 2 ∧ reN n k = n := by
  unfold reE reN; simp [h]
theorem re_over {n k : Int} (h : ¬ k < 0) (h' : n < k) : reE n k = 2 ∧ reN n k = n := by
  unfold reE reN; simp [h, h']
theorem re_ok {n k : Int} (h : ¬ k < 0) (h' : ¬ n < k) : reE n k = 0 ∧ reN n k = n - k := by
  unfold reE reN; simp [h, h']

theorem Led.set {w : World} {b : Nat} {B n m n' : Int} (h : Led w b B n m) : Led (w.setCell ⟨b, 1, none⟩ (.int .i64 n')) b B n' m := Pts.set h 1 _
theorem Led.set2 {w : World} {b : Nat} {B n m m' : Int} (h : Led w b B n m) : Led (w.setCell ⟨b, 2, none⟩ (.int .i64 m')) b B n m' := Pts.set h 2 _

theorem charge_led (b : Nat) (B n m k : Int) (w : World) (h : Led w b B n m) (hB : 0 ≤ B ∧ B ≤ 16777216) (hn : 0 ≤ n ∧ n ≤ B) (hm : n ≤ m ∧ m ≤ B) :
    Calls Tryd.prog 19 #[.pointer (some ⟨b, 0, none⟩), .int .i64 k] w fun e w' =>
      e = .returned (.int .i64 (chE B n k)) ∧ Led w' b B (chN B n k) (chM B n m k) ∧ Frm (· = b) w w' := by
  have h0 : w.cell? ⟨b, 0, none⟩ = some (.int .i64 B) := h.cell 0
  have h1 : w.cell? ⟨b, 1, none⟩ = some (.int .i64 n) := h.cell 1
  have h2 : w.cell? ⟨b, 2, none⟩ = some (.int .i64 m) := h.cell 2
  have f1 := h.frozen 1
  have f2 := h.frozen 2
  have h2' : (w.setCell ⟨b, 1, none⟩ (.int .i64 (n + k))).cell? ⟨b, 2, none⟩ = some (.int .i64 m) := (Led.set h).cell 2
  have f2' : (w.setCell ⟨b, 1, none⟩ (.int .i64 (n + k))).frozen? ⟨b, 2, none⟩ = false := (Led.set h).frozen 2
  have HL := Lib.hid h
  clear h
  obtain ⟨hB0, hB1⟩ := hB
  obtain ⟨hn0, hn1⟩ := hn
  obtain ⟨hm0, hm1⟩ := hm
  by_cases hk : k < 0
  · go_enter Tryd.func19, Tryd.ntmps19
    go_wp2
    go_ret
    exact ⟨by simp [chE, hk], by simpa [chN, chM, hk] using HL.out, Frm.refl _ _⟩
  by_cases hov : B - n < k
  · go_enter Tryd.func19, Tryd.ntmps19
    go_wp2
    refine wp_loop_once ?_
    go_wp2_with (go_at_call 32; refine (load64 _ _ _ _ h1).mono ?_; rintro e w' ⟨rfl, rfl⟩)
    go_ret
    exact ⟨by simp [chE, hk, hov], by simpa [chN, chM, hk, hov] using HL.out, Frm.refl _ _⟩
  by_cases hmn : m < n + k
  · go_enter Tryd.func19, Tryd.ntmps19
    go_wp2
    refine wp_loop_once ?_
    go_wp2_with (first | (go_at_call 32; refine (load64 _ _ _ _ h1).mono ?_; rintro e w' ⟨rfl, rfl⟩) | (go_at_call 33; refine (cas64 _ _ _ _ _ h1 f1).mono ?_; rintro e w' ⟨rfl, rfl⟩) | (go_at_call 34; refine (top_lt _ _ _ _ h2' f2' (by omega)).mono ?_; rintro e w' ⟨rfl, rfl⟩))
    go_ret
    have e1 : chM B n m k = n + k := by unfold chM; rw [if_neg (by omega), if_neg (by omega)]; omega
    have e2 : chN B n k = n + k := by unfold chN; rw [if_neg (by omega), if_neg (by omega)]
    exact ⟨ret_int (by unfold chE; rw [if_neg (by omega), if_neg (by omega)]), by rw [e1, e2]; exact Led.set2 (Led.set HL.out), ((Frm.refl _ _).setCell (by rfl) _).setCell (by rfl) _⟩
  · go_enter Tryd.func19, Tryd.ntmps19
    go_wp2
    refine wp_loop_once ?_
    go_wp2_with (first | (go_at_call 32; refine (load64 _ _ _ _ h1).mono ?_; rintro e w' ⟨rfl, rfl⟩) | (go_at_call 33; refine (cas64 _ _ _ _ _ h1 f1).mono ?_; rintro e w' ⟨rfl, rfl⟩) | (go_at_call 34; refine (top_ge _ _ _ _ h2' (by omega)).mono ?_; rintro e w' ⟨rfl, rfl⟩))
    go_ret
    have e1 : chM B n m k = m := by unfold chM; rw [if_neg (by omega), if_neg (by omega)]; omega
    have e2 : chN B n k = n + k := by unfold chN; rw [if_neg (by omega), if_neg (by omega)]
    exact ⟨ret_int (by unfold chE; rw [if_neg (by omega), if_neg (by omega)]), by rw [e1, e2]; exact Led.set HL.out, (Frm.refl _ _).setCell (by rfl) _⟩

theorem charge_nil (k : Int) (w : World) :
    Calls Tryd.prog 19 #[.pointer none, .int .i64 k] w fun e w' => e = .returned (.int .i64 1) ∧ w = w' := by
  go_enter Tryd.func19, Tryd.ntmps19
  go_wp2
  go_ret
  exact ⟨rfl, rfl⟩

/-- A ledger's budget. -/
def bud (B : Int) : Int := min (max B 0) 16777216
theorem bud_bd (B : Int) : 0 ≤ bud B ∧ bud B ≤ 16777216 := by unfold bud; omega

theorem new_led (B : Int) (w : World) :
    Calls Tryd.prog 12 #[.int .i64 B] w fun e w' => e = .returned (.pointer (some ⟨w.heap.size, 0, none⟩)) ∧ Led w' w.heap.size (bud B) 0 0 ∧ Below w.heap.size w w' := by
  go_enter Tryd.func12, Tryd.ntmps12
  go_wp2
  all_goals
    go_ret
    refine ⟨rfl, ?_, (Below.refl _ _).alloc (Nat.le_refl _) _⟩
    first | (rw [show bud B = 0 by unfold bud; omega]; exact Pts.new _ _ _) | (rw [show bud B = 16777216 by unfold bud; omega]; exact Pts.new _ _ _) | (rw [show bud B = B by unfold bud; omega]; exact Pts.new _ _ _)
end Go.Proofs.YtffehfpbdcokbaaDoor

/- The contracts of the window: dropped, Held, At. -/
namespace Go.Proofs.YtffehfpbdcokbaaDoor
open Go.RowKit
set_option linter.unusedVariables false
set_option linter.unusedSimpArgs false

theorem dropped_no (b k : Nat) (rv av sv : Value) (w : World) (hp : Pts w b #[rv, av, sv, .pointer (some ⟨k, 0, none⟩)] 77) :
    Calls Tryd.prog 44 #[.pointer (some ⟨b, 0, none⟩)] w fun e w' => e = .returned (.bool false) ∧ w = w' := by
  have c3 : w.cell? ⟨b, 3, none⟩ = some (.pointer (some ⟨k, 0, none⟩)) := by rw [hp.cell]; rfl
  clear hp
  go_enter Tryd.func44, Tryd.ntmps44
  go_wp2
  go_ret
  exact ⟨rfl, rfl⟩
theorem dropped_yes (b : Nat) (rv av sv : Value) (w : World) (hp : Pts w b #[rv, av, sv, .pointer none] 77) :
    Calls Tryd.prog 44 #[.pointer (some ⟨b, 0, none⟩)] w fun e w' => e = .returned (.bool true) ∧ w = w' := by
  have c3 : w.cell? ⟨b, 3, none⟩ = some (.pointer none) := by rw [hp.cell]; rfl
  clear hp
  go_enter Tryd.func44, Tryd.ntmps44
  go_wp2
  go_ret
  exact ⟨rfl, rfl⟩

set_option maxRecDepth 100000 in
theorem at_in (b k a S cap back : Nat) (A : Option Addr) (R : List UInt8) (w : World) (hp : Pts w b #[.slice A R.length cap, .int .i64 a, .int .i64 S, .pointer (some ⟨k, 0, none⟩)] 77) (hr : BRow w w.heap.size A R)
    (hR : R.length ≤ 16777216) (ha : a ≤ 16777216) (h1 : 1 ≤ back) (h2 : back ≤ R.length) :
    Calls Tryd.prog 36 #[.pointer (some ⟨b, 0, none⟩), .int .i64 back] w fun e w' => e = .returned (.tuple #[.int .u8 ((R.getD ((a + R.length - back) % R.length) 0).toNat : Int), .bool true]) ∧ ∃ d, w' = w.drewN d := by
  have c0 : w.cell? ⟨b, 0, none⟩ = some (.slice A R.length cap) := by rw [hp.cell]; rfl
  have c1 : w.cell? ⟨b, 1, none⟩ = some (.int .i64 a) := by rw [hp.cell]; rfl
  have HP := Lib.hid hp
  obtain ⟨g, off, rfl, hg, hc⟩ := hr (by omega)
  have hlt : (a + R.length - back) % R.length < R.length := Nat.mod_lt _ (by omega)
  have e1 := hc _ hlt
  have hne : ((R.length : Int) == 0) = false := beq_eq_false_iff_ne.2 (by omega)
  have hm : ((a : Int) + R.length - back) % (R.length : Int) = (((a + R.length - back) % R.length : Nat) : Int) := by
    rw [Int.natCast_emod]; congr 1; omega
  have hsub : back ≤ a + R.length := by omega
  unfold byteV at e1
  generalize R.getD ((a + R.length - back) % R.length) 0 = x at *
  generalize (a + R.length - back) % R.length = q at *
  clear hp hc hr
  go_enter Tryd.func36, Tryd.ntmps36
  go_wp2_with (go_at_call 44; refine (dropped_no _ _ _ _ _ _ HP.out).mono ?_; rintro e w1 ⟨rfl, rfl⟩)
  go_quiet (fail)
  go_wp2
  go_ret2
  exact ⟨rfl, _, rfl⟩
end Go.Proofs.YtffehfpbdcokbaaDoor

/- The contract of the window's Put. -/
namespace Go.Proofs.YtffehfpbdcokbaaDoor
open Go.RowKit Win
set_option linter.unusedVariables false
set_option linter.unusedSimpArgs false

structure WinAt (w : World) (base b k S : Nat) (v : Value) (R : List UInt8) (a : Nat) : Prop where
  p : Pts w b #[v, .int .i64 a, .int .i64 S, .pointer (some ⟨k, 0, none⟩)] 77
  o : OwnB w 5 base v R
  n : R.length ≤ S
  lt : a < S
  z : R.length < S → a = 0

theorem slice_zero (A : Option Addr) (n c : Nat) (w : World) : (Instr.sliceAt 22 (.slice A n c) none (some (.int .i64 0)) none).run Tryd.prog w = .ok (.slice A 0 c) w := by
  simp [go_sem]
theorem slice_from (A : Option Addr) (n c f : Nat) (hf : f ≤ n) (hn : n ≤ c) (w : World) :
    (Instr.sliceAt 22 (.slice A n c) (some (.int .i64 (f : Int))) none none).run Tryd.prog w = .ok (.slice (if c = f then A else A.map (·.add f)) (n - f) (c - f)) w := by
  by_cases hcf : c = f
  · simp [go_sem, hcf]
    intro h; omega
  · simp [go_sem, hcf]
    intro h; omega

theorem step_append_bytes {P : Program} (w : World) {ops : Array Oper} {o : Oper} {a : Act} {K : Act → World → Prop} {Q : Exit → Act → World → Prop} {E : Prop} (hg : o.guard = none) (s x : Operand) (t : TypeId)
    (ho : o.op = .call { callee := .builtin .append, args := #[s, x], argTypes := #[t, t] })
    (T base : Nat) (ht : P.underlying t = some (.slice T)) (hinfo : (P.info? T).map (fun i => (i.zero, i.size, i.bytes)) = some (some (.int .u8 0), 1, 1))
    (v : Value) (bs : List UInt8) (hs : a.eval s = v) (hown : OwnB w T base v bs) (A : Option Addr) (m c B : Nat) (news : List UInt8) (hx : a.eval x = .slice A m c) (hm : m = news.length) (hnews : BRow w B A news)
    (hlen : bs.length + news.length ≤ 140737488355328) (hbase : base ≤ w.heap.size)
    (h : ∀ v' w', OwnB w' T base v' (bs ++ news) → Frm (fun k => v.ownBlock = some k) w w' → (v'.ownBlock = v.ownBlock ∨ v'.ownBlock = some w.heap.size) → K (a.put o.dst v') w') :
    if Region.wanted o (yielded ops a.tmps) = true then Oper.wp P o a w K Q else E := by
  have hw : Region.wanted o (yielded ops a.tmps) = true := by simp [Region.wanted, hg]
  rw [if_pos hw]
  exact wp_append_bytes w s x t ho T base ht hinfo v bs hs hown A m c B news hx hm hnews hlen hbase h
def WS (b : Nat) (v : Value) (S : Nat) (w : World) : Prop := w.cell? ⟨b, 0, none⟩ = some v ∧ w.cell? ⟨b, 2, none⟩ = some (.int .i64 S)
theorem WS.frm {b S : Nat} {v u : Value} {w w' : World} (h : WS b v S w) (hf : Frm (fun k => u.ownBlock = some k) w w') (hn : ∀ q, u.ownBlock = some q → q ≠ b) : WS b v S w' := by
  have hb : w'.heap[b]? = w.heap[b]? := hf.block b (World.block_lt_of_cell? _ _ h.1) (fun e => hn b e rfl)
  exact ⟨(World.cell?_of_block (a := ⟨b, 0, none⟩) hb).trans h.1, (World.cell?_of_block (a := ⟨b, 2, none⟩) hb).trans h.2⟩
set_option maxRecDepth 100000 in
set_option maxHeartbeats 1000000 in
theorem put_big_any (base b k S a c B : Nat) (v : Value) (R : List UInt8) (A : Option Addr) (bs : List UInt8) (w : World) (hw : WinAt w base b k S v R a) (hr : BRow w B A bs) (hc : bs.length ≤ c) (hcm : c ≤ maxLen) (hlen : bs.length ≤ 16777216) (hbase : base ≤ w.heap.size)
    (hS : S ≤ bs.length) (hS1 : 1 ≤ S) (hB : B ≤ w.heap.size) :
    Calls Tryd.prog 38 #[.pointer (some ⟨b, 0, none⟩), .slice A bs.length c] w fun e w' => ∃ v' : Value, e = .returned (.tuple #[]) ∧ WinAt w' base b k S v' (bs.drop (bs.length - S)) 0 ∧
      Frm (fun x => x = b ∨ v.ownBlock = some x) w w' ∧ (v'.ownBlock = v.ownBlock ∨ v'.ownBlock = some w.heap.size) := by
  obtain ⟨A0, k0, rfl, hc0, hm0, hr0⟩ := hw.o.slice
  have c0 : w.cell? ⟨b, 0, none⟩ = some (.slice A0 R.length k0) := by rw [hw.p.cell]; rfl
  have c2 : w.cell? ⟨b, 2, none⟩ = some (.int .i64 S) := by rw [hw.p.cell]; rfl
  have HW := Lib.hid hw
  have hcut := hw.o.cut (k := 0) (Nat.zero_le _)
  rw [List.take_zero] at hcut
  have CUT := Lib.hid hcut
  have HR := Lib.hid (hr.drop (k := bs.length - S) (cap := c) hc)
  have hsf := fun w => slice_from A bs.length c (bs.length - S) (by omega) hc w
  have hsub : ((bs.length - S : Nat) : Int) = (bs.length : Int) - S := by omega
  rw [hsub, show bs.length - (bs.length - S) = S by omega] at hsf
  have hnl : S = (bs.drop (bs.length - S)).length := by rw [List.length_drop]; omega
  have NL := Lib.hid hnl
  have hsz := fun w => slice_zero A0 R.length k0 w
  generalize (if c = bs.length - S then A else A.map (·.add (bs.length - S))) = Ad at *
  generalize bs.drop (bs.length - S) = nw at *
  clear hw hr hcut hsub hnl hr0
  have hne : ∀ q, (Value.slice A0 R.length k0).ownBlock = some q → q ≠ b := by
    rintro q hq rfl
    rcases HW.out.o.form with ⟨e, _⟩ | ⟨g, cap, cur, e, _, hp, _⟩
    · rw [e] at hq; cases hq
    · rw [e] at hq
      injection hq with hq
      subst hq
      have e2 := hp.symm.trans HW.out.p
      simp at e2
  have NE := Lib.hid hne
  clear hne
  go_enter Tryd.func38, Tryd.ntmps38
  go_wp2_with (go_at_call 44; refine (dropped_no _ _ _ _ _ _ HW.out.p).mono ?_; rintro e w1 ⟨rfl, rfl⟩)
  have NE2 : Hid (∀ q, (Value.slice A0 0 k0).ownBlock = some q → q ≠ b) := Lib.hid (by intro q hq; apply NE.out q; cases A0 <;> exact hq)
  have a1 : IntKind.i64.wrap ((bs.length : Int) - S) = (bs.length : Int) - S := IntWalk.i64_in _ (by omega)
  have f0 := HW.out.p.frozen 0
  have hll : ([] : List UInt8).length + nw.length ≤ 140737488355328 := by rw [← NL.out]; simp; omega
  go_region_law (refine step_append_bytes _ rfl (.tmp 24) (.tmp 33) 22 rfl 5 base Tryd.underlying22 Tryd.info_u8 (.slice A0 0 k0) [] rfl (CUT.out.drewN 1) Ad S (c - (bs.length - S)) B nw rfl NL.out (HR.out.drewN 1) hll hbase ?_; intro v1 w1 hown1 hfrm1 hnew1; rw [List.nil_append] at hown1; obtain ⟨A1, c1, rfl, hc1, hm1, hr1⟩ := hown1.slice; have hp1 := HW.out.p.drew.frm (S := fun k => (Value.slice A0 0 k0).ownBlock = some k) hfrm1 (fun e => NE2.out b e rfl); have z0 : w1.cell? ⟨b, 0, none⟩ = some (.slice A0 R.length k0) := (hp1.cell 0).trans rfl; have z1 := hp1.frozen 0)
  all_goals
    have hp2 : Pts (w1.setCell ⟨b, 0, none⟩ (.slice A1 nw.length c1)) b #[.slice A1 nw.length c1, .int .i64 a, .int .i64 S, .pointer (some ⟨k, 0, none⟩)] 77 := hp1.set 0 _
    have y1 : (w1.setCell ⟨b, 0, none⟩ (.slice A1 nw.length c1)).cell? ⟨b, 1, none⟩ = some (.int .i64 a) := by rw [hp2.cell]; rfl
    have y2 := hp2.frozen 1
    have hp3 : Pts ((w1.setCell ⟨b, 0, none⟩ (.slice A1 nw.length c1)).setCell ⟨b, 1, none⟩ (.int .i64 0)) b #[.slice A1 nw.length c1, .int .i64 0, .int .i64 S, .pointer (some ⟨k, 0, none⟩)] 77 := hp2.set 1 _
    have hnb : ∀ q, (Value.slice A1 nw.length c1).ownBlock = some q → q ≠ b := by
      rintro q hq rfl
      rcases hown1.form with ⟨e, _⟩ | ⟨g, cp, cur, e, _, hp, _⟩
      · rw [e] at hq; cases hq
      · rw [e] at hq
        injection hq with hq
        subst hq
        have e2 := hp.symm.trans hp1
        simp at e2
    have ho3 : OwnB ((w1.setCell ⟨b, 0, none⟩ (.slice A1 nw.length c1)).setCell ⟨b, 1, none⟩ (.int .i64 0)) 5 base (.slice A1 nw.length c1) nw := by
      have h := (hown1.other (p := ⟨b, 0, none⟩) (fun e => hnb _ e rfl) (.slice A1 nw.length c1)).other (p := ⟨b, 1, none⟩) (fun e => hnb _ e rfl) (.int .i64 0)
      simpa using h
    have hf3 : Frm (fun x => x = b ∨ (Value.slice A0 R.length k0).ownBlock = some x) w ((w1.setCell ⟨b, 0, none⟩ (.slice A1 nw.length c1)).setCell ⟨b, 1, none⟩ (.int .i64 0)) :=
      ((((Frm.refl _ w).drew).trans (hfrm1.mono (fun q _ hq => .inr (by cases A0 <;> exact hq)))).setCell (by left; rfl) _).setCell (by left; rfl) _
    have P3 := Lib.hid hp3
    have O3 := Lib.hid ho3
    have F3 := Lib.hid hf3
    have N3 := Lib.hid hnew1
    clear hp1 hp2 hp3 hnb ho3 hf3 hnew1 hown1 hfrm1 z0 z1 hr1
    go_wp2
    refine bodyPost_ret (results_none rfl _ _ _) rfl ?_
    refine ⟨_, rfl, ⟨P3.out, O3.out, by rw [← NL.out]; exact Nat.le_refl _, by omega, fun h => rfl⟩, F3.out, ?_⟩
    rcases N3.out with h | h
    · left; rw [h]; cases A0 <;> rfl
    · right; exact h
end Go.Proofs.YtffehfpbdcokbaaDoor
