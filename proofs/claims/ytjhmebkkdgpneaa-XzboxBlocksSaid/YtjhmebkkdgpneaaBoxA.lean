/- What a cursor gives up by, and who catches it. -/
import Derived.Test.YtjhmebkkdgpneaaSumsA
import Derived.Test.YtjhmebkkdgpneaaQTail
import Derived.Defers
import Derived.Recover
import Derived.WalkSmall
import Derived.Laws.Pointers
namespace Go.Proofs.Ytjhmebkkdgpneaa
open Go.RowKit
set_option linter.unusedVariables false
set_option linter.unusedSimpArgs false
theorem must_ok (c : Value) (e : Int) (w : World) : Calls Try.prog 23 #[c, .bool true, .int .i64 e] w fun r w' => r = .returned (.tuple #[]) ∧ w = w' := by
  go_enter Try.func23, Try.ntmps23
  go_wp2
  go_end0
  exact ⟨rfl, rfl⟩
theorem must_bad (c : Value) (e : Int) (w : World) : Calls Try.prog 23 #[c, .bool false, .int .i64 e] w fun r w' => r = .panicked [{ v := .iface 66 (.agg #[.int .i64 e]), recovered := false }] ∧ w = w' := by
  go_enter Try.func23, Try.ntmps23
  go_wp2
  exact ⟨rfl, rfl, rfl⟩
theorem assert_wrong (V : Value) (w : World) : (Instr.typeAssert (.iface 66 V) 20 66 true).run Try.prog w = .ok (.tuple #[V, .bool true]) w := rfl
theorem catch_panicking (b : Nat) (x x0 : Int) (older : List PanicEntry) (w : World) (hp : Pts w b #[.int .i64 x0] 23) :
    CallsD Try.prog 21 #[.pointer (some ⟨b, 0, none⟩)] (.panicking ({ v := .iface 66 (.agg #[.int .i64 x]), recovered := false } :: older)) w fun e u' w' =>
      e = .returned (.tuple #[]) ∧ u' = .panicking ({ v := .iface 66 (.agg #[.int .i64 x]), recovered := true } :: older) ∧ Pts w' b #[.int .i64 x] 23 ∧ Frm (· = b) w w' := by
  refine callsD_of_wpS Try.func21 rfl fun c₀ cs hu => ?_
  apply wpS_seq
  apply wpS_region
  simp [wpOpsS, go_sem, recoverD, hu, Try.ntmps21, Exit.thenS]
  refine wpS_of_wp ?_
  show Code.wp _ _ _ { tmps := #[.pointer (some ⟨b, 0, none⟩), undef, undef, undef, undef, .iface 66 (.agg #[.int .i64 x]), undef, undef, undef, undef, undef, undef, undef, undef, undef], defers := [] } w
  have hta := assert_wrong (.agg #[.int .i64 x])
  have hc := (hp.alloc (.cells #[.int .i64 x] 66)).cell 0
  have hz := (hp.alloc (.cells #[.int .i64 x] 66)).frozen 0
  have hr := (hp.alloc (.cells #[.int .i64 x] 66)).set 0 (.int .i64 x)
  have hf : Frm (· = b) w ((w.alloc (.cells #[.int .i64 x] 66)).setCell ⟨b, 0, none⟩ (.int .i64 x)) := ((Frm.refl _ w).alloc _).setCell (by rfl) _
  have HR := Lib.hid hr
  have HF := Lib.hid hf
  clear hr hf hp
  go_wp2
  refine ⟨rfl, _, rfl, _, results_none rfl _ _ _, rfl, rfl, HR.out, HF.out⟩
theorem catch_idle (v : Value) (w : World) : CallsD Try.prog 21 #[v] .returning w fun e u' w' => e = .returned (.tuple #[]) ∧ u' = .returning ∧ w' = w := by
  refine callsD_of_wpS Try.func21 rfl fun c₀ cs hu => ?_
  apply wpS_seq
  apply wpS_region
  simp [wpOpsS, go_sem, recoverD, hu, Try.ntmps21, Exit.thenS]
  refine wpS_of_wp ?_
  show Code.wp _ _ _ { tmps := #[v, undef, undef, undef, undef, .nilIface, undef, undef, undef, undef, undef, undef, undef, undef, undef], defers := [] } w
  go_wp2
  refine ⟨rfl, .returning, by cases c₀; simp at hu; subst hu; rfl, _, results_none rfl _ _ _, rfl, rfl, rfl⟩
theorem slice_fromX (A : Option Addr) (n c f : Nat) (hf : f ≤ n) (hn : n ≤ c) (w : World) :
    (Instr.sliceAt 22 (.slice A n c) (some (.int .i64 (f : Int))) none none).run Try.prog w = .ok (.slice (if c = f then A else A.map (·.add f)) (n - f) (c - f)) w := by
  by_cases hcf : c = f
  · simp [go_sem, hcf]
    intro h; omega
  · simp [go_sem, hcf]
    intro h; omega
theorem slice_toX (A : Option Addr) (n c m : Nat) (hf : m ≤ n) (hn : n ≤ c) (w : World) :
    (Instr.sliceAt 22 (.slice A n c) none (some (.int .i64 (m : Int))) none).run Try.prog w = .ok (.slice A m c) w := by
  by_cases hcf : c = 0
  · simp [go_sem, hcf]
    intro h; omega
  · simp [go_sem, hcf]
    intro h; omega
/-- A cursor at block cb: what it has still, how many bytes it took. -/
def CurAt (w : World) (cb B : Nat) (bs : List UInt8) (u : Nat) : Prop :=
  ∃ A c, Pts w cb #[.slice A bs.length c, .int .i64 (u : Int)] 49 ∧ BRow w B A bs ∧ bs.length ≤ c ∧ c ≤ maxLen ∧ B ≤ cb
theorem BRow.frm {S : Nat → Prop} {w w' : World} {B : Nat} {A : Option Addr} {bs : List UInt8} (h : BRow w B A bs) (hf : Frm S w w') (hB : B ≤ w.heap.size) (hS : ∀ k, S k → B ≤ k) : BRow w' B A bs := h.below (hf.below hB hS)
theorem CurAt.lt {w : World} {cb B u : Nat} {bs : List UInt8} (h : CurAt w cb B bs u) : cb < w.heap.size ∧ B ≤ cb := by
  obtain ⟨A, c, hp, _, _, _, h2⟩ := h
  exact ⟨hp.lt, h2⟩
theorem CurAt.frm {S : Nat → Prop} {w w' : World} {cb B u : Nat} {bs : List UInt8} (h : CurAt w cb B bs u) (hf : Frm S w w') (h1 : ¬ S cb) (hS : ∀ k, S k → B ≤ k) : CurAt w' cb B bs u := by
  have hl := h.lt
  obtain ⟨A, c, hp, hr, h3, h4, h5⟩ := h
  exact ⟨A, c, hp.frm hf h1, hr.frm hf (by omega) hS, h3, h4, h5⟩
set_option maxRecDepth 100000 in
theorem take_ok (cb B n u : Nat) (e : Int) (bs : List UInt8) (w : World) (h : CurAt w cb B bs u) (hn : n ≤ bs.length) (hu : u + n < 4611686018427387904) :
    Calls Try.prog 22 #[.pointer (some ⟨cb, 0, none⟩), .int .i64 (n : Int), .int .i64 e] w fun r w' => ∃ A c, r = .returned (.slice A n c) ∧ BRow w' B A (bs.take n) ∧ n ≤ c ∧ c ≤ maxLen ∧ CurAt w' cb B (bs.drop n) (u + n) ∧ Frm (· = cb) w w' := by
  have hl := h.lt
  obtain ⟨A, c, hp, hr, hc, hm, hB⟩ := h
  have hnc : n ≤ c := Nat.le_trans hn hc
  have hs1 := fun w => slice_toX A bs.length c n hn hc w
  have hs2 := fun w => slice_fromX A bs.length c n hn hc w
  obtain ⟨A', hA'⟩ : ∃ A', (if c = n then A else A.map (·.add n)) = A' := ⟨_, rfl⟩
  have hrd := hr.drop (k := n) (cap := c) hc
  rw [hA'] at hrd
  simp only [hA'] at hs2
  have hrt := hr.take n
  have hcm : c - n ≤ maxLen := by omega
  have c0 : w.cell? ⟨cb, 0, none⟩ = some (.slice A bs.length c) := hp.cell 0
  have z0 := hp.frozen 0
  have c1 : w.cell? ⟨cb, 1, none⟩ = some (.int .i64 (u : Int)) := hp.cell 1
  have z1 := hp.frozen 1
  have hp2 := (hp.set 0 (.slice A' (bs.length - n) (c - n))).set 1 (.int .i64 ((u : Int) + (n : Int)))
  have hf2 : Frm (· = cb) w ((w.setCell ⟨cb, 0, none⟩ (.slice A' (bs.length - n) (c - n))).setCell ⟨cb, 1, none⟩ (.int .i64 ((u : Int) + (n : Int)))) := ((Frm.refl _ w).setCell (by rfl) _).setCell (by rfl) _
  have HF2 := Lib.hid hf2
  have HP2 := Lib.hid hp2
  have HRD := Lib.hid hrd
  have HRT := Lib.hid hrt
  have hbn : (decide ((n : Int) ≤ (bs.length : Int))) = true := by simp; omega
  have hcn : bs.length - n ≤ c - n := by omega
  have HM := Lib.hid hm
  have HCM := Lib.hid hcm
  clear hf2 hp2 hrd hrt hp hr hA' hm hcm
  go_enter Try.func22, Try.ntmps22
  go_wp2_with fail
  refine (must_ok _ _ _).mono ?_; rintro r w1 ⟨rfl, rfl⟩
  go_wp2
  go_ret
  refine ⟨A, c, rfl, HRT.out.frm HF2.out (by omega) (fun k hk => by omega), hnc, HM.out, ⟨A', c - n, ?_, HRD.out.frm HF2.out (by omega) (fun k hk => by omega), by rw [List.length_drop]; omega, HCM.out, hB⟩, HF2.out⟩
  rw [List.length_drop]
  exact HP2.out
theorem take_bad (cb B n u : Nat) (e : Int) (bs : List UInt8) (w : World) (h : CurAt w cb B bs u) (hn : bs.length < n) :
    Calls Try.prog 22 #[.pointer (some ⟨cb, 0, none⟩), .int .i64 (n : Int), .int .i64 e] w fun r w' => r = .panicked [{ v := .iface 66 (.agg #[.int .i64 e]), recovered := false }] ∧ w = w' := by
  obtain ⟨A, c, hp, hr, hc, hm, hB⟩ := h
  have c0 : w.cell? ⟨cb, 0, none⟩ = some (.slice A bs.length c) := hp.cell 0
  have hbn : decide (n ≤ bs.length) = false := by simp; omega
  clear hp hr hm
  go_enter Try.func22, Try.ntmps22
  go_wp2_with fail
  refine (must_bad _ _ _).mono ?_; rintro r w1 ⟨rfl, rfl⟩
  go_wp2
  exact ⟨rfl, rfl, rfl⟩
end Go.Proofs.Ytjhmebkkdgpneaa
